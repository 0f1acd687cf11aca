/- Caps with several environments, none of which has extents or ports: Free, busy, Grant. -/
import Derived.Test.YtdmoohiepnbdaaaGreatEnGrant
import Derived.Test.YtdmoohiepnbdaaaGreatEnMade06
namespace Go.Proofs.YtdmoohiepnbdaaaGreat
open Go.RowKit
set_option linter.unusedVariables false
set_option linter.unusedSimpArgs false
structure Gz where
  gb : Nat
  mp : Int
  con : Bool
  pg : Int
namespace Cz
def cells (g : Gz) : Array Value := #[.int .u32 g.mp, .slice none 0 0, .slice none 0 0, .bool g.con, .int .u32 g.pg, .int .u32 0]
structure ok (g : Gz) : Prop where
  m0 : 0 ≤ g.mp
  m1 : g.mp ≤ 1024
  p0 : 0 ≤ g.pg
  p1 : g.pg ≤ 4096
def at' (gs : List Gz) (x : Int) : Option Gz := if 1 ≤ x then gs[x.toNat - 1]? else none
def sumL (f : Int → Bool) : Int → List Gz → Int
  | _, [] => 0
  | k, g :: gs => (if f k = true then 0 else g.mp + g.pg) + sumL f (k + 1) gs
def sumZ (gs : List Gz) : Int := sumL (fun _ => false) 1 gs
theorem sumL_all {f : Int → Bool} : ∀ (gs : List Gz) (k : Int), (∀ j : Nat, j < gs.length → f (k + j) = true) → sumL f k gs = 0
  | [], _, _ => rfl
  | g :: gs, k, h => by
    unfold sumL
    rw [if_pos (by have := h 0 (by simp); simpa using this), sumL_all gs (k + 1) fun j hj => by have := h (j + 1) (by simp; omega); rw [show k + 1 + (j : Int) = k + ((j + 1 : Nat) : Int) by omega]; exact this]
    rfl
theorem sumL_none {f : Int → Bool} : ∀ (gs : List Gz) (k : Int), (∀ x, f x = false) → sumL f k gs = sumL (fun _ => false) k gs
  | [], _, _ => rfl
  | g :: gs, k, h => by
    unfold sumL
    rw [h k, sumL_none gs (k + 1) h]
theorem sumL_bd {f : Int → Bool} : ∀ (gs : List Gz) (k : Int), (∀ g, g ∈ gs → ok g) → 0 ≤ sumL f k gs ∧ sumL f k gs ≤ sumL (fun _ => false) k gs
  | [], _, _ => ⟨Int.le_refl _, Int.le_refl _⟩
  | g :: gs, k, h => by
    have h1 := sumL_bd (f := f) gs (k + 1) fun g hg => h g (List.mem_cons_of_mem _ hg)
    have h2 := h g (List.mem_cons_self ..)
    have := h2.m0
    have := h2.p0
    unfold sumL
    split <;> simp <;> omega
theorem sumL_meet {f f' : Int → Bool} {x : Int} : ∀ (gs : List Gz) (k : Int) (g : Gz) (j : Nat), gs[j]? = some g → x = k + j → f x = true → f' x = false → (∀ y, y ≠ x → f' y = f y) → sumL f' k gs = sumL f k gs + (g.mp + g.pg)
  | [], _, _, _, h, _, _, _, _ => by simp at h
  | g0 :: gs, k, g, 0, h, hx, h1, h2, h3 => by
    obtain rfl : g0 = g := by simpa using h
    obtain rfl : x = k := by simpa using hx
    have hr : ∀ (l : List Gz) (i : Int), x < i → sumL f' i l = sumL f i l := fun l => by
      induction l with
      | nil => intro i _; rfl
      | cons a l ih =>
        intro i hi
        unfold sumL
        rw [h3 i (by omega), ih (i + 1) (by omega)]
    unfold sumL
    rw [h1, h2, hr gs (x + 1) (by omega)]
    simp
    omega
  | g0 :: gs, k, g, j + 1, h, hx, h1, h2, h3 => by
    have ih := sumL_meet gs (k + 1) g j (by simpa using h) (by omega) h1 h2 h3
    unfold sumL
    rw [ih, h3 k (by omega)]
    omega
end Cz
structure Cz (w : World) (cb mb : Nat) (hp : Int) (gs : List Gz) : Prop where
  head : ∃ o c, w.heap[cb]? = some (.cells #[.int .u32 hp, .slice o 0 c, .map (some mb)] 298 (0, 0))
  map : ∃ D n, w.ownsMap Tryz.prog 3 ptrElem mb n D ∧ (∀ x zd, D.atKey (.int .i64 x) zd = match Cz.at' gs x with | some g => .lit (.int .i64 g.gb) | none => zd) ∧ Maps.size D = gs.length
  gr : ∀ g, g ∈ gs → w.heap[g.gb]? = some (.cells (Cz.cells g) 304 (0, 0)) ∧ Cz.ok g
namespace Cz
variable {w w' : World} {cb mb : Nat} {hp : Int} {gs : List Gz}
theorem at_mem {x : Int} {g : Gz} (h : at' gs x = some g) : ∃ j : Nat, gs[j]? = some g ∧ x = 1 + j ∧ g ∈ gs := by
  unfold at' at h
  split at h
  · rename_i hx
    exact ⟨x.toNat - 1, h, by omega, List.mem_of_getElem? h⟩
  · cases h
def wf (cb mb : Nat) (gs : List Gz) (k : Nat) : Prop := k = cb ∨ k = mb ∨ ∃ g, g ∈ gs ∧ k = g.gb
theorem lt (h : Cz w cb mb hp gs) {k : Nat} (hk : wf cb mb gs k) : k < w.heap.size := by
  rcases hk with rfl | rfl | ⟨g, hg, rfl⟩
  · obtain ⟨o, c, hh⟩ := h.head; exact lt_of_block hh
  · obtain ⟨D, n, ho, _⟩ := h.map; exact ho.lt
  · exact lt_of_block (h.gr g hg).1
theorem mod {F : Nat → Prop} (h : Cz w cb mb hp gs) (hm : Mod F w w') (hF : ∀ k, wf cb mb gs k → ¬ F k) : Cz w' cb mb hp gs := by
  have hb : ∀ k, wf cb mb gs k → w'.heap[k]? = w.heap[k]? := fun k hk => hm.block k (h.lt hk) (hF k hk)
  obtain ⟨o, c, hh⟩ := h.head
  obtain ⟨D, n, ho, hv⟩ := h.map
  exact ⟨⟨o, c, (hb cb (.inl rfl)).trans hh⟩, ⟨D, n, own_of_block ho (hb mb (.inr (.inl rfl))), hv⟩, fun g hg => ⟨(hb g.gb (.inr (.inr ⟨g, hg, rfl⟩))).trans (h.gr g hg).1, (h.gr g hg).2⟩⟩
theorem below (h : Cz w cb mb hp gs) (hb : Below w.heap.size w w') : Cz w' cb mb hp gs := h.mod (Mod.of_below hb (fun _ => False)) fun _ _ q => q
theorem hcells (h : Cz w cb mb hp gs) : ∃ o c, w.cell? ⟨cb, 0, none⟩ = some (.int .u32 hp) ∧ w.cell? ⟨cb, 1, none⟩ = some (.slice o 0 c) ∧ w.cell? ⟨cb, 2, none⟩ = some (.map (some mb)) := by
  obtain ⟨o, c, hh⟩ := h.head
  refine ⟨o, c, ?_, ?_, ?_⟩ <;> (unfold World.cell?; rw [hh]; rfl)
theorem gr_cellsZ {w : World} {g : Gz} (h : w.heap[g.gb]? = some (.cells (cells g) 304 (0, 0))) : w.cell? ⟨g.gb, 0, none⟩ = some (.int .u32 g.mp) ∧ w.cell? ⟨g.gb, 1, none⟩ = some (.slice none 0 0) ∧ w.cell? ⟨g.gb, 2, none⟩ = some (.slice none 0 0) ∧ w.cell? ⟨g.gb, 3, none⟩ = some (.bool g.con) ∧ w.cell? ⟨g.gb, 4, none⟩ = some (.int .u32 g.pg) ∧ w.cell? ⟨g.gb, 5, none⟩ = some (.int .u32 0) ∧ ∀ i, w.frozen? ⟨g.gb, i, none⟩ = false := by
  refine ⟨?_, ?_, ?_, ?_, ?_, ?_, fun i => ?_⟩
  · unfold World.cell?; rw [h]; rfl
  · unfold World.cell?; rw [h]; rfl
  · unfold World.cell?; rw [h]; rfl
  · unfold World.cell?; rw [h]; rfl
  · unfold World.cell?; rw [h]; rfl
  · unfold World.cell?; rw [h]; rfl
  · unfold World.frozen?; rw [h]; simp
theorem entry {D : DataW Unit} (hv : ∀ x zd, D.atKey (.int .i64 x) zd = match at' gs x with | some g => .lit (.int .i64 g.gb) | none => zd) {x : Int} {y : DataW Unit} (hat : ∀ zd, D.atKey (.int .i64 x) zd = y) : ∃ g, at' gs x = some g ∧ y = .lit (.int .i64 g.gb) := by
  cases h : at' gs x with
  | some g =>
    refine ⟨g, rfl, ?_⟩
    rw [← hat y, hv, h]
  | none =>
    have g1 := hat (.lit (.int .i64 0))
    have g2 := hat (.lit (.int .i64 1))
    rw [hv, h] at g1 g2
    rw [← g1] at g2
    simp at g2
def frRel (w : World) (mb : Nat) (hp : Int) (gs : List Gz) (D : DataW Unit) (n r : Nat) (vn : Value) (wr : World) : Prop :=
  ∃ left cnt, wr.ranges Tryz.prog 3 ptrElem mb r n D left cnt ∧ Below w.heap.size w wr ∧ vn = .int .u32 (hp - sumL (fun x => left (.int .i64 x)) 1 gs) ∧ w.heap.size ≤ r
set_option maxRecDepth 100000 in
set_option maxHeartbeats 4000000 in
theorem free (h : Cz w cb mb hp gs) (h0 : sumZ gs ≤ hp) (h1 : hp ≤ 4096) : Calls Tryz.prog 120 #[.pointer (some ⟨cb, 0, none⟩)] w fun e w' => e = .returned (.int .u32 (hp - sumZ gs)) ∧ Below w.heap.size w w' := by
  have K := Maps.int_keyed (P := Tryz.prog) Tryz.underlying3
  obtain ⟨D, n, ho, hv, hs⟩ := h.map
  have Hv := Lib.hid hv
  have H := Lib.hid h
  have Ho := Lib.hid ho
  obtain ⟨o, c, c0, c1, c2⟩ := h.hcells
  have HOk := Lib.hid fun g hg => (h.gr g hg).2
  have HBd := Lib.hid fun f => sumL_bd (f := f) gs 1 HOk.out
  clear h hv hs ho
  go_enter Tryz.func120, Tryz.ntmps120
  go_wp2_with (at_range; refine wpList_range_own _ rfl _ 296 rfl 3 295 K Tryz.underlying296 ptrElem mb n D rfl Ho.out ?_; intro w2 hrg hg2 hz2)
  have h2 : frRel w mb hp gs D n w.heap.size (.int .u32 hp) w2 := by
    refine ⟨_, _, hrg, (Below.refl _ _).grown hg2 (Nat.le_refl _) (fun k e => by cases e), ?_, Nat.le_refl _⟩
    rw [sumL_all gs 1 fun j hj => by
      have : at' gs (1 + j) = some gs[j] := by unfold at'; rw [if_pos (by omega), show (1 + (j : Int)).toNat - 1 = j by omega]; exact List.getElem?_eq_getElem hj
      exact Maps.has_true_of_atKey (y := .lit (.int .i64 gs[j].gb)) fun zd => by rw [Hv.out, this]]
    rw [Int.sub_zero]
  have H2 := Lib.hid h2
  obtain ⟨r, hr⟩ : ∃ r, w.heap.size = r := ⟨_, rfl⟩
  rw [show frRel w mb hp gs D n w.heap.size = frRel w mb hp gs D n r by rw [hr]] at H2
  rw [hr]
  clear hr hrg hg2 hz2 h2
  go_frame
  go_loopw [3, 5] (fun vn _ wr => frRel w mb hp gs D n r vn wr) (fun _ _ wr => wr.rangeLeft mb r)
  case atStart => exact H2.out
  case round =>
    clear H2 c0 c1 c2
    obtain ⟨left, cnt, hrg, hbw, rfl, hr3⟩ := hrel
    have Hrg := Lib.hid hrg
    have Hbw := Lib.hid hbw
    have Hr3 := Lib.hid hr3
    clear hrg hbw hr3
    go_wp2_with (at_next; refine wpList_next_ranges _ rfl _ rfl 3 K ptrElem (Value.int .i64) id (fun key kl hk => by obtain ⟨x, hx, _⟩ := Maps.keyOf_int_inv Tryz.underlying3 hk; exact ⟨x, hx⟩) (fun v _ _ => ⟨v, rfl⟩) mb r n D left cnt rfl Hrg.out ?_ ?_)
    · intro hc0 hl0
      have HV : Hid (sumL (fun x => left (.int .i64 x)) 1 gs = sumZ gs) := Lib.hid (sumL_none gs 1 fun x => by rw [hl0])
      go_wp2
      go_ret
      exact ⟨by rw [HV.out]; rfl, Hbw.out⟩
    · intro x c kl y1 y2 w3 cnt2 hkey hlk hR hat3 hrg3 hlt hg3 hs3 hen
      obtain ⟨x', ex, rfl, hwx⟩ := Maps.keyOf_int_inv Tryz.underlying3 hkey
      obtain rfl : x = x' := by simpa using ex
      obtain ⟨g, hg, rfl⟩ := entry Hv.out hat3
      obtain ⟨j, hj, hxj, hmem⟩ := at_mem hg
      obtain rfl : c = .pointer (some ⟨g.gb, 0, none⟩) := by
        rcases ptrElem_inv hR with ⟨_, hb⟩ | ⟨b, e, hb⟩
        · omega
        · have : b = g.gb := by omega
          subst this
          exact e
      have hw3b : Below w.heap.size w w3 := Hbw.out.grown hg3 Hbw.out.size (fun k e => by cases e; exact Hr3.out)
      have hC3 := H.out.below hw3b
      obtain ⟨g0, g1, g2, g3, g4, g5, _⟩ := gr_cellsZ (hC3.gr g hmem).1
      have hok := HOk.out g hmem
      have m0 := hok.m0
      have m1 := hok.m1
      have p0 := hok.p0
      have p1 := hok.p1
      have HS : Hid (sumL (fun x => left (.int .i64 x) && !(Lit.int .i64 x).sameKey (.int .i64 (1 + j))) 1 gs = sumL (fun x => left (.int .i64 x)) 1 gs + (g.mp + g.pg)) := Lib.hid (sumL_meet (x := x) gs 1 g j hj hxj (by exact hlk) (by subst hxj; simp [Lit.sameKey]) fun y hy => by
        have : (Lit.int .i64 y).sameKey (.int .i64 (1 + j)) = false := by simp [Lit.sameKey]; omega
        simp [this])
      have HBd2 := Lib.hid (HBd.out fun x => left (.int .i64 x) && !(Lit.int .i64 x).sameKey (.int .i64 (1 + j)))
      rw [HS.out] at HBd2
      have HBd1 := Lib.hid (HBd.out fun x => left (.int .i64 x))
      obtain ⟨s, hs⟩ : ∃ s, sumL (fun x => left (.int .i64 x)) 1 gs = s := ⟨_, rfl⟩
      rw [hs] at HS HBd1 HBd2 ⊢
      have s0 := HBd1.out.1
      have s1 : s + (g.mp + g.pg) ≤ sumZ gs := HBd2.out.2
      have wr0 : IntKind.u32.wrap (g.mp + g.pg) = g.mp + g.pg := wrap32 (by omega) (by omega)
      have wr1 : IntKind.u32.wrap (hp - s - (g.mp + g.pg)) = hp - s - (g.mp + g.pg) := wrap32 (by omega) (by omega)
      have fin : frRel w mb hp gs D n r (.int .u32 (hp - s - (g.mp + g.pg))) w3 := ⟨_, cnt2, hrg3, hw3b, by
        subst hxj
        rw [HS.out, Int.sub_sub], Hr3.out⟩
      have Fin := Lib.hid fin
      have fin2 : frRel w mb hp gs D n r (.int .u32 (hp - s - (g.mp + g.pg))) w3.drew := by
        obtain ⟨l, c, q1, q2, q3, q4⟩ := fin
        exact ⟨l, c, q1, q2.drew, q3, q4⟩
      have Fin2 := Lib.hid fin2
      have hml : w3.rangeLeft mb r < cnt := by rw [hrg3.left_eq]; exact hlt
      have hml0 := Hrg.out.left_eq
      have HMl : Hid (w3.rangeLeft mb r < wr.rangeLeft mb r) := Lib.hid (by rw [hml0]; exact hml)
      clear fin fin2 hkey hlk hR hat3 hrg3 hlt hg3 hs3 hw3b hC3 hg hj hml hml0 ex hwx hs HS s1
      go_wp2
      go_region
      all_goals
        go_wp2
        exact ⟨by first | exact Fin.out | exact Fin2.out, HMl.out⟩
def man (mp : Int) (cn : Bool) : Value := .agg #[.int .u32 mp, .slice none 0 0, .slice none 0 0, .bool cn]
def manA (mp : Int) (cn : Bool) : Array Value := #[.int .u32 mp, .slice none 0 0, .slice none 0 0, .bool cn]
section
variable {mp pg : Int} {cn : Bool}
def ret0 (w : World) (e : Ending) (w' : World) : Prop := e = .returned (.int .i64 0) ∧ Below w.heap.size w w'
theorem none0 (w : World) (p : Value) : Calls Tryz.prog 221 #[p, (man mp cn)] w (ret0 w) := by
  unfold man
  have HFin := Lib.hid fun V (h : Below w.heap.size w V) => (show ret0 w (.returned (.int .i64 0)) V from ⟨rfl, h⟩)
  generalize ret0 w = PQ at *
  have HB := Lib.hid ((Below.refl w.heap.size w).alloc (Nat.le_refl _) (.cells (manA mp cn) 45))
  unfold manA at HB
  go_enter Tryz.func221, Tryz.ntmps221
  go_wp2
  refine wp_loop_rounds 1 ?_
  rw [rounds_succ]
  go_wp2
  exact HFin.out _ HB.out
theorem long0 (w : World) (p : Value) : Calls Tryz.prog 222 #[p, (man mp cn)] w (ret0 w) := by
  unfold man
  have HFin := Lib.hid fun V (h : Below w.heap.size w V) => (show ret0 w (.returned (.int .i64 0)) V from ⟨rfl, h⟩)
  generalize ret0 w = PQ at *
  have HB := Lib.hid ((Below.refl w.heap.size w).alloc (Nat.le_refl _) (.cells (manA mp cn) 45))
  unfold manA at HB
  go_enter Tryz.func222, Tryz.ntmps222
  go_wp2
  refine wp_loop_rounds 1 ?_
  rw [rounds_succ]
  go_wp2
  exact HFin.out _ HB.out
theorem apart (h : Cz w cb mb hp gs) : cb ≠ mb ∧ ∀ g, g ∈ gs → g.gb ≠ mb := by
  obtain ⟨o, c, hh⟩ := h.head
  obtain ⟨D, n, ⟨es, clock, hb, _⟩, _⟩ := h.map
  refine ⟨fun e => ?_, fun g hg e => ?_⟩
  · rw [← e, hh] at hb
    cases hb
  · have := (h.gr g hg).1
    rw [e, hb] at this
    cases this
theorem insert (h : Cz w cb mb hp gs) {g : Gz} (hblk : w.heap[g.gb]? = some (.cells (cells g) 304 (0, 0))) (hok : ok g) (h1 : g.gb ≠ mb) (hl : gs.length ≤ 100) :
    ∃ w', (Instr.mapUpdate 296 (.map (some mb)) (.int .i64 (gs.length + 1)) (.pointer (some ⟨g.gb, 0, none⟩))).run Tryz.prog w = .ok () w' ∧ Cz w' cb mb hp (gs ++ [g]) ∧ Mod (fun k => k = mb) w w' := by
  obtain ⟨h4, hn⟩ := h.apart
  obtain ⟨D, n, ho, hv, hs⟩ := h.map
  have ht := own_tight ho
  have K := Maps.int_keyed (P := Tryz.prog) Tryz.underlying3
  have hk := Maps.keyOf_int_mk (P := Tryz.prog) Tryz.underlying3 (a := (gs.length + 1 : Int)) (by simp only [Lit.wf, Bool.and_eq_true, decide_eq_true_eq, show IntKind.i64.min = -9223372036854775808 from rfl, show IntKind.i64.max = 9223372036854775807 from rfl]; omega)
  obtain ⟨w', hrun, how, htu⟩ := ht.store K Tryz.underlying296 (by rw [hs]; unfold maxLen; omega) (val := .pointer (some ⟨g.gb, 0, none⟩)) (d := .lit (.int .i64 g.gb)) (ps := []) hk rfl
  have hg := htu.grown
  have hne : ∀ k, k < w.heap.size → k ≠ mb → w'.heap[k]? = w.heap[k]? := fun k hk hkm => hg.block k hk (by simpa using hkm)
  have hmod : Mod (fun k => k = mb) w w' := ⟨hg.os, hg.tape, hg.output, hg.size, fun k hk hkm => hne k hk hkm⟩
  obtain ⟨o, c, hh⟩ := h.head
  refine ⟨w', hrun, ⟨⟨o, c, (hne cb (h.lt (.inl rfl)) h4).trans hh⟩, ⟨_, _, how, fun x zd => ?_, ?_⟩, fun G hG => ?_⟩, hmod⟩
  · by_cases e : x = gs.length + 1
    · subst e
      rw [Maps.atKey_put_same ht.isMap (K.key hk)]
      unfold at'
      rw [if_pos (by omega), show ((gs.length : Int) + 1).toNat - 1 = gs.length by omega, List.getElem?_append_right (by omega)]
      simp
    · rw [Maps.atKey_put_other (by intro g; simp at g; exact e g), hv]
      unfold at'
      by_cases q : 1 ≤ x
      · rw [if_pos q, if_pos q]
        by_cases r : x.toNat - 1 < gs.length
        · rw [List.getElem?_append_left r]
        · rw [List.getElem?_eq_none (by omega), List.getElem?_eq_none (by simp; omega)]
      · rw [if_neg q, if_neg q]
  · rw [Maps.size_put (ht.tidy K), hs]
    have : Maps.has D (.int .i64 (gs.length + 1)) = false := Maps.has_false_of_atKey fun z => by
      rw [hv]
      unfold at'
      rw [if_pos (by omega), List.getElem?_eq_none (by omega)]
    rw [this]
    simp
  · rcases List.mem_append.1 hG with hG | hG
    · exact ⟨(hne G.gb (h.lt (.inr (.inr ⟨G, hG, rfl⟩))) (hn G hG)).trans (h.gr G hG).1, (h.gr G hG).2⟩
    · simp at hG
      subst hG
      exact ⟨(hne G.gb (lt_of_block hblk) h1).trans hblk, hok⟩
set_option maxRecDepth 100000 in
set_option maxHeartbeats 4000000 in
theorem full (h : Cz w cb mb hp gs) (m0 : 0 ≤ mp) (m1 : mp ≤ 1024) (p0 : 0 ≤ pg) (p1 : pg ≤ 4096) (h0 : sumZ gs + (mp + pg) ≤ hp) (h1 : hp ≤ 4096) {pb : Nat} (hpb : w.heap[pb]? = some (.cells #[.int .u32 pg] 41 (0, 0))) :
    Calls Tryz.prog 160 #[.pointer (some ⟨cb, 0, none⟩), (man mp cn), .pointer (some ⟨pb, 0, none⟩)] w (ret0 w) := by
  have HFin := Lib.hid fun V (h : Below w.heap.size w V) => (show ret0 w (.returned (.int .i64 0)) V from ⟨rfl, h⟩)
  generalize ret0 w = PQ at *
  have hb : Below w.heap.size w (w.alloc (.cells (manA mp cn) 45)) := (Below.refl _ _).alloc (Nat.le_refl _) _
  have hblk := heap_alloc_new w (.cells (manA mp cn) 45)
  have c0 : (w.alloc (.cells (manA mp cn) 45)).cell? ⟨w.heap.size, 0, none⟩ = some (.int .u32 mp) := by unfold World.cell?; rw [hblk]; rfl
  have hpc : (w.alloc (.cells (manA mp cn) 45)).cell? ⟨pb, 0, none⟩ = some (.int .u32 pg) := by
    unfold World.cell?
    rw [Below.heap_alloc _ _ _ (lt_of_block hpb), hpb]
    rfl
  have HF := Lib.hid fun V (hV : Below (w.alloc (.cells (manA mp cn) 45)).heap.size (w.alloc (.cells (manA mp cn) 45)) V) => free (h.below (below_th hb hV)) (by omega) h1
  have HB := Lib.hid hb
  have hd : decide (mp + pg > hp - sumZ gs) = false := decide_eq_false (by omega)
  have w1 : IntKind.u32.wrap (mp + pg) = mp + pg := wrap32 (by omega) (by omega)
  unfold manA at *
  unfold man
  clear hb hblk h h0 h1
  go_enter Tryz.func160, Tryz.ntmps160
  go_wp2
  go_region_held3 (fun w' => w'.cell? ⟨w.heap.size, 0, none⟩ = some (.int .u32 mp) ∧ w'.cell? ⟨pb, 0, none⟩ = some (.int .u32 pg))
    (first | exact ⟨c0, hpc⟩ | exact ⟨cell_below hx1 c0, cell_below hx1 hpc⟩)
    (first
      | (go_at_call 120
         refine (HF.out _ (by first | exact Below.refl _ _ | exact (Below.refl _ _).drew)).mono ?_
         rintro e x1 ⟨rfl, hx1⟩
         have hb1 : Below w.heap.size w x1 := by first | exact below_th HB.out hx1 | exact below_th HB.out.drew hx1))
  all_goals
    go_wp2
    exact HFin.out _ (by first | exact hb1 | exact hb1.drew)
theorem idx0 (w : World) (f : Value) : Calls Tryz.prog 312 #[.slice none 0 0, f] w fun e w' => e = .returned (.int .i64 (-1)) ∧ w = w' := by
  go_enter Tryz.func312, Tryz.ntmps312
  go_wp2
  refine wp_loop_rounds 1 ?_
  rw [rounds_succ]
  go_wp2
  go_ret
  exact ⟨rfl, rfl⟩
theorem con0 (w : World) (f : Value) : Calls Tryz.prog 269 #[.slice none 0 0, f] w fun e w' => e = .returned (.bool false) ∧ w = w' := by
  go_enter Tryz.func269, Tryz.ntmps269
  go_wp2_with fail
  refine (idx0 _ _).mono ?_
  rintro e w1 ⟨rfl, rfl⟩
  go_wp2
  go_ret
  exact ⟨rfl, rfl⟩
def buRel (mp : Int) (cn : Bool) (w : World) (mb : Nat) (D : DataW Unit) (n r : Nat) (wr : World) : Prop :=
  ∃ left cnt, wr.ranges Tryz.prog 3 ptrElem mb r n D left cnt ∧ Below w.heap.size w wr ∧ w.heap.size < r ∧ wr.heap[w.heap.size]? = some (.cells (manA mp cn) 45 (0, 0))
theorem man_at {w : World} {b : Nat} (h : w.heap[b]? = some (.cells (manA mp cn) 45 (0, 0))) : w.cell? ⟨b, 0, none⟩ = some (.int .u32 mp) ∧ w.cell? ⟨b, 1, none⟩ = some (.slice none 0 0) ∧ w.cell? ⟨b, 2, none⟩ = some (.slice none 0 0) ∧ w.cell? ⟨b, 3, none⟩ = some (.bool cn) ∧ ∀ j, w.frozen? ⟨b, j, none⟩ = false := by
  refine ⟨?_, ?_, ?_, ?_, fun j => ?_⟩
  · unfold World.cell?; rw [h]; rfl
  · unfold World.cell?; rw [h]; rfl
  · unfold World.cell?; rw [h]; rfl
  · unfold World.cell?; rw [h]; rfl
  · unfold World.frozen?; rw [h]; simp
set_option maxRecDepth 100000 in
set_option maxHeartbeats 4000000 in
theorem busy0 (h : Cz w cb mb hp gs) : Calls Tryz.prog 223 #[.pointer (some ⟨cb, 0, none⟩), (man mp cn)] w (ret0 w) := by
  unfold man
  have HFin := Lib.hid fun V (h : Below w.heap.size w V) => (show ret0 w (.returned (.int .i64 0)) V from ⟨rfl, h⟩)
  generalize ret0 w = PQ at *
  have K := Maps.int_keyed (P := Tryz.prog) Tryz.underlying3
  have hb : Below w.heap.size w (w.alloc (.cells (manA mp cn) 45)) := (Below.refl _ _).alloc (Nat.le_refl _) _
  have h1 := h.below hb
  obtain ⟨D, n, ho, hv, hs⟩ := h1.map
  have Hv := Lib.hid hv
  have Ho := Lib.hid ho
  have HB := Lib.hid hb
  have HM := Lib.hid (heap_alloc_new w (.cells (manA mp cn) 45))
  obtain ⟨o, c, c0, c1, c2⟩ := h1.hcells
  unfold manA at *
  clear h h1 hv hs ho hb
  go_enter Tryz.func223, Tryz.ntmps223
  go_wp2_with (at_range; refine wpList_range_own _ rfl _ 296 rfl 3 295 K Tryz.underlying296 ptrElem mb n D rfl Ho.out ?_; intro w2 hrg hg2 hz2)
  obtain ⟨r, hr⟩ : ∃ r, (w.alloc (.cells #[.int .u32 mp, .slice none 0 0, .slice none 0 0, .bool cn] 45)).heap.size = r := ⟨_, rfl⟩
  have hr2 : w.heap.size + 1 = r := by simpa using hr
  have hk2 := (hg2.block w.heap.size (lt_of_block HM.out) (by simp)).trans HM.out
  rw [hr] at hrg ⊢
  have H2 : Hid (buRel mp cn w mb D n r w2) := Lib.hid ⟨_, _, hrg, HB.out.grown hg2 HB.out.size (fun k e => by cases e), by omega, hk2⟩
  clear hr hr2 hrg hg2 hz2 hk2
  go_frame
  go_loopw [6, 8, 9, 10] (fun _ _ _ _ wr => buRel mp cn w mb D n r wr) (fun _ _ _ _ wr => wr.rangeLeft mb r)
  case atStart => exact H2.out
  case round =>
    clear H2 c0 c1 c2
    obtain ⟨left, cnt, hrg, hbw, hr3, hmk⟩ := hrel
    have Hrg := Lib.hid hrg
    have Hbw := Lib.hid hbw
    have Hr3 := Lib.hid hr3
    have Hmk := Lib.hid hmk
    clear hrg hbw hr3 hmk
    go_wp2_with (at_next; refine wpList_next_ranges _ rfl _ rfl 3 K ptrElem (Value.int .i64) id (fun key kl hk => by obtain ⟨x, hx, _⟩ := Maps.keyOf_int_inv Tryz.underlying3 hk; exact ⟨x, hx⟩) (fun v _ _ => ⟨v, rfl⟩) mb r n D left cnt rfl Hrg.out ?_ ?_)
    · intro hc0 hl0
      go_wp2
      exact HFin.out _ Hbw.out
    · intro x c kl y1 y2 w3 cnt2 hkey hlk hR hat3 hrg3 hlt hg3 hs3 hen
      obtain ⟨x', ex, rfl, hwx⟩ := Maps.keyOf_int_inv Tryz.underlying3 hkey
      obtain rfl : x = x' := by simpa using ex
      obtain ⟨g, hg, rfl⟩ := entry Hv.out hat3
      obtain rfl : c = .pointer (some ⟨g.gb, 0, none⟩) := by
        rcases ptrElem_inv hR with ⟨_, hb⟩ | ⟨b, e, hb⟩
        · omega
        · have : b = g.gb := by omega
          subst this
          exact e
      have hw3b : Below w.heap.size w w3 := Hbw.out.grown hg3 Hbw.out.size (fun k e => by cases e; have := Hr3.out; omega)
      have hmk3 : w3.heap[w.heap.size]? = some (.cells (manA mp cn) 45 (0, 0)) := (hg3.block _ (lt_of_block Hmk.out) (by have := Hr3.out; simp; omega)).trans Hmk.out
      have hal := hw3b.alloc hw3b.size (.cells #[.pointer (some ⟨g.gb, 0, none⟩)] 295)
      have hmk4 : (w3.alloc (.cells #[.pointer (some ⟨g.gb, 0, none⟩)] 295)).heap[w.heap.size]? = some (.cells (manA mp cn) 45 (0, 0)) := (Below.heap_alloc _ _ _ (lt_of_block hmk3)).trans hmk3
      obtain ⟨m0, m1, m2, m3, mf⟩ := man_at hmk4
      have hml : w3.rangeLeft mb r < cnt := by rw [hrg3.left_eq]; exact hlt
      have hml0 := Hrg.out.left_eq
      have fin : buRel mp cn w mb D n r (w3.alloc (.cells #[.pointer (some ⟨g.gb, 0, none⟩)] 295)) := ⟨_, _, hrg3.alloc _, hal, Hr3.out, hmk4⟩
      have Fin := Lib.hid fin
      have hmz : (w3.alloc (.cells #[.pointer (some ⟨g.gb, 0, none⟩)] 295)).rangeLeft mb r < wr.rangeLeft mb r := by rw [(hrg3.alloc _).left_eq, hml0]; exact hlt
      have HMl := Lib.hid hmz
      clear ex hwx hg fin hmz hkey hlk hR hat3 hrg3 hlt hg3 hs3 hw3b hmk3 hal hmk4 hml hml0
      go_wp2_with fail
      refine (con0 _ _).mono ?_
      rintro e w5 ⟨rfl, rfl⟩
      go_wp2
      refine wp_loop_rounds 1 ?_
      rw [rounds_succ]
      go_wp2
      exact ⟨Fin.out, HMl.out⟩
theorem look_new (h : Cz w cb mb hp gs) {n : Int} (hn : n = gs.length + 1) (n8 : n ≤ 8) : (Instr.lookup 296 (.map (some mb)) (.int .i64 n) false).run Tryz.prog w = .ok (.pointer none) w := by
  obtain ⟨D, m, ho, hv, _⟩ := h.map
  obtain ⟨v, ps, hrun, hR⟩ := ho.lookup (Maps.int_keyed Tryz.underlying3) Tryz.underlying296 (zeroGr w) (z := .pointer none) (zd := .lit (.int .i64 (-1))) (zp := []) rfl (Maps.keyOf_int_mk (a := n) Tryz.underlying3 (by simp only [Lit.wf, Bool.and_eq_true, decide_eq_true_eq, show IntKind.i64.min = -9223372036854775808 from rfl, show IntKind.i64.max = 9223372036854775807 from rfl]; omega))
  rw [hrun]
  have : at' gs n = none := by
    unfold at'
    rw [if_pos (by omega), List.getElem?_eq_none (by omega)]
  rw [hv, this] at hR
  rcases ptrElem_inv hR with ⟨rfl, _⟩ | ⟨b, _, hb⟩
  · rfl
  · omega
theorem nil_ext (w : World) : Calls Tryz.prog 162 #[.slice none 0 0] w fun e w' => e = .returned (.slice none 0 0) ∧ w = w' := by
  have hq := fun W => Lib.run_eql_slice_nil (P := Tryz.prog) W _ _ none 0 0 0 0 Tryz.underlying42
  go_enter Tryz.func162, Tryz.ntmps162
  go_wp2
  go_ret
  exact ⟨rfl, rfl⟩
theorem nil_u16 (w : World) : Calls Tryz.prog 163 #[.slice none 0 0] w fun e w' => e = .returned (.slice none 0 0) ∧ w = w' := by
  have hq := fun W => Lib.run_eql_slice_nil (P := Tryz.prog) W _ _ none 0 0 0 0 Tryz.underlying43
  go_enter Tryz.func163, Tryz.ntmps163
  go_wp2
  go_ret
  exact ⟨rfl, rfl⟩
def mz (mp : Int) (cn : Bool) : Mn := ⟨mp, [], [], cn⟩
theorem check0 (w : World) (m0 : 0 ≤ mp) (m1 : mp ≤ 1024) : Calls Tryz.prog 159 #[(man mp cn)] w (ret0 w) := by
  have h := Dm.check (w := w) (m := mz mp cn) (ev := .slice none 0 0) (pv := .slice none 0 0) ⟨SlV.nil _ _ _, SlV.nil _ _ _⟩
  have e : Gp.checkE (mz mp cn) = 0 := by
    unfold Gp.checkE Gp.mayM mz
    simp [Gp.risesB, m1]
  rw [e] at h
  exact h
def GrantP (mp pg : Int) (cn : Bool) (w : World) (cb mb : Nat) (hp : Int) (gs : List Gz) (e : Ending) (w' : World) : Prop :=
  ∃ gb, e = .returned (.int .i64 0) ∧ Cz w' cb mb hp (gs ++ [⟨gb, mp, cn, pg⟩]) ∧ Mod (fun k => k = mb) w w' ∧ w.heap.size ≤ gb ∧ gb < w'.heap.size
set_option maxRecDepth 100000 in
set_option maxHeartbeats 8000000 in
theorem grant (h : Cz w cb mb hp gs) (m0 : 0 ≤ mp) (m1 : mp ≤ 1024) (p0 : 0 ≤ pg) (p1 : pg ≤ 4096) {n : Int} (hn : n = gs.length + 1) (n8 : n ≤ 8) (h0 : sumZ gs + (mp + pg) ≤ hp) (h1 : hp ≤ 4096) :
    Calls Tryz.prog 78 #[.pointer (some ⟨cb, 0, none⟩), .int .i64 n, (man mp cn), .int .u32 pg] w (GrantP mp pg cn w cb mb hp gs) := by
  have HFin := Lib.hid fun V gb (h1 : Cz V cb mb hp (gs ++ [⟨gb, mp, cn, pg⟩])) (h2 : Mod (fun k => k = mb) w V) (h3 : w.heap.size ≤ gb) (h4 : gb < V.heap.size) => (show GrantP mp pg cn w cb mb hp gs (.returned (.int .i64 0)) V from ⟨gb, rfl, h1, h2, h3, h4⟩)
  generalize GrantP mp pg cn w cb mb hp gs = PQ at *
  obtain ⟨hcm, _⟩ := h.apart
  have hl : gs.length ≤ 100 := by omega
  have n1 : ¬ n < 1 := by omega
  have n8' : ¬ n > 8 := by omega
  have hb0 : Below w.heap.size w (w.alloc (.cells (manA mp cn) 45)) := (Below.refl _ _).alloc (Nat.le_refl _) _
  have hb1 := hb0.alloc hb0.size (.cells #[.int .u32 pg] 41)
  have hk0 : ((w.alloc (.cells (manA mp cn) 45)).alloc (.cells #[.int .u32 pg] 41)).heap[w.heap.size]? = some (.cells (manA mp cn) 45 (0, 0)) := (Below.heap_alloc _ _ _ (lt_of_block (heap_alloc_new w _))).trans (heap_alloc_new w _)
  have hk1 := heap_alloc_new (w.alloc (.cells (manA mp cn) 45)) (.cells #[.int .u32 pg] 41)
  rw [show (w.alloc (.cells (manA mp cn) 45)).heap.size = w.heap.size + 1 by simp] at hk1
  have HB1 := Lib.hid hb1
  have HC := Lib.hid fun V (hV : Below w.heap.size w V) => h.below hV
  have HBk : Hid (∀ V, Below ((w.alloc (.cells (manA mp cn) 45)).alloc (.cells #[.int .u32 pg] 41)).heap.size ((w.alloc (.cells (manA mp cn) 45)).alloc (.cells #[.int .u32 pg] 41)) V → V.heap[w.heap.size]? = some (.cells (manA mp cn) 45 (0, 0)) ∧ V.heap[w.heap.size + 1]? = some (.cells #[.int .u32 pg] 41 (0, 0))) := Lib.hid fun V hV => ⟨(hV.block _ (lt_of_block hk0)).trans hk0, (hV.block _ (lt_of_block hk1)).trans hk1⟩
  have HAll := Lib.hid fun (V : World) (hV : Below w.heap.size w V) (hpb : V.heap[w.heap.size + 1]? = some (.cells #[.int .u32 pg] 41 (0, 0))) => Ca.all (w := V) (a := ⟨cb, mb, .slice none 0 0, cb, .slice none 0 0, .slice none 0 0⟩) (m := mz mp cn) (ev := .slice none 0 0) (pv := .slice none 0 0) (pb := w.heap.size + 1) 0 0 0 0
    (fun U hU => none0 U _) (fun U hU => long0 U _) (fun U hU => busy0 (h.below (below_th hV hU))) (fun U hU => full (h.below (below_th hV hU)) m0 m1 p0 p1 h0 h1 ((hU.block _ (lt_of_block hpb)).trans hpb))
  obtain ⟨c0, c1, c2, c3, cf⟩ := man_at hk0
  have c4 : ((w.alloc (.cells (manA mp cn) 45)).alloc (.cells #[.int .u32 pg] 41)).cell? ⟨w.heap.size + 1, 0, none⟩ = some (.int .u32 pg) := by unfold World.cell?; rw [hk1]; rfl
  have HCm := Lib.hid hcm
  have HN := Lib.hid hn
  have HL := Lib.hid hl
  have HZ := Lib.hid (lt_of_block hk1)
  unfold man
  unfold manA at *
  clear hb0 hb1 hk0 hk1 h hcm hn hl h0 h1
  go_enter Tryz.func78, Tryz.ntmps78
  go_wp2_with fail
  refine (check0 _ m0 m1).mono ?_
  rintro e w2 ⟨rfl, hb2⟩
  obtain ⟨q0, q1⟩ := HBk.out _ hb2
  have HB2 := Lib.hid (below_th HB1.out hb2)
  have HG2 := Lib.hid hb2
  have HK2 := Lib.hid (And.intro q0 q1)
  clear c0 c1 c2 c3 cf hb2 c4
  obtain ⟨c0, c1, c2, c3, cf⟩ := man_at q0
  have c4 : w2.cell? ⟨w.heap.size + 1, 0, none⟩ = some (.int .u32 pg) := by unfold World.cell?; rw [q1]; rfl
  clear q0 q1
  obtain ⟨o, c, x0, x1, x2⟩ := (HC.out w2 HB2.out).hcells
  have hlk := (HC.out w2 HB2.out).look_new HN.out n8
  go_wp2_with fail
  refine (HAll.out _ HB2.out HK2.out.2).mono ?_
  rintro e w3 ⟨rfl, hb3⟩
  have HG3 := Lib.hid (below_th HG2.out hb3)
  have HB3 := Lib.hid (below_th HB2.out hb3)
  clear hb3 c0 c1 c2 c3 cf c4 x0 x1 x2 hlk
  have hfe : (firstE [0, 0, 0, 0] != 0) = false := rfl
  clear HG2 HK2 HB2 HAll HB1
  go_upto_region 11 with (fail)
  have hk3 := HBk.out _ HG3.out
  obtain ⟨d0, d1, d2, d3, df⟩ := man_at hk3.1
  have HS1 := Lib.hid (setCell_same (i := 1) (v := .slice none 0 0) hk3.1 rfl)
  have HS2 := Lib.hid (setCell_same (i := 2) (v := .slice none 0 0) hk3.1 rfl)
  refine B (fun W => W.cell? ⟨w.heap.size, 1, none⟩ = some (.slice none 0 0) ∧ W.cell? ⟨w.heap.size, 2, none⟩ = some (.slice none 0 0)) ⟨d1, d2⟩ fun wd hwd hS => ?_
  have HWd := Lib.hid hwd
  have hm1 := HBk.out wd (by rw [hwd]; exact HG3.out.drew)
  have hbd : Below w.heap.size w wd := by rw [hwd]; exact HB3.out.drew
  have hZ1 : w.heap.size + 1 < wd.heap.size := lt_of_block hm1.2
  clear hwd d0 d1 d2 d3 df hk3
  refine T 0 hS ?_
  refine T 3 hS ?_
  refine T 4 hS ?_
  have d1' := hS.1
  refine U 1 fun K hK => ?_
  go_simp
  refine V hK hS ?_; clear hK K
  refine U 2 fun K hK => ?_
  go_simp
  go_at_call 162
  refine (nil_ext _).mono ?_
  rintro e w5 ⟨rfl, rfl⟩
  refine V hK hS ?_; clear hK K
  refine T 6 hS ?_
  refine U 5 fun K hK => ?_
  go_simp
  go_at_call 163
  refine (nil_u16 _).mono ?_
  rintro e w5 ⟨rfl, rfl⟩
  refine V hK hS ?_; clear hK K
  have HS1 := Lib.hid (setCell_same (i := 1) (v := .slice none 0 0) hm1.1 rfl)
  have HS2 := Lib.hid (setCell_same (i := 2) (v := .slice none 0 0) hm1.1 rfl)
  obtain ⟨d0, d1, d2, d3, df⟩ := man_at hm1.1
  refine U 7 fun K hK => ?_
  go_simp
  rw [HS1.out]
  refine V hK hS ?_; clear hK K
  refine T 8 hS ?_
  refine U 9 fun K hK => ?_
  go_simp
  rw [HS2.out]
  refine V hK hS ?_; clear hK K
  refine wpAnyH_done (by kernel_rfl) ?_ _
  clear HS1 HS2 d0 d1 d2 d3 df hS
  go_upto_region 12 with (fail)
  have hb4 := hbd.drew
  have HM4 := Lib.hid (fun (V : World) (hV : Below wd.heap.size wd V) => (show (V.cell? ⟨w.heap.size, 0, none⟩ = some (.int .u32 mp) ∧ V.cell? ⟨w.heap.size, 1, none⟩ = some (.slice none 0 0) ∧ V.cell? ⟨w.heap.size, 2, none⟩ = some (.slice none 0 0) ∧ V.cell? ⟨w.heap.size, 3, none⟩ = some (.bool cn) ∧ V.cell? ⟨w.heap.size + 1, 0, none⟩ = some (.int .u32 pg) ∧ V.cell? ⟨cb, 2, none⟩ = some (.map (some mb))) from by
    have k0 := (hV.block _ (lt_of_block hm1.1)).trans hm1.1
    have k1 := (hV.block _ (lt_of_block hm1.2)).trans hm1.2
    obtain ⟨g0, g1, g2, g3, _⟩ := man_at k0
    obtain ⟨o, c, _, _, x2⟩ := (HC.out V (below_th hbd hV)).hcells
    refine ⟨g0, g1, g2, g3, ?_, x2⟩
    unfold World.cell?; rw [k1]; rfl))
  have hb5 := (Below.refl wd.heap.size wd).drew
  have hb6 := hb5.alloc hb5.size (.cells #[.int .u32 mp, .slice none 0 0, .slice none 0 0, .bool cn, .int .u32 pg, .int .u32 0] 304)
  have hmb := (HC.out wd hbd).lt (k := mb) (.inr (.inl rfl))
  obtain ⟨w8, hrun, hc8, hm8⟩ := insert (g := ⟨wd.drew.heap.size, mp, cn, pg⟩) (HC.out _ (below_th hbd hb6)) (heap_alloc_new wd.drew _) ⟨m0, m1, p0, p1⟩ (by show wd.heap.size ≠ mb; omega) HL.out
  have hz8 := hm8.size
  have hz7 : (wd.drew.alloc (.cells #[.int .u32 mp, .slice none 0 0, .slice none 0 0, .bool cn, .int .u32 pg, .int .u32 0] 304)).heap.size = wd.heap.size + 1 := by simp
  have hend := HFin.out w8 _ hc8 ((Mod.of_below (below_th hbd hb6) _).trans hm8 fun _ _ g => .inl g) hbd.size (by show wd.heap.size < _; omega)
  rw [← HN.out] at hrun
  have hrun : (Instr.mapUpdate 296 (.map (some mb)) (.int .i64 n) (.pointer (some ⟨wd.heap.size, 0, none⟩))).run Tryz.prog ((wd.alloc (.cells #[.int .u32 mp, .slice none 0 0, .slice none 0 0, .bool cn, .int .u32 pg, .int .u32 0] 304)).drew) = .ok () w8 := hrun
  have hwm : w.heap.size ≠ mb ∧ w.heap.size + 1 ≠ mb ∧ cb ≠ mb := by
    have := (HC.out w (Below.refl _ _)).lt (k := mb) (.inr (.inl rfl))
    exact ⟨by omega, by omega, HCm.out⟩
  have HS8 : Hid (w8.cell? ⟨w.heap.size, 0, none⟩ = some (.int .u32 mp) ∧ w8.cell? ⟨w.heap.size, 1, none⟩ = some (.slice none 0 0) ∧ w8.cell? ⟨w.heap.size, 2, none⟩ = some (.slice none 0 0) ∧ w8.cell? ⟨w.heap.size, 3, none⟩ = some (.bool cn) ∧ w8.cell? ⟨w.heap.size + 1, 0, none⟩ = some (.int .u32 pg) ∧ w8.cell? ⟨cb, 2, none⟩ = some (.map (some mb))) := Lib.hid (by
    have hs7 := HM4.out _ hb6
    have hcl := (HC.out w (Below.refl _ _)).lt (k := cb) (.inl rfl)
    have hle := hbd.size
    have key : ∀ (b i : Nat), b < wd.heap.size + 1 → b ≠ mb → w8.cell? ⟨b, i, none⟩ = (wd.drew.alloc (.cells #[.int .u32 mp, .slice none 0 0, .slice none 0 0, .bool cn, .int .u32 pg, .int .u32 0] 304)).cell? ⟨b, i, none⟩ := fun b i hb hne => World.cell?_of_block (hm8.block b (by rw [hz7]; exact hb) hne)
    rw [key _ _ (by omega) hwm.1, key _ _ (by omega) hwm.1, key _ _ (by omega) hwm.1, key _ _ (by omega) hwm.1, key _ _ (by omega) hwm.2.1, key _ _ (by omega) hwm.2.2]
    exact hs7)
  have HR := Lib.hid hrun
  have HE := Lib.hid hend
  have HS7 := Lib.hid (HM4.out _ hb6)
  have hS5 := HM4.out _ hb5
  clear hb4 hb5 hb6 hmb hrun hc8 hm8 hz8 hz7 hend hwm hm1 hbd hZ1
  refine B (fun V => V.cell? ⟨w.heap.size, 0, none⟩ = some (.int .u32 mp) ∧ V.cell? ⟨w.heap.size, 1, none⟩ = some (.slice none 0 0) ∧ V.cell? ⟨w.heap.size, 2, none⟩ = some (.slice none 0 0) ∧ V.cell? ⟨w.heap.size, 3, none⟩ = some (.bool cn) ∧ V.cell? ⟨w.heap.size + 1, 0, none⟩ = some (.int .u32 pg) ∧ V.cell? ⟨cb, 2, none⟩ = some (.map (some mb))) hS5 fun we hwe hS => ?_
  have HWe := Lib.hid hwe
  clear hwe hS5
  refine T 0 hS ?_
  refine T 1 hS ?_
  refine T 2 hS ?_
  refine T 3 hS ?_
  refine T 4 hS ?_
  refine T 5 hS ?_
  refine T 6 hS ?_
  refine T 7 hS ?_
  refine U 8 fun K hK => ?_
  go_simp
  have hwe := HWe.out
  subst hwe
  refine V hK HS7.out ?_; clear hK K
  refine U 9 fun K hK => ?_
  have hrun := HR.out
  go_simp
  refine V hK HS8.out ?_; clear hK K
  refine wpAnyH_done (by kernel_rfl) ?_ _
  clear hrun
  go_wp2
  exact HE.out
end
end Cz
end Go.Proofs.YtdmoohiepnbdaaaGreat
