/- ExoX, SchZ, SchQ, SchR in one text. -/
import Derived.Test.YthgddpgifdhnjaaGreatSnMade06
import Derived.Test.YthgddpgifdhnjaaGreatSnCapZ
import Derived.Test.YthgddpgifdhnjaaGreatSnKnew
import Derived.Test.YthgddpgifdhnjaaGreatSnSchW
namespace Go.Proofs.YthgddpgifdhnjaaGreat
open Go.RowKit
set_option linter.unusedVariables false
set_option linter.unusedSimpArgs false
def KerC (w : World) (kb cb : Nat) : Prop := ∃ c : Array Value, w.heap[kb]? = some (.cells c 318 (0, 0)) ∧ c[2]? = some (.pointer (some ⟨cb, 0, none⟩))
theorem KerC.cell {w : World} {kb cb : Nat} (h : KerC w kb cb) : w.cell? ⟨kb, 2, none⟩ = some (.pointer (some ⟨cb, 0, none⟩)) := by
  obtain ⟨c, h1, h2⟩ := h
  unfold World.cell?; rw [h1]; exact h2
theorem KerC.mod {F : Nat → Prop} {w w' : World} {kb cb : Nat} (h : KerC w kb cb) (hm : Mod F w w') (hF : ¬ F kb) : KerC w' kb cb := by
  obtain ⟨c, h1, h2⟩ := h
  exact ⟨c, (hm.block _ (lt_of_block h1) hF).trans h1, h2⟩
theorem KerC.lt {w : World} {kb cb : Nat} (h : KerC w kb cb) : kb < w.heap.size := by
  obtain ⟨c, h1, _⟩ := h
  exact lt_of_block h1
theorem KerC.caps {w : World} {kb cb : Nat} (h : KerC w kb cb) : Calls Tryz.prog 92 #[.pointer (some ⟨kb, 0, none⟩)] w fun e w' => e = .returned (.pointer (some ⟨cb, 0, none⟩)) ∧ w = w' := by
  have c0 := h.cell
  clear h
  go_enter Tryz.func92, Tryz.ntmps92
  go_wp2
  go_ret
  exact ⟨rfl, rfl⟩
namespace Ex
def S0 : Nat → Slt := fun _ => ⟨false, 0, none⟩
def NewP (w : World) (hp : Int) (e : Ending) (w' : World) : Prop :=
  ∃ (xb : Nat) (a : KAt), e = .returned (.tuple #[.pointer (some ⟨xb, 0, none⟩), .int .i64 0]) ∧ Ex w' xb a.kb S0 (.slice none 0 0) ∧ Knl w' a (Kn.new hp []) ∧ a.tag xb = 0 ∧ (∀ k, a.tag k ≠ 0 → w.heap.size ≤ k) ∧ w.heap.size ≤ xb ∧ Below w.heap.size w w'
set_option maxRecDepth 100000 in
set_option maxHeartbeats 4000000 in
theorem new (w : World) {hp : Int} (p0 : 0 ≤ hp) (p1 : hp ≤ 4096) : Calls Tryz.prog 42 #[.agg #[.int .u32 hp, .slice none 0 0]] w (NewP w hp) := by
  have HFin := Lib.hid fun V xb a (h1 : Ex V xb a.kb S0 (.slice none 0 0)) (h2 : Knl V a (Kn.new hp [])) (h3 : a.tag xb = 0) (h4 : ∀ k, a.tag k ≠ 0 → w.heap.size ≤ k) (h5 : w.heap.size ≤ xb) (h6 : Below w.heap.size w V) => (show NewP w hp (.returned (.tuple #[.pointer (some ⟨xb, 0, none⟩), .int .i64 0])) V from ⟨xb, a, rfl, h1, h2, h3, h4, h5, h6⟩)
  generalize NewP w hp = PQ at *
  have hb : Below w.heap.size w (w.alloc (.cells #[.int .u32 hp, .slice none 0 0] 80)) := (Below.refl _ _).alloc (Nat.le_refl _) _
  have HB := Lib.hid hb
  have HN := Lib.hid (Kl.new (w := w.alloc (.cells #[.int .u32 hp, .slice none 0 0] 80)) (a := none) (cap := 0) (hp := hp) (xs := []) ⟨fun i hi => absurd hi (by simp), by simp⟩ (fun x hx => by simp at hx) p0 (by unfold Ca.hardOk; simp; exact p1))
  clear hb p0 p1
  go_enter Tryz.func42, Tryz.ntmps42
  go_wp2_with fail
  refine HN.out.mono ?_
  rintro e w2 ⟨a, rfl, hk, ht, hb2⟩
  have HK := Lib.hid hk
  have HT := Lib.hid ht
  have HB2 := Lib.hid (below_th HB.out hb2)
  clear hk ht hb2
  go_wp2
  have hal : Below w2.heap.size w2 (w2.alloc (.cells (cells a.kb S0 (.slice none 0 0)) 222)) := (Below.refl _ _).alloc (Nat.le_refl _) _
  have hend := HFin.out _ w2.heap.size a ⟨heap_alloc_new w2 _⟩ (HK.out.below hal) (by
    by_cases q : a.tag w2.heap.size = 0
    · exact q
    · exact absurd (HK.out.lt _ q) (Nat.lt_irrefl _)) (fun k hk => Nat.le_trans (by simp) (HT.out k hk)) HB2.out.size (HB2.out.alloc HB2.out.size _)
  exact hend
section
variable {w w' : World} {xb kb : Nat} {S : Nat → Slt} {tv : Value}
theorem cellM {F : Nat → Prop} {w w' : World} (hm : Mod F w w') {b i : Nat} {v : Value} (h : w.cell? ⟨b, i, none⟩ = some v) (hF : ¬ F b) : w'.cell? ⟨b, i, none⟩ = some v := by
  have hl : b < w.heap.size := by
    unfold World.cell? at h
    cases hg : w.heap[b]? with
    | none => rw [hg] at h; cases h
    | some _ => exact lt_of_block hg
  exact (World.cell?_of_block (w := w) (hm.block _ hl hF)).trans h
theorem set (h : Ex w xb kb S tv) (i : Nat) (s : Slt) (hi : i < 9) : Ex (((w.setCell ⟨xb, 1 + i * 3, none⟩ (.bool s.is)).setCell ⟨xb, 1 + i * 3 + 1, none⟩ (.int .i64 s.pg)).setCell ⟨xb, 1 + i * 3 + 2, none⟩ (.pointer (s.env.map fun b => ⟨b, 0, none⟩))) xb kb (upd S i s) tv := by
  refine ⟨?_⟩
  rw [← cells_set kb S tv i s hi]
  exact heap_setCell_same _ _ _ _ _ _ (heap_setCell_same _ _ _ _ _ _ (heap_setCell_same _ _ _ _ _ _ h.blk))
theorem setEnv (h : Ex w xb kb S tv) (i b : Nat) (hi : i < 9) : Ex (w.setCell ⟨xb, 1 + i * 3 + 2, none⟩ (.pointer (some ⟨b, 0, none⟩))) xb kb (upd S i { S i with env := some b }) tv := by
  refine ⟨?_⟩
  rw [← cells_env kb S tv i b hi]
  exact heap_setCell_same _ _ _ _ _ _ h.blk
def AdmitP (w : World) (xb kb cb mb n : Nat) (S : Nat → Slt) (tv : Value) (hp : Int) (gs : List Gz) (e : Ending) (w' : World) : Prop :=
  e = .returned (.tuple #[.int .i64 n, .int .i64 0]) ∧ ∃ gb, Ex w' xb kb (upd S n ⟨true, 1, none⟩) tv ∧ Cz w' cb mb hp (gs ++ [⟨gb, 0, false, 1⟩]) ∧ Mod (fun k => k = mb ∨ k = xb) w w' ∧ w.heap.size ≤ gb ∧ gb < w'.heap.size
set_option maxRecDepth 100000 in
set_option maxHeartbeats 4000000 in
theorem admit {cb mb n : Nat} {hp : Int} {gs : List Gz} (h : Ex w xb kb S tv) (hk : KerC w kb cb) (hc : Cz w cb mb hp gs) (hn : n = gs.length + 1) (n8 : n ≤ 8) (h1 : ∀ i, 1 ≤ i → i < n → (S i).is = true) (h2 : (S n).is = false) (hs : Cz.sumZ gs + 1 ≤ hp) (hp1 : hp ≤ 4096) (hx : xb ≠ mb) (hxw : ¬ Cz.wf cb mb gs xb) (hkm : kb ≠ mb) :
    Calls Tryz.prog 37 #[.pointer (some ⟨xb, 0, none⟩), Cz.man0, .int .i64 1] w (AdmitP w xb kb cb mb n S tv hp gs) := by
  have HFin := Lib.hid fun V (h1 : ∃ gb, Ex V xb kb (upd S n ⟨true, 1, none⟩) tv ∧ Cz V cb mb hp (gs ++ [⟨gb, 0, false, 1⟩]) ∧ Mod (fun k => k = mb ∨ k = xb) w V ∧ w.heap.size ≤ gb ∧ gb < V.heap.size) => (show AdmitP w xb kb cb mb n S tv hp gs (.returned (.tuple #[.int .i64 n, .int .i64 0])) V from ⟨rfl, h1⟩)
  generalize AdmitP w xb kb cb mb n S tv hp gs = PQ at *
  have hA := (Below.refl w.heap.size w).alloc (Nat.le_refl _) (.cells Cz.manA 66)
  have hx1 := h.below hA
  have HM := Lib.hid (heap_alloc_new w (.cells Cz.manA 66))
  have HX := Lib.hid hx1
  have HC := Lib.hid fun V (hV : Below w.heap.size w V) => hc.below hV
  have HKc := Lib.hid fun V (hV : Below w.heap.size w V) => hk.mod (Mod.of_below hV fun _ => False) id
  have HA := Lib.hid hA
  have HN := Lib.hid hn
  have H1 := Lib.hid h1
  have H2 := Lib.hid h2
  have HS := Lib.hid hs
  have HP := Lib.hid hp1
  have HXm := Lib.hid hx
  have HXw := Lib.hid hxw
  have HMl := Lib.hid (hc.lt (k := mb) (.inr (.inl rfl)))
  have HXl := Lib.hid (lt_of_block h.blk)
  clear h hk hc hn h1 h2 hs hp1 hx hxw hx1 hA
  unfold Cz.man0
  unfold Cz.manA at *
  go_enter Tryz.func37, Tryz.ntmps37
  go_wp2
  go_loop [8] (fun v => ∃ k : Nat, 1 ≤ k ∧ k ≤ n ∧ v = .int .i64 k) (fun v => n - (intOf v).toNat)
  case atStart => exact ⟨1, by omega, by have := HN.out; omega, rfl⟩
  case round =>
    obtain ⟨k, k1, k2, rfl⟩ := hrel
    obtain ⟨c0, _, _, _⟩ := HX.out.at' k (by omega)
    have k9 : (k : Int) < 9 := by omega
    by_cases hkn : k < n
    · rw [H1.out k k1 hkn] at c0
      go_wp2
      go_round
      case rel => exact ⟨k + 1, by omega, by omega, by go_num⟩
      case measure => simp [intOf]; omega
    · obtain rfl : k = n := by omega
      rw [H2.out] at c0
      have k9' : ((k : Int) == 9) = false := by simp; omega
      go_wp2
      clear c0 k9 k1 k2 hkn
      have hM := HM.out
      generalize w.alloc (.cells #[.int .u32 0, .slice none 0 0, .slice none 0 0, .bool false] 66) = W0 at *
      obtain ⟨d0, d1, d2, d3, df⟩ := Cz.man_at hM
      have d4 := HX.out.ker
      have HD := Lib.hid (And.intro d4 (And.intro d0 (And.intro d1 (And.intro d2 d3))))
      have hkc := HKc.out W0.drew HA.out.drew
      have HCp := Lib.hid hkc.caps
      have HGr := Lib.hid (Cz.grant (HC.out W0.drew HA.out.drew) (n := (k : Int)) (by have := HN.out; omega) (by omega) HS.out HP.out)
      clear hM d0 d1 d2 d3 df d4 hkc
      refine B (fun V => V.cell? ⟨xb, 0, none⟩ = some (.pointer (some ⟨kb, 0, none⟩)) ∧ V.cell? ⟨w.heap.size, 0, none⟩ = some (.int .u32 0) ∧ V.cell? ⟨w.heap.size, 1, none⟩ = some (.slice none 0 0) ∧ V.cell? ⟨w.heap.size, 2, none⟩ = some (.slice none 0 0) ∧ V.cell? ⟨w.heap.size, 3, none⟩ = some (.bool false)) HD.out fun wd hwd hS => ?_
      have HWd := Lib.hid hwd
      rw [← hwd] at HCp HGr
      clear hwd
      refine T 0 hS ?_
      refine T 1 hS ?_
      refine T 2 hS ?_
      refine T 3 hS ?_
      refine T 5 hS ?_
      refine T 6 hS ?_
      refine T 7 hS ?_
      refine T 8 hS ?_
      refine U 4 fun K hK => ?_
      go_simp
      go_at_call 92
      refine HCp.out.mono ?_
      rintro e w5 ⟨rfl, rfl⟩
      refine V hK hS ?_; clear hK K
      refine U 9 fun K hK => ?_
      go_simp
      go_at_call 96
      refine HGr.out.mono ?_
      rintro e w8 ⟨gb, rfl, hc8, hm8, hg1, hg2⟩
      have hbd : Below w.heap.size w wd := by rw [HWd.out]; exact HA.out.drew
      have hmm : Mod (fun k => k = mb) w w8 := (Mod.of_below hbd _).trans hm8 fun _ _ g => .inl g
      have hx8 := (HX.out.below (Below.refl _ _).drew)
      rw [← HWd.out] at hx8
      have hwm : w.heap.size ≠ mb := by have := HMl.out; omega
      have hS8 := And.intro (cellM hm8 hS.1 (show ¬ xb = mb from HXm.out)) (And.intro (cellM hm8 hS.2.1 hwm) (And.intro (cellM hm8 hS.2.2.1 hwm) (And.intro (cellM hm8 hS.2.2.2.1 hwm) (cellM hm8 hS.2.2.2.2 hwm))))
      have HX8 := Lib.hid (hx8.mod hm8 (show ¬ xb = mb from HXm.out))
      have H8 := Lib.hid (And.intro hc8 (And.intro hmm (And.intro (Nat.le_trans hbd.size hg1) hg2)))
      have hg1' := Nat.le_trans hbd.size hg1
      clear hbd hmm hx8 hc8 hm8 hg1 hg2 hwm HCp HGr
      refine V hK hS8 ?_; clear hK K
      refine T 10 hS8 ?_
      refine wpAnyH_done (by kernel_rfl) ?_ _
      obtain ⟨e0, e1, e2, ef⟩ := HX8.out.at' k (by omega)
      have f0 := ef (1 + k * 3)
      have f1 := ef (1 + k * 3 + 1)
      have f2 := ef (1 + k * 3 + 2)
      have k9 : (k : Int) < 9 := by omega
      clear ef hS hS8
      go_wp2
      have hset : Ex (((w8.setCell ⟨xb, 1 + k * 3, none⟩ (.bool true)).setCell ⟨xb, 1 + k * 3 + 1, none⟩ (.int .i64 1)).setCell ⟨xb, 1 + k * 3 + 2, none⟩ (.pointer none)) xb kb (upd S k ⟨true, 1, none⟩) tv := HX8.out.set k ⟨true, 1, none⟩ (by omega)
      have hm9 : Mod (fun i => i = xb) w8 (((w8.setCell ⟨xb, 1 + k * 3, none⟩ (.bool true)).setCell ⟨xb, 1 + k * 3 + 1, none⟩ (.int .i64 1)).setCell ⟨xb, 1 + k * 3 + 2, none⟩ (.pointer none)) := Mod.setCell (F := fun i => i = xb) (Mod.setCell (F := fun i => i = xb) (Mod.setCell (F := fun i => i = xb) (Mod.refl _ _) ⟨xb, 1 + k * 3, none⟩ (.inl rfl) _) ⟨xb, 1 + k * 3 + 1, none⟩ (.inl rfl) _) ⟨xb, 1 + k * 3 + 2, none⟩ (.inl rfl) _
      have hz9 := hm9.size
      have hend := HFin.out _ ⟨gb, hset, H8.out.1.mod hm9 fun i hi e => by
        subst e
        rcases hi with g | g | ⟨g, hg, e⟩
        · exact HXw.out (.inl g)
        · exact HXm.out g
        · rcases List.mem_append.1 hg with q | q
          · exact HXw.out (.inr (.inr ⟨g, q, e⟩))
          · simp at q
            subst q
            have := HXl.out
            simp at e
            omega, (H8.out.2.1.mono (G := fun k => k = mb ∨ k = xb) fun _ _ g => .inl g).trans hm9 fun _ _ g => .inl (.inr g), H8.out.2.2.1, by have := H8.out.2.2.2; omega⟩
      exact hend
theorem pages_shape {w : World} {base n : Nat} {v : Value} {cs : List Value} (h : w.ownsRow base 62 1 v n cs) : ∃ a c, v = .slice a n c := by
  rcases h.2 with ⟨rfl, h0⟩ | ⟨g, cap, cur, rfl, _⟩
  · exact ⟨none, 0, by rw [h0]⟩
  · exact ⟨_, _, rfl⟩
set_option maxRecDepth 100000 in
set_option maxHeartbeats 4000000 in
theorem many {sb mb : Nat} {A : List Pg} (h : Ex w xb kb S tv) (n : Nat) (n8 : n ≤ 8) (hsp : Spc w sb mb A) (hl : (A.length : Int) ≤ (S n).pg) : Calls Tryz.prog 130 #[.pointer (some ⟨xb, 0, none⟩), .int .i64 n, .pointer (some ⟨sb, 0, none⟩)] w fun e w' => e = .returned (.bool false) ∧ Below w.heap.size w w' := by
  obtain ⟨c0, c1, c2, cf⟩ := h.at' n (by omega)
  have hd := (Below.refl w.heap.size w).drew
  have HP := Lib.hid (Pag.pages (hsp.below hd fun k hk => hsp.lt hk))
  have HD := Lib.hid hd
  have HC := Lib.hid c1
  have hgt : decide ((A.length : Int) > (S n).pg) = false := decide_eq_false (by omega)
  have n9 : (n : Int) < 9 := by omega
  clear h hsp hl cf c0 c1 c2 hd
  go_enter Tryz.func130, Tryz.ntmps130
  go_wp2_with fail
  refine B (fun V => V.cell? ⟨xb, 1 + n * 3 + 1, none⟩ = some (.int .i64 (S n).pg)) HC.out fun wd hwd hS => ?_
  have HWd := Lib.hid hwd
  rw [← hwd] at HP HD
  clear hwd
  refine T 0 hS ?_
  refine T 3 hS ?_
  refine T 4 hS ?_
  refine T 5 hS ?_
  refine T 6 hS ?_
  refine T 7 hS ?_
  refine T 8 hS ?_
  refine T 9 hS ?_
  refine U 1 fun K hK => ?_
  go_simp
  go_at_call 105
  refine HP.out.mono ?_
  rintro e w5 ⟨v, rfl, hv, hb⟩
  obtain ⟨a, c, rfl⟩ := pages_shape hv
  have hS5 := keep hS hb
  have HB := Lib.hid (below_th HD.out hb)
  clear hv hb
  refine V hK hS5 ?_; clear hK K
  refine T 2 hS5 ?_
  refine T 10 hS5 ?_
  refine wpAnyH_done (by kernel_rfl) ?_ _
  go_wp2
  go_ret
  exact ⟨rfl, HB.out⟩
def StartP (w : World) (xb kb : Nat) (S : Nat → Slt) (tv : Value) (n : Nat) (pc : Int) (A : List Pg) (e : Ending) (w' : World) : Prop :=
  ∃ a C, e = .returned (.int .i64 0) ∧ Ex w' xb kb (upd S n { S n with env := some a.eb }) tv ∧ Env w' a (En.new n pc C) ∧ cores C = cores A ∧ (∀ k, a.foot C k → w.heap.size ≤ k) ∧ Mod (fun k => k = xb) w w'
set_option maxRecDepth 100000 in
set_option maxHeartbeats 4000000 in
theorem start {sb mb : Nat} {A : List Pg} (h : Ex w xb kb S tv) (n : Nat) (n1 : 1 ≤ n) (n8 : n ≤ 8) (hs : (S n).is = true) (hv : (S n).env = none) (hsp : Spc w sb mb A) (hl : (A.length : Int) ≤ (S n).pg) (pc : Int) (p0 : 0 ≤ pc) (p1 : pc ≤ 4294967295) :
    Calls Tryz.prog 43 #[.pointer (some ⟨xb, 0, none⟩), .int .i64 n, .pointer (some ⟨sb, 0, none⟩), .int .u32 pc] w (StartP w xb kb S tv n pc A) := by
  have HFin := Lib.hid fun V (h : ∃ a C, Ex V xb kb (upd S n { S n with env := some a.eb }) tv ∧ Env V a (En.new n pc C) ∧ cores C = cores A ∧ (∀ k, a.foot C k → w.heap.size ≤ k) ∧ Mod (fun k => k = xb) w V) => (show StartP w xb kb S tv n pc A (.returned (.int .i64 0)) V from by obtain ⟨a, C, h⟩ := h; exact ⟨a, C, rfl, h⟩)
  generalize StartP w xb kb S tv n pc A = PQ at *
  obtain ⟨c0, c1, c2, cf⟩ := h.at' n (by omega)
  rw [hv] at c2
  have HX := Lib.hid h
  have HHas := Lib.hid (h.has n n1 n8)
  rw [hs] at HHas
  have HMany := Lib.hid (h.many n n8 hsp hl)
  have HNew := Lib.hid fun V (hV : Below w.heap.size w V) => Ev.new (hsp.below hV fun k hk => hsp.lt hk) (n : Int) pc (by omega) (by omega) p0 p1
  have HXl := Lib.hid (lt_of_block h.blk)
  have n9 : (n : Int) < 9 := by omega
  clear h hs hv hsp hl cf c0 c1 p0 p1
  go_enter Tryz.func43, Tryz.ntmps43
  go_wp2_with fail
  refine HHas.out.mono ?_
  rintro e w1 ⟨rfl, rfl⟩
  go_wp2_with fail
  refine HMany.out.mono ?_
  rintro e w2 ⟨rfl, hb2⟩
  have HB2 := Lib.hid hb2
  clear hb2 c2
  go_wp2_with fail
  refine (HNew.out _ HB2.out).mono ?_
  rintro e w3 ⟨a, C, rfl, hen, hco, hf, hb3⟩
  have HE := Lib.hid (And.intro hen (And.intro hco hf))
  have HB3 := Lib.hid (below_th HB2.out hb3)
  clear hen hco hf hb3
  obtain ⟨c0, c1, c2, cf⟩ := (HX.out.below HB3.out).at' n (by omega)
  have cf := cf (1 + n * 3 + 2)
  go_wp2
  have hm : Mod (fun i => i = xb) w3 (w3.setCell ⟨xb, 1 + n * 3 + 2, none⟩ (.pointer (some ⟨a.eb, 0, none⟩))) := Mod.setCell (F := fun i => i = xb) (Mod.refl _ _) ⟨xb, 1 + n * 3 + 2, none⟩ (.inl rfl) _
  have hxl := HXl.out
  have hz2 := HB2.out.size
  have hend := HFin.out _ ⟨a, C, (HX.out.below HB3.out).setEnv n a.eb (by omega), HE.out.1.keep hm (fun k hk e => by have h2 := HE.out.2.2 k hk; have e : k = xb := e; omega), HE.out.2.1, (fun k hk => Nat.le_trans hz2 (HE.out.2.2 k hk)), (Mod.of_below HB3.out _).trans hm fun _ _ g => .inl g⟩
  exact hend
end
end Ex
end Go.Proofs.YthgddpgifdhnjaaGreat
namespace Go.Proofs.YthgddpgifdhnjaaGreat
open Go.RowKit
set_option linter.unusedVariables false
set_option linter.unusedSimpArgs false
structure Rg (w : World) (xb kb sb sl : Nat) (S : Nat → Slt) (tv : Value) (now : Int) (lv : Value) (L : List Ent) (A : Nat → EAt) (E : Nat → En) (tag : Nat → Nat) : Prop where
  ex : Ex w xb kb S tv
  sh : Sh w sb xb sl now lv L
  en : ∀ i, i < L.length → (S (i + 1)).is = true ∧ (S (i + 1)).env = some (A i).eb ∧ Env w (A i) (E i) ∧ Lp.Goes (E i) (i + 1)
  num : ∀ (i : Nat) (x : Ent), L[i]? = some x → x.n = i + 1 ∧ tag x.eb = 200 + i ∧ 1 ≤ x.wt ∧ x.wt ≤ 16
  tx : tag xb = 100
  ts : tag sb = 101
  tl : ∀ k, lv.ownBlock = some k → tag k = 102
  te : ∀ i, i < L.length → ∀ k, (A i).foot (E i).A k → tag k = i + 1
  l8 : L.length ≤ 8
  s1 : 1 ≤ sl
  s2 : sl ≤ 1024
  lt : ∀ k, tag k ≠ 0 → k < w.heap.size
theorem Sh.rowAt {w : World} {sb xb sl : Nat} {now : Int} {L : List Ent} {g n c : Nat} (h : Sh w sb xb sl now (.slice (some ⟨g, 0, none⟩) n c) L) : ∀ (i : Nat) (x : Ent), L[i]? = some x → w.cell? ⟨g, i, none⟩ = some x.ptr := fun i x hx => by
  rcases h.form with ⟨rfl, e⟩ | ⟨g', c', e, _, hr⟩
  · simp at hx
  · simp only [Value.slice.injEq, Option.some.injEq, Addr.mk.injEq] at e
    obtain ⟨⟨rfl, _⟩, _⟩ := e
    exact hr i x hx
namespace Rg
variable {w w' : World} {xb kb sb sl : Nat} {S : Nat → Slt} {tv : Value} {now : Int} {lv : Value} {L : List Ent} {A : Nat → EAt} {E : Nat → En} {tag : Nat → Nat}
theorem keep0 (h : Rg w xb kb sb sl S tv now lv L A E tag) (hm : Mod (fun k => tag k = 0) w w') : Rg w' xb kb sb sl S tv now lv L A E tag :=
  ⟨h.ex.mod hm (by rw [h.tx]; omega), h.sh.mod hm fun k hk => by
    rcases hk with rfl | hk | ⟨y, hy, rfl⟩
    · rw [h.ts]; omega
    · rw [h.tl k hk]; omega
    · obtain ⟨i, hi⟩ := List.getElem?_of_mem hy
      rw [(h.num i y hi).2.1]; omega, fun i hi => ⟨(h.en i hi).1, (h.en i hi).2.1, (h.en i hi).2.2.1.keep hm fun k hk => by rw [h.te i hi k hk]; omega, (h.en i hi).2.2.2⟩, h.num, h.tx, h.ts, h.tl, h.te, h.l8, h.s1, h.s2, fun k hk => Nat.lt_of_lt_of_le (h.lt k hk) hm.size⟩
theorem below (h : Rg w xb kb sb sl S tv now lv L A E tag) (hb : Below w.heap.size w w') : Rg w' xb kb sb sl S tv now lv L A E tag := h.keep0 ((Mod.of_below hb fun _ => False).mono fun _ _ => False.elim)
theorem ready (h : Rg w xb kb sb sl S tv now lv L A E tag) {x : Ent} (hx : x ∈ L) {V : World} {cb : Nat} (hV : Below w.heap.size w V) (hcb : V.cell? ⟨cb, 0, none⟩ = some (.pointer (some ⟨sb, 0, none⟩))) :
    Calls Tryz.prog 153 #[x.ptr, .pointer (some ⟨cb, 0, none⟩)] V fun e w' => e = .returned (.bool true) ∧ Below V.heap.size V w' := by
  obtain ⟨i, hi⟩ := List.getElem?_of_mem hx
  have hl := (List.getElem?_eq_some_iff.1 hi).1
  obtain ⟨n1, _⟩ := h.num i x hi
  obtain ⟨e1, e2, e3, e4⟩ := h.en i hl
  have := h.l8
  exact (h.sh.below hV).ready hx (h.ex.below hV) hcb (by omega) (by omega) (by rw [n1]; exact e1) (by rw [n1]; exact e2) (e3.below hV) e4.kind
theorem apart (h : Rg w xb kb sb sl S tv now lv L A E tag) {j : Nat} {x : Ent} (hx : L[j]? = some x) : x.eb ≠ sb ∧ lv.ownBlock ≠ some x.eb ∧ ∀ (i : Nat) (y : Ent), L[i]? = some y → i ≠ j → y.eb ≠ x.eb := by
  have h1 := (h.num j x hx).2.1
  refine ⟨fun e => ?_, fun e => ?_, fun i y hy hij e => ?_⟩
  · have := h.ts; rw [← e, h1] at this; omega
  · have := h.tl _ e; rw [h1] at this; omega
  · have := (h.num i y hy).2.1; rw [e, h1] at this; omega
theorem turned {now' : Int} {L' : List Ent} (h : Rg w xb kb sb sl S tv now lv L A E tag) (hm : Mod (fun k => tag k = 101 ∨ 200 ≤ tag k) w w') (hs : Sh w' sb xb sl now' lv L') (hlen : L'.length = L.length) (hn : ∀ (i : Nat) (x : Ent), L'[i]? = some x → ∃ y, L[i]? = some y ∧ x.n = y.n ∧ x.eb = y.eb ∧ x.wt = y.wt) :
    Rg w' xb kb sb sl S tv now' lv L' A E tag :=
  ⟨h.ex.mod hm (by rw [h.tx]; omega), hs, fun i hi => by
    rw [hlen] at hi
    obtain ⟨e1, e2, e3, e4⟩ := h.en i hi
    have := h.l8
    exact ⟨e1, e2, e3.keep hm fun k hk => by rw [h.te i hi k hk]; omega, e4⟩, fun i x hx => by
    obtain ⟨y, hy, q1, q2, q3⟩ := hn i x hx
    rw [q1, q2, q3]
    exact h.num i y hy, h.tx, h.ts, h.tl, fun i hi => h.te i (hlen ▸ hi), hlen ▸ h.l8, h.s1, h.s2, fun k hk => Nat.lt_of_lt_of_le (h.lt k hk) hm.size⟩
theorem setNow (h : Rg w xb kb sb sl S tv now lv L A E tag) (v : Int) : Rg (w.setCell ⟨sb, 2, none⟩ (.int .u64 v)) xb kb sb sl S tv v lv L A E tag ∧ Mod (fun k => k = sb) w (w.setCell ⟨sb, 2, none⟩ (.int .u64 v)) := by
  have hm : Mod (fun k => k = sb) w (w.setCell ⟨sb, 2, none⟩ (.int .u64 v)) := Mod.setCell (F := fun i => i = sb) (Mod.refl _ _) ⟨sb, 2, none⟩ (.inl rfl) _
  refine ⟨h.turned (hm.mono fun i _ e => by rw [e]; exact .inl h.ts) ⟨heap_setCell_same _ _ _ _ _ _ h.sh.blk, row_keep h.sh.row fun k hk => hm.block k (World.ownsRow.lt h.sh.row k hk).2 fun e => ?_, fun x hx => ?_⟩ rfl fun i x hx => ⟨x, hx, rfl, rfl, rfl⟩, hm⟩
  · have := h.tl k hk; rw [e, h.ts] at this; omega
  · obtain ⟨i, hi⟩ := List.getElem?_of_mem hx
    exact (hm.block _ (lt_of_block (h.sh.ent x hx)) (h.apart hi).1).trans (h.sh.ent x hx)
theorem setEnt (h : Rg w xb kb sb sl S tv now lv L A E tag) {j : Nat} {x x' : Ent} (hx : L[j]? = some x) (h1 : x'.eb = x.eb) (h2 : x'.n = x.n) (h3 : x'.wt = x.wt) (hm : Mod (fun k => k = x.eb) w w') (hb : w'.heap[x.eb]? = some (.cells x'.cells 148 (0, 0))) : Rg w' xb kb sb sl S tv now lv (L.set j x') A E tag := by
  obtain ⟨a1, a2, a3⟩ := h.apart hx
  have hjl := (List.getElem?_eq_some_iff.1 hx).1
  have hmap : (L.set j x').map Ent.ptr = L.map Ent.ptr := by
    apply List.ext_getElem?
    intro i
    rw [List.getElem?_map, List.getElem?_map, List.getElem?_set]
    by_cases e : j = i
    · subst e
      rw [if_pos rfl, if_pos hjl, hx]
      show some x'.ptr = some x.ptr
      unfold Ent.ptr
      rw [h1]
    · rw [if_neg e]
  refine h.turned (hm.mono fun i _ e => by rw [e]; exact .inr (by rw [(h.num j x hx).2.1]; omega)) ⟨(hm.block _ (lt_of_block h.sh.blk) fun e => a1 e.symm).trans h.sh.blk, ?_, fun y hy => ?_⟩ (by simp) fun i y hy => ?_
  · rw [hmap, List.length_set]
    exact row_keep h.sh.row fun k hk => hm.block k (World.ownsRow.lt h.sh.row k hk).2 fun e => a2 (e ▸ hk)
  · obtain ⟨i, hi⟩ := List.getElem?_of_mem hy
    rw [List.getElem?_set] at hi
    by_cases e : j = i
    · rw [if_pos e, if_pos hjl] at hi
      cases hi
      rw [h1]
      exact hb
    · rw [if_neg e] at hi
      exact (hm.block _ (lt_of_block (h.sh.ent y (List.mem_of_getElem? hi))) (a3 i y hi (fun q => e q.symm))).trans (h.sh.ent y (List.mem_of_getElem? hi))
  · rw [List.getElem?_set] at hy
    by_cases e : j = i
    · subst e
      rw [if_pos rfl, if_pos hjl] at hy
      cases hy
      exact ⟨x, hx, h2, h1, h3⟩
    · rw [if_neg e] at hy
      exact ⟨y, hy, rfl, rfl, rfl⟩
theorem ran (h : Rg w xb kb sb sl S tv now lv L A E tag) {j : Nat} (hj : j < L.length) {E' : En} (hm : Mod ((A j).foot (E j).A) w w') (he : Env w' (A j) E') (hg : Lp.Goes E' (j + 1)) (ha : E'.A = (E j).A) : Rg w' xb kb sb sl S tv now lv L A (fun i => if i = j then E' else E i) tag := by
  have hne : ∀ k, tag k ≠ j + 1 → ¬ (A j).foot (E j).A k := fun k hk q => hk (h.te j hj k q)
  have := h.l8
  refine ⟨h.ex.mod hm (hne _ (by rw [h.tx]; omega)), h.sh.mod hm fun k hk => hne k ?_, fun i hi => ?_, h.num, h.tx, h.ts, h.tl, fun i hi k hk => ?_, h.l8, h.s1, h.s2, fun k hk => Nat.lt_of_lt_of_le (h.lt k hk) hm.size⟩
  · rcases hk with rfl | hk | ⟨y, hy, rfl⟩
    · rw [h.ts]; omega
    · rw [h.tl k hk]; omega
    · obtain ⟨i, hi⟩ := List.getElem?_of_mem hy
      rw [(h.num i y hi).2.1]; omega
  · obtain ⟨e1, e2, e3, e4⟩ := h.en i hi
    by_cases e : i = j
    · subst e
      simp only [if_pos]
      exact ⟨e1, e2, he, hg⟩
    · simp only [if_neg e]
      exact ⟨e1, e2, e3.keep hm fun k hk => hne k (by rw [h.te i hi k hk]; omega), e4⟩
  · by_cases e : i = j
    · subst e
      simp only [if_pos] at hk
      rw [ha] at hk
      exact h.te i hi k hk
    · simp only [if_neg e] at hk
      exact h.te i hi k hk
def TurnP (w : World) (xb kb sb sl : Nat) (S : Nat → Slt) (tv : Value) (lv : Value) (L : List Ent) (A : Nat → EAt) (tag : Nat → Nat) (j : Nat) (e : Ending) (w' : World) : Prop :=
  ∃ x E', e = .returned (.tuple #[.agg #[.int .i64 (j + 1), .int .i64 sl], .bool true, .int .i64 0]) ∧ L[j]? = some x ∧ Rg w' xb kb sb sl S tv x.pass lv (L.set j ⟨x.eb, x.n, x.wt, x.pass + sl * (720720 / x.wt), x.used + sl⟩) A E' tag ∧ Mod (fun k => tag k ≠ 0) w w'
def lpRel (w : World) (L : List Ent) (vi : Value) (wr : World) : Prop := ∃ i : Nat, i ≤ L.length ∧ vi = .int .i64 i ∧ Below w.heap.size w wr
theorem turn_cell {w : World} {b : Nat} {x y : Value} (h : w.heap[b]? = some (.cells #[x, y] 31 (0, 0))) : w.cell? ⟨b, 0, none⟩ = some x ∧ w.cell? ⟨b, 1, none⟩ = some y ∧ ∀ j, w.frozen? ⟨b, j, none⟩ = false := by
  refine ⟨?_, ?_, fun j => ?_⟩
  · unfold World.cell?; rw [h]; rfl
  · unfold World.cell?; rw [h]; rfl
  · unfold World.frozen?; rw [h]; simp
set_option maxRecDepth 100000 in
set_option maxHeartbeats 8000000 in
theorem turn (h : Rg w xb kb sb sl S tv now lv L A E tag) (h0 : 0 < L.length) {p : Nat → Nat} (hp : ∀ (i : Nat) (x : Ent), L[i]? = some x → x.pass = ((p i : Nat) : Int)) (hpb : ∀ i, i < L.length → p i < 1000000000000) (hu : ∀ x, x ∈ L → 0 ≤ x.used ∧ x.used < 1000000000000) :
    Calls Tryz.prog 10 #[.pointer (some ⟨sb, 0, none⟩)] w (TurnP w xb kb sb sl S tv lv L A tag (Sc.pick p (L.length - 1))) := by
  obtain ⟨g, c, rfl, hg, hrow⟩ := h.sh.form.resolve_left (fun q => by rw [q.1] at h0; exact absurd h0 (by simp))
  have HG := Lib.hid hg
  have HRow := Lib.hid hrow
  clear hg hrow
  generalize hPQ : TurnP w xb kb sb sl S tv _ L A tag (Sc.pick p (L.length - 1)) = PQ
  have hA := (Below.refl w.heap.size w).alloc (Nat.le_refl _) (.cells #[.int .i64 0, .int .i64 0] 31)
  have hk := heap_alloc_new w (.cells #[.int .i64 0, .int .i64 0] 31)
  have h1 := h.below hA
  have HN := Lib.hid (h1.sh.next (by have := h.l8; omega) h0 hp fun x hx V cb hV hcb => h1.ready hx hV hcb)
  have H := Lib.hid h
  have HA := Lib.hid hA
  have HK := Lib.hid hk
  have HP := Lib.hid hp
  have HPb := Lib.hid hpb
  have HU := Lib.hid hu
  have H0 := Lib.hid h0
  have HPQ := Lib.hid hPQ
  clear h hA hk h1 hp hpb hu h0 hPQ
  go_enter Tryz.func10, Tryz.ntmps10
  go_wp2_with fail
  refine HN.out.mono ?_
  rintro e w2 ⟨x, hx, rfl, hb⟩
  have HX := Lib.hid hx
  obtain ⟨j, hj⟩ : ∃ j, Sc.pick p (L.length - 1) = j := ⟨_, rfl⟩
  rw [hj] at HX
  have HJ := Lib.hid hj
  have hb2 := below_th HA.out hb
  have H2 := Lib.hid (H.out.below hb2)
  have HK2 := Lib.hid ((hb.block _ (lt_of_block HK.out)).trans HK.out)
  have HB2 := Lib.hid hb2
  clear hx hj hb hb2 HN
  unfold Ent.ptr
  obtain ⟨e0, e1, e2, e3, ef⟩ := H2.out.sh.ecells (List.mem_of_getElem? HX.out)
  obtain ⟨c0, c1, c2, c3, cf⟩ := H2.out.sh.cells
  have cf2 := cf 2
  clear ef cf e0 e1 e3
  obtain ⟨hn3, hm3⟩ := H2.out.setNow x.pass
  have H3 := Lib.hid hn3
  have HM3 := Lib.hid ((Mod.of_below HB2.out (fun k => k = sb)).same hm3)
  have HK3 := Lib.hid ((hm3.block _ (lt_of_block HK2.out) (by have := H.out.sh.lt (k := sb) (.inl rfl); omega)).trans HK2.out)
  clear hn3 hm3
  go_wp2
  generalize w2.setCell ⟨sb, 2, none⟩ (.int .u64 x.pass) = w3 at *
  have HL8 := Lib.hid H.out.l8
  clear e2 c0 c1 c2 c3 cf2
  go_loopw [7, 29] (fun _ vi wr => lpRel w3 L vi wr) (fun _ vi _ => L.length - (intOf vi).toNat)
  case atStart => exact ⟨0, by omega, rfl, Below.refl _ _⟩
  case round =>
    obtain ⟨i, hi, rfl, hbw⟩ := hrel
    have Hbw := Lib.hid hbw
    have HR := Lib.hid (H3.out.below hbw)
    have hlb := HL8.out
    clear hbw
    by_cases hil : i < L.length
    · obtain ⟨y, hy⟩ : ∃ y, L[i]? = some y := ⟨_, List.getElem?_eq_getElem hil⟩
      have hyr := HR.out.sh.rowAt i y hy
      obtain ⟨f0, f1, f2, f3, ff⟩ := HR.out.sh.ecells (List.mem_of_getElem? hy)
      obtain ⟨c0, c1, c2, c3, cf⟩ := HR.out.sh.cells
      have hle : x.pass ≤ y.pass := by
        have h1 := HP.out j x HX.out
        have h2 := HP.out i y hy
        have h3 := Sc.pick_min p (L.length - 1) i (by omega)
        rw [HJ.out] at h3
        omega
      have hp0 : 0 ≤ x.pass := by have h1 := HP.out j x HX.out; omega
      have HSm := Lib.hid (setCell_same (i := 2) (v := .int .u64 y.pass) (HR.out.sh.ent y (List.mem_of_getElem? hy)) rfl)
      unfold Ent.ptr at hyr
      have hil' : (i : Int) < L.length := by omega
      have ff2 := ff 2
      have HS := Lib.hid (And.intro f2 (And.intro c2 ff2))
      clear f0 f1 f2 f3 ff c0 c1 c2 c3 cf ff2 hy hi
      go_wp2
      refine B (fun V => V.cell? ⟨y.eb, 2, none⟩ = some (.int .u64 y.pass) ∧ V.cell? ⟨sb, 2, none⟩ = some (.int .u64 x.pass) ∧ V.frozen? ⟨y.eb, 2, none⟩ = false) HS.out fun wd hwd hS => ?_
      have HW := Lib.hid hwd
      have hsm : wd.setCell ⟨y.eb, 2, none⟩ (.int .u64 y.pass) = wd := by rw [hwd]; exact congrArg World.drew HSm.out
      have HSm2 := Lib.hid hsm
      clear hwd hsm hyr
      refine T 0 hS ?_
      refine T 1 hS ?_
      refine T 2 hS ?_
      refine T 3 hS ?_
      refine T 4 hS ?_
      refine T 5 hS ?_
      refine T 6 hS ?_
      refine T 7 hS ?_
      refine T 8 hS ?_
      refine U 9 fun K hK => ?_
      go_simp
      rw [if_neg (by omega)]
      refine V hK hS ?_; clear hK K
      refine T 10 hS ?_
      refine T 11 hS ?_
      refine U 12 fun K hK => ?_
      go_simp
      rw [HSm2.out]
      refine V hK hS ?_; clear hK K
      refine wpAnyH_done (by kernel_rfl) ?_ _
      clear hS hle hp0
      go_wp2
      exact ⟨⟨i + 1, by omega, by go_num, by rw [HW.out]; exact Hbw.out.drew⟩, by simp [intOf]; omega⟩
    · obtain rfl : i = L.length := by omega
      have hil' : ¬ ((L.length : Int) < L.length) := by omega
      obtain ⟨e0, e1, e2, e3, ef⟩ := HR.out.sh.ecells (List.mem_of_getElem? HX.out)
      obtain ⟨c0, c1, c2, c3, cf⟩ := HR.out.sh.cells
      have HS := Lib.hid (And.intro c0 (And.intro c1 e0))
      have hjl : j < L.length := (List.getElem?_eq_some_iff.1 HX.out).1
      obtain ⟨n1, n2, n3, n4⟩ := HR.out.num j x HX.out
      obtain ⟨g1, g2, g3, g4⟩ := HR.out.en j hjl
      have hd := (Below.refl wr.heap.size wr).drew
      have HRun := Lib.hid ((HR.out.ex.below hd).run x.n (by omega) (by omega) (by rw [n1]; exact g1) (by rw [n1]; exact g2) (g3.below hd) g4 (by omega) (fun q => by have := HR.out.te j hjl _ q; rw [HR.out.tx] at this; omega) sl (by have := HR.out.s2; omega))
      have HJl := Lib.hid hjl
      have HN1 := Lib.hid n1
      have HN2 := Lib.hid n2
      have w1 := n3
      have w16 := n4
      clear e0 e1 e2 e3 ef c0 c1 c2 c3 cf n1 n2 n3 n4 g1 g2 g3 g4 hd hjl hil hi
      go_wp2
      refine B (fun V => V.cell? ⟨sb, 0, none⟩ = some (.pointer (some ⟨xb, 0, none⟩)) ∧ V.cell? ⟨sb, 1, none⟩ = some (.int .i64 sl) ∧ V.cell? ⟨x.eb, 0, none⟩ = some (.int .i64 x.n)) HS.out fun wd hwd hS => ?_
      have HRd := Lib.hid (by rw [hwd]; exact HR.out.below (Below.refl _ _).drew : Rg wd xb kb sb sl S tv x.pass (.slice (some ⟨g, 0, none⟩) L.length c) L A E tag)
      have HMd := Lib.hid (by rw [hwd]; exact (HM3.out.trans (Mod.of_below Hbw.out.drew fun _ => False) fun _ _ q => q.elim) : Mod (fun k => k = sb) w wd)
      have HKd := Lib.hid (by rw [hwd]; exact (Hbw.out.block _ (lt_of_block HK3.out)).trans HK3.out : wd.heap[w.heap.size]? = some (.cells #[.int .i64 0, .int .i64 0] 31 (0, 0)))
      rw [← hwd] at HRun
      clear hwd
      refine T 0 hS ?_
      refine T 1 hS ?_
      refine T 2 hS ?_
      refine T 3 hS ?_
      refine T 4 hS ?_
      refine T 5 hS ?_
      refine T 6 hS ?_
      refine T 7 hS ?_
      refine T 8 hS ?_
      refine T 9 hS ?_
      refine T 10 hS ?_
      refine T 11 hS ?_
      refine U 12 fun K hK => ?_
      go_simp
      go_at_call 38
      refine HRun.out.mono ?_
      rintro e w4 ⟨E', rfl, q1, q2, q3, _, q5⟩
      have hjn : ∀ k, tag k ≠ j + 1 → ¬ (A j).foot (E j).A k := fun k hk q => hk (HRd.out.te j HJl.out k q)
      have h8 := HL8.out
      have hjl := HJl.out
      have hsb : ¬ (A j).foot (E j).A sb := hjn _ (by rw [HRd.out.ts]; omega)
      have hxe : ¬ (A j).foot (E j).A x.eb := hjn _ (by rw [HN2.out]; omega)
      have HR4 := Lib.hid (HRd.out.ran HJl.out q5 q1 q2 q3)
      have HM4 : Hid (Mod (fun k => tag k ≠ 0) w w4) := Lib.hid ((HMd.out.mono (G := fun k => tag k ≠ 0) fun k _ e => by rw [e, HRd.out.ts]; omega).trans q5 fun k _ q => .inl (by rw [HRd.out.te j HJl.out k q]; omega))
      have htw : tag w.heap.size = 0 := by
        by_cases q : tag w.heap.size = 0
        · exact q
        · exact absurd (H.out.lt _ q) (Nat.lt_irrefl _)
      have HTw := Lib.hid htw
      have HK4 := Lib.hid ((q5.block _ (lt_of_block HKd.out) (hjn _ (by rw [htw]; omega))).trans HKd.out)
      have hS4 := And.intro (Ex.cellM q5 hS.1 hsb) (And.intro (Ex.cellM q5 hS.2.1 hsb) (Ex.cellM q5 hS.2.2 hxe))
      clear q1 q2 q3 q5 hjn hsb hxe HRun htw hS
      refine V hK hS4 ?_; clear hK K
      refine T 13 hS4 ?_
      refine T 14 hS4 ?_
      refine T 15 hS4 ?_
      refine T 16 hS4 ?_
      refine T 17 hS4 ?_
      refine wpAnyH_done (by kernel_rfl) ?_ _
      clear hS4
      obtain ⟨e0, e1, e2, e3, ef⟩ := HR4.out.sh.ecells (List.mem_of_getElem? HX.out)
      have ef2 := ef 2
      have ef3 := ef 3
      have hu := HU.out x (List.mem_of_getElem? HX.out)
      have hs2 := H.out.s2
      have u1 : IntKind.u64.wrap (sl : Int) = sl := by rw [IntKind.wrap_u64]; omega
      have u2 : IntKind.u64.wrap (x.used + sl) = x.used + sl := by rw [IntKind.wrap_u64]; omega
      clear ef e1
      go_wp2
      have hbe : (w4.setCell ⟨x.eb, 3, none⟩ (.int .u64 (x.used + sl))).heap[x.eb]? = some (.cells #[.int .i64 x.n, .int .i64 x.wt, .int .u64 x.pass, .int .u64 (x.used + sl)] 148 (0, 0)) := heap_setCell_same _ _ _ _ _ _ (HR4.out.sh.ent x (List.mem_of_getElem? HX.out))
      have hm5 : Mod (fun k => k = x.eb) w4 (w4.setCell ⟨x.eb, 3, none⟩ (.int .u64 (x.used + sl))) := Mod.setCell (F := fun i => i = x.eb) (Mod.refl _ _) ⟨x.eb, 3, none⟩ (.inl rfl) _
      generalize w4.setCell ⟨x.eb, 3, none⟩ (.int .u64 (x.used + sl)) = w5 at *
      have HBe := Lib.hid hbe
      have HM5 := Lib.hid hm5
      have q1 : w5.cell? ⟨x.eb, 1, none⟩ = some (.int .i64 x.wt) := by unfold World.cell?; rw [hbe]; rfl
      have q2 : w5.cell? ⟨x.eb, 2, none⟩ = some (.int .u64 x.pass) := by unfold World.cell?; rw [hbe]; rfl
      have q3 : ∀ i, w5.frozen? ⟨x.eb, i, none⟩ = false := fun i => by unfold World.frozen?; rw [hbe]; simp
      clear e0 e2 e3 ef2 ef3 hbe hm5 u2
      refine LB (fun V => V.cell? ⟨x.eb, 2, none⟩ = some (.int .u64 x.pass) ∧ V.cell? ⟨x.eb, 1, none⟩ = some (.int .i64 x.wt)) 16 ⟨q2, q1⟩ fun wd hwd hS => ?_
      have HW5 := Lib.hid hwd
      have hqf : wd.frozen? ⟨x.eb, 2, none⟩ = false := by rw [hwd]; exact q3 2
      have HQf := Lib.hid hqf
      clear hwd hqf q1 q2 q3
      refine LT 0 hS ?_
      refine LT 1 hS ?_
      refine LT 2 hS ?_
      refine LT 3 hS ?_
      refine LT 4 hS ?_
      refine LT 5 hS ?_
      refine LT 6 hS ?_
      refine LT 7 hS ?_
      refine LT 8 hS ?_
      refine LT 9 hS ?_
      have hne : ¬ x.wt = 0 := by omega
      obtain ⟨D, hD⟩ : ∃ D, 720720 / x.wt = D := ⟨_, rfl⟩
      have hDb : D ≤ 720720 := by rw [← hD]; exact Nat.div_le_self _ _
      have hd0 : Int.tdiv 720720 (x.wt : Int) = (D : Int) := by rw [← hD, Int.tdiv_eq_ediv_of_nonneg (by omega)]; rfl
      have hd1 : IntKind.i64.wrap (Int.tdiv 720720 (x.wt : Int)) = (D : Int) := by rw [hd0]; exact IntWalk.i64_in _ (by omega)
      have hd2 : IntKind.u64.wrap (D : Int) = D := by rw [IntKind.wrap_u64]; omega
      have hmul : sl * D ≤ 1024 * 720720 := Nat.mul_le_mul hs2 hDb
      obtain ⟨M, hM⟩ : ∃ M : Nat, sl * D = M := ⟨_, rfl⟩
      have hMi : (sl : Int) * (D : Int) = (M : Int) := by rw [← hM]; simp
      have hpx := HP.out j x HX.out
      have hpj := HPb.out j HJl.out
      have hd3 : IntKind.u64.wrap ((sl : Int) * (D : Int)) = (M : Int) := by rw [hMi, IntKind.wrap_u64]; omega
      have hd4 : IntKind.u64.wrap (x.pass + (M : Int)) = x.pass + M := by rw [IntKind.wrap_u64]; omega
      have HDM := Lib.hid (And.intro hD hM)
      clear hd0 hmul hM hMi hD hpx hpj hDb
      refine LT 10 hS ?_
      refine LT 11 hS ?_
      refine LT 12 hS ?_
      refine LT 13 hS ?_
      refine LU 14 fun K hK => ?_
      go_simp
      refine LV hK (fun _ => hS) ?_; clear hK K
      refine LU 15 fun K hK => ?_
      go_simp
      refine LV hK (fun _ => hS) ?_; clear hK K
      refine LU 16 fun K hK => ?_
      have hqf := HQf.out
      have hq2 := hS.1
      go_simp
      refine LV hK (fun e => absurd rfl e) ?_; clear hK K
      refine E_done (by kernel_rfl) ?_ _
      clear hqf hq2 hS hd1 hd2 hd3 hd4
      have hbd := HBe.out
      have hbd : wd.heap[x.eb]? = some (.cells #[.int .i64 x.n, .int .i64 x.wt, .int .u64 x.pass, .int .u64 (x.used + sl)] 148 (0, 0)) := by rw [HW5.out]; exact hbd
      have hb6 := heap_setCell_same _ _ 2 _ _ (.int .u64 (x.pass + M)) hbd
      have hm6 : Mod (fun k => k = x.eb) wd (wd.setCell ⟨x.eb, 2, none⟩ (.int .u64 (x.pass + M))) := Mod.setCell (F := fun i => i = x.eb) (Mod.refl _ _) ⟨x.eb, 2, none⟩ (.inl rfl) _
      have hm46 : Mod (fun k => k = x.eb) w4 (wd.setCell ⟨x.eb, 2, none⟩ (.int .u64 (x.pass + M))) := HM5.out.same ((by rw [HW5.out]; exact (Mod.refl _ _).drew : Mod (fun k => k = x.eb) w5 wd).same hm6)
      generalize wd.setCell ⟨x.eb, 2, none⟩ (.int .u64 (x.pass + M)) = w6 at *
      have HR6 := Lib.hid (HR4.out.setEnt (x' := ⟨x.eb, x.n, x.wt, x.pass + M, x.used + sl⟩) HX.out rfl rfl rfl hm46 hb6)
      have htw := HTw.out
      have hk6 := (hm46.block _ (lt_of_block HK4.out) (fun e => by rw [e, HN2.out] at htw; omega)).trans HK4.out
      have HK6 := Lib.hid hk6
      have HM6 : Hid (Mod (fun k => tag k ≠ 0) w w6) := Lib.hid (HM4.out.trans hm46 fun k _ e => .inl (by rw [e, HN2.out]; omega))
      obtain ⟨t0, t1, tf⟩ := turn_cell hk6
      have tf0 := tf 0
      have tf1 := tf 1
      have e0 : w6.cell? ⟨x.eb, 0, none⟩ = some (.int .i64 x.n) := by unfold World.cell?; rw [hb6]; rfl
      clear hbd hb6 hm6 hm46 hk6 tf htw
      go_wp2
      have hk7 := heap_setCell_same _ _ 1 _ _ (.int .i64 sl) (heap_setCell_same _ _ 0 _ _ (.int .i64 x.n) HK6.out)
      have hm7 : Mod (fun k => tag k = 0) w6 ((w6.setCell ⟨w.heap.size, 0, none⟩ (.int .i64 x.n)).setCell ⟨w.heap.size, 1, none⟩ (.int .i64 sl)) := Mod.setCell (F := fun k => tag k = 0) (Mod.setCell (F := fun k => tag k = 0) (Mod.refl _ _) ⟨w.heap.size, 0, none⟩ (.inl HTw.out) _) ⟨w.heap.size, 1, none⟩ (.inl HTw.out) _
      have hm8 : Mod (fun k => k = w.heap.size) w6 ((w6.setCell ⟨w.heap.size, 0, none⟩ (.int .i64 x.n)).setCell ⟨w.heap.size, 1, none⟩ (.int .i64 sl)) := Mod.setCell (F := fun k => k = w.heap.size) (Mod.setCell (F := fun k => k = w.heap.size) (Mod.refl _ _) ⟨w.heap.size, 0, none⟩ (.inl rfl) _) ⟨w.heap.size, 1, none⟩ (.inl rfl) _
      clear t0 t1 tf0 tf1 e0
      generalize (w6.setCell ⟨w.heap.size, 0, none⟩ (.int .i64 x.n)).setCell ⟨w.heap.size, 1, none⟩ (.int .i64 sl) = w7 at *
      have hend : PQ (.returned (.tuple #[.agg #[.int .i64 x.n, .int .i64 sl], .bool true, .int .i64 0])) w7 := by
        rw [← HPQ.out, HJ.out]
        refine ⟨x, _, by rw [HN1.out]; rfl, HX.out, (by
          have := HR6.out.keep0 hm7
          rw [← HDM.out.2, ← HDM.out.1] at this
          simpa using this), HM6.out.trans hm8 fun k hk e => .inr (by rw [e]; exact Nat.le_refl _)⟩
      have HE := Lib.hid hend
      obtain ⟨t0, t1, _⟩ := turn_cell (x := .int .i64 x.n) (y := .int .i64 sl) hk7
      clear hend hm7 hm8 hk7 HPQ
      refine bodyPost_ret (v := .tuple #[.agg #[.int .i64 x.n, .int .i64 sl], .bool true, .int .i64 0]) (by simp [results, Tryz.results10, go_sem, t0, t1]) rfl ?_
      exact HE.out
end Rg
end Go.Proofs.YthgddpgifdhnjaaGreat
namespace Go.Proofs.YthgddpgifdhnjaaGreat.Sc
def cs (m : Nat) (wt : Nat → Nat) (sl : Nat) : Nat → Nat → Nat
  | 0 => fun _ => 0
  | k + 1 => bump (cs m wt sl k) (pick (fun i => cs m wt sl k i * sl * sd (wt i)) (m - 1))
def who (m : Nat) (wt : Nat → Nat) (sl k : Nat) : Nat := pick (fun i => cs m wt sl k i * sl * sd (wt i)) (m - 1)
variable {m : Nat} {wt : Nat → Nat} {sl : Nat}
theorem cs_succ (k : Nat) : cs m wt sl (k + 1) = bump (cs m wt sl k) (who m wt sl k) := rfl
theorem cs_le (k i : Nat) : cs m wt sl k i ≤ k := by
  induction k with
  | zero => exact Nat.le_refl _
  | succ k ih =>
    rw [cs_succ]
    unfold bump
    split <;> omega
end Go.Proofs.YthgddpgifdhnjaaGreat.Sc
namespace Go.Proofs.YthgddpgifdhnjaaGreat
open Go.RowKit
set_option linter.unusedVariables false
set_option linter.unusedSimpArgs false
def RgC (w : World) (xb kb sb sl m : Nat) (wt : Nat → Nat) (S : Nat → Slt) (tv lv : Value) (A : Nat → EAt) (tag : Nat → Nat) (k : Nat) : Prop :=
  ∃ now L E, Rg w xb kb sb sl S tv now lv L A E tag ∧ L.length = m ∧ ∀ (i : Nat) (x : Ent), L[i]? = some x → x.wt = wt i ∧ x.pass = ((Sc.cs m wt sl k i * sl * Sc.sd (wt i) : Nat) : Int) ∧ x.used = ((Sc.cs m wt sl k i * sl : Nat) : Int)
namespace RgC
variable {w w' : World} {xb kb sb sl m : Nat} {wt : Nat → Nat} {S : Nat → Slt} {tv lv : Value} {A : Nat → EAt} {tag : Nat → Nat} {k : Nat}
theorem keep0 (h : RgC w xb kb sb sl m wt S tv lv A tag k) (hm : Mod (fun k => tag k = 0) w w') : RgC w' xb kb sb sl m wt S tv lv A tag k := by
  obtain ⟨now, L, E, h1, h2, h3⟩ := h
  exact ⟨now, L, E, h1.keep0 hm, h2, h3⟩
theorem below (h : RgC w xb kb sb sl m wt S tv lv A tag k) (hb : Below w.heap.size w w') : RgC w' xb kb sb sl m wt S tv lv A tag k := by
  obtain ⟨now, L, E, h1, h2, h3⟩ := h
  exact ⟨now, L, E, h1.below hb, h2, h3⟩
theorem tag0 (h : RgC w xb kb sb sl m wt S tv lv A tag k) {b : Nat} (hb : w.heap.size ≤ b) : tag b = 0 := by
  obtain ⟨now, L, E, h1, h2, h3⟩ := h
  by_cases q : tag b = 0
  · exact q
  · exact absurd (h1.lt b q) (by omega)
def TP (w : World) (xb kb sb sl m : Nat) (wt : Nat → Nat) (S : Nat → Slt) (tv lv : Value) (A : Nat → EAt) (tag : Nat → Nat) (k : Nat) (e : Ending) (w' : World) : Prop :=
  e = .returned (.tuple #[.agg #[.int .i64 (Sc.who m wt sl k + 1), .int .i64 sl], .bool true, .int .i64 0]) ∧ RgC w' xb kb sb sl m wt S tv lv A tag (k + 1) ∧ Mod (fun k => tag k ≠ 0) w w'
theorem turn (h : RgC w xb kb sb sl m wt S tv lv A tag k) (h0 : 0 < m) (hk : k ≤ 1000) : Calls Tryz.prog 10 #[.pointer (some ⟨sb, 0, none⟩)] w (TP w xb kb sb sl m wt S tv lv A tag k) := by
  obtain ⟨now, L, E, h1, h2, h3⟩ := h
  have hb : ∀ i, Sc.cs m wt sl k i * sl ≤ 1000 * 1024 := fun i => Nat.mul_le_mul (Nat.le_trans (Sc.cs_le k i) hk) h1.s2
  have hd : ∀ v, Sc.sd v ≤ 720720 := fun v => Nat.div_le_self _ _
  refine (h1.turn (p := fun i => Sc.cs m wt sl k i * sl * Sc.sd (wt i)) (by omega) (fun i x hx => (h3 i x hx).2.1) (fun i _ => ?_) fun x hx => ?_).mono ?_
  · have := Nat.mul_le_mul (hb i) (hd (wt i))
    show Sc.cs m wt sl k i * sl * Sc.sd (wt i) < _
    omega
  · obtain ⟨i, hi⟩ := List.getElem?_of_mem hx
    rw [(h3 i x hi).2.2]
    have := hb i
    omega
  · rintro e w' ⟨x, E', rfl, hx, hr, hm⟩
    rw [h2] at hx hr ⊢
    refine ⟨rfl, ⟨_, _, E', hr, by rw [List.length_set]; exact h2, fun i y hy => ?_⟩, hm⟩
    have hjl := (List.getElem?_eq_some_iff.1 hx).1
    rw [List.getElem?_set] at hy
    change L[Sc.who m wt sl k]? = some x at hx
    rw [Sc.cs_succ]
    unfold Sc.bump
    by_cases e : Sc.who m wt sl k = i
    · have e' : Sc.pick (fun i => Sc.cs m wt sl k i * sl * Sc.sd (wt i)) (m - 1) = i := e
      rw [if_pos e', if_pos (e' ▸ hjl)] at hy
      cases hy
      rw [if_pos e.symm]
      rw [e] at hx
      obtain ⟨q1, q2, q3⟩ := h3 i x hx
      refine ⟨q1, ?_, ?_⟩
      · show x.pass + sl * (720720 / x.wt) = _
        rw [q2, q1]
        have : ((Sc.cs m wt sl k i + 1) * sl * Sc.sd (wt i) : Nat) = Sc.cs m wt sl k i * sl * Sc.sd (wt i) + sl * Sc.sd (wt i) := by rw [Nat.add_mul, Nat.add_mul, Nat.one_mul]
        rw [this, Int.natCast_add, Int.natCast_mul sl]
        rfl
      · show x.used + sl = _
        rw [q3, Nat.add_mul, Nat.one_mul, Int.natCast_add]
    · have e' : ¬ Sc.pick (fun i => Sc.cs m wt sl k i * sl * Sc.sd (wt i)) (m - 1) = i := e
      rw [if_neg e'] at hy
      rw [if_neg (fun q => e q.symm)]
      exact h3 i y hy
set_option maxRecDepth 100000 in
theorem used (h : RgC w xb kb sb sl m wt S tv lv A tag k) (i : Nat) (hi : i < m) : Calls Tryz.prog 14 #[.pointer (some ⟨sb, 0, none⟩), .int .i64 ((i + 1 : Nat) : Int)] w fun e w' => e = .returned (.tuple #[.int .u64 ((Sc.cs m wt sl k i * sl : Nat) : Int), .bool true]) ∧ w = w' := by
  obtain ⟨now, L, E, h1, h2, h3⟩ := h
  obtain ⟨x, hx⟩ : ∃ x, L[i]? = some x := ⟨_, List.getElem?_eq_getElem (by omega)⟩
  have hf := h1.sh.find (i + 1) (by have := h1.l8; omega)
  rw [show Sh.FindP w L (i + 1) = fun e w' => e = .returned x.ptr ∧ w = w' by
    funext e w'
    unfold Sh.FindP
    rw [Sh.found_at hx (h1.num i x hx).1 fun k y hk hy => by rw [(h1.num k y hy).1]; omega]] at hf
  have HF := Lib.hid hf
  obtain ⟨_, _, _, e3, _⟩ := h1.sh.ecells (List.mem_of_getElem? hx)
  rw [(h3 i x hx).2.2] at e3
  unfold Ent.ptr at HF
  clear hf h1 h2 h3 hx hi
  generalize ((i + 1 : Nat) : Int) = n at *
  generalize ((Sc.cs m wt sl k i * sl : Nat) : Int) = u at *
  go_enter Tryz.func14, Tryz.ntmps14
  go_wp2_with fail
  refine HF.out.mono ?_
  rintro e w2 ⟨rfl, rfl⟩
  go_wp2
  go_ret2
  exact ⟨rfl, rfl⟩
theorem add_arg (h : RgC w xb kb sb sl m wt S tv lv A tag k) : Calls Tryz.prog 15 #[.pointer (some ⟨sb, 0, none⟩), .int .i64 9, .int .i64 1] w fun e w' => e = .returned (.int .i64 2) ∧ w = w' := Sh.add_arg _ _ 9 1 (by decide)
theorem add_have (h : RgC w xb kb sb sl m wt S tv lv A tag k) (h0 : 0 < m) : Calls Tryz.prog 15 #[.pointer (some ⟨sb, 0, none⟩), .int .i64 1, .int .i64 1] w fun e w' => e = .returned (.int .i64 9) ∧ w = w' := by
  obtain ⟨now, L, E, h1, h2, h3⟩ := h
  obtain ⟨x, hx⟩ : ∃ x, L[0]? = some x := ⟨_, List.getElem?_eq_getElem (by omega)⟩
  exact h1.sh.add_have 1 (by omega) (by omega) 1 (by omega) (by omega) (by have := h1.l8; omega) (Sh.found_at hx (h1.num 0 x hx).1 fun k y hk hy => by omega)
end RgC
end Go.Proofs.YthgddpgifdhnjaaGreat
