/- ExoX, ExoY in one text. -/
import Derived.Test.YtdmoohiepnbdaaaGreatEnMade06
import Derived.Test.YtdmoohiepnbdaaaGreatEnCapZ
import Derived.Test.YtdmoohiepnbdaaaGreatEnKnew
namespace Go.Proofs.YtdmoohiepnbdaaaGreat
open Go.RowKit
set_option linter.unusedVariables false
set_option linter.unusedSimpArgs false
def KerC (w : World) (kb cb : Nat) : Prop := ∃ c : Array Value, w.heap[kb]? = some (.cells c 285 (0, 0)) ∧ c[2]? = some (.pointer (some ⟨cb, 0, none⟩))
theorem KerC.cell {w : World} {kb cb : Nat} (h : KerC w kb cb) : w.cell? ⟨kb, 2, none⟩ = some (.pointer (some ⟨cb, 0, none⟩)) := by
  obtain ⟨c, h1, h2⟩ := h
  unfold World.cell?; rw [h1]; exact h2
theorem KerC.mod {F : Nat → Prop} {w w' : World} {kb cb : Nat} (h : KerC w kb cb) (hm : Mod F w w') (hF : ¬ F kb) : KerC w' kb cb := by
  obtain ⟨c, h1, h2⟩ := h
  exact ⟨c, (hm.block _ (lt_of_block h1) hF).trans h1, h2⟩
theorem KerC.lt {w : World} {kb cb : Nat} (h : KerC w kb cb) : kb < w.heap.size := by
  obtain ⟨c, h1, _⟩ := h
  exact lt_of_block h1
theorem KerC.caps {w : World} {kb cb : Nat} (h : KerC w kb cb) : Calls Tryz.prog 74 #[.pointer (some ⟨kb, 0, none⟩)] w fun e w' => e = .returned (.pointer (some ⟨cb, 0, none⟩)) ∧ w = w' := by
  have c0 := h.cell
  clear h
  go_enter Tryz.func74, Tryz.ntmps74
  go_wp2
  go_ret
  exact ⟨rfl, rfl⟩
namespace Ex
def S0 : Nat → Slt := fun _ => ⟨false, 0, none⟩
def NewP (w : World) (hp : Int) (e : Ending) (w' : World) : Prop :=
  ∃ (xb : Nat) (a : KAt), e = .returned (.tuple #[.pointer (some ⟨xb, 0, none⟩), .int .i64 0]) ∧ Ex w' xb a.kb S0 (.slice none 0 0) ∧ Knl w' a (Kn.new hp []) ∧ a.tag xb = 0 ∧ (∀ k, a.tag k ≠ 0 → w.heap.size ≤ k) ∧ w.heap.size ≤ xb ∧ Below w.heap.size w w'
set_option maxRecDepth 100000 in
set_option maxHeartbeats 4000000 in
theorem new (w : World) {hp : Int} (p0 : 0 ≤ hp) (p1 : hp ≤ 4096) : Calls Tryz.prog 30 #[.agg #[.int .u32 hp, .slice none 0 0]] w (NewP w hp) := by
  have HFin := Lib.hid fun V xb a (h1 : Ex V xb a.kb S0 (.slice none 0 0)) (h2 : Knl V a (Kn.new hp [])) (h3 : a.tag xb = 0) (h4 : ∀ k, a.tag k ≠ 0 → w.heap.size ≤ k) (h5 : w.heap.size ≤ xb) (h6 : Below w.heap.size w V) => (show NewP w hp (.returned (.tuple #[.pointer (some ⟨xb, 0, none⟩), .int .i64 0])) V from ⟨xb, a, rfl, h1, h2, h3, h4, h5, h6⟩)
  generalize NewP w hp = PQ at *
  have hb : Below w.heap.size w (w.alloc (.cells #[.int .u32 hp, .slice none 0 0] 59)) := (Below.refl _ _).alloc (Nat.le_refl _) _
  have HB := Lib.hid hb
  have HN := Lib.hid (Kl.new (w := w.alloc (.cells #[.int .u32 hp, .slice none 0 0] 59)) (a := none) (cap := 0) (hp := hp) (xs := []) ⟨fun i hi => absurd hi (by simp), by simp⟩ (fun x hx => by simp at hx) p0 (by unfold Ca.hardOk; simp; exact p1))
  clear hb p0 p1
  go_enter Tryz.func30, Tryz.ntmps30
  go_wp2_with fail
  refine HN.out.mono ?_
  rintro e w2 ⟨a, rfl, hk, ht, hb2⟩
  have HK := Lib.hid hk
  have HT := Lib.hid ht
  have HB2 := Lib.hid (below_th HB.out hb2)
  clear hk ht hb2
  go_wp2
  have hal : Below w2.heap.size w2 (w2.alloc (.cells (cells a.kb S0 (.slice none 0 0)) 190)) := (Below.refl _ _).alloc (Nat.le_refl _) _
  have hend := HFin.out _ w2.heap.size a ⟨heap_alloc_new w2 _⟩ (HK.out.below hal) (by
    by_cases q : a.tag w2.heap.size = 0
    · exact q
    · exact absurd (HK.out.lt _ q) (Nat.lt_irrefl _)) (fun k hk => Nat.le_trans (by simp) (HT.out k hk)) HB2.out.size (HB2.out.alloc HB2.out.size _)
  exact hend
section
variable {w w' : World} {xb kb : Nat} {S : Nat → Slt} {tv : Value}
theorem cellM {F : Nat → Prop} {w w' : World} (hm : Mod F w w') {b i : Nat} {v : Value} (h : w.cell? ⟨b, i, none⟩ = some v) (hF : ¬ F b) : w'.cell? ⟨b, i, none⟩ = some v := by
  have hl : b < w.heap.size := by
    unfold World.cell? at h
    cases hg : w.heap[b]? with
    | none => rw [hg] at h; cases h
    | some _ => exact lt_of_block hg
  exact (World.cell?_of_block (w := w) (hm.block _ hl hF)).trans h
theorem set (h : Ex w xb kb S tv) (i : Nat) (s : Slt) (hi : i < 9) : Ex (((w.setCell ⟨xb, 1 + i * 3, none⟩ (.bool s.is)).setCell ⟨xb, 1 + i * 3 + 1, none⟩ (.int .i64 s.pg)).setCell ⟨xb, 1 + i * 3 + 2, none⟩ (.pointer (s.env.map fun b => ⟨b, 0, none⟩))) xb kb (upd S i s) tv := by
  refine ⟨?_⟩
  rw [← cells_set kb S tv i s hi]
  exact heap_setCell_same _ _ _ _ _ _ (heap_setCell_same _ _ _ _ _ _ (heap_setCell_same _ _ _ _ _ _ h.blk))
theorem setEnv (h : Ex w xb kb S tv) (i b : Nat) (hi : i < 9) : Ex (w.setCell ⟨xb, 1 + i * 3 + 2, none⟩ (.pointer (some ⟨b, 0, none⟩))) xb kb (upd S i { S i with env := some b }) tv := by
  refine ⟨?_⟩
  rw [← cells_env kb S tv i b hi]
  exact heap_setCell_same _ _ _ _ _ _ h.blk
def AdmitP (mp pg : Int) (cn : Bool) (w : World) (xb kb cb mb n : Nat) (S : Nat → Slt) (tv : Value) (hp : Int) (gs : List Gz) (e : Ending) (w' : World) : Prop :=
  e = .returned (.tuple #[.int .i64 n, .int .i64 0]) ∧ ∃ gb, Ex w' xb kb (upd S n ⟨true, pg, none⟩) tv ∧ Cz w' cb mb hp (gs ++ [⟨gb, mp, cn, pg⟩]) ∧ Mod (fun k => k = mb ∨ k = xb) w w' ∧ w.heap.size ≤ gb ∧ gb < w'.heap.size
set_option maxRecDepth 100000 in
set_option maxHeartbeats 4000000 in
theorem admit {cb mb n : Nat} {hp mp pg : Int} {cn : Bool} {gs : List Gz} (m0 : 0 ≤ mp) (m1 : mp ≤ 1024) (pg0 : 0 ≤ pg) (pg1 : pg ≤ 4096) (h : Ex w xb kb S tv) (hk : KerC w kb cb) (hc : Cz w cb mb hp gs) (hn : n = gs.length + 1) (n8 : n ≤ 8) (h1 : ∀ i, 1 ≤ i → i < n → (S i).is = true) (h2 : (S n).is = false) (hs : Cz.sumZ gs + (mp + pg) ≤ hp) (hp1 : hp ≤ 4096) (hx : xb ≠ mb) (hxw : ¬ Cz.wf cb mb gs xb) (hkm : kb ≠ mb) :
    Calls Tryz.prog 25 #[.pointer (some ⟨xb, 0, none⟩), Cz.man mp cn, .int .i64 pg] w (AdmitP mp pg cn w xb kb cb mb n S tv hp gs) := by
  have HFin := Lib.hid fun V (h1 : ∃ gb, Ex V xb kb (upd S n ⟨true, pg, none⟩) tv ∧ Cz V cb mb hp (gs ++ [⟨gb, mp, cn, pg⟩]) ∧ Mod (fun k => k = mb ∨ k = xb) w V ∧ w.heap.size ≤ gb ∧ gb < V.heap.size) => (show AdmitP mp pg cn w xb kb cb mb n S tv hp gs (.returned (.tuple #[.int .i64 n, .int .i64 0])) V from ⟨rfl, h1⟩)
  generalize AdmitP mp pg cn w xb kb cb mb n S tv hp gs = PQ at *
  have hA := (Below.refl w.heap.size w).alloc (Nat.le_refl _) (.cells (Cz.manA mp cn) 45)
  have hx1 := h.below hA
  have HM := Lib.hid (heap_alloc_new w (.cells (Cz.manA mp cn) 45))
  have HX := Lib.hid hx1
  have HC := Lib.hid fun V (hV : Below w.heap.size w V) => hc.below hV
  have HKc := Lib.hid fun V (hV : Below w.heap.size w V) => hk.mod (Mod.of_below hV fun _ => False) id
  have HA := Lib.hid hA
  have HN := Lib.hid hn
  have H1 := Lib.hid h1
  have H2 := Lib.hid h2
  have HS := Lib.hid hs
  have HP := Lib.hid hp1
  have HXm := Lib.hid hx
  have HXw := Lib.hid hxw
  have HMl := Lib.hid (hc.lt (k := mb) (.inr (.inl rfl)))
  have HXl := Lib.hid (lt_of_block h.blk)
  clear h hk hc hn h1 h2 hs hp1 hx hxw hx1 hA
  unfold Cz.man
  unfold Cz.manA at *
  have wpg : IntKind.u32.wrap pg = pg := wrap32 (by omega) (by omega)
  have a1 : ¬ pg < 0 := by omega
  have a2 : ¬ pg > 4096 := by omega
  go_enter Tryz.func25, Tryz.ntmps25
  go_wp2
  go_loop [8] (fun v => ∃ k : Nat, 1 ≤ k ∧ k ≤ n ∧ v = .int .i64 k) (fun v => n - (intOf v).toNat)
  case atStart => exact ⟨1, by omega, by have := HN.out; omega, rfl⟩
  case round =>
    obtain ⟨k, k1, k2, rfl⟩ := hrel
    obtain ⟨c0, _, _, _⟩ := HX.out.at' k (by omega)
    have k9 : (k : Int) < 9 := by omega
    by_cases hkn : k < n
    · rw [H1.out k k1 hkn] at c0
      go_wp2
      go_round
      case rel => exact ⟨k + 1, by omega, by omega, by go_num⟩
      case measure => simp [intOf]; omega
    · obtain rfl : k = n := by omega
      rw [H2.out] at c0
      have k9' : ((k : Int) == 9) = false := by simp; omega
      go_wp2
      clear c0 k9 k1 k2 hkn
      have hM := HM.out
      generalize w.alloc (.cells #[.int .u32 mp, .slice none 0 0, .slice none 0 0, .bool cn] 45) = W0 at *
      obtain ⟨d0, d1, d2, d3, df⟩ := Cz.man_at hM
      have d4 := HX.out.ker
      have HD := Lib.hid (And.intro d4 (And.intro d0 (And.intro d1 (And.intro d2 d3))))
      have hkc := HKc.out W0.drew HA.out.drew
      have HCp := Lib.hid hkc.caps
      have HGr := Lib.hid (Cz.grant (cn := cn) (HC.out W0.drew HA.out.drew) m0 m1 pg0 pg1 (n := (k : Int)) (by have := HN.out; omega) (by omega) HS.out HP.out)
      clear hM d0 d1 d2 d3 df d4 hkc
      refine B (fun V => V.cell? ⟨xb, 0, none⟩ = some (.pointer (some ⟨kb, 0, none⟩)) ∧ V.cell? ⟨w.heap.size, 0, none⟩ = some (.int .u32 mp) ∧ V.cell? ⟨w.heap.size, 1, none⟩ = some (.slice none 0 0) ∧ V.cell? ⟨w.heap.size, 2, none⟩ = some (.slice none 0 0) ∧ V.cell? ⟨w.heap.size, 3, none⟩ = some (.bool cn)) HD.out fun wd hwd hS => ?_
      have HWd := Lib.hid hwd
      rw [← hwd] at HCp HGr
      clear hwd
      refine T 0 hS ?_
      refine T 1 hS ?_
      refine T 2 hS ?_
      refine T 3 hS ?_
      refine T 5 hS ?_
      refine T 6 hS ?_
      refine T 7 hS ?_
      refine T 8 hS ?_
      refine U 4 fun K hK => ?_
      go_simp
      go_at_call 74
      refine HCp.out.mono ?_
      rintro e w5 ⟨rfl, rfl⟩
      refine V hK hS ?_; clear hK K
      refine U 9 fun K hK => ?_
      go_simp
      go_at_call 78
      refine HGr.out.mono ?_
      rintro e w8 ⟨gb, rfl, hc8, hm8, hg1, hg2⟩
      have hbd : Below w.heap.size w wd := by rw [HWd.out]; exact HA.out.drew
      have hmm : Mod (fun k => k = mb) w w8 := (Mod.of_below hbd _).trans hm8 fun _ _ g => .inl g
      have hx8 := (HX.out.below (Below.refl _ _).drew)
      rw [← HWd.out] at hx8
      have hwm : w.heap.size ≠ mb := by have := HMl.out; omega
      have hS8 := And.intro (cellM hm8 hS.1 (show ¬ xb = mb from HXm.out)) (And.intro (cellM hm8 hS.2.1 hwm) (And.intro (cellM hm8 hS.2.2.1 hwm) (And.intro (cellM hm8 hS.2.2.2.1 hwm) (cellM hm8 hS.2.2.2.2 hwm))))
      have HX8 := Lib.hid (hx8.mod hm8 (show ¬ xb = mb from HXm.out))
      have H8 := Lib.hid (And.intro hc8 (And.intro hmm (And.intro (Nat.le_trans hbd.size hg1) hg2)))
      have hg1' := Nat.le_trans hbd.size hg1
      clear hbd hmm hx8 hc8 hm8 hg1 hg2 hwm HCp HGr
      refine V hK hS8 ?_; clear hK K
      refine T 10 hS8 ?_
      refine wpAnyH_done (by kernel_rfl) ?_ _
      obtain ⟨e0, e1, e2, ef⟩ := HX8.out.at' k (by omega)
      have f0 := ef (1 + k * 3)
      have f1 := ef (1 + k * 3 + 1)
      have f2 := ef (1 + k * 3 + 2)
      have k9 : (k : Int) < 9 := by omega
      clear ef hS hS8
      go_wp2
      have hset : Ex (((w8.setCell ⟨xb, 1 + k * 3, none⟩ (.bool true)).setCell ⟨xb, 1 + k * 3 + 1, none⟩ (.int .i64 pg)).setCell ⟨xb, 1 + k * 3 + 2, none⟩ (.pointer none)) xb kb (upd S k ⟨true, pg, none⟩) tv := HX8.out.set k ⟨true, pg, none⟩ (by omega)
      have hm9 : Mod (fun i => i = xb) w8 (((w8.setCell ⟨xb, 1 + k * 3, none⟩ (.bool true)).setCell ⟨xb, 1 + k * 3 + 1, none⟩ (.int .i64 pg)).setCell ⟨xb, 1 + k * 3 + 2, none⟩ (.pointer none)) := Mod.setCell (F := fun i => i = xb) (Mod.setCell (F := fun i => i = xb) (Mod.setCell (F := fun i => i = xb) (Mod.refl _ _) ⟨xb, 1 + k * 3, none⟩ (.inl rfl) _) ⟨xb, 1 + k * 3 + 1, none⟩ (.inl rfl) _) ⟨xb, 1 + k * 3 + 2, none⟩ (.inl rfl) _
      have hz9 := hm9.size
      have hend := HFin.out _ ⟨gb, hset, H8.out.1.mod hm9 fun i hi e => by
        subst e
        rcases hi with g | g | ⟨g, hg, e⟩
        · exact HXw.out (.inl g)
        · exact HXm.out g
        · rcases List.mem_append.1 hg with q | q
          · exact HXw.out (.inr (.inr ⟨g, q, e⟩))
          · simp at q
            subst q
            have := HXl.out
            simp at e
            omega, (H8.out.2.1.mono (G := fun k => k = mb ∨ k = xb) fun _ _ g => .inl g).trans hm9 fun _ _ g => .inl (.inr g), H8.out.2.2.1, by have := H8.out.2.2.2; omega⟩
      exact hend
theorem pages_shape {w : World} {base n : Nat} {v : Value} {cs : List Value} (h : w.ownsRow base 41 1 v n cs) : ∃ a c, v = .slice a n c := by
  rcases h.2 with ⟨rfl, h0⟩ | ⟨g, cap, cur, rfl, _⟩
  · exact ⟨none, 0, by rw [h0]⟩
  · exact ⟨_, _, rfl⟩
set_option maxRecDepth 100000 in
set_option maxHeartbeats 4000000 in
theorem many {sb mb : Nat} {A : List Pg} (h : Ex w xb kb S tv) (n : Nat) (n8 : n ≤ 8) (hsp : Spc w sb mb A) (hl : (A.length : Int) ≤ (S n).pg) : Calls Tryz.prog 112 #[.pointer (some ⟨xb, 0, none⟩), .int .i64 n, .pointer (some ⟨sb, 0, none⟩)] w fun e w' => e = .returned (.bool false) ∧ Below w.heap.size w w' := by
  obtain ⟨c0, c1, c2, cf⟩ := h.at' n (by omega)
  have hd := (Below.refl w.heap.size w).drew
  have HP := Lib.hid (Pag.pages (hsp.below hd fun k hk => hsp.lt hk))
  have HD := Lib.hid hd
  have HC := Lib.hid c1
  have hgt : decide ((A.length : Int) > (S n).pg) = false := decide_eq_false (by omega)
  have n9 : (n : Int) < 9 := by omega
  clear h hsp hl cf c0 c1 c2 hd
  go_enter Tryz.func112, Tryz.ntmps112
  go_wp2_with fail
  refine B (fun V => V.cell? ⟨xb, 1 + n * 3 + 1, none⟩ = some (.int .i64 (S n).pg)) HC.out fun wd hwd hS => ?_
  have HWd := Lib.hid hwd
  rw [← hwd] at HP HD
  clear hwd
  refine T 0 hS ?_
  refine T 3 hS ?_
  refine T 4 hS ?_
  refine T 5 hS ?_
  refine T 6 hS ?_
  refine T 7 hS ?_
  refine T 8 hS ?_
  refine T 9 hS ?_
  refine U 1 fun K hK => ?_
  go_simp
  go_at_call 87
  refine HP.out.mono ?_
  rintro e w5 ⟨v, rfl, hv, hb⟩
  obtain ⟨a, c, rfl⟩ := pages_shape hv
  have hS5 := keep hS hb
  have HB := Lib.hid (below_th HD.out hb)
  clear hv hb
  refine V hK hS5 ?_; clear hK K
  refine T 2 hS5 ?_
  refine T 10 hS5 ?_
  refine wpAnyH_done (by kernel_rfl) ?_ _
  go_wp2
  go_ret
  exact ⟨rfl, HB.out⟩
def StartP (w : World) (xb kb : Nat) (S : Nat → Slt) (tv : Value) (n : Nat) (pc : Int) (A : List Pg) (e : Ending) (w' : World) : Prop :=
  ∃ a C, e = .returned (.int .i64 0) ∧ Ex w' xb kb (upd S n { S n with env := some a.eb }) tv ∧ Env w' a (En.new n pc C) ∧ cores C = cores A ∧ (∀ k, a.foot C k → w.heap.size ≤ k) ∧ Mod (fun k => k = xb) w w'
set_option maxRecDepth 100000 in
set_option maxHeartbeats 4000000 in
theorem start {sb mb : Nat} {A : List Pg} (h : Ex w xb kb S tv) (n : Nat) (n1 : 1 ≤ n) (n8 : n ≤ 8) (hs : (S n).is = true) (hv : (S n).env = none) (hsp : Spc w sb mb A) (hl : (A.length : Int) ≤ (S n).pg) (pc : Int) (p0 : 0 ≤ pc) (p1 : pc ≤ 4294967295) :
    Calls Tryz.prog 31 #[.pointer (some ⟨xb, 0, none⟩), .int .i64 n, .pointer (some ⟨sb, 0, none⟩), .int .u32 pc] w (StartP w xb kb S tv n pc A) := by
  have HFin := Lib.hid fun V (h : ∃ a C, Ex V xb kb (upd S n { S n with env := some a.eb }) tv ∧ Env V a (En.new n pc C) ∧ cores C = cores A ∧ (∀ k, a.foot C k → w.heap.size ≤ k) ∧ Mod (fun k => k = xb) w V) => (show StartP w xb kb S tv n pc A (.returned (.int .i64 0)) V from by obtain ⟨a, C, h⟩ := h; exact ⟨a, C, rfl, h⟩)
  generalize StartP w xb kb S tv n pc A = PQ at *
  obtain ⟨c0, c1, c2, cf⟩ := h.at' n (by omega)
  rw [hv] at c2
  have HX := Lib.hid h
  have HHas := Lib.hid (h.has n n1 n8)
  rw [hs] at HHas
  have HMany := Lib.hid (h.many n n8 hsp hl)
  have HNew := Lib.hid fun V (hV : Below w.heap.size w V) => Ev.new (hsp.below hV fun k hk => hsp.lt hk) (n : Int) pc (by omega) (by omega) p0 p1
  have HXl := Lib.hid (lt_of_block h.blk)
  have n9 : (n : Int) < 9 := by omega
  clear h hs hv hsp hl cf c0 c1 p0 p1
  go_enter Tryz.func31, Tryz.ntmps31
  go_wp2_with fail
  refine HHas.out.mono ?_
  rintro e w1 ⟨rfl, rfl⟩
  go_wp2_with fail
  refine HMany.out.mono ?_
  rintro e w2 ⟨rfl, hb2⟩
  have HB2 := Lib.hid hb2
  clear hb2 c2
  go_wp2_with fail
  refine (HNew.out _ HB2.out).mono ?_
  rintro e w3 ⟨a, C, rfl, hen, hco, hf, hb3⟩
  have HE := Lib.hid (And.intro hen (And.intro hco hf))
  have HB3 := Lib.hid (below_th HB2.out hb3)
  clear hen hco hf hb3
  obtain ⟨c0, c1, c2, cf⟩ := (HX.out.below HB3.out).at' n (by omega)
  have cf := cf (1 + n * 3 + 2)
  go_wp2
  have hm : Mod (fun i => i = xb) w3 (w3.setCell ⟨xb, 1 + n * 3 + 2, none⟩ (.pointer (some ⟨a.eb, 0, none⟩))) := Mod.setCell (F := fun i => i = xb) (Mod.refl _ _) ⟨xb, 1 + n * 3 + 2, none⟩ (.inl rfl) _
  have hxl := HXl.out
  have hz2 := HB2.out.size
  have hend := HFin.out _ ⟨a, C, (HX.out.below HB3.out).setEnv n a.eb (by omega), HE.out.1.keep hm (fun k hk e => by have h2 := HE.out.2.2 k hk; have e : k = xb := e; omega), HE.out.2.1, (fun k hk => Nat.le_trans hz2 (HE.out.2.2 k hk)), (Mod.of_below HB3.out _).trans hm fun _ _ g => .inl g⟩
  exact hend
end
end Ex
end Go.Proofs.YtdmoohiepnbdaaaGreat
namespace Go.Proofs.YtdmoohiepnbdaaaGreat
open Go.RowKit
set_option linter.unusedVariables false
set_option linter.unusedSimpArgs false
namespace Cz
variable {w w' : World} {cb mb : Nat} {hp : Int} {gs : List Gz}
theorem look_one {g : Gz} (h : Cz w cb mb hp [g]) : (Instr.lookup 296 (.map (some mb)) (.int .i64 1) false).run Tryz.prog w = .ok (.pointer (some ⟨g.gb, 0, none⟩)) w := by
  obtain ⟨D, m, ho, hv, _⟩ := h.map
  obtain ⟨v, ps, hrun, hR⟩ := ho.lookup (Maps.int_keyed Tryz.underlying3) Tryz.underlying296 (zeroGr w) (z := .pointer none) (zd := .lit (.int .i64 (-1))) (zp := []) rfl (Maps.keyOf_int_mk Tryz.underlying3 (by decide : (Lit.int .i64 1).wf = true))
  rw [hrun]
  rw [hv, show at' [g] 1 = some g from rfl] at hR
  rcases ptrElem_inv hR with ⟨_, hb⟩ | ⟨b, rfl, hb⟩
  · omega
  · have : b = g.gb := by omega
    subst this
    rfl
def RelP (w : World) (cb mb : Nat) (hp : Int) (e : Ending) (w' : World) : Prop := e = .returned (.int .i64 0) ∧ Cz w' cb mb hp [] ∧ Mod (fun k => k = mb) w w'
set_option maxRecDepth 100000 in
set_option maxHeartbeats 4000000 in
theorem release {g : Gz} (h : Cz w cb mb hp [g]) : Calls Tryz.prog 113 #[.pointer (some ⟨cb, 0, none⟩), .int .i64 1] w (RelP w cb mb hp) := by
  generalize hPQ : RelP w cb mb hp = PQ
  have HPQ := Lib.hid hPQ
  clear hPQ
  have K := Maps.int_keyed (P := Tryz.prog) Tryz.underlying3
  have hk := Maps.keyOf_int_mk (P := Tryz.prog) Tryz.underlying3 (by decide : (Lit.int .i64 1).wf = true)
  have hlk := h.look_one
  obtain ⟨hcm, _⟩ := h.apart
  obtain ⟨D, n, ho, hv, hs⟩ := h.map
  obtain ⟨o, c, hh⟩ := h.head
  obtain ⟨o', c', c0, c1, c2⟩ := h.hcells
  have ht := own_tight ho
  have Ht := Lib.hid ht
  have HTi := Lib.hid (ht.tidy K)
  have HM := Lib.hid ht.isMap
  have Hv := Lib.hid hv
  have Hs := Lib.hid hs
  have Hh := Lib.hid hh
  have HCm := Lib.hid hcm
  have HKk := Lib.hid hk
  clear h ho hv hs hh hcm ht
  go_enter Tryz.func113, Tryz.ntmps113
  go_wp2_with (at_delete; (refine wpList_delete_own _ (by rfl) _ _ 296 3 (by rfl) 295 K Tryz.underlying296 ptrElem mb _ D (by rfl) Ht.out (.int .i64 1) (.int .i64 1) (by rfl) HKk.out ?_; intro w2 ho2 hmt2))
  have hg := hmt2.grown
  have hm : Mod (fun k => k = mb) w w2 := ⟨hg.os, hg.tape, hg.output, hg.size, fun k hk hn => hg.block k hk (by simpa using hn)⟩
  have hlc : cb < w.heap.size := lt_of_block Hh.out
  have hend : RelP w cb mb hp (.returned (.int .i64 0)) w2 := by
    refine ⟨rfl, ⟨⟨o, c, (hm.block cb hlc HCm.out).trans Hh.out⟩, ⟨_, _, ho2, fun x zd => ?_, ?_⟩, fun g hg => by simp at hg⟩, hm⟩
    · have hz : Cz.at' [] x = none := by
        unfold Cz.at'
        split
        · exact List.getElem?_nil
        · rfl
      rw [hz]
      by_cases e : x = 1
      · subst e
        exact Maps.atKey_del_same _
      · rw [Maps.atKey_del_other (by intro q; simp at q; exact e q), Hv.out]
        have hz1 : Cz.at' [g] x = none := by
          unfold Cz.at'
          split
          · rw [List.getElem?_eq_none (by simp; omega)]
          · rfl
        rw [hz1]
    · have h1 := Maps.size_del HTi.out (k := .int .i64 1)
      have h2 : Maps.has D (.int .i64 1) = true := Maps.has_true_of_atKey (y := .lit (.int .i64 g.gb)) fun zd => by rw [Hv.out]; rfl
      rw [h2, Hs.out] at h1
      simp at h1
      simpa using h1
  rw [HPQ.out] at hend
  exact hend
end Cz
namespace Ex
section
variable {w w' : World} {xb kb : Nat} {S : Nat → Slt} {tv : Value}
theorem kernel (h : Ex w xb kb S tv) : Calls Tryz.prog 105 #[.pointer (some ⟨xb, 0, none⟩)] w fun e w' => e = .returned (.pointer (some ⟨kb, 0, none⟩)) ∧ w = w' := by
  have c0 := h.ker
  clear h
  go_enter Tryz.func105, Tryz.ntmps105
  go_wp2
  go_ret
  exact ⟨rfl, rfl⟩
theorem free {cb mb : Nat} {hp : Int} {gs : List Gz} (h : Ex w xb kb S tv) (hk : KerC w kb cb) (hc : Cz w cb mb hp gs) (h0 : Cz.sumZ gs ≤ hp) (h1 : hp ≤ 4096) : Calls Tryz.prog 42 #[.pointer (some ⟨xb, 0, none⟩)] w fun e w' => e = .returned (.int .u32 (hp - Cz.sumZ gs)) ∧ Below w.heap.size w w' := by
  have H1 := Lib.hid h.kernel
  have H2 := Lib.hid hk.caps
  have H3 := Lib.hid (hc.free h0 h1)
  clear h hk hc h0 h1
  go_enter Tryz.func42, Tryz.ntmps42
  go_wp2_with fail
  refine H1.out.mono ?_
  rintro e w1 ⟨rfl, rfl⟩
  go_wp2_with fail
  refine H2.out.mono ?_
  rintro e w1 ⟨rfl, rfl⟩
  go_wp2_with fail
  refine H3.out.mono ?_
  rintro e w1 ⟨rfl, hb⟩
  have HB := Lib.hid hb
  clear hb
  go_wp2
  go_ret
  exact ⟨rfl, HB.out⟩
end
end Ex
namespace Kx
def tkC (k : Value) (eb : Nat) (kd en : Int) (c : Int) (sn : Bool) : Array Value := #[k, .pointer (some ⟨eb, 0, none⟩), .int .u8 kd, .int .i64 en, .string ByteArray.empty, .int .u32 c, .bool sn]
theorem tk_cells {w : World} {tb : Nat} {k : Value} {eb : Nat} {kd en c : Int} {sn : Bool} (h : w.heap[tb]? = some (.cells (tkC k eb kd en c sn) 329 (0, 0))) : w.cell? ⟨tb, 0, none⟩ = some k ∧ w.cell? ⟨tb, 1, none⟩ = some (.pointer (some ⟨eb, 0, none⟩)) ∧ w.cell? ⟨tb, 2, none⟩ = some (.int .u8 kd) ∧ w.cell? ⟨tb, 3, none⟩ = some (.int .i64 en) ∧ w.cell? ⟨tb, 4, none⟩ = some (.string ByteArray.empty) ∧ w.cell? ⟨tb, 5, none⟩ = some (.int .u32 c) ∧ w.cell? ⟨tb, 6, none⟩ = some (.bool sn) ∧ ∀ j, w.frozen? ⟨tb, j, none⟩ = false := by
  refine ⟨?_, ?_, ?_, ?_, ?_, ?_, ?_, fun j => ?_⟩
  · unfold World.cell?; rw [h]; rfl
  · unfold World.cell?; rw [h]; rfl
  · unfold World.cell?; rw [h]; rfl
  · unfold World.cell?; rw [h]; rfl
  · unfold World.cell?; rw [h]; rfl
  · unfold World.cell?; rw [h]; rfl
  · unfold World.cell?; rw [h]; rfl
  · unfold World.frozen?; rw [h]; simp
def evC (kd en c : Int) : Array Value := #[.int .u8 kd, .int .i64 en, .string ByteArray.empty, .int .u32 c]
theorem ev_cells {w : World} {b : Nat} {kd en c : Int} (h : w.heap[b]? = some (.cells (evC kd en c) 130 (0, 0))) : w.cell? ⟨b, 0, none⟩ = some (.int .u8 kd) ∧ w.cell? ⟨b, 1, none⟩ = some (.int .i64 en) ∧ w.cell? ⟨b, 2, none⟩ = some (.string ByteArray.empty) ∧ w.cell? ⟨b, 3, none⟩ = some (.int .u32 c) ∧ ∀ j, w.frozen? ⟨b, j, none⟩ = false := by
  refine ⟨?_, ?_, ?_, ?_, fun j => ?_⟩
  · unfold World.cell?; rw [h]; rfl
  · unfold World.cell?; rw [h]; rfl
  · unfold World.cell?; rw [h]; rfl
  · unfold World.cell?; rw [h]; rfl
  · unfold World.frozen?; rw [h]; simp
def ShowP (w : World) (tb : Nat) (k : Value) (eb : Nat) (kd en c : Int) (e : Ending) (w' : World) : Prop := e = .returned (.tuple #[]) ∧ Mod (fun k => k = tb) w w' ∧ w'.heap[tb]? = some (.cells (tkC k eb kd en c true) 329 (0, 0))
set_option maxRecDepth 100000 in
set_option maxHeartbeats 4000000 in
theorem show0 {w : World} {tb : Nat} {k : Value} {a : EAt} {E : En} {kd0 en0 n0 : Int} {sn : Bool} (ht : w.heap[tb]? = some (.cells (tkC k a.eb kd0 en0 n0 sn) 329 (0, 0))) (he : Env w a E) (kd c : Int) :
    Calls Tryz.prog 183 #[.pointer (some ⟨tb, 0, none⟩), .agg #[.int .u8 kd, .int .i64 0, .string ByteArray.empty, .int .u32 c]] w (ShowP w tb k a.eb kd E.num c) := by
  generalize hPQ : ShowP w tb k a.eb kd E.num c = PQ
  have HPQ := Lib.hid hPQ
  clear hPQ
  have hb : Below w.heap.size w (w.alloc (.cells (evC kd 0 c) 130)) := (Below.refl _ _).alloc (Nat.le_refl _) _
  have hbk := heap_alloc_new w (.cells (evC kd 0 c) 130)
  have ht1 := (hb.block _ (lt_of_block ht)).trans ht
  have HN := Lib.hid (Ev.num (he.below hb))
  have HL := Lib.hid (lt_of_block ht)
  have HB := Lib.hid hb
  have HBk := Lib.hid hbk
  have HT := Lib.hid ht1
  obtain ⟨c0, c1, _⟩ := tk_cells ht1
  clear ht he hb hbk ht1
  unfold evC at *
  go_enter Tryz.func183, Tryz.ntmps183
  go_wp2_with fail
  refine HN.out.mono ?_
  rintro r w1 ⟨rfl, rfl⟩
  go_upto_region 2 with (fail)
  have hb2 : Below w.heap.size w (w.alloc (.cells (evC kd E.num c) 130)) := (Below.refl _ _).alloc (Nat.le_refl _) _
  have ht2 : (w.alloc (.cells (evC kd E.num c) 130)).heap[tb]? = some (.cells (tkC k a.eb kd0 en0 n0 sn) 329 (0, 0)) := (Below.heap_alloc _ _ _ HL.out).trans ((HB.out.block _ HL.out).symm.trans HT.out)
  obtain ⟨y0, y1, y2, y3, _⟩ := ev_cells (heap_alloc_new w (.cells (evC kd E.num c) 130))
  obtain ⟨d0, d1, d2, d3, d4, d5, d6, df⟩ := tk_cells ht2
  have HB2 := Lib.hid hb2
  have HT2 := Lib.hid ht2
  unfold evC at *
  clear c0 c1 hb2 ht2 HN
  generalize (w.alloc (.cells #[.int .u8 kd, .int .i64 E.num, .string ByteArray.empty, .int .u32 c] 130)) = V at *
  go_wp2
  have hk9 : (((((V.setCell ⟨tb, 2, none⟩ (.int .u8 kd)).setCell ⟨tb, 3, none⟩ (.int .i64 E.num)).setCell ⟨tb, 4, none⟩ (.string ByteArray.empty)).setCell ⟨tb, 5, none⟩ (.int .u32 c)).setCell ⟨tb, 6, none⟩ (.bool true)).heap[tb]? = some (.cells (tkC k a.eb kd E.num c true) 329 (0, 0)) :=
    heap_setCell_same _ _ _ _ _ _ (heap_setCell_same _ _ _ _ _ _ (heap_setCell_same _ _ _ _ _ _ (heap_setCell_same _ _ _ _ _ _ (heap_setCell_same _ _ _ _ _ _ HT2.out))))
  have hm9 : Mod (fun k => k = tb) w (((((V.setCell ⟨tb, 2, none⟩ (.int .u8 kd)).setCell ⟨tb, 3, none⟩ (.int .i64 E.num)).setCell ⟨tb, 4, none⟩ (.string ByteArray.empty)).setCell ⟨tb, 5, none⟩ (.int .u32 c)).setCell ⟨tb, 6, none⟩ (.bool true)) :=
    (Mod.of_below HB2.out (fun k => k = tb)).same (Mod.setCell (F := fun k => k = tb) (Mod.setCell (F := fun k => k = tb) (Mod.setCell (F := fun k => k = tb) (Mod.setCell (F := fun k => k = tb) (Mod.setCell (F := fun k => k = tb) (Mod.refl _ _) ⟨tb, 2, none⟩ (.inl rfl) _) ⟨tb, 3, none⟩ (.inl rfl) _) ⟨tb, 4, none⟩ (.inl rfl) _) ⟨tb, 5, none⟩ (.inl rfl) _) ⟨tb, 6, none⟩ (.inl rfl) _)
  have hend : ShowP w tb k a.eb kd E.num c (.returned (.tuple #[])) _ := ⟨rfl, hm9, hk9⟩
  rw [HPQ.out] at hend
  first
    | exact hend
    | (go_end0; exact hend)
def DoP (w : World) (a : EAt) (E : En) (e : Ending) (w' : World) : Prop :=
  e = .returned (.tuple #[.agg #[.int .u8 3, .int .i64 E.num, .string ByteArray.empty, .int .u32 (E.arg 1)], .bool true, .int .i64 0]) ∧ Env w' a (E.exit (E.arg 1)) ∧ Mod (a.foot E.A) w w'
set_option maxRecDepth 100000 in
set_option maxHeartbeats 8000000 in
theorem doExit {w : World} {a : EAt} {E : En} (kp : Addr) (he : Env w a E) (hk : E.kind = 2) :
    Calls Tryz.prog 104 #[.pointer (some kp), .pointer (some ⟨a.eb, 0, none⟩), .int .u32 1] w (DoP w a E) := by
  generalize hPQ : DoP w a E = PQ
  have HPQ := Lib.hid hPQ
  clear hPQ
  have h0 : Below w.heap.size w (w.alloc (.cells (evC 0 0 0) 130)) := (Below.refl _ _).alloc (Nat.le_refl _) _
  have HK0 := Lib.hid (heap_alloc_new w (.cells (evC 0 0 0) 130))
  have HE0 := Lib.hid (he.below h0)
  have HSt := Lib.hid (Ev.state (he.below h0))
  rw [hk] at HSt
  have HFld := Lib.hid fun W => Ex.kind_field E.code E.why W
  have HFt := Lib.hid fun k hk => he.lt k hk
  have H0 := Lib.hid h0
  have HKd := Lib.hid hk
  clear he h0 hk
  unfold evC at *
  go_enter Tryz.func104, Tryz.ntmps104
  go_wp2_with fail
  refine HSt.out.mono ?_
  rintro e w2 ⟨rfl, hb2⟩
  have hf2 := HFld.out w2
  have HE2 := Lib.hid (HE0.out.below hb2)
  have HK2 := Lib.hid ((hb2.block _ (lt_of_block HK0.out)).trans HK0.out)
  have HB2 := Lib.hid (below_th H0.out hb2)
  clear hb2
  have hb3 : Below w2.heap.size w2 (w2.alloc (.cells (tkC (.pointer (some kp)) a.eb 0 0 0 false) 329)) := (Below.refl _ _).alloc (Nat.le_refl _) _
  have hk3 := heap_alloc_new w2 (.cells (tkC (.pointer (some kp)) a.eb 0 0 0 false) 329)
  have HE3 := Lib.hid (HE2.out.below hb3)
  have HK3 := Lib.hid ((hb3.block _ (lt_of_block HK2.out)).trans HK2.out)
  have HT3 := Lib.hid hk3
  have HA := Lib.hid (Ev.arg (HE2.out.below hb3) 1 (by decide) (by decide))
  have HX := Lib.hid (Ev.exit (HE2.out.below hb3) (E.arg 1))
  have HB3 := Lib.hid (below_th HB2.out hb3)
  have HZ := Lib.hid (And.intro (lt_of_block HK0.out) (And.intro HB2.out.size (lt_of_block HK2.out)))
  clear hb3 hk3 HSt
  go_wp2_with fail
  refine HA.out.mono ?_
  rintro e w4 ⟨rfl, rfl⟩
  go_wp2_with fail
  refine HX.out.mono ?_
  rintro e w4 ⟨rfl, hes⟩
  have HFt3 := Lib.hid fun k (hk : a.foot E.A k) => HFt.out k hk
  have hw2 := HZ.out.2.2
  have ht4 := (hes.mod.block _ (lt_of_block HT3.out) (fun q => by have := HFt.out _ q; have := HZ.out; omega)).trans HT3.out
  have hk4 := (hes.mod.block _ (lt_of_block HK3.out) (fun q => by have := HFt.out _ q; omega)).trans HK3.out
  have HSh := Lib.hid (show0 ht4 hes.env 3 (E.arg 1))
  have HE4 := Lib.hid hes.env
  have HM4 := Lib.hid ((Mod.of_below HB3.out (a.foot E.A)).same hes.mod)
  have HK4 := Lib.hid hk4
  have hnum : (E.exit (E.arg 1)).num = E.num := by unfold En.exit; split <;> rfl
  rw [hnum] at HSh
  clear hes ht4 hk4 hnum hw2
  go_wp2_with fail
  refine HSh.out.mono ?_
  rintro e w5 ⟨rfl, hm5, ht5⟩
  have hrt : w.heap.size ≠ w2.heap.size := by have := HZ.out.2.2; omega
  have hk5 := (hm5.block _ (lt_of_block HK4.out) hrt).trans HK4.out
  have HE5 := Lib.hid (HE4.out.keep hm5 fun k hk q => by
    have h1 : (E.exit (E.arg 1)).A = E.A := by unfold En.exit; split <;> rfl
    rw [h1] at hk
    have := HFt.out k hk
    have := HZ.out
    omega)
  have HM5 : Hid (Mod (a.foot E.A) w w5) := Lib.hid (HM4.out.trans hm5 fun k _ e => .inr (by have := HZ.out; omega))
  obtain ⟨t0, t1, t2, t3, t4, t5, t6, tf⟩ := tk_cells ht5
  have HT5 := Lib.hid ht5
  have HK5 := Lib.hid hk5
  have HRt := Lib.hid hrt
  clear hm5 ht5 hk5 hrt tf t0 t1
  go_wp2
  refine B (fun V => V.cell? ⟨w2.heap.size, 2, none⟩ = some (.int .u8 3) ∧ V.cell? ⟨w2.heap.size, 3, none⟩ = some (.int .i64 E.num) ∧ V.cell? ⟨w2.heap.size, 4, none⟩ = some (.string ByteArray.empty) ∧ V.cell? ⟨w2.heap.size, 5, none⟩ = some (.int .u32 (E.arg 1)) ∧ V.cell? ⟨w2.heap.size, 6, none⟩ = some (.bool true)) ⟨t2, t3, t4, t5, t6⟩ fun wd hwd hS => ?_
  have hkd : wd.heap[w.heap.size]? = some (.cells #[.int .u8 0, .int .i64 0, .string ByteArray.empty, .int .u32 0] 130 (0, 0)) := by rw [hwd]; exact HK5.out
  have HKd2 := Lib.hid hkd
  have htd : wd.heap[w2.heap.size]? = some (.cells (tkC (.pointer (some kp)) a.eb 3 E.num (E.arg 1) true) 329 (0, 0)) := by rw [hwd]; exact HT5.out
  have HTd := Lib.hid htd
  have HEd := Lib.hid (by rw [hwd]; exact HE5.out.below (Below.refl _ _).drew : Env wd a (E.exit (E.arg 1)))
  have HMd := Lib.hid (by rw [hwd]; exact HM5.out.drew : Mod (a.foot E.A) w wd)
  obtain ⟨r0, r1, r2, r3, rf⟩ := ev_cells (kd := 0) (en := 0) (c := 0) hkd
  have rf0 := rf 0
  have rf1 := rf 1
  have rf2 := rf 2
  have rf3 := rf 3
  clear hkd htd hwd t2 t3 t4 t5 t6 rf
  refine T 0 hS ?_
  refine T 1 hS ?_
  refine T 2 hS ?_
  refine T 3 hS ?_
  refine T 4 hS ?_
  refine T 5 hS ?_
  refine T 6 hS ?_
  refine T 7 hS ?_
  refine U 8 fun K hK => ?_
  go_simp
  have hk9 := heap_setCell_same _ _ 3 _ _ (.int .u32 (E.arg 1)) (heap_setCell_same _ _ 2 _ _ (.string ByteArray.empty) (heap_setCell_same _ _ 1 _ _ (.int .i64 E.num) (heap_setCell_same _ _ 0 _ _ (.int .u8 3) HKd2.out)))
  have hm9 : Mod (fun k => k = w.heap.size) wd ((((wd.setCell ⟨w.heap.size, 0, none⟩ (.int .u8 3)).setCell ⟨w.heap.size, 1, none⟩ (.int .i64 E.num)).setCell ⟨w.heap.size, 2, none⟩ (.string ByteArray.empty)).setCell ⟨w.heap.size, 3, none⟩ (.int .u32 (E.arg 1))) :=
    Mod.setCell (F := fun k => k = w.heap.size) (Mod.setCell (F := fun k => k = w.heap.size) (Mod.setCell (F := fun k => k = w.heap.size) (Mod.setCell (F := fun k => k = w.heap.size) (Mod.refl _ _) ⟨w.heap.size, 0, none⟩ (.inl rfl) _) ⟨w.heap.size, 1, none⟩ (.inl rfl) _) ⟨w.heap.size, 2, none⟩ (.inl rfl) _) ⟨w.heap.size, 3, none⟩ (.inl rfl) _
  clear r0 r1 r2 r3 rf0 rf1 rf2 rf3
  generalize (((wd.setCell ⟨w.heap.size, 0, none⟩ (.int .u8 3)).setCell ⟨w.heap.size, 1, none⟩ (.int .i64 E.num)).setCell ⟨w.heap.size, 2, none⟩ (.string ByteArray.empty)).setCell ⟨w.heap.size, 3, none⟩ (.int .u32 (E.arg 1)) = w9 at *
  have hS9 := tk_cells ((hm9.block _ (lt_of_block HTd.out) (fun e => HRt.out e.symm)).trans HTd.out)
  have hS9' := And.intro hS9.2.2.1 (And.intro hS9.2.2.2.1 (And.intro hS9.2.2.2.2.1 (And.intro hS9.2.2.2.2.2.1 hS9.2.2.2.2.2.2.1)))
  have HK9 := Lib.hid hk9
  have HM9 := Lib.hid hm9
  clear hk9 hm9 hS hS9
  refine V hK hS9' ?_; clear hK K
  refine T 9 hS9' ?_
  refine T 10 hS9' ?_
  refine wpAnyH_done (by kernel_rfl) ?_ _
  clear hS9'
  have hend : DoP w a E (.returned (.tuple #[.agg #[.int .u8 3, .int .i64 E.num, .string ByteArray.empty, .int .u32 (E.arg 1)], .bool true, .int .i64 0])) w9 := by
    have h1 : (E.exit (E.arg 1)).A = E.A := by unfold En.exit; split <;> rfl
    exact ⟨rfl, HEd.out.keep HM9.out fun k hk q => by rw [h1] at hk; have := HFt.out k hk; omega, HMd.out.trans HM9.out fun k _ e => .inr (by omega)⟩
  rw [HPQ.out] at hend
  have HE9 := Lib.hid hend
  clear hend
  go_wp2
  obtain ⟨y0, y1, y2, y3, _⟩ := ev_cells (kd := 3) (en := E.num) (c := E.arg 1) HK9.out
  refine bodyPost_ret (v := .tuple #[.agg #[.int .u8 3, .int .i64 E.num, .string ByteArray.empty, .int .u32 (E.arg 1)], .bool true, .int .i64 0]) (by simp [results, Tryz.results104, go_sem, y0, y1, y2, y3]) rfl ?_
  exact HE9.out
end Kx
end Go.Proofs.YtdmoohiepnbdaaaGreat
