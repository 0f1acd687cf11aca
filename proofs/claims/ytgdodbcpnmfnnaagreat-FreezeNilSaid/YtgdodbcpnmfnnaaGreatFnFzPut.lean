/- FzPut, FzQ, FzA, FzC in one text. -/
import Derived.Test.YtgdodbcpnmfnnaaGreatFnRd22
import Derived.Deep.MidRow
import Derived.Test.YtgdodbcpnmfnnaaGreatFnGraG
import Derived.Test.YtgdodbcpnmfnnaaGreatFnEnvN
namespace Go.Proofs.YtgdodbcpnmfnnaaGreat.Fz
open Go.RowKit Word
set_option linter.unusedVariables false
set_option linter.unusedSimpArgs false
theorem Bld.lt {w : World} {B b : Nat} {s : ByteArray} (h : Bld w B b s) : b < w.heap.size := by
  rcases h with ⟨_, v, hv, _⟩ | ⟨_, v, hv, _⟩ <;> exact lt_of_block hv
def hdL (x : Fr) : List UInt8 := [65, 70, 90, 49] ++ (pL x.pc 4 ++ (bytesL 4 (regL x.r) ++ (manL x.m ++ pL x.sp.length 2)))
def ptRel (w0 : World) (b : Nat) (x : Fr) (vi : Value) (wr : World) : Prop := ∃ (i : Nat) (s : ByteArray), i ≤ x.sp.length ∧ vi = .int .i64 i ∧ Bld wr b b s ∧ tl s = hdL x ++ (x.sp.take i).flatMap pageL ∧ s.size = 77 + 262 * i ∧ Below w0.heap.size w0 wr ∧ b ≤ wr.heap.size
set_option maxRecDepth 100000 in
set_option maxHeartbeats 8000000 in
theorem put {w : World} {x : Fr} {ev pv sv : Value} (h : FrIn w x ev pv sv) (ho : x.ok) (hm : x.may) (hl : x.sp.length < 65536) (he : x.m.ext = []) (hq : x.m.ports = []) :
    Calls Tryz.prog 75 #[.agg (x.arr ev pv sv)] w fun e w' => ∃ s, e = .returned (.tuple #[.string s, .int .i64 0]) ∧ tl s = putL' x ∧ Below w.heap.size w w' := by
  obtain ⟨so, sc, rfl⟩ := h.s.form
  obtain ⟨eo, ec, hev⟩ := h.m.e.form
  obtain ⟨po, pc', hpv⟩ := h.m.p.form
  rw [he] at hev
  rw [hq] at hpv
  simp only [List.length_nil] at hev hpv
  subst hev
  subst hpv
  have hb : Below w.heap.size w (w.alloc (.cells (x.arr (.slice eo 0 ec) (.slice po 0 pc') (.slice so x.sp.length sc)) 49)) := (Below.refl _ _).alloc (Nat.le_refl _) _
  have hx : FBox (w.alloc (.cells (x.arr (.slice eo 0 ec) (.slice po 0 pc') (.slice so x.sp.length sc)) 49)) w.heap.size x (.slice eo 0 ec) (.slice po 0 pc') (.slice so x.sp.length sc) := heap_alloc_new w _
  have h1 := h.below hb
  obtain ⟨w0, hw0⟩ : ∃ w0, w.alloc (.cells (x.arr (.slice eo 0 ec) (.slice po 0 pc') (.slice so x.sp.length sc)) 49) = w0 := ⟨_, rfl⟩
  obtain ⟨xb, hxb⟩ : ∃ b, w.heap.size = b := ⟨_, rfl⟩
  rw [hw0] at hb hx h1
  rw [hxb] at hx
  have HB0 := Lib.hid hb
  have HX := Lib.hid hx
  have HI := Lib.hid fun V (hV : Below w0.heap.size w0 V) => h1.below hV
  have HC : Hid (∀ V, Below w0.heap.size w0 V → ∀ j v, (x.arr (.slice eo 0 ec) (.slice po 0 pc') (.slice so x.sp.length sc))[j]? = some v → V.cell? ⟨xb, j, none⟩ = some v) := Lib.hid fun V hV j v hv => (HX.out.keep (Mod.of_below hV fun _ => False) id).cell j v hv
  have HCk := Lib.hid (check h1 ho hm (by omega))
  have HM := Lib.hid hm
  have HO := Lib.hid ho
  have HL := Lib.hid hl
  have HE := Lib.hid (And.intro he hq)
  clear h h1 ho hm hl he hq hb hx
  generalize hPQ : (fun (e : Ending) (w' : World) => ∃ s, e = .returned (.tuple #[.string s, .int .i64 0]) ∧ tl s = putL' x ∧ Below w.heap.size w w') = PQ
  have HPQ : Hid (∀ s V, tl s = putL' x → Below w0.heap.size w0 V → PQ (.returned (.tuple #[.string s, .int .i64 0])) V) := Lib.hid fun s V h1 h2 => by rw [← hPQ]; exact ⟨s, rfl, h1, below_th HB0.out h2⟩
  clear hPQ
  have hra : w0.rangeAt xb 0 (x.arr (.slice eo 0 ec) (.slice po 0 pc') (.slice so x.sp.length sc)).toList := fun j v hv => by rw [Nat.zero_add]; exact HX.out.cell j v (by rw [← Array.getElem?_toList]; exact hv)
  have HRa := Lib.hid hra
  have hsi : (Tryz.prog.info? 49).map (·.size) = some (x.arr (.slice eo 0 ec) (.slice po 0 pc') (.slice so x.sp.length sc)).toList.length := by kernel_rfl
  have HSi := Lib.hid hsi
  clear hra hsi
  unfold Fr.arr at hw0 HCk HRa HSi ⊢
  go_enter Tryz.func75, Tryz.ntmps75
  go_upto_region 1 with (fail)
  try rw [hw0]
  try rw [hxb]
  clear hw0 hxb
  go_wp2_with (refine wpList_load_mid rfl 49 _ rfl xb 0 rfl _ _ HRa.out Tryz.underlying49 rfl HSi.out ?_)
  refine HCk.out.mono ?_
  rintro e w1' ⟨rfl, hb1⟩
  have hbb : Below w1'.heap.size w1' (w1'.alloc (.cells #[.pointer none, .slice none 0 0] 301)) := (Below.refl _ _).alloc (Nat.le_refl _) _
  have hxx := heap_alloc_new w1' (.cells #[.pointer none, .slice none 0 0] 301)
  have hbl : Bld (w1'.alloc (.cells #[.pointer none, .slice none 0 0] 301)) w1'.heap.size w1'.heap.size ByteArray.empty := Bld.new hxx (Nat.le_refl _)
  have HB1 := Lib.hid (below_th hb1 hbb)
  have HBl := Lib.hid hbl
  have hsz : w0.heap.size ≤ w1'.heap.size := hb1.size
  have hlb : w1'.heap.size ≤ (w1'.alloc (.cells #[.pointer none, .slice none 0 0] 301)).heap.size := hbb.size
  obtain ⟨w1, hw1⟩ : ∃ y, w1'.alloc (.cells #[.pointer none, .slice none 0 0] 301) = y := ⟨_, rfl⟩
  obtain ⟨b, hbe⟩ : ∃ y, w1'.heap.size = y := ⟨_, rfl⟩
  rw [hw1] at HB1 HBl hlb
  rw [hbe] at HBl hsz hlb
  have HSz := Lib.hid hsz
  have HLb := Lib.hid hlb
  clear hb1 hbb hxx hbl hsz HCk
  go_wp2_with fail
  try rw [hw1]
  try rw [hbe]
  clear hw1 hbe
  have HS : Hid (∀ V, Below w1.heap.size w1 V → V.cell? ⟨xb, 0, none⟩ = some (.int .u32 x.m.pages) ∧ V.cell? ⟨xb, 1, none⟩ = some (.slice eo 0 ec) ∧ V.cell? ⟨xb, 2, none⟩ = some (.slice po 0 pc') ∧ V.cell? ⟨xb, 3, none⟩ = some (.bool x.m.con) ∧ V.cell? ⟨xb, 20, none⟩ = some (.int .u32 x.pc) ∧ V.cell? ⟨xb, 21, none⟩ = some (.slice so x.sp.length sc) ∧ V.cell? ⟨xb, 22, none⟩ = some (.string x.text) ∧ True) := Lib.hid fun V hV => by
    have c := HC.out V (below_th HB1.out hV)
    exact ⟨c 0 _ rfl, c 1 _ rfl, c 2 _ rfl, c 3 _ rfl, c 20 _ rfl, c 21 _ rfl, c 22 _ rfl, trivial⟩
  have HS0 : Hid (∀ V, Below w0.heap.size w0 V → V.cell? ⟨xb, 0, none⟩ = some (.int .u32 x.m.pages) ∧ V.cell? ⟨xb, 1, none⟩ = some (.slice eo 0 ec) ∧ V.cell? ⟨xb, 2, none⟩ = some (.slice po 0 pc') ∧ V.cell? ⟨xb, 3, none⟩ = some (.bool x.m.con) ∧ V.cell? ⟨xb, 20, none⟩ = some (.int .u32 x.pc) ∧ V.cell? ⟨xb, 21, none⟩ = some (.slice so x.sp.length sc) ∧ V.cell? ⟨xb, 22, none⟩ = some (.string x.text) ∧ True) := Lib.hid fun V hV => by
    have c := HC.out V hV
    exact ⟨c 0 _ rfl, c 1 _ rfl, c 2 _ rfl, c 3 _ rfl, c 20 _ rfl, c 21 _ rfl, c 22 _ rfl, trivial⟩
  have HPc : Hid (fitN x.pc 4) := Lib.hid ⟨HO.out.c.1, by have := HO.out.c.2; show x.pc < 256 ^ 4; omega⟩
  have HRg : Hid (∀ V, Below w1.heap.size w1 V → Calls Tryz.prog 173 #[.int .i64 4, .slice (some ⟨xb, 5, none⟩) 15 15] V fun e w' => ∃ s, e = .returned (.string s) ∧ tl s = bytesL 4 (regL x.r) ∧ Below V.heap.size V w') := Lib.hid fun V hV => by
    have c := HC.out V (below_th HB1.out hV)
    refine bytes (w := V) 4 (.inr (.inr rfl)) (regL x.r) (by simp [regL]) (fun z hz => ?_) (a := some ⟨xb, 5, none⟩) (c := 15) fun j hj => ⟨xb, 5, rfl, ?_⟩
    · have : ∃ k, z = x.r k := by
        simp [regL] at hz
        rcases hz with h | h | h | h | h | h | h | h | h | h | h | h | h | h | h <;> exact ⟨_, h⟩
      obtain ⟨k, rfl⟩ := this
      have := HO.out.r k
      exact ⟨this.1, by show x.r k < 256 ^ 4; omega⟩
    · have hj : j < 15 := hj
      have hq := c (4 + (j + 1)) _ (arr_getr x _ _ _ (j + 1) (by omega))
      rw [show 4 + (j + 1) = 5 + j by omega] at hq
      rw [hq]
      congr 2
      have : j = 0 ∨ j = 1 ∨ j = 2 ∨ j = 3 ∨ j = 4 ∨ j = 5 ∨ j = 6 ∨ j = 7 ∨ j = 8 ∨ j = 9 ∨ j = 10 ∨ j = 11 ∨ j = 12 ∨ j = 13 ∨ j = 14 := by omega
      rcases this with rfl | rfl | rfl | rfl | rfl | rfl | rfl | rfl | rfl | rfl | rfl | rfl | rfl | rfl | rfl <;> rfl
  have HMf : Hid (∀ V, Below w1.heap.size w1 V → Calls Tryz.prog 174 #[.agg #[.int .u32 x.m.pages, .slice eo 0 ec, .slice po 0 pc', .bool x.m.con]] V fun e w' => ∃ s, e = .returned (.string s) ∧ tl s = pL x.m.pages 4 ++ (pL 0 1 ++ (pL 0 1 ++ pL (bit01 x.m.con) 1)) ∧ Below V.heap.size V w') := Lib.hid fun V hV => manifest0 ⟨HO.out.m.p0, by have := HO.out.m.p1; show x.m.pages < 256 ^ 4; omega⟩
  have HLn : Hid (fitN x.sp.length 2) := Lib.hid ⟨by omega, by have := HL.out; show (x.sp.length : Int) < 256 ^ 2; omega⟩
  have iwl : IntKind.u32.wrap (x.sp.length : Int) = x.sp.length := by have := HL.out; rw [IntKind.wrap_u32]; omega
  go_cut [35] (fun _ wx => ptRel w0 b x (.int .i64 0) wx)
  case first =>
    refine B (fun V => V.cell? ⟨xb, 0, none⟩ = some (.int .u32 x.m.pages) ∧ V.cell? ⟨xb, 1, none⟩ = some (.slice eo 0 ec) ∧ V.cell? ⟨xb, 2, none⟩ = some (.slice po 0 pc') ∧ V.cell? ⟨xb, 3, none⟩ = some (.bool x.m.con) ∧ V.cell? ⟨xb, 20, none⟩ = some (.int .u32 x.pc) ∧ V.cell? ⟨xb, 21, none⟩ = some (.slice so x.sp.length sc) ∧ V.cell? ⟨xb, 22, none⟩ = some (.string x.text) ∧ True) (HS.out _ (Below.refl _ _).drew) ?_
    intro wd hwd hS
    have HBd : Hid (Below w1.heap.size w1 wd) := Lib.hid (by subst hwd; exact (Below.refl _ _).drew)
    clear hwd
    refine T 0 hS ?_
    refine T 1 hS ?_
    refine T 5 hS ?_
    refine T 6 hS ?_
    refine T 9 hS ?_
    refine T 10 hS ?_
    refine T 13 hS ?_
    refine T 14 hS ?_
    refine T 15 hS ?_
    refine T 16 hS ?_
    refine U2 2 17 (fun K' hK => ?g1) (fun K' hK => ?g2)
    case' g1 =>
      go_simp
      have hb2 := below_th HBd.out ((Below.refl _ _).alloc (Nat.le_refl _) (.cells #[.int .u32 x.pc] 41))
      have hx2 := heap_alloc_new wd (.cells #[.int .u32 x.pc] 41)
      have hr2 := (Below.refl wd.heap.size wd).alloc (Nat.le_refl _) (.cells #[.int .u32 x.pc] 41)
      obtain ⟨q2, hq2⟩ : ∃ q, wd.heap.size = q := ⟨_, rfl⟩
      obtain ⟨wa, hwa⟩ : ∃ y, wd.alloc (.cells #[.int .u32 x.pc] 41) = y := ⟨_, rfl⟩
      rw [hwa] at hb2 hx2 hr2 ⊢
      rw [hq2] at hx2 ⊢
      have HBa := Lib.hid hb2
      have HX2 := Lib.hid hx2
      have hSa := HS.out _ hb2
      clear hb2 hx2 hwa hq2 hr2
      refine V hK hSa ?_; clear hK K'
      refine U2 3 17 (fun K' hK => ?g3) (fun K' hK => ?g4)
    case' g3 =>
      go_simp
      go_at_call 173
      refine (bytesAt 4 (.inr (.inr rfl)) HPc.out HX2.out).mono ?_
      rintro e v1 ⟨s1, rfl, hs1, hb1⟩
      have HS1 := Lib.hid hs1
      have HBv1 := Lib.hid (below_th HBa.out hb1)
      have hS1 := HS.out _ HBv1.out
      clear hs1 hb1
      refine V hK hS1 ?_; clear hK K'
      have z1 : s1.size = 4 := by rw [← tl_len, HS1.out]; exact pL_len _ _ (by decide)
      have ov1 : ¬ (9223372036854775807 < ({ data := #[65, 70, 90, 49] } : ByteArray).size + s1.size) := by rw [z1]; decide
      refine T 4 hS1 ?_
      refine U2 7 17 (fun K' hK => ?g5) (fun K' hK => ?g6)
    case' g5 =>
      go_simp
      go_at_call 173
      refine (HRg.out v1 HBv1.out).mono ?_
      rintro e v2 ⟨s2, rfl, hs2, hb2⟩
      have HS2 := Lib.hid hs2
      have HBv2 := Lib.hid (below_th HBv1.out hb2)
      have hS2 := HS.out _ HBv2.out
      clear hs2 hb2
      refine V hK hS2 ?_; clear hK K'
      have z2 : s2.size = 60 := by rw [← tl_len, HS2.out, bytesL_len 4 (by decide)]; rfl
      have ov2 : ¬ (9223372036854775807 < ({ data := #[65, 70, 90, 49] } ++ s1 : ByteArray).size + s2.size) := by rw [ByteArray.size_append, z1, z2]; decide
      refine T 8 hS2 ?_
      refine U2 11 17 (fun K' hK => ?g7) (fun K' hK => ?g8)
    case' g7 =>
      go_simp
      go_at_call 174
      refine (HMf.out v2 HBv2.out).mono ?_
      rintro e v3 ⟨s3, rfl, hs3, hb3⟩
      have HS3 := Lib.hid hs3
      have HBv3 := Lib.hid (below_th HBv2.out hb3)
      have hS3 := HS.out _ HBv3.out
      clear hs3 hb3
      refine V hK hS3 ?_; clear hK K'
      have z3 : s3.size = 7 := by rw [← tl_len, HS3.out]; simp [pL_len]
      have ov3 : ¬ (9223372036854775807 < ({ data := #[65, 70, 90, 49] } ++ s1 ++ s2 : ByteArray).size + s3.size) := by rw [ByteArray.size_append, ByteArray.size_append, z1, z2, z3]; decide
      refine T 12 hS3 ?_
      refine U 17 fun K' hK => ?_
      go_simp
      have hb7 := below_th HBv3.out ((Below.refl _ _).alloc (Nat.le_refl _) (.cells #[.int .u32 (x.sp.length : Int)] 41))
      have hx7 := heap_alloc_new v3 (.cells #[.int .u32 (x.sp.length : Int)] 41)
      have hr7 := (Below.refl v3.heap.size v3).alloc (Nat.le_refl _) (.cells #[.int .u32 (x.sp.length : Int)] 41)
      obtain ⟨q7, hq7⟩ : ∃ q, v3.heap.size = q := ⟨_, rfl⟩
      obtain ⟨wx, hwx⟩ : ∃ y, v3.alloc (.cells #[.int .u32 (x.sp.length : Int)] 41) = y := ⟨_, rfl⟩
      rw [hwx] at hb7 hx7 hr7 ⊢
      rw [hq7] at hx7 ⊢
      have HBx := Lib.hid hb7
      have HX7 := Lib.hid hx7
      have hSx := HS.out _ hb7
      clear hb7 hx7 hwx hq7 hr7
      refine V hK hSx ?_; clear hK K'
      have HBe := Lib.hid HBx.out
      have hSe := HS.out _ HBe.out
      have hwe : ∃ we, we = wx := ⟨_, rfl⟩
      obtain ⟨we, hwe⟩ := hwe
      rw [← hwe] at HBe HX7 hSe ⊢
      clear hwe
    case' g8 =>
      go_simp
      have hb7 := below_th HBv2.out ((Below.refl _ _).alloc (Nat.le_refl _) (.cells #[.int .u32 (x.sp.length : Int)] 41))
      have hx7 := heap_alloc_new v2 (.cells #[.int .u32 (x.sp.length : Int)] 41)
      have hr7 := (Below.refl v2.heap.size v2).alloc (Nat.le_refl _) (.cells #[.int .u32 (x.sp.length : Int)] 41)
      obtain ⟨q7, hq7⟩ : ∃ q, v2.heap.size = q := ⟨_, rfl⟩
      obtain ⟨wx, hwx⟩ : ∃ y, v2.alloc (.cells #[.int .u32 (x.sp.length : Int)] 41) = y := ⟨_, rfl⟩
      rw [hwx] at hb7 hx7 hr7 ⊢
      rw [hq7] at hx7 ⊢
      have HBx := Lib.hid hb7
      have HX7 := Lib.hid hx7
      have hSx := HS.out _ hb7
      clear hb7 hx7 hwx hq7 hr7
      refine V hK hSx ?_; clear hK K'
      refine U 11 fun K' hK => ?_
      go_simp
      go_at_call 174
      refine (HMf.out wx HBx.out).mono ?_
      rintro e v3 ⟨s3, rfl, hs3, hb3⟩
      have HS3 := Lib.hid hs3
      have HBv3 := Lib.hid (below_th HBx.out hb3)
      have hS3 := HS.out _ HBv3.out
      have HX7 := Lib.hid ((hb3.block _ (lt_of_block HX7.out)).trans HX7.out)
      clear hs3 hb3
      refine V hK hS3 ?_; clear hK K'
      have z3 : s3.size = 7 := by rw [← tl_len, HS3.out]; simp [pL_len]
      have ov3 : ¬ (9223372036854775807 < ({ data := #[65, 70, 90, 49] } ++ s1 ++ s2 : ByteArray).size + s3.size) := by rw [ByteArray.size_append, ByteArray.size_append, z1, z2, z3]; decide
      refine T 12 hS3 ?_
      have HBe := Lib.hid HBv3.out
      have hSe := HS.out _ HBe.out
      have hwe : ∃ we, we = v3 := ⟨_, rfl⟩
      obtain ⟨we, hwe⟩ := hwe
      rw [← hwe] at HBe HX7 hSe ⊢
      clear hwe
    case' g6 =>
      go_simp
      have hb7 := below_th HBv1.out ((Below.refl _ _).alloc (Nat.le_refl _) (.cells #[.int .u32 (x.sp.length : Int)] 41))
      have hx7 := heap_alloc_new v1 (.cells #[.int .u32 (x.sp.length : Int)] 41)
      have hr7 := (Below.refl v1.heap.size v1).alloc (Nat.le_refl _) (.cells #[.int .u32 (x.sp.length : Int)] 41)
      obtain ⟨q7, hq7⟩ : ∃ q, v1.heap.size = q := ⟨_, rfl⟩
      obtain ⟨wx, hwx⟩ : ∃ y, v1.alloc (.cells #[.int .u32 (x.sp.length : Int)] 41) = y := ⟨_, rfl⟩
      rw [hwx] at hb7 hx7 hr7 ⊢
      rw [hq7] at hx7 ⊢
      have HBx := Lib.hid hb7
      have HX7 := Lib.hid hx7
      have hSx := HS.out _ hb7
      clear hb7 hx7 hwx hq7 hr7
      refine V hK hSx ?_; clear hK K'
      refine U 7 fun K' hK => ?_
      go_simp
      go_at_call 173
      refine (HRg.out wx HBx.out).mono ?_
      rintro e v2 ⟨s2, rfl, hs2, hb2⟩
      have HS2 := Lib.hid hs2
      have HBv2 := Lib.hid (below_th HBx.out hb2)
      have hS2 := HS.out _ HBv2.out
      have HX7 := Lib.hid ((hb2.block _ (lt_of_block HX7.out)).trans HX7.out)
      clear hs2 hb2
      refine V hK hS2 ?_; clear hK K'
      have z2 : s2.size = 60 := by rw [← tl_len, HS2.out, bytesL_len 4 (by decide)]; rfl
      have ov2 : ¬ (9223372036854775807 < ({ data := #[65, 70, 90, 49] } ++ s1 : ByteArray).size + s2.size) := by rw [ByteArray.size_append, z1, z2]; decide
      refine T 8 hS2 ?_
      refine U 11 fun K' hK => ?_
      go_simp
      go_at_call 174
      refine (HMf.out v2 HBv2.out).mono ?_
      rintro e v3 ⟨s3, rfl, hs3, hb3⟩
      have HS3 := Lib.hid hs3
      have HBv3 := Lib.hid (below_th HBv2.out hb3)
      have hS3 := HS.out _ HBv3.out
      have HX7 := Lib.hid ((hb3.block _ (lt_of_block HX7.out)).trans HX7.out)
      clear hs3 hb3
      refine V hK hS3 ?_; clear hK K'
      have z3 : s3.size = 7 := by rw [← tl_len, HS3.out]; simp [pL_len]
      have ov3 : ¬ (9223372036854775807 < ({ data := #[65, 70, 90, 49] } ++ s1 ++ s2 : ByteArray).size + s3.size) := by rw [ByteArray.size_append, ByteArray.size_append, z1, z2, z3]; decide
      refine T 12 hS3 ?_
      have HBe := Lib.hid HBv3.out
      have hSe := HS.out _ HBe.out
      have hwe : ∃ we, we = v3 := ⟨_, rfl⟩
      obtain ⟨we, hwe⟩ := hwe
      rw [← hwe] at HBe HX7 hSe ⊢
      clear hwe
    case' g4 =>
      go_simp
      have hb7 := below_th HBa.out ((Below.refl _ _).alloc (Nat.le_refl _) (.cells #[.int .u32 (x.sp.length : Int)] 41))
      have hx7 := heap_alloc_new wa (.cells #[.int .u32 (x.sp.length : Int)] 41)
      have hr7 := (Below.refl wa.heap.size wa).alloc (Nat.le_refl _) (.cells #[.int .u32 (x.sp.length : Int)] 41)
      obtain ⟨q7, hq7⟩ : ∃ q, wa.heap.size = q := ⟨_, rfl⟩
      obtain ⟨wx, hwx⟩ : ∃ y, wa.alloc (.cells #[.int .u32 (x.sp.length : Int)] 41) = y := ⟨_, rfl⟩
      rw [hwx] at hb7 hx7 hr7 ⊢
      rw [hq7] at hx7 ⊢
      have HBx := Lib.hid hb7
      have HX7 := Lib.hid hx7
      have hSx := HS.out _ hb7
      have HX2 := Lib.hid ((hr7.block _ (lt_of_block HX2.out)).trans HX2.out)
      clear hb7 hx7 hwx hq7 hr7
      refine V hK hSx ?_; clear hK K'
      refine U 3 fun K' hK => ?_
      go_simp
      go_at_call 173
      refine (bytesAt 4 (.inr (.inr rfl)) HPc.out HX2.out).mono ?_
      rintro e v1 ⟨s1, rfl, hs1, hb1⟩
      have HS1 := Lib.hid hs1
      have HBv1 := Lib.hid (below_th HBx.out hb1)
      have hS1 := HS.out _ HBv1.out
      have HX7 := Lib.hid ((hb1.block _ (lt_of_block HX7.out)).trans HX7.out)
      clear hs1 hb1
      refine V hK hS1 ?_; clear hK K'
      have z1 : s1.size = 4 := by rw [← tl_len, HS1.out]; exact pL_len _ _ (by decide)
      have ov1 : ¬ (9223372036854775807 < ({ data := #[65, 70, 90, 49] } : ByteArray).size + s1.size) := by rw [z1]; decide
      refine T 4 hS1 ?_
      refine U 7 fun K' hK => ?_
      go_simp
      go_at_call 173
      refine (HRg.out v1 HBv1.out).mono ?_
      rintro e v2 ⟨s2, rfl, hs2, hb2⟩
      have HS2 := Lib.hid hs2
      have HBv2 := Lib.hid (below_th HBv1.out hb2)
      have hS2 := HS.out _ HBv2.out
      have HX7 := Lib.hid ((hb2.block _ (lt_of_block HX7.out)).trans HX7.out)
      clear hs2 hb2
      refine V hK hS2 ?_; clear hK K'
      have z2 : s2.size = 60 := by rw [← tl_len, HS2.out, bytesL_len 4 (by decide)]; rfl
      have ov2 : ¬ (9223372036854775807 < ({ data := #[65, 70, 90, 49] } ++ s1 : ByteArray).size + s2.size) := by rw [ByteArray.size_append, z1, z2]; decide
      refine T 8 hS2 ?_
      refine U 11 fun K' hK => ?_
      go_simp
      go_at_call 174
      refine (HMf.out v2 HBv2.out).mono ?_
      rintro e v3 ⟨s3, rfl, hs3, hb3⟩
      have HS3 := Lib.hid hs3
      have HBv3 := Lib.hid (below_th HBv2.out hb3)
      have hS3 := HS.out _ HBv3.out
      have HX7 := Lib.hid ((hb3.block _ (lt_of_block HX7.out)).trans HX7.out)
      clear hs3 hb3
      refine V hK hS3 ?_; clear hK K'
      have z3 : s3.size = 7 := by rw [← tl_len, HS3.out]; simp [pL_len]
      have ov3 : ¬ (9223372036854775807 < ({ data := #[65, 70, 90, 49] } ++ s1 ++ s2 : ByteArray).size + s3.size) := by rw [ByteArray.size_append, ByteArray.size_append, z1, z2, z3]; decide
      refine T 12 hS3 ?_
      have HBe := Lib.hid HBv3.out
      have hSe := HS.out _ HBe.out
      have hwe : ∃ we, we = v3 := ⟨_, rfl⟩
      obtain ⟨we, hwe⟩ := hwe
      rw [← hwe] at HBe HX7 hSe ⊢
      clear hwe
    case' g2 =>
      go_simp
      have hb7 := below_th HBd.out ((Below.refl _ _).alloc (Nat.le_refl _) (.cells #[.int .u32 (x.sp.length : Int)] 41))
      have hx7 := heap_alloc_new wd (.cells #[.int .u32 (x.sp.length : Int)] 41)
      have hr7 := (Below.refl wd.heap.size wd).alloc (Nat.le_refl _) (.cells #[.int .u32 (x.sp.length : Int)] 41)
      obtain ⟨q7, hq7⟩ : ∃ q, wd.heap.size = q := ⟨_, rfl⟩
      obtain ⟨wx, hwx⟩ : ∃ y, wd.alloc (.cells #[.int .u32 (x.sp.length : Int)] 41) = y := ⟨_, rfl⟩
      rw [hwx] at hb7 hx7 hr7 ⊢
      rw [hq7] at hx7 ⊢
      have HBx := Lib.hid hb7
      have HX7 := Lib.hid hx7
      have hSx := HS.out _ hb7
      clear hb7 hx7 hwx hq7 hr7
      refine V hK hSx ?_; clear hK K'
      refine U 2 fun K' hK => ?_
      go_simp
      have hb2 := below_th HBx.out ((Below.refl _ _).alloc (Nat.le_refl _) (.cells #[.int .u32 x.pc] 41))
      have hx2 := heap_alloc_new wx (.cells #[.int .u32 x.pc] 41)
      have hr2 := (Below.refl wx.heap.size wx).alloc (Nat.le_refl _) (.cells #[.int .u32 x.pc] 41)
      obtain ⟨q2, hq2⟩ : ∃ q, wx.heap.size = q := ⟨_, rfl⟩
      obtain ⟨wa, hwa⟩ : ∃ y, wx.alloc (.cells #[.int .u32 x.pc] 41) = y := ⟨_, rfl⟩
      rw [hwa] at hb2 hx2 hr2 ⊢
      rw [hq2] at hx2 ⊢
      have HBa := Lib.hid hb2
      have HX2 := Lib.hid hx2
      have hSa := HS.out _ hb2
      have HX7 := Lib.hid ((hr2.block _ (lt_of_block HX7.out)).trans HX7.out)
      clear hb2 hx2 hwa hq2 hr2
      refine V hK hSa ?_; clear hK K'
      refine U 3 fun K' hK => ?_
      go_simp
      go_at_call 173
      refine (bytesAt 4 (.inr (.inr rfl)) HPc.out HX2.out).mono ?_
      rintro e v1 ⟨s1, rfl, hs1, hb1⟩
      have HS1 := Lib.hid hs1
      have HBv1 := Lib.hid (below_th HBa.out hb1)
      have hS1 := HS.out _ HBv1.out
      have HX7 := Lib.hid ((hb1.block _ (lt_of_block HX7.out)).trans HX7.out)
      clear hs1 hb1
      refine V hK hS1 ?_; clear hK K'
      have z1 : s1.size = 4 := by rw [← tl_len, HS1.out]; exact pL_len _ _ (by decide)
      have ov1 : ¬ (9223372036854775807 < ({ data := #[65, 70, 90, 49] } : ByteArray).size + s1.size) := by rw [z1]; decide
      refine T 4 hS1 ?_
      refine U 7 fun K' hK => ?_
      go_simp
      go_at_call 173
      refine (HRg.out v1 HBv1.out).mono ?_
      rintro e v2 ⟨s2, rfl, hs2, hb2⟩
      have HS2 := Lib.hid hs2
      have HBv2 := Lib.hid (below_th HBv1.out hb2)
      have hS2 := HS.out _ HBv2.out
      have HX7 := Lib.hid ((hb2.block _ (lt_of_block HX7.out)).trans HX7.out)
      clear hs2 hb2
      refine V hK hS2 ?_; clear hK K'
      have z2 : s2.size = 60 := by rw [← tl_len, HS2.out, bytesL_len 4 (by decide)]; rfl
      have ov2 : ¬ (9223372036854775807 < ({ data := #[65, 70, 90, 49] } ++ s1 : ByteArray).size + s2.size) := by rw [ByteArray.size_append, z1, z2]; decide
      refine T 8 hS2 ?_
      refine U 11 fun K' hK => ?_
      go_simp
      go_at_call 174
      refine (HMf.out v2 HBv2.out).mono ?_
      rintro e v3 ⟨s3, rfl, hs3, hb3⟩
      have HS3 := Lib.hid hs3
      have HBv3 := Lib.hid (below_th HBv2.out hb3)
      have hS3 := HS.out _ HBv3.out
      have HX7 := Lib.hid ((hb3.block _ (lt_of_block HX7.out)).trans HX7.out)
      clear hs3 hb3
      refine V hK hS3 ?_; clear hK K'
      have z3 : s3.size = 7 := by rw [← tl_len, HS3.out]; simp [pL_len]
      have ov3 : ¬ (9223372036854775807 < ({ data := #[65, 70, 90, 49] } ++ s1 ++ s2 : ByteArray).size + s3.size) := by rw [ByteArray.size_append, ByteArray.size_append, z1, z2, z3]; decide
      refine T 12 hS3 ?_
      have HBe := Lib.hid HBv3.out
      have hSe := HS.out _ HBe.out
      have hwe : ∃ we, we = v3 := ⟨_, rfl⟩
      obtain ⟨we, hwe⟩ := hwe
      rw [← hwe] at HBe HX7 hSe ⊢
      clear hwe
    all_goals
      refine U 18 fun K' hK => ?_
      go_simp
      go_at_call 173
      refine (bytesAt 2 (.inr (.inl rfl)) HLn.out HX7.out).mono ?_
      rintro e w5 ⟨s4, rfl, hs4, hb5⟩
      have HS4 := Lib.hid hs4
      have HB5 := Lib.hid (below_th HBe.out hb5)
      have hS5 := HS.out _ HB5.out
      clear hs4 hb5
      refine V hK hS5 ?_; clear hK K'
      have z4 : s4.size = 2 := by rw [← tl_len, HS4.out]; exact pL_len _ _ (by decide)
      have ov4 : ¬ (9223372036854775807 < ({ data := #[65, 70, 90, 49] } ++ s1 ++ s2 ++ s3 : ByteArray).size + s4.size) := by rw [ByteArray.size_append, ByteArray.size_append, ByteArray.size_append, z1, z2, z3, z4]; decide
      refine T 19 hS5 ?_
      have Z5 : Hid (tl ({ data := #[65, 70, 90, 49] } ++ s1 ++ s2 ++ s3 ++ s4) = [65, 70, 90, 49] ++ (pL x.pc 4 ++ (bytesL 4 (regL x.r) ++ (manL x.m ++ pL x.sp.length 2))) ∧ ({ data := #[65, 70, 90, 49] } ++ s1 ++ s2 ++ s3 ++ s4 : ByteArray).size = 77) := Lib.hid ⟨by
        rw [tl_app, tl_app, tl_app, tl_app, HS1.out, HS2.out, HS3.out, HS4.out]
        unfold manL
        rw [HE.out.1, HE.out.2]
        simp [tl], by rw [ByteArray.size_append, ByteArray.size_append, ByteArray.size_append, ByteArray.size_append, z1, z2, z3, z4]; rfl⟩
      clear ov1 ov2 ov3 ov4 HS1 HS2 HS3 HS4 z1 z2 z3 z4
      generalize ({ data := #[65, 70, 90, 49] } ++ s1 ++ s2 ++ s3 ++ s4 : ByteArray) = hd at *
      have hwr := writeB (HBl.out.keep HB5.out) hd (by rw [Z5.out.2]; decide) (Nat.le_trans HLb.out HB5.out.size)
      have HWr := Lib.hid hwr
      clear hwr
      refine U 20 fun K' hK => ?_
      go_simp
      go_at_call 172
      refine HWr.out.mono ?_
      rintro e w6 ⟨rfl, hbl6, hb6, _⟩
      have HB6 := Lib.hid ((below_th HB1.out HB5.out).trans (hb6.mono HSz.out))
      have hS6 := HS0.out w6 HB6.out
      have HBl6 := Lib.hid hbl6
      have Hb6 := Lib.hid hb6.size
      clear hbl6 hb6
      refine V hK hS6 ?_; clear hK K'
      refine wpAnyH_done (by kernel_rfl) ?_ _
      have HR0 : Hid (ptRel w0 b x (.int .i64 0) w6) := Lib.hid ⟨0, _, Nat.zero_le _, rfl, HBl6.out, by rw [tl_app, Z5.out.1, List.take_zero, List.flatMap_nil, List.append_nil]; rfl, by rw [ByteArray.size_append, Z5.out.2]; rfl, HB6.out, Nat.le_trans HLb.out (Nat.le_trans HB5.out.size Hb6.out)⟩
      clear HB5 HWr HBl6 Z5 hS5 HBe HX7 hSe HB6 Hb6 hS6
      go_wp2_with fail
      go_meet
      exact HR0.out
  case rest =>
    have HR0 := Lib.hid hcut
    obtain ⟨i0, s0, _, _, _, _, _, hbw0, _⟩ := hcut
    obtain ⟨_, _, _, _, _, d21, d22, _⟩ := HS0.out _ hbw0
    clear hbw0
    go_wp2
    go_loopw [39] (fun vi wr => ptRel w0 b x vi wr) (fun vi _ => x.sp.length - (intOf vi).toNat)
    case atStart => exact HR0.out
    case round =>
      clear HR0 d21 d22
      obtain ⟨i, s, hi, rfl, hbl, htl, hsz, hbw, hbs⟩ := hrel
      obtain ⟨_, _, _, _, _, d21, d22, _⟩ := HS0.out wr hbw
      by_cases hin : i < x.sp.length
      · have ii : (i : Int) < x.sp.length := by omega
        obtain ⟨g, off, rfl, hgl, p0, p1, p2, p3⟩ := pg_cells (HI.out wr hbw).s hin
        obtain ⟨ha, hpp0, hpp1⟩ := HO.out.s _ (List.getElem_mem hin)
        have hmy := HM.out.pg _ (List.getElem_mem hin)
        have htk : (x.sp.take (i + 1)).flatMap pageL = (x.sp.take i).flatMap pageL ++ pageL x.sp[i] := by rw [List.take_succ_eq_append_getElem hin, List.flatMap_append, List.flatMap_singleton]
        generalize x.sp[i] = p at *
        obtain ⟨pa, pp, po', pt⟩ := p
        simp only at p0 p1 p2 p3 ha hpp0 hpp1
        obtain ⟨_, _, m3, m4, _⟩ := hmy
        simp only at m3 m4
        have hb2 : Below wr.heap.size wr (wr.alloc (.cells #[.int .u32 pa, .int .u8 pp, .bool po', .string pt] 159)) := (Below.refl _ _).alloc (Nat.le_refl _) _
        have hx2 := heap_alloc_new wr (.cells #[.int .u32 pa, .int .u8 pp, .bool po', .string pt] 159)
        obtain ⟨w2, hw2⟩ : ∃ y, wr.alloc (.cells #[.int .u32 pa, .int .u8 pp, .bool po', .string pt] 159) = y := ⟨_, rfl⟩
        obtain ⟨qb, hqb⟩ : ∃ y, wr.heap.size = y := ⟨_, rfl⟩
        have hbr := hbw
        rw [hw2] at hb2 hx2
        rw [hqb] at hx2
        have HBw := Lib.hid hbw
        have HB2 := Lib.hid hb2
        have HBl2 := Lib.hid (hbl.keep hb2)
        have HX2 := Lib.hid hx2
        have HNe := Lib.hid (show b ≠ qb by have := hbl.lt; omega)
        have HBs := Lib.hid (Nat.le_trans hbs hb2.size)
        have HT := Lib.hid htl
        have HZ := Lib.hid hsz
        have HTk := Lib.hid htk
        have HM4 := Lib.hid m4
        have HS9 : Hid (∀ V, Below w2.heap.size w2 V → V.cell? ⟨qb, 0, none⟩ = some (.int .u32 pa) ∧ V.cell? ⟨qb, 1, none⟩ = some (.int .u8 pp) ∧ V.cell? ⟨qb, 2, none⟩ = some (.bool po') ∧ V.cell? ⟨qb, 3, none⟩ = some (.string pt) ∧ True) := Lib.hid fun V hV => by
          have q := (hV.block _ (lt_of_block hx2)).trans hx2
          refine ⟨?_, ?_, ?_, ?_, trivial⟩ <;> (unfold World.cell?; rw [q]; rfl)
        have HFa : Hid (fitN pa 4) := Lib.hid ⟨ha.1, by show pa < 256 ^ 4; omega⟩
        have HFp : Hid (∀ z, z ∈ [pp, bit01 po'] → fitN z 1) := Lib.hid fun z hz => by
          simp at hz
          rcases hz with rfl | rfl
          · exact ⟨hpp0, by show z < 256 ^ 1; omega⟩
          · cases po' <;> exact ⟨by decide, by decide⟩
        have hbt : ∀ W, Calls Tryz.prog 175 #[.bool po'] W fun e w' => e = .returned (.int .u32 (bit01 po')) ∧ W = w' := fun W => bit po' W
        have HBt := Lib.hid hbt
        have iwp : IntKind.u32.wrap pp = pp := by rw [IntKind.wrap_u32]; omega
        have iw : IntKind.i64.wrap ((i : Int) + 1) = (i : Int) + 1 := by have := HL.out; rw [IntKind.wrap_i64]; omega
        have HI65 := Lib.hid (show i < 65536 by have := HL.out; omega)
        clear hb2 hx2 hbl htl hsz hbs htk m3 m4 ha hpp0 hpp1 hbr hbw hbt hgl
        go_wp2_with fail
        try rw [hw2]
        try rw [hqb]
        clear hw2 hqb p0 p1 p2 p3 d21 d22
        refine B (fun V => V.cell? ⟨qb, 0, none⟩ = some (.int .u32 pa) ∧ V.cell? ⟨qb, 1, none⟩ = some (.int .u8 pp) ∧ V.cell? ⟨qb, 2, none⟩ = some (.bool po') ∧ V.cell? ⟨qb, 3, none⟩ = some (.string pt) ∧ True) (HS9.out _ (Below.refl _ _).drew) ?_
        intro wd hwd hS
        have HBd : Hid (Below w2.heap.size w2 wd) := Lib.hid (by subst hwd; exact (Below.refl _ _).drew)
        clear hwd
        refine T 0 hS ?_
        refine T 1 hS ?_
        refine T 4 hS ?_
        refine T 5 hS ?_
        refine T 6 hS ?_
        refine T 7 hS ?_
        refine T 8 hS ?_
        refine T 13 hS ?_
        refine T 14 hS ?_
        refine U 2 fun K' hK => ?_
        go_simp
        have hba := below_th HBd.out ((Below.refl _ _).alloc (Nat.le_refl _) (.cells #[.int .u32 pa] 41))
        have hxa := heap_alloc_new wd (.cells #[.int .u32 pa] 41)
        refine V hK (HS9.out _ hba) ?_; clear hK K'
        refine U 3 fun K' hK => ?_
        go_simp
        go_at_call 173
        refine (bytesAt 4 (.inr (.inr rfl)) HFa.out hxa).mono ?_
        rintro e v1 ⟨s1, rfl, hs1, hb1⟩
        have HS1 := Lib.hid hs1
        have HV1 := Lib.hid (below_th hba hb1)
        clear hs1 hb1 hba hxa hS
        have hS := HS9.out _ HV1.out
        refine V hK hS ?_; clear hK K'
        refine U 9 fun K' hK => ?_
        go_simp
        go_at_call 175
        refine (HBt.out _).mono ?_
        rintro e v2 ⟨rfl, rfl⟩
        refine V hK hS ?_; clear hK K'
        refine U 10 fun K' hK => ?_
        go_simp
        have hbc := below_th HV1.out ((Below.refl _ _).alloc (Nat.le_refl _) (.cells #[.int .u32 pp, .int .u32 (bit01 po')] 41))
        have hxc := heap_alloc_new v1 (.cells #[.int .u32 pp, .int .u32 (bit01 po')] 41)
        have hby := bytes (w := v1.alloc (.cells #[.int .u32 pp, .int .u32 (bit01 po')] 41)) 1 (.inl rfl) [pp, bit01 po'] (by simp) HFp.out (a := some ⟨v1.heap.size, 0, none⟩) (c := 2) fun j hj => ⟨v1.heap.size, 0, rfl, by
          have : j = 0 ∨ j = 1 := by simp at hj; omega
          unfold World.cell?
          rcases this with rfl | rfl <;> (simp only [Nat.zero_add]; rw [hxc]; rfl)⟩
        have HBy := Lib.hid hby
        have HBc := Lib.hid hbc
        refine V hK (HS9.out _ hbc) ?_; clear hK K' hbc hxc hby
        refine U 11 fun K' hK => ?_
        go_simp
        go_at_call 173
        refine HBy.out.mono ?_
        rintro e v3 ⟨s2, rfl, hs2, hb3⟩
        have HS2 := Lib.hid hs2
        have HV3 := Lib.hid (below_th HBc.out hb3)
        clear hs2 hb3 HBy HBc hS
        have hS := HS9.out _ HV3.out
        refine V hK hS ?_; clear hK K'
        have z1 : s1.size = 4 := by rw [← tl_len, HS1.out]; exact pL_len _ _ (by decide)
        have z2 : s2.size = 2 := by rw [← tl_len, HS2.out, bytesL_len 1 (by decide)]; rfl
        have z3 := HM4.out
        have ov1 : ¬ (9223372036854775807 < s1.size + s2.size) := by omega
        have ov2 : ¬ (9223372036854775807 < (s1 ++ s2).size + pt.size) := by rw [ByteArray.size_append]; omega
        refine T 12 hS ?_
        refine T 15 hS ?_
        have Z5 : Hid (tl (s1 ++ s2 ++ pt) = pageL ⟨pa, pp, po', pt⟩ ∧ (s1 ++ s2 ++ pt).size = 262) := Lib.hid ⟨by
          rw [tl_app, tl_app, HS1.out, HS2.out]
          simp [pageL, bytesL], by rw [ByteArray.size_append, ByteArray.size_append]; omega⟩
        clear ov1 ov2 z1 z2 z3 HS1 HS2
        generalize s1 ++ s2 ++ pt = sp at *
        have hwr := writeB (HBl2.out.keep HV3.out) sp (by rw [HZ.out, Z5.out.2]; have := HI65.out; omega) (Nat.le_trans HBs.out HV3.out.size)
        have HWr := Lib.hid hwr
        clear hwr
        refine U 16 fun K' hK => ?_
        go_simp
        go_at_call 172
        refine HWr.out.mono ?_
        rintro e w6 ⟨rfl, hbl6, hb6, ho6⟩
        have hx6 := ho6 qb _ ((HV3.out.block _ (lt_of_block HX2.out)).trans HX2.out) (fun e => HNe.out (Option.some.inj e).symm) (fun c fz e => by
          injection e with _ e2
          exact absurd e2 (by decide))
        have hS6 : w6.cell? ⟨qb, 0, none⟩ = some (.int .u32 pa) ∧ w6.cell? ⟨qb, 1, none⟩ = some (.int .u8 pp) ∧ w6.cell? ⟨qb, 2, none⟩ = some (.bool po') ∧ w6.cell? ⟨qb, 3, none⟩ = some (.string pt) ∧ True := by
          refine ⟨?_, ?_, ?_, ?_, trivial⟩ <;> (unfold World.cell?; rw [hx6]; rfl)
        have fin : ptRel w0 b x (.int .i64 ((i : Int) + 1)) w6 := ⟨i + 1, _, hin, by simp, hbl6, by rw [tl_app, HT.out, Z5.out.1, HTk.out, List.append_assoc], by rw [ByteArray.size_append, HZ.out, Z5.out.2]; omega, (HBw.out.trans ((HB2.out.trans (HV3.out.mono HB2.out.size)).mono HBw.out.size)).trans (hb6.mono HSz.out), Nat.le_trans (Nat.le_trans HBs.out HV3.out.size) hb6.size⟩
        have Fin := Lib.hid fin
        clear fin hbl6 hb6 ho6 hx6 HWr Z5 hS
        refine V hK hS6 ?_; clear hK K'
        refine wpAnyH_done (by kernel_rfl) ?_ _
        clear hS6
        go_wp2
        exact ⟨Fin.out, by simp [intOf]; omega⟩
      · obtain rfl : i = x.sp.length := by omega
        have ii : ¬ (x.sp.length : Int) < x.sp.length := by omega
        rw [List.take_length] at htl
        have HTx := Lib.hid (ptext x.text (by have := HM.out.tx; omega) wr)
        have HBw := Lib.hid hbw
        have HBl2 := Lib.hid hbl
        have HBs := Lib.hid hbs
        have HT := Lib.hid htl
        have HZ := Lib.hid hsz
        clear hbl htl hsz hbs hbw
        go_wp2_with fail
        refine HTx.out.mono ?_
        rintro e w3 ⟨t, rfl, ht, hb3⟩
        have zt : t.size ≤ 4098 := by
          have := congrArg List.length ht
          rw [tl_len, List.length_append, pL_len _ _ (by decide), tl_len] at this
          have := HM.out.tx
          omega
        have HTt := Lib.hid ht
        have HB3 := Lib.hid (HBw.out.trans (hb3.mono HBw.out.size))
        have HBs3 := Lib.hid (Nat.le_trans HBs.out hb3.size)
        have hwr := writeB (HBl2.out.keep hb3) t (by rw [HZ.out]; have := HL.out; omega) HBs3.out
        have HWr := Lib.hid hwr
        clear hb3 ht zt hwr HTx
        go_wp2_with fail
        refine HWr.out.mono ?_
        rintro e w4 ⟨rfl, hbl4, hb4, _⟩
        have HSt := Lib.hid (stringB hbl4 (Nat.le_trans HBs3.out hb4.size))
        have HB4 := Lib.hid (HB3.out.trans (hb4.mono HSz.out))
        clear hbl4 hb4 HWr
        go_wp2_with fail
        refine HSt.out.mono ?_
        rintro e w5 ⟨rfl, hb5⟩
        have HE5 := Lib.hid (HPQ.out (s ++ t) w5 (by
          rw [tl_app, HT.out, HTt.out]
          unfold putL' hdL
          simp only [List.append_assoc]) (HB4.out.trans (hb5.mono HSz.out)))
        clear hb5 HSt
        go_wp2
        first | exact HE5.out | (go_ret2; exact HE5.out)
end Go.Proofs.YtgdodbcpnmfnnaaGreat.Fz
namespace Go.Proofs.YtgdodbcpnmfnnaaGreat.Fz
open Go.RowKit Word
set_option linter.unusedVariables false
set_option linter.unusedSimpArgs false
theorem pnew (s : ByteArray) (w : World) : Calls Tryz.prog 178 #[.string s] w fun e w' => e = .returned (.pointer (some ⟨w.heap.size, 0, none⟩)) ∧ w' = w.alloc (.cells #[.string s, .int .i64 0, .int .i64 0] 403) := by
  go_enter Tryz.func178, Tryz.ntmps178
  go_wp2
  go_ret
  exact ⟨rfl, rfl⟩
def zeroFr : Fr := ⟨⟨0, [], [], false⟩, fun _ => 0, 0, [], ByteArray.empty⟩
def nl : Value := .slice none 0 0
def setsIn : Array Value → Nat → List Value → Array Value
  | c, _, [] => c
  | c, o, v :: l => setsIn (c.setIfInBounds o v) (o + 1) l
theorem setCells_block {b : Nat} {t : TypeId} : ∀ (l : List Value) (o : Nat) (w : World) (c : Array Value), w.heap[b]? = some (.cells c t (0, 0)) → (w.setCells b o l).heap[b]? = some (.cells (setsIn c o l) t (0, 0)) ∧ Mod (fun k => k = b) w (w.setCells b o l)
  | [], o, w, c, h => ⟨h, Mod.refl _ _⟩
  | v :: l, o, w, c, h => by
    have h1 := heap_setCell_same w b o _ _ v h
    have hm : Mod (fun k => k = b) w (w.setCell ⟨b, o, none⟩ v) := Mod.setCell (F := fun k => k = b) (Mod.refl _ _) ⟨b, o, none⟩ (.inl rfl) _
    obtain ⟨h2, h3⟩ := setCells_block l (o + 1) _ _ h1
    exact ⟨h2, hm.same h3⟩
theorem arr_sets (x y : Fr) (ev pv sv ev' pv' sv' : Value) : setsIn (x.arr ev pv sv) 0 (y.arr ev' pv' sv').toList = y.arr ev' pv' sv' := by kernel_rfl
theorem FBox.sets {w : World} {b : Nat} {x : Fr} {ev pv sv : Value} (h : FBox w b x ev pv sv) (y : Fr) (ev' pv' sv' : Value) : FBox (w.setCells b 0 (y.arr ev' pv' sv').toList) b y ev' pv' sv' ∧ Mod (fun k => k = b) w (w.setCells b 0 (y.arr ev' pv' sv').toList) := by
  have h1 := setCells_block (y.arr ev' pv' sv').toList 0 w _ h
  rw [arr_sets] at h1
  exact h1
theorem FBox.range {w : World} {b : Nat} {x : Fr} {ev pv sv : Value} (h : FBox w b x ev pv sv) : w.rangeAt b 0 (x.arr ev pv sv).toList := fun j v hv => by
  rw [Nat.zero_add]; exact h.cell j v (by rw [← Array.getElem?_toList]; exact hv)
theorem arr_size (x : Fr) (ev pv sv : Value) : (x.arr ev pv sv).size = 23 := rfl
theorem FBox.there {w : World} {b : Nat} {x : Fr} {ev pv sv : Value} (h : FBox w b x ev pv sv) : w.there b 0 23 := fun j hj => by
  rw [Nat.zero_add]
  exact ⟨by rw [h.cell j _ (Array.getElem?_eq_getElem (by rw [arr_size]; exact hj))]; rfl, h.thaw j⟩
theorem fz_size (x : Fr) (ev pv sv : Value) : (Tryz.prog.info? 49).map (·.size) = some (x.arr ev pv sv).size := by rw [arr_size]; kernel_rfl
theorem fz_sizeL (x : Fr) (ev pv sv : Value) : (Tryz.prog.info? 49).map (·.size) = some (x.arr ev pv sv).toList.length := by rw [Array.length_toList]; exact fz_size ..
theorem arr_cong {x y : Fr} (h1 : x.m.pages = y.m.pages) (h2 : x.m.con = y.m.con) (h3 : ∀ j, j < 16 → x.r j = y.r j) (h4 : x.pc = y.pc) (h5 : x.text = y.text) (ev pv sv : Value) : x.arr ev pv sv = y.arr ev pv sv := by
  unfold Fr.arr
  rw [h1, h2, h4, h5, h3 0 (by omega), h3 1 (by omega), h3 2 (by omega), h3 3 (by omega), h3 4 (by omega), h3 5 (by omega), h3 6 (by omega), h3 7 (by omega), h3 8 (by omega), h3 9 (by omega), h3 10 (by omega), h3 11 (by omega), h3 12 (by omega), h3 13 (by omega), h3 14 (by omega), h3 15 (by omega)]
theorem wpList_load_g {P : Program} {ops : Array Oper} {rest : List Oper} {op : Oper} {a : Act} {w : World} {Q : Exit → Act → World → Prop} (hw : Region.wanted op (yielded ops a.tmps) = true) (ty : TypeId) (x : Operand) (ho : op.op = .load ty x)
    (b o : Nat) (hx : a.eval x = .pointer (some ⟨b, o, none⟩)) (cs : List Value) (d : TypeDesc) (hc : w.rangeAt b o cs)
    (hu : P.underlying ty = some d) (hd : d.isRow = true) (hi : (P.info? ty).map (·.size) = some cs.length)
    (h : wpList P ops Q rest (a.put op.dst (.agg cs.toArray)) w) : wpList P ops Q (op :: rest) a w :=
  wpList_step fun K hK => by
    rw [if_pos hw]
    exact wp_load_mid ty x ho b o hx cs d hc hu hd hi (hK _ _ h)
theorem FBox.result {w : World} {b : Nat} {x : Fr} {ev pv sv : Value} (h : FBox w b x ev pv sv) : (loadVar 49 ⟨b, 0, none⟩).run Tryz.prog w = .ok (.agg (x.arr ev pv sv)) w := by
  have := run_loadVar_mid (P := Tryz.prog) w b 0 49 _ _ h.range Tryz.underlying49 rfl (fz_sizeL x ev pv sv)
  rw [Array.toArray_toList] at this
  exact this
theorem results_box {P : Program} {fn : Func} {c r : Nat} {t : TypeId} {p : Addr} {tmps : Array Value} {v u : Value} {w : World} (hr : fn.results = #[.cell c t, .tmp r]) (ha : tmps.getD c undef = .pointer (some p)) (hu : tmps.getD r undef = u) (hv : (loadVar t p).run P w = .ok v w) :
    (results fn tmps).run P w = .ok (.tuple #[v, u]) w := by
  rw [Array.getD_eq_getD_getElem?] at ha hu
  have h : (results fn tmps).run P w = ((loadVar t p).run P w).andThen fun a w' => .ok (.tuple #[a, u]) w' := by
    unfold results
    rw [hr]
    simp [go_sem, ha, hu]
    cases Sem.run P (isAgg t) w with
    | ok a w' => cases a <;> rfl
    | halt _ _ => rfl
  rw [h, hv]
  rfl
structure GG (w0 : World) (n : Nat) (s : ByteArray) (x : Fr) (w : World) (k : Nat) (sv : Value) (r : List UInt8) : Prop where
  g : GS (n + 5) (n + 3) (n + 2) (n + 1) (n + 4) s x nl nl w k sv r
  res : FBox w n zeroFr nl nl nl
  bel : Below n w0 w
section
variable {w0 : World} {n : Nat} {s : ByteArray} {x y : Fr} {w w' : World} {k k' : Nat} {sv : Value} {r r' : List UInt8}
theorem GG.read (h : GG w0 n s x w k sv r) (hf : FrR w' (n + 2) (n + 1) s k') (hk : k' ≤ s.size) (hd : (tl s).drop k' = r') (hm : Mod (fun i => i = n + 1) w w') : GG w0 n s x w' k' sv r' :=
  ⟨h.g.read hf hk hd hm, h.res.keep hm (by omega), Mod.below h.bel hm (by have := h.g.bb; omega) fun i _ e => by omega⟩
theorem GG.num (h : GG w0 n s x w k sv r) {m : Nat} (hn : m = 1 ∨ m = 2 ∨ m = 4) (hs : s.size ≤ maxLen) {v : Int} (hf : fitN v m) (hr : r = pL v m ++ r') :
    Calls Tryz.prog 180 #[.pointer (some ⟨n + 2, 0, none⟩), .int .i64 m] w fun e w' => e = .returned (.int .u32 v) ∧ GG w0 n s x w' (k + m) sv r' :=
  (h.g.pages hn hs hf hr).mono fun e w' ⟨he, h1, h2⟩ => ⟨he, h1, h.res.keep h2 (by omega), Mod.below h.bel h2 (by have := h.g.bb; omega) fun i _ e => by omega⟩
theorem GG.set (h : GG w0 n s x w k sv r) (j : Nat) (v : Value) (he : (x.arr nl nl sv).setIfInBounds j v = y.arr nl nl sv) (hsp : y.sp = x.sp) : GG w0 n s y (w.setCell ⟨n + 4, j, none⟩ v) k sv r := by
  have hm : Mod (fun i => i = n + 4) w (w.setCell ⟨n + 4, j, none⟩ v) := Mod.setCell (F := fun i => i = n + 4) (Mod.refl _ _) ⟨n + 4, j, none⟩ (.inl rfl) _
  have ho := h.g.own
  have hb := h.g.bb
  refine ⟨⟨h.g.fr.keep hm (by omega) (by omega), h.g.kle, h.g.drp, (hm.block _ (lt_of_block h.g.cel) (by omega)).trans h.g.cel, h.g.box.set j v he, ?_, fun g hg => ⟨(ho g hg).1, Nat.lt_of_lt_of_le (ho g hg).2 hm.size⟩, h.g.lt, h.g.ne, Nat.le_trans h.g.bb hm.size⟩, h.res.keep hm (by omega), Mod.below h.bel hm (by omega) fun i _ e => by omega⟩
  rw [hsp]
  exact h.g.row.keep fun g hg => hm.block g (ho g hg).2 (by have := (ho g hg).1; omega)
theorem GG.get3 (h : GG w0 n s x w k sv r) (hs : s.size ≤ maxLen) {p : Fp} (ha : 0 ≤ p.addr ∧ p.addr ≤ 4294967295) (hp : 0 ≤ p.perm ∧ p.perm < 256) (ht : p.text.size = 256) (hr : r = pageL p ++ r') (hl : x.sp.length ≤ 70000) :
    Calls Tryz.prog 184 #[.pointer (some ⟨n + 3, 0, none⟩), .pointer (some ⟨n + 4, 0, none⟩)] w fun e w' => e = .returned (.tuple #[]) ∧ ∃ k' sv', GG w0 n s { x with sp := x.sp ++ [p] } w' k' sv' r' := by
  refine (Fz.get3 h.g hs ha hp ht hr hl).mono ?_
  rintro e w' ⟨he, k', sv', h1, h2⟩
  have hb := h.g.bb
  exact ⟨he, k', sv', h1, h.res.keep h2 (by rintro (q | q | q); omega; omega; exact absurd (h.g.own _ q).1 (by omega)), Mod.below h.bel h2 (by omega) fun i _ e => by
    rcases e with q | q | q
    · omega
    · omega
    · have := (h.g.own _ q).1; omega⟩
theorem GG.c0 (h : GG w0 n s x w k sv r) : w.cell? ⟨n + 3, 0, none⟩ = some (.pointer (some ⟨n + 2, 0, none⟩)) := h.g.c0
theorem GG.c1 (h : GG w0 n s x w k sv r) : w.cell? ⟨n + 2, 0, none⟩ = some (.pointer (some ⟨n + 1, 0, none⟩)) := by unfold World.cell?; rw [h.g.fr.h]; rfl
theorem GG.c2 (h : GG w0 n s x w k sv r) : w.cell? ⟨n + 2, 1, none⟩ = some (.bool false) := by unfold World.cell?; rw [h.g.fr.h]; rfl
theorem GG.init {w : World} {n : Nat} (hn : w.heap.size = n) (s : ByteArray) {W : World} (hW : ((((w.alloc (.cells (zeroFr.arr nl nl nl) 49)).alloc (.cells #[.string s, .int .i64 0, .int .i64 0] 403)).alloc (.cells #[.pointer (some ⟨n + 1, 0, none⟩), .bool false] 314)).alloc (.cells #[.pointer (some ⟨n + 2, 0, none⟩)] 310)).alloc (.cells (zeroFr.arr nl nl nl) 49) = W) :
    FBox W (n + 4) zeroFr nl nl nl ∧ GG w n s zeroFr (W.setCells (n + 4) 0 (zeroFr.arr nl nl nl).toList) 0 nl (tl s) := by
  have a1 := heap_alloc_new w (.cells (zeroFr.arr nl nl nl) 49)
  have b1 := (Below.refl w.heap.size w).alloc (Nat.le_refl _) (.cells (zeroFr.arr nl nl nl) 49)
  have s1 : (w.alloc (.cells (zeroFr.arr nl nl nl) 49)).heap.size = n + 1 := by simp [hn]
  rw [hn] at a1 b1
  generalize w.alloc (.cells (zeroFr.arr nl nl nl) 49) = w1 at *
  have a2 := heap_alloc_new w1 (.cells #[.string s, .int .i64 0, .int .i64 0] 403)
  have b2 := (Below.refl w1.heap.size w1).alloc (Nat.le_refl _) (.cells #[.string s, .int .i64 0, .int .i64 0] 403)
  have s2 : (w1.alloc (.cells #[.string s, .int .i64 0, .int .i64 0] 403)).heap.size = n + 2 := by simp [s1]
  rw [s1] at a2 b2
  generalize w1.alloc (.cells #[.string s, .int .i64 0, .int .i64 0] 403) = w2 at *
  have a3 := heap_alloc_new w2 (.cells #[.pointer (some ⟨n + 1, 0, none⟩), .bool false] 314)
  have b3 := (Below.refl w2.heap.size w2).alloc (Nat.le_refl _) (.cells #[.pointer (some ⟨n + 1, 0, none⟩), .bool false] 314)
  have s3 : (w2.alloc (.cells #[.pointer (some ⟨n + 1, 0, none⟩), .bool false] 314)).heap.size = n + 3 := by simp [s2]
  rw [s2] at a3 b3
  generalize w2.alloc (.cells #[.pointer (some ⟨n + 1, 0, none⟩), .bool false] 314) = w3 at *
  have a4 := heap_alloc_new w3 (.cells #[.pointer (some ⟨n + 2, 0, none⟩)] 310)
  have b4 := (Below.refl w3.heap.size w3).alloc (Nat.le_refl _) (.cells #[.pointer (some ⟨n + 2, 0, none⟩)] 310)
  have s4 : (w3.alloc (.cells #[.pointer (some ⟨n + 2, 0, none⟩)] 310)).heap.size = n + 4 := by simp [s3]
  rw [s3] at a4 b4
  generalize w3.alloc (.cells #[.pointer (some ⟨n + 2, 0, none⟩)] 310) = w4 at *
  have a5 := heap_alloc_new w4 (.cells (zeroFr.arr nl nl nl) 49)
  have b5 := (Below.refl w4.heap.size w4).alloc (Nat.le_refl _) (.cells (zeroFr.arr nl nl nl) 49)
  have s5 : (w4.alloc (.cells (zeroFr.arr nl nl nl) 49)).heap.size = n + 5 := by simp [s4]
  rw [s4] at a5 b5
  rw [hW] at a5 b5 s5
  have hx : FBox W (n + 4) zeroFr nl nl nl := a5
  obtain ⟨h5, hm⟩ := hx.sets zeroFr nl nl nl
  generalize W.setCells (n + 4) 0 (zeroFr.arr nl nl nl).toList = V at *
  have z := hm.size
  have k4 : ∀ k, k < n + 4 → V.heap[k]? = w4.heap[k]? := fun k hk => (hm.block k (by omega) (by omega)).trans (b5.block k hk)
  have e4 : V.heap[n + 3]? = _ := (k4 (n + 3) (by omega)).trans a4
  have e3 : V.heap[n + 2]? = _ := (k4 (n + 2) (by omega)).trans ((b4.block (n + 2) (by omega)).trans a3)
  have e2 : V.heap[n + 1]? = _ := (k4 (n + 1) (by omega)).trans ((b4.block (n + 1) (by omega)).trans ((b3.block (n + 1) (by omega)).trans a2))
  have e1 : V.heap[n]? = _ := (k4 n (by omega)).trans ((b4.block n (by omega)).trans ((b3.block n (by omega)).trans ((b2.block n (by omega)).trans a1)))
  have hb : Below n w W := (((b1.trans (b2.mono (by omega))).trans (b3.mono (by omega))).trans (b4.mono (by omega))).trans (b5.mono (by omega))
  exact ⟨hx, ⟨⟨⟨e2, e3⟩, Nat.zero_le _, rfl, e4, h5, SlV.nil _ _ _, fun g hg => (nomatch hg), by omega, by omega, by omega⟩, e1, Mod.below hb hm (by omega) fun i _ e => by omega⟩⟩
end
end Go.Proofs.YtgdodbcpnmfnnaaGreat.Fz
namespace Go.Proofs.YtgdodbcpnmfnnaaGreat.Fz
open Go.RowKit Word L22 In
set_option linter.unusedVariables false
set_option linter.unusedSimpArgs false
def asked8 (d : WdI) : Kn := if Ca.grantE d.h.p d.h.l (fun _ => none) 1 d.m.m 8 = 0 then { Kn.new d.h.p d.h.l with g := Gp.upd (fun _ => none) 1 (some ⟨d.m.m, 8, 0⟩) } else Kn.new d.h.p d.h.l
def Made42 (w : World) (d : WdI) (r : Ending) (w' : World) : Prop :=
  (Ca.hardOk d.h.p d.h.l = false ∧ r = .returned (.tuple #[.pointer none, .pointer none, .pointer none, .pointer none]) ∧ Below w.heap.size w w') ∨
  (Ca.hardOk d.h.p d.h.l = true ∧ ∃ a e E b f, r = .returned (.tuple #[.pointer (some ⟨a.kb, 0, none⟩), .pointer (some b), .pointer (some ⟨e.eb, 0, none⟩), .pointer (some f)]) ∧ KEn w w' a (asked8 d) e E ∧ En.Like E (d.x.env 1))
def m42 (w9 : World) (e : EAt) (E : En) (r : Nat → Int) (vi : Value) (wr : World) : Prop := ∃ i : Nat, 1 ≤ i ∧ i ≤ 16 ∧ vi = .int .i64 i ∧ EStep w9 wr e E e { E with r := Cp.regsK r i }
set_option maxRecDepth 100000 in
set_option maxHeartbeats 16000000 in
theorem made (w : World) (d : WdI) (hd : d.pre w) (hx : ∀ V, Below w.heap.size w V → d.x.ok V) (hme : d.m.m.ext.length ≤ 40) (hmp : d.m.m.ports.length ≤ 40) : Calls Tryz.prog 21 #[.agg d.cells] w (Made42 w d) := by
  have hb : Below w.heap.size w (w.alloc (.cells d.cells 66)) := (Below.refl _ _).alloc (Nat.le_refl _) _
  have hbx : WBox (w.alloc (.cells d.cells 66)) w.heap.size d := ⟨heap_alloc_new w _⟩
  have hpc := hx w (Below.refl _ _)
  have HPc := Lib.hid (And.intro hpc.p0 hpc.p1)
  have HBx := Lib.hid hbx
  have HB := Lib.hid hb
  have HWd := Lib.hid (Ca.words_below hd.h.w hb)
  have HBd := Lib.hid hd.h.bd
  have HP0 := Lib.hid hd.h.p0
  have HM := Lib.hid (hd.m.below hb)
  have HMl := Lib.hid (And.intro hme hmp)
  obtain ⟨w1, hw1⟩ : ∃ w1, w.alloc (.cells d.cells 66) = w1 := ⟨_, rfl⟩
  obtain ⟨bx, hbxe⟩ : ∃ bx, w.heap.size = bx := ⟨_, rfl⟩
  rw [hw1] at HBx HB HWd HM
  rw [hbxe] at HBx
  have HOk := Lib.hid fun V (hV : Below w1.heap.size w1 V) => hx V (below_th HB.out hV)
  have HFin1 : Hid (∀ V a e E b f, Ca.hardOk d.h.p d.h.l = true → KEn w1 V a (asked8 d) e E → En.Like E (d.x.env 1) → Made42 w d (.returned (.tuple #[.pointer (some ⟨a.kb, 0, none⟩), .pointer (some b), .pointer (some ⟨e.eb, 0, none⟩), .pointer (some f)])) V) := Lib.hid fun V a e E b f h0 h1 h2 => .inr ⟨h0, a, e, E, b, f, rfl, ⟨h1.kn, h1.en, h1.apart, below_th HB.out h1.bel, fun x hx => Nat.le_trans HB.out.size (h1.k0 x hx), fun x hx => Nat.le_trans HB.out.size (h1.e0 x hx), h1.num⟩, h2⟩
  have HFin2 : Hid (∀ V, Ca.hardOk d.h.p d.h.l = false → Below w1.heap.size w1 V → Made42 w d (.returned (.tuple #[.pointer none, .pointer none, .pointer none, .pointer none])) V) := Lib.hid fun V h1 h2 => .inl ⟨h1, rfl, below_th HB.out h2⟩
  generalize Made42 w d = PQ at *
  clear hb hbx hd hx hme hmp hpc
  have HC : Hid (∀ W, Below w1.heap.size w1 W → W.cell? ⟨bx, 0, none⟩ = some (.int .u32 d.h.p) ∧ W.cell? ⟨bx, 1, none⟩ = some (.slice d.h.a d.h.l.length d.h.cap) ∧ W.cell? ⟨bx, 2, none⟩ = some (.int .u32 d.m.m.pages) ∧ W.cell? ⟨bx, 3, none⟩ = some (.slice d.m.ea d.m.m.ext.length d.m.ecap) ∧ W.cell? ⟨bx, 4, none⟩ = some (.slice d.m.pa d.m.m.ports.length d.m.pcap) ∧ W.cell? ⟨bx, 5, none⟩ = some (.bool d.m.m.con)) := Lib.hid fun W hW => by
    have h := HBx.out.below hW
    exact ⟨h.cell 0 _ rfl, h.cell 1 _ rfl, h.cell 2 _ rfl, h.cell 3 _ rfl, h.cell 4 _ rfl, h.cell 5 _ rfl⟩
  have HX : Hid (∀ W, Below w1.heap.size w1 W → W.cell? ⟨bx, 6, none⟩ = some (.slice d.x.ra d.x.rn d.x.rcap) ∧ W.cell? ⟨bx, 7, none⟩ = some (.int .u32 d.x.pc) ∧ W.cell? ⟨bx, 8, none⟩ = some (.slice d.x.pa d.x.pn d.x.pcap) ∧ W.cell? ⟨bx, 9, none⟩ = some (.int .u16 d.x.at') ∧ W.cell? ⟨bx, 10, none⟩ = some (.slice d.x.ca d.x.cn d.x.ccap) ∧ W.cell? ⟨bx, 11, none⟩ = some (.int .u16 d.x.wh) ∧ W.cell? ⟨bx, 12, none⟩ = some (.string d.x.text)) := Lib.hid fun W hW => by
    have h := HBx.out.below hW
    exact ⟨h.cell 6 _ rfl, h.cell 7 _ rfl, h.cell 8 _ rfl, h.cell 9 _ rfl, h.cell 10 _ rfl, h.cell 11 _ rfl, h.cell 12 _ rfl⟩
  unfold WdI.cells HdI.v MnI.ev MnI.pv at hw1 ⊢
  obtain ⟨ba, hba⟩ : ∃ x, d.ba = x := ⟨_, rfl⟩
  rw [hba] at hw1 ⊢
  clear hba
  obtain ⟨c0, c1, c2, c3, c4, c5⟩ := HC.out w1 (Below.refl _ _)
  go_enter Tryz.func21, Tryz.ntmps21
  cases hok : Ca.hardOk d.h.p d.h.l with
  | false =>
    go_wp2_with fail
    try rw [hw1]
    try rw [hbxe]
    clear hw1 hbxe
    refine (Kl.new_bad HWd.out HBd.out HP0.out hok).mono ?_
    rintro e w2 ⟨rfl, hb2⟩
    obtain ⟨x6, x7, x8, x9, x10, x11, x12⟩ := HX.out w2 hb2
    have HB2 := Lib.hid hb2
    have HMd := Lib.hid (Cp.made w2 d.x (HOk.out w2 hb2))
    clear hb2 c0 c1 c2 c3 c4 c5
    unfold Cp.St.cells at HMd
    go_wp2_with fail
    refine HMd.out.mono ?_
    rintro e w3 ⟨cb, sb, mb, A, db, rb, lv, R, rfl, hdu, he, hpg⟩
    have HE := Lib.hid (HFin2.out w3 hok (below_th HB2.out hdu.bel))
    clear hdu he hpg x6 x7 x8 x9 x10 x11 x12 HFin1 HFin2 HMd
    go_wp2
    refine bodyPost_ret (v := .tuple #[.pointer none, .pointer none, .pointer none, .pointer none]) (by simp [results, Tryz.results21, go_sem, *]) rfl ?_
    exact HE.out
  | true =>
    go_wp2_with fail
    try rw [hw1]
    try rw [hbxe]
    clear hw1 hbxe
    refine (Kl.new HWd.out HBd.out HP0.out hok).mono ?_
    rintro e w2 ⟨a, rfl, hk2, ha2, hb2⟩
    obtain ⟨x6, x7, x8, x9, x10, x11, x12⟩ := HX.out w2 hb2
    have HB2 := Lib.hid hb2
    have HA := Lib.hid ha2
    have HK2 := Lib.hid hk2
    have hmd := Cp.made w2 d.x (HOk.out w2 hb2)
    unfold Cp.St.cells at hmd
    have HMd := Lib.hid hmd
    clear hb2 ha2 hk2 hmd c0 c1 c2 c3 c4 c5
    go_wp2_with fail
    refine HMd.out.mono ?_
    rintro e w3 ⟨cb, sb, mb, A, db, rb, lv, R, rfl, hdu, he, hpg⟩
    have HDu := Lib.hid hdu
    have HE3 := Lib.hid (And.intro he hpg)
    have HB3 := Lib.hid (below_th HB2.out hdu.bel)
    obtain ⟨x6, x7, x8, x9, x10, x11, x12⟩ := HX.out w3 HB3.out
    clear hdu he hpg HMd
    go_wp2_with fail
    refine (Kl.caps (HK2.out.below HDu.out.bel)).mono ?_
    rintro e w4 ⟨rfl, rfl⟩
    go_wp2_with fail
    refine (Ev.new HDu.out.pair.sp 1 d.x.pc (by omega) (by omega) HPc.out.1 HPc.out.2).mono ?_
    rintro e w4 ⟨en, C, rfl, hen, hcc, hef, hb4⟩
    have HV := Lib.hid (And.intro hen (And.intro hcc (And.intro hef hb4)))
    have HB4 := Lib.hid (below_th HB3.out hb4)
    have HD4 := Lib.hid (HDu.out.below hb4)
    obtain ⟨x6, x7, x8, x9, x10, x11, x12⟩ := HX.out w4 HB4.out
    clear hen hcc hef hb4
    go_wp2_with fail
    refine (Rv.new HD4.out.pair.rp 1 d.x.pc (by omega) (by omega) HPc.out.1 HPc.out.2).mono ?_
    rintro e w5 ⟨fn, S, rfl, hr, hrc, hrf, hb5⟩
    have HR := Lib.hid (And.intro hr (And.intro hrc (And.intro hrf hb5)))
    have HB5 := Lib.hid (below_th HB4.out hb5)
    obtain ⟨c0, c1, c2, c3, c4, c5⟩ := HC.out w5 HB5.out
    clear hr hrc hrf hb5 x6 x7 x8 x9 x10 x11 x12
    go_wp2_with fail
    refine (Rk.new (Ca.words_below HWd.out HB5.out) HBd.out HP0.out hok).mono ?_
    rintro e w6 ⟨b, rfl, hr6, hhv, ht6, hb6⟩
    have hb25 : Below w2.heap.size w2 w5 := below_th HDu.out.bel (below_th HV.out.2.2.2 HR.out.2.2.2)
    have hpr := pair (cap := d.h.cap) HWd.out HK2.out HA.out HB2.out hb25 hr6 (fun k hk => (ht6 k hk).imp id fun z => z) hb6
    have hmid : (∀ k, w2.heap.size ≤ k → k < w5.heap.size → a.tag k = 0 ∧ b.tag k = 0) := fun k k2 k5 => ⟨Decidable.byContradiction fun g => absurd (HK2.out.lt k g) (by omega), Decidable.byContradiction fun g => by
      rcases ht6 k g with q | ⟨_, q1, q2⟩
      · omega
      · obtain ⟨g', o, e, hc⟩ := HWd.out.cell 0 (by omega)
        rw [e] at q2
        have q2 : some g' = some k := q2
        cases q2
        have := cell_lt hc
        have := HB2.out.size
        omega⟩
    have HPr := Lib.hid hpr
    have HMid := Lib.hid hmid
    have HB25 := Lib.hid hb25
    have HB56 := Lib.hid hb6
    have hl16 : d.h.l.length ≤ 16 ∧ d.h.p ≤ 4096 := by
      unfold Ca.hardOk at hok
      simp only [Bool.and_eq_true, decide_eq_true_eq] at hok
      exact ⟨hok.1.2, hok.1.1⟩
    have HL := Lib.hid hl16
    clear hl16 hr6 hhv ht6 hb6 hpr hmid hb25 c0 c1
    go_wp2_with fail
    obtain ⟨K0, hK0⟩ : ∃ K0, Kn.new d.h.p d.h.l = K0 := ⟨_, rfl⟩
    have HKE : Hid (K0.hp = d.h.p ∧ K0.hx = d.h.l ∧ K0.g = fun _ => none) := Lib.hid (by rw [← hK0]; exact ⟨rfl, rfl, rfl⟩)
    rw [hK0] at HPr
    have HK0 := Lib.hid hK0
    clear hK0
    have HS : Hid (∀ W a' b' L L', KPair w1 W a' L b' L' → b'.kb = b.kb → b'.c.rb = b.c.rb → W.cell? ⟨bx, 2, none⟩ = some (.int .u32 d.m.m.pages) ∧ W.cell? ⟨bx, 3, none⟩ = some (.slice d.m.ea d.m.m.ext.length d.m.ecap) ∧ W.cell? ⟨bx, 4, none⟩ = some (.slice d.m.pa d.m.m.ports.length d.m.pcap) ∧ W.cell? ⟨bx, 5, none⟩ = some (.bool d.m.m.con) ∧ W.cell? ⟨b.kb, 0, none⟩ = some (.pointer (some ⟨b.c.rb, 0, none⟩)) ∧ True) := Lib.hid fun W a' b' L L' k1 k2 k3 => by
      obtain ⟨_, _, e2, e3, e4, e5⟩ := HC.out W k1.bel
      have := k1.d.cells.1
      rw [k2, k3] at this
      exact ⟨e2, e3, e4, e5, this, trivial⟩
    have HEn6 := Lib.hid ((HV.out.1.below HR.out.2.2.2).below HB56.out)
    clear c2 c3 c4 c5
    refine B (fun W => W.cell? ⟨bx, 2, none⟩ = some (.int .u32 d.m.m.pages) ∧ W.cell? ⟨bx, 3, none⟩ = some (.slice d.m.ea d.m.m.ext.length d.m.ecap) ∧ W.cell? ⟨bx, 4, none⟩ = some (.slice d.m.pa d.m.m.ports.length d.m.pcap) ∧ W.cell? ⟨bx, 5, none⟩ = some (.bool d.m.m.con) ∧ W.cell? ⟨b.kb, 0, none⟩ = some (.pointer (some ⟨b.c.rb, 0, none⟩)) ∧ True) (HS.out _ _ _ _ _ (HPr.out.below (Below.refl _ _).drew) rfl rfl) fun wd hwd hS => ?_
    have HPd : Hid (KPair w1 wd a K0 b K0) := Lib.hid (by subst hwd; exact HPr.out.below (Below.refl _ _).drew)
    have HBd6 : Hid (Below w6.heap.size w6 wd) := Lib.hid (by subst hwd; exact (Below.refl _ _).drew)
    clear hwd HPr
    refine T 0 hS ?_
    refine T 1 hS ?_
    refine T 2 hS ?_
    refine T 3 hS ?_
    refine T 4 hS ?_
    refine T 5 hS ?_
    refine T 6 hS ?_
    refine T 7 hS ?_
    refine U 8 fun K' hK => ?_
    go_simp
    go_at_call 77
    refine (Ev.cpu (HEn6.out.below HBd6.out)).mono ?_
    rintro r v1 ⟨rfl, rfl⟩
    refine V hK hS ?_; clear hK K'
    refine T 9 hS ?_
    refine T 10 hS ?_
    refine T 11 hS ?_
    refine T 12 hS ?_
    refine T 14 hS ?_
    refine T 15 hS ?_
    refine T 18 hS ?_
    refine T 19 hS ?_
    refine T 20 hS ?_
    refine T 21 hS ?_
    refine T 22 hS ?_
    refine T 23 hS ?_
    refine U 13 fun K' hK => ?_
    go_simp
    go_at_call 27
    refine (Kl.caps HPd.out.p).mono ?_
    rintro r v1 ⟨rfl, rfl⟩
    refine V hK hS ?_; clear hK K' hS
    have HMi := Lib.hid (HM.out.below HPd.out.bel)
    have HCy : Hid (Calls Tryz.prog 84 #[.agg #[.int .u32 d.m.m.pages, .slice d.m.ea d.m.m.ext.length d.m.ecap, .slice d.m.pa d.m.m.ports.length d.m.pcap, .bool d.m.m.con]] wd (R11.CopyPost wd d.m.m)) := Lib.hid (by
      have := HMl.out
      exact R11.copy HMi.out.i (by omega) (by omega))
    refine U 16 fun K' hK => ?_
    go_simp
    go_at_call 84
    refine HCy.out.mono ?_
    rintro r w7 ⟨ev6, pv6, rfl, hm6, hf6, hb6⟩
    have HP6 := Lib.hid (HPd.out.below hb6)
    have HM6 := Lib.hid hm6
    have HBd7 := Lib.hid (below_th HBd6.out hb6)
    have hS6 := HS.out _ _ _ _ _ HP6.out rfl rfl
    clear hm6 hf6 hb6 HCy HPd HBd6
    refine V hK hS6 ?_; clear hK K'
    obtain ⟨gE, hgE⟩ : ∃ g, Ca.grantE K0.hp K0.hx K0.g 1 d.m.m 8 = g := ⟨_, rfl⟩
    obtain ⟨aK, haK⟩ : ∃ k : Kn, (if gE = 0 then { K0 with g := Gp.upd K0.g 1 (some ⟨d.m.m, 8, 0⟩) } else K0) = k := ⟨_, rfl⟩
    have HAk : Hid (aK = asked8 d) := Lib.hid (by
      rw [← haK, ← hgE, ← HK0.out]
      rfl)
    have HG1 : Hid (Calls Tryz.prog 83 #[.pointer (some ⟨a.c.cb, 0, none⟩), .int .i64 1, .agg (d.m.m.cells ev6 pv6), .int .u32 8] w7 fun e w' => e = .returned (.int .i64 gE) ∧ ∃ a7, KPair w1 w' a7 aK b K0 ∧ a7.kb = a.kb ∧ (∀ k, k < w7.heap.size → a7.tag k = a.tag k) ∧ Mod a.wf w7 w') := Lib.hid ((Kl.grant HP6.out.p (by rw [HKE.out.1]; exact HL.out.2) (by rw [HKE.out.2.1]; exact HL.out.1) (n := 1) (pg := 8) (by omega) HM6.out HM.out.ok).mono (by
      rintro e w' (⟨h1, h2, h3⟩ | ⟨h1, h2, a7, h3⟩)
      · rw [hgE] at h1 h2
        rw [if_neg h1] at haK
        rw [← haK]
        exact ⟨h2, a, HP6.out.below h3, rfl, fun _ _ => rfl, Mod.of_below h3 _⟩
      · rw [hgE] at h1
        rw [if_pos h1] at haK
        rw [← haK, h1]
        exact ⟨h2, a7, HP6.out.prog h3, h3.same.1, h3.tag, h3.mod⟩))
    have HG2 : Hid (∀ V a7, KPair w1 V a7 aK b K0 → Calls Tryz.prog 85 #[.pointer (some ⟨b.c.rb, 0, none⟩), .int .i64 1, .agg #[.int .u32 d.m.m.pages, .slice d.m.ea d.m.m.ext.length d.m.ecap, .slice d.m.pa d.m.m.ports.length d.m.pcap, .bool d.m.m.con], .int .u32 8] V fun e w' => e = .returned (.int .i64 gE) ∧ ∃ b9 L, KPair w1 w' a7 aK b9 L ∧ b9.kb = b.kb ∧ b9.c.rb = b.c.rb ∧ Mod b.wf V w') := Lib.hid fun V a7 hp => (Rk.grant hp.d (by rw [HKE.out.2.1]; exact HL.out.1) (n := 1) (pg := 8) (by omega) (HM.out.below hp.bel).i HM.out.ok).mono (by
      rintro e w' (⟨h1, h2, h3⟩ | ⟨h1, h2, b9, h3⟩)
      · rw [hgE] at h2
        exact ⟨h2, b, K0, hp.below h3, rfl, rfl, Mod.of_below h3 _⟩
      · rw [hgE] at h1
        rw [h1]
        exact ⟨h2, b9, _, hp.doc h3, h3.same.1, h3.same.2.1, h3.mod⟩)
    clear hgE haK
    refine U 17 fun K' hK => ?_
    go_simp
    go_at_call 83
    refine HG1.out.mono ?_
    rintro r w8 ⟨rfl, a7, hp8, hk8, ht8, hm8⟩
    have HP8 := Lib.hid hp8
    have H8 := Lib.hid (And.intro hk8 (And.intro ht8 hm8))
    have hS8 := HS.out _ _ _ _ _ hp8 rfl rfl
    clear hp8 hk8 ht8 hm8 HG1 hS6
    refine V hK hS8 ?_; clear hK K'
    refine U 24 fun K' hK => ?_
    go_simp
    go_at_call 85
    refine (HG2.out _ _ HP8.out).mono ?_
    rintro r w9 ⟨rfl, b9, L9, hp9, hk9, hc9, hm9⟩
    have hS9 := HS.out _ _ _ _ _ hp9 hk9 hc9
    have HP9 := Lib.hid hp9
    have HM9 : Hid (∀ k, w2.heap.size ≤ k → k < w5.heap.size → w9.heap[k]? = w5.heap[k]? ∧ a7.tag k = 0) := Lib.hid fun k k2 k5 => by
      obtain ⟨m1, m2⟩ := HMid.out k k2 k5
      have k6 : k < w6.heap.size := Nat.lt_of_lt_of_le k5 HB56.out.size
      have k7 : k < w7.heap.size := Nat.lt_of_lt_of_le k6 HBd7.out.size
      have k8 : k < w8.heap.size := Nat.lt_of_lt_of_le k7 H8.out.2.2.size
      exact ⟨by rw [hm9.block k k8 fun g => g.1 m2, H8.out.2.2.block k k7 fun g => g.1 m1, HBd7.out.block k k6, HB56.out.block k k5], by rw [H8.out.2.1 k k7]; exact m1⟩
    have hsz9 : w5.heap.size ≤ w9.heap.size := Nat.le_trans HB56.out.size (Nat.le_trans HBd7.out.size (Nat.le_trans H8.out.2.2.size hm9.size))
    have HSz := Lib.hid hsz9
    have HKb := Lib.hid H8.out.1
    have hgg : (gE != gE) = false := bne_self_eq_false gE
    clear hp9 hk9 hc9 hm9 hsz9 HG2 hS8 HP8 H8 HMid HP6 HM6 HMi HS HC HX
    refine V hK hS9 ?_; clear hK K'
    refine T 25 hS9 ?_
    refine T 26 hS9 ?_
    refine wpAnyH_done (by kernel_rfl) ?_ _
    clear hS9
    go_wp2
    have HD5 := Lib.hid (HD4.out.dp.below HR.out.2.2.2)
    have hz3 : w2.heap.size ≤ w3.heap.size := HDu.out.bel.size
    have hz4 : w3.heap.size ≤ w4.heap.size := HV.out.2.2.2.size
    have hz5 : w4.heap.size ≤ w5.heap.size := HR.out.2.2.2.size
    have hdb : w2.heap.size ≤ db ∧ db < w3.heap.size := ⟨HDu.out.d0, HDu.out.dp.lt⟩
    have hfb : w4.heap.size ≤ fn.eb ∧ fn.eb < w5.heap.size := ⟨HR.out.2.2.1 _ (.inl rfl), lt_of_block HR.out.1.blk⟩
    have hef : ∀ k, en.foot C k → w3.heap.size ≤ k ∧ k < w4.heap.size := fun k hk => ⟨HV.out.2.2.1 k hk, HV.out.1.lt k hk⟩
    have HRd := Lib.hid (And.intro hz3 (And.intro hz4 (And.intro hz5 (And.intro hdb (And.intro hfb hef)))))
    have he9 : Env w9 en (En.new 1 d.x.pc C) := (HV.out.1.below HR.out.2.2.2).frame (fun k hk => (HM9.out k (by have := hef k hk; omega) (by have := hef k hk; omega)).1) HSz.out
    have hd9 : Cpu 174 w9 db d.x.regs d.x.pc := HD5.out.frame (HM9.out db (by omega) (by omega)).1
    have hf9 : w9.heap[fn.eb]? = _ := (HM9.out fn.eb (by omega) hfb.2).1.trans HR.out.1.blk
    have HE9 := Lib.hid he9
    have HDb9 := Lib.hid hd9
    have HF9 := Lib.hid hf9
    have HLk := Lib.hid (HV.out.2.1.trans HE3.out.2)
    clear hz3 hz4 hz5 hdb hfb hef he9 hd9 hf9 HD5 HR HV HD4 HDu HE3 HEn6 HK2 HA HB25 HB56 HBd7
    go_loopw [18] (fun vi wr => m42 w9 en (En.new 1 d.x.pc C) (fun i => Cp.rg d.x.regs i) vi wr) (fun vi _ => 16 - (intOf vi).toNat)
    case atStart => exact ⟨1, Nat.le_refl _, by omega, by go_num, EStep.refl HE9.out⟩
    case round =>
      obtain ⟨i, hi1, hi2, rfl, hst⟩ := hrel
      have HSt := Lib.hid hst
      have hdp : Cpu 174 wr db d.x.regs d.x.pc := HDb9.out.keep hst.mod fun g => by
        have h1 := HRd.out.2.2.2.2.2 _ g
        have h2 := HRd.out.2.2.2.1
        omega
      have HDp := Lib.hid hdp
      clear hst
      by_cases hin : i < 16
      · have hc := hdp.cellReg i hin
        have hbd := Cp.rg_bd hdp.regs (i : Int)
        have HSR := Lib.hid (Cp.setReg_ok (HSt.out.env.below (Below.refl _ _).drew).cp i hin (Cp.rg d.x.regs i) hbd.1 hbd.2)
        have hi16 : (i : Int) < 16 := by omega
        clear hdp
        generalize hv : Cp.rg d.x.regs i = v at *
        have HvR := Lib.hid hv
        clear hv
        go_wp2_with fail
        refine wp_region_still_tail 9 (by kernel_rfl) (by kernel_rfl) ?_
        simp only [List.take_succ_cons, List.take_zero, List.drop_succ_cons, List.drop_zero]
        repeat still_step
        still_call ((Ev.cpu (HSt.out.env.below (Below.refl _ _).drew)).mono fun e w' ⟨g1, g2⟩ => ⟨g1, g2.symm⟩)
        repeat still_step
        refine wpStill_nil ?_
        change wpList _ _ _ _ _ wr.drew
        have HSd := Lib.hid (HSt.out.below (Below.refl _ _).drew)
        clear HSt hc
        generalize wr.drew = w16 at *
        go_wp2_with fail
        refine HSR.out.mono ?_
        rintro r w17 ⟨rfl, hc7, hm7⟩
        have hs7 := HSd.out.trans (EStep.regs HSd.out.env hc7 hm7)
        have HS7 : Hid (EStep w9 w17 en (En.new 1 d.x.pc C) en { En.new 1 d.x.pc C with r := Cp.regsK (fun i => Cp.rg d.x.regs i) (i + 1) }) := Lib.hid (by
          rw [← Cp.regsK_succ _ i hin]
          show EStep w9 w17 en (En.new 1 d.x.pc C) en { En.new 1 d.x.pc C with r := Cp.putG (Cp.regsK (fun i => Cp.rg d.x.regs i) i) i (Cp.rg d.x.regs i) }
          rw [HvR.out]
          exact hs7)
        clear hc7 hm7 hs7
        go_wp2
        exact ⟨⟨i + 1, by omega, by omega, by go_num, HS7.out⟩, by simp [intOf]; omega⟩
      · obtain rfl : i = 16 := by omega
        obtain ⟨hz3, hz4, hz5, hdb, hfb, hef⟩ := HRd.out
        have hreg : Cp.regsK (fun i => Cp.rg d.x.regs i) 16 = d.x.regs := Cp.regsK_regs d.x.regs HDp.out.regs.len (by
          unfold Cp.St.regs Cp.regsK
          rfl)
        have hEw : EStep w9 wr en (En.new 1 d.x.pc C) en { En.new 1 d.x.pc C with r := d.x.regs } := by
          have := HSt.out
          rw [hreg] at this
          exact this
        have hfw := (hEw.mod.block fn.eb (Nat.lt_of_lt_of_le hfb.2 HSz.out) fun g => by have := hef _ g; omega).trans HF9.out
        have q2 : wr.cell? ⟨fn.eb, 2, none⟩ = some (.pointer (some ⟨fn.cb, 0, none⟩)) := by unfold World.cell?; rw [hfw]; rfl
        have f2 : wr.frozen? ⟨fn.eb, 2, none⟩ = false := by unfold World.frozen?; rw [hfw]; simp
        have hm6 : Mod (fun i => i = fn.eb) wr (wr.setCell ⟨fn.eb, 2, none⟩ (.pointer (some ⟨db, 0, none⟩))) := Mod.setCell (F := fun i => i = fn.eb) (Mod.refl _ _) ⟨fn.eb, 2, none⟩ (.inl rfl) _
        have hta : ∀ k, en.foot C k → a7.tag k = 0 := fun k hk => (HM9.out k (by have := hef k hk; omega) (by have := hef k hk; omega)).2
        have htf : a7.tag fn.eb = 0 := (HM9.out fn.eb (by omega) hfb.2).2
        have hk6 : Knl (wr.setCell ⟨fn.eb, 2, none⟩ (.pointer (some ⟨db, 0, none⟩))) a7 aK := (HP9.out.p.keep hEw.mod fun k hk g => hk (hta k g)).keep hm6 fun k hk g => hk (by rw [g]; exact htf)
        have hE6 : Env (wr.setCell ⟨fn.eb, 2, none⟩ (.pointer (some ⟨db, 0, none⟩))) en { En.new 1 d.x.pc C with r := d.x.regs } := hEw.env.keep hm6 fun k hk g => by have := hef k hk; omega
        have hw1 : w1.heap.size ≤ w2.heap.size := HB2.out.size
        have hB6 : Below w1.heap.size w1 (wr.setCell ⟨fn.eb, 2, none⟩ (.pointer (some ⟨db, 0, none⟩))) := Mod.below (Mod.below HP9.out.bel hEw.mod HP9.out.bel.size fun k _ hk => by have := hef k hk; omega) hm6 (by have := HP9.out.bel.size; have := hEw.mod.size; omega) fun k _ hk => by omega
        have hend := HFin1.out _ a7 en { En.new 1 d.x.pc C with r := d.x.regs } ⟨b.kb, 0, none⟩ ⟨fn.eb, 0, none⟩ hok (by rw [← HAk.out]; exact ⟨hk6, hE6, hta, hB6, HP9.out.k0, fun k hk => by have := hef k hk; omega, ⟨by show (1 : Int) ≤ 1; omega, by show (1 : Int) ≤ 8; omega⟩⟩) ⟨rfl, rfl, rfl, rfl, rfl, rfl, HLk.out, rfl, rfl⟩
        rw [HKb.out] at hend
        have HEnd := Lib.hid hend
        clear hend hB6 hE6 hk6 hta htf hm6 hfw hEw hreg hw1 HSt HDp hdp HP9 HFin1 HFin2 hef
        go_wp2
        refine bodyPost_ret (v := .tuple #[.pointer (some ⟨a.kb, 0, none⟩), .pointer (some ⟨b.kb, 0, none⟩), .pointer (some ⟨en.eb, 0, none⟩), .pointer (some ⟨fn.eb, 0, none⟩)]) (by simp [results, Tryz.results21, go_sem, *]) rfl ?_
        exact HEnd.out
end Go.Proofs.YtgdodbcpnmfnnaaGreat.Fz
namespace Go.Proofs.YtgdodbcpnmfnnaaGreat
open Go.RowKit
set_option linter.unusedVariables false
set_option linter.unusedSimpArgs false
namespace Ca
theorem contains32 {w : World} {pv : Value} {xs : List Int} (h : SlV w 41 1 pv xs.length (xs.map (Value.int .u32))) (p : Int) :
    Calls Tryz.prog 95 #[pv, .int .u32 p] w fun e w' => e = .returned (.bool (decide (p ∈ xs))) ∧ w = w' := by
  have hix : Calls Tryz.prog 200 #[pv, .int .u32 p] w fun e w' => (∃ i : Int, e = .returned (.int .i64 i) ∧ -1 ≤ i ∧ i ≤ 9223372036854775807 ∧ decide (i ≥ 0) = decide (p ∈ xs)) ∧ w = w' := by
    have hcap : xs.length ≤ 9223372036854775807 := by
      rcases h.2 with ⟨h0, _⟩ | ⟨g, off, cap, cur, _, _, h1, h2, _⟩
      · omega
      · unfold maxLen at h2; omega
    obtain ⟨ao, ac, rfl⟩ := h.form
    have hcell : ∀ i : Nat, i < xs.length → ∃ g off v, ao = some ⟨g, off, none⟩ ∧ xs[i]? = some v ∧ w.cell? ⟨g, off + i, none⟩ = some (.int .u32 v) := fun i hi => by
      rcases h.2 with ⟨h0, _⟩ | ⟨g, off, cap, cur, hv, hg, _⟩
      · omega
      · simp only [Value.slice.injEq] at hv
        obtain ⟨rfl, _, rfl⟩ := hv
        refine ⟨g, off, _, rfl, List.getElem?_eq_getElem hi, ?_⟩
        rw [h.cell i (by omega), List.getElem?_map, List.getElem?_eq_getElem hi]
        rfl
    have HC := Lib.hid hcell
    have HN : Hid (∀ i : Int, xs.length ≤ i → i ≤ 9223372036854775807 → True) := Lib.hid fun _ _ _ => trivial
    clear h hcell
    go_enter Tryz.func200, Tryz.ntmps200
    go_wp2
    go_loopw [5, 8] (fun _ vi wr => ixRel w xs p vi wr) (fun _ vi _ => xs.length - (intOf vi).toNat)
    case atStart => exact ⟨0, by omega, by go_num, fun k hk => absurd hk (Nat.not_lt_zero _), rfl⟩
    case round =>
      obtain ⟨i, hi, rfl, hno, rfl⟩ := hrel
      have HNo := Lib.hid hno
      clear hno
      by_cases hin : i < xs.length
      · obtain ⟨g, off, v, rfl, hv, hc⟩ := HC.out i hin
        have HV := Lib.hid hv
        clear hv
        by_cases hx : p = v
        · have hxe : (p == v) = true := beq_iff_eq.2 hx
          have HM : Hid (decide ((i : Int) ≥ 0) = decide (p ∈ xs)) := Lib.hid (by
            rw [decide_eq_true (by omega), decide_eq_true]
            rw [hx]
            exact List.mem_of_getElem? HV.out)
          clear hx
          go_wp2
          go_ret
          exact ⟨⟨i, rfl, by omega, by omega, HM.out⟩, rfl⟩
        · have hxe : (p == v) = false := beq_eq_false_iff_ne.2 hx
          have HX := Lib.hid hx
          clear hx
          go_wp2
          refine ⟨⟨i + 1, by omega, by go_num, fun k hk => ?_, rfl⟩, by simp [intOf]; omega⟩
          rcases Nat.lt_or_ge k i with q | q
          · exact HNo.out k q
          · obtain rfl : k = i := by omega
            intro e
            rw [HV.out] at e
            exact HX.out (Option.some.inj e).symm
      · have HM : Hid (decide ((-1 : Int) ≥ 0) = decide (p ∈ xs)) := Lib.hid (by
          rw [decide_eq_false (by omega), decide_eq_false]
          intro hm
          obtain ⟨k, hk⟩ := List.getElem?_of_mem hm
          exact HNo.out k (by have := (List.getElem?_eq_some_iff.1 hk).1; omega) hk)
        go_wp2
        go_ret
        exact ⟨⟨-1, rfl, by omega, by omega, HM.out⟩, rfl⟩
  have H := Lib.hid hix
  clear hix h
  go_enter Tryz.func95, Tryz.ntmps95
  go_wp2_with fail
  refine H.out.mono ?_
  rintro e w1 ⟨⟨i, rfl, i0, i1, hd⟩, rfl⟩
  have HD := Lib.hid hd
  clear hd
  go_wp2
  go_ret
  exact ⟨by rw [HD.out]; rfl, rfl⟩
theorem clt {w : World} {b i : Nat} {v : Value} (h : w.cell? ⟨b, i, none⟩ = some v) : b < w.heap.size := by
  unfold World.cell? at h
  cases hg : w.heap[b]? with
  | none => rw [hg] at h; cases h
  | some _ => exact lt_of_block hg
def ManP (w : World) (g : Option Gr) (e : Ending) (w' : World) : Prop :=
  ∃ ev pv, e = .returned (.tuple #[.agg ((gOf g).m.cells ev pv), .bool g.isSome]) ∧ MnAt w' ev pv (gOf g).m ∧ (∀ b, ev.ownBlock = some b ∨ pv.ownBlock = some b → w.heap.size ≤ b ∧ b < w'.heap.size) ∧ Below w.heap.size w w'
theorem man_cells4 {w : World} {b : Nat} {m : Mn} {ev pv : Value} (h : w.heap[b]? = some (.cells (m.cells ev pv) 45 (0, 0))) : w.cell? ⟨b, 0, none⟩ = some (.int .u32 m.pages) ∧ w.cell? ⟨b, 1, none⟩ = some ev ∧ w.cell? ⟨b, 2, none⟩ = some pv ∧ w.cell? ⟨b, 3, none⟩ = some (.bool m.con) ∧ ∀ j, w.frozen? ⟨b, j, none⟩ = false := by
  refine ⟨?_, ?_, ?_, ?_, fun j => ?_⟩
  · unfold World.cell?; rw [h]; rfl
  · unfold World.cell?; rw [h]; rfl
  · unfold World.cell?; rw [h]; rfl
  · unfold World.cell?; rw [h]; rfl
  · unfold World.frozen?; rw [h]; simp
set_option maxRecDepth 100000 in
set_option maxHeartbeats 4000000 in
theorem manifest {w : World} {a : CAt} {hp : Int} {G : Int → Option Gr} {n : Int} (h : Cps w a hp G) (hn : I64 n) (hl : (gOf (G n)).m.ext.length ≤ 2000000 ∧ (gOf (G n)).m.ports.length ≤ 2000000) :
    Calls Tryz.prog 87 #[.pointer (some ⟨a.cb, 0, none⟩), .int .i64 n] w (ManP w (G n)) := by
  have HFin : Hid (∀ V ev pv, MnAt V ev pv (gOf (G n)).m → (∀ b, ev.ownBlock = some b ∨ pv.ownBlock = some b → w.heap.size ≤ b ∧ b < V.heap.size) → Below w.heap.size w V → ManP w (G n) (.returned (.tuple #[.agg #[.int .u32 (gOf (G n)).m.pages, ev, pv, .bool (gOf (G n)).m.con], .bool (G n).isSome])) V) := Lib.hid fun V ev pv h1 h2 h3 => ⟨ev, pv, rfl, h1, h2, h3⟩
  have HL := Lib.hid hl
  have hb : Below w.heap.size w (w.alloc (.cells #[.int .u32 0, .slice none 0 0, .slice none 0 0, .bool false] 45)) := (Below.refl _ _).alloc (Nat.le_refl _) _
  have HM0 := Lib.hid (heap_alloc_new w (.cells #[.int .u32 0, .slice none 0 0, .slice none 0 0, .bool false] 45))
  have HOf := Lib.hid (of (h.mod (Mod.of_below hb fun _ => False) fun _ _ => id) hn)
  have HB := Lib.hid hb
  generalize hg : gOf (G n) = g at *
  have HG := Lib.hid hg
  generalize ManP w (G n) = PQ at *
  generalize G n = gn at *
  clear h hn hl hb hg
  go_enter Tryz.func87, Tryz.ntmps87
  go_wp2_with fail
  generalize w.alloc (.cells #[.int .u32 0, .slice none 0 0, .slice none 0 0, .bool false] 45) = w0 at *
  refine HOf.out.mono ?_
  rintro e w1 ⟨gb, ev, pv, rfl, hb1, hgb, hmn⟩
  rw [HG.out] at hgb hmn
  have HB1 := Lib.hid hb1
  have HMn := Lib.hid hmn
  have g0 : w1.cell? ⟨gb, 0, none⟩ = some (.int .u32 g.m.pages) := by unfold World.cell?; rw [hgb]; rfl
  have g1 : w1.cell? ⟨gb, 1, none⟩ = some ev := by unfold World.cell?; rw [hgb]; rfl
  have g2 : w1.cell? ⟨gb, 2, none⟩ = some pv := by unfold World.cell?; rw [hgb]; rfl
  have g3 : w1.cell? ⟨gb, 3, none⟩ = some (.bool g.m.con) := by unfold World.cell?; rw [hgb]; rfl
  clear hb1 hgb hmn HOf
  obtain ⟨eo, ec, rfl⟩ := HMn.out.e.form
  obtain ⟨po, pc, rfl⟩ := HMn.out.p.form
  go_wp2_with fail
  have hM2 : (w1.alloc (.cells #[.int .u32 g.m.pages, .slice eo g.m.ext.length ec, .slice po g.m.ports.length pc, .bool g.m.con] 45)).heap[w1.heap.size]? = some (.cells (g.m.cells (.slice eo g.m.ext.length ec) (.slice po g.m.ports.length pc)) 45 (0, 0)) := heap_alloc_new w1 _
  have hb2 : Below w1.heap.size w1 (w1.alloc (.cells #[.int .u32 g.m.pages, .slice eo g.m.ext.length ec, .slice po g.m.ports.length pc, .bool g.m.con] 45)) := (Below.refl _ _).alloc (Nat.le_refl _) _
  clear g0 g1 g2 g3
  have HMn2 := Lib.hid (HMn.out.below hb2)
  have HB2 := Lib.hid (below_th HB1.out hb2)
  obtain ⟨mb, hmb⟩ : ∃ y, w1.heap.size = y := ⟨_, rfl⟩
  have hmb0 : w0.heap.size ≤ mb := by rw [← hmb]; exact HB1.out.size
  rw [hmb] at hM2 ⊢
  clear hb2
  generalize w1.alloc (.cells #[.int .u32 g.m.pages, .slice eo g.m.ext.length ec, .slice po g.m.ports.length pc, .bool g.m.con] 45) = w2 at *
  clear hmb HMn HB1
  obtain ⟨d0, d1, d2, d3, df⟩ := man_cells4 hM2
  have HM2 := Lib.hid hM2
  refine LB (fun W => W.cell? ⟨mb, 2, none⟩ = some (.slice po g.m.ports.length pc) ∧ True) 9 ⟨d2, trivial⟩ fun wd hwd hS => ?_
  have e1 : wd.cell? ⟨mb, 1, none⟩ = some (.slice eo g.m.ext.length ec) := by rw [hwd]; exact d1
  have HBd := Lib.hid (show Below w2.heap.size w2 wd by rw [hwd]; exact (Below.refl _ _).drew)
  clear hwd d0 d1 d2 d3 df hM2
  refine LT 0 hS ?_
  refine LT 3 hS ?_
  refine LT 4 hS ?_
  refine LU 1 fun K hK => ?_
  go_simp
  refine LV hK (fun _ => hS) ?_; clear hK K
  have hce := Cl.clone_ext (cap := ec) (a := eo) (n := g.m.ext.length) (by have := HMn2.out.e.1; omega) (Cl.at_slv (HMn2.out.below HBd.out).e) HL.out.1 (fun u hu => by obtain ⟨x, _, hx⟩ := List.mem_flatMap.1 hu; simp at hx; rcases hx with rfl | rfl <;> rfl)
  have HCe := Lib.hid hce
  clear hce e1
  refine LU 2 fun K hK => ?_
  go_simp
  go_at_call 192
  refine HCe.out.mono ?_
  rintro e w5 ⟨v5, rfl, hs5, ho5, hb5⟩
  obtain ⟨o5, c5, rfl⟩ := hs5.form
  have HB5 := Lib.hid (below_th HBd.out hb5)
  have H5 := Lib.hid (And.intro hs5 ho5)
  have hS5 : w5.cell? ⟨mb, 2, none⟩ = some (.slice po g.m.ports.length pc) ∧ True := ⟨hb5.cell (clt hS.1) |>.trans hS.1, trivial⟩
  have hcu := Cl.clone_u16 (cap := pc) (a := po) (n := g.m.ports.length) (by have := HMn2.out.p.1; omega) (Cl.at_slv (HMn2.out.below HB5.out).p) HL.out.2 (fun u hu => by obtain ⟨z, _, rfl⟩ := List.mem_map.1 hu; rfl)
  have HCu := Lib.hid hcu
  clear hcu hs5 ho5 hb5 HCe hS
  refine LV hK (fun _ => hS5) ?_; clear hK K
  refine LT 6 hS5 ?_
  refine LU 5 fun K hK => ?_
  go_simp
  go_at_call 193
  refine HCu.out.mono ?_
  rintro e w6 ⟨v6, rfl, hs6, ho6, hb6⟩
  obtain ⟨o6, c6, rfl⟩ := hs6.form
  have HB6 := Lib.hid (below_th HB5.out hb6)
  have H6 := Lib.hid (And.intro hs6 ho6)
  have hz5 := HB5.out.size
  have hz6 := hb6.size
  have H5' := Lib.hid (And.intro (H5.out.1.keep fun b hb => hb6.block b (H5.out.2 b hb).2) fun b hb => (show w2.heap.size ≤ b ∧ b < w6.heap.size from ⟨Nat.le_trans (HBd.out.size) (H5.out.2 b hb).1, Nat.lt_of_lt_of_le (H5.out.2 b hb).2 hz6⟩))
  have hS6 : w6.cell? ⟨mb, 2, none⟩ = some (.slice po g.m.ports.length pc) ∧ True := ⟨hb6.cell (clt hS5.1) |>.trans hS5.1, trivial⟩
  have hk6 : w6.heap[mb]? = _ := (HB6.out.block _ (lt_of_block HM2.out)).trans HM2.out
  obtain ⟨d0, d1, d2, d3, df⟩ := man_cells4 hk6
  have df1 := df 1
  have df2 := df 2
  have HK6 := Lib.hid hk6
  have HMl := Lib.hid (lt_of_block HM2.out)
  clear hs6 ho6 hb6 HCu hS5 H5 hk6 df HM2 HMn2 hz5 hz6
  refine LV hK (fun _ => hS6) ?_; clear hK K
  refine LU 7 fun K hK => ?_
  go_simp
  have hk7 := heap_setCell_same w6 mb 1 _ _ (.slice o5 g.m.ext.length c5) HK6.out
  have hm7 : Mod (fun i => i = mb) w6 (w6.setCell ⟨mb, 1, none⟩ (.slice o5 g.m.ext.length c5)) := Mod.setCell (F := fun i => i = mb) (Mod.refl _ _) ⟨mb, 1, none⟩ (.inl rfl) _
  obtain ⟨w7, hw7⟩ : ∃ y, w6.setCell ⟨mb, 1, none⟩ (.slice o5 g.m.ext.length c5) = y := ⟨_, rfl⟩
  rw [hw7] at hk7 hm7 ⊢
  have f0 : w7.cell? ⟨mb, 0, none⟩ = some (.int .u32 g.m.pages) := by unfold World.cell?; rw [hk7]; rfl
  have f1 : w7.cell? ⟨mb, 1, none⟩ = some (.slice o5 g.m.ext.length c5) := by unfold World.cell?; rw [hk7]; rfl
  have f2 : w7.cell? ⟨mb, 2, none⟩ = some (.slice po g.m.ports.length pc) := by unfold World.cell?; rw [hk7]; rfl
  have f3 : w7.cell? ⟨mb, 3, none⟩ = some (.bool g.m.con) := by unfold World.cell?; rw [hk7]; rfl
  have ff : w7.frozen? ⟨mb, 2, none⟩ = false := by unfold World.frozen?; rw [hk7]; simp
  have HK7 := Lib.hid hk7
  have HM7 := Lib.hid hm7
  have hS7 : w7.cell? ⟨mb, 2, none⟩ = some (.slice po g.m.ports.length pc) ∧ True := ⟨f2, trivial⟩
  clear hw7 hk7 hm7 d0 d1 d2 d3 df1 df2 hS6
  refine LV hK (fun _ => hS7) ?_; clear hK K
  refine LT 8 hS7 ?_
  refine LU 9 fun K hK => ?_
  go_simp
  have hk8 := heap_setCell_same w7 mb 2 _ _ (.slice o6 g.m.ports.length c6) HK7.out
  have hm8 : Mod (fun i => i = mb) w6 (w7.setCell ⟨mb, 2, none⟩ (.slice o6 g.m.ports.length c6)) := HM7.out.setCell ⟨mb, 2, none⟩ (.inl rfl) _
  obtain ⟨w8, hw8⟩ : ∃ y, w7.setCell ⟨mb, 2, none⟩ (.slice o6 g.m.ports.length c6) = y := ⟨_, rfl⟩
  rw [hw8] at hk8 hm8 ⊢
  have f0' : w8.cell? ⟨mb, 0, none⟩ = some (.int .u32 g.m.pages) := by unfold World.cell?; rw [hk8]; rfl
  have f1' : w8.cell? ⟨mb, 1, none⟩ = some (.slice o5 g.m.ext.length c5) := by unfold World.cell?; rw [hk8]; rfl
  have f2' : w8.cell? ⟨mb, 2, none⟩ = some (.slice o6 g.m.ports.length c6) := by unfold World.cell?; rw [hk8]; rfl
  have f3' : w8.cell? ⟨mb, 3, none⟩ = some (.bool g.m.con) := by unfold World.cell?; rw [hk8]; rfl
  have HM8 := Lib.hid hm8
  clear hw8 hk8 hm8 f0 f1 f2 f3 ff hS7
  refine LV hK (fun e => absurd rfl e) ?_; clear hK K
  refine E_done (by kernel_rfl) ?_ _
  have hb8 : w8.heap[w.heap.size]? = some (.cells ((⟨0, [], [], false⟩ : Mn).cells (.slice none 0 0) (.slice none 0 0)) 45 (0, 0)) := by
    have l0 := lt_of_block HM0.out
    have l2 : w.heap.size < w2.heap.size := Nat.lt_of_lt_of_le l0 HB2.out.size
    rw [HM8.out.block _ (Nat.lt_of_lt_of_le l2 HB6.out.size) (by omega), HB6.out.block _ l2, HB2.out.block _ l0]
    exact HM0.out
  have hbel8 : Below w.heap.size w w8 := Mod.below (below_th (below_th HB.out HB2.out) HB6.out) HM8.out (by have := HB.out.size; have := HB2.out.size; have := HB6.out.size; omega) fun i _ e => by have := HB.out.size; omega
  obtain ⟨z0, z1, z2, z3, zf⟩ := man_cells4 hb8
  have zf0 := zf 0
  have zf1 := zf 1
  have zf2 := zf 2
  have zf3 := zf 3
  have HBe := Lib.hid hbel8
  have hl5 := fun b hb => (H5'.out.2 b hb)
  have hl6 := fun b hb => (H6.out.2 b hb)
  have H8 : Hid (∀ W, Mod (fun i => i = w.heap.size) w8 W → MnAt W (.slice o5 g.m.ext.length c5) (.slice o6 g.m.ports.length c6) g.m ∧ ∀ b, (Value.slice o5 g.m.ext.length c5).ownBlock = some b ∨ (Value.slice o6 g.m.ports.length c6).ownBlock = some b → w.heap.size ≤ b ∧ b < W.heap.size) := Lib.hid fun W hW => by
    have s8 := HM8.out.size
    have sW := hW.size
    have b2 := HB2.out.size
    have b1 := lt_of_block HM0.out
    have b6 := HBd.out.size
    have b7 := HB5.out.size
    have hne : ∀ b, (Value.slice o5 g.m.ext.length c5).ownBlock = some b ∨ (Value.slice o6 g.m.ports.length c6).ownBlock = some b → w2.heap.size ≤ b ∧ b < w6.heap.size := fun b hb => by
      rcases hb with q | q
      · exact hl5 b q
      · have := hl6 b q; omega
    have hkeep : ∀ b, (Value.slice o5 g.m.ext.length c5).ownBlock = some b ∨ (Value.slice o6 g.m.ports.length c6).ownBlock = some b → W.heap[b]? = w6.heap[b]? := fun b hb => by
      have := hne b hb
      have hl := HMl.out
      rw [hW.block b (by omega) (by omega), HM8.out.block b (by omega) (by omega)]
    exact ⟨⟨H5'.out.1.keep fun b hb => hkeep b (.inl hb), H6.out.1.keep fun b hb => hkeep b (.inr hb)⟩, fun b hb => by have := hne b hb; omega⟩
  clear hb8 hbel8 zf hl5 hl6 HB6 HM8 HM0 H5' H6 HB HB2 HBd HB5
  go_wp2
  have hm9 := ((((Mod.refl (fun i => i = w.heap.size) w8).setCell ⟨w.heap.size, 0, none⟩ (.inl rfl) (.int .u32 g.m.pages)).setCell ⟨w.heap.size, 1, none⟩ (.inl rfl) (.slice o5 g.m.ext.length c5)).setCell ⟨w.heap.size, 2, none⟩ (.inl rfl) (.slice o6 g.m.ports.length c6)).setCell ⟨w.heap.size, 3, none⟩ (.inl rfl) (.bool g.m.con)
  have hend := HFin.out _ _ _ (H8.out _ hm9).1 (H8.out _ hm9).2 (Mod.below HBe.out hm9 HBe.out.size fun i _ e => by omega)
  first | exact hend | (refine bodyPost_ret (v := .tuple #[.agg #[.int .u32 g.m.pages, .slice o5 g.m.ext.length c5, .slice o6 g.m.ports.length c6, .bool g.m.con], .bool gn.isSome]) (by simp [results, Tryz.results87, go_sem, *]) rfl ?_; exact hend)
end Ca
end Go.Proofs.YtgdodbcpnmfnnaaGreat
