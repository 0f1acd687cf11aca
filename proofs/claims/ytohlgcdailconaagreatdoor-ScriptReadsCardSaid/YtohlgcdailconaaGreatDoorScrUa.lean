/- The walks of the document's act, Acts. -/
import Derived.Test.YtohlgcdailconaaGreatDoorScrUy
import Derived.Test.YtohlgcdailconaaGreatDoorScrL
import Derived.BigQuiet
namespace Go.Proofs.YtohlgcdailconaaGreatDoor.Scr
open Go.RowKit Lib
set_option linter.unusedVariables false
set_option linter.unusedSimpArgs false
namespace R32
def ActP (a : Ac) (w : World) (e : Ending) (w' : World) : Prop := Below w.heap.size w w' ∧ ∃ s b, e = .returned (.tuple #[str s, .bool b]) ∧ b = mayA a ∧ (b = true → s = lineA a)
theorem four_of {w : World} {b : Nat} {d n m t : Value} (h : w.heap[b]? = some (.cells #[d, n, m, t] 44 (0, 0))) : w.cell? ⟨b, 0, none⟩ = some d ∧ w.cell? ⟨b, 1, none⟩ = some n ∧ w.cell? ⟨b, 2, none⟩ = some m ∧ w.cell? ⟨b, 3, none⟩ = some t := by
  unfold World.cell?
  rw [h]
  exact ⟨rfl, rfl, rfl, rfl⟩
theorem keep3 {W V : World} {k : Nat} {x y z : Value} (hz : k < W.heap.size) (hb : Below W.heap.size W V) (h1 : W.cell? ⟨k, 1, none⟩ = some x) (h2 : W.cell? ⟨k, 2, none⟩ = some y) (h3 : W.cell? ⟨k, 3, none⟩ = some z) :
    V.cell? ⟨k, 1, none⟩ = some x ∧ V.cell? ⟨k, 2, none⟩ = some y ∧ V.cell? ⟨k, 3, none⟩ = some z :=
  ⟨(hb.cell (p := ⟨k, 1, none⟩) hz).trans h1, (hb.cell (p := ⟨k, 2, none⟩) hz).trans h2, (hb.cell (p := ⟨k, 3, none⟩) hz).trans h3⟩
set_option maxHeartbeats 4000000 in
theorem act (a : Ac) (ha : a.ok) (ht : a.t.length ≤ 65536) (w : World) : Calls Tryz.prog 27 #[.agg (acC a).toArray] w (ActP a w) := by
  have HFin := Lib.hid fun V s b (hb : Below w.heap.size w V) (h1 : b = mayA a) (h2 : b = true → s = lineA a) => (show ActP a w (.returned (.tuple #[.string ⟨s.toArray⟩, .bool b])) V from ⟨hb, s, b, rfl, h1, h2⟩)
  generalize ActP a w = PQ at *
  rw [acC_eq] at *
  have HMay : Hid (mayA a = (decide (0 < a.d) && decide (a.d < 8) && (decide (a.n = 0) || decide (0 < ((form a.d).n : Int))) && (decide (a.m = 0) || decide (1 < ((form a.d).n : Int))) && (decide (a.t = []) || (form a.d).text))) := Lib.hid rfl
  have HLine : Hid (lineA a = Lib.join ((form a.d).word :: (([a.n, a.m].take (form a.d).n).map Lib.itoa ++ if (form a.d).text then [120 :: hexT a.t] else [])) [32]) := Lib.hid rfl
  generalize mayA a = may at *
  generalize lineA a = line at *
  obtain ⟨d, n, m, t⟩ := a
  obtain ⟨d0, d1, n0, n1, m0, m1, t1⟩ := ha
  simp only at *
  have HNum := Lib.hid fun V => number' n n0 n1 V
  have HNum2 := Lib.hid fun V => number' m m0 m1 V
  have HByt := Lib.hid fun V => bytes' t ht V
  have HB : Hid (Below w.heap.size w (w.alloc (.cells #[.int .u8 d, .int .i64 n, .int .i64 m, .string ⟨t.toArray⟩] 44))) := Lib.hid ((Below.refl _ _).alloc (Nat.le_refl _) _)
  have HBlk : Hid ((w.alloc (.cells #[.int .u8 d, .int .i64 n, .int .i64 m, .string ⟨t.toArray⟩] 44)).heap[w.heap.size]? = some (actBlk d n m t)) := Lib.hid (heap_alloc_new w _)
  by_cases hd2 : d = 2
  · subst hd2
    go_enter Tryz.func27, Tryz.ntmps27
    go_wp2_with fail
    generalize w.alloc (.cells #[.int .u8 2, .int .i64 n, .int .i64 m, .string ⟨t.toArray⟩] 44) = W at *
    obtain ⟨c0, cn, cm, ct⟩ := four_of HBlk.out
    have hz := lt_of_block HBlk.out
    have HLI : Hid (line = [114, 117, 110, 32] ++ Lib.itoa n ++ [32] ++ Lib.itoa m) := Lib.hid (by rw [HLine.out]; simp [form, forms, Lib.join])
    have HMI : Hid (may = t.isEmpty) := Lib.hid (by rw [HMay.out]; cases t <;> simp [form, forms])
    unfold NumP str at *
    have g1 : ¬ 9223372036854775807 < 4 + (Lib.itoa n).length := by have := Lib.itoa_length_le n n0 n1; omega
    have g2 : ¬ 9223372036854775807 < 4 + (Lib.itoa n).length + 1 := by have := Lib.itoa_length_le n n0 n1; omega
    have g3 : ¬ 9223372036854775807 < 4 + (Lib.itoa n).length + 1 + (Lib.itoa m).length := by have := Lib.itoa_length_le n n0 n1; have := Lib.itoa_length_le m m0 m1; omega
    clear HLine HMay HByt HBlk
    have HD := keep3 hz (Below.refl W.heap.size W).drew cn cm ct
    refine wp_region_held (S := fun w' => w'.cell? ⟨w.heap.size, 1, none⟩ = some (.int .i64 n) ∧ w'.cell? ⟨w.heap.size, 2, none⟩ = some (.int .i64 m) ∧ w'.cell? ⟨w.heap.size, 3, none⟩ = some (.string ⟨t.toArray⟩)) (by kernel_rfl) ?_
    refine H_take (i := 0) (v := ?_) rfl (by kernel_rfl) (by kernel_rfl) (by kernel_rfl) (fun _ _ _ h => h) (Or.inl ⟨by rfl, ?_⟩) HD ?_
    rotate_left
    · intro W hW; obtain ⟨k1, k2, k3⟩ := hW; go_simp; try with_reducible rfl
    try simp only [Act.put, List.getElem_toArray, List.getElem_cons_succ, List.getElem_cons_zero, List.setIfInBounds_toArray, List.set_cons_zero, List.set_cons_succ]
    refine H_take (i := 1) (v := ?_) rfl (by kernel_rfl) (by kernel_rfl) (by kernel_rfl) (fun _ _ _ h => h) (Or.inl ⟨by rfl, ?_⟩) HD ?_
    rotate_left
    · intro W hW; obtain ⟨k1, k2, k3⟩ := hW; go_simp; try with_reducible rfl
    try simp only [Act.put, List.getElem_toArray, List.getElem_cons_succ, List.getElem_cons_zero, List.setIfInBounds_toArray, List.set_cons_zero, List.set_cons_succ]
    refine H_take (i := 5) (v := ?_) rfl (by kernel_rfl) (by kernel_rfl) (by kernel_rfl) (fun _ _ _ h => h) (Or.inl ⟨by rfl, ?_⟩) HD ?_
    rotate_left
    · intro W hW; obtain ⟨k1, k2, k3⟩ := hW; go_simp; try with_reducible rfl
    try simp only [Act.put, List.getElem_toArray, List.getElem_cons_succ, List.getElem_cons_zero, List.setIfInBounds_toArray, List.set_cons_zero, List.set_cons_succ]
    refine H_take (i := 6) (v := ?_) rfl (by kernel_rfl) (by kernel_rfl) (by kernel_rfl) (fun _ _ _ h => h) (Or.inl ⟨by rfl, ?_⟩) HD ?_
    rotate_left
    · intro W hW; obtain ⟨k1, k2, k3⟩ := hW; go_simp; try with_reducible rfl
    try simp only [Act.put, List.getElem_toArray, List.getElem_cons_succ, List.getElem_cons_zero, List.setIfInBounds_toArray, List.set_cons_zero, List.set_cons_succ]
    refine H_take (i := 9) (v := ?_) rfl (by kernel_rfl) (by kernel_rfl) (by kernel_rfl) (fun _ _ _ h => h) (Or.inl ⟨by rfl, ?_⟩) HD ?_
    rotate_left
    · intro W hW; obtain ⟨k1, k2, k3⟩ := hW; go_simp; try with_reducible rfl
    try simp only [Act.put, List.getElem_toArray, List.getElem_cons_succ, List.getElem_cons_zero, List.setIfInBounds_toArray, List.set_cons_zero, List.set_cons_succ]
    refine H_take (i := 10) (v := ?_) rfl (by kernel_rfl) (by kernel_rfl) (by kernel_rfl) (fun _ _ _ h => h) (Or.inl ⟨by rfl, ?_⟩) HD ?_
    rotate_left
    · intro W hW; obtain ⟨k1, k2, k3⟩ := hW; go_simp; try with_reducible rfl
    try simp only [Act.put, List.getElem_toArray, List.getElem_cons_succ, List.getElem_cons_zero, List.setIfInBounds_toArray, List.set_cons_zero, List.set_cons_succ]
    refine H_take (i := 11) (v := ?_) rfl (by kernel_rfl) (by kernel_rfl) (by kernel_rfl) (fun _ _ _ h => h) (Or.inl ⟨by rfl, ?_⟩) HD ?_
    rotate_left
    · intro W hW; obtain ⟨k1, k2, k3⟩ := hW; go_simp; try with_reducible rfl
    try simp only [Act.put, List.getElem_toArray, List.getElem_cons_succ, List.getElem_cons_zero, List.setIfInBounds_toArray, List.set_cons_zero, List.set_cons_succ]
    refine H_one (i := 2) (by kernel_rfl) rfl (fun K hK => ?_)
    go_simp
    go_at_call 22
    refine (HNum.out _).mono ?_
    rintro e w1 ⟨rfl, hb⟩
    have hb := below_th (Below.refl W.heap.size W).drew hb
    obtain ⟨cn1, cm1, ct1⟩ := keep3 hz hb cn cm ct
    have HB1 := Lib.hid hb
    clear hb
    refine hK.out _ _ ⟨cn1, cm1, ct1⟩ (fun _ => ?_)
    clear hK K
    try simp only [Act.put, List.getElem_toArray, List.getElem_cons_succ, List.getElem_cons_zero, List.setIfInBounds_toArray, List.set_cons_zero, List.set_cons_succ]
    refine H_take (i := 3) (v := ?_) rfl (by kernel_rfl) (by kernel_rfl) (by kernel_rfl) (fun _ _ _ h => h) (Or.inl ⟨by rfl, ?_⟩) ⟨cn1, cm1, ct1⟩ ?_
    rotate_left
    · intro W hW; obtain ⟨k1, k2, k3⟩ := hW; go_simp; try with_reducible rfl
    try simp only [Act.put, List.getElem_toArray, List.getElem_cons_succ, List.getElem_cons_zero, List.setIfInBounds_toArray, List.set_cons_zero, List.set_cons_succ]
    refine H_take (i := 4) (v := ?_) rfl (by kernel_rfl) (by kernel_rfl) (by kernel_rfl) (fun _ _ _ h => h) (Or.inl ⟨by rfl, ?_⟩) ⟨cn1, cm1, ct1⟩ ?_
    rotate_left
    · intro W hW; obtain ⟨k1, k2, k3⟩ := hW; go_simp; try with_reducible rfl
    try simp only [Act.put, List.getElem_toArray, List.getElem_cons_succ, List.getElem_cons_zero, List.setIfInBounds_toArray, List.set_cons_zero, List.set_cons_succ]
    refine H_one (i := 7) (by kernel_rfl) rfl (fun K hK => ?_)
    go_simp
    go_at_call 22
    refine (HNum2.out _).mono ?_
    rintro e w2 ⟨rfl, hb⟩
    have hb := below_th HB1.out hb
    obtain ⟨cn2, cm2, ct2⟩ := keep3 hz hb cn cm ct
    have HB2 := Lib.hid hb
    clear hb
    refine hK.out _ _ ⟨cn2, cm2, ct2⟩ (fun _ => ?_)
    clear hK K
    try simp only [Act.put, List.getElem_toArray, List.getElem_cons_succ, List.getElem_cons_zero, List.setIfInBounds_toArray, List.set_cons_zero, List.set_cons_succ]
    refine H_take (i := 8) (v := ?_) rfl (by kernel_rfl) (by kernel_rfl) (by kernel_rfl) (fun _ _ _ h => h) (Or.inl ⟨by rfl, ?_⟩) ⟨cn2, cm2, ct2⟩ ?_
    rotate_left
    · intro W hW; obtain ⟨k1, k2, k3⟩ := hW; go_simp; try with_reducible rfl
    try simp only [Act.put, List.getElem_toArray, List.getElem_cons_succ, List.getElem_cons_zero, List.setIfInBounds_toArray, List.set_cons_zero, List.set_cons_succ]
    refine H_take (i := 12) (v := ?_) rfl (by kernel_rfl) (by kernel_rfl) (by kernel_rfl) (fun _ _ _ h => h) (Or.inl ⟨by rfl, ?_⟩) ⟨cn2, cm2, ct2⟩ ?_
    rotate_left
    · intro W hW; obtain ⟨k1, k2, k3⟩ := hW; go_simp; try with_reducible rfl
    try simp only [Act.put, List.getElem_toArray, List.getElem_cons_succ, List.getElem_cons_zero, List.setIfInBounds_toArray, List.set_cons_zero, List.set_cons_succ]
    refine H_take (i := 13) (v := ?_) rfl (by kernel_rfl) (by kernel_rfl) (by kernel_rfl) (fun _ _ _ h => h) (Or.inl ⟨by rfl, ?_⟩) ⟨cn2, cm2, ct2⟩ ?_
    rotate_left
    · intro W hW; obtain ⟨k1, k2, k3⟩ := hW; go_simp; try with_reducible rfl
    try simp only [Act.put, List.getElem_toArray, List.getElem_cons_succ, List.getElem_cons_zero, List.setIfInBounds_toArray, List.set_cons_zero, List.set_cons_succ]
    refine wpAnyH_done (by kernel_rfl) ?_ _
    go_wp2
    exact HFin.out _ ([114, 117, 110, 32] ++ Lib.itoa n ++ [32] ++ Lib.itoa m) _ (HB.out.trans (HB2.out.mono HB.out.size)) HMI.out.symm fun _ => HLI.out.symm
  · by_cases hd : d = 1 ∨ d = 5 ∨ d = 6 ∨ d = 7
    · have HLI : Hid (line = (form d).word ++ [32] ++ Lib.itoa n) := Lib.hid (by rw [HLine.out]; rcases hd with rfl | rfl | rfl | rfl <;> simp [form, forms, Lib.join])
      have HMI : Hid (may = ((m == 0) && t.isEmpty)) := Lib.hid (by rw [HMay.out]; rcases hd with rfl | rfl | rfl | rfl <;> cases t <;> simp [form, forms] <;> rfl)
      have g1 : ¬ 9223372036854775807 < 5 + (Lib.itoa n).length := by have := Lib.itoa_length_le n n0 n1; omega
      have g2 : ¬ 9223372036854775807 < 8 + (Lib.itoa n).length := by have := Lib.itoa_length_le n n0 n1; omega
      clear HLine HMay
      unfold NumP at *
      rcases hd with rfl | rfl | rfl | rfl
      all_goals
        by_cases hm : m = 0
        · have hm0 : ((m : Int) == 0) = true := beq_iff_eq.2 hm
          clear hm
          unfold str at *
          go_enter Tryz.func27, Tryz.ntmps27
          go_wp2_with fail
          generalize hW : w.alloc (.cells #[.int .u8 _, .int .i64 n, .int .i64 m, .string ⟨t.toArray⟩] 44) = W at *
          clear hW
          obtain ⟨c0, cn, cm, ct⟩ := four_of HBlk.out
          have hz := lt_of_block HBlk.out
          have HD := fun X => keep3 hz (((Below.refl W.heap.size W).alloc (Nat.le_refl _) X).drew) cn cm ct
          refine wp_region_held (S := fun w' => w'.cell? ⟨w.heap.size, 1, none⟩ = some (.int .i64 n) ∧ w'.cell? ⟨w.heap.size, 2, none⟩ = some (.int .i64 m) ∧ w'.cell? ⟨w.heap.size, 3, none⟩ = some (.string ⟨t.toArray⟩)) (by kernel_rfl) ?_
          refine H_take (i := 0) (v := ?_) rfl (by kernel_rfl) (by kernel_rfl) (by kernel_rfl) (fun _ _ _ h => h) (Or.inl ⟨by rfl, ?_⟩) (HD _) ?_
          rotate_left
          · intro W hW; obtain ⟨k1, k2, k3⟩ := hW; go_simp; try with_reducible rfl
          try simp only [Act.put, List.getElem_toArray, List.getElem_cons_succ, List.getElem_cons_zero, List.setIfInBounds_toArray, List.set_cons_zero, List.set_cons_succ]
          refine H_take (i := 1) (v := ?_) rfl (by kernel_rfl) (by kernel_rfl) (by kernel_rfl) (fun _ _ _ h => h) (Or.inl ⟨by rfl, ?_⟩) (HD _) ?_
          rotate_left
          · intro W hW; obtain ⟨k1, k2, k3⟩ := hW; go_simp; try with_reducible rfl
          try simp only [Act.put, List.getElem_toArray, List.getElem_cons_succ, List.getElem_cons_zero, List.setIfInBounds_toArray, List.set_cons_zero, List.set_cons_succ]
          refine H_take (i := 2) (v := ?_) rfl (by kernel_rfl) (by kernel_rfl) (by kernel_rfl) (fun _ _ _ h => h) (Or.inl ⟨by rfl, ?_⟩) (HD _) ?_
          rotate_left
          · intro W hW; obtain ⟨k1, k2, k3⟩ := hW; go_simp; try with_reducible rfl
          try simp only [Act.put, List.getElem_toArray, List.getElem_cons_succ, List.getElem_cons_zero, List.setIfInBounds_toArray, List.set_cons_zero, List.set_cons_succ]
          refine H_take (i := 3) (v := ?_) rfl (by kernel_rfl) (by kernel_rfl) (by kernel_rfl) (fun _ _ _ h => h) (Or.inl ⟨by rfl, ?_⟩) (HD _) ?_
          rotate_left
          · intro W hW; obtain ⟨k1, k2, k3⟩ := hW; go_simp; try with_reducible rfl
          try simp only [Act.put, List.getElem_toArray, List.getElem_cons_succ, List.getElem_cons_zero, List.setIfInBounds_toArray, List.set_cons_zero, List.set_cons_succ]
          refine H_take (i := 6) (v := ?_) rfl (by kernel_rfl) (by kernel_rfl) (by kernel_rfl) (fun _ _ _ h => h) (Or.inl ⟨by rfl, ?_⟩) (HD _) ?_
          rotate_left
          · intro W hW; obtain ⟨k1, k2, k3⟩ := hW; go_simp; try with_reducible rfl
          try simp only [Act.put, List.getElem_toArray, List.getElem_cons_succ, List.getElem_cons_zero, List.setIfInBounds_toArray, List.set_cons_zero, List.set_cons_succ]
          refine H_take (i := 7) (v := ?_) rfl (by kernel_rfl) (by kernel_rfl) (by kernel_rfl) (fun _ _ _ h => h) (Or.inl ⟨by rfl, ?_⟩) (HD _) ?_
          rotate_left
          · intro W hW; obtain ⟨k1, k2, k3⟩ := hW; go_simp; try with_reducible rfl
          try simp only [Act.put, List.getElem_toArray, List.getElem_cons_succ, List.getElem_cons_zero, List.setIfInBounds_toArray, List.set_cons_zero, List.set_cons_succ]
          refine H_take (i := 8) (v := ?_) rfl (by kernel_rfl) (by kernel_rfl) (by kernel_rfl) (fun _ _ _ h => h) (Or.inl ⟨by rfl, ?_⟩) (HD _) ?_
          rotate_left
          · intro W hW; obtain ⟨k1, k2, k3⟩ := hW; go_simp; try with_reducible rfl
          try simp only [Act.put, List.getElem_toArray, List.getElem_cons_succ, List.getElem_cons_zero, List.setIfInBounds_toArray, List.set_cons_zero, List.set_cons_succ]
          refine H_one (i := 4) (by kernel_rfl) rfl (fun K hK => ?_)
          go_simp
          go_at_call 22
          refine (HNum.out _).mono ?_
          rintro e w1 ⟨rfl, hb⟩
          have hb := below_th (((Below.refl W.heap.size W).alloc (Nat.le_refl _) _).drew) hb
          obtain ⟨cn1, cm1, ct1⟩ := keep3 hz hb cn cm ct
          have HB1 := Lib.hid hb
          clear hb
          refine hK.out _ _ ⟨cn1, cm1, ct1⟩ (fun _ => ?_)
          clear hK K
          try simp only [Act.put, List.getElem_toArray, List.getElem_cons_succ, List.getElem_cons_zero, List.setIfInBounds_toArray, List.set_cons_zero, List.set_cons_succ]
          refine H_take (i := 5) (v := ?_) rfl (by kernel_rfl) (by kernel_rfl) (by kernel_rfl) (fun _ _ _ h => h) (Or.inl ⟨by rfl, ?_⟩) ⟨cn1, cm1, ct1⟩ ?_
          rotate_left
          · intro W hW; obtain ⟨k1, k2, k3⟩ := hW; go_simp; try with_reducible rfl
          try simp only [Act.put, List.getElem_toArray, List.getElem_cons_succ, List.getElem_cons_zero, List.setIfInBounds_toArray, List.set_cons_zero, List.set_cons_succ]
          refine H_take (i := 9) (v := ?_) rfl (by kernel_rfl) (by kernel_rfl) (by kernel_rfl) (fun _ _ _ h => h) (Or.inl ⟨by rfl, ?_⟩) ⟨cn1, cm1, ct1⟩ ?_
          rotate_left
          · intro W hW; obtain ⟨k1, k2, k3⟩ := hW; go_simp; try with_reducible rfl
          try simp only [Act.put, List.getElem_toArray, List.getElem_cons_succ, List.getElem_cons_zero, List.setIfInBounds_toArray, List.set_cons_zero, List.set_cons_succ]
          refine H_take (i := 10) (v := ?_) rfl (by kernel_rfl) (by kernel_rfl) (by kernel_rfl) (fun _ _ _ h => h) (Or.inl ⟨by rfl, ?_⟩) ⟨cn1, cm1, ct1⟩ ?_
          rotate_left
          · intro W hW; obtain ⟨k1, k2, k3⟩ := hW; go_simp; try with_reducible rfl
          try simp only [Act.put, List.getElem_toArray, List.getElem_cons_succ, List.getElem_cons_zero, List.setIfInBounds_toArray, List.set_cons_zero, List.set_cons_succ]
          refine H_take (i := 11) (v := ?_) rfl (by kernel_rfl) (by kernel_rfl) (by kernel_rfl) (fun _ _ _ h => h) (Or.inl ⟨by rfl, ?_⟩) ⟨cn1, cm1, ct1⟩ ?_
          rotate_left
          · intro W hW; obtain ⟨k1, k2, k3⟩ := hW; go_simp; try with_reducible rfl
          try simp only [Act.put, List.getElem_toArray, List.getElem_cons_succ, List.getElem_cons_zero, List.setIfInBounds_toArray, List.set_cons_zero, List.set_cons_succ]
          refine H_take (i := 12) (v := ?_) rfl (by kernel_rfl) (by kernel_rfl) (by kernel_rfl) (fun _ _ _ h => h) (Or.inl ⟨by rfl, ?_⟩) ⟨cn1, cm1, ct1⟩ ?_
          rotate_left
          · intro W hW; obtain ⟨k1, k2, k3⟩ := hW; go_simp; try with_reducible rfl
          try simp only [Act.put, List.getElem_toArray, List.getElem_cons_succ, List.getElem_cons_zero, List.setIfInBounds_toArray, List.set_cons_zero, List.set_cons_succ]
          refine H_take (i := 13) (v := ?_) rfl (by kernel_rfl) (by kernel_rfl) (by kernel_rfl) (fun _ _ _ h => h) (Or.inl ⟨by rfl, ?_⟩) ⟨cn1, cm1, ct1⟩ ?_
          rotate_left
          · intro W hW; obtain ⟨k1, k2, k3⟩ := hW; go_simp; try with_reducible rfl
          try simp only [Act.put, List.getElem_toArray, List.getElem_cons_succ, List.getElem_cons_zero, List.setIfInBounds_toArray, List.set_cons_zero, List.set_cons_succ]
          refine H_take (i := 14) (v := ?_) rfl (by kernel_rfl) (by kernel_rfl) (by kernel_rfl) (fun _ _ _ h => h) (Or.inl ⟨by rfl, ?_⟩) ⟨cn1, cm1, ct1⟩ ?_
          rotate_left
          · intro W hW; obtain ⟨k1, k2, k3⟩ := hW; go_simp; try with_reducible rfl
          try simp only [Act.put, List.getElem_toArray, List.getElem_cons_succ, List.getElem_cons_zero, List.setIfInBounds_toArray, List.set_cons_zero, List.set_cons_succ]
          refine H_take (i := 15) (v := ?_) rfl (by kernel_rfl) (by kernel_rfl) (by kernel_rfl) (fun _ _ _ h => h) (Or.inl ⟨by rfl, ?_⟩) ⟨cn1, cm1, ct1⟩ ?_
          rotate_left
          · intro W hW; obtain ⟨k1, k2, k3⟩ := hW; go_simp; try with_reducible rfl
          try simp only [Act.put, List.getElem_toArray, List.getElem_cons_succ, List.getElem_cons_zero, List.setIfInBounds_toArray, List.set_cons_zero, List.set_cons_succ]
          refine wpAnyH_done (by kernel_rfl) ?_ _
          go_wp2
          exact HFin.out _ _ _ (HB.out.trans (HB1.out.mono HB.out.size)) (by rw [HMI.out, hm0]; rfl) fun _ => HLI.out.symm
        · have hm0 : ((m : Int) == 0) = false := beq_eq_false_iff_ne.2 hm
          clear hm
          unfold str at *
          go_enter Tryz.func27, Tryz.ntmps27
          go_wp2_with fail
          generalize hW : w.alloc (.cells #[.int .u8 _, .int .i64 n, .int .i64 m, .string ⟨t.toArray⟩] 44) = W at *
          clear hW
          obtain ⟨c0, cn, cm, ct⟩ := four_of HBlk.out
          have hz := lt_of_block HBlk.out
          have HD := fun X => keep3 hz (((Below.refl W.heap.size W).alloc (Nat.le_refl _) X).drew) cn cm ct
          refine wp_region_held (S := fun w' => w'.cell? ⟨w.heap.size, 1, none⟩ = some (.int .i64 n) ∧ w'.cell? ⟨w.heap.size, 2, none⟩ = some (.int .i64 m) ∧ w'.cell? ⟨w.heap.size, 3, none⟩ = some (.string ⟨t.toArray⟩)) (by kernel_rfl) ?_
          refine H_take (i := 0) (v := ?_) rfl (by kernel_rfl) (by kernel_rfl) (by kernel_rfl) (fun _ _ _ h => h) (Or.inl ⟨by rfl, ?_⟩) (HD _) ?_
          rotate_left
          · intro W hW; obtain ⟨k1, k2, k3⟩ := hW; go_simp; try with_reducible rfl
          try simp only [Act.put, List.getElem_toArray, List.getElem_cons_succ, List.getElem_cons_zero, List.setIfInBounds_toArray, List.set_cons_zero, List.set_cons_succ]
          refine H_take (i := 1) (v := ?_) rfl (by kernel_rfl) (by kernel_rfl) (by kernel_rfl) (fun _ _ _ h => h) (Or.inl ⟨by rfl, ?_⟩) (HD _) ?_
          rotate_left
          · intro W hW; obtain ⟨k1, k2, k3⟩ := hW; go_simp; try with_reducible rfl
          try simp only [Act.put, List.getElem_toArray, List.getElem_cons_succ, List.getElem_cons_zero, List.setIfInBounds_toArray, List.set_cons_zero, List.set_cons_succ]
          refine H_take (i := 2) (v := ?_) rfl (by kernel_rfl) (by kernel_rfl) (by kernel_rfl) (fun _ _ _ h => h) (Or.inl ⟨by rfl, ?_⟩) (HD _) ?_
          rotate_left
          · intro W hW; obtain ⟨k1, k2, k3⟩ := hW; go_simp; try with_reducible rfl
          try simp only [Act.put, List.getElem_toArray, List.getElem_cons_succ, List.getElem_cons_zero, List.setIfInBounds_toArray, List.set_cons_zero, List.set_cons_succ]
          refine H_take (i := 3) (v := ?_) rfl (by kernel_rfl) (by kernel_rfl) (by kernel_rfl) (fun _ _ _ h => h) (Or.inl ⟨by rfl, ?_⟩) (HD _) ?_
          rotate_left
          · intro W hW; obtain ⟨k1, k2, k3⟩ := hW; go_simp; try with_reducible rfl
          try simp only [Act.put, List.getElem_toArray, List.getElem_cons_succ, List.getElem_cons_zero, List.setIfInBounds_toArray, List.set_cons_zero, List.set_cons_succ]
          refine H_take (i := 6) (v := ?_) rfl (by kernel_rfl) (by kernel_rfl) (by kernel_rfl) (fun _ _ _ h => h) (Or.inl ⟨by rfl, ?_⟩) (HD _) ?_
          rotate_left
          · intro W hW; obtain ⟨k1, k2, k3⟩ := hW; go_simp; try with_reducible rfl
          try simp only [Act.put, List.getElem_toArray, List.getElem_cons_succ, List.getElem_cons_zero, List.setIfInBounds_toArray, List.set_cons_zero, List.set_cons_succ]
          refine H_take (i := 7) (v := ?_) rfl (by kernel_rfl) (by kernel_rfl) (by kernel_rfl) (fun _ _ _ h => h) (Or.inl ⟨by rfl, ?_⟩) (HD _) ?_
          rotate_left
          · intro W hW; obtain ⟨k1, k2, k3⟩ := hW; go_simp; try with_reducible rfl
          try simp only [Act.put, List.getElem_toArray, List.getElem_cons_succ, List.getElem_cons_zero, List.setIfInBounds_toArray, List.set_cons_zero, List.set_cons_succ]
          refine H_take (i := 8) (v := ?_) rfl (by kernel_rfl) (by kernel_rfl) (by kernel_rfl) (fun _ _ _ h => h) (Or.inl ⟨by rfl, ?_⟩) (HD _) ?_
          rotate_left
          · intro W hW; obtain ⟨k1, k2, k3⟩ := hW; go_simp; try with_reducible rfl
          try simp only [Act.put, List.getElem_toArray, List.getElem_cons_succ, List.getElem_cons_zero, List.setIfInBounds_toArray, List.set_cons_zero, List.set_cons_succ]
          refine H_one (i := 4) (by kernel_rfl) rfl (fun K hK => ?_)
          go_simp
          go_at_call 22
          refine (HNum.out _).mono ?_
          rintro e w1 ⟨rfl, hb⟩
          have hb := below_th (((Below.refl W.heap.size W).alloc (Nat.le_refl _) _).drew) hb
          obtain ⟨cn1, cm1, ct1⟩ := keep3 hz hb cn cm ct
          have HB1 := Lib.hid hb
          clear hb
          refine hK.out _ _ ⟨cn1, cm1, ct1⟩ (fun _ => ?_)
          clear hK K
          try simp only [Act.put, List.getElem_toArray, List.getElem_cons_succ, List.getElem_cons_zero, List.setIfInBounds_toArray, List.set_cons_zero, List.set_cons_succ]
          refine H_take (i := 5) (v := ?_) rfl (by kernel_rfl) (by kernel_rfl) (by kernel_rfl) (fun _ _ _ h => h) (Or.inl ⟨by rfl, ?_⟩) ⟨cn1, cm1, ct1⟩ ?_
          rotate_left
          · intro W hW; obtain ⟨k1, k2, k3⟩ := hW; go_simp; try with_reducible rfl
          try simp only [Act.put, List.getElem_toArray, List.getElem_cons_succ, List.getElem_cons_zero, List.setIfInBounds_toArray, List.set_cons_zero, List.set_cons_succ]
          refine H_take (i := 9) (v := ?_) rfl (by kernel_rfl) (by kernel_rfl) (by kernel_rfl) (fun _ _ _ h => h) (Or.inl ⟨by rfl, ?_⟩) ⟨cn1, cm1, ct1⟩ ?_
          rotate_left
          · intro W hW; obtain ⟨k1, k2, k3⟩ := hW; go_simp; try with_reducible rfl
          try simp only [Act.put, List.getElem_toArray, List.getElem_cons_succ, List.getElem_cons_zero, List.setIfInBounds_toArray, List.set_cons_zero, List.set_cons_succ]
          refine H_take (i := 10) (v := undef) rfl (by kernel_rfl) (by kernel_rfl) (by kernel_rfl) (fun _ _ _ h => h) (Or.inr ⟨by rfl, rfl⟩) ⟨cn1, cm1, ct1⟩ ?_
          try simp only [Act.put, List.getElem_toArray, List.getElem_cons_succ, List.getElem_cons_zero, List.setIfInBounds_toArray, List.set_cons_zero, List.set_cons_succ]
          refine H_take (i := 11) (v := undef) rfl (by kernel_rfl) (by kernel_rfl) (by kernel_rfl) (fun _ _ _ h => h) (Or.inr ⟨by rfl, rfl⟩) ⟨cn1, cm1, ct1⟩ ?_
          try simp only [Act.put, List.getElem_toArray, List.getElem_cons_succ, List.getElem_cons_zero, List.setIfInBounds_toArray, List.set_cons_zero, List.set_cons_succ]
          refine H_take (i := 12) (v := undef) rfl (by kernel_rfl) (by kernel_rfl) (by kernel_rfl) (fun _ _ _ h => h) (Or.inr ⟨by rfl, rfl⟩) ⟨cn1, cm1, ct1⟩ ?_
          try simp only [Act.put, List.getElem_toArray, List.getElem_cons_succ, List.getElem_cons_zero, List.setIfInBounds_toArray, List.set_cons_zero, List.set_cons_succ]
          refine H_take (i := 13) (v := ?_) rfl (by kernel_rfl) (by kernel_rfl) (by kernel_rfl) (fun _ _ _ h => h) (Or.inl ⟨by rfl, ?_⟩) ⟨cn1, cm1, ct1⟩ ?_
          rotate_left
          · intro W hW; obtain ⟨k1, k2, k3⟩ := hW; go_simp; try with_reducible rfl
          try simp only [Act.put, List.getElem_toArray, List.getElem_cons_succ, List.getElem_cons_zero, List.setIfInBounds_toArray, List.set_cons_zero, List.set_cons_succ]
          refine H_take (i := 14) (v := ?_) rfl (by kernel_rfl) (by kernel_rfl) (by kernel_rfl) (fun _ _ _ h => h) (Or.inl ⟨by rfl, ?_⟩) ⟨cn1, cm1, ct1⟩ ?_
          rotate_left
          · intro W hW; obtain ⟨k1, k2, k3⟩ := hW; go_simp; try with_reducible rfl
          try simp only [Act.put, List.getElem_toArray, List.getElem_cons_succ, List.getElem_cons_zero, List.setIfInBounds_toArray, List.set_cons_zero, List.set_cons_succ]
          refine H_take (i := 15) (v := ?_) rfl (by kernel_rfl) (by kernel_rfl) (by kernel_rfl) (fun _ _ _ h => h) (Or.inl ⟨by rfl, ?_⟩) ⟨cn1, cm1, ct1⟩ ?_
          rotate_left
          · intro W hW; obtain ⟨k1, k2, k3⟩ := hW; go_simp; try with_reducible rfl
          try simp only [Act.put, List.getElem_toArray, List.getElem_cons_succ, List.getElem_cons_zero, List.setIfInBounds_toArray, List.set_cons_zero, List.set_cons_succ]
          refine wpAnyH_done (by kernel_rfl) ?_ _
          go_wp2
          exact HFin.out _ _ _ (HB.out.trans (HB1.out.mono HB.out.size)) (by rw [HMI.out, hm0]; rfl) fun _ => HLI.out.symm
    · by_cases hd3 : d = 3
      · subst hd3
        have HLI : Hid (line = [116, 105, 99, 107]) := Lib.hid (by rw [HLine.out]; simp [form, forms, Lib.join])
        have HMI : Hid (may = ((n == 0) && (m == 0) && t.isEmpty)) := Lib.hid (by rw [HMay.out]; cases t <;> simp [form, forms] <;> rfl)
        clear HLine HMay
        by_cases hn : n = 0
        · have hn0 : ((n : Int) == 0) = true := beq_iff_eq.2 hn
          have hn0' : decide (n = 0) = true := decide_eq_true hn
          by_cases hm : m = 0
          · have hm0 : ((m : Int) == 0) = true := beq_iff_eq.2 hm
            clear hm hn
            unfold str at *
            go_enter Tryz.func27, Tryz.ntmps27
            go_wp2_with fail
            generalize hW : w.alloc (.cells #[.int .u8 _, .int .i64 n, .int .i64 m, .string ⟨t.toArray⟩] 44) = W at *
            clear hW
            obtain ⟨c0, cn, cm, ct⟩ := four_of HBlk.out
            have hz := lt_of_block HBlk.out
            go_quiet (fail)
            go_wp2
            exact HFin.out _ _ _ (HB.out.trans ((below_drewN (Below.refl W.heap.size W) _).mono HB.out.size)) (by rw [HMI.out, hm0, hn0]; rfl) fun _ => HLI.out.symm
          · have hm0 : ((m : Int) == 0) = false := beq_eq_false_iff_ne.2 hm
            clear hm hn
            unfold str at *
            go_enter Tryz.func27, Tryz.ntmps27
            go_wp2_with fail
            generalize hW : w.alloc (.cells #[.int .u8 _, .int .i64 n, .int .i64 m, .string ⟨t.toArray⟩] 44) = W at *
            clear hW
            obtain ⟨c0, cn, cm, ct⟩ := four_of HBlk.out
            have hz := lt_of_block HBlk.out
            go_quiet (fail)
            go_wp2
            exact HFin.out _ _ _ (HB.out.trans ((below_drewN (Below.refl W.heap.size W) _).mono HB.out.size)) (by rw [HMI.out, hm0, hn0]; rfl) fun _ => HLI.out.symm
        · have hn0 : ((n : Int) == 0) = false := beq_eq_false_iff_ne.2 hn
          clear hn
          unfold str at *
          go_enter Tryz.func27, Tryz.ntmps27
          go_wp2_with fail
          generalize hW : w.alloc (.cells #[.int .u8 _, .int .i64 n, .int .i64 m, .string ⟨t.toArray⟩] 44) = W at *
          clear hW
          obtain ⟨c0, cn, cm, ct⟩ := four_of HBlk.out
          have hz := lt_of_block HBlk.out
          go_quiet (fail)
          go_wp2
          exact HFin.out _ _ _ (HB.out.trans ((below_drewN (Below.refl W.heap.size W) _).mono HB.out.size)) (by rw [HMI.out, hn0]; rfl) fun _ => HLI.out.symm
      · by_cases hd4 : d = 4
        · subst hd4
          have HLI : Hid (line = [97, 114, 114, 105, 118, 101, 32] ++ 120 :: hexT t) := Lib.hid (by rw [HLine.out]; simp [form, forms, Lib.join])
          have HMI : Hid (may = ((n == 0) && (m == 0))) := Lib.hid (by rw [HMay.out]; simp [form, forms]; rfl)
          have g1 : ¬ 9223372036854775807 < 7 + ((hexT t).length + 1) := by have := hexT_length t; omega
          clear HLine HMay
          unfold BytP at *
          by_cases hn : n = 0
          · have hn0 : ((n : Int) == 0) = true := beq_iff_eq.2 hn
            clear hn
            unfold str at *
            go_enter Tryz.func27, Tryz.ntmps27
            go_wp2_with fail
            generalize hW : w.alloc (.cells #[.int .u8 _, .int .i64 n, .int .i64 m, .string ⟨t.toArray⟩] 44) = W at *
            clear hW
            obtain ⟨c0, cn, cm, ct⟩ := four_of HBlk.out
            have hz := lt_of_block HBlk.out
            have HD := keep3 hz (Below.refl W.heap.size W).drew cn cm ct
            refine wp_region_held (S := fun w' => w'.cell? ⟨w.heap.size, 1, none⟩ = some (.int .i64 n) ∧ w'.cell? ⟨w.heap.size, 2, none⟩ = some (.int .i64 m) ∧ w'.cell? ⟨w.heap.size, 3, none⟩ = some (.string ⟨t.toArray⟩)) (by kernel_rfl) ?_
            refine H_take (i := 0) (v := ?_) rfl (by kernel_rfl) (by kernel_rfl) (by kernel_rfl) (fun _ _ _ h => h) (Or.inl ⟨by rfl, ?_⟩) HD ?_
            rotate_left
            · intro W hW; obtain ⟨k1, k2, k3⟩ := hW; go_simp; try with_reducible rfl
            try simp only [Act.put, List.getElem_toArray, List.getElem_cons_succ, List.getElem_cons_zero, List.setIfInBounds_toArray, List.set_cons_zero, List.set_cons_succ]
            refine H_take (i := 1) (v := ?_) rfl (by kernel_rfl) (by kernel_rfl) (by kernel_rfl) (fun _ _ _ h => h) (Or.inl ⟨by rfl, ?_⟩) HD ?_
            rotate_left
            · intro W hW; obtain ⟨k1, k2, k3⟩ := hW; go_simp; try with_reducible rfl
            try simp only [Act.put, List.getElem_toArray, List.getElem_cons_succ, List.getElem_cons_zero, List.setIfInBounds_toArray, List.set_cons_zero, List.set_cons_succ]
            refine H_take (i := 4) (v := ?_) rfl (by kernel_rfl) (by kernel_rfl) (by kernel_rfl) (fun _ _ _ h => h) (Or.inl ⟨by rfl, ?_⟩) HD ?_
            rotate_left
            · intro W hW; obtain ⟨k1, k2, k3⟩ := hW; go_simp; try with_reducible rfl
            try simp only [Act.put, List.getElem_toArray, List.getElem_cons_succ, List.getElem_cons_zero, List.setIfInBounds_toArray, List.set_cons_zero, List.set_cons_succ]
            refine H_take (i := 5) (v := ?_) rfl (by kernel_rfl) (by kernel_rfl) (by kernel_rfl) (fun _ _ _ h => h) (Or.inl ⟨by rfl, ?_⟩) HD ?_
            rotate_left
            · intro W hW; obtain ⟨k1, k2, k3⟩ := hW; go_simp; try with_reducible rfl
            try simp only [Act.put, List.getElem_toArray, List.getElem_cons_succ, List.getElem_cons_zero, List.setIfInBounds_toArray, List.set_cons_zero, List.set_cons_succ]
            refine H_take (i := 6) (v := ?_) rfl (by kernel_rfl) (by kernel_rfl) (by kernel_rfl) (fun _ _ _ h => h) (Or.inl ⟨by rfl, ?_⟩) HD ?_
            rotate_left
            · intro W hW; obtain ⟨k1, k2, k3⟩ := hW; go_simp; try with_reducible rfl
            try simp only [Act.put, List.getElem_toArray, List.getElem_cons_succ, List.getElem_cons_zero, List.setIfInBounds_toArray, List.set_cons_zero, List.set_cons_succ]
            refine H_one (i := 2) (by kernel_rfl) rfl (fun K hK => ?_)
            go_simp
            go_at_call 23
            refine (HByt.out _).mono ?_
            rintro e w1 ⟨rfl, hb⟩
            have hb := below_th (Below.refl W.heap.size W).drew hb
            obtain ⟨cn1, cm1, ct1⟩ := keep3 hz hb cn cm ct
            have HB1 := Lib.hid hb
            clear hb
            refine hK.out _ _ ⟨cn1, cm1, ct1⟩ (fun _ => ?_)
            clear hK K
            try simp only [Act.put, List.getElem_toArray, List.getElem_cons_succ, List.getElem_cons_zero, List.setIfInBounds_toArray, List.set_cons_zero, List.set_cons_succ]
            refine H_take (i := 3) (v := ?_) rfl (by kernel_rfl) (by kernel_rfl) (by kernel_rfl) (fun _ _ _ h => h) (Or.inl ⟨by rfl, ?_⟩) ⟨cn1, cm1, ct1⟩ ?_
            rotate_left
            · intro W hW; obtain ⟨k1, k2, k3⟩ := hW; go_simp; try with_reducible rfl
            try simp only [Act.put, List.getElem_toArray, List.getElem_cons_succ, List.getElem_cons_zero, List.setIfInBounds_toArray, List.set_cons_zero, List.set_cons_succ]
            refine H_take (i := 7) (v := ?_) rfl (by kernel_rfl) (by kernel_rfl) (by kernel_rfl) (fun _ _ _ h => h) (Or.inl ⟨by rfl, ?_⟩) ⟨cn1, cm1, ct1⟩ ?_
            rotate_left
            · intro W hW; obtain ⟨k1, k2, k3⟩ := hW; go_simp; try with_reducible rfl
            try simp only [Act.put, List.getElem_toArray, List.getElem_cons_succ, List.getElem_cons_zero, List.setIfInBounds_toArray, List.set_cons_zero, List.set_cons_succ]
            refine H_take (i := 8) (v := ?_) rfl (by kernel_rfl) (by kernel_rfl) (by kernel_rfl) (fun _ _ _ h => h) (Or.inl ⟨by rfl, ?_⟩) ⟨cn1, cm1, ct1⟩ ?_
            rotate_left
            · intro W hW; obtain ⟨k1, k2, k3⟩ := hW; go_simp; try with_reducible rfl
            try simp only [Act.put, List.getElem_toArray, List.getElem_cons_succ, List.getElem_cons_zero, List.setIfInBounds_toArray, List.set_cons_zero, List.set_cons_succ]
            refine H_take (i := 9) (v := ?_) rfl (by kernel_rfl) (by kernel_rfl) (by kernel_rfl) (fun _ _ _ h => h) (Or.inl ⟨by rfl, ?_⟩) ⟨cn1, cm1, ct1⟩ ?_
            rotate_left
            · intro W hW; obtain ⟨k1, k2, k3⟩ := hW; go_simp; try with_reducible rfl
            try simp only [Act.put, List.getElem_toArray, List.getElem_cons_succ, List.getElem_cons_zero, List.setIfInBounds_toArray, List.set_cons_zero, List.set_cons_succ]
            refine H_take (i := 10) (v := ?_) rfl (by kernel_rfl) (by kernel_rfl) (by kernel_rfl) (fun _ _ _ h => h) (Or.inl ⟨by rfl, ?_⟩) ⟨cn1, cm1, ct1⟩ ?_
            rotate_left
            · intro W hW; obtain ⟨k1, k2, k3⟩ := hW; go_simp; try with_reducible rfl
            try simp only [Act.put, List.getElem_toArray, List.getElem_cons_succ, List.getElem_cons_zero, List.setIfInBounds_toArray, List.set_cons_zero, List.set_cons_succ]
            refine H_take (i := 11) (v := ?_) rfl (by kernel_rfl) (by kernel_rfl) (by kernel_rfl) (fun _ _ _ h => h) (Or.inl ⟨by rfl, ?_⟩) ⟨cn1, cm1, ct1⟩ ?_
            rotate_left
            · intro W hW; obtain ⟨k1, k2, k3⟩ := hW; go_simp; try with_reducible rfl
            try simp only [Act.put, List.getElem_toArray, List.getElem_cons_succ, List.getElem_cons_zero, List.setIfInBounds_toArray, List.set_cons_zero, List.set_cons_succ]
            refine H_take (i := 12) (v := ?_) rfl (by kernel_rfl) (by kernel_rfl) (by kernel_rfl) (fun _ _ _ h => h) (Or.inl ⟨by rfl, ?_⟩) ⟨cn1, cm1, ct1⟩ ?_
            rotate_left
            · intro W hW; obtain ⟨k1, k2, k3⟩ := hW; go_simp; try with_reducible rfl
            try simp only [Act.put, List.getElem_toArray, List.getElem_cons_succ, List.getElem_cons_zero, List.setIfInBounds_toArray, List.set_cons_zero, List.set_cons_succ]
            refine H_take (i := 13) (v := ?_) rfl (by kernel_rfl) (by kernel_rfl) (by kernel_rfl) (fun _ _ _ h => h) (Or.inl ⟨by rfl, ?_⟩) ⟨cn1, cm1, ct1⟩ ?_
            rotate_left
            · intro W hW; obtain ⟨k1, k2, k3⟩ := hW; go_simp; try with_reducible rfl
            try simp only [Act.put, List.getElem_toArray, List.getElem_cons_succ, List.getElem_cons_zero, List.setIfInBounds_toArray, List.set_cons_zero, List.set_cons_succ]
            refine wpAnyH_done (by kernel_rfl) ?_ _
            go_wp2
            exact HFin.out _ _ _ (HB.out.trans (HB1.out.mono HB.out.size)) (by rw [HMI.out, hn0]; rfl) fun _ => HLI.out.symm
          · have hn0 : ((n : Int) == 0) = false := beq_eq_false_iff_ne.2 hn
            clear hn
            unfold str at *
            go_enter Tryz.func27, Tryz.ntmps27
            go_wp2_with fail
            generalize hW : w.alloc (.cells #[.int .u8 _, .int .i64 n, .int .i64 m, .string ⟨t.toArray⟩] 44) = W at *
            clear hW
            obtain ⟨c0, cn, cm, ct⟩ := four_of HBlk.out
            have hz := lt_of_block HBlk.out
            have HD := keep3 hz (Below.refl W.heap.size W).drew cn cm ct
            refine wp_region_held (S := fun w' => w'.cell? ⟨w.heap.size, 1, none⟩ = some (.int .i64 n) ∧ w'.cell? ⟨w.heap.size, 2, none⟩ = some (.int .i64 m) ∧ w'.cell? ⟨w.heap.size, 3, none⟩ = some (.string ⟨t.toArray⟩)) (by kernel_rfl) ?_
            refine H_take (i := 0) (v := ?_) rfl (by kernel_rfl) (by kernel_rfl) (by kernel_rfl) (fun _ _ _ h => h) (Or.inl ⟨by rfl, ?_⟩) HD ?_
            rotate_left
            · intro W hW; obtain ⟨k1, k2, k3⟩ := hW; go_simp; try with_reducible rfl
            try simp only [Act.put, List.getElem_toArray, List.getElem_cons_succ, List.getElem_cons_zero, List.setIfInBounds_toArray, List.set_cons_zero, List.set_cons_succ]
            refine H_take (i := 1) (v := ?_) rfl (by kernel_rfl) (by kernel_rfl) (by kernel_rfl) (fun _ _ _ h => h) (Or.inl ⟨by rfl, ?_⟩) HD ?_
            rotate_left
            · intro W hW; obtain ⟨k1, k2, k3⟩ := hW; go_simp; try with_reducible rfl
            try simp only [Act.put, List.getElem_toArray, List.getElem_cons_succ, List.getElem_cons_zero, List.setIfInBounds_toArray, List.set_cons_zero, List.set_cons_succ]
            refine H_take (i := 4) (v := ?_) rfl (by kernel_rfl) (by kernel_rfl) (by kernel_rfl) (fun _ _ _ h => h) (Or.inl ⟨by rfl, ?_⟩) HD ?_
            rotate_left
            · intro W hW; obtain ⟨k1, k2, k3⟩ := hW; go_simp; try with_reducible rfl
            try simp only [Act.put, List.getElem_toArray, List.getElem_cons_succ, List.getElem_cons_zero, List.setIfInBounds_toArray, List.set_cons_zero, List.set_cons_succ]
            refine H_take (i := 5) (v := ?_) rfl (by kernel_rfl) (by kernel_rfl) (by kernel_rfl) (fun _ _ _ h => h) (Or.inl ⟨by rfl, ?_⟩) HD ?_
            rotate_left
            · intro W hW; obtain ⟨k1, k2, k3⟩ := hW; go_simp; try with_reducible rfl
            try simp only [Act.put, List.getElem_toArray, List.getElem_cons_succ, List.getElem_cons_zero, List.setIfInBounds_toArray, List.set_cons_zero, List.set_cons_succ]
            refine H_take (i := 6) (v := ?_) rfl (by kernel_rfl) (by kernel_rfl) (by kernel_rfl) (fun _ _ _ h => h) (Or.inl ⟨by rfl, ?_⟩) HD ?_
            rotate_left
            · intro W hW; obtain ⟨k1, k2, k3⟩ := hW; go_simp; try with_reducible rfl
            try simp only [Act.put, List.getElem_toArray, List.getElem_cons_succ, List.getElem_cons_zero, List.setIfInBounds_toArray, List.set_cons_zero, List.set_cons_succ]
            refine H_one (i := 2) (by kernel_rfl) rfl (fun K hK => ?_)
            go_simp
            go_at_call 23
            refine (HByt.out _).mono ?_
            rintro e w1 ⟨rfl, hb⟩
            have hb := below_th (Below.refl W.heap.size W).drew hb
            obtain ⟨cn1, cm1, ct1⟩ := keep3 hz hb cn cm ct
            have HB1 := Lib.hid hb
            clear hb
            refine hK.out _ _ ⟨cn1, cm1, ct1⟩ (fun _ => ?_)
            clear hK K
            try simp only [Act.put, List.getElem_toArray, List.getElem_cons_succ, List.getElem_cons_zero, List.setIfInBounds_toArray, List.set_cons_zero, List.set_cons_succ]
            refine H_take (i := 3) (v := ?_) rfl (by kernel_rfl) (by kernel_rfl) (by kernel_rfl) (fun _ _ _ h => h) (Or.inl ⟨by rfl, ?_⟩) ⟨cn1, cm1, ct1⟩ ?_
            rotate_left
            · intro W hW; obtain ⟨k1, k2, k3⟩ := hW; go_simp; try with_reducible rfl
            try simp only [Act.put, List.getElem_toArray, List.getElem_cons_succ, List.getElem_cons_zero, List.setIfInBounds_toArray, List.set_cons_zero, List.set_cons_succ]
            refine H_take (i := 7) (v := ?_) rfl (by kernel_rfl) (by kernel_rfl) (by kernel_rfl) (fun _ _ _ h => h) (Or.inl ⟨by rfl, ?_⟩) ⟨cn1, cm1, ct1⟩ ?_
            rotate_left
            · intro W hW; obtain ⟨k1, k2, k3⟩ := hW; go_simp; try with_reducible rfl
            try simp only [Act.put, List.getElem_toArray, List.getElem_cons_succ, List.getElem_cons_zero, List.setIfInBounds_toArray, List.set_cons_zero, List.set_cons_succ]
            refine H_take (i := 8) (v := undef) rfl (by kernel_rfl) (by kernel_rfl) (by kernel_rfl) (fun _ _ _ h => h) (Or.inr ⟨by rfl, rfl⟩) ⟨cn1, cm1, ct1⟩ ?_
            try simp only [Act.put, List.getElem_toArray, List.getElem_cons_succ, List.getElem_cons_zero, List.setIfInBounds_toArray, List.set_cons_zero, List.set_cons_succ]
            refine H_take (i := 9) (v := undef) rfl (by kernel_rfl) (by kernel_rfl) (by kernel_rfl) (fun _ _ _ h => h) (Or.inr ⟨by rfl, rfl⟩) ⟨cn1, cm1, ct1⟩ ?_
            try simp only [Act.put, List.getElem_toArray, List.getElem_cons_succ, List.getElem_cons_zero, List.setIfInBounds_toArray, List.set_cons_zero, List.set_cons_succ]
            refine H_take (i := 10) (v := undef) rfl (by kernel_rfl) (by kernel_rfl) (by kernel_rfl) (fun _ _ _ h => h) (Or.inr ⟨by rfl, rfl⟩) ⟨cn1, cm1, ct1⟩ ?_
            try simp only [Act.put, List.getElem_toArray, List.getElem_cons_succ, List.getElem_cons_zero, List.setIfInBounds_toArray, List.set_cons_zero, List.set_cons_succ]
            refine H_take (i := 11) (v := ?_) rfl (by kernel_rfl) (by kernel_rfl) (by kernel_rfl) (fun _ _ _ h => h) (Or.inl ⟨by rfl, ?_⟩) ⟨cn1, cm1, ct1⟩ ?_
            rotate_left
            · intro W hW; obtain ⟨k1, k2, k3⟩ := hW; go_simp; try with_reducible rfl
            try simp only [Act.put, List.getElem_toArray, List.getElem_cons_succ, List.getElem_cons_zero, List.setIfInBounds_toArray, List.set_cons_zero, List.set_cons_succ]
            refine H_take (i := 12) (v := ?_) rfl (by kernel_rfl) (by kernel_rfl) (by kernel_rfl) (fun _ _ _ h => h) (Or.inl ⟨by rfl, ?_⟩) ⟨cn1, cm1, ct1⟩ ?_
            rotate_left
            · intro W hW; obtain ⟨k1, k2, k3⟩ := hW; go_simp; try with_reducible rfl
            try simp only [Act.put, List.getElem_toArray, List.getElem_cons_succ, List.getElem_cons_zero, List.setIfInBounds_toArray, List.set_cons_zero, List.set_cons_succ]
            refine H_take (i := 13) (v := ?_) rfl (by kernel_rfl) (by kernel_rfl) (by kernel_rfl) (fun _ _ _ h => h) (Or.inl ⟨by rfl, ?_⟩) ⟨cn1, cm1, ct1⟩ ?_
            rotate_left
            · intro W hW; obtain ⟨k1, k2, k3⟩ := hW; go_simp; try with_reducible rfl
            try simp only [Act.put, List.getElem_toArray, List.getElem_cons_succ, List.getElem_cons_zero, List.setIfInBounds_toArray, List.set_cons_zero, List.set_cons_succ]
            refine wpAnyH_done (by kernel_rfl) ?_ _
            go_wp2
            exact HFin.out _ _ _ (HB.out.trans (HB1.out.mono HB.out.size)) (by rw [HMI.out, hn0]; rfl) fun _ => HLI.out.symm
        · have e1 : ((d : Int) == 1) = false := beq_eq_false_iff_ne.2 (by omega)
          have e2 : ((d : Int) == 2) = false := beq_eq_false_iff_ne.2 (by omega)
          have e3 : ((d : Int) == 3) = false := beq_eq_false_iff_ne.2 (by omega)
          have e4 : ((d : Int) == 4) = false := beq_eq_false_iff_ne.2 (by omega)
          have e5 : ((d : Int) == 5) = false := beq_eq_false_iff_ne.2 (by omega)
          have e6 : ((d : Int) == 6) = false := beq_eq_false_iff_ne.2 (by omega)
          have e7 : ((d : Int) == 7) = false := beq_eq_false_iff_ne.2 (by omega)
          have HMI : Hid (may = false) := Lib.hid (by
            rw [HMay.out]
            by_cases h0 : 0 < d
            · rw [decide_eq_false (show ¬ d < 8 by omega)]; simp
            · rw [decide_eq_false h0]; simp)
          clear HLine HMay hd hd2 hd3 hd4
          unfold str at *
          go_enter Tryz.func27, Tryz.ntmps27
          go_wp2
          exact HFin.out _ [] _ HB.out HMI.out.symm fun h => by cases h
end R32
end Go.Proofs.YtohlgcdailconaaGreatDoor.Scr
