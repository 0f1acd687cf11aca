/- The walk of ScriptWrites. -/
import Derived.Test.YtohlgcdailconaaGreatDoorScrY
import Derived.Test.YtohlgcdailconaaGreatDoorScrUc
namespace Go.Proofs.YtohlgcdailconaaGreatDoor.Scr
open Go.RowKit Lib Go.Proofs.YtohlgcdailconaaGreatDoor.Word
set_option linter.unusedVariables false
set_option linter.unusedSimpArgs false
theorem Sc.inp.ok2 {s : Sc} (h : s.inp) (hh : heavyB s = false) : R32.Sc.ok2 s := by
  have hok := h.ok hh
  unfold heavyB at hh
  simp only [Bool.or_eq_false_iff, decide_eq_false_iff_not] at hh
  obtain ⟨⟨⟨h1, h2⟩, h3⟩, h4⟩ := hh
  unfold heavyN at h4
  rw [List.take_of_length_le (by omega), List.take_of_length_le (by rw [List.length_map]; omega)] at h4
  refine ⟨hok, by omega, fun t ht => ?_, fun a ha => ?_⟩
  · have := lensT_mem s.imgs t ht
    omega
  · have := lensT_mem (s.acts.map Ac.t) a.t (List.mem_map_of_mem ha)
    omega
def OkP (w : World) (e : Ending) (w' : World) : Prop := e = .returned (.bool true) ∧ Below w.heap.size w w'
/-- A script's five cells. -/
def Five (k : Nat) (p : SA) (s : Sc) (V : World) : Prop := V.cell? ⟨k, 0, none⟩ = some (.int .u32 s.pages) ∧ V.cell? ⟨k, 1, none⟩ = some (.slice p.ea s.exts.length p.ec) ∧ V.cell? ⟨k, 2, none⟩ = some (.string ⟨s.key.toArray⟩) ∧ V.cell? ⟨k, 3, none⟩ = some (.slice p.ia s.imgs.length p.ic) ∧ V.cell? ⟨k, 4, none⟩ = some (.slice p.aa s.acts.length p.ac)
theorem five_of {k : Nat} {p : SA} {s : Sc} {V : World} (h : V.heap[k]? = some (wrBlk p s)) : Five k p s V := blk5 h
/-- A script lies at an address, and so do its rows. -/
structure Lie (w : World) (k : Nat) (p : SA) (s : Sc) : Prop where
  blk : w.heap[k]? = some (wrBlk p s)
  row : ScR w p s
theorem Lie.below {w V : World} {k : Nat} {p : SA} {s : Sc} (h : Lie w k p s) (hb : Below w.heap.size w V) : Lie V k p s := ⟨(hb.block _ (lt_of_block h.blk)).trans h.blk, h.row.below hb⟩
set_option maxRecDepth 100000 in
set_option maxHeartbeats 8000000 in
theorem scriptWrites {w : World} {p : SA} {s : Sc} (h : Laid w) (hp : ScR w p s) (hs : s.inp) : Calls Tryz.prog 3 #[.agg (p.cells s)] w (OkP w) := by
  have HFin := Lib.hid fun V (hb : Below w.heap.size w V) => (show OkP w (.returned (.bool true)) V from ⟨rfl, hb⟩)
  generalize OkP w = PQ at *
  have hsx : ∀ p : SA, p.cells s = #[.int .u32 s.pages, .slice p.ea s.exts.length p.ec, .string ⟨s.key.toArray⟩, .slice p.ia s.imgs.length p.ic, .slice p.aa s.acts.length p.ac] := fun _ => rfl
  have H := Lib.hid h
  have hA := (Below.refl w.heap.size w).alloc (Nat.le_refl _) (.cells (p.cells s) 29)
  have HB1 := Lib.hid hA
  have HP1 : Hid (Lie (w.alloc (.cells (p.cells s) 29)) w.heap.size p s) := Lib.hid ⟨heap_alloc_new w _, hp.below hA⟩
  have HHv := Lib.hid (heavy (hp.below hA) hs.kl hs.i0 fun a ha => (hs.a0 a ha).2.2.2.2.2.2)
  have HOk := Lib.hid hs.ok2
  obtain ⟨c0, c1, c2, c3, c4⟩ := five_of HP1.out.blk
  have hz := lt_of_block HP1.out.blk
  clear h hp hA
  rw [hsx] at HB1 HP1 HHv c0 c1 c2 c3 c4 hz ⊢
  go_enter Tryz.func3, Tryz.ntmps3
  go_wp2_with fail
  generalize w.alloc (.cells #[.int .u32 s.pages, .slice p.ea s.exts.length p.ec, .string ⟨s.key.toArray⟩, .slice p.ia s.imgs.length p.ic, .slice p.aa s.acts.length p.ac] 29) = w1 at *
  refine HHv.out.mono ?_
  rintro e w2 ⟨rfl, hb⟩
  have HB2 := Lib.hid (below_th HB1.out hb)
  have HP2 := Lib.hid (HP1.out.below hb)
  clear hb HHv HB1 HP1 c0 c1 c2 c3 c4 hz
  obtain ⟨c0, c1, c2, c3, c4⟩ := five_of HP2.out.blk
  have hz := lt_of_block HP2.out.blk
  cases hhv : heavyB s with
  | true =>
    have HAl := Lib.hid (alive (H.out.step HB2.out))
    clear hhv
    go_wp2_with fail
    refine HAl.out.mono ?_
    rintro e w3 ⟨rfl, hb⟩
    have HB3 := Lib.hid (below_th HB2.out hb)
    clear hb
    go_wp2
    exact HFin.out _ HB3.out
  | false =>
    have hok := HOk.out hhv
    have hl1 := hok.ok.el
    have hl2 := hok.ok.il
    have hl3 := hok.ok.al
    have HCo := Lib.hid (copied HP2.out.row (by omega) (by omega) (by omega))
    have HO := Lib.hid hok
    clear hhv hok HOk
    rw [hsx] at HCo
    go_wp2_with fail
    refine HCo.out.mono ?_
    rintro e w3 ⟨hb, q, hq, rfl⟩
    have hA := (Below.refl w3.heap.size w3).alloc (Nat.le_refl _) (.cells (q.cells s) 29)
    have HB3 := Lib.hid (below_th (below_th HB2.out hb) hA)
    have HP3 := Lib.hid ((HP2.out.below hb).below hA)
    have HQ3 : Hid (Lie (w3.alloc (.cells (q.cells s) 29)) w3.heap.size q s) := Lib.hid ⟨heap_alloc_new w3 _, hq.below hA⟩
    clear hb hA hq HCo HB2 HP2 c0 c1 c2 c3 c4 hz
    have HW := Lib.hid (write (H.out.step HB3.out) HO.out.ok HQ3.out.row)
    obtain ⟨c0, c1, c2, c3, c4⟩ := five_of HQ3.out.blk
    have hz := lt_of_block HQ3.out.blk
    unfold WriteP str at HW
    rw [hsx] at HB3 HP3 HQ3 HW c0 c1 c2 c3 c4 hz ⊢
    go_wp2_with fail
    generalize w3.alloc (.cells #[.int .u32 s.pages, .slice q.ea s.exts.length q.ec, .string ⟨s.key.toArray⟩, .slice q.ia s.imgs.length q.ic, .slice q.aa s.acts.length q.ac] 29) = w4 at *
    generalize w3.heap.size = k3 at *
    have hzq := hz
    have hz := lt_of_block HP3.out.blk
    clear hzq
    refine HW.out.mono ?_
    rintro e w5 ⟨rfl, hb⟩
    have HB5 := Lib.hid (below_th HB3.out hb)
    have HP5 := Lib.hid (HP3.out.below hb)
    have HQ5 := Lib.hid (HQ3.out.below hb)
    clear hb HW HB3 HP3 HQ3 c0 c1 c2 c3 c4 hz
    have HW := Lib.hid (R32.writeR HO.out HP5.out.row)
    unfold WriteP str at HW
    rw [hsx] at HW
    obtain ⟨c0, c1, c2, c3, c4⟩ := five_of HP5.out.blk
    go_wp2_with fail
    refine HW.out.mono ?_
    rintro e w6 ⟨rfl, hb⟩
    have HB6 := Lib.hid (below_th HB5.out hb)
    have HP6 := Lib.hid (HP5.out.below hb)
    have HQ6 := Lib.hid (HQ5.out.below hb)
    clear hb HW HB5 HP5 HQ5 c0 c1 c2 c3 c4
    have HW := Lib.hid (acts (c := q.ac) (H.out.step HB6.out) HO.out.ok.a0 HO.out.ok.al HQ6.out.row.acts)
    unfold ActsP str at HW
    obtain ⟨c0, c1, c2, c3, c4⟩ := five_of HQ6.out.blk
    go_wp2_with fail
    refine HW.out.mono ?_
    rintro e w7 ⟨rfl, hb⟩
    have HB7 := Lib.hid (below_th HB6.out hb)
    have HP7 := Lib.hid (HP6.out.below hb)
    have HQ7 := Lib.hid (HQ6.out.below hb)
    clear hb HW HB6 HP6 HQ6 c0 c1 c2 c3 c4
    have HW := Lib.hid (R32.acts (c := p.ac) HO.out.ok.a0 HO.out.ok.al HO.out.al HP7.out.row.acts)
    unfold ActsP str at HW
    obtain ⟨c0, c1, c2, c3, c4⟩ := five_of HP7.out.blk
    go_wp2_with fail
    refine HW.out.mono ?_
    rintro e w8 ⟨rfl, hb⟩
    have HB8 := Lib.hid (below_th HB7.out hb)
    have HP8 := Lib.hid (HP7.out.below hb)
    have HQ8 := Lib.hid (HQ7.out.below hb)
    clear hb HW HB7 HP7 HQ7 c0 c1 c2 c3 c4
    go_wp2_with fail
    refine wp_region_held (S := fun w' => Five w.heap.size p s w' ∧ Five k3 q s w') (by kernel_rfl) ?_
    have hw9 := (Below.refl w8.heap.size w8).drew
    change wpAnyH _ _ _ _ _ _ _ _ w8.drew
    generalize w8.drew = w9 at *
    have HB9 := Lib.hid (below_th HB8.out hw9)
    have HP9 := Lib.hid (HP8.out.below hw9)
    have HQ9 := Lib.hid (HQ8.out.below hw9)
    clear hw9 HB8 HP8 HQ8
    refine H_take (i := 0) (v := ?_) rfl (by kernel_rfl) (by kernel_rfl) (by kernel_rfl) (fun _ _ _ h => h) (Or.inl ⟨by rfl, ?_⟩) ⟨five_of HP9.out.blk, five_of HQ9.out.blk⟩ ?_
    rotate_left
    · intro W hW; obtain ⟨⟨m0, m1, m2, m3, m4⟩, l0, l1, l2, l3, l4⟩ := hW; go_simp; try with_reducible rfl
    try simp only [Act.put, List.getElem_toArray, List.getElem_cons_succ, List.getElem_cons_zero, List.setIfInBounds_toArray, List.set_cons_zero, List.set_cons_succ]
    refine H_take (i := 1) (v := ?_) rfl (by kernel_rfl) (by kernel_rfl) (by kernel_rfl) (fun _ _ _ h => h) (Or.inl ⟨by rfl, ?_⟩) ⟨five_of HP9.out.blk, five_of HQ9.out.blk⟩ ?_
    rotate_left
    · intro W hW; obtain ⟨⟨m0, m1, m2, m3, m4⟩, l0, l1, l2, l3, l4⟩ := hW; go_simp; try with_reducible rfl
    try simp only [Act.put, List.getElem_toArray, List.getElem_cons_succ, List.getElem_cons_zero, List.setIfInBounds_toArray, List.set_cons_zero, List.set_cons_succ]
    refine H_take (i := 2) (v := ?_) rfl (by kernel_rfl) (by kernel_rfl) (by kernel_rfl) (fun _ _ _ h => h) (Or.inl ⟨by rfl, ?_⟩) ⟨five_of HP9.out.blk, five_of HQ9.out.blk⟩ ?_
    rotate_left
    · intro W hW; obtain ⟨⟨m0, m1, m2, m3, m4⟩, l0, l1, l2, l3, l4⟩ := hW; go_simp; try with_reducible rfl
    try simp only [Act.put, List.getElem_toArray, List.getElem_cons_succ, List.getElem_cons_zero, List.setIfInBounds_toArray, List.set_cons_zero, List.set_cons_succ]
    refine H_take (i := 3) (v := ?_) rfl (by kernel_rfl) (by kernel_rfl) (by kernel_rfl) (fun _ _ _ h => h) (Or.inl ⟨by rfl, ?_⟩) ⟨five_of HP9.out.blk, five_of HQ9.out.blk⟩ ?_
    rotate_left
    · intro W hW; obtain ⟨⟨m0, m1, m2, m3, m4⟩, l0, l1, l2, l3, l4⟩ := hW; go_simp; try with_reducible rfl
    try simp only [Act.put, List.getElem_toArray, List.getElem_cons_succ, List.getElem_cons_zero, List.setIfInBounds_toArray, List.set_cons_zero, List.set_cons_succ]
    refine H_take (i := 4) (v := ?_) rfl (by kernel_rfl) (by kernel_rfl) (by kernel_rfl) (fun _ _ _ h => h) (Or.inl ⟨by rfl, ?_⟩) ⟨five_of HP9.out.blk, five_of HQ9.out.blk⟩ ?_
    rotate_left
    · intro W hW; obtain ⟨⟨m0, m1, m2, m3, m4⟩, l0, l1, l2, l3, l4⟩ := hW; go_simp; try with_reducible rfl
    try simp only [Act.put, List.getElem_toArray, List.getElem_cons_succ, List.getElem_cons_zero, List.setIfInBounds_toArray, List.set_cons_zero, List.set_cons_succ]
    refine H_take (i := 5) (v := ?_) rfl (by kernel_rfl) (by kernel_rfl) (by kernel_rfl) (fun _ _ _ h => h) (Or.inl ⟨by rfl, ?_⟩) ⟨five_of HP9.out.blk, five_of HQ9.out.blk⟩ ?_
    rotate_left
    · intro W hW; obtain ⟨⟨m0, m1, m2, m3, m4⟩, l0, l1, l2, l3, l4⟩ := hW; go_simp; try with_reducible rfl
    try simp only [Act.put, List.getElem_toArray, List.getElem_cons_succ, List.getElem_cons_zero, List.setIfInBounds_toArray, List.set_cons_zero, List.set_cons_succ]
    refine H_take (i := 6) (v := ?_) rfl (by kernel_rfl) (by kernel_rfl) (by kernel_rfl) (fun _ _ _ h => h) (Or.inl ⟨by rfl, ?_⟩) ⟨five_of HP9.out.blk, five_of HQ9.out.blk⟩ ?_
    rotate_left
    · intro W hW; obtain ⟨⟨m0, m1, m2, m3, m4⟩, l0, l1, l2, l3, l4⟩ := hW; go_simp; try with_reducible rfl
    try simp only [Act.put, List.getElem_toArray, List.getElem_cons_succ, List.getElem_cons_zero, List.setIfInBounds_toArray, List.set_cons_zero, List.set_cons_succ]
    refine H_take (i := 7) (v := ?_) rfl (by kernel_rfl) (by kernel_rfl) (by kernel_rfl) (fun _ _ _ h => h) (Or.inl ⟨by rfl, ?_⟩) ⟨five_of HP9.out.blk, five_of HQ9.out.blk⟩ ?_
    rotate_left
    · intro W hW; obtain ⟨⟨m0, m1, m2, m3, m4⟩, l0, l1, l2, l3, l4⟩ := hW; go_simp; try with_reducible rfl
    try simp only [Act.put, List.getElem_toArray, List.getElem_cons_succ, List.getElem_cons_zero, List.setIfInBounds_toArray, List.set_cons_zero, List.set_cons_succ]
    refine H_take (i := 8) (v := ?_) rfl (by kernel_rfl) (by kernel_rfl) (by kernel_rfl) (fun _ _ _ h => h) (Or.inl ⟨by rfl, ?_⟩) ⟨five_of HP9.out.blk, five_of HQ9.out.blk⟩ ?_
    rotate_left
    · intro W hW; obtain ⟨⟨m0, m1, m2, m3, m4⟩, l0, l1, l2, l3, l4⟩ := hW; go_simp; try with_reducible rfl
    try simp only [Act.put, List.getElem_toArray, List.getElem_cons_succ, List.getElem_cons_zero, List.setIfInBounds_toArray, List.set_cons_zero, List.set_cons_succ]
    refine H_take (i := 9) (v := ?_) rfl (by kernel_rfl) (by kernel_rfl) (by kernel_rfl) (fun _ _ _ h => h) (Or.inl ⟨by rfl, ?_⟩) ⟨five_of HP9.out.blk, five_of HQ9.out.blk⟩ ?_
    rotate_left
    · intro W hW; obtain ⟨⟨m0, m1, m2, m3, m4⟩, l0, l1, l2, l3, l4⟩ := hW; go_simp; try with_reducible rfl
    try simp only [Act.put, List.getElem_toArray, List.getElem_cons_succ, List.getElem_cons_zero, List.setIfInBounds_toArray, List.set_cons_zero, List.set_cons_succ]
    refine H_take (i := 11) (v := ?_) rfl (by kernel_rfl) (by kernel_rfl) (by kernel_rfl) (fun _ _ _ h => h) (Or.inl ⟨by rfl, ?_⟩) ⟨five_of HP9.out.blk, five_of HQ9.out.blk⟩ ?_
    rotate_left
    · intro W hW; obtain ⟨⟨m0, m1, m2, m3, m4⟩, l0, l1, l2, l3, l4⟩ := hW; go_simp; try with_reducible rfl
    try simp only [Act.put, List.getElem_toArray, List.getElem_cons_succ, List.getElem_cons_zero, List.setIfInBounds_toArray, List.set_cons_zero, List.set_cons_succ]
    refine H_one (i := 10) (by kernel_rfl) rfl (fun K hK => ?_)
    go_simp
    refine (checkS (H.out.step HB9.out) HO.out.ok HQ9.out.row).mono ?_
    rintro e wA ⟨rfl, hb⟩
    have HBA := Lib.hid (below_th HB9.out hb)
    have HPA := Lib.hid (HP9.out.below hb)
    have HQA := Lib.hid (HQ9.out.below hb)
    clear hb
    refine hK.out _ _ ⟨five_of HPA.out.blk, five_of HQA.out.blk⟩ (fun _ => ?_)
    clear hK K
    try simp only [Act.put, List.getElem_toArray, List.getElem_cons_succ, List.getElem_cons_zero, List.setIfInBounds_toArray, List.set_cons_zero, List.set_cons_succ]
    refine H_one (i := 12) (by kernel_rfl) rfl (fun K hK => ?_)
    go_simp
    refine (R32.checkR HO.out HPA.out.row).mono ?_
    rintro e wB ⟨rfl, hb⟩
    have HBB := Lib.hid (below_th HBA.out hb)
    have HPB := Lib.hid (HPA.out.below hb)
    have HQB := Lib.hid (HQA.out.below hb)
    clear hb
    refine hK.out _ _ ⟨five_of HPB.out.blk, five_of HQB.out.blk⟩ (fun _ => ?_)
    clear hK K
    try simp only [Act.put, List.getElem_toArray, List.getElem_cons_succ, List.getElem_cons_zero, List.setIfInBounds_toArray, List.set_cons_zero, List.set_cons_succ]
    refine H_take (i := 13) (v := ?_) rfl (by kernel_rfl) (by kernel_rfl) (by kernel_rfl) (fun _ _ _ h => h) (Or.inl ⟨by rfl, ?_⟩) ⟨five_of HPB.out.blk, five_of HQB.out.blk⟩ ?_
    rotate_left
    · intro W hW; obtain ⟨⟨m0, m1, m2, m3, m4⟩, l0, l1, l2, l3, l4⟩ := hW; go_simp; try with_reducible rfl
    try simp only [Act.put, List.getElem_toArray, List.getElem_cons_succ, List.getElem_cons_zero, List.setIfInBounds_toArray, List.set_cons_zero, List.set_cons_succ]
    refine H_take (i := 14) (v := ?_) rfl (by kernel_rfl) (by kernel_rfl) (by kernel_rfl) (fun _ _ _ h => h) (Or.inl ⟨by rfl, ?_⟩) ⟨five_of HPB.out.blk, five_of HQB.out.blk⟩ ?_
    rotate_left
    · intro W hW; obtain ⟨⟨m0, m1, m2, m3, m4⟩, l0, l1, l2, l3, l4⟩ := hW; go_simp; try with_reducible rfl
    try simp only [Act.put, List.getElem_toArray, List.getElem_cons_succ, List.getElem_cons_zero, List.setIfInBounds_toArray, List.set_cons_zero, List.set_cons_succ]
    refine H_take (i := 15) (v := ?_) rfl (by kernel_rfl) (by kernel_rfl) (by kernel_rfl) (fun _ _ _ h => h) (Or.inl ⟨by rfl, ?_⟩) ⟨five_of HPB.out.blk, five_of HQB.out.blk⟩ ?_
    rotate_left
    · intro W hW; obtain ⟨⟨m0, m1, m2, m3, m4⟩, l0, l1, l2, l3, l4⟩ := hW; go_simp; try with_reducible rfl
    try simp only [Act.put, List.getElem_toArray, List.getElem_cons_succ, List.getElem_cons_zero, List.setIfInBounds_toArray, List.set_cons_zero, List.set_cons_succ]
    refine H_take (i := 16) (v := ?_) rfl (by kernel_rfl) (by kernel_rfl) (by kernel_rfl) (fun _ _ _ h => h) (Or.inl ⟨by rfl, ?_⟩) ⟨five_of HPB.out.blk, five_of HQB.out.blk⟩ ?_
    rotate_left
    · intro W hW; obtain ⟨⟨m0, m1, m2, m3, m4⟩, l0, l1, l2, l3, l4⟩ := hW; go_simp; try with_reducible rfl
    try simp only [Act.put, List.getElem_toArray, List.getElem_cons_succ, List.getElem_cons_zero, List.setIfInBounds_toArray, List.set_cons_zero, List.set_cons_succ]
    refine H_take (i := 17) (v := ?_) rfl (by kernel_rfl) (by kernel_rfl) (by kernel_rfl) (fun _ _ _ h => h) (Or.inl ⟨by rfl, ?_⟩) ⟨five_of HPB.out.blk, five_of HQB.out.blk⟩ ?_
    rotate_left
    · intro W hW; obtain ⟨⟨m0, m1, m2, m3, m4⟩, l0, l1, l2, l3, l4⟩ := hW; go_simp; try with_reducible rfl
    try simp only [Act.put, List.getElem_toArray, List.getElem_cons_succ, List.getElem_cons_zero, List.setIfInBounds_toArray, List.set_cons_zero, List.set_cons_succ]
    refine H_take (i := 18) (v := ?_) rfl (by kernel_rfl) (by kernel_rfl) (by kernel_rfl) (fun _ _ _ h => h) (Or.inl ⟨by rfl, ?_⟩) ⟨five_of HPB.out.blk, five_of HQB.out.blk⟩ ?_
    rotate_left
    · intro W hW; obtain ⟨⟨m0, m1, m2, m3, m4⟩, l0, l1, l2, l3, l4⟩ := hW; go_simp; try with_reducible rfl
    try simp only [Act.put, List.getElem_toArray, List.getElem_cons_succ, List.getElem_cons_zero, List.setIfInBounds_toArray, List.set_cons_zero, List.set_cons_succ]
    refine H_take (i := 19) (v := ?_) rfl (by kernel_rfl) (by kernel_rfl) (by kernel_rfl) (fun _ _ _ h => h) (Or.inl ⟨by rfl, ?_⟩) ⟨five_of HPB.out.blk, five_of HQB.out.blk⟩ ?_
    rotate_left
    · intro W hW; obtain ⟨⟨m0, m1, m2, m3, m4⟩, l0, l1, l2, l3, l4⟩ := hW; go_simp; try with_reducible rfl
    try simp only [Act.put, List.getElem_toArray, List.getElem_cons_succ, List.getElem_cons_zero, List.setIfInBounds_toArray, List.set_cons_zero, List.set_cons_succ]
    refine H_take (i := 20) (v := ?_) rfl (by kernel_rfl) (by kernel_rfl) (by kernel_rfl) (fun _ _ _ h => h) (Or.inl ⟨by rfl, ?_⟩) ⟨five_of HPB.out.blk, five_of HQB.out.blk⟩ ?_
    rotate_left
    · intro W hW; obtain ⟨⟨m0, m1, m2, m3, m4⟩, l0, l1, l2, l3, l4⟩ := hW; go_simp; try with_reducible rfl
    try simp only [Act.put, List.getElem_toArray, List.getElem_cons_succ, List.getElem_cons_zero, List.setIfInBounds_toArray, List.set_cons_zero, List.set_cons_succ]
    refine H_take (i := 21) (v := ?_) rfl (by kernel_rfl) (by kernel_rfl) (by kernel_rfl) (fun _ _ _ h => h) (Or.inl ⟨by rfl, ?_⟩) ⟨five_of HPB.out.blk, five_of HQB.out.blk⟩ ?_
    rotate_left
    · intro W hW; obtain ⟨⟨m0, m1, m2, m3, m4⟩, l0, l1, l2, l3, l4⟩ := hW; go_simp; try with_reducible rfl
    try simp only [Act.put, List.getElem_toArray, List.getElem_cons_succ, List.getElem_cons_zero, List.setIfInBounds_toArray, List.set_cons_zero, List.set_cons_succ]
    refine H_take (i := 22) (v := ?_) rfl (by kernel_rfl) (by kernel_rfl) (by kernel_rfl) (fun _ _ _ h => h) (Or.inl ⟨by rfl, ?_⟩) ⟨five_of HPB.out.blk, five_of HQB.out.blk⟩ ?_
    rotate_left
    · intro W hW; obtain ⟨⟨m0, m1, m2, m3, m4⟩, l0, l1, l2, l3, l4⟩ := hW; go_simp; try with_reducible rfl
    try simp only [Act.put, List.getElem_toArray, List.getElem_cons_succ, List.getElem_cons_zero, List.setIfInBounds_toArray, List.set_cons_zero, List.set_cons_succ]
    refine H_take (i := 23) (v := ?_) rfl (by kernel_rfl) (by kernel_rfl) (by kernel_rfl) (fun _ _ _ h => h) (Or.inl ⟨by rfl, ?_⟩) ⟨five_of HPB.out.blk, five_of HQB.out.blk⟩ ?_
    rotate_left
    · intro W hW; obtain ⟨⟨m0, m1, m2, m3, m4⟩, l0, l1, l2, l3, l4⟩ := hW; go_simp; try with_reducible rfl
    try simp only [Act.put, List.getElem_toArray, List.getElem_cons_succ, List.getElem_cons_zero, List.setIfInBounds_toArray, List.set_cons_zero, List.set_cons_succ]
    refine H_take (i := 24) (v := ?_) rfl (by kernel_rfl) (by kernel_rfl) (by kernel_rfl) (fun _ _ _ h => h) (Or.inl ⟨by rfl, ?_⟩) ⟨five_of HPB.out.blk, five_of HQB.out.blk⟩ ?_
    rotate_left
    · intro W hW; obtain ⟨⟨m0, m1, m2, m3, m4⟩, l0, l1, l2, l3, l4⟩ := hW; go_simp; try with_reducible rfl
    try simp only [Act.put, List.getElem_toArray, List.getElem_cons_succ, List.getElem_cons_zero, List.setIfInBounds_toArray, List.set_cons_zero, List.set_cons_succ]
    refine H_take (i := 25) (v := ?_) rfl (by kernel_rfl) (by kernel_rfl) (by kernel_rfl) (fun _ _ _ h => h) (Or.inl ⟨by rfl, ?_⟩) ⟨five_of HPB.out.blk, five_of HQB.out.blk⟩ ?_
    rotate_left
    · intro W hW; obtain ⟨⟨m0, m1, m2, m3, m4⟩, l0, l1, l2, l3, l4⟩ := hW; go_simp; try with_reducible rfl
    try simp only [Act.put, List.getElem_toArray, List.getElem_cons_succ, List.getElem_cons_zero, List.setIfInBounds_toArray, List.set_cons_zero, List.set_cons_succ]
    refine H_take (i := 26) (v := ?_) rfl (by kernel_rfl) (by kernel_rfl) (by kernel_rfl) (fun _ _ _ h => h) (Or.inl ⟨by rfl, ?_⟩) ⟨five_of HPB.out.blk, five_of HQB.out.blk⟩ ?_
    rotate_left
    · intro W hW; obtain ⟨⟨m0, m1, m2, m3, m4⟩, l0, l1, l2, l3, l4⟩ := hW; go_simp; try with_reducible rfl
    try simp only [Act.put, List.getElem_toArray, List.getElem_cons_succ, List.getElem_cons_zero, List.setIfInBounds_toArray, List.set_cons_zero, List.set_cons_succ]
    refine H_take (i := 27) (v := ?_) rfl (by kernel_rfl) (by kernel_rfl) (by kernel_rfl) (fun _ _ _ h => h) (Or.inl ⟨by rfl, ?_⟩) ⟨five_of HPB.out.blk, five_of HQB.out.blk⟩ ?_
    rotate_left
    · intro W hW; obtain ⟨⟨m0, m1, m2, m3, m4⟩, l0, l1, l2, l3, l4⟩ := hW; go_simp; try with_reducible rfl
    try simp only [Act.put, List.getElem_toArray, List.getElem_cons_succ, List.getElem_cons_zero, List.setIfInBounds_toArray, List.set_cons_zero, List.set_cons_succ]
    refine H_one (i := 28) (by kernel_rfl) rfl (fun K hK => ?_)
    go_simp
    refine (same HQB.out.row HPB.out.row (by omega) (by omega) (by omega)).mono ?_
    rintro e wC ⟨rfl, hb⟩
    have HBC := Lib.hid (below_th HBB.out hb)
    have HPC := Lib.hid (HPB.out.below hb)
    have HQC := Lib.hid (HQB.out.below hb)
    clear hb
    refine hK.out _ _ ⟨five_of HPC.out.blk, five_of HQC.out.blk⟩ (fun _ => ?_)
    clear hK K
    try simp only [Act.put, List.getElem_toArray, List.getElem_cons_succ, List.getElem_cons_zero, List.setIfInBounds_toArray, List.set_cons_zero, List.set_cons_succ]
    refine H_take (i := 29) (v := ?_) rfl (by kernel_rfl) (by kernel_rfl) (by kernel_rfl) (fun _ _ _ h => h) (Or.inl ⟨by rfl, ?_⟩) ⟨five_of HPC.out.blk, five_of HQC.out.blk⟩ ?_
    rotate_left
    · intro W hW; obtain ⟨⟨m0, m1, m2, m3, m4⟩, l0, l1, l2, l3, l4⟩ := hW; go_simp; try with_reducible rfl
    try simp only [Act.put, List.getElem_toArray, List.getElem_cons_succ, List.getElem_cons_zero, List.setIfInBounds_toArray, List.set_cons_zero, List.set_cons_succ]
    refine H_take (i := 30) (v := ?_) rfl (by kernel_rfl) (by kernel_rfl) (by kernel_rfl) (fun _ _ _ h => h) (Or.inl ⟨by rfl, ?_⟩) ⟨five_of HPC.out.blk, five_of HQC.out.blk⟩ ?_
    rotate_left
    · intro W hW; obtain ⟨⟨m0, m1, m2, m3, m4⟩, l0, l1, l2, l3, l4⟩ := hW; go_simp; try with_reducible rfl
    try simp only [Act.put, List.getElem_toArray, List.getElem_cons_succ, List.getElem_cons_zero, List.setIfInBounds_toArray, List.set_cons_zero, List.set_cons_succ]
    refine H_one (i := 31) (by kernel_rfl) rfl (fun K hK => ?_)
    go_simp
    refine (alive (H.out.step HBC.out)).mono ?_
    rintro e wD ⟨rfl, hb⟩
    have HBD := Lib.hid (below_th HBC.out hb)
    have HPD := Lib.hid (HPC.out.below hb)
    have HQD := Lib.hid (HQC.out.below hb)
    clear hb
    refine hK.out _ _ ⟨five_of HPD.out.blk, five_of HQD.out.blk⟩ (fun _ => ?_)
    clear hK K
    try simp only [Act.put, List.getElem_toArray, List.getElem_cons_succ, List.getElem_cons_zero, List.setIfInBounds_toArray, List.set_cons_zero, List.set_cons_succ]
    refine H_take (i := 32) (v := ?_) rfl (by kernel_rfl) (by kernel_rfl) (by kernel_rfl) (fun _ _ _ h => h) (Or.inl ⟨by rfl, ?_⟩) ⟨five_of HPD.out.blk, five_of HQD.out.blk⟩ ?_
    rotate_left
    · intro W hW; obtain ⟨⟨m0, m1, m2, m3, m4⟩, l0, l1, l2, l3, l4⟩ := hW; go_simp; try with_reducible rfl
    try simp only [Act.put, List.getElem_toArray, List.getElem_cons_succ, List.getElem_cons_zero, List.setIfInBounds_toArray, List.set_cons_zero, List.set_cons_succ]
    refine H_take (i := 33) (v := ?_) rfl (by kernel_rfl) (by kernel_rfl) (by kernel_rfl) (fun _ _ _ h => h) (Or.inl ⟨by rfl, ?_⟩) ⟨five_of HPD.out.blk, five_of HQD.out.blk⟩ ?_
    rotate_left
    · intro W hW; obtain ⟨⟨m0, m1, m2, m3, m4⟩, l0, l1, l2, l3, l4⟩ := hW; go_simp; try with_reducible rfl
    try simp only [Act.put, List.getElem_toArray, List.getElem_cons_succ, List.getElem_cons_zero, List.setIfInBounds_toArray, List.set_cons_zero, List.set_cons_succ]
    refine wpAnyH_done (by kernel_rfl) ?_ _
    go_wp2
    exact HFin.out _ HBD.out
end Go.Proofs.YtohlgcdailconaaGreatDoor.Scr
