/- The walk of ScriptBack. -/
import Derived.Test.YtohlgcdailconaaDoorScrZ
namespace Go.Proofs.YtohlgcdailconaaDoor.Scr
open Go.RowKit Lib Go.Proofs.YtohlgcdailconaaDoor.Word
set_option linter.unusedVariables false
set_option linter.unusedSimpArgs false
/-- A script as it may come in. -/
structure Sc.inp (s : Sc) : Prop where
  p0 : 0 ≤ s.pages
  p1 : s.pages ≤ 4294967295
  e0 : ∀ x, x ∈ s.exts → 0 ≤ x ∧ x ≤ 4294967295
  kl : s.key.length ≤ 140737488355328
  i0 : ∀ t, t ∈ s.imgs → t.length ≤ 140737488355328
  a0 : ∀ a, a ∈ s.acts → 0 ≤ a.d ∧ a.d ≤ 255 ∧ -9223372036854775808 ≤ a.n ∧ a.n ≤ 9223372036854775807 ∧ -9223372036854775808 ≤ a.m ∧ a.m ≤ 9223372036854775807 ∧ a.t.length ≤ 140737488355328
theorem Sc.inp.ok {s : Sc} (h : s.inp) (hh : heavyB s = false) : s.ok := by
  unfold heavyB at hh
  simp only [Bool.or_eq_false_iff, decide_eq_false_iff_not] at hh
  obtain ⟨⟨⟨h1, h2⟩, h3⟩, h4⟩ := hh
  unfold heavyN at h4
  rw [List.take_of_length_le (by omega), List.take_of_length_le (by rw [List.length_map]; omega)] at h4
  refine ⟨h.p0, h.p1, h.e0, by omega, by omega, fun t ht => ?_, by omega, fun a ha => ?_, by omega⟩
  · have := lensT_mem s.imgs t ht
    omega
  · have := lensT_mem (s.acts.map Ac.t) a.t (List.mem_map_of_mem ha)
    obtain ⟨a1, a2, a3, a4, a5, a6, _⟩ := h.a0 a ha
    exact ⟨a1, a2, a3, a4, a5, a6, by omega⟩
set_option maxRecDepth 100000 in
set_option maxHeartbeats 8000000 in
theorem scriptBack {w : World} {p : SA} {s : Sc} {t : Tx} (h : Laid w) (hp : ScR w p s) (hs : s.inp) :
    Calls Tryd.prog 3 #[.agg (p.cells s), str t] w fun e w' => e = .returned (.bool true) ∧ Below w.heap.size w w' := by
  have hsx : p.cells s = #[.int .u32 s.pages, .slice p.ea s.exts.length p.ec, .string ⟨s.key.toArray⟩, .slice p.ia s.imgs.length p.ic, .slice p.aa s.acts.length p.ac] := rfl
  have H := Lib.hid h
  have hA := (Below.refl w.heap.size w).alloc (Nat.le_refl _) (.cells (p.cells s) 29)
  have HB1 := Lib.hid hA
  have HS1 := Lib.hid (hp.below hA)
  have HG1 : Hid ((w.alloc (.cells (p.cells s) 29)).heap[w.heap.size]? = some (wrBlk p s)) := Lib.hid (heap_alloc_new w _)
  have HHv := Lib.hid (heavy (hp.below hA) hs.kl hs.i0 fun a ha => (hs.a0 a ha).2.2.2.2.2.2)
  have HOk := Lib.hid hs.ok
  obtain ⟨c0, c1, c2, c3, c4⟩ := blk5 HG1.out
  have hz := lt_of_block HG1.out
  unfold str at *
  clear h hp hA
  rw [hsx] at HB1 HS1 HG1 HHv c0 c1 c2 c3 c4 hz ⊢
  go_enter Tryd.func3, Tryd.ntmps3
  go_wp2_with fail
  generalize w.alloc (.cells #[.int .u32 s.pages, .slice p.ea s.exts.length p.ec, .string ⟨s.key.toArray⟩, .slice p.ia s.imgs.length p.ic, .slice p.aa s.acts.length p.ac] 29) = w1 at *
  refine HHv.out.mono ?_
  rintro e w2 ⟨rfl, hb⟩
  have HB2 := Lib.hid (below_th HB1.out hb)
  have HS2 := Lib.hid (HS1.out.below hb)
  have HG2 := Lib.hid ((hb.block _ (lt_of_block HG1.out)).trans HG1.out)
  clear hb HHv HB1 HS1 HG1 c0 c1 c2 c3 c4 hz
  obtain ⟨c0, c1, c2, c3, c4⟩ := blk5 HG2.out
  have hz := lt_of_block HG2.out
  unfold str at c2
  cases hhv : heavyB s with
  | true =>
    have HAl := Lib.hid (alive (H.out.step HB2.out))
    clear hhv
    go_wp2_with fail
    refine HAl.out.mono ?_
    rintro e w3 ⟨rfl, hb⟩
    have HB3 := Lib.hid (below_th HB2.out hb)
    clear hb
    go_wp2
    go_ret
    exact ⟨rfl, HB3.out⟩
  | false =>
    have hok := HOk.out hhv
    by_cases htl : 32768 < t.length
    · have HAl := Lib.hid (alive (H.out.step HB2.out))
      have htl2 : (32768 : Int) < t.length := by omega
      clear hhv
      go_wp2_with fail
      refine HAl.out.mono ?_
      rintro e w3 ⟨rfl, hb⟩
      have HB3 := Lib.hid (below_th HB2.out hb)
      clear hb
      go_wp2
      go_ret
      exact ⟨rfl, HB3.out⟩
    have htl2 : ¬ (32768 : Int) < t.length := by omega
    have htl' : t.length ≤ 1000000 := by omega
    have hl1 := hok.el
    have hl2 := hok.il
    have hl3 := hok.al
    have HCo := Lib.hid (copied HS2.out (by omega) (by omega) (by omega))
    have HO := Lib.hid hok
    clear hhv hok
    rw [hsx] at HCo
    go_wp2_with fail
    refine HCo.out.mono ?_
    rintro e w3 ⟨hb, q, hq, rfl⟩
    have HB3 := Lib.hid (below_th HB2.out hb)
    have HS3 := Lib.hid (HS2.out.below hb)
    have HG3 := Lib.hid ((hb.block _ (lt_of_block HG2.out)).trans HG2.out)
    have HW := Lib.hid (write (H.out.step HB3.out) HO.out hq)
    clear hb HCo hq c0 c1 c2 c3 c4 hz HB2 HS2 HG2
    unfold WriteP at HW
    go_wp2_with fail
    refine HW.out.mono ?_
    rintro e w4 ⟨rfl, hb⟩
    have HB4 := Lib.hid (below_th HB3.out hb)
    have HS4 := Lib.hid (HS3.out.below hb)
    have HG4 := Lib.hid ((hb.block _ (lt_of_block HG3.out)).trans HG3.out)
    clear hb HW HB3 HS3 HG3
    by_cases hwe : writeE s = 0
    · have HRW := Lib.hid (read_write HO.out hwe)
      have hwo : writeO s = scT s := by unfold writeO; rw [if_pos hwe]
      rw [hwo, hwe]
      have HRd := Lib.hid (readAll (t := scT s) (H.out.step HB4.out))
      clear hwe hwo
      unfold str at HRd ⊢
      go_wp2_with fail
      refine HRd.out.mono ?_
      rintro e w5 ⟨hb, p1, hs1, rfl⟩
      rw [HRW.out] at hs1 ⊢
      simp only at hs1 ⊢
      have hA := (Below.refl w5.heap.size w5).alloc (Nat.le_refl _) (.cells (p1.cells s) 29)
      have HB6 := Lib.hid (below_th (below_th HB4.out hb) hA)
      have hg5 := (hb.block _ (lt_of_block HG4.out)).trans HG4.out
      have HG6 := Lib.hid ((hA.block _ (lt_of_block hg5)).trans hg5)
      have HSa := Lib.hid (same (hs1.below hA) ((HS4.out.below hb).below hA) (by omega) (by omega) (by omega))
      clear hb HRd hs1 hA hg5 HB4 HS4 HG4 HRW
      obtain ⟨c0, c1, c2, c3, c4⟩ := blk5 HG6.out
      have hz := lt_of_block HG6.out
      unfold str at c2
      have hsy : p1.cells s = #[.int .u32 s.pages, .slice p1.ea s.exts.length p1.ec, .string ⟨s.key.toArray⟩, .slice p1.ia s.imgs.length p1.ic, .slice p1.aa s.acts.length p1.ac] := rfl
      rw [hsy] at HB6 HSa HG6 c0 c1 c2 c3 c4 hz ⊢
      rw [hsx] at HSa
      go_wp2_with fail
      refine HSa.out.mono ?_
      rintro e w7 ⟨rfl, hb⟩
      have HBz := Lib.hid (below_th HB6.out hb)
      clear hb HSa HB6 HG6 c0 c1 c2 c3 c4 hz hsy
      go_wp2_with fail
      have HRd2 := Lib.hid (readAll (t := t) (H.out.step HBz.out))
      unfold str at HRd2
      refine HRd2.out.mono ?_
      rintro e w20 ⟨hb, p3, hs3, rfl⟩
      have HB20 := Lib.hid (below_th HBz.out hb)
      clear hb HRd2 HBz
      rcases write_read t htl' with ⟨x, hrx, hxo, hxt, hxe⟩ | ⟨m, hrx, hm⟩
      · rw [hrx] at hs3 ⊢
        simp only at hs3 ⊢
        have HS20 := Lib.hid hs3
        have HXo := Lib.hid hxo
        have hsx : p3.cells x = #[.int .u32 x.pages, .slice p3.ea x.exts.length p3.ec, .string ⟨x.key.toArray⟩, .slice p3.ia x.imgs.length p3.ic, .slice p3.aa x.acts.length p3.ac] := rfl
        have hA := (Below.refl w20.heap.size w20).alloc (Nat.le_refl _) (.cells (p3.cells x) 29)
        have HB21 := Lib.hid (below_th HB20.out hA)
        have HW2 := Lib.hid (write (H.out.step HB21.out) hxo (hs3.below hA))
        have hwo : writeO x = t := by unfold writeO; rw [if_pos hxe, hxt]
        unfold WriteP at HW2
        rw [hwo, hxe] at HW2
        clear hs3 hxo hxt hxe hrx hA hwo
        rw [hsx] at HW2 HB21 ⊢
        unfold str at HW2
        clear hsx
        go_wp2_with fail
        refine HW2.out.mono ?_
        rintro e w22 ⟨rfl, hb⟩
        have HB22 := Lib.hid (below_th HB21.out hb)
        have HAl := Lib.hid (alive (H.out.step HB22.out))
        clear hb HW2 HB21
        go_wp2_with fail
        refine HAl.out.mono ?_
        rintro e w23 ⟨rfl, hb⟩
        have HB23 := Lib.hid (below_th HB22.out hb)
        clear hb
        go_wp2
        go_ret
        exact ⟨rfl, HB23.out⟩
      · rw [hrx] at hs3 ⊢
        simp only at hs3 ⊢
        have hsx : p3.cells zeroS = #[.int .u32 0, .slice p3.ea 0 p3.ec, .string ⟨#[]⟩, .slice p3.ia 0 p3.ic, .slice p3.aa 0 p3.ac] := rfl
        have hA := (Below.refl w20.heap.size w20).alloc (Nat.le_refl _) (.cells (p3.cells zeroS) 29)
        have HB21 := Lib.hid (below_th HB20.out hA)
        have HSa2 := Lib.hid (same (q := zeroA) (hs3.below hA) (zero_ScR _) (by decide) (by decide) (by decide))
        clear hs3 hrx hA
        rw [hsx] at HB21 HSa2 ⊢
        clear hsx
        go_wp2_with fail
        refine HSa2.out.mono ?_
        rintro e w22 ⟨rfl, hb⟩
        have HB22 := Lib.hid (below_th HB21.out hb)
        have HAl := Lib.hid (alive (H.out.step HB22.out))
        clear hb HSa2 HB21
        go_wp2_with fail
        refine HAl.out.mono ?_
        rintro e w23 ⟨rfl, hb⟩
        have HB23 := Lib.hid (below_th HB22.out hb)
        clear hb
        go_wp2
        go_ret
        exact ⟨rfl, HB23.out⟩
    · have hwo : writeO s = [] := by unfold writeO; rw [if_neg hwe]
      have hnb : (writeE s == 0) = false := beq_eq_false_iff_ne.2 hwe
      rw [hwo]
      have HBz := HB4
      clear HB4 HS4 HG4 hwo
      generalize writeE s = x at *
      unfold str
      go_wp2_with fail
      have HRd2 := Lib.hid (readAll (t := t) (H.out.step HBz.out))
      unfold str at HRd2
      refine HRd2.out.mono ?_
      rintro e w20 ⟨hb, p3, hs3, rfl⟩
      have HB20 := Lib.hid (below_th HBz.out hb)
      clear hb HRd2 HBz
      rcases write_read t htl' with ⟨x, hrx, hxo, hxt, hxe⟩ | ⟨m, hrx, hm⟩
      · rw [hrx] at hs3 ⊢
        simp only at hs3 ⊢
        have HS20 := Lib.hid hs3
        have HXo := Lib.hid hxo
        have hsx : p3.cells x = #[.int .u32 x.pages, .slice p3.ea x.exts.length p3.ec, .string ⟨x.key.toArray⟩, .slice p3.ia x.imgs.length p3.ic, .slice p3.aa x.acts.length p3.ac] := rfl
        have hA := (Below.refl w20.heap.size w20).alloc (Nat.le_refl _) (.cells (p3.cells x) 29)
        have HB21 := Lib.hid (below_th HB20.out hA)
        have HW2 := Lib.hid (write (H.out.step HB21.out) hxo (hs3.below hA))
        have hwo : writeO x = t := by unfold writeO; rw [if_pos hxe, hxt]
        unfold WriteP at HW2
        rw [hwo, hxe] at HW2
        clear hs3 hxo hxt hxe hrx hA hwo
        rw [hsx] at HW2 HB21 ⊢
        unfold str at HW2
        clear hsx
        go_wp2_with fail
        refine HW2.out.mono ?_
        rintro e w22 ⟨rfl, hb⟩
        have HB22 := Lib.hid (below_th HB21.out hb)
        have HAl := Lib.hid (alive (H.out.step HB22.out))
        clear hb HW2 HB21
        go_wp2_with fail
        refine HAl.out.mono ?_
        rintro e w23 ⟨rfl, hb⟩
        have HB23 := Lib.hid (below_th HB22.out hb)
        clear hb
        go_wp2
        go_ret
        exact ⟨rfl, HB23.out⟩
      · rw [hrx] at hs3 ⊢
        simp only at hs3 ⊢
        have hsx : p3.cells zeroS = #[.int .u32 0, .slice p3.ea 0 p3.ec, .string ⟨#[]⟩, .slice p3.ia 0 p3.ic, .slice p3.aa 0 p3.ac] := rfl
        have hA := (Below.refl w20.heap.size w20).alloc (Nat.le_refl _) (.cells (p3.cells zeroS) 29)
        have HB21 := Lib.hid (below_th HB20.out hA)
        have HSa2 := Lib.hid (same (q := zeroA) (hs3.below hA) (zero_ScR _) (by decide) (by decide) (by decide))
        clear hs3 hrx hA
        rw [hsx] at HB21 HSa2 ⊢
        clear hsx
        go_wp2_with fail
        refine HSa2.out.mono ?_
        rintro e w22 ⟨rfl, hb⟩
        have HB22 := Lib.hid (below_th HB21.out hb)
        have HAl := Lib.hid (alive (H.out.step HB22.out))
        clear hb HSa2 HB21
        go_wp2_with fail
        refine HAl.out.mono ?_
        rintro e w23 ⟨rfl, hb⟩
        have HB23 := Lib.hid (below_th HB22.out hb)
        clear hb
        go_wp2
        go_ret
        exact ⟨rfl, HB23.out⟩
end Go.Proofs.YtohlgcdailconaaDoor.Scr
