/- The walk of ScriptBack. -/
import Derived.Test.YtohlgcdailconaaGreatDoorScrZ
namespace Go.Proofs.YtohlgcdailconaaGreatDoor.Scr
open Go.RowKit Lib Go.Proofs.YtohlgcdailconaaGreatDoor.Word
set_option linter.unusedVariables false
set_option linter.unusedSimpArgs false
/-- A script as it may come in. -/
structure Sc.inp (s : Sc) : Prop where
  p0 : 0 ≤ s.pages
  p1 : s.pages ≤ 4294967295
  e0 : ∀ x, x ∈ s.exts → 0 ≤ x ∧ x ≤ 4294967295
  kl : s.key.length ≤ 140737488355328
  i0 : ∀ t, t ∈ s.imgs → t.length ≤ 140737488355328
  a0 : ∀ a, a ∈ s.acts → 0 ≤ a.d ∧ a.d ≤ 255 ∧ -9223372036854775808 ≤ a.n ∧ a.n ≤ 9223372036854775807 ∧ -9223372036854775808 ≤ a.m ∧ a.m ≤ 9223372036854775807 ∧ a.t.length ≤ 140737488355328
theorem Sc.inp.ok {s : Sc} (h : s.inp) (hh : heavyB s = false) : s.ok := by
  unfold heavyB at hh
  simp only [Bool.or_eq_false_iff, decide_eq_false_iff_not] at hh
  obtain ⟨⟨⟨h1, h2⟩, h3⟩, h4⟩ := hh
  unfold heavyN at h4
  rw [List.take_of_length_le (by omega), List.take_of_length_le (by rw [List.length_map]; omega)] at h4
  refine ⟨h.p0, h.p1, h.e0, by omega, by omega, fun t ht => ?_, by omega, fun a ha => ?_, by omega⟩
  · have := lensT_mem s.imgs t ht
    omega
  · have := lensT_mem (s.acts.map Ac.t) a.t (List.mem_map_of_mem ha)
    obtain ⟨a1, a2, a3, a4, a5, a6, _⟩ := h.a0 a ha
    exact ⟨a1, a2, a3, a4, a5, a6, by omega⟩
end Go.Proofs.YtohlgcdailconaaGreatDoor.Scr
