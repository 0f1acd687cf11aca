/- PROVED HERE: aediculelaw21.EnvOver returns true for every input, and its arguments read behind the call as they read before. Conditions: none beyond the given statement's own. -/
import Derived.Test.YtldmglodjafklaaGreatRows
import Derived.Test.YtldmglodjafklaaGreatEnvOver
import Derived.Test.YtldmglodjafklaaGreatRunsB
import Derived.Test.YtldmglodjafklaaGreatHeavy21
import Derived.WalkKit
import Derived.ProofKit
import Derived.OpenShut
import Derived.ShutString
import Derived.ChangeOld
import Derived.Below
import Derived.SizedLaws
import Derived.Lib.SmallJoins
namespace Go.Proofs.YtldmglodjafklaaGreat.envOverLaw
open Go.ChangeShapes Go.WideShapes Go.ChangeAt Go.RowKit
open Go.ChangeMaps (open_string shut_string)
theorem own : ownKnob Tryz.prog.godebug = none := by kernel_rfl
theorem laidOut : laidOutB Tryz.prog = true := by kernel_rfl
set_option linter.unusedSimpArgs false
set_option maxRecDepth 100000 in
theorem lifted (os : Os) (started : os.Started) (H : Type) (enc : TypeId × Value → H) :
    ReturnsInHanded {} Tryz.checked os 7 .any (Rows.envOverSpec.pre6 enc Tryz.prog Tryz.f7 Rows.envOverRow.domain false) (Rows.envOverSpec.post enc Tryz.prog Tryz.f7 false true false false) := by
  refine returnsInHanded_of_change_sized (C := Tryz.checked) own started (by kernel_rfl) Tryz.func7
    (ChangeSpec.witness6 (enc := enc) (C := Tryz.checked) false ⟨#[], #[.agg #[.slice none 0 0, .int .u32 0, .slice none 0 0, .int .u16 0, .slice none 0 0, .int .u16 0, .string ByteArray.empty], .slice none 0 0, .slice none 0 0, .int .u32 0], []⟩ 8 (by kernel_rfl) (by kernel_rfl) (by kernel_rfl) (by kernel_rfl)) ?_
  intro W base args ds gs before hval0 hW hcnd hsz0 _
  have hsz : (DataW.weightsEach Tryz.prog (Tryz.f7.params.toList ++ Rows.envOverSpec.plain.varTypes Tryz.prog) (ds ++ gs)).all (· ≤ reachBytes) = true := hsz0
  clear hsz0
  have hval : ∀ (j : Nat) t v, Tryz.f7.params[j]? = some t → args[j]? = some v → Value.okWide Tryz.prog W .any base t v := hval0
  have hW' := hW
  obtain ⟨p, q, hA0, hV, rfl, hfz, hnd⟩ := hW
  have hA : DataW.TrodAll enc Tryz.prog W 0 (fun _ => true) true Tryz.f7.params.toList args.toList ds p := hA0
  rw [Tryz.params7] at hA hval hsz
  obtain ⟨v0, vs0, d0, ds0, p0, q0, hargs, rfl, rfl, h0, r0⟩ := trodAll_cons hA
  obtain ⟨v1, vs1, d1, ds1, p1, q1, rfl, rfl, rfl, h1, r1⟩ := trodAll_cons r0
  obtain ⟨v2, vs2, d2, ds2, p2, q2, rfl, rfl, rfl, h2, r2⟩ := trodAll_cons r1
  obtain ⟨v3, vs3, d3, ds3, p3, q3, rfl, rfl, rfl, h3, r3⟩ := trodAll_cons r2
  obtain ⟨rfl, rfl, rfl⟩ := trodAll_nil r3
  obtain rfl : args = #[v0, v1, v2, v3] := by cases args; simp_all
  obtain ⟨rfl, rfl⟩ := trodVars_none hV
  have wt0 : Rd.Wt Tryz.prog 55 d0 := Rd.wt_of hsz (j := 0) rfl rfl
  have k0 := h0
  have lt0 : ∀ x ∈ p0, x.block < W.heap.size := by obtain ⟨m, hm⟩ := k0; exact DataW.trod_lt m _ _ _ hm
  obtain ⟨cs0, rfl, hz0⟩ := okWide_struct Tryz.underlying55 (hval 0 55 v0 rfl rfl)
  obtain ⟨x0, hx0, ok0⟩ : ∃ x : Cp.St, cs0.toList = x.cells.toList ∧ x.pre W := by
    obtain ⟨fuel, hf⟩ := h0
    have hl : cs0.toList.length = 7 := by rw [Array.length_toList, hz0]; kernel_rfl
    exact Cp.state_read cs0.toList fuel _ hf wt0 hl
  obtain rfl : cs0 = x0.cells := Array.toList_inj.1 hx0
  have wt1 : Rd.Wt Tryz.prog 78 d1 := Rd.wt_of hsz (j := 1) rfl rfl
  have k1 := h1
  have lt1 : ∀ x ∈ p1, x.block < W.heap.size := by obtain ⟨m, hm⟩ := k1; exact DataW.trod_lt m _ _ _ hm
  obtain ⟨sa1, sn1, sc1, rfl⟩ := okWide_slice Tryz.underlying78 (hval 1 78 v1 rfl rfl)
  obtain ⟨a1, cap1, x1, hv1, sl1, sz1⟩ : ∃ a cap xs, Value.slice sa1 sn1 sc1 = Value.slice a (List.length xs) cap ∧ Rd.Sl W 4 Cp.actQ a cap xs ∧ xs.length * Tryz.prog.bytesOf 24 < 140737488355328 := by
    obtain ⟨fuel, hf⟩ := h1
    exact Rd.rd_slice Tryz.underlying78 4 (by kernel_rfl) (by omega) Cp.actQ (fun cs n z g => Cp.act_read cs n z g) hf wt1
  rw [hv1] at hW' k1 ⊢
  have wt2 : Rd.Wt Tryz.prog 78 d2 := Rd.wt_of hsz (j := 2) rfl rfl
  have k2 := h2
  have lt2 : ∀ x ∈ p2, x.block < W.heap.size := by obtain ⟨m, hm⟩ := k2; exact DataW.trod_lt m _ _ _ hm
  obtain ⟨sa2, sn2, sc2, rfl⟩ := okWide_slice Tryz.underlying78 (hval 2 78 v2 rfl rfl)
  obtain ⟨a2, cap2, x2, hv2, sl2, sz2⟩ : ∃ a cap xs, Value.slice sa2 sn2 sc2 = Value.slice a (List.length xs) cap ∧ Rd.Sl W 4 Cp.actQ a cap xs ∧ xs.length * Tryz.prog.bytesOf 24 < 140737488355328 := by
    obtain ⟨fuel, hf⟩ := h2
    exact Rd.rd_slice Tryz.underlying78 4 (by kernel_rfl) (by omega) Cp.actQ (fun cs n z g => Cp.act_read cs n z g) hf wt2
  rw [hv2] at hW' k2 ⊢
  obtain ⟨a3, rfl, rfl, rfl, w3⟩ := open_int Tryz.underlying22 (hval 3 22 v3 rfl rfl) h3
  have b3 := bounds_u32 w3
  clear hA0 hval0
  refine (Cp.envOverL W x0 ok0 a1 cap1 x1 sl1 sz1 a2 cap2 x2 sl2 sz2 a3 b3.1 b3.2).mono fun e W' ⟨he, bel⟩ => ?_
  subst he
  exact ⟨_, rfl, _, _, _, [], _, [], hW', trodAll_mk1 (shut_bool Tryz.underlying4 _), (trodAll_cons_mk (Below.trod laidOut (by kernel_rfl) (of_decide_eq_true (by kernel_rfl)) k0 bel lt0) (trodAll_cons_mk (Below.trod laidOut (by kernel_rfl) (of_decide_eq_true (by kernel_rfl)) k1 bel lt1) (trodAll_cons_mk (Below.trod laidOut (by kernel_rfl) (of_decide_eq_true (by kernel_rfl)) k2 bel lt2) (trodAll_cons_mk (shut_int Tryz.underlying22 w3) trodAll_mk0)))), rfl, bel.frame _, fun h => by cases h⟩
theorem over : Rows.envOverRow.holds Tryz.pinned (OpenSpec.ofChange Rows.envOverSpec) :=
  OpenClaim.holds_of_wide 7 Tryz.f7 rfl rfl rfl rfl rfl rfl rfl ⟨rfl, rfl, rfl, rfl, rfl⟩ rfl rfl rfl rfl rfl (by kernel_rfl) Tryz.func7 (by kernel_rfl)
    (of_decide_eq_true (by kernel_rfl)) (by unfold Func.isWrapper; first | (rw [if_pos (by decide +kernel)]; kernel_rfl) | (rw [if_neg (by decide +kernel)]; exact ⟨rfl, rfl⟩))
    (fun os started H enc _ => lifted os started H enc)
/-- The statement. -/
theorem proved : Rows.EnvOverSaid := over
#print axioms proved
end Go.Proofs.YtldmglodjafklaaGreat.envOverLaw
