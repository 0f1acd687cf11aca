/- Acts of layer 21 as arguments: how they read. -/
import Derived.Test.YtldmglodjafklaaGreatEnvNil
import Derived.Test.YtldmglodjafklaaGreatRead
import Derived.OpenShut
namespace Go.Proofs.YtldmglodjafklaaGreat.Cp
open Go.RowKit
set_option linter.unusedVariables false
def actQ (g : Nat → Option Value) (x : ActR) : Prop := (g 0 = some (.int .i64 x.dod) ∧ g 1 = some (.int .u32 x.n) ∧ g 2 = some (.int .u32 x.m) ∧ g 3 = some (.string x.text)) ∧ x.ok
theorem act_read {H : Type} {enc : TypeId × Value → H} {w : World} {base : Nat} {spare : Nat → Bool} {held : Bool} (cs : List Value) (n : Nat) (z : DataW H × List MemPlace) (g : Nat → Option Value)
    (h : DataW.trod enc Tryz.prog w base spare held n 24 cs = some z) (hw : Rd.Wt Tryz.prog 24 z.1) (hl : cs.length = 4) (hg : ∀ j, j < 4 → g j = cs[j]?) : ∃ x : ActR, actQ g x := by
  obtain ⟨_, hs⟩ := Rd.rd_struct Tryz.underlying24 (by kernel_rfl) (by kernel_rfl) h hw
  obtain ⟨v0, z0, n0, e0, t0, q0⟩ := hs 0 _ rfl
  obtain ⟨x0, rfl, w0⟩ := Rd.rd_int Tryz.underlying3 t0
  obtain ⟨v1, z1, n1, e1, t1, q1⟩ := hs 1 _ rfl
  obtain ⟨x1, rfl, w1⟩ := Rd.rd_int Tryz.underlying22 t1
  obtain ⟨v2, z2, n2, e2, t2, q2⟩ := hs 2 _ rfl
  obtain ⟨x2, rfl, w2⟩ := Rd.rd_int Tryz.underlying22 t2
  obtain ⟨v3, z3, n3, e3, t3, q3⟩ := hs 3 _ rfl
  obtain ⟨x3, rfl, w3⟩ := Rd.rd_str Tryz.underlying9 t3 q3
  have b0 := bounds_i64 w0
  have b1 := bounds_u32 w1
  have b2 := bounds_u32 w2
  exact ⟨⟨x0, x1, x2, x3⟩, ⟨(hg 0 (by omega)).trans e0, (hg 1 (by omega)).trans e1, (hg 2 (by omega)).trans e2, (hg 3 (by omega)).trans e3⟩, ⟨b0.1, b0.2, b1.1, b1.2, b2.1, b2.2, Nat.le_of_lt w3⟩⟩
end Go.Proofs.YtldmglodjafklaaGreat.Cp
