/-
  No cell of these rows narrows 'for every input' (looked for: loops, veiled, ifaces, maps, wideKeys, modest, calm, conditions, laid).
  DERIVED. THE GIVEN ROWS OF THIS SEAT. 6 by the template 'for every input the law returns true; each argument reads behind the call as it read before'; 0 by the template 'total and deterministic' (their statements: YtldmglodjafklaaGreatTotals.lean).
  GIVEN WITH THE SEED: the statements are not yours to turn. If you find one false, say at which input.
  Laid BY PROGRAM, IN A SANDBOX (cutbox-rows.mjs): the forced cells as the released guide's own fill.sh prints them over the translation b0f671cd11258e48… (all of the seat's roots in one cut). By AI agents, Wed Nov 11 2026. No macro, syntax, notation, axiom, sorry.
-/
import Derived.Test.YtldmglodjafklaaGreatChecked
import GoSem.Claim
import GoSem.ClaimJoined
import GoSem.ClaimMapViews
import Derived.JoinedTies
import Derived.KernelRfl
namespace Go.Proofs.YtldmglodjafklaaGreat
/- THE CELL 'sum', in the pinned program and in every row, IS THE sha256 OF THE DUMP (.gsa) THAT YtldmglodjafklaaGreatProg.lean LOADS. Nothing in Lean hashes anything: it is a label: what it is worth is what the hold of that sum in a sandbox is worth. -/
noncomputable def Tryz.pinned : Pinned := { name := "ytldmglodjafklaagreat", sum := "b0f671cd11258e487af840abb2a9f5e31c2956ba619be8bfed4c24c8f0840b43", checked := Tryz.checked }
namespace Rows
def none {H : Type} : Left H := { results := [], args := [] }

/-- 'aediculelaw21.EnvNil': WHATEVER THE INPUT: true; the input reads as it did. -/
def envNilSpec : ChangeSpec := { name := "envNil", fn := fun _ => fun
  | [d1, d2] => { results := [.lit (.bool true)], args := [d1, d2] }
  | _ => none }
def envNilRow : OpenClaim := { program := "ytldmglodjafklaagreat", sum := "b0f671cd11258e487af840abb2a9f5e31c2956ba619be8bfed4c24c8f0840b43", func := "aedicule/aediculelaw21.EnvNil", spec := "envNil", inPlace := ["slices.overlaps[uint32]"], unfollowed := true, recurses := true, apart := false }
def EnvNilSaid : Prop := envNilRow.holds Tryz.pinned (OpenSpec.ofChange envNilSpec)

/-- ITS FALSE NEIGHBOUR: 'it returns false'. Refute it at one input. -/
def envNilWrong : ChangeSpec := { name := "envNil", fn := fun _ => fun
  | [d1, d2] => { results := [.lit (.bool false)], args := [d1, d2] }
  | _ => none }
def EnvNilWrongFalsely : Prop := envNilRow.holds Tryz.pinned (OpenSpec.ofChange envNilWrong)

/-- 'aediculelaw06.CpuRuns': WHATEVER THE INPUT: true; the input reads as it did. -/
def cpuRunsSpec : ChangeSpec := { name := "cpuRuns", fn := fun _ => fun
  | [d1, d2] => { results := [.lit (.bool true)], args := [d1, d2] }
  | _ => none }
def cpuRunsRow : OpenClaim := { program := "ytldmglodjafklaagreat", sum := "b0f671cd11258e487af840abb2a9f5e31c2956ba619be8bfed4c24c8f0840b43", func := "aedicule/aediculelaw06.CpuRuns", spec := "cpuRuns", unfollowed := true, recurses := true, apart := false }
def CpuRunsSaid : Prop := cpuRunsRow.holds Tryz.pinned (OpenSpec.ofChange cpuRunsSpec)

/-- ITS FALSE NEIGHBOUR: 'it returns false'. Refute it at one input. -/
def cpuRunsWrong : ChangeSpec := { name := "cpuRuns", fn := fun _ => fun
  | [d1, d2] => { results := [.lit (.bool false)], args := [d1, d2] }
  | _ => none }
def CpuRunsWrongFalsely : Prop := cpuRunsRow.holds Tryz.pinned (OpenSpec.ofChange cpuRunsWrong)

/-- 'aediculelaw06.CpuSteps': WHATEVER THE INPUT: true; the input reads as it did. -/
def cpuStepsSpec : ChangeSpec := { name := "cpuSteps", fn := fun _ => fun
  | [d1, d2, d3] => { results := [.lit (.bool true)], args := [d1, d2, d3] }
  | _ => none }
def cpuStepsRow : OpenClaim := { program := "ytldmglodjafklaagreat", sum := "b0f671cd11258e487af840abb2a9f5e31c2956ba619be8bfed4c24c8f0840b43", func := "aedicule/aediculelaw06.CpuSteps", spec := "cpuSteps", unfollowed := true, recurses := true, apart := false }
def CpuStepsSaid : Prop := cpuStepsRow.holds Tryz.pinned (OpenSpec.ofChange cpuStepsSpec)

/-- ITS FALSE NEIGHBOUR: 'it returns false'. Refute it at one input. -/
def cpuStepsWrong : ChangeSpec := { name := "cpuSteps", fn := fun _ => fun
  | [d1, d2, d3] => { results := [.lit (.bool false)], args := [d1, d2, d3] }
  | _ => none }
def CpuStepsWrongFalsely : Prop := cpuStepsRow.holds Tryz.pinned (OpenSpec.ofChange cpuStepsWrong)

/-- 'aediculelaw06.CpuAlone': WHATEVER THE INPUT: true; the input reads as it did. -/
def cpuAloneSpec : ChangeSpec := { name := "cpuAlone", fn := fun _ => fun
  | [d1, d2] => { results := [.lit (.bool true)], args := [d1, d2] }
  | _ => none }
def cpuAloneRow : OpenClaim := { program := "ytldmglodjafklaagreat", sum := "b0f671cd11258e487af840abb2a9f5e31c2956ba619be8bfed4c24c8f0840b43", func := "aedicule/aediculelaw06.CpuAlone", spec := "cpuAlone", unfollowed := true, recurses := true, apart := false }
def CpuAloneSaid : Prop := cpuAloneRow.holds Tryz.pinned (OpenSpec.ofChange cpuAloneSpec)

/-- ITS FALSE NEIGHBOUR: 'it returns false'. Refute it at one input. -/
def cpuAloneWrong : ChangeSpec := { name := "cpuAlone", fn := fun _ => fun
  | [d1, d2] => { results := [.lit (.bool false)], args := [d1, d2] }
  | _ => none }
def CpuAloneWrongFalsely : Prop := cpuAloneRow.holds Tryz.pinned (OpenSpec.ofChange cpuAloneWrong)

/-- 'aediculelaw21.EnvOver': WHATEVER THE INPUT: true; the input reads as it did. -/
def envOverSpec : ChangeSpec := { name := "envOver", fn := fun _ => fun
  | [d1, d2, d3, d4] => { results := [.lit (.bool true)], args := [d1, d2, d3, d4] }
  | _ => none }
def envOverRow : OpenClaim := { program := "ytldmglodjafklaagreat", sum := "b0f671cd11258e487af840abb2a9f5e31c2956ba619be8bfed4c24c8f0840b43", func := "aedicule/aediculelaw21.EnvOver", spec := "envOver", inPlace := ["slices.overlaps[uint32]"], unfollowed := true, recurses := true, apart := false }
def EnvOverSaid : Prop := envOverRow.holds Tryz.pinned (OpenSpec.ofChange envOverSpec)

/-- ITS FALSE NEIGHBOUR: 'it returns false'. Refute it at one input. -/
def envOverWrong : ChangeSpec := { name := "envOver", fn := fun _ => fun
  | [d1, d2, d3, d4] => { results := [.lit (.bool false)], args := [d1, d2, d3, d4] }
  | _ => none }
def EnvOverWrongFalsely : Prop := envOverRow.holds Tryz.pinned (OpenSpec.ofChange envOverWrong)

/-- 'aediculelaw21.EnvPlays': WHATEVER THE INPUT: true; the input reads as it did. -/
def envPlaysSpec : ChangeSpec := { name := "envPlays", fn := fun _ => fun
  | [d1, d2, d3] => { results := [.lit (.bool true)], args := [d1, d2, d3] }
  | _ => none }
def envPlaysRow : OpenClaim := { program := "ytldmglodjafklaagreat", sum := "b0f671cd11258e487af840abb2a9f5e31c2956ba619be8bfed4c24c8f0840b43", func := "aedicule/aediculelaw21.EnvPlays", spec := "envPlays", inPlace := ["slices.overlaps[uint32]"], unfollowed := true, recurses := true, apart := false }
def EnvPlaysSaid : Prop := envPlaysRow.holds Tryz.pinned (OpenSpec.ofChange envPlaysSpec)

/-- ITS FALSE NEIGHBOUR: 'it returns false'. Refute it at one input. -/
def envPlaysWrong : ChangeSpec := { name := "envPlays", fn := fun _ => fun
  | [d1, d2, d3] => { results := [.lit (.bool false)], args := [d1, d2, d3] }
  | _ => none }
def EnvPlaysWrongFalsely : Prop := envPlaysRow.holds Tryz.pinned (OpenSpec.ofChange envPlaysWrong)

/- THE SECOND FORM. 'bulk': how many values and letters a reading holds, each counted each time it is reached (what is shared counts as often as it is met; a slice's spare places count too). A statement '..UptoSaid' is the law's where the arguments, and the package variables that the reading takes, are together of bulk at most 1048576: NARROWER than '..Said'. Prove '..Said' where nothing that the law and all that it calls make is longer than what came in: it says more and counts as full. Else prove '..UptoSaid'. A law counts once. -/
mutual
def uptoBulk {H : Type} : DataW H → Nat
  | .lit (.string bytes) => bytes.length + 1
  | .lit _ => 1
  | .nil => 1
  | .ptr d => uptoBulk d + 1
  | .slice elems spare => uptoBulkAll elems + uptoBulkAll spare + 1
  | .agg parts => uptoBulkAll parts + 1
  | .iface _ d => uptoBulk d + 1
  | .map entries => uptoBulkEntries entries + 1
  | .held _ => 1
def uptoBulkAll {H : Type} : List (DataW H) → Nat
  | [] => 0
  | d :: r => uptoBulk d + uptoBulkAll r
def uptoBulkEntries {H : Type} : List (Lit × DataW H) → Nat
  | [] => 0
  | x :: r => uptoBulkEntry x + uptoBulkEntries r
def uptoBulkEntry {H : Type} : Lit × DataW H → Nat
  | (.string bytes, d) => bytes.length + uptoBulk d + 1
  | (_, d) => uptoBulk d + 1
 end
def uptoSmall : (H : Type) → List (DataW H) → Bool := fun _ ds => decide (uptoBulkAll ds ≤ 1048576)
def OpenSpec.upto (s : _root_.Go.ChangeSpec) : _root_.Go.OpenSpec := { _root_.Go.OpenSpec.ofChange s with cond := some uptoSmall }

/-- 'aediculelaw21.EnvNil', WHERE WHAT IT READS IS OF BULK AT MOST 1048576: true; the input reads as it did. -/
def envNilUptoRow : OpenClaim := { program := "ytldmglodjafklaagreat", sum := "b0f671cd11258e487af840abb2a9f5e31c2956ba619be8bfed4c24c8f0840b43", func := "aedicule/aediculelaw21.EnvNil", spec := "envNil", inPlace := ["slices.overlaps[uint32]"], unfollowed := true, recurses := true, apart := false, narrowed := true }
def EnvNilUptoSaid : Prop := envNilUptoRow.holds Tryz.pinned (OpenSpec.upto envNilSpec)

/-- 'aediculelaw06.CpuRuns', WHERE WHAT IT READS IS OF BULK AT MOST 1048576: true; the input reads as it did. -/
def cpuRunsUptoRow : OpenClaim := { program := "ytldmglodjafklaagreat", sum := "b0f671cd11258e487af840abb2a9f5e31c2956ba619be8bfed4c24c8f0840b43", func := "aedicule/aediculelaw06.CpuRuns", spec := "cpuRuns", unfollowed := true, recurses := true, apart := false, narrowed := true }
def CpuRunsUptoSaid : Prop := cpuRunsUptoRow.holds Tryz.pinned (OpenSpec.upto cpuRunsSpec)

/-- 'aediculelaw06.CpuSteps', WHERE WHAT IT READS IS OF BULK AT MOST 1048576: true; the input reads as it did. -/
def cpuStepsUptoRow : OpenClaim := { program := "ytldmglodjafklaagreat", sum := "b0f671cd11258e487af840abb2a9f5e31c2956ba619be8bfed4c24c8f0840b43", func := "aedicule/aediculelaw06.CpuSteps", spec := "cpuSteps", unfollowed := true, recurses := true, apart := false, narrowed := true }
def CpuStepsUptoSaid : Prop := cpuStepsUptoRow.holds Tryz.pinned (OpenSpec.upto cpuStepsSpec)

/-- 'aediculelaw06.CpuAlone', WHERE WHAT IT READS IS OF BULK AT MOST 1048576: true; the input reads as it did. -/
def cpuAloneUptoRow : OpenClaim := { program := "ytldmglodjafklaagreat", sum := "b0f671cd11258e487af840abb2a9f5e31c2956ba619be8bfed4c24c8f0840b43", func := "aedicule/aediculelaw06.CpuAlone", spec := "cpuAlone", unfollowed := true, recurses := true, apart := false, narrowed := true }
def CpuAloneUptoSaid : Prop := cpuAloneUptoRow.holds Tryz.pinned (OpenSpec.upto cpuAloneSpec)

/-- 'aediculelaw21.EnvOver', WHERE WHAT IT READS IS OF BULK AT MOST 1048576: true; the input reads as it did. -/
def envOverUptoRow : OpenClaim := { program := "ytldmglodjafklaagreat", sum := "b0f671cd11258e487af840abb2a9f5e31c2956ba619be8bfed4c24c8f0840b43", func := "aedicule/aediculelaw21.EnvOver", spec := "envOver", inPlace := ["slices.overlaps[uint32]"], unfollowed := true, recurses := true, apart := false, narrowed := true }
def EnvOverUptoSaid : Prop := envOverUptoRow.holds Tryz.pinned (OpenSpec.upto envOverSpec)

/-- 'aediculelaw21.EnvPlays', WHERE WHAT IT READS IS OF BULK AT MOST 1048576: true; the input reads as it did. -/
def envPlaysUptoRow : OpenClaim := { program := "ytldmglodjafklaagreat", sum := "b0f671cd11258e487af840abb2a9f5e31c2956ba619be8bfed4c24c8f0840b43", func := "aedicule/aediculelaw21.EnvPlays", spec := "envPlays", inPlace := ["slices.overlaps[uint32]"], unfollowed := true, recurses := true, apart := false, narrowed := true }
def EnvPlaysUptoSaid : Prop := envPlaysUptoRow.holds Tryz.pinned (OpenSpec.upto envPlaysSpec)

end Rows
end Go.Proofs.YtldmglodjafklaaGreat
