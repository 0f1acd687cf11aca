/-
  No cell of these rows narrows 'for every input' (looked for: loops, veiled, ifaces, maps, wideKeys, modest, calm, conditions, laid).
  DERIVED. THE GIVEN ROWS OF THIS SEAT. 4 by the template 'for every input the law returns true; each argument reads behind the call as it read before'; 0 by the template 'total and deterministic' (their statements: YtkbhokmnbpnlbaaGreatTotals.lean).
  GIVEN WITH THE SEED: the statements are not yours to turn. If you find one false, say at which input.
  Laid BY PROGRAM, IN A SANDBOX (cutbox-rows.mjs): the forced cells as the released guide's own fill.sh prints them over the translation 13b1e1c840cfdf8d… (all of the seat's roots in one cut). By AI agents, Wed Nov 11 2026. No macro, syntax, notation, axiom, sorry.
-/
import Derived.Test.YtkbhokmnbpnlbaaGreatChecked
import GoSem.Claim
import GoSem.ClaimJoined
import GoSem.ClaimMapViews
import Derived.JoinedTies
import Derived.KernelRfl
namespace Go.Proofs.YtkbhokmnbpnlbaaGreat
/- THE CELL 'sum', in the pinned program and in every row, IS THE sha256 OF THE DUMP (.gsa) THAT YtkbhokmnbpnlbaaGreatProg.lean LOADS. Nothing in Lean hashes anything: it is a label: what it is worth is what the hold of that sum in a sandbox is worth. -/
noncomputable def Tryz.pinned : Pinned := { name := "ytkbhokmnbpnlbaagreat", sum := "13b1e1c840cfdf8d023281cfd2af1285797eb48b0356e626c539e1b85fef4014", checked := Tryz.checked }
namespace Rows
def none {H : Type} : Left H := { results := [], args := [] }

/-- 'aediculelaw22.CallsNil': WHATEVER THE INPUT: true; the input reads as it did. -/
def callsNilSpec : ChangeSpec := { name := "callsNil", fn := fun _ => fun
  | [d1, d2, d3] => { results := [.lit (.bool true)], args := [d1, d2, d3] }
  | _ => none }
def callsNilRow : OpenClaim := { program := "ytkbhokmnbpnlbaagreat", sum := "13b1e1c840cfdf8d023281cfd2af1285797eb48b0356e626c539e1b85fef4014", func := "aedicule/aediculelaw22.CallsNil", spec := "callsNil", inPlace := ["slices.overlaps[uint32]"], unfollowed := true, recurses := true, apart := false }
def CallsNilSaid : Prop := callsNilRow.holds Tryz.pinned (OpenSpec.ofChange callsNilSpec)

/-- ITS FALSE NEIGHBOUR: 'it returns false'. Refute it at one input. -/
def callsNilWrong : ChangeSpec := { name := "callsNil", fn := fun _ => fun
  | [d1, d2, d3] => { results := [.lit (.bool false)], args := [d1, d2, d3] }
  | _ => none }
def CallsNilWrongFalsely : Prop := callsNilRow.holds Tryz.pinned (OpenSpec.ofChange callsNilWrong)

/-- 'aediculelaw21.EnvPlays': WHATEVER THE INPUT: true; the input reads as it did. -/
def envPlaysSpec : ChangeSpec := { name := "envPlays", fn := fun _ => fun
  | [d1, d2, d3] => { results := [.lit (.bool true)], args := [d1, d2, d3] }
  | _ => none }
def envPlaysRow : OpenClaim := { program := "ytkbhokmnbpnlbaagreat", sum := "13b1e1c840cfdf8d023281cfd2af1285797eb48b0356e626c539e1b85fef4014", func := "aedicule/aediculelaw21.EnvPlays", spec := "envPlays", inPlace := ["slices.overlaps[uint32]"], unfollowed := true, recurses := true, apart := false }
def EnvPlaysSaid : Prop := envPlaysRow.holds Tryz.pinned (OpenSpec.ofChange envPlaysSpec)

/-- ITS FALSE NEIGHBOUR: 'it returns false'. Refute it at one input. -/
def envPlaysWrong : ChangeSpec := { name := "envPlays", fn := fun _ => fun
  | [d1, d2, d3] => { results := [.lit (.bool false)], args := [d1, d2, d3] }
  | _ => none }
def EnvPlaysWrongFalsely : Prop := envPlaysRow.holds Tryz.pinned (OpenSpec.ofChange envPlaysWrong)

/-- 'aediculelaw22.CallsWithin': WHATEVER THE INPUT: true; the input reads as it did. -/
def callsWithinSpec : ChangeSpec := { name := "callsWithin", fn := fun _ => fun
  | [d1, d2] => { results := [.lit (.bool true)], args := [d1, d2] }
  | _ => none }
def callsWithinRow : OpenClaim := { program := "ytkbhokmnbpnlbaagreat", sum := "13b1e1c840cfdf8d023281cfd2af1285797eb48b0356e626c539e1b85fef4014", func := "aedicule/aediculelaw22.CallsWithin", spec := "callsWithin", inPlace := ["slices.overlaps[uint32]"], unfollowed := true, recurses := true, apart := false }
def CallsWithinSaid : Prop := callsWithinRow.holds Tryz.pinned (OpenSpec.ofChange callsWithinSpec)

/-- ITS FALSE NEIGHBOUR: 'it returns false'. Refute it at one input. -/
def callsWithinWrong : ChangeSpec := { name := "callsWithin", fn := fun _ => fun
  | [d1, d2] => { results := [.lit (.bool false)], args := [d1, d2] }
  | _ => none }
def CallsWithinWrongFalsely : Prop := callsWithinRow.holds Tryz.pinned (OpenSpec.ofChange callsWithinWrong)

/-- 'aediculelaw22.CallsPlays': WHATEVER THE INPUT: true; the input reads as it did. -/
def callsPlaysSpec : ChangeSpec := { name := "callsPlays", fn := fun _ => fun
  | [d1, d2] => { results := [.lit (.bool true)], args := [d1, d2] }
  | _ => none }
def callsPlaysRow : OpenClaim := { program := "ytkbhokmnbpnlbaagreat", sum := "13b1e1c840cfdf8d023281cfd2af1285797eb48b0356e626c539e1b85fef4014", func := "aedicule/aediculelaw22.CallsPlays", spec := "callsPlays", inPlace := ["slices.overlaps[uint32]"], unfollowed := true, recurses := true, apart := false }
def CallsPlaysSaid : Prop := callsPlaysRow.holds Tryz.pinned (OpenSpec.ofChange callsPlaysSpec)

/-- ITS FALSE NEIGHBOUR: 'it returns false'. Refute it at one input. -/
def callsPlaysWrong : ChangeSpec := { name := "callsPlays", fn := fun _ => fun
  | [d1, d2] => { results := [.lit (.bool false)], args := [d1, d2] }
  | _ => none }
def CallsPlaysWrongFalsely : Prop := callsPlaysRow.holds Tryz.pinned (OpenSpec.ofChange callsPlaysWrong)

/- THE SECOND FORM. 'bulk': how many values and letters a reading holds, each counted each time it is reached (what is shared counts as often as it is met; a slice's spare places count too). A statement '..UptoSaid' is the law's where the arguments, and the package variables that the reading takes, are together of bulk at most 1048576: NARROWER than '..Said'. Prove '..Said' where nothing that the law and all that it calls make is longer than what came in: it says more and counts as full. Else prove '..UptoSaid'. A law counts once. -/
mutual
def uptoBulk {H : Type} : DataW H → Nat
  | .lit (.string bytes) => bytes.length + 1
  | .lit _ => 1
  | .nil => 1
  | .ptr d => uptoBulk d + 1
  | .slice elems spare => uptoBulkAll elems + uptoBulkAll spare + 1
  | .agg parts => uptoBulkAll parts + 1
  | .iface _ d => uptoBulk d + 1
  | .map entries => uptoBulkEntries entries + 1
  | .held _ => 1
def uptoBulkAll {H : Type} : List (DataW H) → Nat
  | [] => 0
  | d :: r => uptoBulk d + uptoBulkAll r
def uptoBulkEntries {H : Type} : List (Lit × DataW H) → Nat
  | [] => 0
  | x :: r => uptoBulkEntry x + uptoBulkEntries r
def uptoBulkEntry {H : Type} : Lit × DataW H → Nat
  | (.string bytes, d) => bytes.length + uptoBulk d + 1
  | (_, d) => uptoBulk d + 1
 end
def uptoSmall : (H : Type) → List (DataW H) → Bool := fun _ ds => decide (uptoBulkAll ds ≤ 1048576)
def OpenSpec.upto (s : _root_.Go.ChangeSpec) : _root_.Go.OpenSpec := { _root_.Go.OpenSpec.ofChange s with cond := some uptoSmall }

/-- 'aediculelaw22.CallsNil', WHERE WHAT IT READS IS OF BULK AT MOST 1048576: true; the input reads as it did. -/
def callsNilUptoRow : OpenClaim := { program := "ytkbhokmnbpnlbaagreat", sum := "13b1e1c840cfdf8d023281cfd2af1285797eb48b0356e626c539e1b85fef4014", func := "aedicule/aediculelaw22.CallsNil", spec := "callsNil", inPlace := ["slices.overlaps[uint32]"], unfollowed := true, recurses := true, apart := false, narrowed := true }
def CallsNilUptoSaid : Prop := callsNilUptoRow.holds Tryz.pinned (OpenSpec.upto callsNilSpec)

/-- 'aediculelaw21.EnvPlays', WHERE WHAT IT READS IS OF BULK AT MOST 1048576: true; the input reads as it did. -/
def envPlaysUptoRow : OpenClaim := { program := "ytkbhokmnbpnlbaagreat", sum := "13b1e1c840cfdf8d023281cfd2af1285797eb48b0356e626c539e1b85fef4014", func := "aedicule/aediculelaw21.EnvPlays", spec := "envPlays", inPlace := ["slices.overlaps[uint32]"], unfollowed := true, recurses := true, apart := false, narrowed := true }
def EnvPlaysUptoSaid : Prop := envPlaysUptoRow.holds Tryz.pinned (OpenSpec.upto envPlaysSpec)

/-- 'aediculelaw22.CallsWithin', WHERE WHAT IT READS IS OF BULK AT MOST 1048576: true; the input reads as it did. -/
def callsWithinUptoRow : OpenClaim := { program := "ytkbhokmnbpnlbaagreat", sum := "13b1e1c840cfdf8d023281cfd2af1285797eb48b0356e626c539e1b85fef4014", func := "aedicule/aediculelaw22.CallsWithin", spec := "callsWithin", inPlace := ["slices.overlaps[uint32]"], unfollowed := true, recurses := true, apart := false, narrowed := true }
def CallsWithinUptoSaid : Prop := callsWithinUptoRow.holds Tryz.pinned (OpenSpec.upto callsWithinSpec)

/-- 'aediculelaw22.CallsPlays', WHERE WHAT IT READS IS OF BULK AT MOST 1048576: true; the input reads as it did. -/
def callsPlaysUptoRow : OpenClaim := { program := "ytkbhokmnbpnlbaagreat", sum := "13b1e1c840cfdf8d023281cfd2af1285797eb48b0356e626c539e1b85fef4014", func := "aedicule/aediculelaw22.CallsPlays", spec := "callsPlays", inPlace := ["slices.overlaps[uint32]"], unfollowed := true, recurses := true, apart := false, narrowed := true }
def CallsPlaysUptoSaid : Prop := callsPlaysUptoRow.holds Tryz.pinned (OpenSpec.upto callsPlaysSpec)

end Rows
end Go.Proofs.YtkbhokmnbpnlbaaGreat
