/-
  No cell of these rows narrows 'for every input' (looked for: loops, veiled, ifaces, maps, wideKeys, modest, calm, conditions, laid).
  DERIVED. THE GIVEN ROWS OF THIS SEAT. 5 by the template 'for every input the law returns true; each argument reads behind the call as it read before'; 0 by the template 'total and deterministic' (their statements: YtldmglodjafklaaTotals.lean).
  GIVEN WITH THE SEED: the statements are not yours to turn. If you find one false, say at which input.
  Laid BY PROGRAM, IN A SANDBOX (cutbox-rows.mjs): the forced cells as the released guide's own fill.sh prints them over the translation 92f6ae458399dfc4… (all of the seat's roots in one cut). By AI agents, Wed Nov 11 2026. No macro, syntax, notation, axiom, sorry.
-/
import Derived.Test.YtldmglodjafklaaChecked
import GoSem.Claim
import GoSem.ClaimJoined
import GoSem.ClaimMapViews
import Derived.JoinedTies
import Derived.KernelRfl
namespace Go.Proofs.Ytldmglodjafklaa
/- THE CELL 'sum', in the pinned program and in every row, IS THE sha256 OF THE DUMP (.gsa) THAT YtldmglodjafklaaProg.lean LOADS. Nothing in Lean hashes anything: it is a label: what it is worth is what the hold of that sum in a sandbox is worth. -/
noncomputable def Try.pinned : Pinned := { name := "ytldmglodjafklaa", sum := "92f6ae458399dfc434036a2fca9c7e0c216eed7453798aef15b785bba230ff39", checked := Try.checked }
namespace Rows
def none {H : Type} : Left H := { results := [], args := [] }

/-- 'aediculelaw05.SpacePerms': WHATEVER THE INPUT: true; the input reads as it did. -/
def spacePermsSpec : ChangeSpec := { name := "spacePerms", fn := fun _ => fun
  | [d1, d2, d3, d4] => { results := [.lit (.bool true)], args := [d1, d2, d3, d4] }
  | _ => none }
def spacePermsRow : OpenClaim := { program := "ytldmglodjafklaa", sum := "92f6ae458399dfc434036a2fca9c7e0c216eed7453798aef15b785bba230ff39", func := "aedicule/aediculelaw05.SpacePerms", spec := "spacePerms", unfollowed := true, recurses := true, apart := false }
def SpacePermsSaid : Prop := spacePermsRow.holds Try.pinned (OpenSpec.ofChange spacePermsSpec)

/-- ITS FALSE NEIGHBOUR: 'it returns false'. Refute it at one input. -/
def spacePermsWrong : ChangeSpec := { name := "spacePerms", fn := fun _ => fun
  | [d1, d2, d3, d4] => { results := [.lit (.bool false)], args := [d1, d2, d3, d4] }
  | _ => none }
def SpacePermsWrongFalsely : Prop := spacePermsRow.holds Try.pinned (OpenSpec.ofChange spacePermsWrong)

/-- 'aediculelaw06.CpuNil': WHATEVER THE INPUT: true; the input reads as it did. -/
def cpuNilSpec : ChangeSpec := { name := "cpuNil", fn := fun _ => fun
  | [d1, d2] => { results := [.lit (.bool true)], args := [d1, d2] }
  | _ => none }
def cpuNilRow : OpenClaim := { program := "ytldmglodjafklaa", sum := "92f6ae458399dfc434036a2fca9c7e0c216eed7453798aef15b785bba230ff39", func := "aedicule/aediculelaw06.CpuNil", spec := "cpuNil", unfollowed := true, recurses := true, apart := false }
def CpuNilSaid : Prop := cpuNilRow.holds Try.pinned (OpenSpec.ofChange cpuNilSpec)

/-- ITS FALSE NEIGHBOUR: 'it returns false'. Refute it at one input. -/
def cpuNilWrong : ChangeSpec := { name := "cpuNil", fn := fun _ => fun
  | [d1, d2] => { results := [.lit (.bool false)], args := [d1, d2] }
  | _ => none }
def CpuNilWrongFalsely : Prop := cpuNilRow.holds Try.pinned (OpenSpec.ofChange cpuNilWrong)

/-- 'aediculelaw05.SpacePlays': WHATEVER THE INPUT: true; the input reads as it did. -/
def spacePlaysSpec : ChangeSpec := { name := "spacePlays", fn := fun _ => fun
  | [d1, d2] => { results := [.lit (.bool true)], args := [d1, d2] }
  | _ => none }
def spacePlaysRow : OpenClaim := { program := "ytldmglodjafklaa", sum := "92f6ae458399dfc434036a2fca9c7e0c216eed7453798aef15b785bba230ff39", func := "aedicule/aediculelaw05.SpacePlays", spec := "spacePlays", unfollowed := true, recurses := true, apart := false }
def SpacePlaysSaid : Prop := spacePlaysRow.holds Try.pinned (OpenSpec.ofChange spacePlaysSpec)

/-- ITS FALSE NEIGHBOUR: 'it returns false'. Refute it at one input. -/
def spacePlaysWrong : ChangeSpec := { name := "spacePlays", fn := fun _ => fun
  | [d1, d2] => { results := [.lit (.bool false)], args := [d1, d2] }
  | _ => none }
def SpacePlaysWrongFalsely : Prop := spacePlaysRow.holds Try.pinned (OpenSpec.ofChange spacePlaysWrong)

/-- 'aediculelaw05.SpaceKeeps': WHATEVER THE INPUT: true; the input reads as it did. -/
def spaceKeepsSpec : ChangeSpec := { name := "spaceKeeps", fn := fun _ => fun
  | [d1, d2, d3, d4] => { results := [.lit (.bool true)], args := [d1, d2, d3, d4] }
  | _ => none }
def spaceKeepsRow : OpenClaim := { program := "ytldmglodjafklaa", sum := "92f6ae458399dfc434036a2fca9c7e0c216eed7453798aef15b785bba230ff39", func := "aedicule/aediculelaw05.SpaceKeeps", spec := "spaceKeeps", unfollowed := true, recurses := true, apart := false }
def SpaceKeepsSaid : Prop := spaceKeepsRow.holds Try.pinned (OpenSpec.ofChange spaceKeepsSpec)

/-- ITS FALSE NEIGHBOUR: 'it returns false'. Refute it at one input. -/
def spaceKeepsWrong : ChangeSpec := { name := "spaceKeeps", fn := fun _ => fun
  | [d1, d2, d3, d4] => { results := [.lit (.bool false)], args := [d1, d2, d3, d4] }
  | _ => none }
def SpaceKeepsWrongFalsely : Prop := spaceKeepsRow.holds Try.pinned (OpenSpec.ofChange spaceKeepsWrong)

/-- 'aediculelaw05.SpaceNil': WHATEVER THE INPUT: true; the input reads as it did. -/
def spaceNilSpec : ChangeSpec := { name := "spaceNil", fn := fun _ => fun
  | [d] => { results := [.lit (.bool true)], args := [d] }
  | _ => none }
def spaceNilRow : OpenClaim := { program := "ytldmglodjafklaa", sum := "92f6ae458399dfc434036a2fca9c7e0c216eed7453798aef15b785bba230ff39", func := "aedicule/aediculelaw05.SpaceNil", spec := "spaceNil", unfollowed := true, recurses := true, apart := false }
def SpaceNilSaid : Prop := spaceNilRow.holds Try.pinned (OpenSpec.ofChange spaceNilSpec)

/-- ITS FALSE NEIGHBOUR: 'it returns false'. Refute it at one input. -/
def spaceNilWrong : ChangeSpec := { name := "spaceNil", fn := fun _ => fun
  | [d] => { results := [.lit (.bool false)], args := [d] }
  | _ => none }
def SpaceNilWrongFalsely : Prop := spaceNilRow.holds Try.pinned (OpenSpec.ofChange spaceNilWrong)

/- THE SECOND FORM. 'bulk': how many values and letters a reading holds, each counted each time it is reached (what is shared counts as often as it is met; a slice's spare places count too). A statement '..UptoSaid' is the law's where the arguments, and the package variables that the reading takes, are together of bulk at most 1048576: NARROWER than '..Said'. Prove '..Said' where nothing that the law and all that it calls make is longer than what came in: it says more and counts as full. Else prove '..UptoSaid'. A law counts once. -/
mutual
def uptoBulk {H : Type} : DataW H → Nat
  | .lit (.string bytes) => bytes.length + 1
  | .lit _ => 1
  | .nil => 1
  | .ptr d => uptoBulk d + 1
  | .slice elems spare => uptoBulkAll elems + uptoBulkAll spare + 1
  | .agg parts => uptoBulkAll parts + 1
  | .iface _ d => uptoBulk d + 1
  | .map entries => uptoBulkEntries entries + 1
  | .held _ => 1
def uptoBulkAll {H : Type} : List (DataW H) → Nat
  | [] => 0
  | d :: r => uptoBulk d + uptoBulkAll r
def uptoBulkEntries {H : Type} : List (Lit × DataW H) → Nat
  | [] => 0
  | x :: r => uptoBulkEntry x + uptoBulkEntries r
def uptoBulkEntry {H : Type} : Lit × DataW H → Nat
  | (.string bytes, d) => bytes.length + uptoBulk d + 1
  | (_, d) => uptoBulk d + 1
 end
def uptoSmall : (H : Type) → List (DataW H) → Bool := fun _ ds => decide (uptoBulkAll ds ≤ 1048576)
def OpenSpec.upto (s : _root_.Go.ChangeSpec) : _root_.Go.OpenSpec := { _root_.Go.OpenSpec.ofChange s with cond := some uptoSmall }

/-- 'aediculelaw05.SpacePerms', WHERE WHAT IT READS IS OF BULK AT MOST 1048576: true; the input reads as it did. -/
def spacePermsUptoRow : OpenClaim := { program := "ytldmglodjafklaa", sum := "92f6ae458399dfc434036a2fca9c7e0c216eed7453798aef15b785bba230ff39", func := "aedicule/aediculelaw05.SpacePerms", spec := "spacePerms", unfollowed := true, recurses := true, apart := false, narrowed := true }
def SpacePermsUptoSaid : Prop := spacePermsUptoRow.holds Try.pinned (OpenSpec.upto spacePermsSpec)

/-- 'aediculelaw06.CpuNil', WHERE WHAT IT READS IS OF BULK AT MOST 1048576: true; the input reads as it did. -/
def cpuNilUptoRow : OpenClaim := { program := "ytldmglodjafklaa", sum := "92f6ae458399dfc434036a2fca9c7e0c216eed7453798aef15b785bba230ff39", func := "aedicule/aediculelaw06.CpuNil", spec := "cpuNil", unfollowed := true, recurses := true, apart := false, narrowed := true }
def CpuNilUptoSaid : Prop := cpuNilUptoRow.holds Try.pinned (OpenSpec.upto cpuNilSpec)

/-- 'aediculelaw05.SpacePlays', WHERE WHAT IT READS IS OF BULK AT MOST 1048576: true; the input reads as it did. -/
def spacePlaysUptoRow : OpenClaim := { program := "ytldmglodjafklaa", sum := "92f6ae458399dfc434036a2fca9c7e0c216eed7453798aef15b785bba230ff39", func := "aedicule/aediculelaw05.SpacePlays", spec := "spacePlays", unfollowed := true, recurses := true, apart := false, narrowed := true }
def SpacePlaysUptoSaid : Prop := spacePlaysUptoRow.holds Try.pinned (OpenSpec.upto spacePlaysSpec)

/-- 'aediculelaw05.SpaceKeeps', WHERE WHAT IT READS IS OF BULK AT MOST 1048576: true; the input reads as it did. -/
def spaceKeepsUptoRow : OpenClaim := { program := "ytldmglodjafklaa", sum := "92f6ae458399dfc434036a2fca9c7e0c216eed7453798aef15b785bba230ff39", func := "aedicule/aediculelaw05.SpaceKeeps", spec := "spaceKeeps", unfollowed := true, recurses := true, apart := false, narrowed := true }
def SpaceKeepsUptoSaid : Prop := spaceKeepsUptoRow.holds Try.pinned (OpenSpec.upto spaceKeepsSpec)

/-- 'aediculelaw05.SpaceNil', WHERE WHAT IT READS IS OF BULK AT MOST 1048576: true; the input reads as it did. -/
def spaceNilUptoRow : OpenClaim := { program := "ytldmglodjafklaa", sum := "92f6ae458399dfc434036a2fca9c7e0c216eed7453798aef15b785bba230ff39", func := "aedicule/aediculelaw05.SpaceNil", spec := "spaceNil", unfollowed := true, recurses := true, apart := false, narrowed := true }
def SpaceNilUptoSaid : Prop := spaceNilUptoRow.holds Try.pinned (OpenSpec.upto spaceNilSpec)

end Rows
end Go.Proofs.Ytldmglodjafklaa
