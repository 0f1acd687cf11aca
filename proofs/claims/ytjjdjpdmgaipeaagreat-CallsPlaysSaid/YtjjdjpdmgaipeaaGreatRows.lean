/-
  No cell of these rows narrows 'for every input' (looked for: loops, veiled, ifaces, maps, wideKeys, modest, calm, conditions, laid).
  DERIVED. THE GIVEN ROWS OF THIS SEAT. 5 by the template 'for every input the law returns true; each argument reads behind the call as it read before'; 0 by the template 'total and deterministic' (their statements: YtjjdjpdmgaipeaaGreatTotals.lean).
  GIVEN WITH THE SEED: the statements are not yours to turn. If you find one false, say at which input.
  Laid BY PROGRAM, IN A SANDBOX (cutbox-rows.mjs): the forced cells as the released guide's own fill.sh prints them over the translation c913deaeec1c04a3… (all of the seat's roots in one cut). By AI agents, Wed Nov 11 2026. No macro, syntax, notation, axiom, sorry.
-/
import Derived.Test.YtjjdjpdmgaipeaaGreatChecked
import GoSem.Claim
import GoSem.ClaimJoined
import GoSem.ClaimMapViews
import Derived.JoinedTies
import Derived.KernelRfl
namespace Go.Proofs.YtjjdjpdmgaipeaaGreat
/- THE CELL 'sum', in the pinned program and in every row, IS THE sha256 OF THE DUMP (.gsa) THAT YtjjdjpdmgaipeaaGreatProg.lean LOADS. Nothing in Lean hashes anything: it is a label: what it is worth is what the hold of that sum in a sandbox is worth. -/
noncomputable def Tryz.pinned : Pinned := { name := "ytjjdjpdmgaipeaagreat", sum := "c913deaeec1c04a3d42ed3b60903049c1afc5e58fb052fe2f6df76aa11b6b5d3", checked := Tryz.checked }
namespace Rows
def none {H : Type} : Left H := { results := [], args := [] }

/-- 'aediculelaw22.CallsWithin': WHATEVER THE INPUT: true; the input reads as it did. -/
def callsWithinSpec : ChangeSpec := { name := "callsWithin", fn := fun _ => fun
  | [d1, d2] => { results := [.lit (.bool true)], args := [d1, d2] }
  | _ => none }
def callsWithinRow : OpenClaim := { program := "ytjjdjpdmgaipeaagreat", sum := "c913deaeec1c04a3d42ed3b60903049c1afc5e58fb052fe2f6df76aa11b6b5d3", func := "aedicule/aediculelaw22.CallsWithin", spec := "callsWithin", inPlace := ["slices.overlaps[uint32]"], unfollowed := true, recurses := true, apart := false }
def CallsWithinSaid : Prop := callsWithinRow.holds Tryz.pinned (OpenSpec.ofChange callsWithinSpec)

/-- ITS FALSE NEIGHBOUR: 'it returns false'. Refute it at one input. -/
def callsWithinWrong : ChangeSpec := { name := "callsWithin", fn := fun _ => fun
  | [d1, d2] => { results := [.lit (.bool false)], args := [d1, d2] }
  | _ => none }
def CallsWithinWrongFalsely : Prop := callsWithinRow.holds Tryz.pinned (OpenSpec.ofChange callsWithinWrong)

/-- 'aediculelaw22.CallsPlays': WHATEVER THE INPUT: true; the input reads as it did. -/
def callsPlaysSpec : ChangeSpec := { name := "callsPlays", fn := fun _ => fun
  | [d1, d2] => { results := [.lit (.bool true)], args := [d1, d2] }
  | _ => none }
def callsPlaysRow : OpenClaim := { program := "ytjjdjpdmgaipeaagreat", sum := "c913deaeec1c04a3d42ed3b60903049c1afc5e58fb052fe2f6df76aa11b6b5d3", func := "aedicule/aediculelaw22.CallsPlays", spec := "callsPlays", inPlace := ["slices.overlaps[uint32]"], unfollowed := true, recurses := true, apart := false }
def CallsPlaysSaid : Prop := callsPlaysRow.holds Tryz.pinned (OpenSpec.ofChange callsPlaysSpec)

/-- ITS FALSE NEIGHBOUR: 'it returns false'. Refute it at one input. -/
def callsPlaysWrong : ChangeSpec := { name := "callsPlays", fn := fun _ => fun
  | [d1, d2] => { results := [.lit (.bool false)], args := [d1, d2] }
  | _ => none }
def CallsPlaysWrongFalsely : Prop := callsPlaysRow.holds Tryz.pinned (OpenSpec.ofChange callsPlaysWrong)

/-- 'aediculelaw42.FreezeNil': WHATEVER THE INPUT: true; the input reads as it did. -/
def freezeNilSpec : ChangeSpec := { name := "freezeNil", fn := fun _ => fun
  | [d1, d2] => { results := [.lit (.bool true)], args := [d1, d2] }
  | _ => none }
def freezeNilRow : OpenClaim := { program := "ytjjdjpdmgaipeaagreat", sum := "c913deaeec1c04a3d42ed3b60903049c1afc5e58fb052fe2f6df76aa11b6b5d3", func := "aedicule/aediculelaw42.FreezeNil", spec := "freezeNil", inPlace := ["slices.overlaps[uint32]", "internal/abi.NoEscape"], unfollowed := true, recurses := true, apart := false }
def FreezeNilSaid : Prop := freezeNilRow.holds Tryz.pinned (OpenSpec.ofChange freezeNilSpec)

/-- ITS FALSE NEIGHBOUR: 'it returns false'. Refute it at one input. -/
def freezeNilWrong : ChangeSpec := { name := "freezeNil", fn := fun _ => fun
  | [d1, d2] => { results := [.lit (.bool false)], args := [d1, d2] }
  | _ => none }
def FreezeNilWrongFalsely : Prop := freezeNilRow.holds Tryz.pinned (OpenSpec.ofChange freezeNilWrong)

/-- 'aediculelaw23.ExoApart': WHATEVER THE INPUT: true; the input reads as it did. -/
def exoApartSpec : ChangeSpec := { name := "exoApart", fn := fun _ => fun
  | [d1, d2] => { results := [.lit (.bool true)], args := [d1, d2] }
  | _ => none }
def exoApartRow : OpenClaim := { program := "ytjjdjpdmgaipeaagreat", sum := "c913deaeec1c04a3d42ed3b60903049c1afc5e58fb052fe2f6df76aa11b6b5d3", func := "aedicule/aediculelaw23.ExoApart", spec := "exoApart", inPlace := ["slices.overlaps[uint32]"], unfollowed := true, recurses := true, apart := false }
def ExoApartSaid : Prop := exoApartRow.holds Tryz.pinned (OpenSpec.ofChange exoApartSpec)

/-- ITS FALSE NEIGHBOUR: 'it returns false'. Refute it at one input. -/
def exoApartWrong : ChangeSpec := { name := "exoApart", fn := fun _ => fun
  | [d1, d2] => { results := [.lit (.bool false)], args := [d1, d2] }
  | _ => none }
def ExoApartWrongFalsely : Prop := exoApartRow.holds Tryz.pinned (OpenSpec.ofChange exoApartWrong)

/-- 'aediculelaw23.ExoPlays': WHATEVER THE INPUT: true; the input reads as it did. -/
def exoPlaysSpec : ChangeSpec := { name := "exoPlays", fn := fun _ => fun
  | [d1, d2] => { results := [.lit (.bool true)], args := [d1, d2] }
  | _ => none }
def exoPlaysRow : OpenClaim := { program := "ytjjdjpdmgaipeaagreat", sum := "c913deaeec1c04a3d42ed3b60903049c1afc5e58fb052fe2f6df76aa11b6b5d3", func := "aedicule/aediculelaw23.ExoPlays", spec := "exoPlays", inPlace := ["slices.overlaps[uint32]"], unfollowed := true, recurses := true, apart := false }
def ExoPlaysSaid : Prop := exoPlaysRow.holds Tryz.pinned (OpenSpec.ofChange exoPlaysSpec)

/-- ITS FALSE NEIGHBOUR: 'it returns false'. Refute it at one input. -/
def exoPlaysWrong : ChangeSpec := { name := "exoPlays", fn := fun _ => fun
  | [d1, d2] => { results := [.lit (.bool false)], args := [d1, d2] }
  | _ => none }
def ExoPlaysWrongFalsely : Prop := exoPlaysRow.holds Tryz.pinned (OpenSpec.ofChange exoPlaysWrong)

/- THE SECOND FORM. 'bulk': how many values and letters a reading holds, each counted each time it is reached (what is shared counts as often as it is met; a slice's spare places count too). A statement '..UptoSaid' is the law's where the arguments, and the package variables that the reading takes, are together of bulk at most 1048576: NARROWER than '..Said'. Prove '..Said' where nothing that the law and all that it calls make is longer than what came in: it says more and counts as full. Else prove '..UptoSaid'. A law counts once. -/
mutual
def uptoBulk {H : Type} : DataW H → Nat
  | .lit (.string bytes) => bytes.length + 1
  | .lit _ => 1
  | .nil => 1
  | .ptr d => uptoBulk d + 1
  | .slice elems spare => uptoBulkAll elems + uptoBulkAll spare + 1
  | .agg parts => uptoBulkAll parts + 1
  | .iface _ d => uptoBulk d + 1
  | .map entries => uptoBulkEntries entries + 1
  | .held _ => 1
def uptoBulkAll {H : Type} : List (DataW H) → Nat
  | [] => 0
  | d :: r => uptoBulk d + uptoBulkAll r
def uptoBulkEntries {H : Type} : List (Lit × DataW H) → Nat
  | [] => 0
  | x :: r => uptoBulkEntry x + uptoBulkEntries r
def uptoBulkEntry {H : Type} : Lit × DataW H → Nat
  | (.string bytes, d) => bytes.length + uptoBulk d + 1
  | (_, d) => uptoBulk d + 1
 end
def uptoSmall : (H : Type) → List (DataW H) → Bool := fun _ ds => decide (uptoBulkAll ds ≤ 1048576)
def OpenSpec.upto (s : _root_.Go.ChangeSpec) : _root_.Go.OpenSpec := { _root_.Go.OpenSpec.ofChange s with cond := some uptoSmall }

/-- 'aediculelaw22.CallsWithin', WHERE WHAT IT READS IS OF BULK AT MOST 1048576: true; the input reads as it did. -/
def callsWithinUptoRow : OpenClaim := { program := "ytjjdjpdmgaipeaagreat", sum := "c913deaeec1c04a3d42ed3b60903049c1afc5e58fb052fe2f6df76aa11b6b5d3", func := "aedicule/aediculelaw22.CallsWithin", spec := "callsWithin", inPlace := ["slices.overlaps[uint32]"], unfollowed := true, recurses := true, apart := false, narrowed := true }
def CallsWithinUptoSaid : Prop := callsWithinUptoRow.holds Tryz.pinned (OpenSpec.upto callsWithinSpec)

/-- 'aediculelaw22.CallsPlays', WHERE WHAT IT READS IS OF BULK AT MOST 1048576: true; the input reads as it did. -/
def callsPlaysUptoRow : OpenClaim := { program := "ytjjdjpdmgaipeaagreat", sum := "c913deaeec1c04a3d42ed3b60903049c1afc5e58fb052fe2f6df76aa11b6b5d3", func := "aedicule/aediculelaw22.CallsPlays", spec := "callsPlays", inPlace := ["slices.overlaps[uint32]"], unfollowed := true, recurses := true, apart := false, narrowed := true }
def CallsPlaysUptoSaid : Prop := callsPlaysUptoRow.holds Tryz.pinned (OpenSpec.upto callsPlaysSpec)

/-- 'aediculelaw42.FreezeNil', WHERE WHAT IT READS IS OF BULK AT MOST 1048576: true; the input reads as it did. -/
def freezeNilUptoRow : OpenClaim := { program := "ytjjdjpdmgaipeaagreat", sum := "c913deaeec1c04a3d42ed3b60903049c1afc5e58fb052fe2f6df76aa11b6b5d3", func := "aedicule/aediculelaw42.FreezeNil", spec := "freezeNil", inPlace := ["slices.overlaps[uint32]", "internal/abi.NoEscape"], unfollowed := true, recurses := true, apart := false, narrowed := true }
def FreezeNilUptoSaid : Prop := freezeNilUptoRow.holds Tryz.pinned (OpenSpec.upto freezeNilSpec)

/-- 'aediculelaw23.ExoApart', WHERE WHAT IT READS IS OF BULK AT MOST 1048576: true; the input reads as it did. -/
def exoApartUptoRow : OpenClaim := { program := "ytjjdjpdmgaipeaagreat", sum := "c913deaeec1c04a3d42ed3b60903049c1afc5e58fb052fe2f6df76aa11b6b5d3", func := "aedicule/aediculelaw23.ExoApart", spec := "exoApart", inPlace := ["slices.overlaps[uint32]"], unfollowed := true, recurses := true, apart := false, narrowed := true }
def ExoApartUptoSaid : Prop := exoApartUptoRow.holds Tryz.pinned (OpenSpec.upto exoApartSpec)

/-- 'aediculelaw23.ExoPlays', WHERE WHAT IT READS IS OF BULK AT MOST 1048576: true; the input reads as it did. -/
def exoPlaysUptoRow : OpenClaim := { program := "ytjjdjpdmgaipeaagreat", sum := "c913deaeec1c04a3d42ed3b60903049c1afc5e58fb052fe2f6df76aa11b6b5d3", func := "aedicule/aediculelaw23.ExoPlays", spec := "exoPlays", inPlace := ["slices.overlaps[uint32]"], unfollowed := true, recurses := true, apart := false, narrowed := true }
def ExoPlaysUptoSaid : Prop := exoPlaysUptoRow.holds Tryz.pinned (OpenSpec.upto exoPlaysSpec)

end Rows
end Go.Proofs.YtjjdjpdmgaipeaaGreat
