/- The walk of aediculelaw20.alive; the steps of a script of layer 20; the walk of aediculelaw20.Heavy. -/
import Derived.Test.YtkjpffihmcjjpaaNicE
import Derived.Test.YtkjpffihmcjjpaaMade
import Derived.Test.YtkjpffihmcjjpaaRead
namespace Go.Proofs.Ytkjpffihmcjjpaa.Ni
open Go.RowKit
set_option linter.unusedVariables false
def aF : ByteArray := ⟨#[0, 0, 0, 0, 0, 0, 0, 0, 0, 0, 0, 0, 0, 0, 0, 0, 0, 0, 0, 0, 0, 0, 0, 7]⟩
def aF3 : ByteArray := ⟨#[0, 0, 0, 0, 0, 0, 0, 0, 0, 0, 0, 0, 0, 0, 0, 0, 0, 0, 0, 0, 0, 0, 0]⟩
def aS1 : NicS := arriveS newS aF
def aS2 : NicS := swapS aS1 7
def aS3 : NicS := popS aS2 7
def aS4 : NicS := popS aS3 7
def aS5 : NicS := arriveS aS4 aF3
def aS6 : NicS := arriveS aS5 ByteArray.empty
def aS7 : NicS := sendS aS6 ⟨#[120]⟩
set_option maxRecDepth 100000 in
set_option maxHeartbeats 2000000 in
theorem alive (w : World) : Calls Try.prog 6 #[] w fun e w' => e = .returned (.bool true) ∧ Below w.heap.size w w' := by
  have hmk : ∀ W : World, (Instr.makeSlice 45 (.int .i64 23) (.int .i64 23)).run Try.prog W = .ok (.slice (some ⟨W.heap.size, 0, none⟩) 23 23) (W.alloc (.cells (List.replicate 23 (Value.int .u8 0)).toArray 5)) := fun W => run_makeBytes 23 (by omega) W
  have hms := fun W => made_str 23 W
  rw [show strOfNums (List.replicate 23 0) = aF3 by kernel_rfl] at hms
  obtain ⟨arr, harr⟩ : ∃ arr, arr = (List.replicate 23 (Value.int .u8 0)).toArray := ⟨_, rfl⟩
  rw [← harr] at hmk hms
  clear harr
  go_enter Try.func6, Try.ntmps6
  go_wp2_with fail
  refine (o_new _).mono ?_
  rintro e w1 ⟨rfl, h1⟩
  have hA : (aF3 ++ ⟨#[7]⟩ : ByteArray) = aF := by kernel_rfl
  have hB : aF.extract 0 23 = aF3 := by kernel_rfl
  have h1a := h1.below (w' := w1.alloc (.cells arr 5)) ((Below.refl _ _).alloc (Nat.le_refl _) _)
  go_wp2_with fail
  refine (o_arrive h1a aF (by decide) (by decide) (by decide)).mono ?_
  rintro e w2 ⟨rfl, h2⟩
  rw [show arriveP aF = 7 by kernel_rfl, show arriveB newS aF = true by kernel_rfl, show arriveE aF = 0 by kernel_rfl]
  change Own _ _ _ aS1 at h2
  go_wp2_with fail
  refine (o_next h2 7 (by omega) (by omega)).mono ?_
  rintro e w3 ⟨rfl, rfl⟩
  rw [show nextS aS1 7 = aF by kernel_rfl, show nextB aS1 7 = true by kernel_rfl]
  go_wp2_with fail
  refine (o_len h2 7 (by omega) (by omega)).mono ?_
  rintro e w3 ⟨rfl, rfl⟩
  rw [show (aS1.q 7).length = 1 by kernel_rfl]
  go_wp2_with fail
  refine (o_swap h2 7 (by omega) (by omega)).mono ?_
  rintro e w3 ⟨rfl, h3⟩
  rw [show swapE aS1 7 = 3 by kernel_rfl]
  change Own _ _ _ aS2 at h3
  go_wp2_with fail
  refine (o_lose h3 7 (by omega) (by omega)).mono ?_
  rintro e w4 ⟨rfl, h4⟩
  rw [show loseE aS2 7 = 0 by kernel_rfl]
  change Own _ _ _ aS3 at h4
  go_wp2_with fail
  refine (o_lose h4 7 (by omega) (by omega)).mono ?_
  rintro e w5 ⟨rfl, h5⟩
  rw [show loseE aS3 7 = 3 by kernel_rfl]
  change Own _ _ _ aS4 at h5
  have hz : aF.size = 24 := by kernel_rfl
  go_wp2_with fail
  refine (o_arrive h5 aF3 (by decide) (by rw [show aS4.gone = 0 by kernel_rfl]; omega) (by rw [show aS4.gone = 0 by kernel_rfl]; omega)).mono ?_
  rintro e w6 ⟨rfl, h6⟩
  rw [show arriveP aF3 = 0 by kernel_rfl, show arriveB aS4 aF3 = false by kernel_rfl, show arriveE aF3 = 0 by kernel_rfl]
  change Own _ _ _ aS5 at h6
  go_wp2_with fail
  refine (o_arrive h6 ByteArray.empty (by decide) (by rw [show aS5.gone = 1 by kernel_rfl]; omega) (by rw [show aS5.gone = 1 by kernel_rfl]; omega)).mono ?_
  rintro e w7 ⟨rfl, h7⟩
  rw [show arriveP ByteArray.empty = 0 by kernel_rfl, show arriveB aS5 ByteArray.empty = false by kernel_rfl, show arriveE ByteArray.empty = 2 by kernel_rfl]
  change Own _ _ _ aS6 at h7
  go_wp2_with fail
  refine (o_dropped h7).mono ?_
  rintro e w8 ⟨rfl, rfl⟩
  rw [show aS6.gone = 1 by kernel_rfl]
  go_wp2_with fail
  refine (o_send h7 ⟨#[120]⟩ (by decide) (by rw [show aS6.sent.length = 0 by kernel_rfl]; omega)).mono ?_
  rintro e w9 ⟨rfl, h9⟩
  rw [show sendE ⟨#[120]⟩ = 0 by kernel_rfl]
  change Own _ _ _ aS7 at h9
  go_wp2_with fail
  refine (o_sent h9 (by rw [show aS7.sent.length = 1 by kernel_rfl]; omega) (by intro g; have : aS7.sent.length = 1 := (by kernel_rfl); rw [g] at this; cases this)).mono ?_
  rintro e w10 ⟨a, cap, rfl, _, h10, _⟩
  rw [show aS7.sent.length = 1 by kernel_rfl]
  go_wp2
  go_ret
  exact ⟨rfl, h10.bel⟩
end Go.Proofs.Ytkjpffihmcjjpaa.Ni
