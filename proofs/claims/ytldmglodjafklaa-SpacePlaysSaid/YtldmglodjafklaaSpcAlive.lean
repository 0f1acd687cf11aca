/- The walk of aediculelaw05.alive. -/
import Derived.Test.YtldmglodjafklaaSpcE
namespace Go.Proofs.Ytldmglodjafklaa.Sp
open Go.RowKit
set_option linter.unusedVariables false
def sX : ByteArray := ⟨#[120]⟩
def aA (b : Nat) : List Pg := [⟨0, b, 3, List.replicate 256 0⟩]
def aB (b : Nat) : List Pg := putA (aA b) 255 2 ⟨#[120]⟩
theorem f1 : mapE [] 0 3 = 0 := by decide
theorem f2 (b : Nat) : mapA [] 0 b 3 = aA b := by kernel_rfl
theorem f3 (b : Nat) : fitsE (aA b) 255 1 2 = 0 := by kernel_rfl
theorem f4 (b : Nat) : getS (aB b) 254 2 1 = ⟨#[0, 120]⟩ := by kernel_rfl
theorem f5 (b : Nat) : getE (aB b) 254 2 1 = 0 := by kernel_rfl
theorem f6 (b : Nat) : getE (aB b) 0 8 4 = 50 := by kernel_rfl
theorem f7 (b : Nat) : getS (aB b) 256 0 1 = ByteArray.empty := by kernel_rfl
theorem f8 (b : Nat) : getE (aB b) 256 0 1 = 0 := by kernel_rfl
theorem f9 (b : Nat) : fitsE (aB b) 255 2 2 = 50 := by kernel_rfl
theorem f10 (b : Nat) : putA (aB b) 255 2 ⟨#[120, 121]⟩ = aB b := by kernel_rfl
theorem f11 (b : Nat) : mapE (aB b) 256 8 = 2 := by kernel_rfl
theorem f12 (b c : Nat) : mapA (aB b) 256 c 8 = aB b := by kernel_rfl
theorem f13 (b : Nat) : mapE (aB b) 1 1 = 2 := by kernel_rfl
theorem f14 (b c : Nat) : mapA (aB b) 1 c 1 = aB b := by kernel_rfl
theorem f15 (b : Nat) : mapE (aB b) 0 1 = 9 := by kernel_rfl
set_option maxRecDepth 100000 in
theorem alive (w : World) : Calls Try.prog 15 #[] w fun e w' => e = .returned (.bool true) ∧ Below w.heap.size w w' := by
  go_enter Try.func15, Try.ntmps15
  go_wp2_with fail
  refine (o_new _).mono ?_
  rintro e w1 ⟨rfl, h1⟩
  go_wp2_with fail
  refine (o_map h1 0 3 (by omega) (by omega) (by omega) (by omega)).mono ?_
  rintro e w2 ⟨rfl, h2⟩
  rw [f1]
  rw [f2] at h2
  go_wp2_with fail
  refine (o_write h2 255 ⟨#[120]⟩ (by omega) (by omega) (by decide)).mono ?_
  rintro e w3 ⟨rfl, h3⟩
  rw [show (ByteArray.mk #[120]).size = 1 from rfl, f3]
  change Own w w3 _ _ (aB _) at h3
  go_wp2_with fail
  refine (o_read h3 254 2 (by omega) (by omega)).mono ?_
  rintro e w4 ⟨rfl, h4⟩
  rw [f4, f5]
  go_wp2_with fail
  refine (o_fetch h4 0 (by omega) (by omega)).mono ?_
  rintro e w5 ⟨rfl, h5⟩
  rw [f6]
  go_wp2_with fail
  refine (o_read h5 256 0 (by omega) (by omega)).mono ?_
  rintro e w6 ⟨rfl, h6⟩
  rw [f7, f8]
  go_wp2_with fail
  refine (o_write h6 255 ⟨#[120, 121]⟩ (by omega) (by omega) (by decide)).mono ?_
  rintro e w7 ⟨rfl, h7⟩
  rw [show (ByteArray.mk #[120, 121]).size = 2 from rfl, f9]
  rw [f10] at h7
  go_wp2_with fail
  refine (o_map h7 256 8 (by omega) (by omega) (by omega) (by omega)).mono ?_
  rintro e w8 ⟨rfl, h8⟩
  rw [f11]
  rw [f12] at h8
  go_wp2_with fail
  refine (o_map h8 1 1 (by omega) (by omega) (by omega) (by omega)).mono ?_
  rintro e w9 ⟨rfl, h9⟩
  rw [f13]
  rw [f14] at h9
  go_wp2_with fail
  refine (o_map h9 0 1 (by omega) (by omega) (by omega) (by omega)).mono ?_
  rintro e w10 ⟨rfl, h10⟩
  rw [f15]
  go_wp2
  go_ret
  exact ⟨rfl, h10.bel⟩
end Go.Proofs.Ytldmglodjafklaa.Sp
