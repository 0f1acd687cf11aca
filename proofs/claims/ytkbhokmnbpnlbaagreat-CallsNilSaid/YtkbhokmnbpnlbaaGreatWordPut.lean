/- The walks of word.Put and word.text. -/
import Derived.Test.YtkbhokmnbpnlbaaGreatProg
import Derived.Test.YtkbhokmnbpnlbaaGreatWordSpec
import Derived.Test.YtkbhokmnbpnlbaaGreatBase
import Derived.Lib.Hide
import Derived.Laws.BytesArg
import Derived.WalkSpells
import Derived.WalkLawsBesides
namespace Go.Proofs.YtkbhokmnbpnlbaaGreat.Word
open Go.RowKit
set_option linter.unusedVariables false
theorem text (b len cap : Nat) (xs : List Int) (hlen : xs.length = len) (w : World) (hc : ∀ i, i < len → w.cell? ⟨b, 0 + i, none⟩ = some (.int .u8 (xs.getD i 0))) :
    Calls Tryz.prog 302 #[.slice (some ⟨b, 0, none⟩) len cap] w fun e w' => e = .returned (.string (strOfNums xs)) ∧ w = w' := by
  have h := run_convert_bytes_arg (P := Tryz.prog) w 33 5 Tryz.underlying33 Tryz.underlying5 b 0 len cap xs hlen hc 9 Tryz.underlying9
  clear hc
  go_enter Tryz.func302, Tryz.ntmps302
  go_wp2
  go_ret
  exact ⟨rfl, rfl⟩
def putL (v : Int) : List Int := [v % 256, v / 256 % 256, v / 65536 % 256, v / 16777216]
def putS (v : Int) (n : Nat) : ByteArray := strOfNums ((putL v).take n)
/-- too long for n bytes? -/
def putLong (v : Int) (n : Nat) : Bool := v / 2 ^ (8 * n) != 0
theorem put_bad (v n : Int) (h0 : 0 ≤ v) (h1 : v ≤ 4294967295) (hn : n < 1 ∨ 4 < n) (w : World) :
    Calls Tryz.prog 296 #[.int .u32 v, .int .i64 n] w fun e w' => e = .returned (.tuple #[.string ByteArray.empty, .int .i64 2]) ∧ w = w' := by
  rcases hn with hn | hn
  · go_enter Tryz.func296, Tryz.ntmps296
    go_wp2
    go_ret2
    exact ⟨rfl, rfl⟩
  · have hn2 : decide (n < 1) = false := decide_eq_false (by omega)
    go_enter Tryz.func296, Tryz.ntmps296
    go_wp2
    go_ret2
    exact ⟨rfl, rfl⟩
theorem put1_long (v : Int) (h0 : 0 ≤ v) (h1 : v ≤ 4294967295) (hl : (v / 256 != 0) = true) (w : World) :
    Calls Tryz.prog 296 #[.int .u32 v, .int .i64 1] w fun e w' => e = .returned (.tuple #[.string ByteArray.empty, .int .i64 5]) ∧ w = w' := by
  go_enter Tryz.func296, Tryz.ntmps296
  go_wp2
  go_ret2
  exact ⟨rfl, rfl⟩
theorem put1_ok (v : Int) (h0 : 0 ≤ v) (h1 : v ≤ 4294967295) (hl : (v / 256 != 0) = false) (w : World) :
    Calls Tryz.prog 296 #[.int .u32 v, .int .i64 1] w fun e w' => e = .returned (.tuple #[.string (putS v 1), .int .i64 0]) ∧ Below w.heap.size w w' := by
  have hc : ∀ i, i < 1 → (w.alloc (.cells #[.int .u8 (v % 256), .int .u8 (v / 256 % 256), .int .u8 (v / 65536 % 256), .int .u8 (v / 16777216)] 5)).cell? ⟨w.heap.size, 0 + i, none⟩ = some (.int .u8 (((putL v).take 1).getD i 0)) := by
    intro i hi
    rw [cells4]
    have : i = 0 ∨ i = 1 ∨ i = 2 ∨ i = 3 := by omega
    rcases this with rfl | rfl | rfl | rfl <;> first | omega | rfl
  have H := Lib.hid hc
  clear hc
  go_enter Tryz.func296, Tryz.ntmps296
  go_wp2_with (go_at_call 302; refine (text _ 1 4 ((putL v).take 1) rfl _ H.out).mono ?_; rintro e w1 ⟨rfl, rfl⟩)
  go_ret2
  exact ⟨rfl, by repeat (first | exact Below.refl _ _ | apply Below.drew | refine Below.setCell ?_ (by simp) _ | refine Below.alloc ?_ (by simp) _)⟩
theorem put2_long (v : Int) (h0 : 0 ≤ v) (h1 : v ≤ 4294967295) (hl : (v / 65536 != 0) = true) (w : World) :
    Calls Tryz.prog 296 #[.int .u32 v, .int .i64 2] w fun e w' => e = .returned (.tuple #[.string ByteArray.empty, .int .i64 5]) ∧ w = w' := by
  go_enter Tryz.func296, Tryz.ntmps296
  go_wp2
  go_ret2
  exact ⟨rfl, rfl⟩
theorem put2_ok (v : Int) (h0 : 0 ≤ v) (h1 : v ≤ 4294967295) (hl : (v / 65536 != 0) = false) (w : World) :
    Calls Tryz.prog 296 #[.int .u32 v, .int .i64 2] w fun e w' => e = .returned (.tuple #[.string (putS v 2), .int .i64 0]) ∧ Below w.heap.size w w' := by
  have hc : ∀ i, i < 2 → (w.alloc (.cells #[.int .u8 (v % 256), .int .u8 (v / 256 % 256), .int .u8 (v / 65536 % 256), .int .u8 (v / 16777216)] 5)).cell? ⟨w.heap.size, 0 + i, none⟩ = some (.int .u8 (((putL v).take 2).getD i 0)) := by
    intro i hi
    rw [cells4]
    have : i = 0 ∨ i = 1 ∨ i = 2 ∨ i = 3 := by omega
    rcases this with rfl | rfl | rfl | rfl <;> first | omega | rfl
  have H := Lib.hid hc
  clear hc
  go_enter Tryz.func296, Tryz.ntmps296
  go_wp2_with (go_at_call 302; refine (text _ 2 4 ((putL v).take 2) rfl _ H.out).mono ?_; rintro e w1 ⟨rfl, rfl⟩)
  go_ret2
  exact ⟨rfl, by repeat (first | exact Below.refl _ _ | apply Below.drew | refine Below.setCell ?_ (by simp) _ | refine Below.alloc ?_ (by simp) _)⟩
theorem put3_long (v : Int) (h0 : 0 ≤ v) (h1 : v ≤ 4294967295) (hl : (v / 16777216 != 0) = true) (w : World) :
    Calls Tryz.prog 296 #[.int .u32 v, .int .i64 3] w fun e w' => e = .returned (.tuple #[.string ByteArray.empty, .int .i64 5]) ∧ w = w' := by
  go_enter Tryz.func296, Tryz.ntmps296
  go_wp2
  go_ret2
  exact ⟨rfl, rfl⟩
theorem put3_ok (v : Int) (h0 : 0 ≤ v) (h1 : v ≤ 4294967295) (hl : (v / 16777216 != 0) = false) (w : World) :
    Calls Tryz.prog 296 #[.int .u32 v, .int .i64 3] w fun e w' => e = .returned (.tuple #[.string (putS v 3), .int .i64 0]) ∧ Below w.heap.size w w' := by
  have hc : ∀ i, i < 3 → (w.alloc (.cells #[.int .u8 (v % 256), .int .u8 (v / 256 % 256), .int .u8 (v / 65536 % 256), .int .u8 (v / 16777216)] 5)).cell? ⟨w.heap.size, 0 + i, none⟩ = some (.int .u8 (((putL v).take 3).getD i 0)) := by
    intro i hi
    rw [cells4]
    have : i = 0 ∨ i = 1 ∨ i = 2 ∨ i = 3 := by omega
    rcases this with rfl | rfl | rfl | rfl <;> first | omega | rfl
  have H := Lib.hid hc
  clear hc
  go_enter Tryz.func296, Tryz.ntmps296
  go_wp2_with (go_at_call 302; refine (text _ 3 4 ((putL v).take 3) rfl _ H.out).mono ?_; rintro e w1 ⟨rfl, rfl⟩)
  go_ret2
  exact ⟨rfl, by repeat (first | exact Below.refl _ _ | apply Below.drew | refine Below.setCell ?_ (by simp) _ | refine Below.alloc ?_ (by simp) _)⟩
theorem put4_ok (v : Int) (h0 : 0 ≤ v) (h1 : v ≤ 4294967295) (w : World) :
    Calls Tryz.prog 296 #[.int .u32 v, .int .i64 4] w fun e w' => e = .returned (.tuple #[.string (putS v 4), .int .i64 0]) ∧ Below w.heap.size w w' := by
  have hc : ∀ i, i < 4 → (w.alloc (.cells #[.int .u8 (v % 256), .int .u8 (v / 256 % 256), .int .u8 (v / 65536 % 256), .int .u8 (v / 16777216)] 5)).cell? ⟨w.heap.size, 0 + i, none⟩ = some (.int .u8 (((putL v).take 4).getD i 0)) := by
    intro i hi
    rw [cells4]
    have : i = 0 ∨ i = 1 ∨ i = 2 ∨ i = 3 := by omega
    rcases this with rfl | rfl | rfl | rfl <;> first | omega | rfl
  have H := Lib.hid hc
  clear hc
  go_enter Tryz.func296, Tryz.ntmps296
  go_wp2_with (go_at_call 302; refine (text _ 4 4 ((putL v).take 4) rfl _ H.out).mono ?_; rintro e w1 ⟨rfl, rfl⟩)
  go_ret2
  exact ⟨rfl, by repeat (first | exact Below.refl _ _ | apply Below.drew | refine Below.setCell ?_ (by simp) _ | refine Below.alloc ?_ (by simp) _)⟩
end Go.Proofs.YtkbhokmnbpnlbaaGreat.Word
