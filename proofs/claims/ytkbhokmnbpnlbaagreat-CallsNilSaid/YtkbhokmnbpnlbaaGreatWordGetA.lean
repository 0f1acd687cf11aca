/- The walk of word.Get. -/
import Derived.Test.YtkbhokmnbpnlbaaGreatWordPut
import Derived.WalkSpells
import Derived.Test.YtkbhokmnbpnlbaaGreatWordNum
import Derived.LoopTactic
namespace Go.Proofs.YtkbhokmnbpnlbaaGreat.Word
open Go.RowKit
set_option linter.unusedVariables false
theorem get_bad (s : ByteArray) (hs : s.size < 1 ∨ 4 < s.size) (hm : s.size ≤ maxLen) (w : World) :
    Calls Tryz.prog 208 #[.string s] w fun e w' => e = .returned (.tuple #[.int .u32 0, .int .i64 2]) ∧ w = w' := by
  unfold maxLen at hm
  rcases hs with hs | hs
  · go_enter Tryz.func208, Tryz.ntmps208
    go_wp2
    go_ret2
    exact ⟨rfl, rfl⟩
  · have h2 : decide (s.size < 1) = false := decide_eq_false (by omega)
    go_enter Tryz.func208, Tryz.ntmps208
    go_wp2
    go_ret2
    exact ⟨rfl, rfl⟩
def getRel (s : ByteArray) (v i : Value) : Prop := ∃ (k : Nat) (x : Int), k ≤ s.size ∧ i = .int .i64 k ∧ v = .int .u32 x ∧ 0 ≤ x ∧ x ≤ 4294967295 ∧ x = getV ((nums s).take k)
theorem get_ok (s : ByteArray) (h1 : 1 ≤ s.size) (h4 : s.size ≤ 4) (w : World) :
    Calls Tryz.prog 208 #[.string s] w fun e w' => e = .returned (.tuple #[.int .u32 (getV (nums s)), .int .i64 0]) ∧ w = w' := by
  go_enter Tryz.func208, Tryz.ntmps208
  go_wp2
  go_loop [2, 15, 4] (fun v i k => getRel s v i) (fun _ i _ => s.size - (intOf i).toNat)
  case atStart => exact ⟨0, 0, by omega, rfl, rfl, by omega, by omega, rfl⟩
  case round =>
    obtain ⟨k, x, hk, rfl, rfl, x0, x1, hx⟩ := hrel
    by_cases hk2 : k < s.size
    · have Hn := Lib.hid (get_next s k x hk2 h4 hx)
      have Hb := Lib.hid (getV_take_bd s (k + 1) h4)
      clear hx
      go_wp2
      refine ⟨⟨k + 1, _, by omega, by go_num, rfl, ?_, ?_, Hn.out⟩, by simp [intOf]; omega⟩
      · rw [Hn.out]; exact Hb.out.1
      · rw [Hn.out]; exact Hb.out.2
    · obtain rfl : k = s.size := by omega
      have Hx := Lib.hid hx
      clear hx
      go_wp2
      go_ret2
      refine ⟨ret_ie ?_, rfl⟩
      rw [Hx.out, List.take_of_length_le (by rw [nums_length]; omega)]
end Go.Proofs.YtkbhokmnbpnlbaaGreat.Word
