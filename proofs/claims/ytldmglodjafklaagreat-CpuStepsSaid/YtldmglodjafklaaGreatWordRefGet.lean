/- The walk of aediculeref01.Get. -/
import Derived.Test.YtldmglodjafklaaGreatWordPut
import Derived.Test.YtldmglodjafklaaGreatWordNum
import Derived.Test.YtldmglodjafklaaGreatProg
import Derived.LoopTactic
import Derived.WalkSpells
import Derived.WalkLawsBesides
import Derived.Outline
namespace Go.Proofs.YtldmglodjafklaaGreat.WordRef
open Go.RowKit Word
set_option linter.unusedVariables false
theorem getV_drop (s : ByteArray) (j : Nat) (hj : j < s.size) : getV ((nums s).drop j) = 256 * getV ((nums s).drop (j + 1)) + ((s[j]'hj).toNat : Int) := by
  have hl : j < (nums s).length := by rw [nums_length]; exact hj
  rw [List.drop_eq_getElem_cons hl]
  have e := nums_get s j hj
  rw [e, List.getD, List.getElem?_eq_getElem hl]
  show (nums s)[j] + 256 * getV _ = _
  simp only [Option.getD_some]
  omega
theorem getV_drop_bd (s : ByteArray) (j : Nat) (h4 : s.size ≤ 4) : 0 ≤ getV ((nums s).drop j) ∧ getV ((nums s).drop j) ≤ 4294967295 := by
  have hb := getV_bd ((nums s).drop j) fun y hy => nums_bd s y (List.mem_of_mem_drop hy)
  have hl : ((nums s).drop j).length ≤ 4 := by rw [List.length_drop, nums_length]; omega
  generalize ((nums s).drop j).length = n at hb hl
  have : n = 0 ∨ n = 1 ∨ n = 2 ∨ n = 3 ∨ n = 4 := by omega
  rcases this with rfl | rfl | rfl | rfl | rfl <;> simp at hb <;> omega
def getRelR (s : ByteArray) (v i : Value) : Prop := ∃ (k : Nat) (x : Int), k ≤ s.size ∧ i = .int .i64 ((s.size : Int) - 1 - k) ∧ v = .int .u32 x ∧ 0 ≤ x ∧ x ≤ 4294967295 ∧ x = getV ((nums s).drop (s.size - k))
theorem get_ok (s : ByteArray) (h1 : 1 ≤ s.size) (h4 : s.size ≤ 4) (w : World) :
    Calls Tryz.prog 100 #[.string s] w fun e w' => e = .returned (.tuple #[.int .u32 (getV (nums s)), .int .i64 0]) ∧ w = w' := by
  go_enter Tryz.func100, Tryz.ntmps100
  go_wp2
  go_loop [4, 5] (fun v i => getRelR s v i) (fun _ i => (intOf i + 1).toNat)
  case atStart => exact ⟨0, 0, by omega, by simp, rfl, by omega, by omega, by rw [Nat.sub_zero, List.drop_of_length_le (by rw [nums_length]; omega)]; rfl⟩
  case round =>
    obtain ⟨k, x, hk, rfl, rfl, x0, x1, hx⟩ := hrel
    by_cases hk2 : k < s.size
    · obtain ⟨j, hj⟩ : ∃ j : Nat, s.size - 1 - k = j := ⟨_, rfl⟩
      have hjs : j < s.size := by omega
      have hj1 : s.size - k = j + 1 := by omega
      have ej : (s.size : Int) - 1 - k = (j : Int) := by omega
      have hb8 := byte_bd (s[j]'hjs)
      have hn := getV_drop s j hjs
      rw [← hj1, ← hx] at hn
      have hbd := getV_drop_bd s j h4
      have Hn := Lib.hid hn
      have Hbd := Lib.hid hbd
      have Hj := Lib.hid (show s.size - (k + 1) = j by omega)
      rw [ej]
      clear hn hbd ej hx
      go_wp2
      have e1 := Hn.out
      have e2 := Hbd.out
      refine ⟨⟨k + 1, _, by omega, congrArg _ (by omega), rfl, by omega, by omega, ?_⟩, by simp [intOf]⟩
      rw [Hj.out, e1]
      omega
    · obtain rfl : k = s.size := by omega
      have hneg : (s.size : Int) - 1 - (s.size : Int) = -1 := by omega
      rw [hneg]
      rw [Nat.sub_self, List.drop_zero] at hx
      have Hx := Lib.hid hx
      clear hx hneg
      go_wp2
      go_ret2
      exact ⟨ret_ie Hx.out, rfl⟩
end Go.Proofs.YtldmglodjafklaaGreat.WordRef
