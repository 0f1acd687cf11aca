/- The walk of word.Hex. -/
import Derived.Test.YtohlgcdailconaaGreatDoorWordNum
import Derived.Test.YtohlgcdailconaaGreatDoorProg
import Derived.LoopTactic
import Derived.Deep.RegionLaw
import Derived.Deep.AppendLies
import Derived.Deep.QuietTactic
import Derived.BigQuiet
import Derived.WalkSpells
import Derived.WalkLawsBesides
import Derived.OwnWalk
import Derived.Outline
namespace Go.Proofs.YtohlgcdailconaaGreatDoor.Word
open Go.RowKit
set_option linter.unusedVariables false
def hexD (n : Int) : Int := if n < 10 then n + 48 else n + 87
def hexL : List Int → List Int
  | [] => []
  | x :: xs => hexD (x / 16) :: hexD (x % 16) :: hexL xs
theorem hexL_snoc (l : List Int) (x : Int) : hexL (l ++ [x]) = hexL l ++ [hexD (x / 16), hexD (x % 16)] := by
  induction l with
  | nil => rfl
  | cons y ys ih => simp [hexL, ih]
theorem hexL_length (l : List Int) : (hexL l).length = 2 * l.length := by
  induction l with
  | nil => rfl
  | cons y ys ih => simp only [hexL, List.length_cons, ih]; omega
theorem info_u8 : (Tryz.prog.info? 5).map (fun i => (i.zero, i.size, i.bytes)) = some (some (.int .u8 0), 1, 1) := by kernel_rfl
theorem digit0 (w : World) : (Instr.index 9 (.string ⟨#[48, 49, 50, 51, 52, 53, 54, 55, 56, 57, 97, 98, 99, 100, 101, 102]⟩) (.int .u8 0)).run Tryz.prog w = .ok (.int .u8 48) w := by kernel_rfl
theorem digit1 (w : World) : (Instr.index 9 (.string ⟨#[48, 49, 50, 51, 52, 53, 54, 55, 56, 57, 97, 98, 99, 100, 101, 102]⟩) (.int .u8 1)).run Tryz.prog w = .ok (.int .u8 49) w := by kernel_rfl
theorem digit2 (w : World) : (Instr.index 9 (.string ⟨#[48, 49, 50, 51, 52, 53, 54, 55, 56, 57, 97, 98, 99, 100, 101, 102]⟩) (.int .u8 2)).run Tryz.prog w = .ok (.int .u8 50) w := by kernel_rfl
theorem digit3 (w : World) : (Instr.index 9 (.string ⟨#[48, 49, 50, 51, 52, 53, 54, 55, 56, 57, 97, 98, 99, 100, 101, 102]⟩) (.int .u8 3)).run Tryz.prog w = .ok (.int .u8 51) w := by kernel_rfl
theorem digit4 (w : World) : (Instr.index 9 (.string ⟨#[48, 49, 50, 51, 52, 53, 54, 55, 56, 57, 97, 98, 99, 100, 101, 102]⟩) (.int .u8 4)).run Tryz.prog w = .ok (.int .u8 52) w := by kernel_rfl
theorem digit5 (w : World) : (Instr.index 9 (.string ⟨#[48, 49, 50, 51, 52, 53, 54, 55, 56, 57, 97, 98, 99, 100, 101, 102]⟩) (.int .u8 5)).run Tryz.prog w = .ok (.int .u8 53) w := by kernel_rfl
theorem digit6 (w : World) : (Instr.index 9 (.string ⟨#[48, 49, 50, 51, 52, 53, 54, 55, 56, 57, 97, 98, 99, 100, 101, 102]⟩) (.int .u8 6)).run Tryz.prog w = .ok (.int .u8 54) w := by kernel_rfl
theorem digit7 (w : World) : (Instr.index 9 (.string ⟨#[48, 49, 50, 51, 52, 53, 54, 55, 56, 57, 97, 98, 99, 100, 101, 102]⟩) (.int .u8 7)).run Tryz.prog w = .ok (.int .u8 55) w := by kernel_rfl
theorem digit8 (w : World) : (Instr.index 9 (.string ⟨#[48, 49, 50, 51, 52, 53, 54, 55, 56, 57, 97, 98, 99, 100, 101, 102]⟩) (.int .u8 8)).run Tryz.prog w = .ok (.int .u8 56) w := by kernel_rfl
theorem digit9 (w : World) : (Instr.index 9 (.string ⟨#[48, 49, 50, 51, 52, 53, 54, 55, 56, 57, 97, 98, 99, 100, 101, 102]⟩) (.int .u8 9)).run Tryz.prog w = .ok (.int .u8 57) w := by kernel_rfl
theorem digit10 (w : World) : (Instr.index 9 (.string ⟨#[48, 49, 50, 51, 52, 53, 54, 55, 56, 57, 97, 98, 99, 100, 101, 102]⟩) (.int .u8 10)).run Tryz.prog w = .ok (.int .u8 97) w := by kernel_rfl
theorem digit11 (w : World) : (Instr.index 9 (.string ⟨#[48, 49, 50, 51, 52, 53, 54, 55, 56, 57, 97, 98, 99, 100, 101, 102]⟩) (.int .u8 11)).run Tryz.prog w = .ok (.int .u8 98) w := by kernel_rfl
theorem digit12 (w : World) : (Instr.index 9 (.string ⟨#[48, 49, 50, 51, 52, 53, 54, 55, 56, 57, 97, 98, 99, 100, 101, 102]⟩) (.int .u8 12)).run Tryz.prog w = .ok (.int .u8 99) w := by kernel_rfl
theorem digit13 (w : World) : (Instr.index 9 (.string ⟨#[48, 49, 50, 51, 52, 53, 54, 55, 56, 57, 97, 98, 99, 100, 101, 102]⟩) (.int .u8 13)).run Tryz.prog w = .ok (.int .u8 100) w := by kernel_rfl
theorem digit14 (w : World) : (Instr.index 9 (.string ⟨#[48, 49, 50, 51, 52, 53, 54, 55, 56, 57, 97, 98, 99, 100, 101, 102]⟩) (.int .u8 14)).run Tryz.prog w = .ok (.int .u8 101) w := by kernel_rfl
theorem digit15 (w : World) : (Instr.index 9 (.string ⟨#[48, 49, 50, 51, 52, 53, 54, 55, 56, 57, 97, 98, 99, 100, 101, 102]⟩) (.int .u8 15)).run Tryz.prog w = .ok (.int .u8 102) w := by kernel_rfl
theorem digits_at (n : Int) (h0 : 0 ≤ n) (h1 : n < 16) (w : World) : (Instr.index 9 (.string ⟨#[48, 49, 50, 51, 52, 53, 54, 55, 56, 57, 97, 98, 99, 100, 101, 102]⟩) (.int .u8 n)).run Tryz.prog w = .ok (.int .u8 (hexD n)) w := by
  have : n = 0 ∨ n = 1 ∨ n = 2 ∨ n = 3 ∨ n = 4 ∨ n = 5 ∨ n = 6 ∨ n = 7 ∨ n = 8 ∨ n = 9 ∨ n = 10 ∨ n = 11 ∨ n = 12 ∨ n = 13 ∨ n = 14 ∨ n = 15 := by omega
  rcases this with rfl | rfl | rfl | rfl | rfl | rfl | rfl | rfl | rfl | rfl | rfl | rfl | rfl | rfl | rfl | rfl
  · exact digit0 w
  · exact digit1 w
  · exact digit2 w
  · exact digit3 w
  · exact digit4 w
  · exact digit5 w
  · exact digit6 w
  · exact digit7 w
  · exact digit8 w
  · exact digit9 w
  · exact digit10 w
  · exact digit11 w
  · exact digit12 w
  · exact digit13 w
  · exact digit14 w
  · exact digit15 w
theorem and15 (x : Int) (h0 : 0 ≤ x) (h1 : x < 256) : bits .and .u8 x 15 = x % 16 := by
  obtain ⟨x, rfl⟩ := Int.eq_ofNat_of_zero_le h0
  have := u8_and_nat x 15 (by omega) (by omega)
  rw [nat_mask4] at this
  exact this
def hexRel (s : ByteArray) (W : World) (base : Nat) (sv si : Value) (wr : World) : Prop :=
  ∃ k : Nat, k ≤ s.size ∧ si = .int .i64 k ∧ Buf wr base 5 sv (hexL ((nums s).take k)) ∧ Below base W wr ∧ base ≤ wr.heap.size
theorem hex (s : ByteArray) (hs : s.size ≤ 1048576) (w : World) :
    Calls Tryz.prog 19 #[.string s] w fun e w' => e = .returned (.string (strOfNums (hexL (nums s)))) ∧ Below w.heap.size w w' := by
  have hcv := fun (w : World) => run_bytes_of_string (P := Tryz.prog) w 9 46 5 s Tryz.underlying9 Tryz.underlying46 Tryz.underlying5
  obtain ⟨i0, hi, hz0, hz1, hz2⟩ := info_parts info_u8
  have Hi := Lib.hid hi
  have Hz0 := Lib.hid hz0
  have Hz1 := Lib.hid hz1
  have Hz2 := Lib.hid hz2
  clear hi hz0 hz1 hz2
  go_enter Tryz.func19, Tryz.ntmps19
  go_wp2
  generalize hW : (w.alloc (.cells (bytesRow s (grownCap w s.size 0 5)) 5 ((bytesRow s (grownCap w s.size 0 5)).size, (bytesRow s (grownCap w s.size 0 5)).size + 1))).drew = W
  generalize grownCap w s.size 0 5 = cap at *
  have HW := Lib.hid hW
  clear hW hcv
  go_loopw [3, 9, 5] (fun v i c wr => hexRel s W (w.heap.size + 1) v i wr) (fun _ i _ _ => s.size - (intOf i).toNat)
  case atStart => exact ⟨0, by omega, rfl, Buf.nil _ _ _, Below.refl _ _, by rw [← HW.out]; simp⟩
  case round =>
    obtain ⟨k, hk, rfl, hown, hbel, hbase⟩ := hrel
    have Ho := Lib.hid hown
    have Hb := Lib.hid hbel
    clear hown hbel
    by_cases hk2 : k < s.size
    · have hcell : wr.cell? ⟨w.heap.size, k, none⟩ = some (.int .u8 ((nums s).getD k 0)) := by
        rw [Hb.out.cell (by simp), ← HW.out]; exact fresh_bytes _ _ _ _ _ _ hk2
      have hxb : 0 ≤ (nums s).getD k 0 ∧ (nums s).getD k 0 < 256 := by rw [← nums_get s k hk2]; have := (s[k]'hk2).toNat_lt; omega
      have hts := take_succ_nums s k hk2
      rw [nums_get s k hk2] at hts
      have hlen : (hexL ((nums s).take k)).length = 2 * k := by rw [hexL_length, List.length_take, nums_length]; omega
      generalize (nums s).getD k 0 = x at *
      have hd1 := fun w => digits_at (x / 16) (by omega) (by omega) w
      have hd2 := fun w => digits_at (x % 16) (by omega) (by omega) w
      have ha := and15 x hxb.1 hxb.2
      have Hts := Lib.hid (congrArg hexL hts)
      have Hl := Lib.hid hlen
      clear hts hlen
      go_wp2
      go_region_law (refine step_append_lies _ (by rfl) _ _ _ (by rfl) (w.heap.size + 1) 5 i0 (.int .u8 0) 1 1 Tryz.underlying46 Hi.out Hz0.out Hz1.out Hz2.out rfl (by omega) u3 _ _ (by rfl) (World.ownsRow.drew (World.ownsRow.alloc Ho.out _)) ⟨wr.heap.size, 0, none⟩ 2 2 [.int .u8 (hexD (x / 16)), .int .u8 (hexD (x % 16))] (by rfl) (by rfl) (World.news_of_block (cs := #[.int .u8 (hexD (x / 16)), .int .u8 (hexD (x % 16))]) (t := 5) (fr := (0, 0)) (heap_alloc_new wr _)) (fun x hx => by simp at hx; rcases hx with rfl | rfl <;> rfl) (by omega) (by rw [Hl.out]; unfold maxLen; omega) (by rw [Hl.out]; omega) (by simp; omega) (wr.heap.size + 1) (by simp) ?_; intro gg cap' w' hown' hgro hat hlt)
      go_wp2
      all_goals
        refine ⟨⟨k + 1, by omega, by go_num, ?_, ?_, ?_⟩, by simp [intOf]; omega⟩
        · rw [Hts.out, hexL_snoc]; exact Buf.app hown'
        · exact ((Hb.out.alloc hbase _).drew).grown hgro (by simp; omega) (fun k hk => Buf.lt Ho.out k hk)
        · exact Nat.le_trans hbase (Nat.le_trans (by simp) hgro.size)
    · obtain rfl : k = s.size := by omega
      have hcv := fun (dst : TypeId) (hd : Tryz.prog.underlying dst = some .string) => Buf.string (P := Tryz.prog) Ho.out 46 dst Tryz.underlying46 Tryz.underlying5 hd
      have hcs := hcv 9 Tryz.underlying9
      clear hcv
      go_wp2
      go_ret
      refine ⟨ret_str ?_, ?_⟩
      · rw [List.take_of_length_le (by rw [nums_length]; omega)]
      · have h1 : Below w.heap.size w W := by rw [← HW.out]; exact ((Below.refl _ _).alloc (Nat.le_refl _) _).drew
        exact h1.trans (Hb.out.mono (by omega))
end Go.Proofs.YtohlgcdailconaaGreatDoor.Word
