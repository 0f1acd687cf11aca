/- The walk of aediculeref01.Bytes. -/
import Derived.Test.YtkbhokmnbpnlbaaGreatWordPut
import Derived.Test.YtkbhokmnbpnlbaaGreatProg
import Derived.LoopTactic
import Derived.Deep.RegionLaw
import Derived.Deep.AppendLies
import Derived.WalkSpells
import Derived.WalkLawsBesides
import Derived.OwnWalk
import Derived.Outline
namespace Go.Proofs.YtkbhokmnbpnlbaaGreat.WordRef
open Go.RowKit Word
set_option linter.unusedVariables false
theorem info_u8 : (Tryz.prog.info? 5).map (fun i => (i.zero, i.size, i.bytes)) = some (some (.int .u8 0), 1, 1) := by kernel_rfl
theorem putL_next (v : Int) (k : Nat) (h0 : 0 ≤ v) (h1 : v ≤ 4294967295) (hk : k < 4) : (putL v).take (k + 1) = (putL v).take k ++ [v / 256 ^ k % 256] := by
  have : k = 0 ∨ k = 1 ∨ k = 2 ∨ k = 3 := by omega
  rcases this with rfl | rfl | rfl | rfl
  · simp [putL]
  · simp [putL]
  · simp [putL]
  · simp [putL]; omega
theorem div256 (v : Int) (k : Nat) : v / 256 ^ k / 256 = v / 256 ^ (k + 1) := by
  rw [Int.ediv_ediv_of_nonneg (Int.le_of_lt (Int.pow_pos (by omega))), Int.pow_succ]
theorem div_bd (v : Int) (k : Nat) (h0 : 0 ≤ v) (h1 : v ≤ 4294967295) : 0 ≤ v / 256 ^ k ∧ v / 256 ^ k ≤ 4294967295 :=
  ⟨Int.ediv_nonneg h0 (Int.le_of_lt (Int.pow_pos (by omega))), Int.le_trans (Int.ediv_le_self _ h0) h1⟩
theorem putL_len (v : Int) (k : Nat) (hk : k ≤ 4) : ((putL v).take k).length = k := by rw [List.length_take]; simp [putL]; omega
def bytesRel (v : Int) (n : Nat) (W : World) (sv sb si : Value) (wr : World) : Prop :=
  ∃ (k : Nat) (x : Int), k ≤ n ∧ si = .int .i64 k ∧ sv = .int .u32 x ∧ 0 ≤ x ∧ x ≤ 4294967295 ∧ x = v / 256 ^ k ∧ Buf wr W.heap.size 5 sb ((putL v).take k) ∧ Below W.heap.size W wr
theorem Bytes (v : Int) (n : Nat) (hn : n ≤ 4) (h0 : 0 ≤ v) (h1 : v ≤ 4294967295) (w : World) :
    Calls Tryz.prog 236 #[.int .u32 v, .int .i64 n] w fun e w' => e = .returned (.string (putS v n)) ∧ Below w.heap.size w w' := by
  obtain ⟨i0, hi, hz0, hz1, hz2⟩ := info_parts info_u8
  have Hi := Lib.hid hi
  have Hz0 := Lib.hid hz0
  have Hz1 := Lib.hid hz1
  have Hz2 := Lib.hid hz2
  clear hi hz0 hz1 hz2
  go_enter Tryz.func236, Tryz.ntmps236
  go_wp2
  go_loopw [0, 5, 6] (fun sv sb si wr => bytesRel v n w sv sb si wr) (fun _ _ i _ => n - (intOf i).toNat)
  case atStart => exact ⟨0, v, by omega, rfl, rfl, h0, h1, by simp, Buf.nil _ _ _, Below.refl _ _⟩
  case round =>
    obtain ⟨k, x, hk, rfl, rfl, x0, x1, hx, hbuf, hbel⟩ := hrel
    obtain ⟨L, hL⟩ : ∃ L, (putL v).take k = L := ⟨_, rfl⟩
    rw [hL] at hbuf
    have Ho := Lib.hid hbuf
    have Hb := Lib.hid hbel
    have hbase := hbel.size
    by_cases hk2 : k < n
    · have Hx := Lib.hid hx
      have Hn := Lib.hid (putL_next v k h0 h1 (by omega))
      have Hl := Lib.hid (show L.length = k by rw [← hL]; exact putL_len v k (by omega))
      have HL := Lib.hid hL
      clear hx hbuf hbel hL
      go_wp2_with (at_builtin; refine wpList_append_lies _ (by rfl) _ _ _ (by rfl) (w.heap.size) 5 i0 (.int .u8 0) 1 1 Tryz.underlying33 Hi.out Hz0.out Hz1.out Hz2.out rfl (by omega) u5 _ _ (by rfl) (World.ownsRow.alloc Ho.out _) ⟨wr.heap.size, 0, none⟩ 1 1 [.int .u8 (x % 256)] (by rfl) (by rfl) (World.news_of_block (cs := #[.int .u8 (x % 256)]) (t := 5) (fr := (0, 0)) (heap_alloc_new wr _)) (fun x hx => by simp at hx; subst hx; rfl) (by omega) (by rw [Hl.out]; unfold maxLen; omega) (by rw [Hl.out]; omega) (by simp; omega) (wr.heap.size + 1) (by simp) ?_; intro gg cap' w' hown' hgro hat hlt)
      refine ⟨⟨k + 1, x / 256, by omega, by go_num, rfl, by omega, by omega, by rw [Hx.out]; exact div256 v k, ?_, ?_⟩, by simp [intOf]; omega⟩
      · rw [Hn.out, ← Hx.out, HL.out]; exact Buf.app hown'
      · exact (Hb.out.alloc hbase _).grown hgro (by simp; omega) (fun k hk => Buf.lt Ho.out k hk)
    · obtain rfl : k = n := by omega
      have hcs := Buf.string (P := Tryz.prog) Ho.out 33 9 Tryz.underlying33 Tryz.underlying5 Tryz.underlying9
      have HL := Lib.hid hL
      clear hx hbuf hbel hL
      go_wp2
      go_ret
      exact ⟨ret_str (by rw [← HL.out]; rfl), Hb.out⟩
end Go.Proofs.YtkbhokmnbpnlbaaGreat.WordRef
