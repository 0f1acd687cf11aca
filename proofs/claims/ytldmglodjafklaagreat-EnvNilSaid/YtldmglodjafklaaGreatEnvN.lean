/- The walk of env.New. -/
import Derived.Test.YtldmglodjafklaaGreatEnvZ
import Derived.Test.YtldmglodjafklaaGreatSpcY
namespace Go.Proofs.YtldmglodjafklaaGreat
open Go.RowKit Word
set_option linter.unusedVariables false
set_option linter.unusedSimpArgs false
/-- One that is new. -/
def En.new (num pc : Int) (A : List Pg) : En := ⟨num, 2, 0, 0, ByteArray.empty, [], A, List.replicate 16 0, pc⟩
def NewPost (w : World) (A : List Pg) (num pc : Int) (e : Ending) (w' : World) : Prop :=
  ∃ a C, e = .returned (.tuple #[.pointer (some ⟨a.eb, 0, none⟩), .int .i64 0]) ∧ Env w' a (En.new num pc C) ∧ cores C = cores A ∧ (∀ k, a.foot C k → w.heap.size ≤ k) ∧ Below w.heap.size w w'
namespace Ev
section
variable {w : World} {sb mb : Nat} {A : List Pg}
theorem new_nil (num pc : Int) (w : World) : Calls Tryz.prog 11 #[.int .i64 num, .pointer none, .int .u32 pc] w fun e w' => e = .returned (.tuple #[.pointer none, .int .i64 1]) ∧ w = w' := by
  go_enter Tryz.func11, Tryz.ntmps11
  go_wp2
  refine bodyPost_ret (v := .tuple #[.pointer none, .int .i64 1]) (by simp [results, Tryz.results11, go_sem, *]) rfl ?_
  exact ⟨rfl, rfl⟩
theorem new_arg (p : Addr) (num pc : Int) (hn : num < 1 ∨ 8 < num) (w : World) : Calls Tryz.prog 11 #[.int .i64 num, .pointer (some p), .int .u32 pc] w fun e w' => e = .returned (.tuple #[.pointer none, .int .i64 2]) ∧ w = w' := by
  cases g : decide (num < 1) with
  | true =>
    have g' := of_decide_eq_true g
    go_enter Tryz.func11, Tryz.ntmps11
    go_wp2
    refine bodyPost_ret (v := .tuple #[.pointer none, .int .i64 2]) (by simp [results, Tryz.results11, go_sem, *]) rfl ?_
    exact ⟨rfl, rfl⟩
  | false =>
    have g' := of_decide_eq_false g
    have g2 : 8 < num := by omega
    go_enter Tryz.func11, Tryz.ntmps11
    go_wp2
    refine bodyPost_ret (v := .tuple #[.pointer none, .int .i64 2]) (by simp [results, Tryz.results11, go_sem, *]) rfl ?_
    exact ⟨rfl, rfl⟩
set_option maxRecDepth 100000 in
set_option maxHeartbeats 4000000 in
theorem new (h : Spc w sb mb A) (num pc : Int) (n0 : 1 ≤ num) (n1 : num ≤ 8) (p0 : 0 ≤ pc) (p1 : pc ≤ 4294967295) : Calls Tryz.prog 11 #[.int .i64 num, .pointer (some ⟨sb, 0, none⟩), .int .u32 pc] w (NewPost w A num pc) := by
  have HC := Lib.hid (Sp.copy h)
  have g1 : ¬ num < 1 := by omega
  have g2 : ¬ 8 < num := by omega
  have HFin : Hid (∀ so mo C w2 w3, Spc w2 so mo C → cores C = cores A → (∀ k, Spc.foot so mo C k → w.heap.size ≤ k) → Below w.heap.size w w2 → Cpu 116 w3 w2.heap.size (List.replicate 16 0) pc → Below w2.heap.size w2 w3 →
      NewPost w A num pc (.returned (.tuple #[.pointer (some ⟨w3.heap.size, 0, none⟩), .int .i64 0])) (w3.alloc (.cells #[.pointer (some ⟨so, 0, none⟩), .slice none 0 0, .pointer (some ⟨w2.heap.size, 0, none⟩), .int .i64 num, .int .u8 2, .int .u32 0, .int .i64 0, .string ByteArray.empty] 96))) := Lib.hid fun so mo C w2 w3 hs hc hf hb hp hb3 => by
    have hz := hb.size
    have hz3 := hb3.size
    have hpl := hp.lt
    have hba : Below w3.heap.size w3 (w3.alloc (.cells #[.pointer (some ⟨so, 0, none⟩), .slice none 0 0, .pointer (some ⟨w2.heap.size, 0, none⟩), .int .i64 num, .int .u8 2, .int .u32 0, .int .i64 0, .string ByteArray.empty] 96)) := (Below.refl _ _).alloc (Nat.le_refl _) _
    refine ⟨⟨w3.heap.size, so, mo, w2.heap.size, .slice none 0 0⟩, C, rfl, ?_, hc, fun k hk => ?_, ?_⟩
    · exact { blk := heap_alloc_new w3 _, cp := hp.below hba, sp := (hs.below hb3 fun k hk => hs.lt hk).below hba fun k hk => Nat.lt_of_lt_of_le (hs.lt hk) hz3, ls := Sl.Lst.nil _, ec := by show w3.heap.size ≠ w2.heap.size; omega, es := fun g => absurd (hs.lt g) (Nat.not_lt.2 hz3), cs := fun g => Nat.lt_irrefl _ (hs.lt g), le := fun g hg => (nomatch hg), ok := ⟨List.Pairwise.nil, fun x hx => (nomatch hx), fun x hx => (nomatch hx), Nat.zero_le _⟩ }
    · rcases hk with g | g | g | g
      · rw [g]; show w.heap.size ≤ w3.heap.size; omega
      · rw [g]; exact hz
      · exact hf k g
      · cases g
    · exact (hb.trans (hb3.mono hz)).alloc (Nat.le_trans hz hz3) _
  generalize NewPost w A num pc = PQ at *
  clear h
  go_enter Tryz.func11, Tryz.ntmps11
  go_wp2_with fail
  refine HC.out.mono ?_
  rintro e w2 ⟨so, mo, C, rfl, hs, hc, hf, hb⟩
  have HS := Lib.hid (⟨hs, hc, hf, hb⟩ : Spc w2 so mo C ∧ cores C = cores A ∧ (∀ k, Spc.foot so mo C k → w.heap.size ≤ k) ∧ Below w.heap.size w w2)
  clear hs hc hf hb
  go_wp2_with fail
  refine (Cp.new pc p0 p1 w2).mono ?_
  rintro e w3 ⟨rfl, hp, hb3⟩
  have HP := Lib.hid (⟨hp, hb3⟩ : _ ∧ _)
  clear hp hb3
  go_wp2
  exact HFin.out so mo C w2 w3 HS.out.1 HS.out.2.1 HS.out.2.2.1 HS.out.2.2.2 HP.out.1 HP.out.2
end
end Ev
end Go.Proofs.YtldmglodjafklaaGreat
