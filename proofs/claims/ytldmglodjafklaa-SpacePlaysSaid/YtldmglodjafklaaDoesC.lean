/- aediculelaw05's does, at any step. -/
import Derived.Test.YtldmglodjafklaaDoesB
namespace Go.Proofs.Ytldmglodjafklaa
open Go.RowKit
set_option linter.unusedVariables false
namespace Sp
set_option maxRecDepth 100000 in
theorem does_none {w : World} {sb mb rb : Nat} {A : List Pg} {lv : Value} {R : List Rp} (h : Pair w sb mb A rb lv R) (d a n : Int) (t : ByteArray) (e0 : d ≠ 0) (e1 : d ≠ 1) (e2 : d ≠ 2) (e3 : d ≠ 3) (e4 : d ≠ 4) (e5 : d ≠ 5) (e6 : d ≠ 6) :
    Calls Try.prog 26 #[.pointer (some ⟨sb, 0, none⟩), .pointer (some ⟨rb, 0, none⟩), .agg #[.int .i64 d, .int .u32 a, .int .i64 n, .string t]] w (DoesPost w sb mb A rb lv R) := by
  have f0 : (d == 0) = false := by simpa using e0
  have f1 : (d == 1) = false := by simpa using e1
  have f2 : (d == 2) = false := by simpa using e2
  have f3 : (d == 3) = false := by simpa using e3
  have f4 : (d == 4) = false := by simpa using e4
  have f5 : (d == 5) = false := by simpa using e5
  have f6 : (d == 6) = false := by simpa using e6
  have H := Lib.hid h
  have HFin : Hid (∀ b w', Below w.heap.size w w' → b = true → DoesPost w sb mb A rb lv R (.returned (.bool b)) w') := Lib.hid fun b w' h1 h2 => ⟨A, lv, R, b, rfl, (DStep.refl H.out).below h1, fun hc => ⟨h2, hc⟩⟩
  generalize DoesPost w sb mb A rb lv R = PQ at *
  clear h e0 e1 e2 e3 e4 e5 e6
  go_enter Try.func26, Try.ntmps26
  go_wp2
  exact HFin.out true _ ((Below.refl _ _).alloc (Nat.le_refl _) _) rfl
theorem does_any {w : World} {sb mb rb : Nat} {A : List Pg} {lv : Value} {R : List Rp} (h : Pair w sb mb A rb lv R) (x : StepR) (hx : x.ok) :
    Calls Try.prog 26 #[.pointer (some ⟨sb, 0, none⟩), .pointer (some ⟨rb, 0, none⟩), .agg #[.int .i64 x.dod, .int .u32 x.addr, .int .i64 x.n, .string x.text]] w (DoesPost w sb mb A rb lv R) := by
  obtain ⟨d, a, n, t⟩ := x
  obtain ⟨_, _, h0, h1, n0, n1, t1⟩ := hx
  simp only at *
  by_cases e0 : d = 0
  · subst e0; exact does_map h a n t h0 h1 n0 n1 (by omega)
  by_cases e1 : d = 1
  · subst e1; exact does_unmap h a n t h0 h1 n0 n1 (by omega)
  by_cases e2 : d = 2
  · subst e2; exact does_set h a n t h0 h1 n0 n1 (by omega)
  by_cases e3 : d = 3
  · subst e3; exact does_look h a n t h0 h1 n0 n1
  by_cases e4 : d = 4
  · subst e4; exact does_read h a n t h0 h1 n0 n1
  by_cases e5 : d = 5
  · subst e5; exact does_write h a n t h0 h1 n0 n1 (by omega)
  by_cases e6 : d = 6
  · subst e6; exact does_fetch h a n t h0 h1 n0 n1
  exact does_none h d a n t e0 e1 e2 e3 e4 e5 e6
end Sp
end Go.Proofs.Ytldmglodjafklaa
