/- The walks of aediculeref06: put, op, fault, branches, mem. -/
import Derived.Test.YtldmglodjafklaaGreatWrkW
import Derived.Test.YtldmglodjafklaaGreatWordRefB
import Derived.Test.YtldmglodjafklaaGreatWordRefGet
import Derived.Test.YtldmglodjafklaaGreatWordBytes
import Derived.Test.YtldmglodjafklaaGreatRspW
namespace Go.Proofs.YtldmglodjafklaaGreat
open Go.RowKit Word
set_option linter.unusedVariables false
namespace Cp
theorem putD {w : World} {cb : Nat} {r : List Int} {pc : Int} (h : Cpu 107 w cb r pc) (n : Nat) (hn : n < 16) (v : Int) (v0 : 0 ≤ v) (v1 : v ≤ 4294967295) :
    Calls Tryz.prog 69 #[.pointer (some ⟨cb, 0, none⟩), .int .u8 n, .int .u32 v] w (PutPost 107 w cb r pc n v) := by
  by_cases h0 : n = 0
  · subst h0
    have H := Lib.hid h
    clear h
    go_enter Tryz.func69, Tryz.ntmps69
    go_wp2
    go_end0
    exact ⟨rfl, H.out, Mod.refl _ _⟩
  · have g0 : ((n : Int) != 0) = true := by simpa using h0
    have g1 : (n : Int) < 16 := by omega
    have hc := h.cellReg n hn
    have hf := h.thaw n
    have HS := Lib.hid (h.setReg n hn v v0 v1)
    rw [← putG_nat r n v h0] at HS
    clear h
    go_enter Tryz.func69, Tryz.ntmps69
    go_wp2
    go_end0
    exact ⟨rfl, HS.out, Mod.setCell (F := fun k => k = cb) (Mod.refl _ _) _ (.inl rfl) _⟩
theorem opD (fn a b : Int) (f0 : 0 ≤ fn) (f1 : fn ≤ 255) (h0 : 0 ≤ a) (h1 : a ≤ 4294967295) (h2 : 0 ≤ b) (h3 : b ≤ 4294967295) (w : World) : Calls Tryz.prog 70 #[.int .u8 fn, .int .u32 a, .int .u32 b] w fun e w' => e = .returned (.int .u32 (opv fn a b)) ∧ w = w' := by
  go_enter Tryz.func70, Tryz.ntmps70
  go_wp2_with (go_at_call 101; (with_reducible refine (WordRef.Op fn a b f0 f1 h0 h1 h2 h3 _).mono ?_); rintro e w1 ⟨rfl, rfl⟩)
  go_ret
  exact ⟨rfl, rfl⟩
theorem faultD (y : Int) (w : World) : Calls Tryz.prog 67 #[.int .i64 y] w fun e w' => e = .returned (.agg #[.int .u8 2, .int .u32 0, .int .i64 y]) ∧ Below w.heap.size w w' := by
  go_enter Tryz.func67, Tryz.ntmps67
  go_wp2
  refine bodyPost_ret (v := .agg #[.int .u8 2, .int .u32 0, .int .i64 y]) (by simp [results, Tryz.results67, go_sem]) rfl ⟨rfl, (Below.refl _ _).alloc (Nat.le_refl _) _⟩
/-- Does an instruction go to its number? -/
def brV (r : List Int) (x : Ins) : Bool :=
  if x.op = 40 ∨ x.op = 41 then true else if x.op = 43 then rg r x.a == rg r x.b else if x.op = 44 then rg r x.a != rg r x.b else if x.op = 45 then decide (rg r x.a < rg r x.b) else if x.op = 46 then decide (rg r x.b ≤ rg r x.a) else false
set_option maxRecDepth 100000 in
set_option maxHeartbeats 1000000 in
theorem branches {w : World} {db : Nat} {r : List Int} {pc : Int} (h : Cpu 107 w db r pc) (op : Int) (d a b : Nat) (imm : Int) (ha : a < 16) (hb : b < 16) :
    Calls Tryz.prog 72 #[.pointer (some ⟨db, 0, none⟩), Ins.val ⟨op, d, a, b, imm⟩] w fun e w' => e = .returned (.bool (brV r ⟨op, d, a, b, imm⟩)) ∧ Below w.heap.size w w' := by
  have ha1 : (a : Int) < 16 := by omega
  have hb1 : (b : Int) < 16 := by omega
  have hbW : Below w.heap.size w (w.alloc (.cells #[.int .u8 op, .int .u8 d, .int .u8 a, .int .u8 b, .int .u32 imm] 91)) := (Below.refl _ _).alloc (Nat.le_refl _) _
  have HF : Hid (Below w.heap.size w (w.alloc (.cells #[.int .u8 op, .int .u8 d, .int .u8 a, .int .u8 b, .int .u32 imm] 91)).drew) := Lib.hid hbW.drew
  have hbx : InsBox (w.alloc (.cells #[.int .u8 op, .int .u8 d, .int .u8 a, .int .u8 b, .int .u32 imm] 91)) w.heap.size op d a b imm := ⟨heap_alloc_new w _⟩
  have k0 := hbx.cells.1
  have k2 := hbx.cells.2.2.1
  have k3 := hbx.cells.2.2.2.1
  have k5 := (h.below hbW).cellReg a ha
  have k6 := (h.below hbW).cellReg b hb
  have hE : brV r ⟨op, d, a, b, imm⟩ = if op = 40 ∨ op = 41 then true else if op = 43 then rg r a == rg r b else if op = 44 then rg r a != rg r b else if op = 45 then decide (rg r a < rg r b) else if op = 46 then decide (rg r b ≤ rg r a) else false := rfl
  generalize brV r ⟨op, d, a, b, imm⟩ = E at *
  have HE := Lib.hid hE
  clear hE hbW hbx h
  generalize rg r (a : Int) = va at *
  generalize rg r (b : Int) = vb at *
  unfold Ins.val
  simp only
  by_cases hop : op = 40 ∨ op = 41 ∨ op = 43 ∨ op = 44 ∨ op = 45 ∨ op = 46
  · rcases hop with rfl | rfl | rfl | rfl | rfl | rfl
    all_goals
      go_enter Tryz.func72, Tryz.ntmps72
      go_wp2_with fail
      go_region
      go_wp2
      go_ret
      exact ⟨by rw [HE.out]; rfl, HF.out⟩
  · have f40 : (op == 40) = false := by simp; omega
    have f41 : (op == 41) = false := by simp; omega
    have f43 : (op == 43) = false := by simp; omega
    have f44 : (op == 44) = false := by simp; omega
    have f45 : (op == 45) = false := by simp; omega
    have f46 : (op == 46) = false := by simp; omega
    have hEf : E = false := by rw [HE.out, if_neg (by omega), if_neg (by omega), if_neg (by omega), if_neg (by omega), if_neg (by omega)]
    have HEf := Lib.hid hEf
    clear hop hEf
    go_enter Tryz.func72, Tryz.ntmps72
    go_wp2_with fail
    go_region
    go_wp2
    go_ret
    exact ⟨by have e := HEf.out; subst e; rfl, HF.out⟩
end Cp
end Go.Proofs.YtldmglodjafklaaGreat
