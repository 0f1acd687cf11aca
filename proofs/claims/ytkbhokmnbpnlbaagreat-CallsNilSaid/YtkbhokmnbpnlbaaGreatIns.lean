/- Instructions in plain numbers: what an op uses, which instructions may be, their bytes, and the instruction of bytes. -/
import Derived.Test.YtkbhokmnbpnlbaaGreatWordNum
import Derived.Test.YtkbhokmnbpnlbaaGreatWordPut
namespace Go.Proofs.YtkbhokmnbpnlbaaGreat
open Go.RowKit Word
set_option linter.unusedVariables false
structure Ins where
  op : Int
  d : Int
  a : Int
  b : Int
  imm : Int
namespace Ins
structure ok (x : Ins) : Prop where
  o0 : 0 ≤ x.op
  o1 : x.op ≤ 255
  d0 : 0 ≤ x.d
  d1 : x.d ≤ 255
  a0 : 0 ≤ x.a
  a1 : x.a ≤ 255
  b0 : 0 ≤ x.b
  b1 : x.b ≤ 255
  i0 : 0 ≤ x.imm
  i1 : x.imm ≤ 4294967295
def val (x : Ins) : Value := .agg #[.int .u8 x.op, .int .u8 x.d, .int .u8 x.a, .int .u8 x.b, .int .u32 x.imm]
def nix : Ins := ⟨0, 0, 0, 0, 0⟩
/-- What an op uses, as bits: 1 D, 2 A, 4 B, 8 Imm; 0: there is no such op. -/
def usesV (op : Int) : Int :=
  if 1 ≤ op ∧ op ≤ 14 then 7
  else if op = 17 ∨ op = 19 ∨ op = 22 ∨ op = 23 ∨ op = 24 ∨ op = 25 ∨ op = 26 ∨ op = 29 ∨ op = 30 ∨ op = 33 ∨ op = 34 then 11
  else if op = 32 ∨ op = 41 then 9
  else if op = 35 ∨ op = 36 ∨ op = 43 ∨ op = 44 ∨ op = 45 ∨ op = 46 then 14
  else if op = 40 ∨ op = 50 then 8
  else if op = 42 then 2
  else 0
theorem usesV_bd (op : Int) : 0 ≤ usesV op ∧ usesV op ≤ 255 := by
  unfold usesV
  repeat' split
  all_goals exact ⟨by omega, by omega⟩
def hasV (op bit : Int) : Bool := bits .and .u8 (usesV op) bit != 0
def fitV (n : Int) (uses : Bool) : Bool := n == 0 || (uses && decide (n < 16))
/-- May an instruction be? -/
def mayV (x : Ins) : Bool := usesV x.op != 0 && fitV x.d (hasV x.op 1) && fitV x.a (hasV x.op 2) && fitV x.b (hasV x.op 4) && (hasV x.op 8 || x.imm == 0)
theorem fit_lt {n : Int} {u : Bool} (h : fitV n u = true) (h0 : 0 ≤ n) : n < 16 := by
  unfold fitV at h
  simp only [Bool.or_eq_true, Bool.and_eq_true, decide_eq_true_eq, beq_iff_eq] at h
  omega
structure small (x : Ins) : Prop where
  d0 : 0 ≤ x.d
  d1 : x.d < 16
  a0 : 0 ≤ x.a
  a1 : x.a < 16
  b0 : 0 ≤ x.b
  b1 : x.b < 16
theorem may_small {x : Ins} (h : mayV x = true) (hx : x.ok) : x.small := by
  unfold mayV at h
  simp only [Bool.and_eq_true] at h
  exact ⟨hx.d0, fit_lt h.1.1.1.2 hx.d0, hx.a0, fit_lt h.1.1.2 hx.a0, hx.b0, fit_lt h.1.2 hx.b0⟩
theorem may_op {x : Ins} (h : mayV x = true) : usesV x.op ≠ 0 := by
  unfold mayV at h
  simp only [Bool.and_eq_true] at h
  simpa using h.1.1.1.1
def encL (x : Ins) : List Int := [x.op, x.d + 16 * x.a, x.b, 0] ++ putL x.imm
def encE (x : Ins) : Int := if mayV x then 0 else 2
def encS (x : Ins) : ByteArray := if mayV x then strOfNums (encL x) else ByteArray.empty
def decI (s : ByteArray) : Ins := ⟨(nums s).getD 0 0, (nums s).getD 1 0 % 16, (nums s).getD 1 0 / 16, (nums s).getD 2 0, getV ((nums s).drop 4)⟩
def decB (s : ByteArray) : Bool := s.size == 8 && (nums s).getD 3 0 == 0 && mayV (decI s)
def decE (s : ByteArray) : Int := if decB s then 0 else 7
def decX (s : ByteArray) : Ins := if decB s then decI s else nix
theorem eight {s : ByteArray} (h : s.size = 8) : ∃ a b c d e f g k : Int, nums s = [a, b, c, d, e, f, g, k] ∧ (0 ≤ a ∧ a < 256) ∧ (0 ≤ b ∧ b < 256) ∧ (0 ≤ c ∧ c < 256) ∧ (0 ≤ d ∧ d < 256) ∧ (0 ≤ e ∧ e < 256) ∧ (0 ≤ f ∧ f < 256) ∧ (0 ≤ g ∧ g < 256) ∧ (0 ≤ k ∧ k < 256) := by
  have hl : (nums s).length = 8 := by rw [nums_length, h]
  have hb := nums_bd s
  match hn : nums s, hl with
  | [a, b, c, d, e, f, g, k], _ =>
    rw [hn] at hb
    exact ⟨a, b, c, d, e, f, g, k, rfl, hb a (by simp), hb b (by simp), hb c (by simp), hb d (by simp), hb e (by simp), hb f (by simp), hb g (by simp), hb k (by simp)⟩
theorem decI_ok {s : ByteArray} (h : s.size = 8) : (decI s).ok := by
  obtain ⟨a, b, c, d, e, f, g, k, hn, ha, hb, hc, hd, he, hf, hg, hk⟩ := eight h
  unfold decI
  rw [hn]
  simp only [List.getD, List.getElem?_cons_zero, List.getElem?_cons_succ, Option.getD_some, List.drop_succ_cons, List.drop_zero, getV]
  constructor <;> simp only <;> omega
theorem decB_size {s : ByteArray} (h : decB s = true) : s.size = 8 := by
  unfold decB at h
  simp only [Bool.and_eq_true, beq_iff_eq] at h
  exact h.1.1
theorem decB_may {s : ByteArray} (h : decB s = true) : mayV (decI s) = true := by
  unfold decB at h
  simp only [Bool.and_eq_true] at h
  exact h.2
theorem decX_yes {s : ByteArray} (h : decB s = true) : decX s = decI s := by unfold decX; rw [if_pos h]
theorem decX_ok {s : ByteArray} : (decX s).ok := by
  unfold decX
  split
  · rename_i h; exact decI_ok (decB_size h)
  · constructor <;> simp [nix]
theorem put_get (a b c d : Int) (ha : 0 ≤ a ∧ a < 256) (hb : 0 ≤ b ∧ b < 256) (hc : 0 ≤ c ∧ c < 256) (hd : 0 ≤ d ∧ d < 256) : putL (getV [a, b, c, d]) = [a, b, c, d] := by
  unfold putL
  simp only [getV, List.cons.injEq, and_true]
  refine ⟨?_, ?_, ?_, ?_⟩ <;> omega
/-- What was decoded is encoded as it stood, if the fourth byte is 0. -/
theorem enc_dec {s : ByteArray} (h : s.size = 8) : encL (decI s) = nums s ↔ (nums s).getD 3 0 = 0 := by
  obtain ⟨a, b, c, d, e, f, g, k, hn, ha, hb, hc, hd, he, hf, hg, hk⟩ := eight h
  unfold decI encL
  rw [hn]
  simp only [List.getD, List.getElem?_cons_zero, List.getElem?_cons_succ, Option.getD_some, List.drop_succ_cons, List.drop_zero]
  rw [put_get e f g k he hf hg hk]
  simp only [List.cons_append, List.nil_append, List.cons.injEq, and_true]
  constructor
  · intro g; omega
  · intro g; exact ⟨trivial, by omega, trivial, by omega⟩
theorem encL_bd {x : Ins} (hx : x.ok) (h : x.small) : ∀ y, y ∈ encL x → 0 ≤ y ∧ y < 256 := by
  intro y hy
  obtain ⟨h1, h2, h3, h4, h5, h6, h7, h8, h9, h10⟩ := hx
  obtain ⟨s1, s2, s3, s4, s5, s6⟩ := h
  unfold encL putL at hy
  simp at hy
  omega
theorem encL_len (x : Ins) : (encL x).length = 8 := rfl
theorem enc_eq {s : ByteArray} (h : s.size = 8) (hm : mayV (decI s) = true) : strOfNums (encL (decI s)) = s ↔ (nums s).getD 3 0 = 0 := by
  rw [← enc_dec h]
  constructor
  · intro e
    rw [← nums_strOfNums _ (encL_bd (decI_ok h) (may_small hm (decI_ok h))), e]
  · intro e
    rw [e, strOfNums_nums]
end Ins
end Go.Proofs.YtkbhokmnbpnlbaaGreat
