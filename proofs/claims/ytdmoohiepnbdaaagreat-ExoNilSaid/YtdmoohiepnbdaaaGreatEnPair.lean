/- Pair, KeepsP, WordNum, WordSpec, WordPut, Ins, ExeW, Cpu, WordFns, WordOp, WordGetA in one text. -/
import Derived.Test.YtdmoohiepnbdaaaGreatEnPag
import Derived.Test.YtdmoohiepnbdaaaGreatEnBase
import Derived.Test.YtdmoohiepnbdaaaGreatProg
import Derived.Lib.Hide
import Derived.Laws.BytesArg
import Derived.WalkSpells
import Derived.WalkLawsBesides
import Derived.Laws.EntriesVeiled
import Derived.LoopTactic
namespace Go.Proofs.YtdmoohiepnbdaaaGreat
open Go.RowKit
set_option linter.unusedVariables false
structure SStep (w w' : World) (sb mb : Nat) (A A' : List Pg) : Prop where
  sp : Spc w' sb mb A'
  mod : Mod (Spc.foot sb mb A) w w'
  foot : ∀ k, Spc.foot sb mb A' k → Spc.foot sb mb A k ∨ w.heap.size ≤ k
theorem SStep.refl {w : World} {sb mb : Nat} {A : List Pg} (h : Spc w sb mb A) : SStep w w sb mb A A := ⟨h, Mod.refl _ _, fun _ g => .inl g⟩
namespace Sp
section
variable {w : World} {sb mb : Nat} {A : List Pg}
theorem s_map (h : Spc w sb mb A) (addr perm : Int) (h0 : 0 ≤ addr) (h1 : addr ≤ 4294967295) (p0 : 0 ≤ perm) (p1 : perm ≤ 255) :
    Calls Tryz.prog 93 #[.pointer (some ⟨sb, 0, none⟩), .int .u32 addr, .int .u8 perm] w fun e w' => ∃ blk, e = .returned (.int .i64 (mapE A addr perm)) ∧ SStep w w' sb mb A (mapA A addr blk perm) :=
  (map_any h addr perm h0 h1 p0 p1).mono fun e w' ⟨g1, g2, g3⟩ => ⟨_, g1, ⟨g2, g3.mono fun k _ hk => .inr (.inl hk), fun k hk => by
    rcases foot_mapA hk with rfl | g
    · exact .inr (Nat.le_refl _)
    · exact .inl g⟩⟩
theorem s_set (h : Spc w sb mb A) (addr : Int) (s : ByteArray) (h0 : 0 ≤ addr) (h1 : addr ≤ 4294967295) (hn : s.size ≤ 140737488355328) :
    Calls Tryz.prog 94 #[.pointer (some ⟨sb, 0, none⟩), .int .u32 addr, .string s] w fun e w' => e = .returned (.int .i64 (fitsE A addr s.size 0)) ∧ SStep w w' sb mb A (putA A addr 0 s) :=
  (set h addr s h0 h1 hn).mono fun e w' ⟨g1, g2, g3⟩ => ⟨g1, ⟨g2, g3.mono fun k _ hk => .inr (.inr hk), fun k hk => .inl (foot_putA.1 hk)⟩⟩
end
end Sp
structure Pair (w : World) (sb mb : Nat) (A : List Pg) (rb : Nat) (lv : Value) (R : List Rp) : Prop where
  sp : Spc w sb mb A
  rp : Rsp w rb lv R
  apart : ∀ k, Spc.foot sb mb A k → ¬ Rsp.foot rb lv R k
theorem Rsp.keep {w w' : World} {rb : Nat} {lv : Value} {R : List Rp} {F : Nat → Prop} (h : Rsp w rb lv R) (hm : Mod F w w') (hf : ∀ k, Rsp.foot rb lv R k → ¬ F k) : Rsp w' rb lv R := h.frame fun k hk => hm.block k (h.lt hk) (hf k hk)
section
variable {w w' : World} {sb mb rb : Nat} {A A' : List Pg} {lv lv' : Value} {R R' : List Rp}
theorem Pair.below (h : Pair w sb mb A rb lv R) (hb : Below w.heap.size w w') : Pair w' sb mb A rb lv R := ⟨h.sp.below hb fun _ hk => h.sp.lt hk, h.rp.same hb, h.apart⟩
theorem Pair.left (h : Pair w sb mb A rb lv R) (s : SStep w w' sb mb A A') : Pair w' sb mb A' rb lv R :=
  ⟨s.sp, h.rp.keep s.mod fun k hk g => h.apart k g hk, fun k hk g => by
    rcases s.foot k hk with q | q
    · exact h.apart k q g
    · have := h.rp.lt g; omega⟩
theorem Pair.right (h : Pair w sb mb A rb lv R) (s : RStep w w' rb lv R lv' R') : Pair w' sb mb A rb lv' R' :=
  ⟨h.sp.keep s.mod fun k hk g => h.apart k hk g, s.sp, fun k hk g => by
    rcases s.foot k g with q | q
    · exact h.apart k hk q
    · have := h.sp.lt hk; omega⟩
end
end Go.Proofs.YtdmoohiepnbdaaaGreat
namespace Go.Proofs.YtdmoohiepnbdaaaGreat
open Go.RowKit
set_option linter.unusedVariables false
namespace Kp
open Sp
structure Ok (A : List Pg) : Prop where
  ok : ∀ p, p ∈ A → p.ok
  up : A.Pairwise fun p q => p.addr < q.addr
theorem Ok.of {w : World} {sb mb : Nat} {A : List Pg} (h : Spc w sb mb A) : Ok A := ⟨h.ok, h.up⟩
end Kp
end Go.Proofs.YtdmoohiepnbdaaaGreat
namespace Go.Proofs.YtdmoohiepnbdaaaGreat.Word
open Go.RowKit
def getV : List Int → Int
  | [] => 0
  | x :: xs => x + 256 * getV xs
theorem getV_snoc (l : List Int) (y : Int) : getV (l ++ [y]) = getV l + y * 256 ^ l.length := by
  induction l with
  | nil => simp [getV]
  | cons x xs ih =>
    simp only [List.cons_append, getV, ih, List.length_cons, Int.pow_succ]
    rw [Int.mul_add, Int.add_assoc, Int.mul_left_comm, Int.mul_comm 256 (256 ^ xs.length)]
theorem getV_bd (l : List Int) (h : ∀ x, x ∈ l → 0 ≤ x ∧ x < 256) : 0 ≤ getV l ∧ getV l < 256 ^ l.length := by
  induction l with
  | nil => simp [getV]
  | cons x xs ih =>
    have h1 := h x (by simp)
    have h2 := ih fun y hy => h y (by simp [hy])
    simp only [getV, List.length_cons, Int.pow_succ]
    omega
theorem or_join (k : Nat) (a y : Int) (hk : k < 4) (a0 : 0 ≤ a) (a1 : a < 256 ^ k) (y0 : 0 ≤ y) (y1 : y < 256) :
    bits .or .u32 a (y % 4294967296 * 2 ^ (8 * k) % 4294967296) = a + y * 256 ^ k := by
  have e : y % 4294967296 * 2 ^ (8 * k) % 4294967296 = y * 2 ^ (8 * k) := by
    have : k = 0 ∨ k = 1 ∨ k = 2 ∨ k = 3 := by omega
    rcases this with rfl | rfl | rfl | rfl <;> simp <;> omega
  have e2 : (256 : Int) ^ k = 2 ^ (8 * k) := by rw [Int.pow_mul]; rfl
  rw [e, e2]
  rw [e2] at a1
  obtain ⟨a, rfl⟩ := Int.eq_ofNat_of_zero_le a0
  obtain ⟨y, rfl⟩ := Int.eq_ofNat_of_zero_le y0
  have hp : ((2 : Int) ^ (8 * k)) = ((2 ^ (8 * k) : Nat) : Int) := by simp
  rw [hp] at a1 ⊢
  have a1' : a < 2 ^ (8 * k) := by exact_mod_cast a1
  rw [← Int.natCast_mul, u32_or_nat a (y * 2 ^ (8 * k))]
  · have hj := nat_join (8 * k) (y * 2 ^ (8 * k)) a (Nat.mul_mod_left _ _) a1'
    rw [Nat.or_comm, hj, ← Int.natCast_add, Nat.add_comm]
  · have : k = 0 ∨ k = 1 ∨ k = 2 ∨ k = 3 := by omega
    rcases this with rfl | rfl | rfl | rfl <;> simp at a1' <;> omega
  · have : k = 0 ∨ k = 1 ∨ k = 2 ∨ k = 3 := by omega
    rcases this with rfl | rfl | rfl | rfl <;> simp <;> omega
theorem take_succ_nums (s : ByteArray) (k : Nat) (hk : k < s.size) : (nums s).take (k + 1) = (nums s).take k ++ [((s[k]'hk).toNat : Int)] := by
  have hl : k < (nums s).length := by rw [nums_length]; exact hk
  rw [List.take_succ_eq_append_getElem hl]
  congr 2
  have := nums_get s k hk
  rw [this, List.getD, List.getElem?_eq_getElem hl]
  rfl
theorem get_next (s : ByteArray) (k : Nat) (x : Int) (hk : k < s.size) (h4 : s.size ≤ 4) (hx : x = getV ((nums s).take k)) :
    bits .or .u32 x (((s[k]'hk).toNat : Int) % 4294967296 * 2 ^ (8 * k) % 4294967296) = getV ((nums s).take (k + 1)) := by
  have hb := getV_bd ((nums s).take k) fun y hy => nums_bd s y (List.mem_of_mem_take hy)
  have hl : ((nums s).take k).length = k := by rw [List.length_take, nums_length]; omega
  rw [hl] at hb
  rw [take_succ_nums s k hk, getV_snoc, hl, ← hx]
  rw [← hx] at hb
  have hy := (s[k]'hk).toNat_lt
  exact or_join k x _ (by omega) hb.1 hb.2 (by omega) (by omega)
theorem getV_take_bd (s : ByteArray) (k : Nat) (h4 : s.size ≤ 4) : 0 ≤ getV ((nums s).take k) ∧ getV ((nums s).take k) ≤ 4294967295 := by
  have hb := getV_bd ((nums s).take k) fun y hy => nums_bd s y (List.mem_of_mem_take hy)
  have hl : ((nums s).take k).length ≤ 4 := by rw [List.length_take, nums_length]; omega
  generalize ((nums s).take k).length = n at hb hl
  have : n = 0 ∨ n = 1 ∨ n = 2 ∨ n = 3 ∨ n = 4 := by omega
  rcases this with rfl | rfl | rfl | rfl | rfl <;> simp at hb <;> omega
end Go.Proofs.YtdmoohiepnbdaaaGreat.Word
namespace Go.Proofs.YtdmoohiepnbdaaaGreat.Word
open Go.RowKit
def one (c : Bool) : Int := if c then 1 else 0
def divu (a b : Int) : Int := if b = 0 then 4294967295 else a / b
def remu (a b : Int) : Int := if b = 0 then a else a % b
theorem divu_ne (a b : Int) (h : ¬ b = 0) : divu a b = a / b := by unfold divu; rw [if_neg h]
theorem remu_ne (a b : Int) (h : ¬ b = 0) : remu a b = a % b := by unfold remu; rw [if_neg h]
def opv (fn a b : Int) : Int :=
  match fn with
  | 1 => (a + b) % 4294967296
  | 2 => (a - b) % 4294967296
  | 3 => a * b % 4294967296
  | 4 => divu a b
  | 5 => remu a b
  | 6 => bits .and .u32 a b
  | 7 => bits .or .u32 a b
  | 8 => bits .xor .u32 a b
  | 9 => a * 2 ^ (b % 32).toNat % 4294967296
  | 10 => a / 2 ^ (b % 32).toNat
  | 11 => wrap32 a / 2 ^ (b % 32).toNat % 4294967296
  | 12 => one (decide (wrap32 a < wrap32 b))
  | 13 => one (decide (a < b))
  | 14 => one (a == b)
  | _ => 0
def ope (fn : Int) : Int := if 1 ≤ fn ∧ fn ≤ 14 then 0 else 2
theorem ope_high (fn : Int) (h : 15 ≤ fn) : ope fn = 2 := by unfold ope; rw [if_neg (by omega)]
theorem opv_high (fn a b : Int) (h : 15 ≤ fn) : opv fn a b = 0 := by
  unfold opv
  split <;> first | omega | rfl
end Go.Proofs.YtdmoohiepnbdaaaGreat.Word
namespace Go.Proofs.YtdmoohiepnbdaaaGreat.Word
open Go.RowKit
set_option linter.unusedVariables false
theorem text (b len cap : Nat) (xs : List Int) (hlen : xs.length = len) (w : World) (hc : ∀ i, i < len → w.cell? ⟨b, 0 + i, none⟩ = some (.int .u8 (xs.getD i 0))) :
    Calls Tryz.prog 311 #[.slice (some ⟨b, 0, none⟩) len cap] w fun e w' => e = .returned (.string (strOfNums xs)) ∧ w = w' := by
  have h := run_convert_bytes_arg (P := Tryz.prog) w 60 5 Tryz.underlying60 Tryz.underlying5 b 0 len cap xs hlen hc 9 Tryz.underlying9
  clear hc
  go_enter Tryz.func311, Tryz.ntmps311
  go_wp2
  go_ret
  exact ⟨rfl, rfl⟩
def putL (v : Int) : List Int := [v % 256, v / 256 % 256, v / 65536 % 256, v / 16777216]
def putS (v : Int) (n : Nat) : ByteArray := strOfNums ((putL v).take n)
theorem put4_ok (v : Int) (h0 : 0 ≤ v) (h1 : v ≤ 4294967295) (w : World) :
    Calls Tryz.prog 263 #[.int .u32 v, .int .i64 4] w fun e w' => e = .returned (.tuple #[.string (putS v 4), .int .i64 0]) ∧ Below w.heap.size w w' := by
  have hc : ∀ i, i < 4 → (w.alloc (.cells #[.int .u8 (v % 256), .int .u8 (v / 256 % 256), .int .u8 (v / 65536 % 256), .int .u8 (v / 16777216)] 5)).cell? ⟨w.heap.size, 0 + i, none⟩ = some (.int .u8 (((putL v).take 4).getD i 0)) := by
    intro i hi
    rw [cells4]
    have : i = 0 ∨ i = 1 ∨ i = 2 ∨ i = 3 := by omega
    rcases this with rfl | rfl | rfl | rfl <;> first | omega | rfl
  have H := Lib.hid hc
  clear hc
  go_enter Tryz.func263, Tryz.ntmps263
  go_wp2_with (go_at_call 311; refine (text _ 4 4 ((putL v).take 4) rfl _ H.out).mono ?_; rintro e w1 ⟨rfl, rfl⟩)
  go_ret2
  exact ⟨rfl, by repeat (first | exact Below.refl _ _ | apply Below.drew | refine Below.setCell ?_ (by simp) _ | refine Below.alloc ?_ (by simp) _)⟩
end Go.Proofs.YtdmoohiepnbdaaaGreat.Word
namespace Go.Proofs.YtdmoohiepnbdaaaGreat
open Go.RowKit Word
set_option linter.unusedVariables false
structure Ins where
  op : Int
  d : Int
  a : Int
  b : Int
  imm : Int
namespace Ins
structure ok (x : Ins) : Prop where
  o0 : 0 ≤ x.op
  o1 : x.op ≤ 255
  d0 : 0 ≤ x.d
  d1 : x.d ≤ 255
  a0 : 0 ≤ x.a
  a1 : x.a ≤ 255
  b0 : 0 ≤ x.b
  b1 : x.b ≤ 255
  i0 : 0 ≤ x.imm
  i1 : x.imm ≤ 4294967295
def val (x : Ins) : Value := .agg #[.int .u8 x.op, .int .u8 x.d, .int .u8 x.a, .int .u8 x.b, .int .u32 x.imm]
def nix : Ins := ⟨0, 0, 0, 0, 0⟩
def usesV (op : Int) : Int :=
  if 1 ≤ op ∧ op ≤ 14 then 7
  else if op = 17 ∨ op = 19 ∨ op = 22 ∨ op = 23 ∨ op = 24 ∨ op = 25 ∨ op = 26 ∨ op = 29 ∨ op = 30 ∨ op = 33 ∨ op = 34 then 11
  else if op = 32 ∨ op = 41 then 9
  else if op = 35 ∨ op = 36 ∨ op = 43 ∨ op = 44 ∨ op = 45 ∨ op = 46 then 14
  else if op = 40 ∨ op = 50 then 8
  else if op = 42 then 2
  else 0
theorem usesV_bd (op : Int) : 0 ≤ usesV op ∧ usesV op ≤ 255 := by
  unfold usesV
  repeat' split
  all_goals exact ⟨by omega, by omega⟩
def hasV (op bit : Int) : Bool := bits .and .u8 (usesV op) bit != 0
def fitV (n : Int) (uses : Bool) : Bool := n == 0 || (uses && decide (n < 16))
def mayV (x : Ins) : Bool := usesV x.op != 0 && fitV x.d (hasV x.op 1) && fitV x.a (hasV x.op 2) && fitV x.b (hasV x.op 4) && (hasV x.op 8 || x.imm == 0)
theorem fit_lt {n : Int} {u : Bool} (h : fitV n u = true) (h0 : 0 ≤ n) : n < 16 := by
  unfold fitV at h
  simp only [Bool.or_eq_true, Bool.and_eq_true, decide_eq_true_eq, beq_iff_eq] at h
  omega
structure small (x : Ins) : Prop where
  d0 : 0 ≤ x.d
  d1 : x.d < 16
  a0 : 0 ≤ x.a
  a1 : x.a < 16
  b0 : 0 ≤ x.b
  b1 : x.b < 16
theorem may_small {x : Ins} (h : mayV x = true) (hx : x.ok) : x.small := by
  unfold mayV at h
  simp only [Bool.and_eq_true] at h
  exact ⟨hx.d0, fit_lt h.1.1.1.2 hx.d0, hx.a0, fit_lt h.1.1.2 hx.a0, hx.b0, fit_lt h.1.2 hx.b0⟩
theorem may_op {x : Ins} (h : mayV x = true) : usesV x.op ≠ 0 := by
  unfold mayV at h
  simp only [Bool.and_eq_true] at h
  simpa using h.1.1.1.1
def encL (x : Ins) : List Int := [x.op, x.d + 16 * x.a, x.b, 0] ++ putL x.imm
def encE (x : Ins) : Int := if mayV x then 0 else 2
def encS (x : Ins) : ByteArray := if mayV x then strOfNums (encL x) else ByteArray.empty
def decI (s : ByteArray) : Ins := ⟨(nums s).getD 0 0, (nums s).getD 1 0 % 16, (nums s).getD 1 0 / 16, (nums s).getD 2 0, getV ((nums s).drop 4)⟩
def decB (s : ByteArray) : Bool := s.size == 8 && (nums s).getD 3 0 == 0 && mayV (decI s)
def decE (s : ByteArray) : Int := if decB s then 0 else 7
def decX (s : ByteArray) : Ins := if decB s then decI s else nix
theorem eight {s : ByteArray} (h : s.size = 8) : ∃ a b c d e f g k : Int, nums s = [a, b, c, d, e, f, g, k] ∧ (0 ≤ a ∧ a < 256) ∧ (0 ≤ b ∧ b < 256) ∧ (0 ≤ c ∧ c < 256) ∧ (0 ≤ d ∧ d < 256) ∧ (0 ≤ e ∧ e < 256) ∧ (0 ≤ f ∧ f < 256) ∧ (0 ≤ g ∧ g < 256) ∧ (0 ≤ k ∧ k < 256) := by
  have hl : (nums s).length = 8 := by rw [nums_length, h]
  have hb := nums_bd s
  match hn : nums s, hl with
  | [a, b, c, d, e, f, g, k], _ =>
    rw [hn] at hb
    exact ⟨a, b, c, d, e, f, g, k, rfl, hb a (by simp), hb b (by simp), hb c (by simp), hb d (by simp), hb e (by simp), hb f (by simp), hb g (by simp), hb k (by simp)⟩
theorem decI_ok {s : ByteArray} (h : s.size = 8) : (decI s).ok := by
  obtain ⟨a, b, c, d, e, f, g, k, hn, ha, hb, hc, hd, he, hf, hg, hk⟩ := eight h
  unfold decI
  rw [hn]
  simp only [List.getD, List.getElem?_cons_zero, List.getElem?_cons_succ, Option.getD_some, List.drop_succ_cons, List.drop_zero, getV]
  constructor <;> simp only <;> omega
theorem decB_size {s : ByteArray} (h : decB s = true) : s.size = 8 := by
  unfold decB at h
  simp only [Bool.and_eq_true, beq_iff_eq] at h
  exact h.1.1
theorem decB_may {s : ByteArray} (h : decB s = true) : mayV (decI s) = true := by
  unfold decB at h
  simp only [Bool.and_eq_true] at h
  exact h.2
theorem encL_len (x : Ins) : (encL x).length = 8 := rfl
end Ins
end Go.Proofs.YtdmoohiepnbdaaaGreat
namespace Go.Proofs.YtdmoohiepnbdaaaGreat
open Go.RowKit Word
set_option linter.unusedVariables false
namespace Cp
structure Regs (r : List Int) : Prop where
  len : r.length = 16
  bd : ∀ x, x ∈ r → 0 ≤ x ∧ x ≤ 4294967295
def rg (r : List Int) (n : Int) : Int := r.getD n.toNat 0
theorem rg_bd {r : List Int} (h : Regs r) (n : Int) : 0 ≤ rg r n ∧ rg r n ≤ 4294967295 := by
  unfold rg
  by_cases hn : n.toNat < r.length
  · rw [List.getD, List.getElem?_eq_getElem hn]
    exact h.bd _ (List.getElem_mem hn)
  · rw [List.getD, List.getElem?_eq_none (by omega)]
    exact ⟨by simp, by simp⟩
def putG (r : List Int) (n v : Int) : List Int := if n = 0 then r else r.set n.toNat v
theorem opv_bd (fn a b : Int) (a0 : 0 ≤ a) (a1 : a ≤ 4294967295) (b0 : 0 ≤ b) (b1 : b ≤ 4294967295) : 0 ≤ opv fn a b ∧ opv fn a b ≤ 4294967295 := by
  have bb : ∀ o, 0 ≤ bits o .u32 a b ∧ bits o .u32 a b ≤ 4294967295 := fun o => bits_within o .u32 a b
  have oo : ∀ c, 0 ≤ Word.one c ∧ Word.one c ≤ 4294967295 := fun c => by unfold Word.one; split <;> exact ⟨by omega, by omega⟩
  unfold opv
  split
  · omega
  · omega
  · omega
  · unfold divu
    split
    · omega
    · rename_i h
      exact ⟨Int.ediv_nonneg a0 b0, Int.le_trans (Int.ediv_le_self _ a0) a1⟩
  · unfold remu
    split
    · omega
    · rename_i h
      have := Int.emod_nonneg a h
      have := Int.emod_lt_of_pos a (show 0 < b by omega)
      omega
  · exact bb _
  · exact bb _
  · exact bb _
  · omega
  · exact ⟨Int.ediv_nonneg a0 (Int.le_of_lt (Int.pow_pos (by omega))), Int.le_trans (Int.ediv_le_self _ a0) a1⟩
  · omega
  · exact oo _
  · exact oo _
  · exact oo _
  · omega
structure Out where
  kind : Int
  num : Int
  why : Int
  r : List Int
  pc : Int
  A : List Pg
def Out.stop (o : Out) : Value := .agg #[.int .u8 o.kind, .int .u32 o.num, .int .i64 o.why]
def next (pc : Int) : Int := (pc + 8) % 4294967296
def faults (A : List Pg) (r : List Int) (pc why : Int) : Out := ⟨2, 0, why, r, pc, A⟩
def goes (A : List Pg) (r : List Int) (pc : Int) : Out := ⟨0, 0, 0, r, pc, A⟩
def addr (r : List Int) (x : Ins) : Int := (rg r x.a + x.imm) % 4294967296
def loads (A : List Pg) (r : List Int) (pc : Int) (x : Ins) (n : Nat) : Out :=
  if Sp.fitsB A (addr r x) n 1 then goes A (putG r x.d (getV (Sp.getL A (addr r x) n))) (next pc) else faults A r pc 50
def stores (A : List Pg) (r : List Int) (pc : Int) (x : Ins) (n : Nat) : Out :=
  if Sp.fitsB A (addr r x) n 2 then goes (putN A (addr r x) ((putL (rg r x.b)).take n) n) r (next pc) else faults A r pc 50
def br (c : Bool) (a b : Int) : Int := if c then a else b
def exe (A : List Pg) (r : List Int) (pc : Int) (x : Ins) : Out :=
  if x.op ≤ 14 then goes A (putG r x.d (opv x.op (rg r x.a) (rg r x.b))) (next pc)
  else if x.op ≤ 30 then goes A (putG r x.d (opv (x.op - 16) (rg r x.a) x.imm)) (next pc)
  else if x.op = 32 then goes A (putG r x.d x.imm) (next pc)
  else if x.op = 33 then loads A r pc x 1
  else if x.op = 34 then loads A r pc x 4
  else if x.op = 35 then stores A r pc x 1
  else if x.op = 36 then stores A r pc x 4
  else if x.op = 40 then goes A r x.imm
  else if x.op = 41 then goes A (putG r x.d (next pc)) x.imm
  else if x.op = 42 then goes A r (rg r x.a)
  else if x.op = 43 then goes A r (br (rg r x.a == rg r x.b) x.imm (next pc))
  else if x.op = 44 then goes A r (br (rg r x.a != rg r x.b) x.imm (next pc))
  else if x.op = 45 then goes A r (br (decide (rg r x.a < rg r x.b)) x.imm (next pc))
  else if x.op = 46 then goes A r (br (decide (rg r x.b ≤ rg r x.a)) x.imm (next pc))
  else ⟨1, x.imm, 0, r, next pc, A⟩
def stp (A : List Pg) (r : List Int) (pc : Int) : Out :=
  if Sp.fitsB A pc 8 4 then
    (if Ins.decB (strOfNums (Sp.getL A pc 8)) then exe A r pc (Ins.decI (strOfNums (Sp.getL A pc 8))) else faults A r pc 7)
  else faults A r pc 50
def run (A : List Pg) (r : List Int) (pc : Int) : Nat → Out × Nat
  | 0 => (goes A r pc, 0)
  | n + 1 =>
    let o := stp A r pc
    if o.kind = 0 then (let q := run o.A o.r o.pc n; (q.1, q.2 + 1)) else if o.kind = 2 then (o, 0) else (o, 1)
end Cp
end Go.Proofs.YtdmoohiepnbdaaaGreat
namespace Go.Proofs.YtdmoohiepnbdaaaGreat
open Go.RowKit Word
set_option linter.unusedVariables false
namespace Cp
theorem next_bd (pc : Int) : 0 ≤ next pc ∧ next pc ≤ 4294967295 := by unfold next; omega
theorem byteAt_bd {A : List Pg} (hok : ∀ p, p ∈ A → p.ok) (x : Int) : 0 ≤ Sp.byteAt A x ∧ Sp.byteAt A x < 256 := by
  unfold Sp.byteAt
  cases hp : pageAt A x with
  | none => simp
  | some p =>
    have hm := (atAddr_mem hp).1
    have h := hok p hm
    have : (x % 256).toNat < p.bytes.length := by rw [h.len]; omega
    show 0 ≤ p.bytes.getD (x % 256).toNat 0 ∧ p.bytes.getD (x % 256).toNat 0 < 256
    rw [List.getD, List.getElem?_eq_getElem this]
    exact h.bd _ (List.getElem_mem this)
theorem getL_bd {A : List Pg} (hok : ∀ p, p ∈ A → p.ok) (x : Int) (n : Nat) : ∀ y, y ∈ Sp.getL A x n → 0 ≤ y ∧ y < 256 := by
  intro y hy
  unfold Sp.getL at hy
  obtain ⟨k, _, rfl⟩ := List.mem_map.1 hy
  exact byteAt_bd hok _
theorem getV_small {l : List Int} (h : ∀ x, x ∈ l → 0 ≤ x ∧ x < 256) (hl : l.length ≤ 4) : 0 ≤ getV l ∧ getV l ≤ 4294967295 := by
  have := getV_bd l h
  have e : (256 : Int) ^ l.length ≤ 4294967296 := by
    have : l.length = 0 ∨ l.length = 1 ∨ l.length = 2 ∨ l.length = 3 ∨ l.length = 4 := by omega
    rcases this with g | g | g | g | g <;> rw [g] <;> decide
  omega
end Cp
end Go.Proofs.YtdmoohiepnbdaaaGreat
namespace Go.Proofs.YtdmoohiepnbdaaaGreat
open Go.RowKit Word
set_option linter.unusedVariables false
namespace Cp
def cells (r : List Int) (pc : Int) : Array Value := (r.map (Value.int .u32) ++ [Value.int .u32 pc]).toArray
end Cp
structure Cpu (t : TypeId) (w : World) (cb : Nat) (r : List Int) (pc : Int) : Prop where
  blk : w.heap[cb]? = some (.cells (Cp.cells r pc) t (0, 0))
  regs : Cp.Regs r
  p0 : 0 ≤ pc
  p1 : pc ≤ 4294967295
namespace Cpu
variable {t : TypeId} {w w' : World} {cb : Nat} {r : List Int} {pc : Int}
theorem lt (h : Cpu t w cb r pc) : cb < w.heap.size := lt_of_block h.blk
theorem frame (h : Cpu t w cb r pc) (e : w'.heap[cb]? = w.heap[cb]?) : Cpu t w' cb r pc := ⟨e.trans h.blk, h.regs, h.p0, h.p1⟩
theorem below (h : Cpu t w cb r pc) (hb : Below w.heap.size w w') : Cpu t w' cb r pc := h.frame (hb.block _ h.lt)
theorem keep {F : Nat → Prop} (h : Cpu t w cb r pc) (hm : Mod F w w') (hf : ¬ F cb) : Cpu t w' cb r pc := h.frame (hm.block _ h.lt hf)
theorem size : (Cp.cells r pc).size = r.length + 1 := by simp [Cp.cells]
theorem cellReg (h : Cpu t w cb r pc) (n : Nat) (hn : n < 16) : w.cell? ⟨cb, n, none⟩ = some (.int .u32 (Cp.rg r n)) := by
  unfold World.cell?
  rw [h.blk]
  have hl := h.regs.len
  have : n < r.length := by omega
  simp [Cp.cells, Cp.rg, List.getElem?_append, this]
theorem cellPc (h : Cpu t w cb r pc) : w.cell? ⟨cb, 16, none⟩ = some (.int .u32 pc) := by
  unfold World.cell?
  rw [h.blk]
  have hl := h.regs.len
  simp [Cp.cells, hl]
theorem thaw (h : Cpu t w cb r pc) (n : Nat) : w.frozen? ⟨cb, n, none⟩ = false := by
  unfold World.frozen?
  rw [h.blk]
  rfl
theorem setReg (h : Cpu t w cb r pc) (n : Nat) (hn : n < 16) (v : Int) (v0 : 0 ≤ v) (v1 : v ≤ 4294967295) : Cpu t (w.setCell ⟨cb, n, none⟩ (.int .u32 v)) cb (r.set n v) pc := by
  refine ⟨?_, ⟨by rw [List.length_set, h.regs.len], fun x hx => ?_⟩, h.p0, h.p1⟩
  · rw [setCell_eq_setRow _ _ _ _ _ _ _ h.blk]
    have := setRow_heap w cb _ ((Cp.cells r pc).setIfInBounds n (.int .u32 v)) _ _ h.blk
    rw [this]
    have hl := h.regs.len
    have hn2 : n < r.length := by omega
    congr 2
    unfold Cp.cells
    apply Array.ext'
    simp only [Array.toList_setIfInBounds]
    rw [List.set_append_left _ _ (by simpa using hn2), List.map_set]
  · rcases List.mem_or_eq_of_mem_set hx with g | rfl
    · exact h.regs.bd x g
    · exact ⟨v0, v1⟩
theorem setPc (h : Cpu t w cb r pc) (v : Int) (v0 : 0 ≤ v) (v1 : v ≤ 4294967295) : Cpu t (w.setCell ⟨cb, 16, none⟩ (.int .u32 v)) cb r v := by
  refine ⟨?_, h.regs, v0, v1⟩
  rw [setCell_eq_setRow _ _ _ _ _ _ _ h.blk]
  have := setRow_heap w cb _ ((Cp.cells r pc).setIfInBounds 16 (.int .u32 v)) _ _ h.blk
  rw [this]
  have hl := h.regs.len
  congr 2
  unfold Cp.cells
  apply Array.ext'
  simp only [Array.toList_setIfInBounds]
  rw [List.set_append_right _ _ (by simp [hl])]
  simp [hl]
end Cpu
namespace Cp
theorem putG_nat (r : List Int) (n : Nat) (v : Int) (h : ¬ n = 0) : putG r n v = r.set n v := by
  unfold putG
  rw [if_neg (by omega), Int.toNat_natCast]
def PutPost (t : TypeId) (w : World) (cb : Nat) (r : List Int) (pc n v : Int) (e : Ending) (w' : World) : Prop := e = .returned (.tuple #[]) ∧ Cpu t w' cb (putG r n v) pc ∧ Mod (fun k => k = cb) w w'
theorem put {w : World} {cb : Nat} {r : List Int} {pc : Int} (h : Cpu 281 w cb r pc) (n : Nat) (hn : n < 16) (v : Int) (v0 : 0 ≤ v) (v1 : v ≤ 4294967295) :
    Calls Tryz.prog 168 #[.pointer (some ⟨cb, 0, none⟩), .int .u8 n, .int .u32 v] w (PutPost 281 w cb r pc n v) := by
  by_cases h0 : n = 0
  · subst h0
    have H := Lib.hid h
    clear h
    go_enter Tryz.func168, Tryz.ntmps168
    go_wp2
    go_end0
    exact ⟨rfl, H.out, Mod.refl _ _⟩
  · have g0 : (0 : Int) < n := by omega
    have g1 : (n : Int) < 16 := by omega
    have hc := h.cellReg n hn
    have hf := h.thaw n
    have HS := Lib.hid (h.setReg n hn v v0 v1)
    rw [← putG_nat r n v h0] at HS
    clear h
    go_enter Tryz.func168, Tryz.ntmps168
    go_wp2
    go_end0
    exact ⟨rfl, HS.out, Mod.setCell (F := fun k => k = cb) (Mod.refl _ _) _ (.inl rfl) _⟩
end Cp
end Go.Proofs.YtdmoohiepnbdaaaGreat
namespace Go.Proofs.YtdmoohiepnbdaaaGreat.Word
open Go.RowKit
set_option linter.unusedVariables false
theorem bit (c : Bool) (w : World) : Calls Tryz.prog 386 #[.bool c] w fun e w' => e = .returned (.int .u32 (one c)) ∧ w = w' := by
  cases c
  all_goals
    go_enter Tryz.func386, Tryz.ntmps386
    go_wp2
    go_ret
    exact ⟨rfl, rfl⟩
theorem add (a b : Int) (h0 : 0 ≤ a) (h1 : a ≤ 4294967295) (h2 : 0 ≤ b) (h3 : b ≤ 4294967295) (w : World) : Calls Tryz.prog 350 #[.int .u32 a, .int .u32 b] w fun e w' => e = .returned (.int .u32 ((a + b) % 4294967296)) ∧ w = w' := by
  go_enter Tryz.func350, Tryz.ntmps350
  go_wp2
  go_ret
  exact ⟨rfl, rfl⟩
theorem sub (a b : Int) (h0 : 0 ≤ a) (h1 : a ≤ 4294967295) (h2 : 0 ≤ b) (h3 : b ≤ 4294967295) (w : World) : Calls Tryz.prog 351 #[.int .u32 a, .int .u32 b] w fun e w' => e = .returned (.int .u32 ((a - b) % 4294967296)) ∧ w = w' := by
  go_enter Tryz.func351, Tryz.ntmps351
  go_wp2
  go_ret
  exact ⟨rfl, rfl⟩
theorem mul (a b : Int) (h0 : 0 ≤ a) (h1 : a ≤ 4294967295) (h2 : 0 ≤ b) (h3 : b ≤ 4294967295) (w : World) : Calls Tryz.prog 352 #[.int .u32 a, .int .u32 b] w fun e w' => e = .returned (.int .u32 (a * b % 4294967296)) ∧ w = w' := by
  go_enter Tryz.func352, Tryz.ntmps352
  go_wp2
  go_ret
  exact ⟨rfl, rfl⟩
theorem div (a b : Int) (h0 : 0 ≤ a) (h1 : a ≤ 4294967295) (h2 : 0 ≤ b) (h3 : b ≤ 4294967295) (w : World) : Calls Tryz.prog 353 #[.int .u32 a, .int .u32 b] w fun e w' => e = .returned (.int .u32 (divu a b)) ∧ w = w' := by
  by_cases hb : b = 0
  · subst hb
    go_enter Tryz.func353, Tryz.ntmps353
    go_wp2
    go_ret
    exact ⟨rfl, rfl⟩
  · have hv := Lib.hid (divu_ne a b hb)
    go_enter Tryz.func353, Tryz.ntmps353
    go_wp2
    go_ret
    rw [hv.out]
    exact ⟨rfl, rfl⟩
theorem rem (a b : Int) (h0 : 0 ≤ a) (h1 : a ≤ 4294967295) (h2 : 0 ≤ b) (h3 : b ≤ 4294967295) (w : World) : Calls Tryz.prog 354 #[.int .u32 a, .int .u32 b] w fun e w' => e = .returned (.int .u32 (remu a b)) ∧ w = w' := by
  by_cases hb : b = 0
  · subst hb
    go_enter Tryz.func354, Tryz.ntmps354
    go_wp2
    go_ret
    exact ⟨rfl, rfl⟩
  · have hv := Lib.hid (remu_ne a b hb)
    go_enter Tryz.func354, Tryz.ntmps354
    go_wp2
    go_ret
    rw [hv.out]
    exact ⟨rfl, rfl⟩
theorem and (a b : Int) (h0 : 0 ≤ a) (h1 : a ≤ 4294967295) (h2 : 0 ≤ b) (h3 : b ≤ 4294967295) (w : World) : Calls Tryz.prog 355 #[.int .u32 a, .int .u32 b] w fun e w' => e = .returned (.int .u32 (bits .and .u32 a b)) ∧ w = w' := by
  go_enter Tryz.func355, Tryz.ntmps355
  go_wp2
  go_ret
  exact ⟨rfl, rfl⟩
theorem or (a b : Int) (h0 : 0 ≤ a) (h1 : a ≤ 4294967295) (h2 : 0 ≤ b) (h3 : b ≤ 4294967295) (w : World) : Calls Tryz.prog 356 #[.int .u32 a, .int .u32 b] w fun e w' => e = .returned (.int .u32 (bits .or .u32 a b)) ∧ w = w' := by
  go_enter Tryz.func356, Tryz.ntmps356
  go_wp2
  go_ret
  exact ⟨rfl, rfl⟩
theorem xor (a b : Int) (h0 : 0 ≤ a) (h1 : a ≤ 4294967295) (h2 : 0 ≤ b) (h3 : b ≤ 4294967295) (w : World) : Calls Tryz.prog 357 #[.int .u32 a, .int .u32 b] w fun e w' => e = .returned (.int .u32 (bits .xor .u32 a b)) ∧ w = w' := by
  go_enter Tryz.func357, Tryz.ntmps357
  go_wp2
  go_ret
  exact ⟨rfl, rfl⟩
theorem shl (a b : Int) (h0 : 0 ≤ a) (h1 : a ≤ 4294967295) (h2 : 0 ≤ b) (h3 : b ≤ 4294967295) (w : World) : Calls Tryz.prog 358 #[.int .u32 a, .int .u32 b] w fun e w' => e = .returned (.int .u32 (a * 2 ^ (b % 32).toNat % 4294967296)) ∧ w = w' := by
  go_enter Tryz.func358, Tryz.ntmps358
  go_wp2
  go_ret
  exact ⟨rfl, rfl⟩
theorem shr (a b : Int) (h0 : 0 ≤ a) (h1 : a ≤ 4294967295) (h2 : 0 ≤ b) (h3 : b ≤ 4294967295) (w : World) : Calls Tryz.prog 359 #[.int .u32 a, .int .u32 b] w fun e w' => e = .returned (.int .u32 (a / 2 ^ (b % 32).toNat)) ∧ w = w' := by
  go_enter Tryz.func359, Tryz.ntmps359
  go_wp2
  go_ret
  exact ⟨rfl, rfl⟩
theorem sar (a b : Int) (h0 : 0 ≤ a) (h1 : a ≤ 4294967295) (h2 : 0 ≤ b) (h3 : b ≤ 4294967295) (w : World) : Calls Tryz.prog 360 #[.int .u32 a, .int .u32 b] w fun e w' => e = .returned (.int .u32 (wrap32 a / 2 ^ (b % 32).toNat % 4294967296)) ∧ w = w' := by
  go_enter Tryz.func360, Tryz.ntmps360
  go_wp2
  go_ret
  exact ⟨rfl, rfl⟩
theorem slt (a b : Int) (h0 : 0 ≤ a) (h1 : a ≤ 4294967295) (h2 : 0 ≤ b) (h3 : b ≤ 4294967295) (w : World) : Calls Tryz.prog 361 #[.int .u32 a, .int .u32 b] w fun e w' => e = .returned (.int .u32 (one (decide (wrap32 a < wrap32 b)))) ∧ w = w' := by
  go_enter Tryz.func361, Tryz.ntmps361
  go_wp2_with (go_at_call 386; refine (bit _ _).mono ?_; rintro e w' ⟨rfl, rfl⟩)
  go_ret
  exact ⟨rfl, rfl⟩
theorem sltu (a b : Int) (h0 : 0 ≤ a) (h1 : a ≤ 4294967295) (h2 : 0 ≤ b) (h3 : b ≤ 4294967295) (w : World) : Calls Tryz.prog 362 #[.int .u32 a, .int .u32 b] w fun e w' => e = .returned (.int .u32 (one (decide (a < b)))) ∧ w = w' := by
  go_enter Tryz.func362, Tryz.ntmps362
  go_wp2_with (go_at_call 386; refine (bit _ _).mono ?_; rintro e w' ⟨rfl, rfl⟩)
  go_ret
  exact ⟨rfl, rfl⟩
theorem seq (a b : Int) (h0 : 0 ≤ a) (h1 : a ≤ 4294967295) (h2 : 0 ≤ b) (h3 : b ≤ 4294967295) (w : World) : Calls Tryz.prog 363 #[.int .u32 a, .int .u32 b] w fun e w' => e = .returned (.int .u32 (one (a == b))) ∧ w = w' := by
  go_enter Tryz.func363, Tryz.ntmps363
  go_wp2_with (go_at_call 386; refine (bit _ _).mono ?_; rintro e w' ⟨rfl, rfl⟩)
  go_ret
  exact ⟨rfl, rfl⟩
end Go.Proofs.YtdmoohiepnbdaaaGreat.Word
namespace Go.Proofs.YtdmoohiepnbdaaaGreat.Word
open Go.RowKit
set_option linter.unusedVariables false
theorem nilq (f : Nat) (w : World) : (binOp .eql 476 (.func (.func f) #[] #[]) .nilFunc).run Tryz.prog w = .ok (.bool false) w := by kernel_rfl
theorem nilq0 (w : World) : (binOp .eql 476 .nilFunc .nilFunc).run Tryz.prog w = .ok (.bool true) w := by kernel_rfl
theorem op15 (fn a b : Int) (hf : 15 ≤ fn) (hf2 : fn ≤ 255) (h0 : 0 ≤ a) (h1 : a ≤ 4294967295) (h2 : 0 ≤ b) (h3 : b ≤ 4294967295) (w : World) : Calls Tryz.prog 316 #[.int .u8 fn, .int .u32 a, .int .u32 b] w fun e w' => e = .returned (.tuple #[.int .u32 0, .int .i64 2]) ∧ Below w.heap.size w w' := by
  go_enter Tryz.func316, Tryz.ntmps316
  go_wp2
  go_ret2
  exact ⟨rfl, by repeat (first | exact Below.refl _ _ | apply Below.drew | refine Below.setCell ?_ (by simp) _ | refine Below.alloc ?_ (by simp) _)⟩
theorem op0 (a b : Int) (h0 : 0 ≤ a) (h1 : a ≤ 4294967295) (h2 : 0 ≤ b) (h3 : b ≤ 4294967295) (w : World) : Calls Tryz.prog 316 #[.int .u8 0, .int .u32 a, .int .u32 b] w fun e w' => e = .returned (.tuple #[.int .u32 0, .int .i64 2]) ∧ Below w.heap.size w w' := by
  have hq := nilq0
  go_enter Tryz.func316, Tryz.ntmps316
  go_wp2
  go_ret2
  exact ⟨rfl, by repeat (first | exact Below.refl _ _ | apply Below.drew | refine Below.setCell ?_ (by simp) _ | refine Below.alloc ?_ (by simp) _)⟩
theorem op1 (a b : Int) (h0 : 0 ≤ a) (h1 : a ≤ 4294967295) (h2 : 0 ≤ b) (h3 : b ≤ 4294967295) (w : World) : Calls Tryz.prog 316 #[.int .u8 1, .int .u32 a, .int .u32 b] w fun e w' => e = .returned (.tuple #[.int .u32 ((a + b) % 4294967296), .int .i64 0]) ∧ Below w.heap.size w w' := by
  have hq := nilq
  go_enter Tryz.func316, Tryz.ntmps316
  go_wp2_with (go_at_call 350; refine (add _ _ h0 h1 h2 h3 _).mono ?_; rintro e w' ⟨rfl, rfl⟩)
  go_ret2
  exact ⟨rfl, by repeat (first | exact Below.refl _ _ | apply Below.drew | refine Below.setCell ?_ (by simp) _ | refine Below.alloc ?_ (by simp) _)⟩
theorem op2 (a b : Int) (h0 : 0 ≤ a) (h1 : a ≤ 4294967295) (h2 : 0 ≤ b) (h3 : b ≤ 4294967295) (w : World) : Calls Tryz.prog 316 #[.int .u8 2, .int .u32 a, .int .u32 b] w fun e w' => e = .returned (.tuple #[.int .u32 ((a - b) % 4294967296), .int .i64 0]) ∧ Below w.heap.size w w' := by
  have hq := nilq
  go_enter Tryz.func316, Tryz.ntmps316
  go_wp2_with (go_at_call 351; refine (sub _ _ h0 h1 h2 h3 _).mono ?_; rintro e w' ⟨rfl, rfl⟩)
  go_ret2
  exact ⟨rfl, by repeat (first | exact Below.refl _ _ | apply Below.drew | refine Below.setCell ?_ (by simp) _ | refine Below.alloc ?_ (by simp) _)⟩
theorem op3 (a b : Int) (h0 : 0 ≤ a) (h1 : a ≤ 4294967295) (h2 : 0 ≤ b) (h3 : b ≤ 4294967295) (w : World) : Calls Tryz.prog 316 #[.int .u8 3, .int .u32 a, .int .u32 b] w fun e w' => e = .returned (.tuple #[.int .u32 (a * b % 4294967296), .int .i64 0]) ∧ Below w.heap.size w w' := by
  have hq := nilq
  go_enter Tryz.func316, Tryz.ntmps316
  go_wp2_with (go_at_call 352; refine (mul _ _ h0 h1 h2 h3 _).mono ?_; rintro e w' ⟨rfl, rfl⟩)
  go_ret2
  exact ⟨rfl, by repeat (first | exact Below.refl _ _ | apply Below.drew | refine Below.setCell ?_ (by simp) _ | refine Below.alloc ?_ (by simp) _)⟩
theorem op4 (a b : Int) (h0 : 0 ≤ a) (h1 : a ≤ 4294967295) (h2 : 0 ≤ b) (h3 : b ≤ 4294967295) (w : World) : Calls Tryz.prog 316 #[.int .u8 4, .int .u32 a, .int .u32 b] w fun e w' => e = .returned (.tuple #[.int .u32 (divu a b), .int .i64 0]) ∧ Below w.heap.size w w' := by
  have hq := nilq
  go_enter Tryz.func316, Tryz.ntmps316
  go_wp2_with (go_at_call 353; refine (div _ _ h0 h1 h2 h3 _).mono ?_; rintro e w' ⟨rfl, rfl⟩)
  go_ret2
  exact ⟨rfl, by repeat (first | exact Below.refl _ _ | apply Below.drew | refine Below.setCell ?_ (by simp) _ | refine Below.alloc ?_ (by simp) _)⟩
theorem op5 (a b : Int) (h0 : 0 ≤ a) (h1 : a ≤ 4294967295) (h2 : 0 ≤ b) (h3 : b ≤ 4294967295) (w : World) : Calls Tryz.prog 316 #[.int .u8 5, .int .u32 a, .int .u32 b] w fun e w' => e = .returned (.tuple #[.int .u32 (remu a b), .int .i64 0]) ∧ Below w.heap.size w w' := by
  have hq := nilq
  go_enter Tryz.func316, Tryz.ntmps316
  go_wp2_with (go_at_call 354; refine (rem _ _ h0 h1 h2 h3 _).mono ?_; rintro e w' ⟨rfl, rfl⟩)
  go_ret2
  exact ⟨rfl, by repeat (first | exact Below.refl _ _ | apply Below.drew | refine Below.setCell ?_ (by simp) _ | refine Below.alloc ?_ (by simp) _)⟩
theorem op6 (a b : Int) (h0 : 0 ≤ a) (h1 : a ≤ 4294967295) (h2 : 0 ≤ b) (h3 : b ≤ 4294967295) (w : World) : Calls Tryz.prog 316 #[.int .u8 6, .int .u32 a, .int .u32 b] w fun e w' => e = .returned (.tuple #[.int .u32 (bits .and .u32 a b), .int .i64 0]) ∧ Below w.heap.size w w' := by
  have hq := nilq
  go_enter Tryz.func316, Tryz.ntmps316
  go_wp2_with (go_at_call 355; refine (and _ _ h0 h1 h2 h3 _).mono ?_; rintro e w' ⟨rfl, rfl⟩)
  go_ret2
  exact ⟨rfl, by repeat (first | exact Below.refl _ _ | apply Below.drew | refine Below.setCell ?_ (by simp) _ | refine Below.alloc ?_ (by simp) _)⟩
theorem op7 (a b : Int) (h0 : 0 ≤ a) (h1 : a ≤ 4294967295) (h2 : 0 ≤ b) (h3 : b ≤ 4294967295) (w : World) : Calls Tryz.prog 316 #[.int .u8 7, .int .u32 a, .int .u32 b] w fun e w' => e = .returned (.tuple #[.int .u32 (bits .or .u32 a b), .int .i64 0]) ∧ Below w.heap.size w w' := by
  have hq := nilq
  go_enter Tryz.func316, Tryz.ntmps316
  go_wp2_with (go_at_call 356; refine (or _ _ h0 h1 h2 h3 _).mono ?_; rintro e w' ⟨rfl, rfl⟩)
  go_ret2
  exact ⟨rfl, by repeat (first | exact Below.refl _ _ | apply Below.drew | refine Below.setCell ?_ (by simp) _ | refine Below.alloc ?_ (by simp) _)⟩
theorem op8 (a b : Int) (h0 : 0 ≤ a) (h1 : a ≤ 4294967295) (h2 : 0 ≤ b) (h3 : b ≤ 4294967295) (w : World) : Calls Tryz.prog 316 #[.int .u8 8, .int .u32 a, .int .u32 b] w fun e w' => e = .returned (.tuple #[.int .u32 (bits .xor .u32 a b), .int .i64 0]) ∧ Below w.heap.size w w' := by
  have hq := nilq
  go_enter Tryz.func316, Tryz.ntmps316
  go_wp2_with (go_at_call 357; refine (xor _ _ h0 h1 h2 h3 _).mono ?_; rintro e w' ⟨rfl, rfl⟩)
  go_ret2
  exact ⟨rfl, by repeat (first | exact Below.refl _ _ | apply Below.drew | refine Below.setCell ?_ (by simp) _ | refine Below.alloc ?_ (by simp) _)⟩
theorem op9 (a b : Int) (h0 : 0 ≤ a) (h1 : a ≤ 4294967295) (h2 : 0 ≤ b) (h3 : b ≤ 4294967295) (w : World) : Calls Tryz.prog 316 #[.int .u8 9, .int .u32 a, .int .u32 b] w fun e w' => e = .returned (.tuple #[.int .u32 (a * 2 ^ (b % 32).toNat % 4294967296), .int .i64 0]) ∧ Below w.heap.size w w' := by
  have hq := nilq
  go_enter Tryz.func316, Tryz.ntmps316
  go_wp2_with (go_at_call 358; refine (shl _ _ h0 h1 h2 h3 _).mono ?_; rintro e w' ⟨rfl, rfl⟩)
  go_ret2
  exact ⟨rfl, by repeat (first | exact Below.refl _ _ | apply Below.drew | refine Below.setCell ?_ (by simp) _ | refine Below.alloc ?_ (by simp) _)⟩
theorem op10 (a b : Int) (h0 : 0 ≤ a) (h1 : a ≤ 4294967295) (h2 : 0 ≤ b) (h3 : b ≤ 4294967295) (w : World) : Calls Tryz.prog 316 #[.int .u8 10, .int .u32 a, .int .u32 b] w fun e w' => e = .returned (.tuple #[.int .u32 (a / 2 ^ (b % 32).toNat), .int .i64 0]) ∧ Below w.heap.size w w' := by
  have hq := nilq
  go_enter Tryz.func316, Tryz.ntmps316
  go_wp2_with (go_at_call 359; refine (shr _ _ h0 h1 h2 h3 _).mono ?_; rintro e w' ⟨rfl, rfl⟩)
  go_ret2
  exact ⟨rfl, by repeat (first | exact Below.refl _ _ | apply Below.drew | refine Below.setCell ?_ (by simp) _ | refine Below.alloc ?_ (by simp) _)⟩
theorem op11 (a b : Int) (h0 : 0 ≤ a) (h1 : a ≤ 4294967295) (h2 : 0 ≤ b) (h3 : b ≤ 4294967295) (w : World) : Calls Tryz.prog 316 #[.int .u8 11, .int .u32 a, .int .u32 b] w fun e w' => e = .returned (.tuple #[.int .u32 (wrap32 a / 2 ^ (b % 32).toNat % 4294967296), .int .i64 0]) ∧ Below w.heap.size w w' := by
  have hq := nilq
  go_enter Tryz.func316, Tryz.ntmps316
  go_wp2_with (go_at_call 360; refine (sar _ _ h0 h1 h2 h3 _).mono ?_; rintro e w' ⟨rfl, rfl⟩)
  go_ret2
  exact ⟨rfl, by repeat (first | exact Below.refl _ _ | apply Below.drew | refine Below.setCell ?_ (by simp) _ | refine Below.alloc ?_ (by simp) _)⟩
theorem op12 (a b : Int) (h0 : 0 ≤ a) (h1 : a ≤ 4294967295) (h2 : 0 ≤ b) (h3 : b ≤ 4294967295) (w : World) : Calls Tryz.prog 316 #[.int .u8 12, .int .u32 a, .int .u32 b] w fun e w' => e = .returned (.tuple #[.int .u32 (one (decide (wrap32 a < wrap32 b))), .int .i64 0]) ∧ Below w.heap.size w w' := by
  have hq := nilq
  go_enter Tryz.func316, Tryz.ntmps316
  go_wp2_with (go_at_call 361; refine (slt _ _ h0 h1 h2 h3 _).mono ?_; rintro e w' ⟨rfl, rfl⟩)
  go_ret2
  exact ⟨rfl, by repeat (first | exact Below.refl _ _ | apply Below.drew | refine Below.setCell ?_ (by simp) _ | refine Below.alloc ?_ (by simp) _)⟩
theorem op13 (a b : Int) (h0 : 0 ≤ a) (h1 : a ≤ 4294967295) (h2 : 0 ≤ b) (h3 : b ≤ 4294967295) (w : World) : Calls Tryz.prog 316 #[.int .u8 13, .int .u32 a, .int .u32 b] w fun e w' => e = .returned (.tuple #[.int .u32 (one (decide (a < b))), .int .i64 0]) ∧ Below w.heap.size w w' := by
  have hq := nilq
  go_enter Tryz.func316, Tryz.ntmps316
  go_wp2_with (go_at_call 362; refine (sltu _ _ h0 h1 h2 h3 _).mono ?_; rintro e w' ⟨rfl, rfl⟩)
  go_ret2
  exact ⟨rfl, by repeat (first | exact Below.refl _ _ | apply Below.drew | refine Below.setCell ?_ (by simp) _ | refine Below.alloc ?_ (by simp) _)⟩
theorem op14 (a b : Int) (h0 : 0 ≤ a) (h1 : a ≤ 4294967295) (h2 : 0 ≤ b) (h3 : b ≤ 4294967295) (w : World) : Calls Tryz.prog 316 #[.int .u8 14, .int .u32 a, .int .u32 b] w fun e w' => e = .returned (.tuple #[.int .u32 (one (a == b)), .int .i64 0]) ∧ Below w.heap.size w w' := by
  have hq := nilq
  go_enter Tryz.func316, Tryz.ntmps316
  go_wp2_with (go_at_call 363; refine (seq _ _ h0 h1 h2 h3 _).mono ?_; rintro e w' ⟨rfl, rfl⟩)
  go_ret2
  exact ⟨rfl, by repeat (first | exact Below.refl _ _ | apply Below.drew | refine Below.setCell ?_ (by simp) _ | refine Below.alloc ?_ (by simp) _)⟩
theorem Op (fn a b : Int) (f0 : 0 ≤ fn) (f1 : fn ≤ 255) (h0 : 0 ≤ a) (h1 : a ≤ 4294967295) (h2 : 0 ≤ b) (h3 : b ≤ 4294967295) (w : World) : Calls Tryz.prog 316 #[.int .u8 fn, .int .u32 a, .int .u32 b] w fun e w' => e = .returned (.tuple #[.int .u32 (opv fn a b), .int .i64 (ope fn)]) ∧ Below w.heap.size w w' := by
  by_cases hf : 15 ≤ fn
  · have e1 : opv fn a b = 0 := opv_high fn a b hf
    have e2 : ope fn = 2 := ope_high fn hf
    rw [e1, e2]
    exact op15 fn a b hf f1 h0 h1 h2 h3 w
  · have : fn = 0 ∨ fn = 1 ∨ fn = 2 ∨ fn = 3 ∨ fn = 4 ∨ fn = 5 ∨ fn = 6 ∨ fn = 7 ∨ fn = 8 ∨ fn = 9 ∨ fn = 10 ∨ fn = 11 ∨ fn = 12 ∨ fn = 13 ∨ fn = 14 := by omega
    rcases this with rfl | rfl | rfl | rfl | rfl | rfl | rfl | rfl | rfl | rfl | rfl | rfl | rfl | rfl | rfl
    · exact op0 a b h0 h1 h2 h3 w
    · exact op1 a b h0 h1 h2 h3 w
    · exact op2 a b h0 h1 h2 h3 w
    · exact op3 a b h0 h1 h2 h3 w
    · exact op4 a b h0 h1 h2 h3 w
    · exact op5 a b h0 h1 h2 h3 w
    · exact op6 a b h0 h1 h2 h3 w
    · exact op7 a b h0 h1 h2 h3 w
    · exact op8 a b h0 h1 h2 h3 w
    · exact op9 a b h0 h1 h2 h3 w
    · exact op10 a b h0 h1 h2 h3 w
    · exact op11 a b h0 h1 h2 h3 w
    · exact op12 a b h0 h1 h2 h3 w
    · exact op13 a b h0 h1 h2 h3 w
    · exact op14 a b h0 h1 h2 h3 w
end Go.Proofs.YtdmoohiepnbdaaaGreat.Word
namespace Go.Proofs.YtdmoohiepnbdaaaGreat.Word
open Go.RowKit
set_option linter.unusedVariables false
def getRel (s : ByteArray) (v i : Value) : Prop := ∃ (k : Nat) (x : Int), k ≤ s.size ∧ i = .int .i64 k ∧ v = .int .u32 x ∧ 0 ≤ x ∧ x ≤ 4294967295 ∧ x = getV ((nums s).take k)
theorem get_ok (s : ByteArray) (h1 : 1 ≤ s.size) (h4 : s.size ≤ 4) (w : World) :
    Calls Tryz.prog 260 #[.string s] w fun e w' => e = .returned (.tuple #[.int .u32 (getV (nums s)), .int .i64 0]) ∧ w = w' := by
  go_enter Tryz.func260, Tryz.ntmps260
  go_wp2
  go_loop [2, 15, 4] (fun v i k => getRel s v i) (fun _ i _ => s.size - (intOf i).toNat)
  case atStart => exact ⟨0, 0, by omega, rfl, rfl, by omega, by omega, rfl⟩
  case round =>
    obtain ⟨k, x, hk, rfl, rfl, x0, x1, hx⟩ := hrel
    by_cases hk2 : k < s.size
    · have Hn := Lib.hid (get_next s k x hk2 h4 hx)
      have Hb := Lib.hid (getV_take_bd s (k + 1) h4)
      clear hx
      go_wp2
      refine ⟨⟨k + 1, _, by omega, by go_num, rfl, ?_, ?_, Hn.out⟩, by simp [intOf]; omega⟩
      · rw [Hn.out]; exact Hb.out.1
      · rw [Hn.out]; exact Hb.out.2
    · obtain rfl : k = s.size := by omega
      have Hx := Lib.hid hx
      clear hx
      go_wp2
      go_ret2
      refine ⟨ret_ie ?_, rfl⟩
      rw [Hx.out, List.take_of_length_le (by rw [nums_length]; omega)]
end Go.Proofs.YtdmoohiepnbdaaaGreat.Word
