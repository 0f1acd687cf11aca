/- ExeW: Exe, ExeB in one text. -/
import Derived.Test.YtkbhokmnbpnlbaaGreatIns
import Derived.Test.YtkbhokmnbpnlbaaGreatCor
/- A step of a cpu in plain numbers: its registers, its pc, the pages of its space. -/
namespace Go.Proofs.YtkbhokmnbpnlbaaGreat
open Go.RowKit Word
set_option linter.unusedVariables false
namespace Cp
/-- Registers: sixteen numbers. -/
structure Regs (r : List Int) : Prop where
  len : r.length = 16
  bd : ∀ x, x ∈ r → 0 ≤ x ∧ x ≤ 4294967295
def rg (r : List Int) (n : Int) : Int := r.getD n.toNat 0
theorem rg_bd {r : List Int} (h : Regs r) (n : Int) : 0 ≤ rg r n ∧ rg r n ≤ 4294967295 := by
  unfold rg
  by_cases hn : n.toNat < r.length
  · rw [List.getD, List.getElem?_eq_getElem hn]
    exact h.bd _ (List.getElem_mem hn)
  · rw [List.getD, List.getElem?_eq_none (by omega)]
    exact ⟨by simp, by simp⟩
def putG (r : List Int) (n v : Int) : List Int := if n = 0 then r else r.set n.toNat v
theorem putG_regs {r : List Int} (h : Regs r) (n v : Int) (v0 : 0 ≤ v) (v1 : v ≤ 4294967295) : Regs (putG r n v) := by
  unfold putG
  split
  · exact h
  · refine ⟨by rw [List.length_set, h.len], fun x hx => ?_⟩
    rcases List.mem_or_eq_of_mem_set hx with g | rfl
    · exact h.bd x g
    · exact ⟨v0, v1⟩
theorem opv_bd (fn a b : Int) (a0 : 0 ≤ a) (a1 : a ≤ 4294967295) (b0 : 0 ≤ b) (b1 : b ≤ 4294967295) : 0 ≤ opv fn a b ∧ opv fn a b ≤ 4294967295 := by
  have bb : ∀ o, 0 ≤ bits o .u32 a b ∧ bits o .u32 a b ≤ 4294967295 := fun o => bits_within o .u32 a b
  have oo : ∀ c, 0 ≤ Word.one c ∧ Word.one c ≤ 4294967295 := fun c => by unfold Word.one; split <;> exact ⟨by omega, by omega⟩
  unfold opv
  split
  · omega
  · omega
  · omega
  · unfold divu
    split
    · omega
    · rename_i h
      exact ⟨Int.ediv_nonneg a0 b0, Int.le_trans (Int.ediv_le_self _ a0) a1⟩
  · unfold remu
    split
    · omega
    · rename_i h
      have := Int.emod_nonneg a h
      have := Int.emod_lt_of_pos a (show 0 < b by omega)
      omega
  · exact bb _
  · exact bb _
  · exact bb _
  · omega
  · exact ⟨Int.ediv_nonneg a0 (Int.le_of_lt (Int.pow_pos (by omega))), Int.le_trans (Int.ediv_le_self _ a0) a1⟩
  · omega
  · exact oo _
  · exact oo _
  · exact oo _
  · omega
/-- What a step comes to. -/
structure Out where
  kind : Int
  num : Int
  why : Int
  r : List Int
  pc : Int
  A : List Pg
def Out.stop (o : Out) : Value := .agg #[.int .u8 o.kind, .int .u32 o.num, .int .i64 o.why]
def next (pc : Int) : Int := (pc + 8) % 4294967296
def faults (A : List Pg) (r : List Int) (pc why : Int) : Out := ⟨2, 0, why, r, pc, A⟩
def goes (A : List Pg) (r : List Int) (pc : Int) : Out := ⟨0, 0, 0, r, pc, A⟩
def addr (r : List Int) (x : Ins) : Int := (rg r x.a + x.imm) % 4294967296
def loads (A : List Pg) (r : List Int) (pc : Int) (x : Ins) (n : Nat) : Out :=
  if Sp.fitsB A (addr r x) n 1 then goes A (putG r x.d (getV (Sp.getL A (addr r x) n))) (next pc) else faults A r pc 50
def stores (A : List Pg) (r : List Int) (pc : Int) (x : Ins) (n : Nat) : Out :=
  if Sp.fitsB A (addr r x) n 2 then goes (putN A (addr r x) ((putL (rg r x.b)).take n) n) r (next pc) else faults A r pc 50
def br (c : Bool) (a b : Int) : Int := if c then a else b
def exe (A : List Pg) (r : List Int) (pc : Int) (x : Ins) : Out :=
  if x.op ≤ 14 then goes A (putG r x.d (opv x.op (rg r x.a) (rg r x.b))) (next pc)
  else if x.op ≤ 30 then goes A (putG r x.d (opv (x.op - 16) (rg r x.a) x.imm)) (next pc)
  else if x.op = 32 then goes A (putG r x.d x.imm) (next pc)
  else if x.op = 33 then loads A r pc x 1
  else if x.op = 34 then loads A r pc x 4
  else if x.op = 35 then stores A r pc x 1
  else if x.op = 36 then stores A r pc x 4
  else if x.op = 40 then goes A r x.imm
  else if x.op = 41 then goes A (putG r x.d (next pc)) x.imm
  else if x.op = 42 then goes A r (rg r x.a)
  else if x.op = 43 then goes A r (br (rg r x.a == rg r x.b) x.imm (next pc))
  else if x.op = 44 then goes A r (br (rg r x.a != rg r x.b) x.imm (next pc))
  else if x.op = 45 then goes A r (br (decide (rg r x.a < rg r x.b)) x.imm (next pc))
  else if x.op = 46 then goes A r (br (decide (rg r x.b ≤ rg r x.a)) x.imm (next pc))
  else ⟨1, x.imm, 0, r, next pc, A⟩
/-- A step. -/
def stp (A : List Pg) (r : List Int) (pc : Int) : Out :=
  if Sp.fitsB A pc 8 4 then
    (if Ins.decB (strOfNums (Sp.getL A pc 8)) then exe A r pc (Ins.decI (strOfNums (Sp.getL A pc 8))) else faults A r pc 7)
  else faults A r pc 50
/-- n steps, up to a stop: what stops, how many were done, what there is behind them. -/
def run (A : List Pg) (r : List Int) (pc : Int) : Nat → Out × Nat
  | 0 => (goes A r pc, 0)
  | n + 1 =>
    let o := stp A r pc
    if o.kind = 0 then (let q := run o.A o.r o.pc n; (q.1, q.2 + 1)) else if o.kind = 2 then (o, 0) else (o, 1)
end Cp
end Go.Proofs.YtkbhokmnbpnlbaaGreat
/- Steps in plain numbers: spaces with the same cores lead to the same; steps and then more; what a step changes. -/
namespace Go.Proofs.YtkbhokmnbpnlbaaGreat
open Go.RowKit Word
set_option linter.unusedVariables false
namespace Cp
/-- Two outcomes, but for where the pages lie. -/
structure Like (o p : Out) : Prop where
  kind : o.kind = p.kind
  num : o.num = p.num
  why : o.why = p.why
  r : o.r = p.r
  pc : o.pc = p.pc
  cores : cores o.A = Go.Proofs.YtkbhokmnbpnlbaaGreat.cores p.A
theorem Like.stop {o p : Out} (h : Like o p) : o.stop = p.stop := by unfold Out.stop; rw [h.kind, h.num, h.why]
section
variable {A B : List Pg} (h : cores A = cores B) (r : List Int) (pc : Int)
include h
theorem like_goes : Like (goes A r pc) (goes B r pc) := ⟨rfl, rfl, rfl, rfl, rfl, h⟩
theorem like_faults (why : Int) : Like (faults A r pc why) (faults B r pc why) := ⟨rfl, rfl, rfl, rfl, rfl, h⟩
theorem like_loads (x : Ins) (n : Nat) : Like (loads A r pc x n) (loads B r pc x n) := by
  unfold loads
  rw [Cor.fitsB h, Cor.getL h]
  split
  · exact like_goes h _ _
  · exact like_faults h _ _ _
theorem like_stores (x : Ins) (n : Nat) : Like (stores A r pc x n) (stores B r pc x n) := by
  unfold stores
  rw [Cor.fitsB h]
  split
  · exact ⟨rfl, rfl, rfl, rfl, rfl, Cor.put _ _ h _⟩
  · exact like_faults h _ _ _
theorem like_exe (x : Ins) : Like (exe A r pc x) (exe B r pc x) := by
  unfold exe
  by_cases c0 : x.op ≤ 14
  · rw [if_pos c0, if_pos c0]
    exact like_goes h _ _
  rw [if_neg c0, if_neg c0]
  by_cases c1 : x.op ≤ 30
  · rw [if_pos c1, if_pos c1]
    exact like_goes h _ _
  rw [if_neg c1, if_neg c1]
  by_cases c2 : x.op = 32
  · rw [if_pos c2, if_pos c2]
    exact like_goes h _ _
  rw [if_neg c2, if_neg c2]
  by_cases c3 : x.op = 33
  · rw [if_pos c3, if_pos c3]
    exact like_loads h _ _ _ _
  rw [if_neg c3, if_neg c3]
  by_cases c4 : x.op = 34
  · rw [if_pos c4, if_pos c4]
    exact like_loads h _ _ _ _
  rw [if_neg c4, if_neg c4]
  by_cases c5 : x.op = 35
  · rw [if_pos c5, if_pos c5]
    exact like_stores h _ _ _ _
  rw [if_neg c5, if_neg c5]
  by_cases c6 : x.op = 36
  · rw [if_pos c6, if_pos c6]
    exact like_stores h _ _ _ _
  rw [if_neg c6, if_neg c6]
  by_cases c7 : x.op = 40
  · rw [if_pos c7, if_pos c7]
    exact like_goes h _ _
  rw [if_neg c7, if_neg c7]
  by_cases c8 : x.op = 41
  · rw [if_pos c8, if_pos c8]
    exact like_goes h _ _
  rw [if_neg c8, if_neg c8]
  by_cases c9 : x.op = 42
  · rw [if_pos c9, if_pos c9]
    exact like_goes h _ _
  rw [if_neg c9, if_neg c9]
  by_cases c10 : x.op = 43
  · rw [if_pos c10, if_pos c10]
    exact like_goes h _ _
  rw [if_neg c10, if_neg c10]
  by_cases c11 : x.op = 44
  · rw [if_pos c11, if_pos c11]
    exact like_goes h _ _
  rw [if_neg c11, if_neg c11]
  by_cases c12 : x.op = 45
  · rw [if_pos c12, if_pos c12]
    exact like_goes h _ _
  rw [if_neg c12, if_neg c12]
  by_cases c13 : x.op = 46
  · rw [if_pos c13, if_pos c13]
    exact like_goes h _ _
  rw [if_neg c13, if_neg c13]
  exact ⟨rfl, rfl, rfl, rfl, rfl, h⟩
theorem like_stp : Like (stp A r pc) (stp B r pc) := by
  unfold stp
  rw [Cor.fitsB h, Cor.getL h]
  repeat' split
  · exact like_exe h _ _ _
  · exact like_faults h _ _ _
  · exact like_faults h _ _ _
end
theorem like_run : ∀ (n : Nat) {A B : List Pg} (h : cores A = cores B) (r : List Int) (pc : Int), Like (run A r pc n).1 (run B r pc n).1 ∧ (run A r pc n).2 = (run B r pc n).2
  | 0, _, _, h, r, pc => ⟨like_goes h r pc, rfl⟩
  | n + 1, A, B, h, r, pc => by
    have hs := like_stp h r pc
    simp only [run]
    rw [hs.kind]
    split
    · have ih := like_run n hs.cores (stp A r pc).r (stp A r pc).pc
      rw [hs.r, hs.pc] at ih ⊢
      exact ⟨ih.1, by simp only [ih.2]⟩
    · split
      · exact ⟨hs, rfl⟩
      · exact ⟨hs, rfl⟩
/-- Each step that goes on says nothing else. -/
theorem exe_zero (A : List Pg) (r : List Int) (pc : Int) (x : Ins) : (exe A r pc x).kind = 0 → (exe A r pc x).num = 0 ∧ (exe A r pc x).why = 0 := by
  have hl : ∀ n, (loads A r pc x n).kind = 0 → (loads A r pc x n).num = 0 ∧ (loads A r pc x n).why = 0 := fun n => by unfold loads; split; exact fun _ => ⟨rfl, rfl⟩; exact fun h => absurd h (by simp [faults])
  have hs : ∀ n, (stores A r pc x n).kind = 0 → (stores A r pc x n).num = 0 ∧ (stores A r pc x n).why = 0 := fun n => by unfold stores; split; exact fun _ => ⟨rfl, rfl⟩; exact fun h => absurd h (by simp [faults])
  unfold exe
  by_cases c0 : x.op ≤ 14
  · rw [if_pos c0]
    exact fun _ => ⟨rfl, rfl⟩
  rw [if_neg c0]
  by_cases c1 : x.op ≤ 30
  · rw [if_pos c1]
    exact fun _ => ⟨rfl, rfl⟩
  rw [if_neg c1]
  by_cases c2 : x.op = 32
  · rw [if_pos c2]
    exact fun _ => ⟨rfl, rfl⟩
  rw [if_neg c2]
  by_cases c3 : x.op = 33
  · rw [if_pos c3]
    exact hl _
  rw [if_neg c3]
  by_cases c4 : x.op = 34
  · rw [if_pos c4]
    exact hl _
  rw [if_neg c4]
  by_cases c5 : x.op = 35
  · rw [if_pos c5]
    exact hs _
  rw [if_neg c5]
  by_cases c6 : x.op = 36
  · rw [if_pos c6]
    exact hs _
  rw [if_neg c6]
  by_cases c7 : x.op = 40
  · rw [if_pos c7]
    exact fun _ => ⟨rfl, rfl⟩
  rw [if_neg c7]
  by_cases c8 : x.op = 41
  · rw [if_pos c8]
    exact fun _ => ⟨rfl, rfl⟩
  rw [if_neg c8]
  by_cases c9 : x.op = 42
  · rw [if_pos c9]
    exact fun _ => ⟨rfl, rfl⟩
  rw [if_neg c9]
  by_cases c10 : x.op = 43
  · rw [if_pos c10]
    exact fun _ => ⟨rfl, rfl⟩
  rw [if_neg c10]
  by_cases c11 : x.op = 44
  · rw [if_pos c11]
    exact fun _ => ⟨rfl, rfl⟩
  rw [if_neg c11]
  by_cases c12 : x.op = 45
  · rw [if_pos c12]
    exact fun _ => ⟨rfl, rfl⟩
  rw [if_neg c12]
  by_cases c13 : x.op = 46
  · rw [if_pos c13]
    exact fun _ => ⟨rfl, rfl⟩
  rw [if_neg c13]
  exact fun h => absurd h (by simp)
theorem stp_zero (A : List Pg) (r : List Int) (pc : Int) : (stp A r pc).kind = 0 → (stp A r pc).num = 0 ∧ (stp A r pc).why = 0 := by
  unfold stp
  repeat' split
  · exact exe_zero A r pc _
  · intro h; simp [faults] at h
  · intro h; simp [faults] at h
theorem exe_kind (A : List Pg) (r : List Int) (pc : Int) (x : Ins) : (exe A r pc x).kind = 0 ∨ (exe A r pc x).kind = 1 ∨ (exe A r pc x).kind = 2 := by
  have hl : ∀ n, (loads A r pc x n).kind = 0 ∨ (loads A r pc x n).kind = 1 ∨ (loads A r pc x n).kind = 2 := fun n => by unfold loads; split; exact .inl rfl; exact .inr (.inr rfl)
  have hs : ∀ n, (stores A r pc x n).kind = 0 ∨ (stores A r pc x n).kind = 1 ∨ (stores A r pc x n).kind = 2 := fun n => by unfold stores; split; exact .inl rfl; exact .inr (.inr rfl)
  unfold exe
  by_cases c0 : x.op ≤ 14
  · rw [if_pos c0]
    exact .inl rfl
  rw [if_neg c0]
  by_cases c1 : x.op ≤ 30
  · rw [if_pos c1]
    exact .inl rfl
  rw [if_neg c1]
  by_cases c2 : x.op = 32
  · rw [if_pos c2]
    exact .inl rfl
  rw [if_neg c2]
  by_cases c3 : x.op = 33
  · rw [if_pos c3]
    exact hl _
  rw [if_neg c3]
  by_cases c4 : x.op = 34
  · rw [if_pos c4]
    exact hl _
  rw [if_neg c4]
  by_cases c5 : x.op = 35
  · rw [if_pos c5]
    exact hs _
  rw [if_neg c5]
  by_cases c6 : x.op = 36
  · rw [if_pos c6]
    exact hs _
  rw [if_neg c6]
  by_cases c7 : x.op = 40
  · rw [if_pos c7]
    exact .inl rfl
  rw [if_neg c7]
  by_cases c8 : x.op = 41
  · rw [if_pos c8]
    exact .inl rfl
  rw [if_neg c8]
  by_cases c9 : x.op = 42
  · rw [if_pos c9]
    exact .inl rfl
  rw [if_neg c9]
  by_cases c10 : x.op = 43
  · rw [if_pos c10]
    exact .inl rfl
  rw [if_neg c10]
  by_cases c11 : x.op = 44
  · rw [if_pos c11]
    exact .inl rfl
  rw [if_neg c11]
  by_cases c12 : x.op = 45
  · rw [if_pos c12]
    exact .inl rfl
  rw [if_neg c12]
  by_cases c13 : x.op = 46
  · rw [if_pos c13]
    exact .inl rfl
  rw [if_neg c13]
  exact .inr (.inl rfl)
theorem stp_kind (A : List Pg) (r : List Int) (pc : Int) : (stp A r pc).kind = 0 ∨ (stp A r pc).kind = 1 ∨ (stp A r pc).kind = 2 := by
  unfold stp
  repeat' split
  · exact exe_kind A r pc _
  · exact .inr (.inr rfl)
  · exact .inr (.inr rfl)
/-- Steps, and then more. -/
theorem run_add (b : Nat) : ∀ (a : Nat) (A : List Pg) (r : List Int) (pc : Int),
    ((run A r pc a).1.kind = 0 → (run A r pc a).2 = a ∧ run A r pc (a + b) = ((run (run A r pc a).1.A (run A r pc a).1.r (run A r pc a).1.pc b).1, a + (run (run A r pc a).1.A (run A r pc a).1.r (run A r pc a).1.pc b).2)) ∧
    ((run A r pc a).1.kind ≠ 0 → (run A r pc a).2 ≤ a ∧ run A r pc (a + b) = run A r pc a)
  | 0, A, r, pc => by
    rw [Nat.zero_add]
    refine ⟨fun _ => ⟨rfl, ?_⟩, fun h => absurd rfl h⟩
    show run A r pc b = ((run A r pc b).1, 0 + (run A r pc b).2)
    rw [Nat.zero_add]
  | a + 1, A, r, pc => by
    have ih := run_add b a (stp A r pc).A (stp A r pc).r (stp A r pc).pc
    rw [Nat.add_right_comm]
    by_cases h0 : (stp A r pc).kind = 0
    · have e : ∀ n, run A r pc (n + 1) = ((run (stp A r pc).A (stp A r pc).r (stp A r pc).pc n).1, (run (stp A r pc).A (stp A r pc).r (stp A r pc).pc n).2 + 1) := fun n => by simp only [run]; rw [if_pos h0]
      rw [e, e]
      refine ⟨fun h => ?_, fun h => ?_⟩
      · obtain ⟨g1, g2⟩ := ih.1 h
        refine ⟨by simp only [g1], ?_⟩
        rw [g2]
        simp only [Prod.mk.injEq, true_and]
        omega
      · obtain ⟨g1, g2⟩ := ih.2 h
        exact ⟨by simp only; omega, by rw [g2]⟩
    · have e : ∀ n, run A r pc (n + 1) = (stp A r pc, if (stp A r pc).kind = 2 then 0 else 1) := fun n => by
        simp only [run]
        rw [if_neg h0]
        split <;> rfl
      rw [e, e]
      refine ⟨fun h => absurd h h0, fun _ => ⟨?_, rfl⟩⟩
      simp only
      split <;> omega
theorem run_none (A : List Pg) (r : List Int) (pc : Int) (n : Nat) : (run A r pc n).1.kind = 0 → (run A r pc n).1.num = 0 ∧ (run A r pc n).1.why = 0 := by
  induction n generalizing A r pc with
  | zero => intro _; exact ⟨rfl, rfl⟩
  | succ n ih =>
    simp only [run]
    split
    · exact ih _ _ _
    · split
      · exact stp_zero A r pc
      · exact stp_zero A r pc
theorem next_bd (pc : Int) : 0 ≤ next pc ∧ next pc ≤ 4294967295 := by unfold next; omega
theorem br_bd {c : Bool} {a b : Int} (ha : 0 ≤ a ∧ a ≤ 4294967295) (hb : 0 ≤ b ∧ b ≤ 4294967295) : 0 ≤ br c a b ∧ br c a b ≤ 4294967295 := by unfold br; split <;> assumption
/-- Registers and the pc stay numbers of 32 bits. -/
structure Good (o : Out) : Prop where
  regs : Regs o.r
  pc0 : 0 ≤ o.pc
  pc1 : o.pc ≤ 4294967295
theorem byteAt_bd {A : List Pg} (hok : ∀ p, p ∈ A → p.ok) (x : Int) : 0 ≤ Sp.byteAt A x ∧ Sp.byteAt A x < 256 := by
  unfold Sp.byteAt
  cases hp : pageAt A x with
  | none => simp
  | some p =>
    have hm := (atAddr_mem hp).1
    have h := hok p hm
    have : (x % 256).toNat < p.bytes.length := by rw [h.len]; omega
    show 0 ≤ p.bytes.getD (x % 256).toNat 0 ∧ p.bytes.getD (x % 256).toNat 0 < 256
    rw [List.getD, List.getElem?_eq_getElem this]
    exact h.bd _ (List.getElem_mem this)
theorem getL_bd {A : List Pg} (hok : ∀ p, p ∈ A → p.ok) (x : Int) (n : Nat) : ∀ y, y ∈ Sp.getL A x n → 0 ≤ y ∧ y < 256 := by
  intro y hy
  unfold Sp.getL at hy
  obtain ⟨k, _, rfl⟩ := List.mem_map.1 hy
  exact byteAt_bd hok _
theorem getV_small {l : List Int} (h : ∀ x, x ∈ l → 0 ≤ x ∧ x < 256) (hl : l.length ≤ 4) : 0 ≤ getV l ∧ getV l ≤ 4294967295 := by
  have := getV_bd l h
  have e : (256 : Int) ^ l.length ≤ 4294967296 := by
    have : l.length = 0 ∨ l.length = 1 ∨ l.length = 2 ∨ l.length = 3 ∨ l.length = 4 := by omega
    rcases this with g | g | g | g | g <;> rw [g] <;> decide
  omega
theorem good_stores {A : List Pg} {r : List Int} (hr : Regs r) {pc : Int} (p0 : 0 ≤ pc) (p1 : pc ≤ 4294967295) (x : Ins) (n : Nat) : Good (stores A r pc x n) := by
  unfold stores
  split
  · exact ⟨hr, (next_bd pc).1, (next_bd pc).2⟩
  · exact ⟨hr, p0, p1⟩
section
variable {A : List Pg} (hok : ∀ p, p ∈ A → p.ok) {r : List Int} (hr : Regs r) {pc : Int} (p0 : 0 ≤ pc) (p1 : pc ≤ 4294967295)
include hok hr p0 p1
theorem good_loads (x : Ins) (n : Nat) (hn : n ≤ 4) : Good (loads A r pc x n) := by
  unfold loads
  split
  · have := getV_small (getL_bd hok (addr r x) n) (by rw [Sp.getL_length]; exact hn)
    exact ⟨putG_regs hr _ _ this.1 this.2, (next_bd pc).1, (next_bd pc).2⟩
  · exact ⟨hr, p0, p1⟩
theorem good_exe {x : Ins} (hx : x.ok) : Good (exe A r pc x) := by
  have ha := rg_bd hr x.a
  have hb := rg_bd hr x.b
  have hi : 0 ≤ x.imm ∧ x.imm ≤ 4294967295 := ⟨hx.i0, hx.i1⟩
  have hn := next_bd pc
  have o1 := opv_bd x.op (rg r x.a) (rg r x.b) ha.1 ha.2 hb.1 hb.2
  have o2 := opv_bd (x.op - 16) (rg r x.a) x.imm ha.1 ha.2 hi.1 hi.2
  unfold exe
  by_cases c0 : x.op ≤ 14
  · rw [if_pos c0]
    exact ⟨putG_regs hr _ _ o1.1 o1.2, hn.1, hn.2⟩
  rw [if_neg c0]
  by_cases c1 : x.op ≤ 30
  · rw [if_pos c1]
    exact ⟨putG_regs hr _ _ o2.1 o2.2, hn.1, hn.2⟩
  rw [if_neg c1]
  by_cases c2 : x.op = 32
  · rw [if_pos c2]
    exact ⟨putG_regs hr _ _ hi.1 hi.2, hn.1, hn.2⟩
  rw [if_neg c2]
  by_cases c3 : x.op = 33
  · rw [if_pos c3]
    exact good_loads hok hr p0 p1 _ _ (by omega)
  rw [if_neg c3]
  by_cases c4 : x.op = 34
  · rw [if_pos c4]
    exact good_loads hok hr p0 p1 _ _ (by omega)
  rw [if_neg c4]
  by_cases c5 : x.op = 35
  · rw [if_pos c5]
    exact good_stores hr p0 p1 _ _
  rw [if_neg c5]
  by_cases c6 : x.op = 36
  · rw [if_pos c6]
    exact good_stores hr p0 p1 _ _
  rw [if_neg c6]
  by_cases c7 : x.op = 40
  · rw [if_pos c7]
    exact ⟨hr, hi.1, hi.2⟩
  rw [if_neg c7]
  by_cases c8 : x.op = 41
  · rw [if_pos c8]
    exact ⟨putG_regs hr _ _ hn.1 hn.2, hi.1, hi.2⟩
  rw [if_neg c8]
  by_cases c9 : x.op = 42
  · rw [if_pos c9]
    exact ⟨hr, ha.1, ha.2⟩
  rw [if_neg c9]
  by_cases c10 : x.op = 43
  · rw [if_pos c10]
    exact ⟨hr, (br_bd hi hn).1, (br_bd hi hn).2⟩
  rw [if_neg c10]
  by_cases c11 : x.op = 44
  · rw [if_pos c11]
    exact ⟨hr, (br_bd hi hn).1, (br_bd hi hn).2⟩
  rw [if_neg c11]
  by_cases c12 : x.op = 45
  · rw [if_pos c12]
    exact ⟨hr, (br_bd hi hn).1, (br_bd hi hn).2⟩
  rw [if_neg c12]
  by_cases c13 : x.op = 46
  · rw [if_pos c13]
    exact ⟨hr, (br_bd hi hn).1, (br_bd hi hn).2⟩
  rw [if_neg c13]
  exact ⟨hr, hn.1, hn.2⟩
theorem good_stp : Good (stp A r pc) := by
  unfold stp
  repeat' split
  · rename_i h
    exact good_exe hok hr p0 p1 (Ins.decI_ok (Ins.decB_size h))
  · exact ⟨hr, p0, p1⟩
  · exact ⟨hr, p0, p1⟩
end
end Cp
end Go.Proofs.YtkbhokmnbpnlbaaGreat
