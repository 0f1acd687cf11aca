/- The plain law behind aediculelaw06.CpuAlone: what a step changes. -/
import Derived.Test.YtldmglodjafklaaGreatKeepsP
import Derived.Test.YtldmglodjafklaaGreatCpuW
namespace Go.Proofs.YtldmglodjafklaaGreat
open Go.RowKit Word
set_option linter.unusedVariables false
namespace Cp
open Kp (Ok)
/-- Which bytes a step writes: none; or some in a row. -/
inductive Chg (A : List Pg) (r : List Int) (pc : Int) (o : Out) : Prop
  | none (hA : o.A = A) (hr : o.r = r) (hp : o.kind = 2 → o.pc = pc)
  | reg (hk : o.kind ≠ 2) (hA : o.A = A) (d : Nat) (hd : d < 16) (v : Int) (hr : o.r = putG r d v)
  | mem (hk : o.kind ≠ 2) (hr : o.r = r) (at' : Int) (a0 : 0 ≤ at') (s : ByteArray) (hs : s.size ≤ 4) (hf : Sp.fitsB A at' s.size 2 = true) (hA : o.A = putN A at' (nums s) s.size)
theorem putL_bd (v : Int) (h0 : 0 ≤ v) (h1 : v ≤ 4294967295) : ∀ x, x ∈ putL v → 0 ≤ x ∧ x < 256 := by
  intro x hx
  simp only [putL, List.mem_cons, List.not_mem_nil, or_false] at hx
  rcases hx with rfl | rfl | rfl | rfl <;> omega
theorem chg_stores {A : List Pg} {r : List Int} (hr : Regs r) (pc : Int) (x : Ins) (n : Nat) (hn : n ≤ 4) : Chg A r pc (stores A r pc x n) := by
  unfold stores
  split
  · rename_i h
    have hb := rg_bd hr x.b
    have hl : ((putL (rg r x.b)).take n).length = n := by rw [List.length_take]; simp [putL]; omega
    have hbd : ∀ y, y ∈ (putL (rg r x.b)).take n → 0 ≤ y ∧ y < 256 := fun y hy => putL_bd _ hb.1 hb.2 y (List.mem_of_mem_take hy)
    refine .mem (by simp [goes]) rfl (addr r x) (Int.emod_nonneg _ (by omega)) (strOfNums ((putL (rg r x.b)).take n)) (by rw [size_strOfNums, hl]; exact hn) (by rw [size_strOfNums, hl]; exact h) ?_
    rw [size_strOfNums, hl, nums_strOfNums _ hbd]
    rfl
  · exact .none rfl rfl fun _ => rfl
theorem chg_loads {A : List Pg} {r : List Int} (pc : Int) (x : Ins) (n : Nat) (hd : ∃ d : Nat, d < 16 ∧ x.d = d) : Chg A r pc (loads A r pc x n) := by
  obtain ⟨d, hd, e⟩ := hd
  unfold loads
  split
  · exact .reg (by simp [goes]) rfl d hd _ (by rw [← e]; rfl)
  · exact .none rfl rfl fun _ => rfl
theorem chg_exe {A : List Pg} {r : List Int} (hr : Regs r) (pc : Int) (x : Ins) (hd : ∃ d : Nat, d < 16 ∧ x.d = d) : Chg A r pc (exe A r pc x) := by
  obtain ⟨d, hd16, e⟩ := hd
  unfold exe
  by_cases c0 : x.op ≤ 14
  · rw [if_pos c0]; exact .reg (by simp [goes]) rfl d hd16 _ (by rw [← e]; rfl)
  rw [if_neg c0]
  by_cases c1 : x.op ≤ 30
  · rw [if_pos c1]; exact .reg (by simp [goes]) rfl d hd16 _ (by rw [← e]; rfl)
  rw [if_neg c1]
  by_cases c2 : x.op = 32
  · rw [if_pos c2]; exact .reg (by simp [goes]) rfl d hd16 _ (by rw [← e]; rfl)
  rw [if_neg c2]
  by_cases c3 : x.op = 33
  · rw [if_pos c3]; exact chg_loads _ _ _ ⟨d, hd16, e⟩
  rw [if_neg c3]
  by_cases c4 : x.op = 34
  · rw [if_pos c4]; exact chg_loads _ _ _ ⟨d, hd16, e⟩
  rw [if_neg c4]
  by_cases c5 : x.op = 35
  · rw [if_pos c5]; exact chg_stores hr _ _ _ (by omega)
  rw [if_neg c5]
  by_cases c6 : x.op = 36
  · rw [if_pos c6]; exact chg_stores hr _ _ _ (by omega)
  rw [if_neg c6]
  by_cases c7 : x.op = 40
  · rw [if_pos c7]; exact .none rfl rfl fun g => absurd g (by simp [goes])
  rw [if_neg c7]
  by_cases c8 : x.op = 41
  · rw [if_pos c8]; exact .reg (by simp [goes]) rfl d hd16 _ (by rw [← e]; rfl)
  rw [if_neg c8]
  by_cases c9 : x.op = 42
  · rw [if_pos c9]; exact .none rfl rfl fun g => absurd g (by simp [goes])
  rw [if_neg c9]
  by_cases c10 : x.op = 43
  · rw [if_pos c10]; exact .none rfl rfl fun g => absurd g (by simp [goes])
  rw [if_neg c10]
  by_cases c11 : x.op = 44
  · rw [if_pos c11]; exact .none rfl rfl fun g => absurd g (by simp [goes])
  rw [if_neg c11]
  by_cases c12 : x.op = 45
  · rw [if_pos c12]; exact .none rfl rfl fun g => absurd g (by simp [goes])
  rw [if_neg c12]
  by_cases c13 : x.op = 46
  · rw [if_pos c13]; exact .none rfl rfl fun g => absurd g (by simp [goes])
  rw [if_neg c13]
  exact .none rfl rfl fun g => absurd g (by simp)
theorem chg_stp {A : List Pg} {r : List Int} (hr : Regs r) (pc : Int) : Chg A r pc (stp A r pc) := by
  unfold stp
  split
  · split
    · rename_i hd
      have hm := Ins.decB_may hd
      have hok := Ins.decI_ok (Ins.decB_size hd)
      have hsm := Ins.may_small hm hok
      generalize Ins.decI (strOfNums (Sp.getL A pc 8)) = x at *
      obtain ⟨d0, d1, _⟩ := hsm
      obtain ⟨d, hd⟩ := Int.eq_ofNat_of_zero_le d0
      exact chg_exe hr pc x ⟨d, by omega, hd⟩
    · exact .none rfl rfl fun _ => rfl
  · exact .none rfl rfl fun _ => rfl
theorem rg_putG {r : List Int} (d : Nat) (v : Int) (i : Nat) (h : i ≠ d) : rg (putG r d v) i = rg r i := by
  unfold putG
  split
  · rfl
  · unfold rg
    rw [Int.toNat_natCast, Int.toNat_natCast, List.getD, List.getElem?_set_ne (by omega)]
    rfl
theorem rg_zero {r : List Int} (d : Nat) (v : Int) : rg (putG r d v) 0 = rg r 0 := by
  by_cases h : d = 0
  · subst h; rfl
  · exact rg_putG d v 0 (fun e => h e.symm)
/-- What the statement asks of a step: D: bytes may have changed; those from lo on. -/
structure Told (A A1 C : List Pg) (r : List Int) (pc : Int) (o : Out) (D : Prop) (lo : Int) (d : Nat) : Prop where
  l0 : 0 ≤ lo
  regs : ∀ i : Nat, i ≠ d → rg o.r i = rg r i
  calm : D → o.r = r
  still : o.kind = 2 → o.r = r ∧ o.pc = pc ∧ ¬ D
  zero : rg o.r 0 = rg r 0
  same : Pag.addrs A1 = Pag.addrs C
  up : ∀ i j, i < j → j < (Pag.addrs A1).length → ∀ p q, (Pag.addrs A1)[i]? = some p → (Pag.addrs A1)[j]? = some q → p + 256 ≤ q
  page : ∀ i, i < (Pag.addrs A1).length → ∃ p, (Pag.addrs A1)[i]? = some p ∧ 0 ≤ p ∧ p < 1048576 ∧ Sp.getE A1 p 256 0 = 0 ∧ Sp.getE C p 256 0 = 0 ∧ (Sp.getS A1 p 256 0).size = 256 ∧ (Sp.getS C p 256 0).size = 256 ∧ 0 ≤ Sp.permV A1 p ∧ Sp.permV A1 p ≤ 7 ∧
    ∀ k : Nat, k < 256 → (D ∧ Go.bits .and .u8 (Sp.permV A1 p) 2 = 2 ∧ lo ≤ p + k ∧ p + k < lo + 4) ∨ (nums (Sp.getS A1 p 256 0)).getD k 0 = (nums (Sp.getS C p 256 0)).getD k 0
theorem addrs_up {A : List Pg} (h : Ok A) (i j : Nat) (hij : i < j) (hj : j < (Pag.addrs A).length) (p q : Int) (hp : (Pag.addrs A)[i]? = some p) (hq : (Pag.addrs A)[j]? = some q) : p + 256 ≤ q := by
  unfold Pag.addrs at hp hq hj
  rw [List.length_map] at hj
  rw [List.getElem?_map, List.getElem?_eq_getElem (by omega)] at hp hq
  simp only [Option.map_some, Option.some.injEq] at hp hq
  have g := (List.pairwise_iff_getElem.1 h.up) i j (by omega) hj hij
  have m1 := (h.ok _ (List.getElem_mem (show i < A.length by omega))).a2
  have m2 := (h.ok _ (List.getElem_mem hj)).a2
  rw [hp, hq] at g
  rw [hp] at m1
  rw [hq] at m2
  omega
theorem told_of {A C : List Pg} (h : Ok A) (hC : Ok C) (hc : cores C = cores A) (r : List Int) (pc : Int) (o : Out) (at' need : Int) (a0 : 0 ≤ at') (s : ByteArray) (hs : s.size ≤ 4) (hf : Sp.fitsB A at' s.size need = true) (hA : o.A = Sp.putA A at' need s) (D : Prop) (d : Nat)
    (hD : 0 < s.size → D ∧ need = 2) (regs : ∀ i : Nat, i ≠ d → rg o.r i = rg r i) (calm : D → o.r = r) (still : o.kind = 2 → o.r = r ∧ o.pc = pc ∧ ¬ D) (zero : rg o.r 0 = rg r 0) : Told A o.A C r pc o D at' d := by
  have F := Kp.facts h hC hc at' need s (by omega)
  have hA1 : Ok (Sp.putA A at' need s) := by
    unfold Sp.putA
    rw [if_pos hf]
    exact (Kp.putN_facts h at' s s.size (Nat.le_refl _)).1
  rw [← hA] at F hA1
  refine ⟨a0, regs, calm, still, zero, F.same, fun i j hij hj p q hp hq => addrs_up hA1 i j hij hj p q hp hq, fun i hi => ?_⟩
  obtain ⟨p, hp, p0, p1, f1, f2, f3, f4, f5, f6⟩ := F.page i hi
  obtain ⟨pg, hpg, hpe⟩ := List.mem_map.1 (List.mem_of_getElem? hp)
  have hpo := hA1.ok pg hpg
  have hpm : Sp.permV o.A p = pg.perm := by
    have := Kp.page_in hA1 hpg 0 (by omega)
    unfold Sp.permV
    rw [show pageAt o.A p = some pg by rw [← hpe]; simpa using this]
  refine ⟨p, hp, p0, p1, f1, f2, f3, f4, by rw [hpm]; exact hpo.p0, by rw [hpm]; exact hpo.p1, fun k hk => ?_⟩
  rcases f6 k hk with ⟨_, g1, g2⟩ | g
  · left
    obtain ⟨hd, hn⟩ := hD (by omega)
    subst hn
    refine ⟨hd, ?_, g1, by omega⟩
    rw [f5, Cor.permV hc]
    obtain ⟨m, hm⟩ := Int.eq_ofNat_of_zero_le (show 0 ≤ p + k - at' by omega)
    have hat := Sp.fitsB_at (show m < s.size by omega) hf
    rw [show at' + (m : Int) = p + k by omega] at hat
    unfold Sp.okAt at hat
    have ha2 := hpo.a2
    rw [hpe] at ha2
    have hpp : pageAt A (p + k) = pageAt A p := by
      unfold pageAt
      rw [show p + (k : Int) - (p + k) % 256 = p by omega, show p - p % 256 = p by omega]
    rw [hpp] at hat
    unfold Sp.permV
    cases hq : pageAt A p with
    | none => rw [hq] at hat; cases hat
    | some q => rw [hq] at hat; exact beq_iff_eq.1 hat
  · exact .inr g
/-- Of any step. -/
theorem told_stp {A C : List Pg} (h : Ok A) (hC : Ok C) (hc : cores C = cores A) {r : List Int} (hr : Regs r) (pc : Int) : ∃ (D : Prop) (lo : Int) (d : Nat), Told A (stp A r pc).A C r pc (stp A r pc) D lo d := by
  have he : ∀ x, Sp.fitsB A x (ByteArray.empty).size 0 = true := fun x => rfl
  have hz : ∀ x, A = Sp.putA A x 0 ByteArray.empty := fun x => by
    unfold Sp.putA
    rw [if_pos (he x)]
    rfl
  cases chg_stp (A := A) hr pc with
  | none hA hr' hp => exact ⟨False, 0, 0, told_of h hC hc r pc _ 0 0 (by omega) ByteArray.empty (by decide) (he 0) (hA.trans (hz 0)) False 0 (fun g => absurd g (by decide)) (fun i _ => by rw [hr']) (fun g => g.elim) (fun g => ⟨hr', hp g, id⟩) (by rw [hr'])⟩
  | reg hk hA d hd v hr' => exact ⟨False, 0, d, told_of h hC hc r pc _ 0 0 (by omega) ByteArray.empty (by decide) (he 0) (hA.trans (hz 0)) False d (fun g => absurd g (by decide)) (fun i hi => by rw [hr', rg_putG d v i hi]) (fun g => g.elim) (fun g => absurd g hk) (by rw [hr', rg_zero])⟩
  | mem hk hr' at' a0 s hs hf hA =>
    refine ⟨True, at', 0, told_of h hC hc r pc _ at' 2 a0 s hs hf (hA.trans ?_) True 0 (fun _ => ⟨trivial, rfl⟩) (fun i _ => by rw [hr']) (fun _ => hr') (fun g => absurd g hk) (by rw [hr'])⟩
    unfold Sp.putA
    rw [if_pos hf]
theorem exe_r0 (A : List Pg) (r : List Int) (pc : Int) (x : Ins) (hd : ∃ d : Nat, x.d = d) : rg (exe A r pc x).r 0 = rg r 0 := by
  have hp : ∀ v, rg (putG r x.d v) 0 = rg r 0 := fun v => by obtain ⟨d, e⟩ := hd; rw [e]; exact rg_zero d v
  have hl : ∀ n, rg (loads A r pc x n).r 0 = rg r 0 := fun n => by
    unfold loads
    split
    · exact hp _
    · rfl
  have hs : ∀ n, rg (stores A r pc x n).r 0 = rg r 0 := fun n => by
    unfold stores
    split <;> rfl
  unfold exe
  by_cases c0 : x.op ≤ 14
  · rw [if_pos c0]; exact hp _
  rw [if_neg c0]
  by_cases c1 : x.op ≤ 30
  · rw [if_pos c1]; exact hp _
  rw [if_neg c1]
  by_cases c2 : x.op = 32
  · rw [if_pos c2]; exact hp _
  rw [if_neg c2]
  by_cases c3 : x.op = 33
  · rw [if_pos c3]; exact hl _
  rw [if_neg c3]
  by_cases c4 : x.op = 34
  · rw [if_pos c4]; exact hl _
  rw [if_neg c4]
  by_cases c5 : x.op = 35
  · rw [if_pos c5]; exact hs _
  rw [if_neg c5]
  by_cases c6 : x.op = 36
  · rw [if_pos c6]; exact hs _
  rw [if_neg c6]
  by_cases c7 : x.op = 40
  · rw [if_pos c7]; rfl
  rw [if_neg c7]
  by_cases c8 : x.op = 41
  · rw [if_pos c8]; exact hp _
  rw [if_neg c8]
  by_cases c9 : x.op = 42
  · rw [if_pos c9]; rfl
  rw [if_neg c9]
  by_cases c10 : x.op = 43
  · rw [if_pos c10]; rfl
  rw [if_neg c10]
  by_cases c11 : x.op = 44
  · rw [if_pos c11]; rfl
  rw [if_neg c11]
  by_cases c12 : x.op = 45
  · rw [if_pos c12]; rfl
  rw [if_neg c12]
  by_cases c13 : x.op = 46
  · rw [if_pos c13]; rfl
  rw [if_neg c13]
theorem stp_r0 (A : List Pg) (r : List Int) (pc : Int) : rg (stp A r pc).r 0 = rg r 0 := by
  unfold stp
  split
  · split
    · rename_i hd
      have hm := Ins.decB_may hd
      have hok := Ins.decI_ok (Ins.decB_size hd)
      have hsm := Ins.may_small hm hok
      exact exe_r0 _ _ _ _ (Int.eq_ofNat_of_zero_le hsm.1)
    · rfl
  · rfl
theorem run_r0 : ∀ (n : Nat) (A : List Pg) (r : List Int) (pc : Int), rg (run A r pc n).1.r 0 = rg r 0
  | 0, _, _, _ => rfl
  | n + 1, A, r, pc => by
    simp only [run]
    split
    · exact (run_r0 n _ _ _).trans (stp_r0 A r pc)
    · split <;> exact stp_r0 A r pc
end Cp
end Go.Proofs.YtldmglodjafklaaGreat
