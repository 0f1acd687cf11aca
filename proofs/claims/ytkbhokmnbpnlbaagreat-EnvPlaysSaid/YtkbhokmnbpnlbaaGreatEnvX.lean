/- EnvX: AloneP, EnvX in one text. -/
import Derived.Test.YtkbhokmnbpnlbaaGreatKeepsP
import Derived.Test.YtkbhokmnbpnlbaaGreatCpuW
import Derived.Test.YtkbhokmnbpnlbaaGreatEnvW
import Derived.Deep.QuietTactic
import Derived.BigQuiet
/- The plain law behind aediculelaw06.CpuAlone: what a step changes. -/
namespace Go.Proofs.YtkbhokmnbpnlbaaGreat
open Go.RowKit Word
set_option linter.unusedVariables false
namespace Cp
open Kp (Ok)
/-- Which bytes a step writes: none; or some in a row. -/
inductive Chg (A : List Pg) (r : List Int) (pc : Int) (o : Out) : Prop
  | none (hA : o.A = A) (hr : o.r = r) (hp : o.kind = 2 → o.pc = pc)
  | reg (hk : o.kind ≠ 2) (hA : o.A = A) (d : Nat) (hd : d < 16) (v : Int) (hr : o.r = putG r d v)
  | mem (hk : o.kind ≠ 2) (hr : o.r = r) (at' : Int) (a0 : 0 ≤ at') (s : ByteArray) (hs : s.size ≤ 4) (hf : Sp.fitsB A at' s.size 2 = true) (hA : o.A = putN A at' (nums s) s.size)
theorem putL_bd (v : Int) (h0 : 0 ≤ v) (h1 : v ≤ 4294967295) : ∀ x, x ∈ putL v → 0 ≤ x ∧ x < 256 := by
  intro x hx
  simp only [putL, List.mem_cons, List.not_mem_nil, or_false] at hx
  rcases hx with rfl | rfl | rfl | rfl <;> omega
theorem chg_stores {A : List Pg} {r : List Int} (hr : Regs r) (pc : Int) (x : Ins) (n : Nat) (hn : n ≤ 4) : Chg A r pc (stores A r pc x n) := by
  unfold stores
  split
  · rename_i h
    have hb := rg_bd hr x.b
    have hl : ((putL (rg r x.b)).take n).length = n := by rw [List.length_take]; simp [putL]; omega
    have hbd : ∀ y, y ∈ (putL (rg r x.b)).take n → 0 ≤ y ∧ y < 256 := fun y hy => putL_bd _ hb.1 hb.2 y (List.mem_of_mem_take hy)
    refine .mem (by simp [goes]) rfl (addr r x) (Int.emod_nonneg _ (by omega)) (strOfNums ((putL (rg r x.b)).take n)) (by rw [size_strOfNums, hl]; exact hn) (by rw [size_strOfNums, hl]; exact h) ?_
    rw [size_strOfNums, hl, nums_strOfNums _ hbd]
    rfl
  · exact .none rfl rfl fun _ => rfl
theorem chg_loads {A : List Pg} {r : List Int} (pc : Int) (x : Ins) (n : Nat) (hd : ∃ d : Nat, d < 16 ∧ x.d = d) : Chg A r pc (loads A r pc x n) := by
  obtain ⟨d, hd, e⟩ := hd
  unfold loads
  split
  · exact .reg (by simp [goes]) rfl d hd _ (by rw [← e]; rfl)
  · exact .none rfl rfl fun _ => rfl
theorem chg_exe {A : List Pg} {r : List Int} (hr : Regs r) (pc : Int) (x : Ins) (hd : ∃ d : Nat, d < 16 ∧ x.d = d) : Chg A r pc (exe A r pc x) := by
  obtain ⟨d, hd16, e⟩ := hd
  unfold exe
  by_cases c0 : x.op ≤ 14
  · rw [if_pos c0]; exact .reg (by simp [goes]) rfl d hd16 _ (by rw [← e]; rfl)
  rw [if_neg c0]
  by_cases c1 : x.op ≤ 30
  · rw [if_pos c1]; exact .reg (by simp [goes]) rfl d hd16 _ (by rw [← e]; rfl)
  rw [if_neg c1]
  by_cases c2 : x.op = 32
  · rw [if_pos c2]; exact .reg (by simp [goes]) rfl d hd16 _ (by rw [← e]; rfl)
  rw [if_neg c2]
  by_cases c3 : x.op = 33
  · rw [if_pos c3]; exact chg_loads _ _ _ ⟨d, hd16, e⟩
  rw [if_neg c3]
  by_cases c4 : x.op = 34
  · rw [if_pos c4]; exact chg_loads _ _ _ ⟨d, hd16, e⟩
  rw [if_neg c4]
  by_cases c5 : x.op = 35
  · rw [if_pos c5]; exact chg_stores hr _ _ _ (by omega)
  rw [if_neg c5]
  by_cases c6 : x.op = 36
  · rw [if_pos c6]; exact chg_stores hr _ _ _ (by omega)
  rw [if_neg c6]
  by_cases c7 : x.op = 40
  · rw [if_pos c7]; exact .none rfl rfl fun g => absurd g (by simp [goes])
  rw [if_neg c7]
  by_cases c8 : x.op = 41
  · rw [if_pos c8]; exact .reg (by simp [goes]) rfl d hd16 _ (by rw [← e]; rfl)
  rw [if_neg c8]
  by_cases c9 : x.op = 42
  · rw [if_pos c9]; exact .none rfl rfl fun g => absurd g (by simp [goes])
  rw [if_neg c9]
  by_cases c10 : x.op = 43
  · rw [if_pos c10]; exact .none rfl rfl fun g => absurd g (by simp [goes])
  rw [if_neg c10]
  by_cases c11 : x.op = 44
  · rw [if_pos c11]; exact .none rfl rfl fun g => absurd g (by simp [goes])
  rw [if_neg c11]
  by_cases c12 : x.op = 45
  · rw [if_pos c12]; exact .none rfl rfl fun g => absurd g (by simp [goes])
  rw [if_neg c12]
  by_cases c13 : x.op = 46
  · rw [if_pos c13]; exact .none rfl rfl fun g => absurd g (by simp [goes])
  rw [if_neg c13]
  exact .none rfl rfl fun g => absurd g (by simp)
theorem chg_stp {A : List Pg} {r : List Int} (hr : Regs r) (pc : Int) : Chg A r pc (stp A r pc) := by
  unfold stp
  split
  · split
    · rename_i hd
      have hm := Ins.decB_may hd
      have hok := Ins.decI_ok (Ins.decB_size hd)
      have hsm := Ins.may_small hm hok
      generalize Ins.decI (strOfNums (Sp.getL A pc 8)) = x at *
      obtain ⟨d0, d1, _⟩ := hsm
      obtain ⟨d, hd⟩ := Int.eq_ofNat_of_zero_le d0
      exact chg_exe hr pc x ⟨d, by omega, hd⟩
    · exact .none rfl rfl fun _ => rfl
  · exact .none rfl rfl fun _ => rfl
theorem rg_putG {r : List Int} (d : Nat) (v : Int) (i : Nat) (h : i ≠ d) : rg (putG r d v) i = rg r i := by
  unfold putG
  split
  · rfl
  · unfold rg
    rw [Int.toNat_natCast, Int.toNat_natCast, List.getD, List.getElem?_set_ne (by omega)]
    rfl
theorem rg_zero {r : List Int} (d : Nat) (v : Int) : rg (putG r d v) 0 = rg r 0 := by
  by_cases h : d = 0
  · subst h; rfl
  · exact rg_putG d v 0 (fun e => h e.symm)
/-- What the statement asks of a step: D: bytes may have changed; those from lo on. -/
structure Told (A A1 C : List Pg) (r : List Int) (pc : Int) (o : Out) (D : Prop) (lo : Int) (d : Nat) : Prop where
  l0 : 0 ≤ lo
  regs : ∀ i : Nat, i ≠ d → rg o.r i = rg r i
  calm : D → o.r = r
  still : o.kind = 2 → o.r = r ∧ o.pc = pc ∧ ¬ D
  zero : rg o.r 0 = rg r 0
  same : Pag.addrs A1 = Pag.addrs C
  up : ∀ i j, i < j → j < (Pag.addrs A1).length → ∀ p q, (Pag.addrs A1)[i]? = some p → (Pag.addrs A1)[j]? = some q → p + 256 ≤ q
  page : ∀ i, i < (Pag.addrs A1).length → ∃ p, (Pag.addrs A1)[i]? = some p ∧ 0 ≤ p ∧ p < 1048576 ∧ Sp.getE A1 p 256 0 = 0 ∧ Sp.getE C p 256 0 = 0 ∧ (Sp.getS A1 p 256 0).size = 256 ∧ (Sp.getS C p 256 0).size = 256 ∧ 0 ≤ Sp.permV A1 p ∧ Sp.permV A1 p ≤ 7 ∧
    ∀ k : Nat, k < 256 → (D ∧ Go.bits .and .u8 (Sp.permV A1 p) 2 = 2 ∧ lo ≤ p + k ∧ p + k < lo + 4) ∨ (nums (Sp.getS A1 p 256 0)).getD k 0 = (nums (Sp.getS C p 256 0)).getD k 0
theorem addrs_up {A : List Pg} (h : Ok A) (i j : Nat) (hij : i < j) (hj : j < (Pag.addrs A).length) (p q : Int) (hp : (Pag.addrs A)[i]? = some p) (hq : (Pag.addrs A)[j]? = some q) : p + 256 ≤ q := by
  unfold Pag.addrs at hp hq hj
  rw [List.length_map] at hj
  rw [List.getElem?_map, List.getElem?_eq_getElem (by omega)] at hp hq
  simp only [Option.map_some, Option.some.injEq] at hp hq
  have g := (List.pairwise_iff_getElem.1 h.up) i j (by omega) hj hij
  have m1 := (h.ok _ (List.getElem_mem (show i < A.length by omega))).a2
  have m2 := (h.ok _ (List.getElem_mem hj)).a2
  rw [hp, hq] at g
  rw [hp] at m1
  rw [hq] at m2
  omega
theorem told_of {A C : List Pg} (h : Ok A) (hC : Ok C) (hc : cores C = cores A) (r : List Int) (pc : Int) (o : Out) (at' need : Int) (a0 : 0 ≤ at') (s : ByteArray) (hs : s.size ≤ 4) (hf : Sp.fitsB A at' s.size need = true) (hA : o.A = Sp.putA A at' need s) (D : Prop) (d : Nat)
    (hD : 0 < s.size → D ∧ need = 2) (regs : ∀ i : Nat, i ≠ d → rg o.r i = rg r i) (calm : D → o.r = r) (still : o.kind = 2 → o.r = r ∧ o.pc = pc ∧ ¬ D) (zero : rg o.r 0 = rg r 0) : Told A o.A C r pc o D at' d := by
  have F := Kp.facts h hC hc at' need s (by omega)
  have hA1 : Ok (Sp.putA A at' need s) := by
    unfold Sp.putA
    rw [if_pos hf]
    exact (Kp.putN_facts h at' s s.size (Nat.le_refl _)).1
  rw [← hA] at F hA1
  refine ⟨a0, regs, calm, still, zero, F.same, fun i j hij hj p q hp hq => addrs_up hA1 i j hij hj p q hp hq, fun i hi => ?_⟩
  obtain ⟨p, hp, p0, p1, f1, f2, f3, f4, f5, f6⟩ := F.page i hi
  obtain ⟨pg, hpg, hpe⟩ := List.mem_map.1 (List.mem_of_getElem? hp)
  have hpo := hA1.ok pg hpg
  have hpm : Sp.permV o.A p = pg.perm := by
    have := Kp.page_in hA1 hpg 0 (by omega)
    unfold Sp.permV
    rw [show pageAt o.A p = some pg by rw [← hpe]; simpa using this]
  refine ⟨p, hp, p0, p1, f1, f2, f3, f4, by rw [hpm]; exact hpo.p0, by rw [hpm]; exact hpo.p1, fun k hk => ?_⟩
  rcases f6 k hk with ⟨_, g1, g2⟩ | g
  · left
    obtain ⟨hd, hn⟩ := hD (by omega)
    subst hn
    refine ⟨hd, ?_, g1, by omega⟩
    rw [f5, Cor.permV hc]
    obtain ⟨m, hm⟩ := Int.eq_ofNat_of_zero_le (show 0 ≤ p + k - at' by omega)
    have hat := Sp.fitsB_at (show m < s.size by omega) hf
    rw [show at' + (m : Int) = p + k by omega] at hat
    unfold Sp.okAt at hat
    have ha2 := hpo.a2
    rw [hpe] at ha2
    have hpp : pageAt A (p + k) = pageAt A p := by
      unfold pageAt
      rw [show p + (k : Int) - (p + k) % 256 = p by omega, show p - p % 256 = p by omega]
    rw [hpp] at hat
    unfold Sp.permV
    cases hq : pageAt A p with
    | none => rw [hq] at hat; cases hat
    | some q => rw [hq] at hat; exact beq_iff_eq.1 hat
  · exact .inr g
/-- Of any step. -/
theorem told_stp {A C : List Pg} (h : Ok A) (hC : Ok C) (hc : cores C = cores A) {r : List Int} (hr : Regs r) (pc : Int) : ∃ (D : Prop) (lo : Int) (d : Nat), Told A (stp A r pc).A C r pc (stp A r pc) D lo d := by
  have he : ∀ x, Sp.fitsB A x (ByteArray.empty).size 0 = true := fun x => rfl
  have hz : ∀ x, A = Sp.putA A x 0 ByteArray.empty := fun x => by
    unfold Sp.putA
    rw [if_pos (he x)]
    rfl
  cases chg_stp (A := A) hr pc with
  | none hA hr' hp => exact ⟨False, 0, 0, told_of h hC hc r pc _ 0 0 (by omega) ByteArray.empty (by decide) (he 0) (hA.trans (hz 0)) False 0 (fun g => absurd g (by decide)) (fun i _ => by rw [hr']) (fun g => g.elim) (fun g => ⟨hr', hp g, id⟩) (by rw [hr'])⟩
  | reg hk hA d hd v hr' => exact ⟨False, 0, d, told_of h hC hc r pc _ 0 0 (by omega) ByteArray.empty (by decide) (he 0) (hA.trans (hz 0)) False d (fun g => absurd g (by decide)) (fun i hi => by rw [hr', rg_putG d v i hi]) (fun g => g.elim) (fun g => absurd g hk) (by rw [hr', rg_zero])⟩
  | mem hk hr' at' a0 s hs hf hA =>
    refine ⟨True, at', 0, told_of h hC hc r pc _ at' 2 a0 s hs hf (hA.trans ?_) True 0 (fun _ => ⟨trivial, rfl⟩) (fun i _ => by rw [hr']) (fun _ => hr') (fun g => absurd g hk) (by rw [hr'])⟩
    unfold Sp.putA
    rw [if_pos hf]
theorem exe_r0 (A : List Pg) (r : List Int) (pc : Int) (x : Ins) (hd : ∃ d : Nat, x.d = d) : rg (exe A r pc x).r 0 = rg r 0 := by
  have hp : ∀ v, rg (putG r x.d v) 0 = rg r 0 := fun v => by obtain ⟨d, e⟩ := hd; rw [e]; exact rg_zero d v
  have hl : ∀ n, rg (loads A r pc x n).r 0 = rg r 0 := fun n => by
    unfold loads
    split
    · exact hp _
    · rfl
  have hs : ∀ n, rg (stores A r pc x n).r 0 = rg r 0 := fun n => by
    unfold stores
    split <;> rfl
  unfold exe
  by_cases c0 : x.op ≤ 14
  · rw [if_pos c0]; exact hp _
  rw [if_neg c0]
  by_cases c1 : x.op ≤ 30
  · rw [if_pos c1]; exact hp _
  rw [if_neg c1]
  by_cases c2 : x.op = 32
  · rw [if_pos c2]; exact hp _
  rw [if_neg c2]
  by_cases c3 : x.op = 33
  · rw [if_pos c3]; exact hl _
  rw [if_neg c3]
  by_cases c4 : x.op = 34
  · rw [if_pos c4]; exact hl _
  rw [if_neg c4]
  by_cases c5 : x.op = 35
  · rw [if_pos c5]; exact hs _
  rw [if_neg c5]
  by_cases c6 : x.op = 36
  · rw [if_pos c6]; exact hs _
  rw [if_neg c6]
  by_cases c7 : x.op = 40
  · rw [if_pos c7]; rfl
  rw [if_neg c7]
  by_cases c8 : x.op = 41
  · rw [if_pos c8]; exact hp _
  rw [if_neg c8]
  by_cases c9 : x.op = 42
  · rw [if_pos c9]; rfl
  rw [if_neg c9]
  by_cases c10 : x.op = 43
  · rw [if_pos c10]; rfl
  rw [if_neg c10]
  by_cases c11 : x.op = 44
  · rw [if_pos c11]; rfl
  rw [if_neg c11]
  by_cases c12 : x.op = 45
  · rw [if_pos c12]; rfl
  rw [if_neg c12]
  by_cases c13 : x.op = 46
  · rw [if_pos c13]; rfl
  rw [if_neg c13]
theorem stp_r0 (A : List Pg) (r : List Int) (pc : Int) : rg (stp A r pc).r 0 = rg r 0 := by
  unfold stp
  split
  · split
    · rename_i hd
      have hm := Ins.decB_may hd
      have hok := Ins.decI_ok (Ins.decB_size hd)
      have hsm := Ins.may_small hm hok
      exact exe_r0 _ _ _ _ (Int.eq_ofNat_of_zero_le hsm.1)
    · rfl
  · rfl
theorem run_r0 : ∀ (n : Nat) (A : List Pg) (r : List Int) (pc : Int), rg (run A r pc n).1.r 0 = rg r 0
  | 0, _, _, _ => rfl
  | n + 1, A, r, pc => by
    simp only [run]
    split
    · exact (run_r0 n _ _ _).trans (stp_r0 A r pc)
    · split <;> exact stp_r0 A r pc
end Cp
end Go.Proofs.YtkbhokmnbpnlbaaGreat
/- The walks of an environment's methods, second part. -/
namespace Go.Proofs.YtkbhokmnbpnlbaaGreat
open Go.RowKit Word
set_option linter.unusedVariables false
set_option linter.unusedSimpArgs false
namespace Ev
section
variable {w : World} {a : EAt} {E : En}
theorem addrs_set (A : List Pg) (x v : Int) : (setByte A x v).map Pg.addr = A.map Pg.addr := by
  unfold setByte
  rw [List.map_map]
  exact List.map_congr_left fun p _ => setPg_addr x v p
theorem addrs_putN (A : List Pg) (addr : Int) (xs : List Int) : ∀ k, (putN A addr xs k).map Pg.addr = A.map Pg.addr
  | 0 => rfl
  | k + 1 => (addrs_set _ _ _).trans (addrs_putN A addr xs k)
theorem addrs_stp {A : List Pg} {r : List Int} (hr : Cp.Regs r) (pc : Int) : (Cp.stp A r pc).A.map Pg.addr = A.map Pg.addr := by
  cases Cp.chg_stp (A := A) hr pc with
  | none hA => rw [hA]
  | reg _ hA => rw [hA]
  | mem _ _ at' _ s _ _ hA => rw [hA]; exact addrs_putN _ _ _ _
set_option maxRecDepth 100000 in
set_option maxHeartbeats 4000000 in
theorem step (h : Env w a E) : Calls Tryz.prog 25 #[.pointer (some ⟨a.eb, 0, none⟩)] w fun e w' => e = .returned (.tuple #[.agg #[.int .u8 E.stop.1, .int .u32 E.stop.2.1, .int .i64 E.stop.2.2], .int .i64 E.redE]) ∧ EStep w w' a E a E.step := by
  have hbx : Below w.heap.size w (w.alloc (.cells #[.int .u8 0, .int .u32 0, .int .i64 0] 67)) := (Below.refl _ _).alloc (Nat.le_refl _) _
  have HR := Lib.hid (ready (h.below hbx))
  by_cases hk : E.kind = 2
  · have e : E.redE = 0 := by unfold En.redE; rw [if_neg (by omega)]
    rw [e] at HR ⊢
    have e1 : E.stop = ((Cp.stp E.A E.r E.pc).kind, (Cp.stp E.A E.r E.pc).num, (Cp.stp E.A E.r E.pc).why) := by unfold En.stop; rw [if_neg (by omega)]
    have hrs : Hid ((w.alloc (.cells #[.int .u8 0, .int .u32 0, .int .i64 0] 67)).heap[w.heap.size]? = some (.cells #[.int .u8 0, .int .u32 0, .int .i64 0] 67 (0, 0))) := Lib.hid (heap_alloc_new w _)
    have HW := Lib.hid (h.below hbx)
    have HWs := Lib.hid (EStep.of_below h hbx)
    have Hsz : Hid ((w.alloc (.cells #[.int .u8 0, .int .u32 0, .int .i64 0] 67)).heap.size = w.heap.size + 1) := Lib.hid (by simp)
    have HL : Hid (∀ k, a.foot E.A k → k < w.heap.size) := Lib.hid h.lt
    have ea := addrs_stp (A := E.A) h.cp.regs E.pc
    have eb := Cp.blks_stp E.A E.r E.pc
    have e2 : E.step = if (Cp.stp E.A E.r E.pc).kind = 2 then { E with A := (Cp.stp E.A E.r E.pc).A, r := (Cp.stp E.A E.r E.pc).r, pc := (Cp.stp E.A E.r E.pc).pc, kind := 4, code := 0, why := (Cp.stp E.A E.r E.pc).why } else { E with A := (Cp.stp E.A E.r E.pc).A, r := (Cp.stp E.A E.r E.pc).r, pc := (Cp.stp E.A E.r E.pc).pc } := by unfold En.step; rw [if_neg (by omega)]
    have hst : ∀ V, Env V a E → Calls Tryz.prog 70 #[.pointer (some ⟨a.cb, 0, none⟩), .pointer (some ⟨a.sb, 0, none⟩)] V (fun e w' => e = .returned (.agg #[.int .u8 (Cp.stp E.A E.r E.pc).kind, .int .u32 (Cp.stp E.A E.r E.pc).num, .int .i64 (Cp.stp E.A E.r E.pc).why]) ∧ Cpu 233 w' a.cb (Cp.stp E.A E.r E.pc).r (Cp.stp E.A E.r E.pc).pc ∧ Spc w' a.sb a.mb (Cp.stp E.A E.r E.pc).A ∧ Mod (fun k => k = a.cb ∨ Sp.pgBlk E.A k) V w') := fun V hV => Cp.step hV.cp hV.sp hV.cs
    rw [e1, e2]
    clear e e1 e2
    generalize Cp.stp E.A E.r E.pc = o at *
    obtain ⟨kind, num, why, r2, pc2, A2⟩ := o
    simp only at ea eb hst ⊢
    have HSt := Lib.hid hst
    have HEa := Lib.hid ea
    have HEb := Lib.hid eb
    clear hst ea eb hbx hk h
    go_enter Tryz.func25, Tryz.ntmps25
    go_wp2_with fail
    refine HR.out.mono ?_
    rintro e w2 ⟨rfl, rfl⟩
    clear HR
    generalize hWW : w.alloc (.cells #[.int .u8 0, .int .u32 0, .int .i64 0] 67) = W at *
    have HHW := Lib.hid hWW
    clear hWW
    obtain ⟨c0, _, c2, _, _, _, _, _⟩ := cells HW.out
    have cA := fun o => cells (HW.out.below ((Below.refl _ W).alloc (Nat.le_refl _) o))
    have cA0 := fun o => (cA o).1
    have cA2 := fun o => (cA o).2.2.1
    have HBd : Hid (∀ o, Below W.heap.size W (W.alloc o)) := Lib.hid fun o => (Below.refl _ _).alloc (Nat.le_refl _) o
    have HBx : Hid (∀ V V' : World, V.heap[W.heap.size]? = some (.cells #[.int .u8 0, .int .u32 0, .int .i64 0] 67 (0, 0)) → Mod (fun k => k = a.cb ∨ Sp.pgBlk E.A k) V V' → StpBox V' W.heap.size 0 0 0) := Lib.hid fun V V' hV hm => StpBox.mod ⟨hV⟩ hm (by
      rintro (g | g)
      · have := HW.out.cp.lt; omega
      · have := HW.out.sp.lt (.inr (.inr g)); omega)
    have HN : Hid (∀ A', Cp.blks A' = Cp.blks E.A → ¬ a.foot A' W.heap.size) := Lib.hid fun A' e g => by
      have hlt := HL.out
      have : a.foot E.A W.heap.size := by
        rcases g with q | q | q | q
        · exact .inl q
        · exact .inr (.inl q)
        · exact .inr (.inr (.inl ((Cp.foot_iff e).1 q)))
        · exact .inr (.inr (.inr q))
      have := hlt _ this
      have := Hsz.out
      omega
    clear cA
    go_upto_region 4 with fail
    go_cut [5] (fun s5 wx => ∃ B : Nat, s5 = .pointer (some ⟨B, 0, none⟩) ∧ StpBox wx B kind num why ∧ W.heap.size ≤ B ∧ EStep W wx a E a { E with A := A2, r := r2, pc := pc2 })
    case first =>
      go_region_with (go_at_call 70
                      first
                        | (have hbV := Below.refl W.heap.size W
                           (with_reducible refine (HSt.out _ (HW.out.below hbV)).mono ?_)
                           rintro e w3 ⟨rfl, hc3, hs3, hm3⟩
                           have HS3 := Lib.hid ((EStep.cpu (HW.out.below hbV) hc3 hs3 HEb.out HEa.out hm3).pre hbV))
                        | (have hbV := (Below.refl W.heap.size W).drew
                           (with_reducible refine (HSt.out _ (HW.out.below hbV)).mono ?_)
                           rintro e w3 ⟨rfl, hc3, hs3, hm3⟩
                           have HS3 := Lib.hid ((EStep.cpu (HW.out.below hbV) hc3 hs3 HEb.out HEa.out hm3).pre hbV))
                        | (have hbV := HBd.out (.cells #[.int .u8 0, .int .u32 0, .int .i64 0] 67)
                           (with_reducible refine (HSt.out _ (HW.out.below hbV)).mono ?_)
                           rintro e w3 ⟨rfl, hc3, hs3, hm3⟩
                           have HS3 := Lib.hid ((EStep.cpu (HW.out.below hbV) hc3 hs3 HEb.out HEa.out hm3).pre hbV)
                           have HB3 := Lib.hid (HBx.out _ _ (by exact heap_alloc_new W _) hm3)
                           obtain ⟨t0, t1, t2, f0, f1, f2⟩ := HB3.out.cells)
                        | (have hbV := (HBd.out (.cells #[.int .u8 0, .int .u32 0, .int .i64 0] 67)).drew
                           (with_reducible refine (HSt.out _ (HW.out.below hbV)).mono ?_)
                           rintro e w3 ⟨rfl, hc3, hs3, hm3⟩
                           have HS3 := Lib.hid ((EStep.cpu (HW.out.below hbV) hc3 hs3 HEb.out HEa.out hm3).pre hbV)
                           have HB3 := Lib.hid (HBx.out _ _ (by exact heap_alloc_new W _) hm3)
                           obtain ⟨t0, t1, t2, f0, f1, f2⟩ := HB3.out.cells))
      all_goals go_wp2_with fail
      all_goals go_meet
      all_goals first
        | exact ⟨_, rfl, ⟨heap_alloc_new w3 _⟩, HS3.out.mod.size, HS3.out.below ((Below.refl _ _).alloc (Nat.le_refl _) _)⟩
        | exact ⟨_, rfl, HB3.out.set _ _ _, Nat.le_refl _, HS3.out.turn (stp_mod _ _ _ _ _) (fun k hk => by subst hk; exact ⟨HN.out _ HEb.out, Nat.le_refl _⟩)⟩
    case rest =>
      obtain ⟨B, rfl, hbx, hB, hes⟩ := hcut
      have hnf : ¬ a.foot A2 w.heap.size := fun g => by
        rcases hes.foot _ g with q | q
        · have hh := HL.out
          have := hh _ q
          omega
        · have := Hsz.out
          omega
      have hr : StpBox wc w.heap.size 0 0 0 := ⟨(hes.mod.block _ (by have := Hsz.out; omega) (fun g => by have hh := HL.out; have := hh _ g; omega)).trans hrs.out⟩
      have hBe : B ≠ a.eb := fun e => by have hh := HL.out; have := hh _ (.inl rfl : a.foot E.A a.eb); have := Hsz.out; omega
      have hBw : B ≠ w.heap.size := fun e => by have := Hsz.out; omega
      have hwe : w.heap.size ≠ a.eb := fun e => by have hh := HL.out; have := hh _ (.inl rfl : a.foot E.A a.eb); omega
      have HE := Lib.hid (HWs.out.trans hes)
      have HNf := Lib.hid hnf
      have HLw : Hid (w.heap.size ≤ w.heap.size) := Lib.hid (Nat.le_refl _)
      clear c0 c2 cA0 cA2 HN HBx HBd HW HWs HHW hes hB hnf hrs HL HSt HEa HEb Hsz
      by_cases h2 : kind = 2
      · subst h2
        obtain ⟨_, _, _, _, k4, k5, k6, _⟩ := cells HE.out.env
        have f4 := HE.out.env.free 4
        have f5 := HE.out.env.free 5
        have f6 := HE.out.env.free 6
        have hm : Mod (fun i => i = a.eb) wc (((wc.setCell ⟨a.eb, 4, none⟩ (.int .u8 4)).setCell ⟨a.eb, 5, none⟩ (.int .u32 0)).setCell ⟨a.eb, 6, none⟩ (.int .i64 why)) := Mod.setCell (F := fun i => i = a.eb) (Mod.setCell (F := fun i => i = a.eb) (Mod.setCell (F := fun i => i = a.eb) (Mod.refl _ _) ⟨a.eb, 4, none⟩ (.inl rfl) _) ⟨a.eb, 5, none⟩ (.inl rfl) _) ⟨a.eb, 6, none⟩ (.inl rfl) _
        obtain ⟨t0, t1, t2, _, _, _⟩ := hbx.cells
        obtain ⟨y0, y1, y2, _, _, _⟩ := (hbx.mod hm hBe).cells
        obtain ⟨r0, r1, r2', g0, g1, g2⟩ := (hr.mod hm hwe).cells
        have HF := Lib.hid ((HE.out.trans (EStep.setState HE.out.env 4 0 why)).turn (stp_mod _ w.heap.size (.int .u8 2) (.int .u32 num) (.int .i64 why)) (fun k hk => by subst hk; exact ⟨HNf.out, HLw.out⟩))
        have HR2 := Lib.hid (hr.mod hm hwe)
        clear hm hbx hr HE
        go_wp2
        obtain ⟨v0, v1, v2, _, _, _⟩ := (HR2.out.set 2 num why).cells
        refine bodyPost_ret (v := .tuple #[.agg #[.int .u8 2, .int .u32 num, .int .i64 why], .int .i64 0]) (by simp [results, Tryz.results25, go_sem, *]) rfl ?_
        exact ⟨rfl, HF.out⟩
      · have H2 := Lib.hid h2
        have hkb : (kind == 2) = false := beq_eq_false_iff_ne.2 h2
        obtain ⟨t0, t1, t2, _, _, _⟩ := hbx.cells
        obtain ⟨r0, r1, r2', g0, g1, g2⟩ := hr.cells
        have HF := Lib.hid (HE.out.turn (stp_mod _ w.heap.size (.int .u8 kind) (.int .u32 num) (.int .i64 why)) (fun k hk => by subst hk; exact ⟨HNf.out, HLw.out⟩))
        have HR2 := Lib.hid hr
        clear hbx hr HE
        go_wp2
        obtain ⟨v0, v1, v2, _, _, _⟩ := (HR2.out.set kind num why).cells
        refine bodyPost_ret (v := .tuple #[.agg #[.int .u8 kind, .int .u32 num, .int .i64 why], .int .i64 0]) (by simp [results, Tryz.results25, go_sem, *]) rfl ?_
        exact ⟨rfl, HF.out⟩
  · have e : E.redE = 3 := by unfold En.redE; rw [if_pos hk]
    have e2 : E.stop = (0, 0, 0) := by unfold En.stop; rw [if_pos hk]
    have e3 : E.step = E := by unfold En.step; rw [if_pos hk]
    have HS := Lib.hid (EStep.of_below h hbx)
    rw [e] at HR ⊢
    rw [e2, e3]
    clear e e2 e3 hk h hbx
    go_enter Tryz.func25, Tryz.ntmps25
    go_wp2_with fail
    refine HR.out.mono ?_
    rintro e w2 ⟨rfl, rfl⟩
    go_wp2
    refine bodyPost_ret (v := .tuple #[.agg #[.int .u8 0, .int .u32 0, .int .i64 0], .int .i64 3]) (by simp [results, Tryz.results25, go_sem, *]) rfl ?_
    exact ⟨rfl, HS.out⟩
end
end Ev
end Go.Proofs.YtkbhokmnbpnlbaaGreat
