/- CpuW: CpuM, CpuR in one text. -/
import Derived.Test.YtkbhokmnbpnlbaaGreatStepW
/- The walks of the cpu's small methods, and of Run. -/
namespace Go.Proofs.YtkbhokmnbpnlbaaGreat
open Go.RowKit Word
set_option linter.unusedVariables false
namespace Cp
def blks (A : List Pg) : List Nat := A.map Pg.blk
theorem blks_set (A : List Pg) (x v : Int) : blks (setByte A x v) = blks A := by
  unfold blks setByte
  rw [List.map_map]
  exact List.map_congr_left fun p _ => setPg_blk x v p
theorem blks_putN (A : List Pg) (addr : Int) (xs : List Int) : ∀ k, blks (putN A addr xs k) = blks A
  | 0 => rfl
  | k + 1 => (blks_set _ _ _).trans (blks_putN A addr xs k)
theorem pgBlk_iff {A B : List Pg} (h : blks A = blks B) (k : Nat) : Sp.pgBlk A k ↔ Sp.pgBlk B k := by
  have e : ∀ C : List Pg, Sp.pgBlk C k ↔ k ∈ blks C := fun C => by
    unfold Sp.pgBlk blks
    rw [List.mem_map]
    exact ⟨fun ⟨p, h1, h2⟩ => ⟨p, h1, h2.symm⟩, fun ⟨p, h1, h2⟩ => ⟨p, h1, h2.symm⟩⟩
  rw [e, e, h]
theorem foot_iff {A B : List Pg} (h : blks A = blks B) {sb mb k : Nat} : Spc.foot sb mb A k ↔ Spc.foot sb mb B k := by
  unfold Spc.foot
  have := pgBlk_iff h k
  unfold Sp.pgBlk at this
  rw [this]
theorem blks_loads (A : List Pg) (r : List Int) (pc : Int) (x : Ins) (n : Nat) : blks (loads A r pc x n).A = blks A := by unfold loads; split <;> rfl
theorem blks_stores (A : List Pg) (r : List Int) (pc : Int) (x : Ins) (n : Nat) : blks (stores A r pc x n).A = blks A := by
  unfold stores
  split
  · exact blks_putN _ _ _ _
  · rfl
theorem blks_exe (A : List Pg) (r : List Int) (pc : Int) (x : Ins) : blks (exe A r pc x).A = blks A := by
  unfold exe
  by_cases c0 : x.op ≤ 14
  · rw [if_pos c0]; rfl
  rw [if_neg c0]
  by_cases c1 : x.op ≤ 30
  · rw [if_pos c1]; rfl
  rw [if_neg c1]
  by_cases c2 : x.op = 32
  · rw [if_pos c2]; rfl
  rw [if_neg c2]
  by_cases c3 : x.op = 33
  · rw [if_pos c3]; exact blks_loads _ _ _ _ _
  rw [if_neg c3]
  by_cases c4 : x.op = 34
  · rw [if_pos c4]; exact blks_loads _ _ _ _ _
  rw [if_neg c4]
  by_cases c5 : x.op = 35
  · rw [if_pos c5]; exact blks_stores _ _ _ _ _
  rw [if_neg c5]
  by_cases c6 : x.op = 36
  · rw [if_pos c6]; exact blks_stores _ _ _ _ _
  rw [if_neg c6]
  by_cases c7 : x.op = 40
  · rw [if_pos c7]; rfl
  rw [if_neg c7]
  by_cases c8 : x.op = 41
  · rw [if_pos c8]; rfl
  rw [if_neg c8]
  by_cases c9 : x.op = 42
  · rw [if_pos c9]; rfl
  rw [if_neg c9]
  by_cases c10 : x.op = 43
  · rw [if_pos c10]; rfl
  rw [if_neg c10]
  by_cases c11 : x.op = 44
  · rw [if_pos c11]; rfl
  rw [if_neg c11]
  by_cases c12 : x.op = 45
  · rw [if_pos c12]; rfl
  rw [if_neg c12]
  by_cases c13 : x.op = 46
  · rw [if_pos c13]; rfl
  rw [if_neg c13]
theorem blks_stp (A : List Pg) (r : List Int) (pc : Int) : blks (stp A r pc).A = blks A := by
  unfold stp
  split
  · split
    · exact blks_exe _ _ _ _
    · rfl
  · rfl
theorem blks_run : ∀ (n : Nat) (A : List Pg) (r : List Int) (pc : Int), blks (run A r pc n).1.A = blks A
  | 0, _, _, _ => rfl
  | n + 1, A, r, pc => by
    simp only [run]
    split
    · exact (blks_run n _ _ _).trans (blks_stp A r pc)
    · split <;> exact blks_stp A r pc
section
variable {w : World} {cb sb mb : Nat} {A : List Pg} {r : List Int} {pc : Int}
theorem reg_ok (h : Cpu 233 w cb r pc) (n : Nat) (hn : n < 16) :
    Calls Tryz.prog 80 #[.pointer (some ⟨cb, 0, none⟩), .int .i64 n] w fun e w' => e = .returned (.tuple #[.int .u32 (rg r n), .int .i64 0]) ∧ w = w' := by
  have hc := h.cellReg n hn
  have g0 : decide ((n : Int) < 0) = false := decide_eq_false (by omega)
  have g1 : decide ((16 : Int) ≤ n) = false := decide_eq_false (by omega)
  have g2 : (n : Int) < 16 := by omega
  clear h
  go_enter Tryz.func80, Tryz.ntmps80
  go_wp2
  go_ret2
  exact ⟨rfl, rfl⟩
theorem reg_nil (n : Int) (w : World) : Calls Tryz.prog 80 #[.pointer none, .int .i64 n] w fun e w' => e = .returned (.tuple #[.int .u32 0, .int .i64 1]) ∧ w = w' := by
  go_enter Tryz.func80, Tryz.ntmps80
  go_wp2
  go_ret2
  exact ⟨rfl, rfl⟩
theorem setReg_ok (h : Cpu 233 w cb r pc) (n : Nat) (hn : n < 16) (v : Int) (v0 : 0 ≤ v) (v1 : v ≤ 4294967295) :
    Calls Tryz.prog 53 #[.pointer (some ⟨cb, 0, none⟩), .int .i64 n, .int .u32 v] w fun e w' => e = .returned (.int .i64 0) ∧ Cpu 233 w' cb (putG r n v) pc ∧ Mod (fun k => k = cb) w w' := by
  have g0 : decide ((n : Int) < 0) = false := decide_eq_false (by omega)
  have g1 : decide ((16 : Int) ≤ n) = false := decide_eq_false (by omega)
  have g2 : (n : Int) % 256 = n := by omega
  have g3 : IntKind.u8.wrap (n : Int) = n := by rw [IntKind.wrap_u8]; omega
  have H := Lib.hid h
  clear h
  go_enter Tryz.func53, Tryz.ntmps53
  go_wp2_with fail
  refine (put H.out n hn v v0 v1).mono ?_
  rintro e w2 ⟨rfl, hc, hm⟩
  have HC := Lib.hid hc
  have HM := Lib.hid hm
  clear hc hm
  go_wp2
  go_ret
  exact ⟨rfl, HC.out, HM.out⟩
theorem setReg_bad (h : cb < w.heap.size) (n v : Int) (hn : n < 0 ∨ 16 ≤ n) :
    Calls Tryz.prog 53 #[.pointer (some ⟨cb, 0, none⟩), .int .i64 n, .int .u32 v] w fun e w' => e = .returned (.int .i64 2) ∧ w = w' := by
  cases g0 : decide (n < 0) with
  | true =>
    go_enter Tryz.func53, Tryz.ntmps53
    go_wp2
    go_ret
    exact ⟨rfl, rfl⟩
  | false =>
    have g1 : decide (16 ≤ n) = true := decide_eq_true (by have := of_decide_eq_false g0; omega)
    go_enter Tryz.func53, Tryz.ntmps53
    go_wp2
    go_ret
    exact ⟨rfl, rfl⟩
theorem setReg_nil (n v : Int) (w : World) : Calls Tryz.prog 53 #[.pointer none, .int .i64 n, .int .u32 v] w fun e w' => e = .returned (.int .i64 1) ∧ w = w' := by
  go_enter Tryz.func53, Tryz.ntmps53
  go_wp2
  go_ret
  exact ⟨rfl, rfl⟩
theorem pc_ok (h : Cpu 233 w cb r pc) : Calls Tryz.prog 96 #[.pointer (some ⟨cb, 0, none⟩)] w fun e w' => e = .returned (.int .u32 pc) ∧ w = w' := by
  have hc := h.cellPc
  clear h
  go_enter Tryz.func96, Tryz.ntmps96
  go_wp2
  go_ret
  exact ⟨rfl, rfl⟩
theorem pc_nil (w : World) : Calls Tryz.prog 96 #[.pointer none] w fun e w' => e = .returned (.int .u32 0) ∧ w = w' := by
  go_enter Tryz.func96, Tryz.ntmps96
  go_wp2
  go_ret
  exact ⟨rfl, rfl⟩
theorem new (pc : Int) (p0 : 0 ≤ pc) (p1 : pc ≤ 4294967295) (w : World) : Calls Tryz.prog 121 #[.int .u32 pc] w fun e w' => e = .returned (.pointer (some ⟨w.heap.size, 0, none⟩)) ∧ Cpu 233 w' w.heap.size (List.replicate 16 0) pc ∧ Below w.heap.size w w' := by
  go_enter Tryz.func121, Tryz.ntmps121
  go_wp2
  go_ret
  refine ⟨rfl, ⟨(heap_alloc_new w _).trans ?_, ⟨rfl, fun x hx => ?_⟩, p0, p1⟩, (Below.refl _ _).alloc (Nat.le_refl _) _⟩
  · rfl
  · have := List.eq_of_mem_replicate hx
    omega
end
end Cp
end Go.Proofs.YtkbhokmnbpnlbaaGreat
/- The walks of the cpu's Run and Copy, and of what no cpu answers. -/
namespace Go.Proofs.YtkbhokmnbpnlbaaGreat
open Go.RowKit Word
set_option linter.unusedVariables false
namespace Cp
section
variable {w : World} {cb sb mb : Nat} {A : List Pg} {r : List Int} {pc : Int}
/-- What a Run leaves. -/
def RunPost (w : World) (cb sb mb : Nat) (A : List Pg) (q : Out × Nat) (e : Ending) (w' : World) : Prop :=
  e = .returned (.tuple #[q.1.stop, .int .i64 q.2]) ∧ Cpu 233 w' cb q.1.r q.1.pc ∧ Spc w' sb mb q.1.A ∧ Mod (fun k => k = cb ∨ Sp.pgBlk A k) w w'
def runRel (w : World) (cb sb mb : Nat) (A : List Pg) (r : List Int) (pc : Int) (n : Nat) (si : Value) (wr : World) : Prop :=
  ∃ (j : Nat) (A' : List Pg) (r' : List Int) (pc' : Int), j ≤ n ∧ si = .int .i64 j ∧ Cpu 233 wr cb r' pc' ∧ Spc wr sb mb A' ∧ RsBox wr w.heap.size ∧ Mod (fun k => k = cb ∨ Sp.pgBlk A k) w wr ∧ blks A' = blks A ∧
    run A r pc n = ((run A' r' pc' (n - j)).1, (run A' r' pc' (n - j)).2 + j)
theorem run_zero (A : List Pg) (r : List Int) (pc : Int) (n : Nat) (h : (stp A r pc).kind = 0) : run A r pc (n + 1) = ((run (stp A r pc).A (stp A r pc).r (stp A r pc).pc n).1, (run (stp A r pc).A (stp A r pc).r (stp A r pc).pc n).2 + 1) := by simp only [run]; rw [if_pos h]
theorem run_one (A : List Pg) (r : List Int) (pc : Int) (n : Nat) (h : (stp A r pc).kind = 1) : run A r pc (n + 1) = (stp A r pc, 1) := by simp only [run]; rw [if_neg (by rw [h]; omega), if_neg (by rw [h]; omega)]
theorem run_two (A : List Pg) (r : List Int) (pc : Int) (n : Nat) (h : (stp A r pc).kind = 2) : run A r pc (n + 1) = (stp A r pc, 0) := by simp only [run]; rw [if_neg (by rw [h]; omega), if_pos h]
theorem set3_blk {V : World} {b : Nat} {t : TypeId} {a0 a1 a2 : Value} (h0 : V.heap[b]? = some (.cells #[a0, a1, a2] t (0, 0))) (x y z : Value) : (((V.setCell ⟨b, 0, none⟩ x).setCell ⟨b, 1, none⟩ y).setCell ⟨b, 2, none⟩ z).heap[b]? = some (.cells #[x, y, z] t (0, 0)) := by
  have e1 := setCell_eq_setRow V b 0 _ _ _ x h0
  have h1 := setRow_heap V b _ (#[a0, a1, a2].setIfInBounds 0 x) _ _ h0
  rw [← e1] at h1
  have e2 := setCell_eq_setRow _ b 1 _ _ _ y h1
  have h2 := setRow_heap _ b _ ((#[a0, a1, a2].setIfInBounds 0 x).setIfInBounds 1 y) _ _ h1
  rw [← e2] at h2
  have e3 := setCell_eq_setRow _ b 2 _ _ _ z h2
  have h3 := setRow_heap _ b _ (((#[a0, a1, a2].setIfInBounds 0 x).setIfInBounds 1 y).setIfInBounds 2 z) _ _ h2
  rw [← e3] at h3
  exact h3
theorem cells3 {V : World} {b : Nat} {t : TypeId} {x y z : Value} (h : V.heap[b]? = some (.cells #[x, y, z] t (0, 0))) : V.cell? ⟨b, 0, none⟩ = some x ∧ V.cell? ⟨b, 1, none⟩ = some y ∧ V.cell? ⟨b, 2, none⟩ = some z := by
  unfold World.cell?
  rw [h]
  exact ⟨rfl, rfl, rfl⟩
theorem rs_set3 {V : World} {b : Nat} (h : RsBox V b) : RsBox (((V.setCell ⟨b, 0, none⟩ (.int .u8 0)).setCell ⟨b, 1, none⟩ (.int .u32 0)).setCell ⟨b, 2, none⟩ (.int .i64 0)) b := ⟨set3_blk h.blk _ _ _⟩
end
end Cp
end Go.Proofs.YtkbhokmnbpnlbaaGreat
