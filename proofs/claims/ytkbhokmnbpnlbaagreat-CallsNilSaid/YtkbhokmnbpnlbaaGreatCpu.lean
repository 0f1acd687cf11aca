/- A cpu in memory, and a worker; the walks of the cpu's small methods. -/
import Derived.Test.YtkbhokmnbpnlbaaGreatExeW
import Derived.Test.YtkbhokmnbpnlbaaGreatPair
namespace Go.Proofs.YtkbhokmnbpnlbaaGreat
open Go.RowKit Word
set_option linter.unusedVariables false
namespace Cp
def cells (r : List Int) (pc : Int) : Array Value := (r.map (Value.int .u32) ++ [Value.int .u32 pc]).toArray
end Cp
structure Cpu (t : TypeId) (w : World) (cb : Nat) (r : List Int) (pc : Int) : Prop where
  blk : w.heap[cb]? = some (.cells (Cp.cells r pc) t (0, 0))
  regs : Cp.Regs r
  p0 : 0 ≤ pc
  p1 : pc ≤ 4294967295
namespace Cpu
variable {t : TypeId} {w w' : World} {cb : Nat} {r : List Int} {pc : Int}
theorem lt (h : Cpu t w cb r pc) : cb < w.heap.size := lt_of_block h.blk
theorem frame (h : Cpu t w cb r pc) (e : w'.heap[cb]? = w.heap[cb]?) : Cpu t w' cb r pc := ⟨e.trans h.blk, h.regs, h.p0, h.p1⟩
theorem below (h : Cpu t w cb r pc) (hb : Below w.heap.size w w') : Cpu t w' cb r pc := h.frame (hb.block _ h.lt)
theorem keep {F : Nat → Prop} (h : Cpu t w cb r pc) (hm : Mod F w w') (hf : ¬ F cb) : Cpu t w' cb r pc := h.frame (hm.block _ h.lt hf)
theorem size : (Cp.cells r pc).size = r.length + 1 := by simp [Cp.cells]
theorem cellReg (h : Cpu t w cb r pc) (n : Nat) (hn : n < 16) : w.cell? ⟨cb, n, none⟩ = some (.int .u32 (Cp.rg r n)) := by
  unfold World.cell?
  rw [h.blk]
  have hl := h.regs.len
  have : n < r.length := by omega
  simp [Cp.cells, Cp.rg, List.getElem?_append, this]
theorem cellPc (h : Cpu t w cb r pc) : w.cell? ⟨cb, 16, none⟩ = some (.int .u32 pc) := by
  unfold World.cell?
  rw [h.blk]
  have hl := h.regs.len
  simp [Cp.cells, hl]
theorem thaw (h : Cpu t w cb r pc) (n : Nat) : w.frozen? ⟨cb, n, none⟩ = false := by
  unfold World.frozen?
  rw [h.blk]
  rfl
theorem setReg (h : Cpu t w cb r pc) (n : Nat) (hn : n < 16) (v : Int) (v0 : 0 ≤ v) (v1 : v ≤ 4294967295) : Cpu t (w.setCell ⟨cb, n, none⟩ (.int .u32 v)) cb (r.set n v) pc := by
  refine ⟨?_, ⟨by rw [List.length_set, h.regs.len], fun x hx => ?_⟩, h.p0, h.p1⟩
  · rw [setCell_eq_setRow _ _ _ _ _ _ _ h.blk]
    have := setRow_heap w cb _ ((Cp.cells r pc).setIfInBounds n (.int .u32 v)) _ _ h.blk
    rw [this]
    have hl := h.regs.len
    have hn2 : n < r.length := by omega
    congr 2
    unfold Cp.cells
    apply Array.ext'
    simp only [Array.toList_setIfInBounds]
    rw [List.set_append_left _ _ (by simpa using hn2), List.map_set]
  · rcases List.mem_or_eq_of_mem_set hx with g | rfl
    · exact h.regs.bd x g
    · exact ⟨v0, v1⟩
theorem setPc (h : Cpu t w cb r pc) (v : Int) (v0 : 0 ≤ v) (v1 : v ≤ 4294967295) : Cpu t (w.setCell ⟨cb, 16, none⟩ (.int .u32 v)) cb r v := by
  refine ⟨?_, h.regs, v0, v1⟩
  rw [setCell_eq_setRow _ _ _ _ _ _ _ h.blk]
  have := setRow_heap w cb _ ((Cp.cells r pc).setIfInBounds 16 (.int .u32 v)) _ _ h.blk
  rw [this]
  have hl := h.regs.len
  congr 2
  unfold Cp.cells
  apply Array.ext'
  simp only [Array.toList_setIfInBounds]
  rw [List.set_append_right _ _ (by simp [hl])]
  simp [hl]
end Cpu
namespace Cp
theorem setReg_zero (r : List Int) (v : Int) : putG r 0 v = r := rfl
theorem putG_nat (r : List Int) (n : Nat) (v : Int) (h : ¬ n = 0) : putG r n v = r.set n v := by
  unfold putG
  rw [if_neg (by omega), Int.toNat_natCast]
/-- What a method that has no answer leaves. -/
def PutPost (t : TypeId) (w : World) (cb : Nat) (r : List Int) (pc n v : Int) (e : Ending) (w' : World) : Prop := e = .returned (.tuple #[]) ∧ Cpu t w' cb (putG r n v) pc ∧ Mod (fun k => k = cb) w w'
theorem put {w : World} {cb : Nat} {r : List Int} {pc : Int} (h : Cpu 233 w cb r pc) (n : Nat) (hn : n < 16) (v : Int) (v0 : 0 ≤ v) (v1 : v ≤ 4294967295) :
    Calls Tryz.prog 128 #[.pointer (some ⟨cb, 0, none⟩), .int .u8 n, .int .u32 v] w (PutPost 233 w cb r pc n v) := by
  by_cases h0 : n = 0
  · subst h0
    have H := Lib.hid h
    clear h
    go_enter Tryz.func128, Tryz.ntmps128
    go_wp2
    go_end0
    exact ⟨rfl, H.out, Mod.refl _ _⟩
  · have g0 : (0 : Int) < n := by omega
    have g1 : (n : Int) < 16 := by omega
    have hc := h.cellReg n hn
    have hf := h.thaw n
    have HS := Lib.hid (h.setReg n hn v v0 v1)
    rw [← putG_nat r n v h0] at HS
    clear h
    go_enter Tryz.func128, Tryz.ntmps128
    go_wp2
    go_end0
    exact ⟨rfl, HS.out, Mod.setCell (F := fun k => k = cb) (Mod.refl _ _) _ (.inl rfl) _⟩
end Cp
end Go.Proofs.YtkbhokmnbpnlbaaGreat
