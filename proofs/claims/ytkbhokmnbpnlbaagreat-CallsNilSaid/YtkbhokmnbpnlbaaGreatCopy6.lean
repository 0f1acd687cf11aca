/- The walk of the cpu's Copy. -/
import Derived.Test.YtkbhokmnbpnlbaaGreatCpuW
import Derived.Deep.MidRow
namespace Go.Proofs.YtkbhokmnbpnlbaaGreat
open Go.RowKit Word
set_option linter.unusedVariables false
set_option linter.unusedSimpArgs false
namespace Cp
section
variable {w : World} {cb : Nat} {r : List Int} {pc : Int}
def zc : Array Value := #[.int .u32 0, .int .u32 0, .int .u32 0, .int .u32 0, .int .u32 0, .int .u32 0, .int .u32 0, .int .u32 0, .int .u32 0, .int .u32 0, .int .u32 0, .int .u32 0, .int .u32 0, .int .u32 0, .int .u32 0, .int .u32 0, .int .u32 0]
theorem zeroCpu : zc.size = 17 := by kernel_rfl
theorem info_cpu : (Tryz.prog.info? 233).map (·.size) = some 17 := by kernel_rfl
theorem cells_one (r : List Int) (pc : Int) : ∀ v, v ∈ (cells r pc).toList → v.oneCell' = true := fun v hv => by
  simp only [cells, List.mem_append, List.mem_map, List.mem_singleton] at hv
  rcases hv with ⟨x, _, rfl⟩ | rfl <;> rfl
set_option maxRecDepth 100000 in
/-- A copy: a cpu of its own, new since the call. -/
theorem copy (hc : Cpu 233 w cb r pc) : Calls Tryz.prog 68 #[.pointer (some ⟨cb, 0, none⟩)] w fun e w' => e = .returned (.pointer (some ⟨w.heap.size, 0, none⟩)) ∧ Cpu 233 w' w.heap.size r pc ∧ Below w.heap.size w w' := by
  have hsz : (cells r pc).size = 17 := by rw [Cpu.size, hc.regs.len]
  have hra : w.rangeAt cb 0 (cells r pc).toList := fun j v hj => by
    unfold World.cell?
    rw [hc.blk]
    simpa using hj
  have hinf : (Tryz.prog.info? 233).map (·.size) = some (cells r pc).toList.length := by rw [Array.length_toList, hsz]; exact info_cpu
  have hnew := heap_alloc_new w (.cells zc 233)
  have hst : (storeCells ⟨w.heap.size, 0, none⟩ (cells r pc).toList).run Tryz.prog (w.alloc (.cells zc 233)) = .ok () ((w.alloc (.cells zc 233)).setRow w.heap.size (cells r pc)) := by
    have h := run_storeCells_from (P := Tryz.prog) w.heap.size 233 (cells r pc).toList 0 _ _ hnew (by simp only [Array.length_toList]; rw [hsz, zeroCpu]) (cells_one r pc)
    rw [h]
    have hz := zeroCpu
    simp [hsz, hz]
  have hfin : Cpu 233 ((w.alloc (.cells zc 233)).setRow w.heap.size (cells r pc)) w.heap.size r pc := ⟨setRow_heap _ _ _ _ _ _ hnew, hc.regs, hc.p0, hc.p1⟩
  have hbl : Below w.heap.size w ((w.alloc (.cells zc 233)).setRow w.heap.size (cells r pc)) := below_setRow ((Below.refl _ _).alloc (Nat.le_refl _) _) (Nat.le_refl _) _
  have Hra := Lib.hid hra
  have Hinf := Lib.hid hinf
  have Hund := Lib.hid Tryz.underlying233
  have HF := Lib.hid hfin
  have HB := Lib.hid hbl
  clear hra hinf hfin hbl hnew hc
  unfold zc at *
  go_enter Tryz.func68, Tryz.ntmps68
  go_wp2_with (refine wpList_load_mid rfl 233 (.tmp 7) rfl cb 0 rfl (cells r pc).toList _ Hra.out Hund.out rfl Hinf.out ?_; rw [Array.toArray_toList])
  go_ret
  exact ⟨rfl, HF.out, HB.out⟩
end
end Cp
end Go.Proofs.YtkbhokmnbpnlbaaGreat
