/- 'make([]byte, n)', and string() of it. -/
import Derived.Test.YtkbhokmnbpnlbaaGreatProg
import Derived.Test.YtkbhokmnbpnlbaaGreatBase
import Derived.OwnWalk
namespace Go.Proofs.YtkbhokmnbpnlbaaGreat
open Go.RowKit
theorem infoByte : (Tryz.prog.info? 5).map (fun i => (i.zero, i.size, i.bytes)) = some (some (.int .u8 0), 1, 1) := by kernel_rfl
theorem run_makeBytes (n : Nat) (hn : n ≤ 140737488355328) (w : World) : (Instr.makeSlice 33 (.int .i64 n) (.int .i64 n)).run Tryz.prog w = .ok (.slice (some ⟨w.heap.size, 0, none⟩) n n) (w.alloc (.cells (List.replicate n (Value.int .u8 0)).toArray 5)) := by
  obtain ⟨i0, hi, hz0, hz1, hz2⟩ := info_parts infoByte
  have h := run_make (P := Tryz.prog) w 33 5 i0 (.int .u8 0) Tryz.underlying33 hi hz0 .i64 .i64 n n (by omega) (by omega) (by rw [hz2]; omega) (by omega)
  rw [h, hz1]
  have e : madeCells (Value.int .u8 0).cells ((n : Int).toNat * 1) = (List.replicate n (Value.int .u8 0)).toArray := by
    apply Array.toList_inj.1
    rw [show (Value.int .u8 0).cells = #[.int .u8 0] from rfl, toList_madeCells_one]
    simp
  rw [e]
  rfl
theorem made_str (n : Nat) (w : World) : (convert 33 9 (.slice (some ⟨w.heap.size, 0, none⟩) n n)).run Tryz.prog (w.alloc (.cells (List.replicate n (Value.int .u8 0)).toArray 5)) = .ok (.string (strOfNums (List.replicate n 0))) (w.alloc (.cells (List.replicate n (Value.int .u8 0)).toArray 5)) := by
  refine run_convert_bytes_arg (P := Tryz.prog) _ 33 5 Tryz.underlying33 Tryz.underlying5 w.heap.size 0 n n (List.replicate n 0) List.length_replicate (fun i hi => ?_) 9 Tryz.underlying9
  rw [Nat.zero_add, World.cell?_alloc_mark]
  simp [hi]
end Go.Proofs.YtkbhokmnbpnlbaaGreat
