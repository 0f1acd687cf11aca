/- The walk of aediculelaw01.WordOps. -/
import Derived.Test.YtijdeljkppghbaaWordAlive
import Derived.Test.YtijdeljkppghbaaWordRefB
import Derived.OpenShut
namespace Go.Proofs.Ytijdeljkppghbaa.Word
open Go.RowKit Go.ChangeShapes
theorem wordOps (fn a b : Int) (hf : (Lit.int .u8 fn).wf = true) (ha : (Lit.int .u32 a).wf = true) (hb : (Lit.int .u32 b).wf = true) (w : World) :
    Calls Try.prog 4 #[.int .u8 fn, .int .u32 a, .int .u32 b] w fun e w' => e = .returned (.bool true) ∧ Below w.heap.size w w' := by
  have f0 := bounds_u8 hf
  have a0 := bounds_u32 ha
  have b0 := bounds_u32 hb
  clear hf ha hb
  go_enter Try.func4, Try.ntmps4
  go_wp2_with (first
    | (go_at_call 16; (with_reducible refine (Op _ _ _ (by omega) (by omega) (by omega) (by omega) (by omega) (by omega) _).mono ?_); rintro e w1 ⟨rfl, hb⟩)
    | (go_at_call 17; (with_reducible refine (WordRef.Op _ _ _ (by omega) (by omega) (by omega) (by omega) (by omega) (by omega) _).mono ?_); rintro e w1 ⟨rfl, rfl⟩)
    | (go_at_call 18; (with_reducible refine (alive _).mono ?_); rintro e w1 ⟨rfl, hb⟩))
  go_ret
  exact ⟨rfl, by repeat (first | exact Below.refl _ _ | assumption | refine below_th (by assumption) ?_)⟩
end Go.Proofs.Ytijdeljkppghbaa.Word
