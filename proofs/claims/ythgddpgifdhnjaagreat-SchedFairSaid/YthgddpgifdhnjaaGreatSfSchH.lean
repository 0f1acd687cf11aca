/- SchedFair at arguments as they are read. -/
import Derived.Test.YthgddpgifdhnjaaGreatSfSchG
import Derived.Test.YthgddpgifdhnjaaGreatSfReadA
namespace Go.Proofs.YthgddpgifdhnjaaGreat
open Go.RowKit
theorem Cp.schedFairL (w : World) (a : Option Addr) (cap : Nat) (xs : List Int) (h : Rd.Sl w 1 (Cp.numQ .u8) a cap xs) (s : Int) (s0 : 0 ≤ s) (s1 : s ≤ 255) (t : Int) (t0 : 0 ≤ t) (t1 : t ≤ 65535) :
    Calls Tryz.prog 3 #[.slice a xs.length cap, .int .u8 s, .int .u16 t] w fun e w' => e = .returned (.bool true) ∧ Below w.heap.size w w' :=
  Fr.schedFair w (Cp.sl_num h).1 (fun i hi => bounds_u8' ((Cp.sl_num h).2 i hi)) (by have h1 := h.1; have h2 := h.2.1; unfold maxLen at h2; omega) s s0 s1 t t0 t1
end Go.Proofs.YthgddpgifdhnjaaGreat
