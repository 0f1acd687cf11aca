/- The walk of aediculelaw01.WordTells. -/
import Derived.Test.YtijdeljkppghbaaWordBoth
import Derived.Test.YtijdeljkppghbaaWordAlive
import Derived.OpenShut
namespace Go.Proofs.Ytijdeljkppghbaa.Word
open Go.RowKit
set_option linter.unusedVariables false
theorem wordTells_big (v n : Int) (s d : ByteArray) (hs : s.size < 140737488355328) (hd : d.size < 140737488355328) (hb : 4096 < (s.size : Int) + (d.size : Int)) (w : World) :
    Calls Try.prog 6 #[.int .u32 v, .int .i64 n, .string s, .string d] w fun e w' => e = .returned (.bool true) ∧ Below w.heap.size w w' := by
  go_enter Try.func6, Try.ntmps6
  go_wp2_with (go_at_call 18; (with_reducible refine (alive _).mono ?_); rintro e w1 ⟨rfl, hb⟩)
  go_ret
  exact ⟨rfl, by assumption⟩
set_option maxRecDepth 100000 in
theorem wordTells_small (v n : Int) (s d : ByteArray) (h0 : 0 ≤ v) (h1 : v ≤ 4294967295) (hb : s.size + d.size ≤ 4096) (w : World) :
    Calls Try.prog 6 #[.int .u32 v, .int .i64 n, .string s, .string d] w fun e w' => e = .returned (.bool true) ∧ Below w.heap.size w w' := by
  have hs : s.size ≤ 65536 := by omega
  have hd : d.size ≤ 65536 := by omega
  go_enter Try.func6, Try.ntmps6
  go_wp2_with (first
    | (go_at_call 18; (with_reducible refine (alive _).mono ?_); rintro e w1 ⟨rfl, hb⟩)
    | (go_at_call 20; (with_reducible refine (put_any v n h0 h1 _).mono ?_); rintro e w1 ⟨rfl, hb⟩)
    | (go_at_call 21; (with_reducible refine (putR_any v n h0 h1 _).mono ?_); rintro e w1 ⟨rfl, hb⟩)
    | (go_at_call 22; (with_reducible refine (putHigh_any v n h0 h1 _).mono ?_); rintro e w1 ⟨rfl, hb⟩)
    | (go_at_call 23; (with_reducible refine (putHighR_any v n h0 h1 _).mono ?_); rintro e w1 ⟨rfl, hb⟩)
    | (go_at_call 24; (with_reducible refine (get_any s hs _).mono ?_); rintro e w1 ⟨rfl, hb⟩)
    | (go_at_call 25; (with_reducible refine (getR_any s hs _).mono ?_); rintro e w1 ⟨rfl, hb⟩)
    | (go_at_call 26; (with_reducible refine (getHigh_any s hs _).mono ?_); rintro e w1 ⟨rfl, hb⟩)
    | (go_at_call 27; (with_reducible refine (getHighR_any s hs _).mono ?_); rintro e w1 ⟨rfl, hb⟩)
    | (go_at_call 28; (with_reducible refine (unhex_any d hd _).mono ?_); rintro e w1 ⟨rfl, hb⟩)
    | (go_at_call 29; (with_reducible refine (unhexR_any d hd _).mono ?_); rintro e w1 ⟨rfl, hb⟩)
    | (go_at_call 30; (with_reducible refine (hex_any s hs _).mono ?_); rintro e w1 ⟨rfl, hb⟩)
    | (go_at_call 31; (with_reducible refine (hexR_any s hs _).mono ?_); rintro e w1 ⟨rfl, hb⟩))
  go_ret
  exact ⟨rfl, by repeat (first | exact Below.refl _ _ | assumption | refine below_th (by assumption) ?_)⟩
theorem wordTells (v n : Int) (s d : ByteArray) (hv : (Lit.int .u32 v).wf = true) (hn : (Lit.int .i64 n).wf = true) (hs : s.size < 140737488355328) (hd : d.size < 140737488355328) (w : World) :
    Calls Try.prog 6 #[.int .u32 v, .int .i64 n, .string s, .string d] w fun e w' => e = .returned (.bool true) ∧ Below w.heap.size w w' := by
  by_cases h : s.size + d.size ≤ 4096
  · have v0 := bounds_u32 hv
    exact wordTells_small v n s d v0.1 v0.2 h w
  · exact wordTells_big v n s d hs hd (by omega) w
end Go.Proofs.Ytijdeljkppghbaa.Word
