/- The walk of aediculelaw06.CpuNil. -/
import Derived.Test.YtldmglodjafklaaAlive06
import Derived.Test.YtldmglodjafklaaCpuN
namespace Go.Proofs.Ytldmglodjafklaa
open Go.RowKit Word
set_option linter.unusedVariables false
namespace Cp
theorem box3 {w w' : World} {b : Nat} {t : TypeId} {x y z : Value} (h : w.heap[b]? = some (.cells #[x, y, z] t (0, 0))) (hb : Below w.heap.size w w') : w'.heap[b]? = some (.cells #[x, y, z] t (0, 0)) := (hb.block _ (lt_of_block h)).trans h
set_option maxRecDepth 100000 in
set_option maxHeartbeats 4000000 in
theorem cpuNil (w : World) (n v : Int) (n0 : -9223372036854775808 ≤ n) (n1 : n ≤ 9223372036854775807) (v0 : 0 ≤ v) (v1 : v ≤ 4294967295) :
    Calls Try.prog 4 #[.int .i64 n, .int .u32 v] w fun e w' => e = .returned (.bool true) ∧ Below w.heap.size w w' := by
  have heq1 : ∀ w : World, (binOp .eql 40 (.agg #[.int .u8 2, .int .u32 0, .int .i64 1]) (.agg #[.int .u8 2, .int .u32 0, .int .i64 1])).run Try.prog w = .ok (.bool true) w := fun w => by kernel_rfl
  have HV : Hid (0 ≤ (v + 1) % 4294967296 ∧ (v + 1) % 4294967296 ≤ 4294967295) := Lib.hid (by omega)
  go_enter Try.func4, Try.ntmps4
  go_wp2_with fail
  refine (Sp.new w).mono ?_
  rintro e w1 ⟨rfl, _, hb1, _⟩
  have HB1 := Lib.hid hb1
  clear hb1
  go_wp2_with (first | (go_at_call 16; (with_reducible refine (reg_nil n _).mono ?_); rintro e w2 ⟨rfl, rfl⟩))
  refine (step_nil _ _).mono ?_
  rintro e w2 ⟨rfl, hb2⟩
  have HB2 := Lib.hid (below_th HB1.out hb2)
  clear hb2
  unfold stopV
  go_wp2_with fail
  have hx9 := heap_alloc_new w2 (.cells #[.int .u8 2, .int .u32 0, .int .i64 1] 40)
  have HB3 := Lib.hid (HB2.out.alloc HB2.out.size (.cells #[.int .u8 2, .int .u32 0, .int .i64 1] 40))
  refine (run_nil _ _).mono ?_
  rintro e w4 ⟨rfl, hb4⟩
  have hx9b := box3 hx9 hb4
  have HB4 := Lib.hid (below_th HB3.out hb4)
  clear hx9 hb4
  unfold stopV
  go_wp2_with fail
  have hb5 : Below w4.heap.size w4 (w4.alloc (.cells #[.int .u8 2, .int .u32 0, .int .i64 1] 40)) := (Below.refl _ _).alloc (Nat.le_refl _) _
  have hx10 := heap_alloc_new w4 (.cells #[.int .u8 2, .int .u32 0, .int .i64 1] 40)
  have hx9c := box3 hx9b hb5
  have HB5 := Lib.hid (below_th HB4.out hb5)
  clear hx9b hb5
  refine (new v v0 v1 _).mono ?_
  rintro e w6 ⟨rfl, hc, hb6⟩
  have hx9d := box3 hx9c hb6
  have hx10b := box3 hx10 hb6
  have HB6 := Lib.hid (below_th HB5.out hb6)
  have HC6 := Lib.hid hc
  clear hx9c hx10 hb6 hc
  go_wp2_with fail
  refine (step_nospace _ _).mono ?_
  rintro e w7 ⟨rfl, hb7⟩
  have hz7 := hb7.size
  have hcl := HC6.out.lt
  have hb8 : Below w7.heap.size w7 ((w7.alloc (.cells #[.int .u8 2, .int .u32 0, .int .i64 1] 40)).alloc (.cells #[.int .u8 2, .int .u32 0, .int .i64 1] 40)) := ((Below.refl _ _).alloc (Nat.le_refl _) _).alloc (by simp) _
  have hx9 := box3 (box3 hx9d hb7) hb8
  have hx10 := box3 (box3 hx10b hb7) hb8
  have hx13 : ((w7.alloc (.cells #[.int .u8 2, .int .u32 0, .int .i64 1] 40)).alloc (.cells #[.int .u8 2, .int .u32 0, .int .i64 1] 40)).heap[w7.heap.size]? = some (.cells #[.int .u8 2, .int .u32 0, .int .i64 1] 40 (0, 0)) := (Below.heap_alloc _ _ _ (by simp)).trans (heap_alloc_new w7 _)
  have hx14 : ((w7.alloc (.cells #[.int .u8 2, .int .u32 0, .int .i64 1] 40)).alloc (.cells #[.int .u8 2, .int .u32 0, .int .i64 1] 40)).heap[w7.heap.size + 1]? = some (.cells #[.int .u8 2, .int .u32 0, .int .i64 1] 40 (0, 0)) := by
    have h := heap_alloc_new (w7.alloc (.cells #[.int .u8 2, .int .u32 0, .int .i64 1] 40)) (.cells #[.int .u8 2, .int .u32 0, .int .i64 1] 40)
    rwa [show (w7.alloc (.cells #[.int .u8 2, .int .u32 0, .int .i64 1] 40)).heap.size = w7.heap.size + 1 by simp] at h
  obtain ⟨p0, p1, p2⟩ := cells3 hx9
  obtain ⟨q0, q1, q2⟩ := cells3 hx10
  obtain ⟨r0, r1, r2⟩ := cells3 hx13
  obtain ⟨s0, s1, s2⟩ := cells3 hx14
  have HB8 := Lib.hid (below_th (below_th HB6.out hb7) hb8)
  have HC8 := Lib.hid ((HC6.out.below hb7).below hb8)
  have hfresh : Hid (w.heap.size ≤ w4.heap.size + 1) := Lib.hid (by have h1 := HB5.out.size; simp at h1; omega)
  simp only [show (w4.alloc (.cells #[.int .u8 2, .int .u32 0, .int .i64 1] 40)).heap.size = w4.heap.size + 1 by simp] at HC8
  clear hx9d hx10b hb7 hb8 hx9 hx10 hx13 hx14 HC6 hz7 hcl
  generalize hcb : w4.heap.size + 1 = cb at *
  unfold stopV
  by_cases hn : 0 ≤ n ∧ n < 16
  · obtain ⟨k, rfl⟩ := Int.eq_ofNat_of_zero_le hn.1
    have hk : k < 16 := by omega
    have g0 : decide ((k : Int) < 0) = false := decide_eq_false (by omega)
    have g1 : decide ((16 : Int) ≤ k) = false := decide_eq_false (by omega)
    go_wp2_with (first
      | (go_at_call 20; first | ((with_reducible refine (setReg_nil _ v _).mono ?_); rintro e w9 ⟨rfl, rfl⟩) | ((with_reducible refine (setReg_ok HC8.out k hk v v0 v1).mono ?_); rintro e w9 ⟨rfl, hc9, hm9⟩; have hc9' := hc9; have hm9' := hm9))
      | (go_at_call 21; first | ((with_reducible refine (pc_nil _).mono ?_); rintro e w9 ⟨rfl, rfl⟩) | ((with_reducible refine (pc_ok HC8.out).mono ?_); rintro e w9 ⟨rfl, rfl⟩) | ((with_reducible refine (pc_ok hc10).mono ?_); rintro e w11 ⟨rfl, rfl⟩))
      | (go_at_call 22; first | ((with_reducible refine (setPc_nil v _).mono ?_); rintro e w9 ⟨rfl, rfl⟩) | ((with_reducible refine (setPc_ok hc9 _ HV.out.1 HV.out.2).mono ?_); rintro e w10 ⟨rfl, hc10, hm10⟩))
      | (go_at_call 23; (with_reducible refine (copy_nil _).mono ?_); rintro e w9 ⟨rfl, rfl⟩)
      | (go_at_call 24; (with_reducible refine (alive06 _).mono ?_); rintro e w12 ⟨rfl, hb12⟩))
    go_ret
    refine ⟨rfl, ?_⟩
    have e1 := hm9.below HB8.out HB8.out.size (fun i _ g => g ▸ hfresh.out)
    have e2 := hm10.below e1 e1.size (fun i _ g => g ▸ hfresh.out)
    exact e2.trans (hb12.mono e2.size)
  · have hbad : n < 0 ∨ 16 ≤ n := by omega
    cases g0 : decide (n < 0) with
    | true =>
      go_wp2_with (first
        | (go_at_call 20; first | ((with_reducible refine (setReg_nil _ v _).mono ?_); rintro e w9 ⟨rfl, rfl⟩) | ((with_reducible refine (setReg_bad HC8.out.lt n v hbad).mono ?_); rintro e w9 ⟨rfl, rfl⟩))
        | (go_at_call 21; first | ((with_reducible refine (pc_nil _).mono ?_); rintro e w9 ⟨rfl, rfl⟩) | ((with_reducible refine (pc_ok HC8.out).mono ?_); rintro e w9 ⟨rfl, rfl⟩) | ((with_reducible refine (pc_ok hc10).mono ?_); rintro e w11 ⟨rfl, rfl⟩))
        | (go_at_call 22; first | ((with_reducible refine (setPc_nil v _).mono ?_); rintro e w9 ⟨rfl, rfl⟩) | ((with_reducible refine (setPc_ok HC8.out _ HV.out.1 HV.out.2).mono ?_); rintro e w10 ⟨rfl, hc10, hm10⟩))
        | (go_at_call 23; (with_reducible refine (copy_nil _).mono ?_); rintro e w9 ⟨rfl, rfl⟩)
        | (go_at_call 24; (with_reducible refine (alive06 _).mono ?_); rintro e w12 ⟨rfl, hb12⟩))
      go_ret
      refine ⟨rfl, ?_⟩
      have e2 := hm10.below HB8.out HB8.out.size (fun i _ g => g ▸ hfresh.out)
      exact e2.trans (hb12.mono e2.size)
    | false =>
      have g1 : decide (16 ≤ n) = true := decide_eq_true (by have := of_decide_eq_false g0; omega)
      go_wp2_with (first
        | (go_at_call 20; first | ((with_reducible refine (setReg_nil _ v _).mono ?_); rintro e w9 ⟨rfl, rfl⟩) | ((with_reducible refine (setReg_bad HC8.out.lt n v hbad).mono ?_); rintro e w9 ⟨rfl, rfl⟩))
        | (go_at_call 21; first | ((with_reducible refine (pc_nil _).mono ?_); rintro e w9 ⟨rfl, rfl⟩) | ((with_reducible refine (pc_ok HC8.out).mono ?_); rintro e w9 ⟨rfl, rfl⟩) | ((with_reducible refine (pc_ok hc10).mono ?_); rintro e w11 ⟨rfl, rfl⟩))
        | (go_at_call 22; first | ((with_reducible refine (setPc_nil v _).mono ?_); rintro e w9 ⟨rfl, rfl⟩) | ((with_reducible refine (setPc_ok HC8.out _ HV.out.1 HV.out.2).mono ?_); rintro e w10 ⟨rfl, hc10, hm10⟩))
        | (go_at_call 23; (with_reducible refine (copy_nil _).mono ?_); rintro e w9 ⟨rfl, rfl⟩)
        | (go_at_call 24; (with_reducible refine (alive06 _).mono ?_); rintro e w12 ⟨rfl, hb12⟩))
      go_ret
      refine ⟨rfl, ?_⟩
      have e2 := hm10.below HB8.out HB8.out.size (fun i _ g => g ▸ hfresh.out)
      exact e2.trans (hb12.mono e2.size)
end Cp
end Go.Proofs.Ytldmglodjafklaa
