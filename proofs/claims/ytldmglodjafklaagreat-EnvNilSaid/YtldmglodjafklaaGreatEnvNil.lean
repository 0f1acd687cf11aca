/- The walk of aediculelaw21.EnvNil. -/
import Derived.Test.YtldmglodjafklaaGreatAlive21
namespace Go.Proofs.YtldmglodjafklaaGreat
open Go.RowKit Word
set_option linter.unusedVariables false
set_option linter.unusedSimpArgs false
namespace Ev
theorem step_nil (w : World) : Calls Tryz.prog 10 #[.pointer none] w fun e w' => e = .returned (.tuple #[.agg #[.int .u8 0, .int .u32 0, .int .i64 0], .int .i64 1]) ∧ Below w.heap.size w w' := by
  have HR := Lib.hid (ready_nil (w.alloc (.cells #[.int .u8 0, .int .u32 0, .int .i64 0] 29)))
  have HF : Hid (Below w.heap.size w (w.alloc (.cells #[.int .u8 0, .int .u32 0, .int .i64 0] 29))) := Lib.hid ((Below.refl _ _).alloc (Nat.le_refl _) _)
  go_enter Tryz.func10, Tryz.ntmps10
  go_wp2_with fail
  refine HR.out.mono ?_
  rintro e w2 ⟨rfl, rfl⟩
  go_wp2
  refine bodyPost_ret (v := .tuple #[.agg #[.int .u8 0, .int .u32 0, .int .i64 0], .int .i64 1]) (by simp [results, Tryz.results10, go_sem, *]) rfl ?_
  exact ⟨rfl, HF.out⟩
theorem copy_nil (w : World) : Calls Tryz.prog 24 #[.pointer none] w fun e w' => e = .returned (.pointer none) ∧ w = w' := by
  go_enter Tryz.func24, Tryz.ntmps24
  go_wp2
  go_ret
  exact ⟨rfl, rfl⟩
end Ev
namespace Cp
/-- An act of a script. -/
structure ActR where
  dod : Int
  n : Int
  m : Int
  text : ByteArray
def ActR.cells (x : ActR) : Array Value := #[.int .i64 x.dod, .int .u32 x.n, .int .u32 x.m, .string x.text]
structure ActR.ok (x : ActR) : Prop where
  d0 : -9223372036854775808 ≤ x.dod
  d1 : x.dod ≤ 9223372036854775807
  n0 : 0 ≤ x.n
  n1 : x.n ≤ 4294967295
  m0 : 0 ≤ x.m
  m1 : x.m ≤ 4294967295
  t1 : x.text.size ≤ 140737488355328
structure ActBox (w : World) (b : Nat) (x : ActR) : Prop where
  blk : w.heap[b]? = some (.cells x.cells 24 (0, 0))
theorem ActBox.cells {w : World} {b : Nat} {x : ActR} (h : ActBox w b x) : w.cell? ⟨b, 0, none⟩ = some (.int .i64 x.dod) ∧ w.cell? ⟨b, 1, none⟩ = some (.int .u32 x.n) ∧ w.cell? ⟨b, 2, none⟩ = some (.int .u32 x.m) ∧ w.cell? ⟨b, 3, none⟩ = some (.string x.text) := by
  unfold World.cell?
  rw [h.blk]
  exact ⟨rfl, rfl, rfl, rfl⟩
theorem ActBox.below {w w' : World} {b : Nat} {x : ActR} (h : ActBox w b x) (hb : Below w.heap.size w w') : ActBox w' b x := ⟨(hb.block _ (lt_of_block h.blk)).trans h.blk⟩
set_option maxRecDepth 100000 in
set_option maxHeartbeats 8000000 in
theorem envNil (w : World) (x : ActR) (hx : x.ok) (num : Int) (n0 : -9223372036854775808 ≤ num) (n1 : num ≤ 9223372036854775807) :
    Calls Tryz.prog 3 #[.agg x.cells, .int .i64 num] w fun e w' => e = .returned (.bool true) ∧ Below w.heap.size w w' := by
  have hb : Below w.heap.size w (w.alloc (.cells x.cells 24)) := (Below.refl _ _).alloc (Nat.le_refl _) _
  have hbx : ActBox (w.alloc (.cells x.cells 24)) w.heap.size x := ⟨heap_alloc_new w _⟩
  obtain ⟨c0, c1, c2, c3⟩ := hbx.cells
  have HB0 := Lib.hid hb
  have HX0 := Lib.hid hbx
  have se := fun W => eqState 0 0 0 W
  clear hb hbx
  unfold ActR.cells at *
  have ht := hx.t1
  by_cases hl : 8192 < x.text.size
  · have hlb : (8192 : Int) < x.text.size := by omega
    go_enter Tryz.func3, Tryz.ntmps3
    go_wp2_with fail
    refine (alive21 _).mono ?_
    rintro e w1 ⟨rfl, hb1⟩
    have HB1 := Lib.hid (below_th HB0.out hb1)
    clear hb1
    go_wp2
    go_ret
    exact ⟨rfl, HB1.out⟩
  · have hlb : ¬ (8192 : Int) < x.text.size := by omega
    go_enter Tryz.func3, Tryz.ntmps3
    go_wp2_with fail
    refine (Ev.step_nil _).mono ?_
    rintro e w1 ⟨rfl, hb1⟩
    have HB1 := Lib.hid (below_th HB0.out hb1)
    have HX1 := Lib.hid (HX0.out.below hb1)
    have hb2 : Below w1.heap.size w1 (w1.alloc (.cells #[.int .u8 0, .int .u32 0, .int .i64 0] 29)) := (Below.refl _ _).alloc (Nat.le_refl _) _
    have HB2 := Lib.hid (below_th HB1.out hb2)
    have HX2 := Lib.hid (HX1.out.below hb2)
    clear c0 c1 c2 c3 hb1 hb2
    obtain ⟨c0, c1, c2, c3⟩ := HX2.out.cells
    go_wp2_with fail
    refine (Ev.new_nil num x.n _).mono ?_
    rintro e w102 ⟨rfl, rfl⟩
    go_wp2_with fail
    refine (Ev.num_nil _).mono ?_
    rintro e w102 ⟨rfl, rfl⟩
    go_wp2_with fail
    refine (Ev.state_nil _).mono ?_
    rintro e w3 ⟨rfl, hb1⟩
    have HB3 := Lib.hid (below_th HB2.out hb1)
    have HX3 := Lib.hid (HX2.out.below hb1)
    clear c0 c1 c2 c3 hb1
    obtain ⟨c0, c1, c2, c3⟩ := HX3.out.cells
    go_wp2_with fail
    refine (Ev.space_nil _).mono ?_
    rintro e w103 ⟨rfl, rfl⟩
    go_wp2_with fail
    refine (Ev.cpu_nil _).mono ?_
    rintro e w103 ⟨rfl, rfl⟩
    go_wp2_with fail
    refine (Ev.exit_nil x.n _).mono ?_
    rintro e w103 ⟨rfl, rfl⟩
    go_wp2_with fail
    refine (Ev.page_nil x.n hx.n0 hx.n1 _).mono ?_
    rintro e w4 ⟨rfl, hb1⟩
    have HB4 := Lib.hid (below_th HB3.out hb1)
    have HX4 := Lib.hid (HX3.out.below hb1)
    clear c0 c1 c2 c3 hb1
    obtain ⟨c0, c1, c2, c3⟩ := HX4.out.cells
    go_wp2_with fail
    refine (Ev.drop_nil x.n hx.n0 hx.n1 _).mono ?_
    rintro e w5 ⟨rfl, hb1⟩
    have HB5 := Lib.hid (below_th HB4.out hb1)
    have HX5 := Lib.hid (HX4.out.below hb1)
    clear c0 c1 c2 c3 hb1
    obtain ⟨c0, c1, c2, c3⟩ := HX5.out.cells
    go_wp2_with fail
    refine (Ev.own_nil _).mono ?_
    rintro e w105 ⟨rfl, rfl⟩
    go_wp2_with fail
    refine (Ev.put_nil x.text _).mono ?_
    rintro e w105 ⟨rfl, rfl⟩
    go_wp2_with fail
    refine (Ev.console_nil _).mono ?_
    rintro e w105 ⟨rfl, rfl⟩
    go_wp2_with fail
    refine (Ev.arg_nil num _).mono ?_
    rintro e w105 ⟨rfl, rfl⟩
    go_wp2_with fail
    refine (Ev.answer_nil x.n x.m _).mono ?_
    rintro e w105 ⟨rfl, rfl⟩
    go_wp2_with fail
    refine (Ev.copy_nil _).mono ?_
    rintro e w105 ⟨rfl, rfl⟩
    go_wp2_with fail
    refine (alive21 _).mono ?_
    rintro e wz ⟨rfl, hb1⟩
    have HZ := Lib.hid (below_th HB5.out hb1)
    clear hb1
    go_wp2
    go_ret
    exact ⟨rfl, HZ.out⟩
end Cp
end Go.Proofs.YtldmglodjafklaaGreat
