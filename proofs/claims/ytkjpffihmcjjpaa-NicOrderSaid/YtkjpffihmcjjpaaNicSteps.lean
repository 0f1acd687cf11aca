/- The steps of a script of layer 20, in memory; the walk of aediculelaw20.Heavy. -/
import Derived.Test.YtkjpffihmcjjpaaNicAlive
import Derived.OpenShut
namespace Go.Proofs.Ytkjpffihmcjjpaa.Ni
open Go.RowKit
set_option linter.unusedVariables false
structure StepR where
  dod : Int
  port : Int
  frame : ByteArray
structure StepR.ok (x : StepR) : Prop where
  d0 : -9223372036854775808 ≤ x.dod
  d1 : x.dod ≤ 9223372036854775807
  p0 : 0 ≤ x.port
  p1 : x.port < 65536
  f1 : x.frame.size < 140737488355328
theorem step_ok (d p : Int) (s : ByteArray) (hd : (Lit.int .i64 d).wf = true) (hp : (Lit.int .u16 p).wf = true) (hs : s.size < 140737488355328) : StepR.ok ⟨d, p, s⟩ := by
  have h1 := bounds_i64 hd
  have h2 := bounds_u16 hp
  exact ⟨h1.1, h1.2, h2.1, by have := h2.2; show p < 65536; omega, hs⟩
def stepQ (g : Nat → Option Value) (x : StepR) : Prop := (g 0 = some (.int .i64 (x.dod)) ∧ g 1 = some (.int .u16 (x.port)) ∧ g 2 = some (.string (x.frame))) ∧ x.ok
theorem step_read {H : Type} {enc : TypeId × Value → H} {w : World} {base : Nat} {spare : Nat → Bool} {held : Bool} (cs : List Value) (n : Nat) (z : DataW H × List MemPlace) (g : Nat → Option Value)
    (h : DataW.trod enc Try.prog w base spare held n 30 cs = some z) (hw : Rd.Wt Try.prog 30 z.1) (hl : cs.length = 3) (hg : ∀ j, j < 3 → g j = cs[j]?) : ∃ x : StepR, stepQ g x := by
  obtain ⟨_, hs⟩ := Rd.rd_struct Try.underlying30 (by kernel_rfl) (by kernel_rfl) h hw
  obtain ⟨v0, z0, n0, e0, t0, q0⟩ := hs 0 _ rfl
  obtain ⟨x0, rfl, w0⟩ := Rd.rd_int Try.underlying3 t0
  obtain ⟨v1, z1, n1, e1, t1, q1⟩ := hs 1 _ rfl
  obtain ⟨x1, rfl, w1⟩ := Rd.rd_int Try.underlying23 t1
  obtain ⟨v2, z2, n2, e2, t2, q2⟩ := hs 2 _ rfl
  obtain ⟨x2, rfl, w2⟩ := Rd.rd_str Try.underlying9 t2 q2
  exact ⟨⟨x0, x1, x2⟩, ⟨(hg 0 (by omega)).trans e0, (hg 1 (by omega)).trans e1, (hg 2 (by omega)).trans e2⟩, step_ok x0 x1 x2 w0 w1 w2⟩
/-- Cell by cell: step i of a slice at block b. -/
structure StepAt (w : World) (b off i : Nat) (x : StepR) : Prop where
  dod : w.cell? ⟨b, off + i * 3, none⟩ = some (.int .i64 x.dod)
  port : w.cell? ⟨b, off + i * 3 + 1, none⟩ = some (.int .u16 x.port)
  frame : w.cell? ⟨b, off + i * 3 + 2, none⟩ = some (.string x.frame)
def sumF (Z : Nat → StepR) : Nat → Nat
  | 0 => 0
  | k + 1 => sumF Z k + (Z k).frame.size
def heavyB (Z : Nat → StepR) (len : Nat) : Bool := decide (150 < len) || decide (16384 < sumF Z (min len 300))
def heavyRel (Z : Nat → StepR) (len : Nat) (sn si : Value) : Prop := ∃ k : Nat, k ≤ min len 300 ∧ si = .int .i64 k ∧ sn = .int .i64 (sumF Z k : Nat)
theorem sumF_bd (Z : Nat → StepR) (k : Nat) (h : ∀ i, i < k → (Z i).frame.size < 140737488355328) : sumF Z k ≤ k * 140737488355328 := by
  induction k with
  | zero => simp [sumF]
  | succ k ih =>
    have := ih fun i hi => h i (by omega)
    have := h k (by omega)
    simp only [sumF]
    omega
set_option maxRecDepth 100000 in
theorem heavy (a : Option Addr) (len cap : Nat) (Z : Nat → StepR) (w : World) (hZ : 0 < len → ∃ b off, a = some ⟨b, off, none⟩ ∧ ∀ i, i < len → StepAt w b off i (Z i)) (hok : ∀ i, i < len → (Z i).ok) (hlen : len ≤ 9223372036854775807) :
    Calls Try.prog 5 #[.slice a len cap] w fun e w' => e = .returned (.bool (heavyB Z len)) ∧ w = w' := by
  have HZ := Lib.hid hZ
  have Hok := Lib.hid hok
  clear hZ hok
  go_enter Try.func5, Try.ntmps5
  go_wp2
  go_loop [3, 4] (fun sn si => heavyRel Z len sn si) (fun _ i => 300 - (intOf i).toNat)
  case atStart => exact ⟨0, by omega, rfl, rfl⟩
  case round =>
    obtain ⟨k, hk, rfl, rfl⟩ := hrel
    by_cases hk2 : k < len ∧ k < 300
    · obtain ⟨hk2, hk3⟩ := hk2
      obtain ⟨b, off, rfl, hs⟩ := HZ.out (by omega)
      have ht := (hs k hk2).frame
      have hto := (Hok.out k hk2).f1
      have hsb := sumF_bd Z k fun i hi => (Hok.out i (by omega)).f1
      have Hsu := Lib.hid (show sumF Z (k + 1) = sumF Z k + (Z k).frame.size from rfl)
      clear hs
      generalize (Z k).frame = tx at *
      generalize hsm : sumF Z k = sm at *
      have Hsm := Lib.hid hsm
      clear hsm
      go_wp2
      exact ⟨⟨k + 1, by omega, by go_num, by rw [Hsu.out]; go_num⟩, by simp [intOf]; omega⟩
    · have hmin : min len 300 = k := by omega
      have Hf := Lib.hid (show heavyB Z len = (decide (150 < len) || decide (16384 < sumF Z k)) by unfold heavyB; rw [hmin])
      have Hm := Lib.hid hmin
      clear hmin
      by_cases hl : 150 < len
      · by_cases hk4 : k < len
        · have hk5 : ¬ k < 300 := by omega
          clear hk2
          go_wp2
          go_ret
          exact ⟨ret_bool (by rw [Hf.out]; simp [hl]), rfl⟩
        · clear hk2
          go_wp2
          go_ret
          exact ⟨ret_bool (by rw [Hf.out]; simp [hl]), rfl⟩
      · have hk4 : ¬ k < len := by omega
        clear hk2
        go_wp2
        go_ret
        exact ⟨ret_bool (by rw [Hf.out, decide_eq_false (show ¬ 150 < len from hl), decide_eq_false (show ¬ (150 : Int) < (len : Int) by omega), Bool.false_or, Bool.false_or, decide_eq_decide]; omega), rfl⟩
end Go.Proofs.Ytkjpffihmcjjpaa.Ni
