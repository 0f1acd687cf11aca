/- The steps of a script of layer 5, in memory; the walk of aediculelaw05.Heavy. -/
import Derived.Test.YtldmglodjafklaaSpcE
import Derived.Test.YtldmglodjafklaaRead
import Derived.OpenShut
namespace Go.Proofs.Ytldmglodjafklaa.Sp
open Go.RowKit
set_option linter.unusedVariables false
structure StepR where
  dod : Int
  addr : Int
  n : Int
  text : ByteArray
structure StepR.ok (x : StepR) : Prop where
  d0 : -9223372036854775808 ≤ x.dod
  d1 : x.dod ≤ 9223372036854775807
  a0 : 0 ≤ x.addr
  a1 : x.addr ≤ 4294967295
  n0 : -9223372036854775808 ≤ x.n
  n1 : x.n ≤ 9223372036854775807
  t1 : x.text.size < 140737488355328
theorem step_ok (d a n : Int) (s : ByteArray) (hd : (Lit.int .i64 d).wf = true) (ha : (Lit.int .u32 a).wf = true) (hn : (Lit.int .i64 n).wf = true) (hs : s.size < 140737488355328) : StepR.ok ⟨d, a, n, s⟩ := by
  have h1 := bounds_i64 hd
  have h2 := bounds_u32 ha
  have h3 := bounds_i64 hn
  exact ⟨h1.1, h1.2, h2.1, h2.2, h3.1, h3.2, hs⟩
def stepQ (g : Nat → Option Value) (x : StepR) : Prop := (g 0 = some (.int .i64 (x.dod)) ∧ g 1 = some (.int .u32 (x.addr)) ∧ g 2 = some (.int .i64 (x.n)) ∧ g 3 = some (.string (x.text))) ∧ x.ok
theorem step_read {H : Type} {enc : TypeId × Value → H} {w : World} {base : Nat} {spare : Nat → Bool} {held : Bool} (cs : List Value) (n : Nat) (z : DataW H × List MemPlace) (g : Nat → Option Value)
    (h : DataW.trod enc Try.prog w base spare held n 58 cs = some z) (hw : Rd.Wt Try.prog 58 z.1) (hl : cs.length = 4) (hg : ∀ j, j < 4 → g j = cs[j]?) : ∃ x : StepR, stepQ g x := by
  obtain ⟨_, hs⟩ := Rd.rd_struct Try.underlying58 (by kernel_rfl) (by kernel_rfl) h hw
  obtain ⟨v0, z0, n0, e0, t0, q0⟩ := hs 0 _ rfl
  obtain ⟨x0, rfl, w0⟩ := Rd.rd_int Try.underlying3 t0
  obtain ⟨v1, z1, n1, e1, t1, q1⟩ := hs 1 _ rfl
  obtain ⟨x1, rfl, w1⟩ := Rd.rd_int Try.underlying27 t1
  obtain ⟨v2, z2, n2, e2, t2, q2⟩ := hs 2 _ rfl
  obtain ⟨x2, rfl, w2⟩ := Rd.rd_int Try.underlying3 t2
  obtain ⟨v3, z3, n3, e3, t3, q3⟩ := hs 3 _ rfl
  obtain ⟨x3, rfl, w3⟩ := Rd.rd_str Try.underlying9 t3 q3
  exact ⟨⟨x0, x1, x2, x3⟩, ⟨(hg 0 (by omega)).trans e0, (hg 1 (by omega)).trans e1, (hg 2 (by omega)).trans e2, (hg 3 (by omega)).trans e3⟩, step_ok x0 x1 x2 x3 w0 w1 w2 w3⟩
/-- Cell by cell: step i of a slice at block b. -/
structure StepAt (w : World) (b off i : Nat) (x : StepR) : Prop where
  dod : w.cell? ⟨b, off + i * 4, none⟩ = some (.int .i64 x.dod)
  addr : w.cell? ⟨b, off + i * 4 + 1, none⟩ = some (.int .u32 x.addr)
  n : w.cell? ⟨b, off + i * 4 + 2, none⟩ = some (.int .i64 x.n)
  text : w.cell? ⟨b, off + i * 4 + 3, none⟩ = some (.string x.text)
def bigN (x : StepR) : Bool := decide (2048 < x.n) && decide (x.n ≤ 1048576)
def sumT (Z : Nat → StepR) : Nat → Nat
  | 0 => 0
  | k + 1 => sumT Z k + (Z k).text.size
def heavyB (Z : Nat → StepR) (len : Nat) : Bool := (List.range (min len 300)).any (fun i => bigN (Z i)) || decide (120 < len) || decide (8192 < sumT Z (min len 300))
def heavyRel (Z : Nat → StepR) (len : Nat) (sn si : Value) : Prop := ∃ k : Nat, k ≤ min len 300 ∧ si = .int .i64 k ∧ sn = .int .i64 (sumT Z k : Nat) ∧ ∀ i, i < k → bigN (Z i) = false
theorem heavyB_of {Z : Nat → StepR} {len k : Nat} (hk : k < min len 300) (h : bigN (Z k) = true) : heavyB Z len = true := by
  unfold heavyB
  have : (List.range (min len 300)).any (fun i => bigN (Z i)) = true := List.any_eq_true.2 ⟨k, List.mem_range.2 hk, h⟩
  rw [this]; rfl
theorem heavyB_end {Z : Nat → StepR} {len : Nat} (h : ∀ i, i < min len 300 → bigN (Z i) = false) : heavyB Z len = (decide (120 < len) || decide (8192 < sumT Z (min len 300))) := by
  unfold heavyB
  have : (List.range (min len 300)).any (fun i => bigN (Z i)) = false := by
    rw [List.any_eq_false]
    intro i hi
    rw [h i (List.mem_range.1 hi)]
    simp
  rw [this]; rfl
theorem sumT_bd (Z : Nat → StepR) (k : Nat) (h : ∀ i, i < k → (Z i).text.size < 140737488355328) : sumT Z k ≤ k * 140737488355328 := by
  induction k with
  | zero => simp [sumT]
  | succ k ih =>
    have := ih fun i hi => h i (by omega)
    have := h k (by omega)
    simp only [sumT]
    omega
set_option maxRecDepth 100000 in
theorem heavy (b off len cap : Nat) (Z : Nat → StepR) (w : World) (hZ : ∀ i, i < len → StepAt w b off i (Z i)) (hok : ∀ i, i < len → (Z i).ok) (hlen : len ≤ 9223372036854775807) :
    Calls Try.prog 25 #[.slice (some ⟨b, off, none⟩) len cap] w fun e w' => e = .returned (.bool (heavyB Z len)) ∧ w = w' := by
  have HZ := Lib.hid hZ
  have Hok := Lib.hid hok
  clear hZ hok
  go_enter Try.func25, Try.ntmps25
  go_wp2
  go_loop [3, 4] (fun sn si => heavyRel Z len sn si) (fun _ i => 300 - (intOf i).toNat)
  case atStart => exact ⟨0, by omega, rfl, rfl, fun i hi => absurd hi (by omega)⟩
  case round =>
    obtain ⟨k, hk, rfl, rfl, hno⟩ := hrel
    have Hno := Lib.hid hno
    clear hno
    by_cases hk2 : k < len
    · by_cases hk3 : k < 300
      · have hs := HZ.out k hk2
        have ht := hs.text
        have hn := hs.n
        have hto := (Hok.out k hk2).t1
        have hsb := sumT_bd Z k fun i hi => (Hok.out i (by omega)).t1
        have Hsu := Lib.hid (show sumT Z (k + 1) = sumT Z k + (Z k).text.size from rfl)
        have Hb := Lib.hid (show bigN (Z k) = (decide (2048 < (Z k).n) && decide ((Z k).n ≤ 1048576)) from rfl)
        clear hs
        generalize (Z k).text = tx at *
        generalize (Z k).n = nn at *
        generalize hsm : sumT Z k = sm at *
        have Hsm := Lib.hid hsm
        clear hsm
        by_cases c1 : 2048 < nn
        · by_cases c2 : nn ≤ 1048576
          · have Hr := Lib.hid (heavyB_of (Z := Z) (len := len) (k := k) (by omega) (by rw [Hb.out]; simp [c1, c2]))
            go_wp2
            go_ret
            exact ⟨ret_bool Hr.out.symm, rfl⟩
          · have C := Lib.hid c2
            go_wp2
            refine ⟨⟨k + 1, by omega, by go_num, by rw [Hsu.out]; go_num, fun i hi => ?_⟩, by simp [intOf]; omega⟩
            by_cases e : i = k
            · rw [e, Hb.out]; simp [C.out]
            · exact Hno.out i (by omega)
        · have C := Lib.hid c1
          go_wp2
          refine ⟨⟨k + 1, by omega, by go_num, by rw [Hsu.out]; go_num, fun i hi => ?_⟩, by simp [intOf]; omega⟩
          by_cases e : i = k
          · rw [e, Hb.out]; simp [C.out]
          · exact Hno.out i (by omega)
      · have hmin : min len 300 = k := by omega
        have Hf := Lib.hid (heavyB_end (Z := Z) (len := len) (by rw [hmin]; exact Hno.out))
        have Hm := Lib.hid hmin
        have hl : 120 < len := by omega
        clear hmin
        go_wp2
        go_ret
        exact ⟨ret_bool (by rw [Hf.out]; simp [hl]), rfl⟩
    · have hmin : min len 300 = k := by omega
      have Hf := Lib.hid (heavyB_end (Z := Z) (len := len) (by rw [hmin]; exact Hno.out))
      have Hm := Lib.hid hmin
      have Hk := Lib.hid (show k = len by omega)
      clear hmin
      by_cases hl : 120 < len
      · go_wp2
        go_ret
        exact ⟨ret_bool (by rw [Hf.out]; simp [hl]), rfl⟩
      · have hl' : decide (120 < len) = false := decide_eq_false hl
        go_wp2
        go_ret
        exact ⟨ret_bool (by rw [Hf.out, Hm.out, decide_eq_false (show ¬ 120 < len from hl), decide_eq_false (show ¬ (120 : Int) < (len : Int) by omega), Bool.false_or, Bool.false_or, decide_eq_decide]; omega), rfl⟩
end Go.Proofs.Ytldmglodjafklaa.Sp
