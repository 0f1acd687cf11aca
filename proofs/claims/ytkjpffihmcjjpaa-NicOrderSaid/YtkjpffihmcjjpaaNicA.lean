/- The walks of nic.New, may, port, To, Len, Next, Dropped. -/
import Derived.Test.YtkjpffihmcjjpaaNic
import Derived.Test.YtkjpffihmcjjpaaWordGet
import Derived.LoopTactic
import Derived.WalkSpells
import Derived.WalkLawsBesides
import Derived.Outline
namespace Go.Proofs.Ytkjpffihmcjjpaa.Ni
open Go.RowKit
set_option linter.unusedVariables false
def newS : NicS := ⟨[], fun _ => [], [], 0⟩
theorem lt_of_block {w : World} {k : Nat} {o : Obj} (h : w.heap[k]? = some o) : k < w.heap.size := (Array.getElem?_eq_some_iff.1 h).1
theorem ret_bool {a b : Bool} (h : a = b) : Ending.returned (.bool a) = .returned (.bool b) := by rw [h]
theorem ret_ib {k : IntKind} {a b : Int} {c d : Bool} (h : a = b) (h' : c = d) : Ending.returned (.tuple #[.int k a, .bool c]) = .returned (.tuple #[.int k b, .bool d]) := by rw [h, h']
theorem new (w : World) : Calls Try.prog 7 #[] w fun e w' => e = .returned (.pointer (some ⟨w.heap.size + 1, 0, none⟩)) ∧ Nc w' (w.heap.size + 1) w.heap.size (fun _ => .slice none 0 0) (.slice none 0 0) newS ∧ Below w.heap.size w w' ∧ w'.heap.size = w.heap.size + 2 := by
  have hmm := @run_makeMap Try.prog
  go_enter Try.func7, Try.ntmps7
  go_wp2
  go_ret
  refine ⟨rfl, ⟨?_, ?_, fun x => SlV.nil _ _ _, SlV.nil _ _ _, List.nodup_nil, fun x hx => by simp [newS] at hx, fun x y k _ h => by simp [Value.ownBlock] at h, fun x k h => by simp [Value.ownBlock] at h, fun x => by simp [Value.ownBlock], by simp [Value.ownBlock], fun x => by simp [newS], fun k hk => ?_⟩, by repeat (first | exact Below.refl _ _ | refine Below.alloc ?_ (by simp) _), by simp⟩
  · have := heap_alloc_new (w.alloc (.map #[] 0)) (.cells #[.map (some w.heap.size), .slice none 0 0, .int .i64 0] 48)
    simpa [newS] using this
  · exact ⟨.map [], 0, (World.ownsMap_made w _ _ _).alloc _, fun x => rfl, rfl, fun x => by simp [newS, Maps.has]⟩
  · simp
    rcases hk with rfl | rfl | g | ⟨x, g⟩
    · omega
    · omega
    · simp [Value.ownBlock] at g
    · simp [Value.ownBlock] at g
def mayB (f : ByteArray) : Bool := decide (1 ≤ f.size) && decide (f.size ≤ 128)
theorem may (f : ByteArray) (hf : f.size < 140737488355328) (w : World) : Calls Try.prog 19 #[.string f] w fun e w' => e = .returned (.bool (mayB f)) ∧ w = w' := by
  by_cases a : 1 ≤ f.size
  · by_cases b : f.size ≤ 128
    · go_enter Try.func19, Try.ntmps19
      go_wp2
      go_ret
      exact ⟨ret_bool (by unfold mayB; simp [a, b]; omega), rfl⟩
    · go_enter Try.func19, Try.ntmps19
      go_wp2
      go_ret
      exact ⟨ret_bool (by unfold mayB; simp [a, b]; omega), rfl⟩
  · go_enter Try.func19, Try.ntmps19
    go_wp2
    go_ret
    exact ⟨ret_bool (by unfold mayB; simp [a]), rfl⟩
def portV (f : ByteArray) (j : Nat) : Int := if f.size < 24 then 0 else Word.getV (nums (f.extract j (j + 2))).reverse
def portB (f : ByteArray) : Bool := decide (24 ≤ f.size)
theorem portV_bd (f : ByteArray) (j : Nat) (hj : j ≤ 22) : 0 ≤ portV f j ∧ portV f j < 65536 := by
  unfold portV
  split
  · omega
  · have h := Word.getV_bd (nums (f.extract j (j + 2))).reverse (Word.reverse_bd (nums_bd _))
    have hl : (nums (f.extract j (j + 2))).reverse.length = 2 := by rw [List.length_reverse, nums_length]; simp; omega
    rw [hl] at h
    omega
theorem port (f : ByteArray) (hf : f.size < 140737488355328) (j : Nat) (hj : j ≤ 22) (w : World) : Calls Try.prog 20 #[.string f, .int .i64 j] w fun e w' => e = .returned (.tuple #[.int .u16 (portV f j), .bool (portB f)]) ∧ Below w.heap.size w w' := by
  by_cases a : f.size < 24
  · have hV := Lib.hid (show portV f j = 0 by unfold portV; rw [if_pos a])
    have hB := Lib.hid (show portB f = false by unfold portB; exact decide_eq_false (by omega))
    go_enter Try.func20, Try.ntmps20
    go_wp2
    go_ret2
    exact ⟨ret_ib hV.out.symm hB.out.symm, Below.refl _ _⟩
  · have hbd := portV_bd f j hj
    have hV : portV f j = Word.getV (nums (f.extract j (j + 2))).reverse := by unfold portV; rw [if_neg a]
    have HV := Lib.hid hV
    rw [hV] at hbd
    have hB := Lib.hid (show portB f = true by unfold portB; exact decide_eq_true (by omega))
    have hz := Lib.hid (show (f.extract j (j + 2)).size = 2 by simp; omega)
    clear hV
    generalize hg : f.extract j (j + 2) = g at *
    have Hg := Lib.hid hg
    clear hg
    go_enter Try.func20, Try.ntmps20
    go_wp2_with fail
    rw [Hg.out]
    refine (Word.getHigh2 g hz.out _).mono ?_
    rintro e w1 ⟨rfl, hb⟩
    generalize Word.getV (nums g).reverse = x at *
    go_wp2
    go_ret2
    exact ⟨ret_ib HV.out.symm hB.out.symm, hb⟩
theorem to (f : ByteArray) (hf : f.size < 140737488355328) (w : World) : Calls Try.prog 9 #[.string f] w fun e w' => e = .returned (.tuple #[.int .u16 (portV f 22), .bool (portB f)]) ∧ Below w.heap.size w w' := by
  have hp : ∀ w, Calls Try.prog 20 #[.string f, .int .i64 22] w fun e w' => e = .returned (.tuple #[.int .u16 (portV f 22), .bool (portB f)]) ∧ Below w.heap.size w w' := fun w => port f hf 22 (by omega) w
  go_enter Try.func9, Try.ntmps9
  go_wp2_with (go_at_call 20; (with_reducible refine (hp w).mono ?_); rintro e w1 ⟨rfl, hb⟩)
  go_ret2
  exact ⟨rfl, by assumption⟩
variable {w : World} {nb mb : Nat} {V : Int → Value} {sv : Value} {S : NicS}
theorem len (h : Nc w nb mb V sv S) (x : Int) (h0 : 0 ≤ x) (h1 : x < 65536) : Calls Try.prog 10 #[.pointer (some ⟨nb, 0, none⟩), .int .u16 x] w fun e w' => e = .returned (.int .i64 (S.q x).length) ∧ w = w' := by
  have hl := h.look x h0 h1
  have hc := h.cellMap
  have hsm := h.small x
  obtain ⟨a, cap, hv⟩ := (h.rows x).form
  rw [hv] at hl
  clear h hv
  go_enter Try.func10, Try.ntmps10
  go_wp2
  go_ret
  exact ⟨rfl, rfl⟩
theorem dropped (h : Nc w nb mb V sv S) : Calls Try.prog 17 #[.pointer (some ⟨nb, 0, none⟩)] w fun e w' => e = .returned (.int .i64 S.gone) ∧ w = w' := by
  have hc := h.cellGone
  clear h
  go_enter Try.func17, Try.ntmps17
  go_wp2
  go_ret
  exact ⟨rfl, rfl⟩
def nextS (S : NicS) (x : Int) : ByteArray := match S.q x with | [] => ByteArray.empty | f :: _ => f
def nextB (S : NicS) (x : Int) : Bool := match S.q x with | [] => false | _ :: _ => true
theorem rows_some (h : Nc w nb mb V sv S) {x : Int} {f : ByteArray} {r : List ByteArray} (hq : S.q x = f :: r) : ∃ g off cap, V x = .slice (some ⟨g, off, none⟩) (r.length + 1) cap ∧ w.cell? ⟨g, off, none⟩ = some (.string f) ∧ g < w.heap.size := by
  have hr := h.rows x
  rw [hq] at hr
  rcases hr.2 with ⟨h0, _⟩ | ⟨g, off, cap, cur, hv, hg, hc, hm, hs, ht⟩
  · simp at h0
  · refine ⟨g, off, cap, hv, ?_, lt_of_block hg⟩
    have := ht 0 (by simp)
    unfold World.cell?
    rw [hg]
    simpa using this
theorem next (h : Nc w nb mb V sv S) (x : Int) (h0 : 0 ≤ x) (h1 : x < 65536) : Calls Try.prog 15 #[.pointer (some ⟨nb, 0, none⟩), .int .u16 x] w fun e w' => e = .returned (.tuple #[.string (nextS S x), .bool (nextB S x)]) ∧ w = w' := by
  have hl := h.look x h0 h1
  have hc := h.cellMap
  have hsm := h.small x
  cases hq : S.q x with
  | nil =>
    have hr := h.rows x
    rw [hq] at hr
    obtain ⟨a, cap, hv⟩ := hr.form
    rw [hv] at hl
    have e1 := Lib.hid (show nextS S x = ByteArray.empty by unfold nextS; rw [hq])
    have e2 := Lib.hid (show nextB S x = false by unfold nextB; rw [hq])
    clear h hv hq hr hsm
    go_enter Try.func15, Try.ntmps15
    go_wp2
    go_ret2
    exact ⟨by rw [e1.out, e2.out]; rfl, rfl⟩
  | cons f r =>
    obtain ⟨g, off, cap, hv, hcell, _⟩ := rows_some h hq
    rw [hv] at hl
    have e1 := Lib.hid (show nextS S x = f by unfold nextS; rw [hq])
    have e2 := Lib.hid (show nextB S x = true by unfold nextB; rw [hq])
    rw [hq, List.length_cons] at hsm
    clear h hv hq
    generalize r.length = m at *
    go_enter Try.func15, Try.ntmps15
    go_wp2
    go_ret2
    exact ⟨by rw [e1.out, e2.out]; rfl, rfl⟩
end Go.Proofs.Ytkjpffihmcjjpaa.Ni
