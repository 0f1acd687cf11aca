/- script's need and caught: how a reading is ended, and what becomes of it. -/
import Derived.Test.YtohlgcdailconaaGreatDoorMod
import Derived.Test.YtohlgcdailconaaGreatDoorProg
import Derived.LoopTactic
import Derived.Defers
import Derived.Recover
import Derived.Laws.Pointers
import Derived.Outline
import Derived.OneCell
import Derived.Shelf.Abstract
namespace Go.Proofs.YtohlgcdailconaaGreatDoor.Scr
open Go.RowKit
set_option linter.unusedVariables false
set_option linter.unusedSimpArgs false
/-- What ends a reading. -/
def wrongV : Value := .iface 78 (.agg #[])
def bad : Ending := .panicked [{ v := wrongV, recovered := false }]
def bxRel (w : World) (l : List Bool) (vi : Value) (wr : World) : Prop := ∃ i : Nat, i ≤ l.length ∧ vi = .int .i64 i ∧ (∀ (k : Nat) x, k < i → l[k]? = some x → x = true) ∧ wr = w
theorem containsB {w : World} {b n c : Nat} {l : List Bool} (hn : n = l.length) (hl : l.length ≤ 100) (hc : ∀ (i : Nat) x, l[i]? = some x → w.cell? ⟨b, i, none⟩ = some (.bool x)) :
    Calls Tryz.prog 52 #[.slice (some ⟨b, 0, none⟩) n c, .bool false] w fun e w' => e = .returned (.bool (!l.all id)) ∧ w = w' := by
  subst hn
  have hix : Calls Tryz.prog 69 #[.slice (some ⟨b, 0, none⟩) l.length c, .bool false] w fun e w' => (∃ i : Int, e = .returned (.int .i64 i) ∧ -1 ≤ i ∧ i ≤ 9223372036854775807 ∧ decide (i ≥ 0) = !l.all id) ∧ w = w' := by
    have HC := Lib.hid hc
    clear hc
    go_enter Tryz.func69, Tryz.ntmps69
    go_wp2
    go_loopw [5, 8] (fun _ vi wr => bxRel w l vi wr) (fun _ vi _ => l.length - (intOf vi).toNat)
    case atStart => exact ⟨0, by omega, by go_num, fun k x hk => absurd hk (Nat.not_lt_zero _), rfl⟩
    case round =>
      obtain ⟨i, hi, rfl, hno, rfl⟩ := hrel
      have HNo := Lib.hid hno
      clear hno
      by_cases hin : i < l.length
      · have HV : Hid (l[i]? = some l[i]) := Lib.hid (List.getElem?_eq_getElem hin)
        have hx := HC.out i _ HV.out
        generalize l[i] = v at *
        cases v with
        | false =>
          have HM : Hid (decide ((i : Int) ≥ 0) = !l.all id) := Lib.hid (by
            rw [decide_eq_true (by omega)]
            have : l.all id = false := by
              rw [List.all_eq_false]
              exact ⟨false, List.mem_of_getElem? HV.out, by simp⟩
            rw [this]; rfl)
          go_wp2
          go_ret
          exact ⟨⟨i, rfl, by omega, by omega, HM.out⟩, rfl⟩
        | true =>
          go_wp2
          refine ⟨⟨i + 1, by omega, by go_num, fun k x hk hy => ?_, rfl⟩, by simp [intOf]; omega⟩
          rcases Nat.lt_or_ge k i with q | q
          · exact HNo.out k x q hy
          · obtain rfl : k = i := by omega
            rw [HV.out] at hy
            cases hy
            rfl
      · have HM : Hid (decide ((-1 : Int) ≥ 0) = !l.all id) := Lib.hid (by
          have : l.all id = true := by
            rw [List.all_eq_true]
            intro x hx
            obtain ⟨k, hk⟩ := List.getElem?_of_mem hx
            exact HNo.out k x (by have := (List.getElem?_eq_some_iff.1 hk).1; omega) hk
          rw [this]; rfl)
        go_wp2
        go_ret
        exact ⟨⟨-1, rfl, by omega, by omega, HM.out⟩, rfl⟩
  go_enter Tryz.func52, Tryz.ntmps52
  go_wp2_with fail
  refine hix.mono ?_
  rintro e w1 ⟨⟨i, rfl, hi1, hi2, hd⟩, rfl⟩
  have HD := Lib.hid hd
  clear hd
  go_wp2
  go_ret
  exact ⟨by rw [← HD.out]; rfl, rfl⟩
theorem wrong_build (w : World) : (Instr.build 78 #[]).run Tryz.prog w = .ok (.agg #[]) w := by kernel_rfl
theorem need {w : World} {b n c : Nat} {l : List Bool} (hn : n = l.length) (hl : l.length ≤ 100) (hc : ∀ (i : Nat) x, l[i]? = some x → w.cell? ⟨b, i, none⟩ = some (.bool x)) :
    Calls Tryz.prog 40 #[.slice (some ⟨b, 0, none⟩) n c] w fun e w' => e = (if l.all id then .returned (.tuple #[]) else bad) ∧ w = w' := by
  subst hn
  have H := containsB rfl hl hc (c := c)
  clear hc
  cases ha : l.all id with
  | true =>
    rw [ha] at H
    clear ha
    go_enter Tryz.func40, Tryz.ntmps40
    go_wp2_with fail
    refine H.mono ?_
    rintro e w1 ⟨rfl, rfl⟩
    go_wp2
    go_end0
    exact ⟨rfl, rfl⟩
  | false =>
    rw [ha] at H
    clear ha
    go_enter Tryz.func40, Tryz.ntmps40
    go_wp2_with fail
    refine H.mono ?_
    rintro e w1 ⟨rfl, rfl⟩
    go_wp2
    exact ⟨rfl, rfl, rfl⟩
theorem any_nil (w : World) : (binOp .eql 20 wrongV .nilIface).run Tryz.prog w = .ok (.bool false) w := by kernel_rfl
theorem any_wrong (w : World) : (binOp .eql 20 wrongV wrongV).run Tryz.prog w = .ok (.bool true) w := by kernel_rfl
theorem nil_nil (w : World) : (binOp .eql 20 .nilIface .nilIface).run Tryz.prog w = .ok (.bool true) w := by kernel_rfl
theorem catch_bad (b : Nat) (x : Bool) (w : World) (hc : w.cell? ⟨b, 0, none⟩ = some (.bool x)) (hz : w.frozen? ⟨b, 0, none⟩ = false) :
    CallsD Tryz.prog 38 #[.pointer (some ⟨b, 0, none⟩)] (.panicking [{ v := wrongV, recovered := false }]) w fun e u' w' =>
      e = .returned (.tuple #[]) ∧ u' = .panicking [{ v := wrongV, recovered := true }] ∧ w' = w.setCell ⟨b, 0, none⟩ (.bool true) := by
  have h1 := any_nil w
  have h2 := any_wrong w
  unfold wrongV at *
  refine callsD_of_wpS Tryz.func38 rfl fun c₀ cs hu => ?_
  apply wpS_seq
  apply wpS_region
  simp [wpOpsS, go_sem, recoverD, hu, Tryz.ntmps38, Exit.thenS]
  refine wpS_of_wp ?_
  have HU := Lib.hid hu
  clear hu
  rw [show (#[Value.pointer (some ⟨b, 0, none⟩)] ++ ((Array.replicate 10 undef).setIfInBounds 1 (Value.iface 78 (Value.agg #[]))).setIfInBounds 0 (Value.iface 78 (Value.agg #[])) : Array Value) = #[.pointer (some ⟨b, 0, none⟩), .iface 78 (.agg #[]), .iface 78 (.agg #[]), undef, undef, undef, undef, undef, undef, undef, undef] from rfl]
  go_wp2
  simp [bodyPostS, results, Tryz.results38]
theorem catch_idle (b : Nat) (w : World) :
    CallsD Tryz.prog 38 #[.pointer (some ⟨b, 0, none⟩)] .returning w fun e u' w' => e = .returned (.tuple #[]) ∧ u' = .returning ∧ w' = w := by
  have h1 := nil_nil w
  refine callsD_of_wpS Tryz.func38 rfl fun c₀ cs hu => ?_
  apply wpS_seq
  apply wpS_region
  simp [wpOpsS, go_sem, recoverD, hu, Tryz.ntmps38, Exit.thenS]
  refine wpS_of_wp ?_
  have HU := Lib.hid hu
  clear hu
  rw [show (#[Value.pointer (some ⟨b, 0, none⟩)] ++ ((Array.replicate 10 undef).setIfInBounds 1 Value.nilIface).setIfInBounds 0 Value.nilIface : Array Value) = #[.pointer (some ⟨b, 0, none⟩), .nilIface, .nilIface, undef, undef, undef, undef, undef, undef, undef, undef] from rfl]
  go_wp2
  have hu := HU.out
  cases c₀
  simp_all [bodyPostS, results, Tryz.results38]
/-- What is done under caught goes on. -/
theorem caught_ok {g : Nat} {cap : Array Value} {w : World} {Q : World → Prop} (eg : ∀ args V, (callFunc g args).run Tryz.prog V = .ok (.enter g args) V)
    (h : Calls Tryz.prog g cap (w.alloc (.cells #[.bool false] 4)) fun e w' => e = .returned (.tuple #[]) ∧ w'.heap[w.heap.size]? = some (.cells #[.bool false] 4 (0, 0)) ∧ Q w') :
    Calls Tryz.prog 24 #[.func (.func g) #[] cap] w fun e w' => e = .returned (.bool false) ∧ ∃ w1, Q w1 ∧ w1.heap[w.heap.size]? = some (.cells #[.bool false] 4 (0, 0)) ∧ w' = w1.setCell ⟨w.heap.size, 0, none⟩ (.bool false) := by
  have hmf : ∀ (fn : Fn) (first cap : Array Value) (w : World), (Instr.makeFunc fn first cap).run Tryz.prog w = .ok (.func fn first cap) w := fun _ _ _ _ => rfl
  go_enter_defers Tryz.func24, Tryz.ntmps24
  go_wp2_with (go_at_fn g; refine h.mono ?_; rintro e w1 ⟨rfl, hb, hq⟩; have HB := Lib.hid hb; have HQ := Lib.hid hq; have c0 := cell_of_one hb; have f0 := free_of_one hb; clear hb hq)
  refine leaves_cons (f := 38) (args := #[.pointer (some ⟨w.heap.size, 0, none⟩)]) (by simp) (by simp [go_sem]) ?_
  refine (catch_idle w.heap.size _).mono ?_
  rintro e u' w'' ⟨rfl, rfl, rfl⟩
  have hr : (w1.setCell ⟨w.heap.size, 0, none⟩ (.bool false)).cell? ⟨w.heap.size, 0, none⟩ = some (.bool false) := cell_of_one (one_setCell HB.out)
  simp [Leaves, settle, results, Tryz.results24, go_sem, hr]
  exact ⟨w1, HQ.out, HB.out, rfl⟩
/-- What is done under caught ends as a reading is ended. -/
theorem caught_bad {g : Nat} {cap : Array Value} {w : World} {Q : World → Prop} (eg : ∀ args V, (callFunc g args).run Tryz.prog V = .ok (.enter g args) V)
    (h : Calls Tryz.prog g cap (w.alloc (.cells #[.bool false] 4)) fun e w' => e = bad ∧ w'.heap[w.heap.size]? = some (.cells #[.bool false] 4 (0, 0)) ∧ Q w') :
    Calls Tryz.prog 24 #[.func (.func g) #[] cap] w fun e w' => e = .returned (.bool true) ∧ ∃ w1, Q w1 ∧ w1.heap[w.heap.size]? = some (.cells #[.bool false] 4 (0, 0)) ∧ w' = w1.setCell ⟨w.heap.size, 0, none⟩ (.bool true) := by
  have hmf : ∀ (fn : Fn) (first cap : Array Value) (w : World), (Instr.makeFunc fn first cap).run Tryz.prog w = .ok (.func fn first cap) w := fun _ _ _ _ => rfl
  unfold bad at h
  go_enter_defers Tryz.func24, Tryz.ntmps24
  go_wp2_with (go_at_fn g; refine h.mono ?_; rintro e w1 ⟨rfl, hb, hq⟩; have HB := Lib.hid hb; have HQ := Lib.hid hq; have c0 := cell_of_one hb; have f0 := free_of_one hb; clear hb hq)
  refine leaves_cons (f := 38) (args := #[.pointer (some ⟨w.heap.size, 0, none⟩)]) (by simp) (by simp [go_sem]) ?_
  refine (catch_bad w.heap.size false _ c0 f0).mono ?_
  rintro e u' w'' ⟨rfl, rfl, rfl⟩
  have hr : (w1.setCell ⟨w.heap.size, 0, none⟩ (.bool true)).cell? ⟨w.heap.size, 0, none⟩ = some (.bool true) := cell_of_one (one_setCell HB.out)
  simp [Leaves, settle, results, Tryz.results24, go_sem, hr]
  exact ⟨w1, HQ.out, HB.out, rfl⟩
end Go.Proofs.YtohlgcdailconaaGreatDoor.Scr
