/- The walks of space.New, may, at, fits. -/
import Derived.Test.YtldmglodjafklaaSpc
import Derived.LoopTactic
import Derived.WalkSpells
import Derived.WalkLawsBesides
import Derived.Outline
namespace Go.Proofs.Ytldmglodjafklaa.Sp
open Go.RowKit
set_option linter.unusedVariables false
theorem ret_bool {a b : Bool} (h : a = b) : Ending.returned (.bool a) = .returned (.bool b) := by rw [h]
theorem pageAt_far {w : World} {sb mb : Nat} {A : List Pg} (h : Spc w sb mb A) (x : Int) (hx : 1048576 ≤ x) : pageAt A x = none := by
  cases hp : pageAt A x with
  | none => rfl
  | some p =>
    have hm := atAddr_mem hp
    have := (h.ok p hm.1).a1
    omega
set_option maxRecDepth 100000 in
theorem at_any {w : World} {sb mb : Nat} {A : List Pg} (h : Spc w sb mb A) (x : Int) (h0 : 0 ≤ x) (h1 : x ≤ 18446744073709551615) :
    Calls Try.prog 37 #[.pointer (some ⟨sb, 0, none⟩), .int .u64 x] w fun e w' => e = .returned (pgPtr (pageAt A x)) ∧ w = w' := by
  by_cases hx : 1048576 ≤ x
  · have e := Lib.hid (pageAt_far h x hx)
    clear h
    go_enter Try.func37, Try.ntmps37
    go_wp2
    go_ret
    exact ⟨by rw [e.out]; rfl, rfl⟩
  · have hk : x / 256 * 256 = x - x % 256 := by omega
    have hl := h.look (x / 256 * 256) (by omega) (by omega)
    rw [show pgPtr (atAddr A (x / 256 * 256)) = pgPtr (pageAt A x) by rw [hk]; rfl] at hl
    have hc := h.cellHead
    generalize pgPtr (pageAt A x) = r at *
    have hx2 : x < 1048576 := by omega
    clear h hk hx
    go_enter Try.func37, Try.ntmps37
    go_wp2
    go_ret
    exact ⟨rfl, rfl⟩
theorem at_none {w : World} {sb mb : Nat} {A : List Pg} (h : Spc w sb mb A) (x : Int) (h0 : 0 ≤ x) (h1 : x ≤ 18446744073709551615) (hp : pageAt A x = none) :
    Calls Try.prog 37 #[.pointer (some ⟨sb, 0, none⟩), .int .u64 x] w fun e w' => e = .returned (.pointer none) ∧ w = w' := by
  have := at_any h x h0 h1
  rw [hp] at this
  exact this
theorem at_some {w : World} {sb mb : Nat} {A : List Pg} (h : Spc w sb mb A) (x : Int) (h0 : 0 ≤ x) (h1 : x ≤ 18446744073709551615) {p : Pg} (hp : pageAt A x = some p) :
    Calls Try.prog 37 #[.pointer (some ⟨sb, 0, none⟩), .int .u64 x] w fun e w' => e = .returned (.pointer (some ⟨p.blk, 0, none⟩)) ∧ w = w' := by
  have := at_any h x h0 h1
  rw [hp] at this
  exact this
theorem new (w : World) : Calls Try.prog 8 #[] w fun e w' => e = .returned (.pointer (some ⟨w.heap.size + 1, 0, none⟩)) ∧ Spc w' (w.heap.size + 1) w.heap.size [] ∧ Below w.heap.size w w' ∧ w'.heap.size = w.heap.size + 2 := by
  have hmm := @run_makeMap Try.prog
  go_enter Try.func8, Try.ntmps8
  go_wp2
  go_ret
  refine ⟨rfl, ⟨?_, ?_, fun p hp => by simp at hp, fun p hp => by simp at hp, .nil, .nil⟩, by repeat (first | exact Below.refl _ _ | refine Below.alloc ?_ (by simp) _), by simp⟩
  · have := heap_alloc_new (w.alloc (.map #[] 0)) (.cells #[.map (some w.heap.size)] 72)
    simpa using this
  · exact ⟨.map [], 0, (World.ownsMap_made w _ _ _).alloc _, fun x zd => rfl, rfl⟩
def mayB (x : Int) : Bool := (x % 256 == 0) && decide (x < 1048576)
theorem may (x : Int) (h0 : 0 ≤ x) (h1 : x ≤ 4294967295) (w : World) : Calls Try.prog 36 #[.int .u32 x] w fun e w' => e = .returned (.bool (mayB x)) ∧ w = w' := by
  by_cases a : x % 256 = 0
  · by_cases b : 1048576 ≤ x
    · go_enter Try.func36, Try.ntmps36
      go_wp2
      go_ret
      exact ⟨ret_bool (by unfold mayB; rw [decide_eq_false (by omega)]; simp), rfl⟩
    · have hb : decide (x < 1048576) = true := decide_eq_true (by omega)
      go_enter Try.func36, Try.ntmps36
      go_wp2
      go_ret
      exact ⟨ret_bool (by unfold mayB; rw [decide_eq_true (by omega), a]; rfl), rfl⟩
  · go_enter Try.func36, Try.ntmps36
    go_wp2
    go_ret
    exact ⟨ret_bool (by unfold mayB; rw [beq_eq_false_iff_ne.2 a]; rfl), rfl⟩
def okAt (A : List Pg) (need x : Int) : Bool := match pageAt A x with | some p => bits .and .u8 p.perm need == need | none => false
def fitsB (A : List Pg) (addr : Int) (n : Nat) (need : Int) : Bool := (List.range n).all fun k => okAt A need (addr + k)
def fitsE (A : List Pg) (addr : Int) (n : Nat) (need : Int) : Int := if fitsB A addr n need then 0 else 50
theorem fitsE_yes {A : List Pg} {addr : Int} {n : Nat} {need : Int} (h : fitsB A addr n need = true) : fitsE A addr n need = 0 := by unfold fitsE; rw [if_pos h]
theorem fitsE_no {A : List Pg} {addr : Int} {n : Nat} {need : Int} (h : fitsB A addr n need = false) : fitsE A addr n need = 50 := by unfold fitsE; rw [h]; rfl
theorem fitsB_succ (A : List Pg) (addr : Int) (k : Nat) (need : Int) : fitsB A addr (k + 1) need = (fitsB A addr k need && okAt A need (addr + k)) := by
  unfold fitsB; rw [List.range_succ, List.all_append]; simp
theorem fitsB_false {A : List Pg} {addr : Int} {n k : Nat} {need : Int} (hk : k < n) (h : okAt A need (addr + k) = false) : fitsB A addr n need = false := by
  unfold fitsB
  rw [Bool.eq_false_iff]
  intro g
  rw [List.all_eq_true] at g
  have := g k (List.mem_range.2 hk)
  rw [h] at this
  cases this
theorem fitsB_at {A : List Pg} {addr : Int} {n k : Nat} {need : Int} (hk : k < n) (h : fitsB A addr n need = true) : okAt A need (addr + k) = true := by
  unfold fitsB at h
  rw [List.all_eq_true] at h
  exact h k (List.mem_range.2 hk)
def fitsRel (A : List Pg) (addr : Int) (n : Nat) (need : Int) (si : Value) : Prop := ∃ k : Nat, k ≤ n ∧ si = .int .i64 k ∧ fitsB A addr k need = true
theorem fits {w : World} {sb mb : Nat} {A : List Pg} (h : Spc w sb mb A) (addr : Int) (n : Nat) (need : Int) (h0 : 0 ≤ addr) (h1 : addr ≤ 4294967295) (hn : n ≤ 140737488355328) (n0 : 0 ≤ need) (n1 : need ≤ 255) :
    Calls Try.prog 53 #[.pointer (some ⟨sb, 0, none⟩), .int .u32 addr, .int .i64 n, .int .u8 need] w fun e w' => e = .returned (.int .i64 (fitsE A addr n need)) ∧ w = w' := by
  have H := Lib.hid h
  clear h
  go_enter Try.func53, Try.ntmps53
  go_wp2
  go_loop [13, 9, 10, 11] (fun si _ _ _ => fitsRel A addr n need si) (fun i _ _ _ => n - (intOf i).toNat)
  case atStart => exact ⟨0, by omega, rfl, rfl⟩
  case round =>
    obtain ⟨k, hk, rfl, hfit⟩ := hrel
    have Hf := Lib.hid hfit
    clear hfit
    by_cases hk2 : k < n
    · cases hp : pageAt A (addr + k) with
      | none =>
        have Hno := Lib.hid (fitsB_false (A := A) (need := need) hk2 (by unfold okAt; rw [hp]))
        have Hp := Lib.hid hp
        clear hp
        go_wp2_with (go_at_call 37; (with_reducible refine (at_none H.out _ (by omega) (by omega) Hp.out).mono ?_); rintro e w1 ⟨rfl, rfl⟩)
        go_ret
        exact ⟨ret_int (fitsE_no Hno.out).symm, rfl⟩
      | some p =>
        have hm := atAddr_mem hp
        have hcp := H.out.cellPerm hm.1
        by_cases hb : (bits .and .u8 p.perm need == need) = true
        · have Hs := Lib.hid (show fitsB A addr (k + 1) need = true by rw [fitsB_succ, Hf.out]; unfold okAt; rw [hp]; simpa using hb)
          have Hp := Lib.hid hp
          have hb2 : (bits .and .u8 p.perm need != need) = false := by rw [bne, hb]; rfl
          clear hp hm hb
          go_wp2_with (go_at_call 37; (with_reducible refine (at_some H.out _ (by omega) (by omega) Hp.out).mono ?_); rintro e w1 ⟨rfl, rfl⟩)
          go_round
          case rel => exact ⟨k + 1, by omega, by go_num, Hs.out⟩
          case measure => simp [intOf] <;> omega
        · have hb' : (bits .and .u8 p.perm need == need) = false := by simpa using hb
          have Hno := Lib.hid (fitsB_false (A := A) (need := need) hk2 (by unfold okAt; rw [hp]; exact hb'))
          have Hp := Lib.hid hp
          have hb2 : (bits .and .u8 p.perm need != need) = true := by rw [bne, hb']; rfl
          clear hp hm hb hb'
          go_wp2_with (go_at_call 37; (with_reducible refine (at_some H.out _ (by omega) (by omega) Hp.out).mono ?_); rintro e w1 ⟨rfl, rfl⟩)
          go_ret
          exact ⟨ret_int (fitsE_no Hno.out).symm, rfl⟩
    · obtain rfl : k = n := by omega
      go_wp2
      go_ret
      exact ⟨ret_int (fitsE_yes Hf.out).symm, rfl⟩
end Go.Proofs.Ytldmglodjafklaa.Sp
