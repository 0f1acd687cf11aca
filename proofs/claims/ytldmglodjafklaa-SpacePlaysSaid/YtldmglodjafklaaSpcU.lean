/- The walks of space's Unmap, Perm, Set. -/
import Derived.Test.YtldmglodjafklaaSpcD
import Derived.Maps.OwnSet
namespace Go.Proofs.Ytldmglodjafklaa
open Go.RowKit
set_option linter.unusedVariables false
def delPg (a : Int) (A : List Pg) : List Pg := A.filter fun p => p.addr != a
theorem mem_delPg {a : Int} {A : List Pg} {p : Pg} : p ∈ delPg a A ↔ p ∈ A ∧ p.addr ≠ a := by unfold delPg; simp
theorem atAddr_del (A : List Pg) (a x : Int) : atAddr (delPg a A) x = if x = a then none else atAddr A x := by
  unfold atAddr delPg
  rw [List.find?_filter]
  by_cases e : x = a
  · rw [if_pos e]
    refine List.find?_eq_none.2 fun p hp => ?_
    simp [e]
  · rw [if_neg e]
    congr 1
    funext p
    by_cases g : p.addr = x
    · simp [g, e]
    · simp [g]
theorem len_delPg {A : List Pg} (h : A.Pairwise fun p q => p.addr < q.addr) {a : Int} {p : Pg} (hp : atAddr A a = some p) : (delPg a A).length + 1 = A.length := by
  induction A with
  | nil => cases hp
  | cons b r ih =>
    rw [List.pairwise_cons] at h
    by_cases e : b.addr = a
    · have : delPg a r = r := List.filter_eq_self.2 fun q hq => by have := h.1 q hq; simp; omega
      unfold delPg at this ⊢
      rw [List.filter_cons_of_neg (by simp [e]), this]
      rfl
    · have h2 : atAddr r a = some p := by
        unfold atAddr at hp ⊢
        rw [List.find?_cons_of_neg (by simpa using e)] at hp
        exact hp
      have := ih h.2 h2
      unfold delPg at this ⊢
      rw [List.filter_cons_of_pos (by simpa using e), List.length_cons, List.length_cons]
      omega
theorem Spc.remove {w w' : World} {sb mb : Nat} {A : List Pg} {D : DataW Unit} {n : Nat} (h : Spc w sb mb A) (a : Int) {p : Pg} (hp : atAddr A a = some p)
    (hD : w'.ownsMap Try.prog 27 ptrElem mb n (D.del (.int .u32 a))) (hv : ∀ x zd, D.atKey (.int .u32 x) zd = match atAddr A x with | some p => .lit (.int .i64 p.blk) | none => zd) (hs : Maps.size D = A.length) (hT : Maps.Tidy D) (hm : Mod (fun k => k = mb) w w') : Spc w' sb mb (delPg a A) := by
  have hne : ∀ k, k < w.heap.size → k ≠ mb → w'.heap[k]? = w.heap[k]? := fun k hk hkm => hm.block k hk hkm
  refine ⟨(hne sb (h.lt (.inl rfl)) h.ne_hm).trans h.head, ⟨_, n, hD, fun x zd => ?_, ?_⟩, fun q hq => ?_, fun q hq => h.ok q (mem_delPg.1 hq).1, ?_, ?_⟩
  · rw [atAddr_del]
    by_cases e : x = a
    · subst e; rw [if_pos rfl, Maps.atKey_del_same]
    · rw [if_neg e, Maps.atKey_del_other (by intro g; simp at g; exact e g), hv]
      cases atAddr A x <;> rfl
  · have h1 := Maps.size_del (k := .int .u32 a) hT
    have h2 : Maps.has D (.int .u32 a) = true := Maps.has_true_of_atKey (y := .lit (.int .i64 p.blk)) fun zd => by rw [hv, hp]
    rw [h2] at h1
    have h3 := len_delPg h.up hp
    simp at h1
    omega
  · have := (mem_delPg.1 hq).1
    exact (hne q.blk (lt_of_block (h.page q this)) (h.ne_map this).symm).trans (h.page q this)
  · exact h.up.filter _
  · exact h.blks.filter _
namespace Sp
def unmapE (A : List Pg) (addr : Int) : Int := if mayB addr = false then 2 else if (pageAt A addr).isSome then 0 else 3
def unmapA (A : List Pg) (addr : Int) : List Pg := if unmapE A addr = 0 then delPg addr A else A
theorem unmap_arg {w : World} {sb : Nat} (addr : Int) (h0 : 0 ≤ addr) (h1 : addr ≤ 4294967295) (hm : mayB addr = false) :
    Calls Try.prog 35 #[.pointer (some ⟨sb, 0, none⟩), .int .u32 addr] w fun e w' => e = .returned (.int .i64 2) ∧ w = w' := by
  go_enter Try.func35, Try.ntmps35
  go_wp2_with (go_at_call 36; (with_reducible refine (may addr h0 h1 _).mono ?_); rintro e w1 ⟨rfl, rfl⟩)
  go_ret
  exact ⟨rfl, rfl⟩
theorem unmap_none {w : World} {sb mb : Nat} {A : List Pg} (h : Spc w sb mb A) (addr : Int) (h0 : 0 ≤ addr) (h1 : addr ≤ 4294967295) (hm : mayB addr = true) (hp : pageAt A addr = none) :
    Calls Try.prog 35 #[.pointer (some ⟨sb, 0, none⟩), .int .u32 addr] w fun e w' => e = .returned (.int .i64 3) ∧ w = w' := by
  have H := Lib.hid h
  have Hp := Lib.hid hp
  clear h hp
  go_enter Try.func35, Try.ntmps35
  go_wp2_with (first | (go_at_call 36; (with_reducible refine (may addr h0 h1 _).mono ?_); rintro e w1 ⟨rfl, rfl⟩) | (go_at_call 37; (with_reducible refine (at_none H.out _ (by omega) (by omega) Hp.out).mono ?_); rintro e w1 ⟨rfl, rfl⟩))
  go_ret
  exact ⟨rfl, rfl⟩
theorem unmap_ok {w : World} {sb mb : Nat} {A : List Pg} (h : Spc w sb mb A) (addr : Int) (h0 : 0 ≤ addr) (h1 : addr ≤ 4294967295) (hm : mayB addr = true) {p : Pg} (hp : pageAt A addr = some p) :
    Calls Try.prog 35 #[.pointer (some ⟨sb, 0, none⟩), .int .u32 addr] w fun e w' => e = .returned (.int .i64 0) ∧ Spc w' sb mb (delPg addr A) ∧ Mod (fun k => k = mb) w w' := by
  have ha : addr % 256 = 0 ∧ addr < 1048576 := by unfold mayB at hm; simpa using hm
  have hp' : atAddr A addr = some p := by have := hp; unfold pageAt at this; rw [ha.1, Int.sub_zero] at this; exact this
  have K := Maps.int_keyed (P := Try.prog) Try.underlying27
  have hk := Maps.keyOf_int_mk (P := Try.prog) Try.underlying27 (wf_u32 h0 h1)
  obtain ⟨D, n, ho, hv, hs⟩ := h.map
  have hT := (own_tight ho).tidy K
  have fin : ∀ w', w'.ownsMap Try.prog 27 ptrElem mb n (D.del (.int .u32 addr)) → w.grownBy w' (some mb) → Spc w' sb mb (delPg addr A) ∧ Mod (fun k => k = mb) w w' := fun w' g1 g2 =>
    have hmod : Mod (fun k => k = mb) w w' := ⟨g2.os, g2.tape, g2.output, g2.size, fun k hk hkm => g2.block k hk (by simpa using hkm)⟩
    ⟨h.remove addr hp' g1 hv hs hT hmod, hmod⟩
  have Fin := Lib.hid fin
  have Ho := Lib.hid ho
  have hc := h.cellHead
  have H := Lib.hid h
  have Hp := Lib.hid hp
  clear h hp ha hp' fin ho hv hs hT
  go_enter Try.func35, Try.ntmps35
  go_wp2_with (first | (go_at_call 36; (with_reducible refine (may addr h0 h1 _).mono ?_); rintro e w1 ⟨rfl, rfl⟩) | (go_at_call 37; (with_reducible refine (at_some H.out _ (by omega) (by omega) Hp.out).mono ?_); rintro e w1 ⟨rfl, rfl⟩) | (at_delete; refine wpList_delete_own _ rfl _ _ 70 27 rfl 74 K Try.underlying70 ptrElem mb n D rfl Ho.out _ _ rfl hk ?_; intro w1 hown1 hgrow1))
  go_ret
  exact ⟨rfl, (Fin.out _ hown1 hgrow1.grown).1, (Fin.out _ hown1 hgrow1.grown).2⟩
theorem unmap_any {w : World} {sb mb : Nat} {A : List Pg} (h : Spc w sb mb A) (addr : Int) (h0 : 0 ≤ addr) (h1 : addr ≤ 4294967295) :
    Calls Try.prog 35 #[.pointer (some ⟨sb, 0, none⟩), .int .u32 addr] w fun e w' => e = .returned (.int .i64 (unmapE A addr)) ∧ Spc w' sb mb (unmapA A addr) ∧ Mod (fun k => k = mb) w w' := by
  cases hm : mayB addr with
  | false =>
    have e : unmapE A addr = 2 := by unfold unmapE; rw [if_pos hm]
    exact (unmap_arg addr h0 h1 hm).mono fun x w' ⟨g1, g2⟩ => ⟨by rw [g1, e], by unfold unmapA; rw [e]; exact g2 ▸ h, g2 ▸ Mod.refl _ _⟩
  | true =>
    cases hp : pageAt A addr with
    | none =>
      have e : unmapE A addr = 3 := by unfold unmapE; rw [hm, hp]; rfl
      exact (unmap_none h addr h0 h1 hm hp).mono fun x w' ⟨g1, g2⟩ => ⟨by rw [g1, e], by unfold unmapA; rw [e]; exact g2 ▸ h, g2 ▸ Mod.refl _ _⟩
    | some p =>
      have e : unmapE A addr = 0 := by unfold unmapE; rw [hm, hp]; rfl
      exact (unmap_ok h addr h0 h1 hm hp).mono fun x w' ⟨g1, g2, g3⟩ => ⟨by rw [g1, e], by unfold unmapA; rw [e]; exact g2, g3⟩
def permV (A : List Pg) (addr : Int) : Int := match pageAt A addr with | some p => p.perm | none => 0
def permB (A : List Pg) (addr : Int) : Bool := (pageAt A addr).isSome
theorem perm_any {w : World} {sb mb : Nat} {A : List Pg} (h : Spc w sb mb A) (addr : Int) (h0 : 0 ≤ addr) (h1 : addr ≤ 4294967295) :
    Calls Try.prog 29 #[.pointer (some ⟨sb, 0, none⟩), .int .u32 addr] w fun e w' => e = .returned (.tuple #[.int .u8 (permV A addr), .bool (permB A addr)]) ∧ w = w' := by
  cases hp : pageAt A addr with
  | none =>
    have e1 := Lib.hid (show permV A addr = 0 by unfold permV; rw [hp])
    have e2 := Lib.hid (show permB A addr = false by unfold permB; rw [hp]; rfl)
    have H := Lib.hid h
    have Hp := Lib.hid hp
    clear h hp
    go_enter Try.func29, Try.ntmps29
    go_wp2_with (go_at_call 37; (with_reducible refine (at_none H.out _ (by omega) (by omega) Hp.out).mono ?_); rintro e w1 ⟨rfl, rfl⟩)
    go_ret2
    exact ⟨by rw [e1.out, e2.out]; rfl, rfl⟩
  | some p =>
    have e1 := Lib.hid (show permV A addr = p.perm by unfold permV; rw [hp])
    have e2 := Lib.hid (show permB A addr = true by unfold permB; rw [hp]; rfl)
    have hcp := h.cellPerm (atAddr_mem hp).1
    have H := Lib.hid h
    have Hp := Lib.hid hp
    clear h hp
    go_enter Try.func29, Try.ntmps29
    go_wp2_with (go_at_call 37; (with_reducible refine (at_some H.out _ (by omega) (by omega) Hp.out).mono ?_); rintro e w1 ⟨rfl, rfl⟩)
    go_ret2
    exact ⟨by rw [e1.out, e2.out]; rfl, rfl⟩
theorem set {w : World} {sb mb : Nat} {A : List Pg} (h : Spc w sb mb A) (addr : Int) (s : ByteArray) (h0 : 0 ≤ addr) (h1 : addr ≤ 4294967295) (hn : s.size ≤ 140737488355328) :
    Calls Try.prog 32 #[.pointer (some ⟨sb, 0, none⟩), .int .u32 addr, .string s] w fun e w' => e = .returned (.int .i64 (fitsE A addr s.size 0)) ∧ Spc w' sb mb (putA A addr 0 s) ∧ Mod (pgBlk A) w w' := by
  have H := Lib.hid h
  clear h
  go_enter Try.func32, Try.ntmps32
  go_wp2_with (go_at_call 39; (with_reducible refine (put_any H.out addr 0 s h0 h1 hn (by omega) (by omega)).mono ?_); rintro e w1 ⟨rfl, hb⟩)
  go_ret
  exact ⟨rfl, by assumption⟩
end Sp
end Go.Proofs.Ytldmglodjafklaa
