/- The walks of space's Map, Unmap, Perm, Set. -/
import Derived.Test.YtldmglodjafklaaSpcC
import Derived.Test.YtldmglodjafklaaSpcQ
namespace Go.Proofs.Ytldmglodjafklaa.Sp
open Go.RowKit
set_option linter.unusedVariables false
def pgZero (perm : Int) : Array Value := (Value.int .u8 perm :: List.replicate 256 (Value.int .u8 0)).toArray
theorem pgZero_eq (addr : Int) (blk : Nat) (perm : Int) : pgZero perm = (pgNew addr blk perm).cells := by
  unfold pgZero Pg.cells pgNew
  rw [List.map_replicate]
theorem zero_set (perm : Int) : Try.zeroCells78.setIfInBounds 0 (.int .u8 perm) = pgZero perm := by kernel_rfl
def mapE (A : List Pg) (addr perm : Int) : Int := if mayB addr = false ∨ 7 < perm then 2 else if (pageAt A addr).isSome then 9 else 0
theorem map_arg {w : World} {sb mb : Nat} {A : List Pg} (h : Spc w sb mb A) (addr perm : Int) (h0 : 0 ≤ addr) (h1 : addr ≤ 4294967295) (p0 : 0 ≤ perm) (p1 : perm ≤ 255) (hb : mayB addr = false ∨ 7 < perm) :
    Calls Try.prog 9 #[.pointer (some ⟨sb, 0, none⟩), .int .u32 addr, .int .u8 perm] w fun e w' => e = .returned (.int .i64 2) ∧ w = w' := by
  clear h
  cases hm : mayB addr with
  | false =>
    go_enter Try.func9, Try.ntmps9
    go_wp2_with (go_at_call 36; (with_reducible refine (may addr h0 h1 _).mono ?_); rintro e w1 ⟨rfl, rfl⟩)
    go_ret
    exact ⟨rfl, rfl⟩
  | true =>
    have hp : 7 < perm := by rw [hm] at hb; simpa using hb
    clear hb
    go_enter Try.func9, Try.ntmps9
    go_wp2_with (go_at_call 36; (with_reducible refine (may addr h0 h1 _).mono ?_); rintro e w1 ⟨rfl, rfl⟩)
    go_ret
    exact ⟨rfl, rfl⟩
theorem map_have {w : World} {sb mb : Nat} {A : List Pg} (h : Spc w sb mb A) (addr perm : Int) (h0 : 0 ≤ addr) (h1 : addr ≤ 4294967295) (p0 : 0 ≤ perm) (p1 : perm ≤ 7) (hm : mayB addr = true) {p : Pg} (hp : pageAt A addr = some p) :
    Calls Try.prog 9 #[.pointer (some ⟨sb, 0, none⟩), .int .u32 addr, .int .u8 perm] w fun e w' => e = .returned (.int .i64 9) ∧ w = w' := by
  have H := Lib.hid h
  have Hp := Lib.hid hp
  clear h hp
  go_enter Try.func9, Try.ntmps9
  go_wp2_with (first | (go_at_call 36; (with_reducible refine (may addr h0 h1 _).mono ?_); rintro e w1 ⟨rfl, rfl⟩) | (go_at_call 37; (with_reducible refine (at_some H.out _ (by omega) (by omega) Hp.out).mono ?_); rintro e w1 ⟨rfl, rfl⟩))
  go_ret
  exact ⟨rfl, rfl⟩
set_option maxRecDepth 100000 in
theorem map_ok {w : World} {sb mb : Nat} {A : List Pg} (h : Spc w sb mb A) (addr perm : Int) (h0 : 0 ≤ addr) (h1 : addr ≤ 4294967295) (p0 : 0 ≤ perm) (p1 : perm ≤ 7) (hm : mayB addr = true) (hp : pageAt A addr = none) :
    Calls Try.prog 9 #[.pointer (some ⟨sb, 0, none⟩), .int .u32 addr, .int .u8 perm] w fun e w' => e = .returned (.int .i64 0) ∧ Spc w' sb mb (insPg (pgNew addr w.heap.size perm) A) ∧ Mod (fun k => k = mb) w w' := by
  have ha : addr % 256 = 0 ∧ addr < 1048576 := by unfold mayB at hm; simpa using hm
  have hp' : atAddr A addr = none := by have := hp; unfold pageAt at this; rw [ha.1, Int.sub_zero] at this; exact this
  have hzs := zero_set perm
  have h2 : Spc (w.alloc (.cells (pgZero perm) 78)) sb mb A := h.keep ((Mod.refl (fun _ => False) w).alloc _) fun _ _ g => g
  obtain ⟨w', hrun, hsp, hmod⟩ := h2.insert addr perm h0 ha.2 ha.1 p0 p1 hp' w.heap.size (by rw [pgZero_eq addr w.heap.size perm]; exact heap_alloc_new _ _) (fun g => by have := h.lt g; omega)
  have hc := h.cellHead
  have H := Lib.hid h
  have Hp := Lib.hid hp
  have Hs := Lib.hid hsp
  have Hm := Lib.hid hmod
  clear h hp h2 hsp hmod ha hp'
  go_enter Try.func9, Try.ntmps9
  go_wp2_with (first | (go_at_call 36; (with_reducible refine (may addr h0 h1 _).mono ?_); rintro e w1 ⟨rfl, rfl⟩) | (go_at_call 37; (with_reducible refine (at_none H.out _ (by omega) (by omega) Hp.out).mono ?_); rintro e w1 ⟨rfl, rfl⟩))
  go_ret
  exact ⟨rfl, Hs.out, ((Mod.refl _ _).alloc _).same Hm.out⟩
def mapA (A : List Pg) (addr : Int) (blk : Nat) (perm : Int) : List Pg := if mapE A addr perm = 0 then insPg (pgNew addr blk perm) A else A
theorem map_any {w : World} {sb mb : Nat} {A : List Pg} (h : Spc w sb mb A) (addr perm : Int) (h0 : 0 ≤ addr) (h1 : addr ≤ 4294967295) (p0 : 0 ≤ perm) (p1 : perm ≤ 255) :
    Calls Try.prog 9 #[.pointer (some ⟨sb, 0, none⟩), .int .u32 addr, .int .u8 perm] w fun e w' => e = .returned (.int .i64 (mapE A addr perm)) ∧ Spc w' sb mb (mapA A addr w.heap.size perm) ∧ Mod (fun k => k = mb) w w' := by
  by_cases hb : mayB addr = false ∨ 7 < perm
  · have e : mapE A addr perm = 2 := by unfold mapE; rw [if_pos hb]
    exact (map_arg h addr perm h0 h1 p0 p1 hb).mono fun x w' ⟨g1, g2⟩ => ⟨by rw [g1, e], by unfold mapA; rw [e]; exact g2 ▸ h, g2 ▸ Mod.refl _ _⟩
  · have hm : mayB addr = true := by cases hm : mayB addr <;> simp [hm] at hb ⊢
    have hp7 : perm ≤ 7 := by omega
    cases hp : pageAt A addr with
    | some p =>
      have e : mapE A addr perm = 9 := by unfold mapE; rw [if_neg hb, hp]; rfl
      exact (map_have h addr perm h0 h1 p0 hp7 hm hp).mono fun x w' ⟨g1, g2⟩ => ⟨by rw [g1, e], by unfold mapA; rw [e]; exact g2 ▸ h, g2 ▸ Mod.refl _ _⟩
    | none =>
      have e : mapE A addr perm = 0 := by unfold mapE; rw [if_neg hb, hp]; rfl
      exact (map_ok h addr perm h0 h1 p0 hp7 hm hp).mono fun x w' ⟨g1, g2, g3⟩ => ⟨by rw [g1, e], by unfold mapA; rw [e]; exact g2, g3⟩
end Go.Proofs.Ytldmglodjafklaa.Sp
