/- The walks of cpu.doers and cpu.find. -/
import Derived.Test.YtkbhokmnbpnlbaaGreatProg
import Derived.Test.YtkbhokmnbpnlbaaGreatMod
import Derived.Maps.Own
namespace Go.Proofs.YtkbhokmnbpnlbaaGreat
open Go.RowKit
set_option linter.unusedVariables false
namespace Cp
/-- A function as a map's element. -/
def fnElem (v : Value) : Option (DataW Unit × List MemPlace) :=
  match v with
  | .nilFunc => some (.lit (.int .i64 (-1)), [])
  | .func (.func k) a b => if a = #[] ∧ b = #[] then some (.lit (.int .i64 k), []) else none
  | _ => none
def fnV (k : Int) : Value := if k = -1 then .nilFunc else .func (.func k.toNat) #[] #[]
theorem fnElem_inv {v : Value} {z : Int} {ps : List MemPlace} (h : fnElem v = some (.lit (.int .i64 z), ps)) : v = fnV z := by
  unfold fnElem at h
  split at h
  · simp at h
    rw [← h.1]
    rfl
  · split at h
    · rename_i hab
      simp at h
      rw [← h.1, hab.1, hab.2]
      unfold fnV
      rw [if_neg (by omega), Int.toNat_natCast]
    · cases h
  · cases h
def doersD : DataW Unit := (DataW.put (DataW.put (DataW.put (DataW.put (DataW.put (DataW.put (DataW.put (DataW.put (DataW.put (DataW.put (DataW.put (DataW.put (.map []) (.int .u8 32) (.lit (.int .i64 242))) (.int .u8 33) (.lit (.int .i64 243))) (.int .u8 34) (.lit (.int .i64 244))) (.int .u8 35) (.lit (.int .i64 245))) (.int .u8 36) (.lit (.int .i64 246))) (.int .u8 40) (.lit (.int .i64 247))) (.int .u8 41) (.lit (.int .i64 248))) (.int .u8 42) (.lit (.int .i64 249))) (.int .u8 43) (.lit (.int .i64 250))) (.int .u8 44) (.lit (.int .i64 251))) (.int .u8 45) (.lit (.int .i64 252))) (.int .u8 46) (.lit (.int .i64 253)))
theorem zeroFn (w : World) : (zeroValue 241).run Tryz.prog w = .ok .nilFunc w := by kernel_rfl
set_option maxRecDepth 100000 in
set_option maxHeartbeats 1000000 in
theorem doers (w : World) : Calls Tryz.prog 212 #[] w fun e w' => e = .returned (.map (some w.heap.size)) ∧ w'.ownsMap Tryz.prog 5 fnElem w.heap.size 12 doersD ∧ Below w.heap.size w w' := by
  have hmm := @run_makeMap Tryz.prog
  have K := Maps.int_keyed Tryz.underlying5
  have b0 : Below w.heap.size w (w.alloc (.map #[] 0)) := (Below.refl _ _).alloc (Nat.le_refl _) _
  obtain ⟨w1, r1, o1, g1⟩ := (World.ownsMap_made w Tryz.prog 5 fnElem).update K Tryz.underlying290 (by unfold maxLen; omega) (key := .int .u8 32) (val := .func (.func 242) #[] #[]) (Maps.keyOf_int_mk Tryz.underlying5 (by decide)) (d := .lit (.int .i64 242)) (ps := []) rfl
  have b1 : Below w.heap.size w w1 := b0.grown g1 (by have := b0.size; first | omega | (simp; done)) (fun k hk => by cases hk; exact Nat.le_refl _)
  obtain ⟨w2, r2, o2, g2⟩ := o1.update K Tryz.underlying290 (by unfold maxLen; omega) (key := .int .u8 33) (val := .func (.func 243) #[] #[]) (Maps.keyOf_int_mk Tryz.underlying5 (by decide)) (d := .lit (.int .i64 243)) (ps := []) rfl
  have b2 : Below w.heap.size w w2 := b1.grown g2 (by have := b1.size; first | omega | (simp; done)) (fun k hk => by cases hk; exact Nat.le_refl _)
  obtain ⟨w3, r3, o3, g3⟩ := o2.update K Tryz.underlying290 (by unfold maxLen; omega) (key := .int .u8 34) (val := .func (.func 244) #[] #[]) (Maps.keyOf_int_mk Tryz.underlying5 (by decide)) (d := .lit (.int .i64 244)) (ps := []) rfl
  have b3 : Below w.heap.size w w3 := b2.grown g3 (by have := b2.size; first | omega | (simp; done)) (fun k hk => by cases hk; exact Nat.le_refl _)
  obtain ⟨w4, r4, o4, g4⟩ := o3.update K Tryz.underlying290 (by unfold maxLen; omega) (key := .int .u8 35) (val := .func (.func 245) #[] #[]) (Maps.keyOf_int_mk Tryz.underlying5 (by decide)) (d := .lit (.int .i64 245)) (ps := []) rfl
  have b4 : Below w.heap.size w w4 := b3.grown g4 (by have := b3.size; first | omega | (simp; done)) (fun k hk => by cases hk; exact Nat.le_refl _)
  obtain ⟨w5, r5, o5, g5⟩ := o4.update K Tryz.underlying290 (by unfold maxLen; omega) (key := .int .u8 36) (val := .func (.func 246) #[] #[]) (Maps.keyOf_int_mk Tryz.underlying5 (by decide)) (d := .lit (.int .i64 246)) (ps := []) rfl
  have b5 : Below w.heap.size w w5 := b4.grown g5 (by have := b4.size; first | omega | (simp; done)) (fun k hk => by cases hk; exact Nat.le_refl _)
  obtain ⟨w6, r6, o6, g6⟩ := o5.update K Tryz.underlying290 (by unfold maxLen; omega) (key := .int .u8 40) (val := .func (.func 247) #[] #[]) (Maps.keyOf_int_mk Tryz.underlying5 (by decide)) (d := .lit (.int .i64 247)) (ps := []) rfl
  have b6 : Below w.heap.size w w6 := b5.grown g6 (by have := b5.size; first | omega | (simp; done)) (fun k hk => by cases hk; exact Nat.le_refl _)
  obtain ⟨w7, r7, o7, g7⟩ := o6.update K Tryz.underlying290 (by unfold maxLen; omega) (key := .int .u8 41) (val := .func (.func 248) #[] #[]) (Maps.keyOf_int_mk Tryz.underlying5 (by decide)) (d := .lit (.int .i64 248)) (ps := []) rfl
  have b7 : Below w.heap.size w w7 := b6.grown g7 (by have := b6.size; first | omega | (simp; done)) (fun k hk => by cases hk; exact Nat.le_refl _)
  obtain ⟨w8, r8, o8, g8⟩ := o7.update K Tryz.underlying290 (by unfold maxLen; omega) (key := .int .u8 42) (val := .func (.func 249) #[] #[]) (Maps.keyOf_int_mk Tryz.underlying5 (by decide)) (d := .lit (.int .i64 249)) (ps := []) rfl
  have b8 : Below w.heap.size w w8 := b7.grown g8 (by have := b7.size; first | omega | (simp; done)) (fun k hk => by cases hk; exact Nat.le_refl _)
  obtain ⟨w9, r9, o9, g9⟩ := o8.update K Tryz.underlying290 (by unfold maxLen; omega) (key := .int .u8 43) (val := .func (.func 250) #[] #[]) (Maps.keyOf_int_mk Tryz.underlying5 (by decide)) (d := .lit (.int .i64 250)) (ps := []) rfl
  have b9 : Below w.heap.size w w9 := b8.grown g9 (by have := b8.size; first | omega | (simp; done)) (fun k hk => by cases hk; exact Nat.le_refl _)
  obtain ⟨w10, r10, o10, g10⟩ := o9.update K Tryz.underlying290 (by unfold maxLen; omega) (key := .int .u8 44) (val := .func (.func 251) #[] #[]) (Maps.keyOf_int_mk Tryz.underlying5 (by decide)) (d := .lit (.int .i64 251)) (ps := []) rfl
  have b10 : Below w.heap.size w w10 := b9.grown g10 (by have := b9.size; first | omega | (simp; done)) (fun k hk => by cases hk; exact Nat.le_refl _)
  obtain ⟨w11, r11, o11, g11⟩ := o10.update K Tryz.underlying290 (by unfold maxLen; omega) (key := .int .u8 45) (val := .func (.func 252) #[] #[]) (Maps.keyOf_int_mk Tryz.underlying5 (by decide)) (d := .lit (.int .i64 252)) (ps := []) rfl
  have b11 : Below w.heap.size w w11 := b10.grown g11 (by have := b10.size; first | omega | (simp; done)) (fun k hk => by cases hk; exact Nat.le_refl _)
  obtain ⟨w12, r12, o12, g12⟩ := o11.update K Tryz.underlying290 (by unfold maxLen; omega) (key := .int .u8 46) (val := .func (.func 253) #[] #[]) (Maps.keyOf_int_mk Tryz.underlying5 (by decide)) (d := .lit (.int .i64 253)) (ps := []) rfl
  have b12 : Below w.heap.size w w12 := b11.grown g12 (by have := b11.size; first | omega | (simp; done)) (fun k hk => by cases hk; exact Nat.le_refl _)
  have HO : Hid (w12.ownsMap Tryz.prog 5 fnElem w.heap.size 12 doersD) := Lib.hid o12
  have HB := Lib.hid b12
  clear o1 g1 b1 o2 g2 b2 o3 g3 b3 o4 g4 b4 o5 g5 b5 o6 g6 b6 o7 g7 b7 o8 g8 b8 o9 g9 b9 o10 g10 b10 o11 g11 b11 o12 g12 b12 b0
  go_enter Tryz.func212, Tryz.ntmps212
  go_wp2
  go_ret
  exact ⟨rfl, HO.out, HB.out⟩
theorem find3 (op : Int) (o1 : op ≤ 14) (w : World) : Calls Tryz.prog 146 #[.int .u8 op] w fun e w' => e = .returned (.func (.func 210) #[] #[]) ∧ Below w.heap.size w w' := by
  have h := decide_eq_true o1
  go_enter Tryz.func146, Tryz.ntmps146
  go_wp2
  go_ret
  exact ⟨rfl, Below.refl _ _⟩
theorem find2 (op : Int) (o0 : 15 ≤ op) (o1 : op ≤ 30) (w : World) : Calls Tryz.prog 146 #[.int .u8 op] w fun e w' => e = .returned (.func (.func 211) #[] #[]) ∧ Below w.heap.size w w' := by
  have h0 : decide (op ≤ 14) = false := decide_eq_false (by omega)
  have h := decide_eq_true o1
  go_enter Tryz.func146, Tryz.ntmps146
  go_wp2
  go_ret
  exact ⟨rfl, Below.refl _ _⟩
set_option maxRecDepth 100000 in
theorem find1 (op k : Int) (o0 : 31 ≤ op) (o1 : op ≤ 255) (hk : doersD.atKey (.int .u8 op) (.lit (.int .i64 (-1))) = .lit (.int .i64 k)) (w : World) : Calls Tryz.prog 146 #[.int .u8 op] w fun e w' => e = .returned (fnV k) ∧ Below w.heap.size w w' := by
  have h0 : decide (op ≤ 14) = false := decide_eq_false (by omega)
  have h1 : decide (op ≤ 30) = false := decide_eq_false (by omega)
  have hwf : (Lit.int .u8 op).wf = true := by simp [Lit.wf, IntKind.min, IntKind.max, IntKind.signed, IntKind.bits]; omega
  go_enter Tryz.func146, Tryz.ntmps146
  go_wp2_with fail
  refine (doers _).mono ?_
  rintro e w1 ⟨rfl, ho, hb⟩
  obtain ⟨v, ps, hrun, hR⟩ := ho.lookup (Maps.int_keyed Tryz.underlying5) Tryz.underlying290 (zeroFn w1) (z := .nilFunc) (zd := .lit (.int .i64 (-1))) (zp := []) rfl (Maps.keyOf_int_mk Tryz.underlying5 hwf)
  rw [hk] at hR
  have hv := fnElem_inv hR
  subst hv
  have HB := Lib.hid hb
  clear hb ho hR hk
  go_wp2
  go_ret
  exact ⟨rfl, HB.out⟩
end Cp
end Go.Proofs.YtkbhokmnbpnlbaaGreat

