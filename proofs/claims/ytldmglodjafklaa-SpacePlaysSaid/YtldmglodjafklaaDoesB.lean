/- The walk of aediculelaw05's does: what is read. -/
import Derived.Test.YtldmglodjafklaaDoes
import Derived.WideShapes
import Derived.Laws.Strings
namespace Go.Proofs.Ytldmglodjafklaa
open Go.RowKit
set_option linter.unusedVariables false
namespace Sp
theorem texts (x y : ByteArray) (e f : Int) (w : World) : Calls Try.prog 48 #[.string x, .int .i64 e, .string y, .int .i64 f] w fun en w' => ∃ b, en = .returned (.bool b) ∧ (x = y → e = f → b = true) ∧ Below w.heap.size w w' := by
  by_cases h : x = y
  · subst h
    by_cases g : e = f
    · subst g
      go_enter Try.func48, Try.ntmps48
      go_wp2
      go_ret
      exact ⟨true, by simp, fun _ _ => rfl, Below.refl _ _⟩
    · have hg : (e == f) = false := by simpa using g
      go_enter Try.func48, Try.ntmps48
      go_wp2
      go_ret
      exact ⟨false, by simp, fun _ q => absurd q g, Below.refl _ _⟩
  · have hh : (x.toList == y.toList) = false := by
      rw [beq_eq_false_iff_ne]
      intro e
      rw [ByteArray.toList_eq, ByteArray.toList_eq] at e
      exact h (Go.WideShapes.bytes_inj e)
    go_enter Try.func48, Try.ntmps48
    go_wp2
    go_ret
    exact ⟨false, by simp, fun q => absurd q h, Below.refl _ _⟩
set_option maxRecDepth 100000 in
set_option maxHeartbeats 4000000 in
theorem does_look {w : World} {sb mb rb : Nat} {A : List Pg} {lv : Value} {R : List Rp} (h : Pair w sb mb A rb lv R) (a n : Int) (t : ByteArray) (h0 : 0 ≤ a) (h1 : a ≤ 4294967295) (n0 : -9223372036854775808 ≤ n) (n1 : n ≤ 9223372036854775807) :
    Calls Try.prog 26 #[.pointer (some ⟨sb, 0, none⟩), .pointer (some ⟨rb, 0, none⟩), .agg #[.int .i64 3, .int .u32 a, .int .i64 n, .string t]] w (DoesPost w sb mb A rb lv R) := by
  have H := Lib.hid h
  clear h
  have HFin : Hid (∀ b w', Below w.heap.size w w' → (getS A a n 0 = getS (rpgs R) a n 0 → getE A a n 0 = getE (rpgs R) a n 0 → b = true) → DoesPost w sb mb A rb lv R (.returned (.bool b)) w') := Lib.hid fun b w' h1 h2 => ⟨A, lv, R, b, rfl, (DStep.refl H.out).below h1, fun hc => ⟨h2 (Cor.getS hc _ _ _) (Cor.getE hc _ _ _), hc⟩⟩
  generalize DoesPost w sb mb A rb lv R = PQ at *
  go_enter Try.func26, Try.ntmps26
  go_wp2_with fail
  generalize hW : w.alloc (.cells #[.int .i64 3, .int .u32 a, .int .i64 n, .string t] 58) = W at *
  have hbW : Below w.heap.size w W := by rw [← hW]; exact (Below.refl _ _).alloc (Nat.le_refl _) _
  have hcs : ∀ i, W.cell? ⟨w.heap.size, 0 + i, none⟩ = [Value.int .i64 3, .int .u32 a, .int .i64 n, .string t][i]? := fun i => by rw [← hW]; exact cells4 w _ _ _ _ _ i
  have ha : W.cell? ⟨w.heap.size, 1, none⟩ = some (.int .u32 a) := hcs 1
  have hbl : w.heap.size < W.heap.size := by rw [← hW]; simp
  have HP := Lib.hid (H.out.below hbW)
  clear hcs hW
  refine (look HP.out.sp a n h0 h1).mono ?_
  rintro e w1 ⟨rfl, hb1⟩
  have ha1 : w1.cell? ⟨w.heap.size, 1, none⟩ = some (.int .u32 a) := (hb1.cell (p := ⟨w.heap.size, 1, none⟩) hbl).trans ha
  have HP1 := Lib.hid (HP.out.below hb1)
  have HB1 := Lib.hid (hbW.trans (hb1.mono hbW.size))
  clear hbW hb1
  have Hf := Lib.hid (fun b w' (h : Below w1.heap.size w1 w') => HFin.out b w' (HB1.out.trans (h.mono HB1.out.size)))
  generalize getS A a n 0 = gs at *
  generalize getE A a n 0 = ge at *
  go_wp2_with (go_at_call 47; (with_reducible refine (Rs.get_any HP1.out.rp a n 0 h0 h1 (by omega) (by omega)).mono ?_); rintro e w2 ⟨rfl, hb2⟩)
  generalize getS (rpgs R) a n 0 = gs2 at *
  generalize getE (rpgs R) a n 0 = ge2 at *
  go_wp2_with (go_at_call 48; (with_reducible refine (texts gs gs2 ge ge2 _).mono ?_); rintro e w3 ⟨b, rfl, hbb, hb3⟩)
  exact Hf.out b _ (below_th hb2 hb3) hbb
set_option maxRecDepth 100000 in
set_option maxHeartbeats 4000000 in
theorem does_read {w : World} {sb mb rb : Nat} {A : List Pg} {lv : Value} {R : List Rp} (h : Pair w sb mb A rb lv R) (a n : Int) (t : ByteArray) (h0 : 0 ≤ a) (h1 : a ≤ 4294967295) (n0 : -9223372036854775808 ≤ n) (n1 : n ≤ 9223372036854775807) :
    Calls Try.prog 26 #[.pointer (some ⟨sb, 0, none⟩), .pointer (some ⟨rb, 0, none⟩), .agg #[.int .i64 4, .int .u32 a, .int .i64 n, .string t]] w (DoesPost w sb mb A rb lv R) := by
  have H := Lib.hid h
  clear h
  have HFin : Hid (∀ b w', Below w.heap.size w w' → (getS A a n 1 = getS (rpgs R) a n 1 → getE A a n 1 = getE (rpgs R) a n 1 → b = true) → DoesPost w sb mb A rb lv R (.returned (.bool b)) w') := Lib.hid fun b w' h1 h2 => ⟨A, lv, R, b, rfl, (DStep.refl H.out).below h1, fun hc => ⟨h2 (Cor.getS hc _ _ _) (Cor.getE hc _ _ _), hc⟩⟩
  generalize DoesPost w sb mb A rb lv R = PQ at *
  go_enter Try.func26, Try.ntmps26
  go_wp2_with fail
  generalize hW : w.alloc (.cells #[.int .i64 4, .int .u32 a, .int .i64 n, .string t] 58) = W at *
  have hbW : Below w.heap.size w W := by rw [← hW]; exact (Below.refl _ _).alloc (Nat.le_refl _) _
  have hcs : ∀ i, W.cell? ⟨w.heap.size, 0 + i, none⟩ = [Value.int .i64 4, .int .u32 a, .int .i64 n, .string t][i]? := fun i => by rw [← hW]; exact cells4 w _ _ _ _ _ i
  have ha : W.cell? ⟨w.heap.size, 1, none⟩ = some (.int .u32 a) := hcs 1
  have hbl : w.heap.size < W.heap.size := by rw [← hW]; simp
  have HP := Lib.hid (H.out.below hbW)
  clear hcs hW
  refine (read HP.out.sp a n h0 h1).mono ?_
  rintro e w1 ⟨rfl, hb1⟩
  have ha1 : w1.cell? ⟨w.heap.size, 1, none⟩ = some (.int .u32 a) := (hb1.cell (p := ⟨w.heap.size, 1, none⟩) hbl).trans ha
  have HP1 := Lib.hid (HP.out.below hb1)
  have HB1 := Lib.hid (hbW.trans (hb1.mono hbW.size))
  clear hbW hb1
  have Hf := Lib.hid (fun b w' (h : Below w1.heap.size w1 w') => HFin.out b w' (HB1.out.trans (h.mono HB1.out.size)))
  generalize getS A a n 1 = gs at *
  generalize getE A a n 1 = ge at *
  go_wp2_with (go_at_call 47; (with_reducible refine (Rs.get_any HP1.out.rp a n 1 h0 h1 (by omega) (by omega)).mono ?_); rintro e w2 ⟨rfl, hb2⟩)
  generalize getS (rpgs R) a n 1 = gs2 at *
  generalize getE (rpgs R) a n 1 = ge2 at *
  go_wp2_with (go_at_call 48; (with_reducible refine (texts gs gs2 ge ge2 _).mono ?_); rintro e w3 ⟨b, rfl, hbb, hb3⟩)
  exact Hf.out b _ (below_th hb2 hb3) hbb
set_option maxRecDepth 100000 in
set_option maxHeartbeats 4000000 in
theorem does_fetch {w : World} {sb mb rb : Nat} {A : List Pg} {lv : Value} {R : List Rp} (h : Pair w sb mb A rb lv R) (a n : Int) (t : ByteArray) (h0 : 0 ≤ a) (h1 : a ≤ 4294967295) (n0 : -9223372036854775808 ≤ n) (n1 : n ≤ 9223372036854775807) :
    Calls Try.prog 26 #[.pointer (some ⟨sb, 0, none⟩), .pointer (some ⟨rb, 0, none⟩), .agg #[.int .i64 6, .int .u32 a, .int .i64 n, .string t]] w (DoesPost w sb mb A rb lv R) := by
  have H := Lib.hid h
  clear h
  have HFin : Hid (∀ b w', Below w.heap.size w w' → (getS A a 8 4 = getS (rpgs R) a 8 4 → getE A a 8 4 = getE (rpgs R) a 8 4 → b = true) → DoesPost w sb mb A rb lv R (.returned (.bool b)) w') := Lib.hid fun b w' h1 h2 => ⟨A, lv, R, b, rfl, (DStep.refl H.out).below h1, fun hc => ⟨h2 (Cor.getS hc _ _ _) (Cor.getE hc _ _ _), hc⟩⟩
  generalize DoesPost w sb mb A rb lv R = PQ at *
  go_enter Try.func26, Try.ntmps26
  go_wp2_with fail
  generalize hW : w.alloc (.cells #[.int .i64 6, .int .u32 a, .int .i64 n, .string t] 58) = W at *
  have hbW : Below w.heap.size w W := by rw [← hW]; exact (Below.refl _ _).alloc (Nat.le_refl _) _
  have hcs : ∀ i, W.cell? ⟨w.heap.size, 0 + i, none⟩ = [Value.int .i64 6, .int .u32 a, .int .i64 n, .string t][i]? := fun i => by rw [← hW]; exact cells4 w _ _ _ _ _ i
  have ha : W.cell? ⟨w.heap.size, 1, none⟩ = some (.int .u32 a) := hcs 1
  have hbl : w.heap.size < W.heap.size := by rw [← hW]; simp
  have HP := Lib.hid (H.out.below hbW)
  clear hcs hW
  refine (fetch HP.out.sp a h0 h1).mono ?_
  rintro e w1 ⟨rfl, hb1⟩
  have ha1 : w1.cell? ⟨w.heap.size, 1, none⟩ = some (.int .u32 a) := (hb1.cell (p := ⟨w.heap.size, 1, none⟩) hbl).trans ha
  have HP1 := Lib.hid (HP.out.below hb1)
  have HB1 := Lib.hid (hbW.trans (hb1.mono hbW.size))
  clear hbW hb1
  have Hf := Lib.hid (fun b w' (h : Below w1.heap.size w1 w') => HFin.out b w' (HB1.out.trans (h.mono HB1.out.size)))
  generalize getS A a 8 4 = gs at *
  generalize getE A a 8 4 = ge at *
  go_wp2_with (go_at_call 47; (with_reducible refine (Rs.get_any HP1.out.rp a 8 4 h0 h1 (by omega) (by omega)).mono ?_); rintro e w2 ⟨rfl, hb2⟩)
  generalize getS (rpgs R) a 8 4 = gs2 at *
  generalize getE (rpgs R) a 8 4 = ge2 at *
  go_wp2_with (go_at_call 48; (with_reducible refine (texts gs gs2 ge ge2 _).mono ?_); rintro e w3 ⟨b, rfl, hbb, hb3⟩)
  exact Hf.out b _ (below_th hb2 hb3) hbb
end Sp
end Go.Proofs.Ytldmglodjafklaa
