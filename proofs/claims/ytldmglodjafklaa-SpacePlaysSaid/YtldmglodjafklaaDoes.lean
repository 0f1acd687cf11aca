/- The walk of aediculelaw05's does. -/
import Derived.Test.YtldmglodjafklaaPair
import Derived.Test.YtldmglodjafklaaSteps
import Derived.Deep.RegionHeld3
namespace Go.Proofs.Ytldmglodjafklaa
open Go.RowKit
set_option linter.unusedVariables false
def DoesPost (w : World) (sb mb : Nat) (A : List Pg) (rb : Nat) (lv : Value) (R : List Rp) (e : Ending) (w' : World) : Prop :=
  ∃ A' lv' R' b, e = .returned (.bool b) ∧ DStep w w' sb mb A rb lv R A' lv' R' ∧ (cores A = cores (rpgs R) → b = true ∧ cores A' = cores (rpgs R'))
namespace Sp
def pbyte (n : Int) : Int := IntKind.u8.wrap (bits .and .i64 n 255)
theorem pbyte_bd (n : Int) : 0 ≤ pbyte n ∧ pbyte n ≤ 255 := by unfold pbyte; rw [IntKind.wrap_u8']; omega
set_option maxRecDepth 100000 in
set_option maxHeartbeats 4000000 in
theorem does_map {w : World} {sb mb rb : Nat} {A : List Pg} {lv : Value} {R : List Rp} (h : Pair w sb mb A rb lv R) (a n : Int) (t : ByteArray) (h0 : 0 ≤ a) (h1 : a ≤ 4294967295) (n0 : -9223372036854775808 ≤ n) (n1 : n ≤ 9223372036854775807) (t1 : t.size ≤ 140737488355328) :
    Calls Try.prog 26 #[.pointer (some ⟨sb, 0, none⟩), .pointer (some ⟨rb, 0, none⟩), .agg #[.int .i64 0, .int .u32 a, .int .i64 n, .string t]] w (DoesPost w sb mb A rb lv R) := by
  have H := Lib.hid h
  clear h
  have HFin : Hid (∀ A' lv' R' b w', DStep w w' sb mb A rb lv R A' lv' R' → (cores A = cores (rpgs R) → b = true ∧ cores A' = cores (rpgs R')) → DoesPost w sb mb A rb lv R (.returned (.bool b)) w') := Lib.hid fun A' lv' R' b w' h1 h2 => ⟨A', lv', R', b, rfl, h1, h2⟩
  generalize DoesPost w sb mb A rb lv R = PQ at *
  go_enter Try.func26, Try.ntmps26
  go_wp2
  generalize hW : w.alloc (.cells #[.int .i64 0, .int .u32 a, .int .i64 n, .string t] 58) = W at *
  have hbW : Below w.heap.size w W := by rw [← hW]; exact (Below.refl _ _).alloc (Nat.le_refl _) _
  have hcs : ∀ i, W.cell? ⟨w.heap.size, 0 + i, none⟩ = [Value.int .i64 0, .int .u32 a, .int .i64 n, .string t][i]? := fun i => by rw [← hW]; exact cells4 w _ _ _ _ _ i
  have ha : W.cell? ⟨w.heap.size, 1, none⟩ = some (.int .u32 a) := hcs 1
  have hn : W.cell? ⟨w.heap.size, 2, none⟩ = some (.int .i64 n) := hcs 2
  have ht : W.cell? ⟨w.heap.size, 3, none⟩ = some (.string t) := hcs 3
  have hbl : w.heap.size < W.heap.size := by rw [← hW]; simp
  have HB := Lib.hid hbW
  have HN : Hid (¬ Spc.foot sb mb A w.heap.size ∧ ¬ Rsp.foot rb lv R w.heap.size) := Lib.hid ⟨fun g => by have := H.out.sp.lt g; omega, fun g => by have := H.out.rp.lt g; omega⟩
  clear hcs hbW hW
  have HD0 : Hid (∀ V, Below W.heap.size W V → DStep W V sb mb A rb lv R A lv R) := Lib.hid fun V hV => (DStep.refl (H.out.below HB.out)).below hV
  go_region_held3 (fun w' => w'.cell? ⟨w.heap.size, 1, none⟩ = some (.int .u32 a) ∧ w'.cell? ⟨w.heap.size, 2, none⟩ = some (.int .i64 n) ∧ w'.cell? ⟨w.heap.size, 3, none⟩ = some (.string t))
    (first
      | exact ⟨ha, hn, ht⟩
      | exact ⟨ha1, hn1, ht1⟩
      | exact ⟨ha2, hn2, ht2⟩)
    (first
      | (go_at_call 9
         refine (s_map (HD0.out _ (by first | exact Below.refl _ _ | exact (Below.refl _ _).drew)).pair.sp a _ h0 h1 (pbyte_bd n).1 (pbyte_bd n).2).mono ?_
         rintro e w1 ⟨blk, rfl, hs1⟩
         have hd1 := (HD0.out _ (by first | exact Below.refl _ _ | exact (Below.refl _ _).drew)).left hs1
         have ha1 := hd1.cell ha hbl HN.out.1 HN.out.2
         have hn1 := hd1.cell hn hbl HN.out.1 HN.out.2
         have ht1 := hd1.cell ht hbl HN.out.1 HN.out.2)
      | (go_at_call 44
         refine (Rs.map_any hd1.pair.rp a _ h0 h1 (pbyte_bd n).1 (pbyte_bd n).2).mono ?_
         rintro e w2 ⟨lv', R', blk2, rfl, hR', hs2⟩
         have hd2 := hd1.right hs2
         have ha2 := hd2.cell ha hbl HN.out.1 HN.out.2
         have hn2 := hd2.cell hn hbl HN.out.1 HN.out.2
         have ht2 := hd2.cell ht hbl HN.out.1 HN.out.2))
  all_goals
    have HF := Lib.hid (HFin.out _ _ _ (mapE A a (pbyte n) == mapE (rpgs R) a (pbyte n)) _ (hd2.pre HB.out (fun _ hk => H.out.sp.lt hk) (fun _ hk => H.out.rp.lt hk)) (fun hc => ⟨by rw [Cor.mapE hc]; simp, by rw [hR']; exact Cor.mapA hc _ _ _ _⟩))
    clear ha hn ht ha1 hn1 ht1 ha2 hn2 ht2 hd1 hd2 hs1 hs2
    go_wp2
    exact HF.out
set_option maxRecDepth 100000 in
set_option maxHeartbeats 4000000 in
theorem does_unmap {w : World} {sb mb rb : Nat} {A : List Pg} {lv : Value} {R : List Rp} (h : Pair w sb mb A rb lv R) (a n : Int) (t : ByteArray) (h0 : 0 ≤ a) (h1 : a ≤ 4294967295) (n0 : -9223372036854775808 ≤ n) (n1 : n ≤ 9223372036854775807) (t1 : t.size ≤ 140737488355328) :
    Calls Try.prog 26 #[.pointer (some ⟨sb, 0, none⟩), .pointer (some ⟨rb, 0, none⟩), .agg #[.int .i64 1, .int .u32 a, .int .i64 n, .string t]] w (DoesPost w sb mb A rb lv R) := by
  have H := Lib.hid h
  clear h
  have HFin : Hid (∀ A' lv' R' b w', DStep w w' sb mb A rb lv R A' lv' R' → (cores A = cores (rpgs R) → b = true ∧ cores A' = cores (rpgs R')) → DoesPost w sb mb A rb lv R (.returned (.bool b)) w') := Lib.hid fun A' lv' R' b w' h1 h2 => ⟨A', lv', R', b, rfl, h1, h2⟩
  generalize DoesPost w sb mb A rb lv R = PQ at *
  go_enter Try.func26, Try.ntmps26
  go_wp2
  generalize hW : w.alloc (.cells #[.int .i64 1, .int .u32 a, .int .i64 n, .string t] 58) = W at *
  have hbW : Below w.heap.size w W := by rw [← hW]; exact (Below.refl _ _).alloc (Nat.le_refl _) _
  have hcs : ∀ i, W.cell? ⟨w.heap.size, 0 + i, none⟩ = [Value.int .i64 1, .int .u32 a, .int .i64 n, .string t][i]? := fun i => by rw [← hW]; exact cells4 w _ _ _ _ _ i
  have ha : W.cell? ⟨w.heap.size, 1, none⟩ = some (.int .u32 a) := hcs 1
  have hn : W.cell? ⟨w.heap.size, 2, none⟩ = some (.int .i64 n) := hcs 2
  have ht : W.cell? ⟨w.heap.size, 3, none⟩ = some (.string t) := hcs 3
  have hbl : w.heap.size < W.heap.size := by rw [← hW]; simp
  have HB := Lib.hid hbW
  have HN : Hid (¬ Spc.foot sb mb A w.heap.size ∧ ¬ Rsp.foot rb lv R w.heap.size) := Lib.hid ⟨fun g => by have := H.out.sp.lt g; omega, fun g => by have := H.out.rp.lt g; omega⟩
  clear hcs hbW hW
  have HD0 : Hid (∀ V, Below W.heap.size W V → DStep W V sb mb A rb lv R A lv R) := Lib.hid fun V hV => (DStep.refl (H.out.below HB.out)).below hV
  go_region_held3 (fun w' => w'.cell? ⟨w.heap.size, 1, none⟩ = some (.int .u32 a) ∧ w'.cell? ⟨w.heap.size, 2, none⟩ = some (.int .i64 n) ∧ w'.cell? ⟨w.heap.size, 3, none⟩ = some (.string t))
    (first
      | exact ⟨ha, hn, ht⟩
      | exact ⟨ha1, hn1, ht1⟩
      | exact ⟨ha2, hn2, ht2⟩)
    (first
      | (go_at_call 35
         refine (s_unmap (HD0.out _ (by first | exact Below.refl _ _ | exact (Below.refl _ _).drew)).pair.sp a h0 h1).mono ?_
         rintro e w1 ⟨rfl, hs1⟩
         have hd1 := (HD0.out _ (by first | exact Below.refl _ _ | exact (Below.refl _ _).drew)).left hs1
         have ha1 := hd1.cell ha hbl HN.out.1 HN.out.2
         have hn1 := hd1.cell hn hbl HN.out.1 HN.out.2
         have ht1 := hd1.cell ht hbl HN.out.1 HN.out.2)
      | (go_at_call 45
         refine (Rs.unmap_any hd1.pair.rp a h0 h1).mono ?_
         rintro e w2 ⟨lv', R', rfl, hR', hs2⟩
         have hd2 := hd1.right hs2
         have ha2 := hd2.cell ha hbl HN.out.1 HN.out.2
         have hn2 := hd2.cell hn hbl HN.out.1 HN.out.2
         have ht2 := hd2.cell ht hbl HN.out.1 HN.out.2))
  all_goals
    have HF := Lib.hid (HFin.out _ _ _ (unmapE A a == unmapE (rpgs R) a) _ (hd2.pre HB.out (fun _ hk => H.out.sp.lt hk) (fun _ hk => H.out.rp.lt hk)) (fun hc => ⟨by rw [Cor.unmapE hc]; simp, by rw [hR']; exact Cor.unmapA hc _⟩))
    clear ha hn ht ha1 hn1 ht1 ha2 hn2 ht2 hd1 hd2 hs1 hs2
    go_wp2
    exact HF.out
set_option maxRecDepth 100000 in
set_option maxHeartbeats 4000000 in
theorem does_set {w : World} {sb mb rb : Nat} {A : List Pg} {lv : Value} {R : List Rp} (h : Pair w sb mb A rb lv R) (a n : Int) (t : ByteArray) (h0 : 0 ≤ a) (h1 : a ≤ 4294967295) (n0 : -9223372036854775808 ≤ n) (n1 : n ≤ 9223372036854775807) (t1 : t.size ≤ 140737488355328) :
    Calls Try.prog 26 #[.pointer (some ⟨sb, 0, none⟩), .pointer (some ⟨rb, 0, none⟩), .agg #[.int .i64 2, .int .u32 a, .int .i64 n, .string t]] w (DoesPost w sb mb A rb lv R) := by
  have H := Lib.hid h
  clear h
  have HFin : Hid (∀ A' lv' R' b w', DStep w w' sb mb A rb lv R A' lv' R' → (cores A = cores (rpgs R) → b = true ∧ cores A' = cores (rpgs R')) → DoesPost w sb mb A rb lv R (.returned (.bool b)) w') := Lib.hid fun A' lv' R' b w' h1 h2 => ⟨A', lv', R', b, rfl, h1, h2⟩
  generalize DoesPost w sb mb A rb lv R = PQ at *
  go_enter Try.func26, Try.ntmps26
  go_wp2
  generalize hW : w.alloc (.cells #[.int .i64 2, .int .u32 a, .int .i64 n, .string t] 58) = W at *
  have hbW : Below w.heap.size w W := by rw [← hW]; exact (Below.refl _ _).alloc (Nat.le_refl _) _
  have hcs : ∀ i, W.cell? ⟨w.heap.size, 0 + i, none⟩ = [Value.int .i64 2, .int .u32 a, .int .i64 n, .string t][i]? := fun i => by rw [← hW]; exact cells4 w _ _ _ _ _ i
  have ha : W.cell? ⟨w.heap.size, 1, none⟩ = some (.int .u32 a) := hcs 1
  have hn : W.cell? ⟨w.heap.size, 2, none⟩ = some (.int .i64 n) := hcs 2
  have ht : W.cell? ⟨w.heap.size, 3, none⟩ = some (.string t) := hcs 3
  have hbl : w.heap.size < W.heap.size := by rw [← hW]; simp
  have HB := Lib.hid hbW
  have HN : Hid (¬ Spc.foot sb mb A w.heap.size ∧ ¬ Rsp.foot rb lv R w.heap.size) := Lib.hid ⟨fun g => by have := H.out.sp.lt g; omega, fun g => by have := H.out.rp.lt g; omega⟩
  clear hcs hbW hW
  have HD0 : Hid (∀ V, Below W.heap.size W V → DStep W V sb mb A rb lv R A lv R) := Lib.hid fun V hV => (DStep.refl (H.out.below HB.out)).below hV
  go_region_held3 (fun w' => w'.cell? ⟨w.heap.size, 1, none⟩ = some (.int .u32 a) ∧ w'.cell? ⟨w.heap.size, 2, none⟩ = some (.int .i64 n) ∧ w'.cell? ⟨w.heap.size, 3, none⟩ = some (.string t))
    (first
      | exact ⟨ha, hn, ht⟩
      | exact ⟨ha1, hn1, ht1⟩
      | exact ⟨ha2, hn2, ht2⟩)
    (first
      | (go_at_call 32
         refine (s_set (HD0.out _ (by first | exact Below.refl _ _ | exact (Below.refl _ _).drew)).pair.sp a t h0 h1 t1).mono ?_
         rintro e w1 ⟨rfl, hs1⟩
         have hd1 := (HD0.out _ (by first | exact Below.refl _ _ | exact (Below.refl _ _).drew)).left hs1
         have ha1 := hd1.cell ha hbl HN.out.1 HN.out.2
         have hn1 := hd1.cell hn hbl HN.out.1 HN.out.2
         have ht1 := hd1.cell ht hbl HN.out.1 HN.out.2)
      | (go_at_call 46
         refine (Rs.put_in hd1.pair.rp a 0 t h0 h1 t1 (by omega) (by omega)).mono ?_
         rintro e w2 ⟨R', rfl, hR', hs2⟩
         have hd2 := hd1.right hs2
         have ha2 := hd2.cell ha hbl HN.out.1 HN.out.2
         have hn2 := hd2.cell hn hbl HN.out.1 HN.out.2
         have ht2 := hd2.cell ht hbl HN.out.1 HN.out.2))
  all_goals
    have HF := Lib.hid (HFin.out _ _ _ (fitsE A a t.size 0 == fitsE (rpgs R) a t.size 0) _ (hd2.pre HB.out (fun _ hk => H.out.sp.lt hk) (fun _ hk => H.out.rp.lt hk)) (fun hc => ⟨by rw [Cor.fitsE hc]; simp, by rw [hR']; exact Cor.putA hc _ _ _⟩))
    clear ha hn ht ha1 hn1 ht1 ha2 hn2 ht2 hd1 hd2 hs1 hs2
    go_wp2
    exact HF.out
set_option maxRecDepth 100000 in
set_option maxHeartbeats 4000000 in
theorem does_write {w : World} {sb mb rb : Nat} {A : List Pg} {lv : Value} {R : List Rp} (h : Pair w sb mb A rb lv R) (a n : Int) (t : ByteArray) (h0 : 0 ≤ a) (h1 : a ≤ 4294967295) (n0 : -9223372036854775808 ≤ n) (n1 : n ≤ 9223372036854775807) (t1 : t.size ≤ 140737488355328) :
    Calls Try.prog 26 #[.pointer (some ⟨sb, 0, none⟩), .pointer (some ⟨rb, 0, none⟩), .agg #[.int .i64 5, .int .u32 a, .int .i64 n, .string t]] w (DoesPost w sb mb A rb lv R) := by
  have H := Lib.hid h
  clear h
  have HFin : Hid (∀ A' lv' R' b w', DStep w w' sb mb A rb lv R A' lv' R' → (cores A = cores (rpgs R) → b = true ∧ cores A' = cores (rpgs R')) → DoesPost w sb mb A rb lv R (.returned (.bool b)) w') := Lib.hid fun A' lv' R' b w' h1 h2 => ⟨A', lv', R', b, rfl, h1, h2⟩
  generalize DoesPost w sb mb A rb lv R = PQ at *
  go_enter Try.func26, Try.ntmps26
  go_wp2
  generalize hW : w.alloc (.cells #[.int .i64 5, .int .u32 a, .int .i64 n, .string t] 58) = W at *
  have hbW : Below w.heap.size w W := by rw [← hW]; exact (Below.refl _ _).alloc (Nat.le_refl _) _
  have hcs : ∀ i, W.cell? ⟨w.heap.size, 0 + i, none⟩ = [Value.int .i64 5, .int .u32 a, .int .i64 n, .string t][i]? := fun i => by rw [← hW]; exact cells4 w _ _ _ _ _ i
  have ha : W.cell? ⟨w.heap.size, 1, none⟩ = some (.int .u32 a) := hcs 1
  have hn : W.cell? ⟨w.heap.size, 2, none⟩ = some (.int .i64 n) := hcs 2
  have ht : W.cell? ⟨w.heap.size, 3, none⟩ = some (.string t) := hcs 3
  have hbl : w.heap.size < W.heap.size := by rw [← hW]; simp
  have HB := Lib.hid hbW
  have HN : Hid (¬ Spc.foot sb mb A w.heap.size ∧ ¬ Rsp.foot rb lv R w.heap.size) := Lib.hid ⟨fun g => by have := H.out.sp.lt g; omega, fun g => by have := H.out.rp.lt g; omega⟩
  clear hcs hbW hW
  have HD0 : Hid (∀ V, Below W.heap.size W V → DStep W V sb mb A rb lv R A lv R) := Lib.hid fun V hV => (DStep.refl (H.out.below HB.out)).below hV
  go_region_held3 (fun w' => w'.cell? ⟨w.heap.size, 1, none⟩ = some (.int .u32 a) ∧ w'.cell? ⟨w.heap.size, 2, none⟩ = some (.int .i64 n) ∧ w'.cell? ⟨w.heap.size, 3, none⟩ = some (.string t))
    (first
      | exact ⟨ha, hn, ht⟩
      | exact ⟨ha1, hn1, ht1⟩
      | exact ⟨ha2, hn2, ht2⟩)
    (first
      | (go_at_call 13
         refine (s_write (HD0.out _ (by first | exact Below.refl _ _ | exact (Below.refl _ _).drew)).pair.sp a t h0 h1 t1).mono ?_
         rintro e w1 ⟨rfl, hs1⟩
         have hd1 := (HD0.out _ (by first | exact Below.refl _ _ | exact (Below.refl _ _).drew)).left hs1
         have ha1 := hd1.cell ha hbl HN.out.1 HN.out.2
         have hn1 := hd1.cell hn hbl HN.out.1 HN.out.2
         have ht1 := hd1.cell ht hbl HN.out.1 HN.out.2)
      | (go_at_call 46
         refine (Rs.put_in hd1.pair.rp a 2 t h0 h1 t1 (by omega) (by omega)).mono ?_
         rintro e w2 ⟨R', rfl, hR', hs2⟩
         have hd2 := hd1.right hs2
         have ha2 := hd2.cell ha hbl HN.out.1 HN.out.2
         have hn2 := hd2.cell hn hbl HN.out.1 HN.out.2
         have ht2 := hd2.cell ht hbl HN.out.1 HN.out.2))
  all_goals
    have HF := Lib.hid (HFin.out _ _ _ (fitsE A a t.size 2 == fitsE (rpgs R) a t.size 2) _ (hd2.pre HB.out (fun _ hk => H.out.sp.lt hk) (fun _ hk => H.out.rp.lt hk)) (fun hc => ⟨by rw [Cor.fitsE hc]; simp, by rw [hR']; exact Cor.putA hc _ _ _⟩))
    clear ha hn ht ha1 hn1 ht1 ha2 hn2 ht2 hd1 hd2 hs1 hs2
    go_wp2
    exact HF.out
end Sp
end Go.Proofs.Ytldmglodjafklaa
