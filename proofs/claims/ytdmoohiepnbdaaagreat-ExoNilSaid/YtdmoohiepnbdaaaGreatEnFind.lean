/- Find, InsW in one text. -/
import Derived.Test.YtdmoohiepnbdaaaGreatProg
import Derived.Test.YtdmoohiepnbdaaaGreatEnBase
import Derived.Maps.Own
import Derived.Test.YtdmoohiepnbdaaaGreatEnPair
import Derived.Laws.Tables
import Derived.Laws.CopyOwn
import Derived.Deep.MidRow
import Derived.Deep.QuietTactic
import Derived.BigQuiet
import Derived.Deep.DeepCutAuto
namespace Go.Proofs.YtdmoohiepnbdaaaGreat
open Go.RowKit
set_option linter.unusedVariables false
namespace Cp
def fnElem (v : Value) : Option (DataW Unit × List MemPlace) :=
  match v with
  | .nilFunc => some (.lit (.int .i64 (-1)), [])
  | .func (.func k) a b => if a = #[] ∧ b = #[] then some (.lit (.int .i64 k), []) else none
  | _ => none
def fnV (k : Int) : Value := if k = -1 then .nilFunc else .func (.func k.toNat) #[] #[]
theorem fnElem_inv {v : Value} {z : Int} {ps : List MemPlace} (h : fnElem v = some (.lit (.int .i64 z), ps)) : v = fnV z := by
  unfold fnElem at h
  split at h
  · simp at h
    rw [← h.1]
    rfl
  · split at h
    · rename_i hab
      simp at h
      rw [← h.1, hab.1, hab.2]
      unfold fnV
      rw [if_neg (by omega), Int.toNat_natCast]
    · cases h
  · cases h
def doersD : DataW Unit := (DataW.put (DataW.put (DataW.put (DataW.put (DataW.put (DataW.put (DataW.put (DataW.put (DataW.put (DataW.put (DataW.put (DataW.put (.map []) (.int .u8 32) (.lit (.int .i64 317))) (.int .u8 33) (.lit (.int .i64 318))) (.int .u8 34) (.lit (.int .i64 319))) (.int .u8 35) (.lit (.int .i64 320))) (.int .u8 36) (.lit (.int .i64 321))) (.int .u8 40) (.lit (.int .i64 322))) (.int .u8 41) (.lit (.int .i64 323))) (.int .u8 42) (.lit (.int .i64 324))) (.int .u8 43) (.lit (.int .i64 325))) (.int .u8 44) (.lit (.int .i64 326))) (.int .u8 45) (.lit (.int .i64 327))) (.int .u8 46) (.lit (.int .i64 328)))
theorem zeroFn (w : World) : (zeroValue 400).run Tryz.prog w = .ok .nilFunc w := by kernel_rfl
set_option maxRecDepth 100000 in
set_option maxHeartbeats 1000000 in
theorem doers (w : World) : Calls Tryz.prog 277 #[] w fun e w' => e = .returned (.map (some w.heap.size)) ∧ w'.ownsMap Tryz.prog 5 fnElem w.heap.size 12 doersD ∧ Below w.heap.size w w' := by
  have hmm := @run_makeMap Tryz.prog
  have K := Maps.int_keyed Tryz.underlying5
  have b0 : Below w.heap.size w (w.alloc (.map #[] 0)) := (Below.refl _ _).alloc (Nat.le_refl _) _
  obtain ⟨w1, r1, o1, g1⟩ := (World.ownsMap_made w Tryz.prog 5 fnElem).update K Tryz.underlying428 (by unfold maxLen; omega) (key := .int .u8 32) (val := .func (.func 317) #[] #[]) (Maps.keyOf_int_mk Tryz.underlying5 (by decide)) (d := .lit (.int .i64 317)) (ps := []) rfl
  have b1 : Below w.heap.size w w1 := b0.grown g1 (by have := b0.size; first | omega | (simp; done)) (fun k hk => by cases hk; exact Nat.le_refl _)
  obtain ⟨w2, r2, o2, g2⟩ := o1.update K Tryz.underlying428 (by unfold maxLen; omega) (key := .int .u8 33) (val := .func (.func 318) #[] #[]) (Maps.keyOf_int_mk Tryz.underlying5 (by decide)) (d := .lit (.int .i64 318)) (ps := []) rfl
  have b2 : Below w.heap.size w w2 := b1.grown g2 (by have := b1.size; first | omega | (simp; done)) (fun k hk => by cases hk; exact Nat.le_refl _)
  obtain ⟨w3, r3, o3, g3⟩ := o2.update K Tryz.underlying428 (by unfold maxLen; omega) (key := .int .u8 34) (val := .func (.func 319) #[] #[]) (Maps.keyOf_int_mk Tryz.underlying5 (by decide)) (d := .lit (.int .i64 319)) (ps := []) rfl
  have b3 : Below w.heap.size w w3 := b2.grown g3 (by have := b2.size; first | omega | (simp; done)) (fun k hk => by cases hk; exact Nat.le_refl _)
  obtain ⟨w4, r4, o4, g4⟩ := o3.update K Tryz.underlying428 (by unfold maxLen; omega) (key := .int .u8 35) (val := .func (.func 320) #[] #[]) (Maps.keyOf_int_mk Tryz.underlying5 (by decide)) (d := .lit (.int .i64 320)) (ps := []) rfl
  have b4 : Below w.heap.size w w4 := b3.grown g4 (by have := b3.size; first | omega | (simp; done)) (fun k hk => by cases hk; exact Nat.le_refl _)
  obtain ⟨w5, r5, o5, g5⟩ := o4.update K Tryz.underlying428 (by unfold maxLen; omega) (key := .int .u8 36) (val := .func (.func 321) #[] #[]) (Maps.keyOf_int_mk Tryz.underlying5 (by decide)) (d := .lit (.int .i64 321)) (ps := []) rfl
  have b5 : Below w.heap.size w w5 := b4.grown g5 (by have := b4.size; first | omega | (simp; done)) (fun k hk => by cases hk; exact Nat.le_refl _)
  obtain ⟨w6, r6, o6, g6⟩ := o5.update K Tryz.underlying428 (by unfold maxLen; omega) (key := .int .u8 40) (val := .func (.func 322) #[] #[]) (Maps.keyOf_int_mk Tryz.underlying5 (by decide)) (d := .lit (.int .i64 322)) (ps := []) rfl
  have b6 : Below w.heap.size w w6 := b5.grown g6 (by have := b5.size; first | omega | (simp; done)) (fun k hk => by cases hk; exact Nat.le_refl _)
  obtain ⟨w7, r7, o7, g7⟩ := o6.update K Tryz.underlying428 (by unfold maxLen; omega) (key := .int .u8 41) (val := .func (.func 323) #[] #[]) (Maps.keyOf_int_mk Tryz.underlying5 (by decide)) (d := .lit (.int .i64 323)) (ps := []) rfl
  have b7 : Below w.heap.size w w7 := b6.grown g7 (by have := b6.size; first | omega | (simp; done)) (fun k hk => by cases hk; exact Nat.le_refl _)
  obtain ⟨w8, r8, o8, g8⟩ := o7.update K Tryz.underlying428 (by unfold maxLen; omega) (key := .int .u8 42) (val := .func (.func 324) #[] #[]) (Maps.keyOf_int_mk Tryz.underlying5 (by decide)) (d := .lit (.int .i64 324)) (ps := []) rfl
  have b8 : Below w.heap.size w w8 := b7.grown g8 (by have := b7.size; first | omega | (simp; done)) (fun k hk => by cases hk; exact Nat.le_refl _)
  obtain ⟨w9, r9, o9, g9⟩ := o8.update K Tryz.underlying428 (by unfold maxLen; omega) (key := .int .u8 43) (val := .func (.func 325) #[] #[]) (Maps.keyOf_int_mk Tryz.underlying5 (by decide)) (d := .lit (.int .i64 325)) (ps := []) rfl
  have b9 : Below w.heap.size w w9 := b8.grown g9 (by have := b8.size; first | omega | (simp; done)) (fun k hk => by cases hk; exact Nat.le_refl _)
  obtain ⟨w10, r10, o10, g10⟩ := o9.update K Tryz.underlying428 (by unfold maxLen; omega) (key := .int .u8 44) (val := .func (.func 326) #[] #[]) (Maps.keyOf_int_mk Tryz.underlying5 (by decide)) (d := .lit (.int .i64 326)) (ps := []) rfl
  have b10 : Below w.heap.size w w10 := b9.grown g10 (by have := b9.size; first | omega | (simp; done)) (fun k hk => by cases hk; exact Nat.le_refl _)
  obtain ⟨w11, r11, o11, g11⟩ := o10.update K Tryz.underlying428 (by unfold maxLen; omega) (key := .int .u8 45) (val := .func (.func 327) #[] #[]) (Maps.keyOf_int_mk Tryz.underlying5 (by decide)) (d := .lit (.int .i64 327)) (ps := []) rfl
  have b11 : Below w.heap.size w w11 := b10.grown g11 (by have := b10.size; first | omega | (simp; done)) (fun k hk => by cases hk; exact Nat.le_refl _)
  obtain ⟨w12, r12, o12, g12⟩ := o11.update K Tryz.underlying428 (by unfold maxLen; omega) (key := .int .u8 46) (val := .func (.func 328) #[] #[]) (Maps.keyOf_int_mk Tryz.underlying5 (by decide)) (d := .lit (.int .i64 328)) (ps := []) rfl
  have b12 : Below w.heap.size w w12 := b11.grown g12 (by have := b11.size; first | omega | (simp; done)) (fun k hk => by cases hk; exact Nat.le_refl _)
  have HO : Hid (w12.ownsMap Tryz.prog 5 fnElem w.heap.size 12 doersD) := Lib.hid o12
  have HB := Lib.hid b12
  clear o1 g1 b1 o2 g2 b2 o3 g3 b3 o4 g4 b4 o5 g5 b5 o6 g6 b6 o7 g7 b7 o8 g8 b8 o9 g9 b9 o10 g10 b10 o11 g11 b11 o12 g12 b12 b0
  go_enter Tryz.func277, Tryz.ntmps277
  go_wp2
  go_ret
  exact ⟨rfl, HO.out, HB.out⟩
theorem find3 (op : Int) (o1 : op ≤ 14) (w : World) : Calls Tryz.prog 234 #[.int .u8 op] w fun e w' => e = .returned (.func (.func 275) #[] #[]) ∧ Below w.heap.size w w' := by
  have h := decide_eq_true o1
  go_enter Tryz.func234, Tryz.ntmps234
  go_wp2
  go_ret
  exact ⟨rfl, Below.refl _ _⟩
theorem find2 (op : Int) (o0 : 15 ≤ op) (o1 : op ≤ 30) (w : World) : Calls Tryz.prog 234 #[.int .u8 op] w fun e w' => e = .returned (.func (.func 276) #[] #[]) ∧ Below w.heap.size w w' := by
  have h0 : decide (op ≤ 14) = false := decide_eq_false (by omega)
  have h := decide_eq_true o1
  go_enter Tryz.func234, Tryz.ntmps234
  go_wp2
  go_ret
  exact ⟨rfl, Below.refl _ _⟩
set_option maxRecDepth 100000 in
theorem find1 (op k : Int) (o0 : 31 ≤ op) (o1 : op ≤ 255) (hk : doersD.atKey (.int .u8 op) (.lit (.int .i64 (-1))) = .lit (.int .i64 k)) (w : World) : Calls Tryz.prog 234 #[.int .u8 op] w fun e w' => e = .returned (fnV k) ∧ Below w.heap.size w w' := by
  have h0 : decide (op ≤ 14) = false := decide_eq_false (by omega)
  have h1 : decide (op ≤ 30) = false := decide_eq_false (by omega)
  have hwf : (Lit.int .u8 op).wf = true := by simp [Lit.wf, IntKind.min, IntKind.max, IntKind.signed, IntKind.bits]; omega
  go_enter Tryz.func234, Tryz.ntmps234
  go_wp2_with fail
  refine (doers _).mono ?_
  rintro e w1 ⟨rfl, ho, hb⟩
  obtain ⟨v, ps, hrun, hR⟩ := ho.lookup (Maps.int_keyed Tryz.underlying5) Tryz.underlying428 (zeroFn w1) (z := .nilFunc) (zd := .lit (.int .i64 (-1))) (zp := []) rfl (Maps.keyOf_int_mk Tryz.underlying5 hwf)
  rw [hk] at hR
  have hv := fnElem_inv hR
  subst hv
  have HB := Lib.hid hb
  clear hb ho hR hk
  go_wp2
  go_ret
  exact ⟨rfl, HB.out⟩
end Cp
end Go.Proofs.YtdmoohiepnbdaaaGreat
namespace Go.Proofs.YtdmoohiepnbdaaaGreat.Ins
open Go.RowKit
set_option linter.unusedVariables false
def tabX (k n : Nat) : Int := if n ≤ 14 then (if 1 ≤ n ∧ n < k then 7 else 0) else usesV n
def tabL (k : Nat) : Array Value := ((List.range 256).map fun (n : Nat) => Value.int .u8 (tabX k n)).toArray
theorem tab_size (k : Nat) : (tabL k).size = 256 := by unfold tabL; simp
theorem tab_at (k n : Nat) (hn : n < 256) : (tabL k)[n]? = some (.int .u8 (tabX k n)) := by
  unfold tabL
  simp [List.getElem?_range hn]
theorem tab_set (k : Nat) (h1 : 1 ≤ k) (h2 : k ≤ 14) : (tabL k).setIfInBounds k (.int .u8 7) = tabL (k + 1) := by
  apply Array.ext_getElem?
  intro n
  by_cases hn : n < 256
  · rw [Array.getElem?_setIfInBounds, tab_at _ _ hn, tab_at _ _ hn, tab_size]
    by_cases e : k = n
    · subst e
      rw [if_pos rfl, if_pos (by omega)]
      unfold tabX
      rw [if_pos h2, if_pos (by omega)]
    · rw [if_neg e]
      unfold tabX
      split
      · by_cases g : 1 ≤ n ∧ n < k
        · rw [if_pos g, if_pos (by omega)]
        · rw [if_neg g, if_neg (by omega)]
      · rfl
  · rw [Array.getElem?_eq_none (by rw [Array.size_setIfInBounds, tab_size]; omega), Array.getElem?_eq_none (by rw [tab_size]; omega)]
theorem tab_last (n : Nat) (hn : n < 256) : tabX 15 n = usesV n := by
  unfold tabX
  split
  · unfold usesV
    by_cases g : 1 ≤ n
    · rw [if_pos (by omega), if_pos (by omega)]
    · have : n = 0 := by omega
      subst this
      rfl
  · rfl
def tabRel (w : World) (si : Value) (wr : World) : Prop :=
  ∃ k : Nat, 1 ≤ k ∧ k ≤ 15 ∧ si = .int .i64 k ∧ wr.heap[w.heap.size + 1]? = some (.cells (tabL k) 317 (0, 0)) ∧ wr.heap[w.heap.size]? = some (.cells Tryz.zeroCells317 317 (0, 0)) ∧ Below w.heap.size w wr
theorem tab_one : ((((((((((((((((((((((Tryz.zeroCells317.setIfInBounds 17 (Value.int IntKind.u8 11)).setIfInBounds 19 (Value.int IntKind.u8 11)).setIfInBounds 22 (Value.int IntKind.u8 11)).setIfInBounds 23 (Value.int IntKind.u8 11)).setIfInBounds 24 (Value.int IntKind.u8 11)).setIfInBounds 25 (Value.int IntKind.u8 11)).setIfInBounds 26 (Value.int IntKind.u8 11)).setIfInBounds 29 (Value.int IntKind.u8 11)).setIfInBounds 30 (Value.int IntKind.u8 11)).setIfInBounds 32 (Value.int IntKind.u8 9)).setIfInBounds 33 (Value.int IntKind.u8 11)).setIfInBounds 34 (Value.int IntKind.u8 11)).setIfInBounds 35 (Value.int IntKind.u8 14)).setIfInBounds 36 (Value.int IntKind.u8 14)).setIfInBounds 40 (Value.int IntKind.u8 8)).setIfInBounds 41 (Value.int IntKind.u8 9)).setIfInBounds 42 (Value.int IntKind.u8 2)).setIfInBounds 50 (Value.int IntKind.u8 8)).setIfInBounds 43 (Value.int IntKind.u8 14)).setIfInBounds 44 (Value.int IntKind.u8 14)).setIfInBounds 45 (Value.int IntKind.u8 14)).setIfInBounds 46 (Value.int IntKind.u8 14)) = tabL 1 := by kernel_rfl
theorem zero_size : Tryz.zeroCells317.size = 256 := by kernel_rfl
theorem info_tab : (Tryz.prog.info? 317).map (·.size) = some 256 := by kernel_rfl
set_option maxRecDepth 100000 in
set_option maxHeartbeats 1000000 in
theorem table (w : World) : Calls Tryz.prog 314 #[] w fun e w' => e = .returned (.agg (tabL 15)) ∧ Below w.heap.size w w' := by
  have hone := tab_one
  have hz := zero_size
  have hcell : (tabL 1).all (·.oneCell') = true := by kernel_rfl
  have hcell2 : (tabL 15).all (·.oneCell') = true := by kernel_rfl
  have hst : ∀ (c : Array Value) (W : World) (g : Nat) (old : Array Value), W.heap[g]? = some (.cells old 317 (0, 0)) → old.size = 256 → c.size = 256 → c.all (·.oneCell') = true → (storeCells ⟨g, 0, none⟩ c.toList).run Tryz.prog W = .ok () (W.setRow g c) := fun c W g old hg ho hs h1 => by
    have h := run_storeCells_from (P := Tryz.prog) g 317 c.toList 0 old W hg (by simp; omega) (fun v hv => (Array.all_eq_true_iff_forall_mem.1 h1) v (by simpa using hv))
    rw [h]
    simp
  have hst1 := hst (tabL 1) ((w.alloc (.cells Tryz.zeroCells317 317)).alloc (.cells Tryz.zeroCells317 317)) (w.heap.size + 1) _ (by have h := heap_alloc_new (w.alloc (.cells Tryz.zeroCells317 317)) (.cells Tryz.zeroCells317 317); rwa [show (w.alloc (.cells Tryz.zeroCells317 317)).heap.size = w.heap.size + 1 by simp] at h) hz (tab_size 1) hcell
  have Hst := Lib.hid hst
  have Hc2 := Lib.hid hcell2
  have hsz := tab_size 1
  clear hcell hcell2 hst hz
  go_enter Tryz.func314, Tryz.ntmps314
  go_wp2
  go_loopw [2] (fun si wr => tabRel w si wr) (fun si _ => 15 - (intOf si).toNat)
  case atStart =>
    refine ⟨1, by omega, by omega, by go_num, ?_, ?_, ?_⟩
    · have h := heap_alloc_new (w.alloc (.cells Tryz.zeroCells317 317)) (.cells Tryz.zeroCells317 317)
      rw [show (w.alloc (.cells Tryz.zeroCells317 317)).heap.size = w.heap.size + 1 by simp] at h
      exact setRow_heap _ _ _ _ _ _ h
    · have h := heap_alloc_new w (.cells Tryz.zeroCells317 317)
      rw [setRow_other _ _ _ _ (by omega), Below.heap_alloc _ _ _ (by simp)]
      exact h
    · exact below_setRow (((Below.refl _ _).alloc (Nat.le_refl _) _).alloc (by simp) _) (by omega) _
  case round =>
    clear hst1 hone hsz
    obtain ⟨k, k1, k2, rfl, hb1, hb0, hbel⟩ := hrel
    have hlt := lt_of_block hb1
    by_cases hk : k ≤ 14
    · have hc : wr.cell? ⟨w.heap.size + 1, k, none⟩ = some (.int .u8 (tabX k k)) := by
        unfold World.cell?
        rw [hb1]
        exact tab_at k k (by omega)
      have hf : wr.frozen? ⟨w.heap.size + 1, k, none⟩ = false := by
        unfold World.frozen?
        rw [hb1]
        rfl
      have Hb1 := Lib.hid hb1
      have Hb0 := Lib.hid hb0
      have Hbel := Lib.hid hbel
      clear hb1 hb0 hbel
      go_wp2
      refine ⟨⟨k + 1, by omega, by omega, by go_num, ?_, ?_, ?_⟩, by simp [intOf]; omega⟩
      · rw [setCell_eq_setRow _ _ _ _ _ _ _ Hb1.out, ← tab_set k k1 hk]
        exact setRow_heap _ _ _ _ _ _ Hb1.out
      · rw [setCell_eq_setRow _ _ _ _ _ _ _ Hb1.out, setRow_other _ _ _ _ (by omega)]
        exact Hb0.out
      · rw [setCell_eq_setRow _ _ _ _ _ _ _ Hb1.out]
        exact below_setRow Hbel.out (by omega) _
    · obtain rfl : k = 15 := by omega
      have hra : wr.rangeAt (w.heap.size + 1) 0 (tabL 15).toList := fun j v hj => by
        unfold World.cell?
        rw [hb1]
        simpa using hj
      have hinf : (Tryz.prog.info? 317).map (·.size) = some (tabL 15).toList.length := by rw [Array.length_toList, tab_size]; exact info_tab
      have hund := Tryz.underlying317
      have hst2 := Hst.out (tabL 15) wr w.heap.size _ hb0 zero_size (tab_size 15) Hc2.out
      have hra2 : (wr.setRow w.heap.size (tabL 15)).rangeAt w.heap.size 0 (tabL 15).toList := fun j v hj => by
        unfold World.cell?
        rw [setRow_heap _ _ _ _ _ _ hb0]
        simpa using hj
      have hsz := tab_size 15
      have hld2 := run_loadVar_mid (P := Tryz.prog) (wr.setRow w.heap.size (tabL 15)) w.heap.size 0 317 (tabL 15).toList _ hra2 hund rfl hinf
      rw [Array.toArray_toList] at hld2
      have hbl := below_setRow hbel (Nat.le_refl _) (tabL 15)
      have Hbl := Lib.hid hbl
      have Hra := Lib.hid hra
      have Hund := Lib.hid hund
      have Hinf := Lib.hid hinf
      clear hb1 hb0 hbel hbl hra hra2 hinf hund
      go_wp2_with (refine wpList_load_mid rfl 317 (.tmp 1) rfl (w.heap.size + 1) 0 rfl (tabL 15).toList _ Hra.out Hund.out rfl Hinf.out ?_; rw [Array.toArray_toList])
      refine bodyPost_ret (v := .agg (tabL 15)) ?_ rfl ⟨rfl, Hbl.out⟩
      simp [results, Tryz.results314]
      exact hld2
theorem tab_op (op : Int) (h0 : 0 ≤ op) (h1 : op ≤ 255) : (tabL 15)[op.toNat]? = some (.int .u8 (usesV op)) := by
  obtain ⟨n, rfl⟩ := Int.eq_ofNat_of_zero_le h0
  rw [Int.toNat_natCast, tab_at 15 n (by omega), tab_last n (by omega)]
end Go.Proofs.YtdmoohiepnbdaaaGreat.Ins
namespace Go.Proofs.YtdmoohiepnbdaaaGreat.Ins
open Go.RowKit Word
set_option linter.unusedVariables false
theorem fits (u n bit : Int) (u0 : 0 ≤ u) (u1 : u ≤ 255) (n0 : 0 ≤ n) (n1 : n ≤ 255) (b0 : 0 ≤ bit) (b1 : bit ≤ 255) (b : Nat) (w : World) (hc : w.cell? ⟨b, 0, none⟩ = some (.int .u8 u)) :
    Calls Tryz.prog 315 #[.int .u8 n, .int .u8 bit, .pointer (some ⟨b, 0, none⟩)] w fun e w' => e = .returned (.bool (fitV n (bits .and .u8 u bit != 0))) ∧ w = w' := by
  unfold fitV
  by_cases hn : n = 0
  · subst hn
    go_enter Tryz.func315, Tryz.ntmps315
    go_wp2
    go_ret
    exact ⟨rfl, rfl⟩
  · have h1 : (n == 0) = false := by simpa using hn
    cases h2 : (bits .and .u8 u bit != 0) with
    | true =>
      go_enter Tryz.func315, Tryz.ntmps315
      go_wp2
      go_ret
      exact ⟨by simp [h1], rfl⟩
    | false =>
      go_enter Tryz.func315, Tryz.ntmps315
      go_wp2
      go_ret
      exact ⟨by simp [h1], rfl⟩
theorem index_tab (op : Int) (h0 : 0 ≤ op) (h1 : op ≤ 255) (W : World) : (Instr.index 317 (.agg (tabL 15)) (.int .u8 op)).run Tryz.prog W = .ok (.int .u8 (usesV op)) W := by
  have h := tab_op op h0 h1
  have hu := Tryz.underlying317
  simp [Instr.index, run_underlying hu, asIntOf, go_sem]
  rw [if_pos ⟨h0, by omega⟩, h]
  rfl
theorem cells5 (w : World) (a b c d e : Value) (t : TypeId) (i : Nat) : (w.alloc (.cells #[a, b, c, d, e] t)).cell? ⟨w.heap.size, 0 + i, none⟩ = [a, b, c, d, e][i]? := by
  rw [World.cell?_alloc_mark]; simp
set_option maxRecDepth 100000 in
set_option maxHeartbeats 4000000 in
theorem check (x : Ins) (hx : x.ok) (w : World) : Calls Tryz.prog 274 #[x.val] w fun e w' => e = .returned (.int .i64 (encE x)) ∧ Below w.heap.size w w' := by
  obtain ⟨op, d, a, b, imm⟩ := x
  obtain ⟨o0, o1, d0, d1, a0, a1, b0, b1, i0, i1⟩ := hx
  simp only at o0 o1 d0 d1 a0 a1 b0 b1 i0 i1
  have hidx := index_tab op o0 o1
  have hE : encE ⟨op, d, a, b, imm⟩ = if (usesV op != 0 && fitV d (bits .and .u8 (usesV op) 1 != 0) && fitV a (bits .and .u8 (usesV op) 2 != 0) && fitV b (bits .and .u8 (usesV op) 4 != 0) && ((bits .and .u8 (usesV op) 8 != 0) || imm == 0)) then 0 else 2 := rfl
  generalize encE ⟨op, d, a, b, imm⟩ = E at *
  have HE := Lib.hid hE
  clear hE
  unfold val
  simp only
  go_enter Tryz.func274, Tryz.ntmps274
  go_wp2
  generalize hW : w.alloc (.cells #[.int .u8 op, .int .u8 d, .int .u8 a, .int .u8 b, .int .u32 imm] 148) = W at *
  have hbW : Below w.heap.size w W := by rw [← hW]; exact (Below.refl _ _).alloc (Nat.le_refl _) _
  have hcs : ∀ i, W.cell? ⟨w.heap.size, 0 + i, none⟩ = [Value.int .u8 op, .int .u8 d, .int .u8 a, .int .u8 b, .int .u32 imm][i]? := fun i => by rw [← hW]; exact cells5 w _ _ _ _ _ _ i
  have hop : W.cell? ⟨w.heap.size, 0, none⟩ = some (.int .u8 op) := hcs 0
  have hlt : w.heap.size < W.heap.size := by rw [← hW]; simp
  have hcs1 := hcs 1
  have hcs2 := hcs 2
  have hcs3 := hcs 3
  have hcs4 := hcs 4
  have HB := Lib.hid hbW
  have HC := Lib.hid (⟨hcs1, hcs2, hcs3, hcs4⟩ : _ ∧ _ ∧ _ ∧ _)
  clear hcs hcs1 hcs2 hcs3 hcs4 hW hbW
  have hopA : ∀ o, (W.alloc o).cell? ⟨w.heap.size, 0, none⟩ = some (.int .u8 op) := fun o => (World.cell?_of_block (w := W) (Below.heap_alloc _ _ _ hlt)).trans hop
  have hopB : ∀ w0 w1 : World, Below w0.heap.size w0 w1 → w0.cell? ⟨w.heap.size, 0, none⟩ = some (.int .u8 op) → W.heap.size ≤ w0.heap.size → w1.cell? ⟨w.heap.size, 0, none⟩ = some (.int .u8 op) := fun w0 w1 hb h hl => (World.cell?_of_block (w := w0) (hb.block _ (by simp only; omega))).trans h
  have hopD : ∀ w0 w1 : World, Below w0.heap.size w0 w1 → w0.cell? ⟨w.heap.size, 0, none⟩ = some (.int .u8 op) → W.heap.size ≤ w0.heap.size → ∀ o, (w1.alloc o).cell? ⟨w.heap.size, 0, none⟩ = some (.int .u8 op) := fun w0 w1 hb h hl o => (World.cell?_of_block (w := w1) (Below.heap_alloc _ _ _ (by have := hb.size; simp only; omega))).trans (hopB w0 w1 hb h hl)
  have hopV : ∀ w0 w1 : World, Below w0.heap.size w0 w1 → ∀ v, w0.cell? ⟨W.heap.size, 0, none⟩ = some v → W.heap.size < w0.heap.size → w1.cell? ⟨W.heap.size, 0, none⟩ = some v := fun w0 w1 hb v h hl => (World.cell?_of_block (w := w0) (hb.block _ (by simp only; omega))).trans h
  have hopF : ∀ w0 w1 : World, Below w0.heap.size w0 w1 → w0.frozen? ⟨W.heap.size, 0, none⟩ = false → W.heap.size < w0.heap.size → w1.frozen? ⟨W.heap.size, 0, none⟩ = false := fun w0 w1 hb h hl => by
    unfold World.frozen? at h ⊢
    rw [hb.block _ (by simp only; omega)]
    exact h
  have hopZ : ∀ x : Value, (W.alloc (.cells #[x] 5)).cell? ⟨W.heap.size, 0, none⟩ = some x := fun x => by rw [World.cell?_alloc_mark]; rfl
  have hopG : ∀ x : Value, (W.alloc (.cells #[x] 5)).frozen? ⟨W.heap.size, 0, none⟩ = false := fun x => by unfold World.frozen?; rw [heap_alloc_new]; rfl
  go_upto_region 1 with fail
  go_cut [3] (fun s3 wx => ∃ B : Nat, s3 = .pointer (some ⟨B, 0, none⟩) ∧ W.heap.size ≤ B ∧ wx.cell? ⟨B, 0, none⟩ = some (.int .u8 (usesV op)) ∧ Below W.heap.size W wx)
  case first =>
    go_region_with (go_at_call 314
                    refine (table _).mono ?_
                    rintro e w1 ⟨rfl, hb1⟩
                    have hop1 := hopB _ _ hb1 (by first | exact hop | exact hopA _) (by first | exact Nat.le_refl _ | (simp; done) | (simp; omega))
                    have hop1A := hopD _ _ hb1 (by first | exact hop | exact hopA _) (by first | exact Nat.le_refl _ | (simp; done) | (simp; omega))
                    have hbW1 : Below W.heap.size W w1 := below_th (b := _) (by first | exact Below.refl _ _ | exact (Below.refl _ _).drew | exact (Below.refl _ _).alloc (Nat.le_refl _) _ | exact ((Below.refl _ _).alloc (Nat.le_refl _) _).drew | exact ((Below.refl _ _).drew.alloc (Nat.le_refl _) _) | exact (((Below.refl _ _).drew.alloc (Nat.le_refl _) _)).drew) hb1
                    try (have hv1 := hopV _ _ hb1 _ (hopZ _) (by simp); have hv2 := hopF _ _ hb1 (hopG _) (by simp)))
    all_goals go_wp2_with fail
    all_goals go_meet
    all_goals first
      | exact ⟨_, rfl, hbW1.size, by first | (rw [World.cell?_alloc_mark]; rfl) | (rw [World.cell?_drew, World.cell?_alloc_mark]; rfl), by first | exact hbW1.alloc hbW1.size _ | exact (hbW1.alloc hbW1.size _).drew⟩
      | exact ⟨_, rfl, Nat.le_refl _, World.cell?_setCell_same _ _ _ hv1, hbW1.setCell (Nat.le_refl _) _⟩
      | trace_state
  case rest =>
    obtain ⟨B, rfl, hB, hcb, hbw⟩ := hcut
    obtain ⟨hcs1, hcs2, hcs3, hcs4⟩ := HC.out
    have kp : ∀ j, wc.cell? ⟨w.heap.size, j, none⟩ = W.cell? ⟨w.heap.size, j, none⟩ := fun j => World.cell?_of_block (w := W) (hbw.block _ hlt)
    have k1 : wc.cell? ⟨w.heap.size, 1, none⟩ = some (.int .u8 d) := (kp 1).trans hcs1
    have k2 : wc.cell? ⟨w.heap.size, 2, none⟩ = some (.int .u8 a) := (kp 2).trans hcs2
    have k3 : wc.cell? ⟨w.heap.size, 3, none⟩ = some (.int .u8 b) := (kp 3).trans hcs3
    have k4 : wc.cell? ⟨w.heap.size, 4, none⟩ = some (.int .u32 imm) := (kp 4).trans hcs4
    have hu := usesV_bd op
    have H1 := Lib.hid (fits (usesV op) d 1 hu.1 hu.2 d0 d1 (by omega) (by omega) B wc hcb)
    have H2 := Lib.hid (fits (usesV op) a 2 hu.1 hu.2 a0 a1 (by omega) (by omega) B wc hcb)
    have H3 := Lib.hid (fits (usesV op) b 4 hu.1 hu.2 b0 b1 (by omega) (by omega) B wc hcb)
    have HR := Lib.hid (HB.out.trans (hbw.mono HB.out.size))
    have hmf : ∀ (fn : Fn) (first cap : Array Value) (w : World), (Instr.makeFunc fn first cap).run Tryz.prog w = .ok (.func fn first cap) w := fun _ _ _ _ => rfl
    clear kp hcs1 hcs2 hcs3 hcs4 hbw hB HC HB hopA hopB hopD hopV hopF hopZ hopG hidx hop hlt
    generalize usesV op = u at *
    generalize fitV d (bits .and .u8 u 1 != 0) = fd at *
    generalize fitV a (bits .and .u8 u 2 != 0) = fa at *
    generalize fitV b (bits .and .u8 u 4 != 0) = fb at *
    cases hu0 : (u == 0) with
    | true =>
      have : (u != 0) = false := by rw [bne, hu0]; rfl
      have HT := Lib.hid this
      clear this
      go_wp2
      go_ret
      exact ⟨ret_int (by rw [HE.out, HT.out]; first | rfl | (rw [hi8]; rfl) | (rw [hi8, him]; rfl)), HR.out⟩
    | false =>
      have : (u != 0) = true := by rw [bne, hu0]; rfl
      have HT := Lib.hid this
      clear this
      cases fd with
      | false =>
        go_wp2_with (go_at_call 315; (with_reducible refine H1.out.mono ?_); rintro e w2 ⟨rfl, rfl⟩)
        go_ret
        exact ⟨ret_int (by rw [HE.out, HT.out]; first | rfl | (rw [hi8]; rfl) | (rw [hi8, him]; rfl)), HR.out⟩
      | true =>
        cases fa with
        | false =>
          go_wp2_with (go_at_call 315; first | ((with_reducible refine H1.out.mono ?_); rintro e w2 ⟨rfl, rfl⟩) | ((with_reducible refine H2.out.mono ?_); rintro e w2 ⟨rfl, rfl⟩))
          go_ret
          exact ⟨ret_int (by rw [HE.out, HT.out]; first | rfl | (rw [hi8]; rfl) | (rw [hi8, him]; rfl)), HR.out⟩
        | true =>
          cases fb with
          | false =>
            go_wp2_with (go_at_call 315; first | ((with_reducible refine H1.out.mono ?_); rintro e w2 ⟨rfl, rfl⟩) | ((with_reducible refine H2.out.mono ?_); rintro e w2 ⟨rfl, rfl⟩) | ((with_reducible refine H3.out.mono ?_); rintro e w2 ⟨rfl, rfl⟩))
            go_ret
            exact ⟨ret_int (by rw [HE.out, HT.out]; first | rfl | (rw [hi8]; rfl) | (rw [hi8, him]; rfl)), HR.out⟩
          | true =>
            cases hi8 : (bits .and .u8 u 8 != 0) with
            | true =>
              go_wp2_with (go_at_call 315; first | ((with_reducible refine H1.out.mono ?_); rintro e w2 ⟨rfl, rfl⟩) | ((with_reducible refine H2.out.mono ?_); rintro e w2 ⟨rfl, rfl⟩) | ((with_reducible refine H3.out.mono ?_); rintro e w2 ⟨rfl, rfl⟩))
              go_ret
              exact ⟨ret_int (by rw [HE.out, HT.out]; first | rfl | (rw [hi8]; rfl) | (rw [hi8, him]; rfl)), HR.out⟩
            | false =>
              cases him : (imm == 0) with
              | true =>
                go_wp2_with (go_at_call 315; first | ((with_reducible refine H1.out.mono ?_); rintro e w2 ⟨rfl, rfl⟩) | ((with_reducible refine H2.out.mono ?_); rintro e w2 ⟨rfl, rfl⟩) | ((with_reducible refine H3.out.mono ?_); rintro e w2 ⟨rfl, rfl⟩))
                go_ret
                exact ⟨ret_int (by rw [HE.out, HT.out]; first | rfl | (rw [hi8]; rfl) | (rw [hi8, him]; rfl)), HR.out⟩
              | false =>
                go_wp2_with (go_at_call 315; first | ((with_reducible refine H1.out.mono ?_); rintro e w2 ⟨rfl, rfl⟩) | ((with_reducible refine H2.out.mono ?_); rintro e w2 ⟨rfl, rfl⟩) | ((with_reducible refine H3.out.mono ?_); rintro e w2 ⟨rfl, rfl⟩))
                go_ret
                exact ⟨ret_int (by rw [HE.out, HT.out]; first | rfl | (rw [hi8]; rfl) | (rw [hi8, him]; rfl)), HR.out⟩
end Go.Proofs.YtdmoohiepnbdaaaGreat.Ins
namespace Go.Proofs.YtdmoohiepnbdaaaGreat.Ins
open Go.RowKit Word
set_option linter.unusedVariables false
set_option maxRecDepth 100000 in
set_option maxHeartbeats 1000000 in
theorem decode (s : ByteArray) (hm : s.size ≤ 1048576) (w : World) : Calls Tryz.prog 233 #[.string s] w fun e w' => e = .returned (.tuple #[(decX s).val, .int .i64 (decE s)]) ∧ Below w.heap.size w w' := by
  by_cases h8 : s.size = 8
  · obtain ⟨y0, y1, y2, y3, y4, y5, y6, y7, hn, b0, b1, b2, b3, b4, b5, b6, b7⟩ := eight h8
    have g0 : ((s[0]'(by omega)).toNat : Int) = y0 := by rw [nums_get, hn]; rfl
    have g1 : ((s[1]'(by omega)).toNat : Int) = y1 := by rw [nums_get, hn]; rfl
    have g2 : ((s[2]'(by omega)).toNat : Int) = y2 := by rw [nums_get, hn]; rfl
    have g3 : ((s[3]'(by omega)).toNat : Int) = y3 := by rw [nums_get, hn]; rfl
    have hd : decI s = ⟨y0, y1 % 16, y1 / 16, y2, getV [y4, y5, y6, y7]⟩ := by unfold decI; rw [hn]; rfl
    cases h3 : (y3 != 0) with
    | true =>
      go_enter Tryz.func233, Tryz.ntmps233
      go_wp2
      refine bodyPost_ret (v := .tuple #[nix.val, .int .i64 7]) (by simp [results, Tryz.results233, go_sem, val, nix]) rfl ⟨?_, (Below.refl _ _).alloc (Nat.le_refl _) _⟩
      have hB : decB s = false := by unfold decB; rw [hn]; simp only [List.getD, List.getElem?_cons_zero, List.getElem?_cons_succ, Option.getD_some]; rw [show (y3 == 0) = false by simpa [bne] using h3]; simp
      unfold decX decE
      rw [hB]
      rfl
    | false =>
      have hg : nums (s.extract 4 8) = [y4, y5, y6, y7] := by
        have := nums_drop s 4
        rw [h8] at this
        rw [this, hn]
        rfl
      have hgs : (s.extract 4 8).size = 4 := by rw [← nums_length, hg]; rfl
      have Hg := Lib.hid (get_ok (s.extract 4 8) (by omega) (by omega))
      rw [hg] at Hg
      have hvb := getV_bd [y4, y5, y6, y7] (by intro x hx; simp at hx; omega)
      have hv0 := hvb.1
      have hv1 : getV [y4, y5, y6, y7] ≤ 4294967295 := by have := hvb.2; simp at this; omega
      generalize getV [y4, y5, y6, y7] = v at *
      go_enter Tryz.func233, Tryz.ntmps233
      go_wp2_with (go_at_call 260; (with_reducible refine (Hg.out _).mono ?_); rintro e w2 ⟨rfl, rfl⟩)
      go_region
      go_wp2_with fail
      generalize hW1 : ((w.alloc (.cells #[Value.int .u8 0, .int .u8 0, .int .u8 0, .int .u8 0, .int .u32 0] 148)).alloc (.cells #[Value.int .u8 y0, .int .u8 (y1 % 16), .int .u8 (y1 / 16), .int .u8 y2, .int .u32 v] 148)).drew = W1 at *
      have hbl : Below w.heap.size w W1 := by rw [← hW1]; exact (((Below.refl _ _).alloc (Nat.le_refl _) _).alloc (by simp) _).drew
      have hsz : W1.heap.size = w.heap.size + 2 := by rw [← hW1]; simp
      have c1 : W1.heap[w.heap.size + 1]? = some (.cells #[Value.int .u8 y0, .int .u8 (y1 % 16), .int .u8 (y1 / 16), .int .u8 y2, .int .u32 v] 148 (0, 0)) := by
        rw [← hW1]
        have h := heap_alloc_new (w.alloc (.cells #[Value.int .u8 0, .int .u8 0, .int .u8 0, .int .u8 0, .int .u32 0] 148)) (.cells #[Value.int .u8 y0, .int .u8 (y1 % 16), .int .u8 (y1 / 16), .int .u8 y2, .int .u32 v] 148)
        rwa [show (w.alloc (.cells #[Value.int .u8 0, .int .u8 0, .int .u8 0, .int .u8 0, .int .u32 0] 148)).heap.size = w.heap.size + 1 by simp] at h
      have c0 : W1.heap[w.heap.size]? = some (.cells #[Value.int .u8 0, .int .u8 0, .int .u8 0, .int .u8 0, .int .u32 0] 148 (0, 0)) := by
        rw [← hW1]
        exact (Below.heap_alloc _ _ _ (by simp)).trans (heap_alloc_new w _)
      have hck := check ⟨y0, y1 % 16, y1 / 16, y2, v⟩ (by constructor <;> simp only <;> omega) W1
      have hH : Hid (∀ w3, Below W1.heap.size W1 w3 → Below w.heap.size w w3 ∧ w3.heap[w.heap.size + 1]? = some (.cells #[Value.int .u8 y0, .int .u8 (y1 % 16), .int .u8 (y1 / 16), .int .u8 y2, .int .u32 v] 148 (0, 0)) ∧ w3.heap[w.heap.size]? = some (.cells #[Value.int .u8 0, .int .u8 0, .int .u8 0, .int .u8 0, .int .u32 0] 148 (0, 0))) := Lib.hid fun w3 hb => ⟨hbl.trans (hb.mono hbl.size), (hb.block _ (by omega)).trans c1, (hb.block _ (by omega)).trans c0⟩
      have HX : Hid (decX s = (if mayV ⟨y0, y1 % 16, y1 / 16, y2, v⟩ then ⟨y0, y1 % 16, y1 / 16, y2, v⟩ else nix) ∧ decE s = (if mayV ⟨y0, y1 % 16, y1 / 16, y2, v⟩ then 0 else 7)) := Lib.hid (by
        have hB : decB s = mayV ⟨y0, y1 % 16, y1 / 16, y2, v⟩ := by
          unfold decB
          rw [hd, hn, h8]
          simp only [List.getD, List.getElem?_cons_zero, List.getElem?_cons_succ, Option.getD_some]
          rw [show (y3 == 0) = true by simpa [bne] using h3]
          simp
        unfold decX decE
        rw [hB, hd]
        exact ⟨rfl, rfl⟩)
      refine hck.mono ?_
      rintro e w3 ⟨rfl, hb3⟩
      obtain ⟨hb, c1, c0⟩ := hH.out w3 hb3
      have HB := Lib.hid hb
      have q0 : w3.cell? ⟨w.heap.size + 1, 0, none⟩ = some (.int .u8 y0) := by unfold World.cell?; rw [c1]; rfl
      have q1 : w3.cell? ⟨w.heap.size + 1, 1, none⟩ = some (.int .u8 (y1 % 16)) := by unfold World.cell?; rw [c1]; rfl
      have q2 : w3.cell? ⟨w.heap.size + 1, 2, none⟩ = some (.int .u8 (y1 / 16)) := by unfold World.cell?; rw [c1]; rfl
      have q3 : w3.cell? ⟨w.heap.size + 1, 3, none⟩ = some (.int .u8 y2) := by unfold World.cell?; rw [c1]; rfl
      have q4 : w3.cell? ⟨w.heap.size + 1, 4, none⟩ = some (.int .u32 v) := by unfold World.cell?; rw [c1]; rfl
      have r0 : w3.cell? ⟨w.heap.size, 0, none⟩ = some (.int .u8 0) := by unfold World.cell?; rw [c0]; rfl
      have r1 : w3.cell? ⟨w.heap.size, 1, none⟩ = some (.int .u8 0) := by unfold World.cell?; rw [c0]; rfl
      have r2 : w3.cell? ⟨w.heap.size, 2, none⟩ = some (.int .u8 0) := by unfold World.cell?; rw [c0]; rfl
      have r3 : w3.cell? ⟨w.heap.size, 3, none⟩ = some (.int .u8 0) := by unfold World.cell?; rw [c0]; rfl
      have r4 : w3.cell? ⟨w.heap.size, 4, none⟩ = some (.int .u32 0) := by unfold World.cell?; rw [c0]; rfl
      have fr : ∀ j, w3.frozen? ⟨w.heap.size, j, none⟩ = false := fun j => by unfold World.frozen?; rw [c0]; rfl
      have t0 := fr 0
      have t1 := fr 1
      have t2 := fr 2
      have t3 := fr 3
      have t4 := fr 4
      clear c1 c0 hb hb3 hck hH hbl hsz fr hd hn hg hgs Hg hvb
      cases hm : mayV ⟨y0, y1 % 16, y1 / 16, y2, v⟩ with
      | true =>
        unfold encE
        rw [hm]
        rw [hm] at HX
        go_wp2_with fail
        refine bodyPost_ret (v := .tuple #[Ins.val ⟨y0, y1 % 16, y1 / 16, y2, v⟩, .int .i64 0]) (by simp [results, Tryz.results233, go_sem, val, *]) rfl ⟨?_, ((((HB.out.setCell (Nat.le_refl _) _).setCell (Nat.le_refl _) _).setCell (Nat.le_refl _) _).setCell (Nat.le_refl _) _).setCell (Nat.le_refl _) _⟩
        rw [HX.out.1, HX.out.2]
        rfl
      | false =>
        unfold encE
        rw [hm]
        rw [hm] at HX
        go_wp2_with fail
        refine bodyPost_ret (v := .tuple #[nix.val, .int .i64 7]) (by simp [results, Tryz.results233, go_sem, val, nix, *]) rfl ⟨?_, ((((HB.out.setCell (Nat.le_refl _) _).setCell (Nat.le_refl _) _).setCell (Nat.le_refl _) _).setCell (Nat.le_refl _) _).setCell (Nat.le_refl _) _⟩
        rw [HX.out.1, HX.out.2]
        rfl
  · have HX : Hid (decX s = nix ∧ decE s = 7) := Lib.hid (by
      have hB : decB s = false := by
        cases hB : decB s with
        | false => rfl
        | true => exact absurd (decB_size hB) h8
      unfold decX decE
      rw [hB]
      exact ⟨rfl, rfl⟩)
    have h8' : ((s.size : Int) != 8) = true := by simpa using (by omega : (s.size : Int) ≠ 8)
    go_enter Tryz.func233, Tryz.ntmps233
    go_wp2
    refine bodyPost_ret (v := .tuple #[nix.val, .int .i64 7]) (by simp [results, Tryz.results233, go_sem, val, nix]) rfl ⟨?_, (Below.refl _ _).alloc (Nat.le_refl _) _⟩
    rw [HX.out.1, HX.out.2]
end Go.Proofs.YtdmoohiepnbdaaaGreat.Ins
