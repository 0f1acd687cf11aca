/- What a slice that came in reads as; the walk of caps.Check. -/
import Derived.Test.YtohlgcdailconaaGreatDoorScrA
namespace Go.Proofs.YtohlgcdailconaaGreatDoor.Scr
open Go.RowKit Lib
set_option linter.unusedVariables false
set_option linter.unusedSimpArgs false
/-- A row of elements of k cells, read from an address on. -/
def Rd (w : World) (a : Option Addr) (k : Nat) (rows : List (List Value)) : Prop := ∀ i r, rows[i]? = some r → ∃ g off, a = some ⟨g, off, none⟩ ∧ g < w.heap.size ∧ ∀ j v, r[j]? = some v → w.cell? ⟨g, off + i * k + j, none⟩ = some v
theorem Rd.nil (w : World) (a : Option Addr) (k : Nat) : Rd w a k [] := fun i r h => by simp at h
theorem Rd.keep {w w' : World} {a : Option Addr} {k : Nat} {rows : List (List Value)} (h : Rd w a k rows) (hs : w.heap.size ≤ w'.heap.size) (hk : ∀ g o, a = some ⟨g, o, none⟩ → g < w.heap.size → w'.heap[g]? = w.heap[g]?) : Rd w' a k rows := fun i r hr => by
  obtain ⟨g, off, rfl, hg, hc⟩ := h i r hr
  exact ⟨g, off, rfl, Nat.lt_of_lt_of_le hg hs, fun j v hv => (World.cell?_of_block (w := w) (hk g off rfl hg)).trans (hc j v hv)⟩
theorem Rd.below {w w' : World} {a : Option Addr} {k : Nat} {rows : List (List Value)} (h : Rd w a k rows) (hb : Below w.heap.size w w') : Rd w' a k rows := h.keep hb.size fun g _ _ hg => hb.block g hg
def RdU (w : World) (a : Option Addr) (xs : List Int) : Prop := Rd w a 1 (xs.map fun x => [.int .u32 x])
def RdT (w : World) (a : Option Addr) (l : List Tx) : Prop := Rd w a 1 (l.map fun t => [str t])
def RdA (w : World) (a : Option Addr) (l : List Ac) : Prop := Rd w a 4 (l.map acC)
theorem RdU.below {w w' : World} {a : Option Addr} {xs : List Int} (h : RdU w a xs) (hb : Below w.heap.size w w') : RdU w' a xs := Rd.below h hb
theorem RdT.below {w w' : World} {a : Option Addr} {xs : List Tx} (h : RdT w a xs) (hb : Below w.heap.size w w') : RdT w' a xs := Rd.below h hb
theorem RdA.below {w w' : World} {a : Option Addr} {xs : List Ac} (h : RdA w a xs) (hb : Below w.heap.size w w') : RdA w' a xs := Rd.below h hb
theorem RdU.at {w : World} {a : Option Addr} {xs : List Int} (h : RdU w a xs) {i : Nat} (hi : i < xs.length) : ∃ g off, a = some ⟨g, off, none⟩ ∧ w.cell? ⟨g, off + i, none⟩ = some (.int .u32 xs[i]) := by
  obtain ⟨g, off, e, _, hc⟩ := h i [.int .u32 xs[i]] (by rw [List.getElem?_map, List.getElem?_eq_getElem hi]; rfl)
  exact ⟨g, off, e, by have := hc 0 _ rfl; simpa using this⟩
theorem RdT.at {w : World} {a : Option Addr} {l : List Tx} (h : RdT w a l) {i : Nat} {t : Tx} (hi : l[i]? = some t) : ∃ g off, a = some ⟨g, off, none⟩ ∧ w.cell? ⟨g, off + i, none⟩ = some (str t) := by
  obtain ⟨g, off, e, _, hc⟩ := h i [str t] (by rw [List.getElem?_map, hi]; rfl)
  exact ⟨g, off, e, by have := hc 0 _ rfl; simpa using this⟩
theorem RdA.at {w : World} {a : Option Addr} {l : List Ac} (h : RdA w a l) {i : Nat} {x : Ac} (hi : l[i]? = some x) : ∃ g off, a = some ⟨g, off, none⟩ ∧ w.cell? ⟨g, off + i * 4, none⟩ = some (.int .u8 x.d) ∧ w.cell? ⟨g, off + i * 4 + 1, none⟩ = some (.int .i64 x.n) ∧ w.cell? ⟨g, off + i * 4 + 2, none⟩ = some (.int .i64 x.m) ∧ w.cell? ⟨g, off + i * 4 + 3, none⟩ = some (.string ⟨x.t.toArray⟩) := by
  obtain ⟨g, off, e, _, hc⟩ := h i (acC x) (by rw [List.getElem?_map, hi]; rfl)
  exact ⟨g, off, e, hc 0 _ rfl, hc 1 _ rfl, hc 2 _ rfl, hc 3 _ rfl⟩
def hardOk (hp : Int) (xs : List Int) : Bool := decide (hp ≤ 4096) && decide (xs.length ≤ 16) && xs.all (fun x => decide (x ≤ 1024))
def hardE (hp : Int) (xs : List Int) : Int := if hardOk hp xs = true then 0 else 2
theorem hardE_no {hp : Int} {xs : List Int} (h : hardOk hp xs = false) : hardE hp xs = 2 := by unfold hardE; rw [h]; rfl
theorem hardE_yes {hp : Int} {xs : List Int} (h : hardOk hp xs = true) : hardE hp xs = 0 := by unfold hardE; rw [h]; rfl
def ckRel (w : World) (xs : List Int) (vi : Value) (wr : World) : Prop := ∃ i : Nat, i ≤ xs.length ∧ vi = .int .i64 i ∧ (∀ (k : Nat) (x : Int), k < i → xs[k]? = some x → x ≤ 1024) ∧ Below w.heap.size w wr
set_option maxRecDepth 100000 in
set_option maxHeartbeats 4000000 in
theorem check {w : World} {a : Option Addr} {cap : Nat} {hp : Int} {xs : List Int} (h : RdU w a xs) (hl : xs.length ≤ 2000000) (hb0 : ∀ x, x ∈ xs → 0 ≤ x ∧ x ≤ 4294967295) (p0 : 0 ≤ hp) :
    Calls Tryz.prog 28 #[.agg #[.int .u32 hp, .slice a xs.length cap]] w fun e w' => e = .returned (.int .i64 (hardE hp xs)) ∧ Below w.heap.size w w' := by
  have HW := Lib.hid fun V (hV : Below w.heap.size w V) => h.below hV
  have hb : Below w.heap.size w (w.alloc (.cells #[.int .u32 hp, .slice a xs.length cap] 25)) := (Below.refl _ _).alloc (Nat.le_refl _) _
  have HB := Lib.hid hb
  clear hb h
  by_cases h1 : 4096 < hp
  · have HE : Hid (hardOk hp xs = false) := Lib.hid (by unfold hardOk; rw [decide_eq_false (by omega)]; rfl)
    go_enter Tryz.func28, Tryz.ntmps28
    go_wp2
    go_ret
    exact ⟨by rw [hardE_no HE.out]; rfl, HB.out⟩
  by_cases h2 : 16 < xs.length
  · have HE : Hid (hardOk hp xs = false) := Lib.hid (by unfold hardOk; rw [decide_eq_false (show ¬ xs.length ≤ 16 by omega)]; simp)
    go_enter Tryz.func28, Tryz.ntmps28
    go_wp2
    go_ret
    exact ⟨by rw [hardE_no HE.out]; rfl, HB.out⟩
  have HA : Hid (hardOk hp xs = xs.all (fun x => decide (x ≤ 1024))) := Lib.hid (by unfold hardOk; rw [decide_eq_true (by omega), decide_eq_true (by omega)]; simp)
  go_enter Tryz.func28, Tryz.ntmps28
  go_wp2
  go_loopw [4, 17] (fun _ vi wr => ckRel w xs vi wr) (fun _ vi _ => xs.length - (RowKit.intOf vi).toNat)
  case atStart => exact ⟨0, by omega, by go_num, fun k x hk => absurd hk (Nat.not_lt_zero _), HB.out⟩
  case round =>
    obtain ⟨i, hi, rfl, hno, hbw⟩ := hrel
    have HNo := Lib.hid hno
    have HB1 := Lib.hid hbw
    clear hno
    by_cases hin : i < xs.length
    · obtain ⟨g, off, rfl, hc⟩ := (HW.out wr hbw).at hin
      have HX : Hid (xs[i]? = some xs[i]) := Lib.hid (List.getElem?_eq_getElem hin)
      generalize xs[i] = x at *
      clear hbw
      by_cases hx : 1024 < x
      · have HE : Hid (xs.all (fun x => decide (x ≤ 1024)) = false) := Lib.hid (by
          rw [List.all_eq_false]
          exact ⟨x, List.mem_of_getElem? HX.out, by simp; omega⟩)
        go_wp2
        go_ret
        exact ⟨by rw [hardE_no (HA.out.trans HE.out)]; rfl, HB1.out⟩
      · go_wp2
        refine ⟨⟨i + 1, by omega, by go_num, fun k y hk hy => ?_, HB1.out⟩, by simp [RowKit.intOf]; omega⟩
        rcases Nat.lt_or_ge k i with q | q
        · exact HNo.out k y q hy
        · obtain rfl : k = i := by omega
          rw [HX.out] at hy
          cases hy
          omega
    · have HE : Hid (xs.all (fun x => decide (x ≤ 1024)) = true) := Lib.hid (by
        rw [List.all_eq_true]
        intro x hx
        obtain ⟨k, hk⟩ := List.getElem?_of_mem hx
        exact decide_eq_true (HNo.out k x (by have := (List.getElem?_eq_some_iff.1 hk).1; omega) hk))
      clear hbw
      go_wp2
      go_ret
      exact ⟨by rw [hardE_yes (HA.out.trans HE.out)]; rfl, HB1.out⟩
/-! ### The builder -/
def Bld (w : World) (B b : Nat) (t : Tx) : Prop := Lib.IsBuilderF 48 5 B b (Lib.byteCells t) w
theorem Bld.keep {w w' : World} {B b : Nat} {t : Tx} (h : Bld w B b t) (hb : Below w.heap.size w w') : Bld w' B b t := by
  have k : ∀ p, Lib.BuilderAtF 48 5 B b p (Lib.byteCells t) w → Lib.BuilderAtF 48 5 B b p (Lib.byteCells t) w' := fun p ⟨hB, v, hv, ho, hn⟩ =>
    ⟨hB, v, (hb.block _ (lt_of_block hv)).trans hv, World.ownsRowF.kept (row := none) ho ⟨hb.os, hb.tape, hb.output, hb.size, fun k hk _ => hb.block k hk⟩ (by
      cases hv : v.ownBlock with
      | none => exact .inl rfl
      | some g => exact .inr (by simp)), hn⟩
  exact h.imp (k _) (k _)
theorem Bld.new {w : World} {B b : Nat} (h : w.heap[b]? = some (.cells #[.pointer none, .slice none 0 0] 48 (0, 0))) (hB : B ≤ b) : Bld w B b [] :=
  .inl ⟨hB, _, h, World.ownsRowF_nil _ _ _ _, by simp [Value.ownBlock]⟩
theorem byteCells_len (t : Tx) : (Lib.byteCells t).length = t.length := Lib.byteCells_length t
theorem writeS {w : World} {B b : Nat} {t : Tx} (h : Bld w B b t) (u : Tx) (hl : t.length + u.length ≤ 140737488355328) (hB : B ≤ w.heap.size) :
    Calls Tryz.prog 17 #[.pointer (some ⟨b, 0, none⟩), str u] w fun e w' => e = .returned (.tuple #[.int .i64 u.length, .nilIface]) ∧ Bld w' B b (t ++ u) ∧ Below B w w' ∧ Lib.OthersKept 5 (some b) w w' := by
  refine (Any.Builder_WriteString_k ({ Tryz.lays156 with } : Lays.n166 Tryz.prog Tryz.lays156_ren) Tryz.Builder_Extra_156 B b (Lib.byteCells t) ⟨u.toArray⟩ w h (by rw [byteCells_len, size_tx]; exact hl) hB).mono fun e w' ⟨he, h1, h2, h3⟩ => ⟨by rw [he, size_tx], .inr ?_, h2, h3⟩
  have : Lib.byteCells (t ++ u) = Lib.byteCells t ++ Lib.strCells ⟨u.toArray⟩ := by
    unfold Lib.byteCells Lib.strCells
    rw [List.map_append]
  rw [this]
  exact h1
theorem stringS {w : World} {B b : Nat} {t : Tx} (h : Bld w B b t) (hB : B ≤ w.heap.size) :
    Calls Tryz.prog 21 #[.pointer (some ⟨b, 0, none⟩)] w fun e w' => e = .returned (str t) ∧ Below B w w' :=
  (Tryz.Builder_String_any_k B b t w h hB).mono fun e w' ⟨he, _, h2, _⟩ => ⟨he, h2⟩
theorem lenS {w : World} {B b : Nat} {t : Tx} (h : Bld w B b t) : Calls Tryz.prog 20 #[.pointer (some ⟨b, 0, none⟩)] w fun e w' => e = .returned (.int .i64 t.length) ∧ w = w' :=
  (Tryz.Builder_Len_f B b (Lib.byteCells t) w h).mono fun e w' ⟨he, hw⟩ => ⟨by rw [he, byteCells_len], hw.symm⟩
end Go.Proofs.YtohlgcdailconaaGreatDoor.Scr
