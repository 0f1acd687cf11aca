/- The walk of SchedFair. -/
import Derived.Test.YthgddpgifdhnjaaGreatSfSchQ
namespace Go.Proofs.YthgddpgifdhnjaaGreat
open Go.RowKit
set_option linter.unusedVariables false
set_option linter.unusedSimpArgs false
/-- A row of ints of the call's own. -/
def IRow (w : World) (base : Nat) (v : Value) (l : List Nat) : Prop := w.ownsRow base 3 1 v l.length (l.map fun (x : Nat) => Value.int .i64 x)
theorem info_int : (Tryz.prog.info? 3).map (fun i => (i.zero, i.size, i.bytes)) = some (some (.int .i64 0), 1, 8) := by kernel_rfl
theorem wpList_app_int {w : World} {ops : Array Oper} {rest : List Oper} {o : Oper} {a : Act} {Q : Exit → Act → World → Prop} (hgd : o.guard = none) (s x : Operand)
    (ho : o.op = .call { callee := .builtin .append, args := #[s, x], argTypes := #[24, 24] }) (base : Nat) (v : Value) (T : List Nat) (hs : a.eval s = v) (h : IRow w base v T) (b : Nat) (t : Nat)
    (hx : a.eval x = .slice (some ⟨b, 0, none⟩) 1 1) (hb : w.heap[b]? = some (.cells #[.int .i64 t] 3 (0, 0))) (hl : T.length ≤ 1000000) (hbase : base ≤ w.heap.size)
    (H : ∀ v' w', IRow w' base v' (T ++ [t]) → w.grownBy w' v.ownBlock → wpList Tryz.prog ops Q rest (a.put o.dst v') w') : wpList Tryz.prog ops Q (o :: rest) a w := by
  obtain ⟨i0, hi, hz0, hz1, hz2⟩ := info_parts info_int
  refine wpList_append_lies w hgd s x _ ho base 3 i0 (.int .i64 0) 1 8 Tryz.underlying24 hi hz0 hz1 hz2 rfl (by omega) v T.length (T.map fun (x : Nat) => Value.int .i64 x) hs h ⟨b, 0, none⟩ 1 1 [.int .i64 t] hx rfl (World.news_of_block hb) (fun x hx => by simp at hx; subst hx; rfl) (by omega) (by unfold maxLen; omega) (by omega) hbase _ rfl fun g cap w' h2 h3 h4 h5 => H _ _ ?_ h3
  unfold IRow
  rw [List.length_append, List.map_append]
  exact h2
theorem IRow.form {w : World} {base : Nat} {v : Value} {l : List Nat} (h : IRow w base v l) : ∃ a c, v = .slice a l.length c ∧ Cp.RowN .i64 w a l.length fun i => (l.getD i 0 : Nat) := by
  rcases h.2 with ⟨rfl, h0⟩ | ⟨g, cap, cur, rfl, h0, hg, h1, h2, h3, h4⟩
  · exact ⟨none, 0, by rw [h0], fun q => by omega⟩
  · refine ⟨_, cap, rfl, fun _ => ⟨g, 0, rfl, lt_of_block hg, fun i hi => ?_⟩⟩
    unfold World.cell?
    rw [hg]
    show cur[0 + i]? = _
    have := congrArg (·[i]?) h4
    simp only [List.getElem?_map, List.getElem?_eq_getElem hi, Option.map_some] at this
    rw [List.getElem?_take_of_lt (by omega)] at this
    rw [Nat.zero_add]
    have e : l.getD i 0 = l[i] := by simp [List.getD, List.getElem?_eq_getElem hi]
    show cur[i]? = some (.int .i64 ((l.getD i 0 : Nat) : Int))
    rw [e]
    simpa using this
namespace Fr
/-- The weights, as the law makes them. -/
def wtF (f : Nat → Int) (i : Nat) : Nat := 1 + (f i).toNat % 16
def wl (f : Nat → Int) (m : Nat) : List Nat := (List.range m).map (wtF f)
theorem wl_length (f : Nat → Int) (m : Nat) : (wl f m).length = m := by unfold wl; simp
theorem wl_succ (f : Nat → Int) (m : Nat) : wl f (m + 1) = wl f m ++ [wtF f m] := by unfold wl; rw [List.range_succ, List.map_append]; rfl
theorem wl_at (f : Nat → Int) {m i : Nat} (h : i < m) : (wl f m).getD i 0 = wtF f i := by unfold wl; simp [List.getD, h]
theorem wt_bd (f : Nat → Int) (i : Nat) : 1 ≤ wtF f i ∧ wtF f i ≤ 16 := by unfold wtF; omega
/-- Nine ints. -/
def arr (f : Nat → Int) : Array Value := #[.int .i64 (f 0), .int .i64 (f 1), .int .i64 (f 2), .int .i64 (f 3), .int .i64 (f 4), .int .i64 (f 5), .int .i64 (f 6), .int .i64 (f 7), .int .i64 (f 8)]
def Arr (w : World) (b : Nat) (f : Nat → Int) : Prop := ∃ t, w.heap[b]? = some (.cells (arr f) t (0, 0))
theorem Arr.cell {w : World} {b : Nat} {f : Nat → Int} (h : Arr w b f) {i : Nat} (hi : i < 9) : w.cell? ⟨b, i, none⟩ = some (.int .i64 (f i)) ∧ w.frozen? ⟨b, i, none⟩ = false := by
  obtain ⟨t, h⟩ := h
  have : i = 0 ∨ i = 1 ∨ i = 2 ∨ i = 3 ∨ i = 4 ∨ i = 5 ∨ i = 6 ∨ i = 7 ∨ i = 8 := by omega
  refine ⟨?_, ?_⟩
  · unfold World.cell?; rw [h]
    rcases this with rfl | rfl | rfl | rfl | rfl | rfl | rfl | rfl | rfl <;> rfl
  · unfold World.frozen?; rw [h]; simp
theorem Arr.set {w : World} {b : Nat} {f : Nat → Int} (h : Arr w b f) {i : Nat} (hi : i < 9) (v : Int) : Arr (w.setCell ⟨b, i, none⟩ (.int .i64 v)) b fun j => if j = i then v else f j := by
  obtain ⟨t, h⟩ := h
  refine ⟨t, ?_⟩
  have e : (arr f).setIfInBounds i (.int .i64 v) = arr fun j => if j = i then v else f j := by
    have : i = 0 ∨ i = 1 ∨ i = 2 ∨ i = 3 ∨ i = 4 ∨ i = 5 ∨ i = 6 ∨ i = 7 ∨ i = 8 := by omega
    rcases this with rfl | rfl | rfl | rfl | rfl | rfl | rfl | rfl | rfl <;> rfl
  rw [← e]
  exact heap_setCell_same _ _ _ _ _ _ h
theorem Arr.lt {w : World} {b : Nat} {f : Nat → Int} (h : Arr w b f) : b < w.heap.size := by obtain ⟨t, h⟩ := h; exact lt_of_block h
theorem Arr.mod {F : Nat → Prop} {w w' : World} {b : Nat} {f : Nat → Int} (h : Arr w b f) (hm : Mod F w w') (hF : ¬ F b) : Arr w' b f := by
  obtain ⟨t, h⟩ := h
  exact ⟨t, (hm.block _ (lt_of_block h) hF).trans h⟩
theorem Arr.below {w w' : World} {b : Nat} {f : Nat → Int} (h : Arr w b f) (hb : Below w.heap.size w w') : Arr w' b f := h.mod (Mod.of_below hb fun _ => False) id
theorem Arr.congr {w : World} {b : Nat} {f g : Nat → Int} (h : Arr w b f) (e : ∀ i, i < 9 → f i = g i) : Arr w b g := by
  obtain ⟨t, h⟩ := h
  refine ⟨t, ?_⟩
  rw [h]
  unfold arr
  rw [e 0 (by omega), e 1 (by omega), e 2 (by omega), e 3 (by omega), e 4 (by omega), e 5 (by omega), e 6 (by omega), e 7 (by omega), e 8 (by omega)]
def usF (m : Nat) (wt : Nat → Nat) (sl k t : Nat) : Int := if 1 ≤ t ∧ t ≤ m then ((Sc.cs m wt sl k (t - 1) * sl : Nat) : Int) else 0
def laF (m : Nat) (wt : Nat → Nat) (sl k t : Nat) : Int := if 1 ≤ t ∧ t ≤ m then ((Sc.last m wt sl k (t - 1) : Nat) : Int) else 0
theorem us_zero (m : Nat) (wt : Nat → Nat) (sl t : Nat) : usF m wt sl 0 t = 0 := by
  unfold usF
  split
  · show ((0 * sl : Nat) : Int) = 0
    rw [Nat.zero_mul]
    rfl
  · rfl
theorem la_zero (m : Nat) (wt : Nat → Nat) (sl t : Nat) : laF m wt sl 0 t = 0 := by unfold laF; split <;> rfl
theorem us_succ {m : Nat} {wt : Nat → Nat} {sl k : Nat} (hm : 0 < m) (t : Nat) : usF m wt sl (k + 1) t = if t = Sc.who m wt sl k + 1 then usF m wt sl k t + sl else usF m wt sl k t := by
  have hw := Sc.who_lt (wt := wt) (sl := sl) hm k
  unfold usF
  by_cases q : 1 ≤ t ∧ t ≤ m
  · rw [if_pos q, if_pos q, Sc.cs_succ]
    unfold Sc.bump
    by_cases e : t = Sc.who m wt sl k + 1
    · rw [if_pos e, if_pos (by omega), Nat.add_mul, Nat.one_mul, Int.natCast_add]
    · rw [if_neg e, if_neg (by omega)]
  · rw [if_neg q, if_neg q, if_neg (by omega)]
theorem la_succ {m : Nat} {wt : Nat → Nat} {sl k : Nat} (hm : 0 < m) (t : Nat) : laF m wt sl (k + 1) t = if t = Sc.who m wt sl k + 1 then ((k + 1 : Nat) : Int) else laF m wt sl k t := by
  have hw := Sc.who_lt (wt := wt) (sl := sl) hm k
  unfold laF
  by_cases q : 1 ≤ t ∧ t ≤ m
  · rw [if_pos q, if_pos q]
    show ((if t - 1 = Sc.who m wt sl k then k + 1 else Sc.last m wt sl k (t - 1) : Nat) : Int) = _
    by_cases e : t = Sc.who m wt sl k + 1
    · rw [if_pos e, if_pos (by omega)]
    · rw [if_neg e, if_neg (by omega)]
  · rw [if_neg q, if_neg q, if_neg (by omega)]
/-- What the statement asks of two environments. -/
theorem fair {m : Nat} {wt : Nat → Nat} {sl : Nat} (h1 : 1 ≤ sl) (hw : ∀ i, i < m → 1 ≤ wt i ∧ wt i ≤ 16) (k : Nat) {a b : Nat} (a1 : 1 ≤ a) (a2 : a ≤ m) (b1 : 1 ≤ b) (b2 : b ≤ m) :
    usF m wt sl k a * wt (b - 1) - usF m wt sl k b * wt (a - 1) ≤ 2 * sl * wt (a - 1) * wt (b - 1) := by
  unfold usF
  rw [if_pos ⟨a1, a2⟩, if_pos ⟨b1, b2⟩]
  exact Sc.parts h1 hw k (by omega) (by omega)
theorem waits {m : Nat} {wt : Nat → Nat} {sl : Nat} (h1 : 1 ≤ sl) (hw : ∀ i, i < m → 1 ≤ wt i ∧ wt i ≤ 16) (k : Nat) {a : Nat} (a1 : 1 ≤ a) (a2 : a ≤ m) :
    (k : Int) - laF m wt sl k a ≤ m * (16 * sl + 1) := by
  unfold laF
  rw [if_pos ⟨a1, a2⟩]
  have h := Sc.waits (by omega) h1 hw k (a - 1) (by omega)
  have h2 : m * 17 ≤ m * (16 * sl + 1) := Nat.mul_le_mul_left _ (by omega)
  have h3 : ((m * (16 * sl + 1) : Nat) : Int) = (m : Int) * (16 * sl + 1) := by push_cast; rfl
  omega
theorem us_nat (m : Nat) (wt : Nat → Nat) {sl k : Nat} (hs : sl ≤ 12) (hk : k ≤ 1000) (t : Nat) : ∃ u : Nat, usF m wt sl k t = (u : Int) ∧ u ≤ 12000 := by
  unfold usF
  split
  · exact ⟨_, rfl, Nat.mul_le_mul (Nat.le_trans (Sc.cs_le k _) hk) hs⟩
  · exact ⟨0, rfl, by omega⟩
theorem la_nat (m : Nat) (wt : Nat → Nat) {sl k : Nat} (t : Nat) : ∃ u : Nat, laF m wt sl k t = (u : Int) ∧ u ≤ k := by
  unfold laF
  split
  · exact ⟨_, rfl, Sc.last_le k _⟩
  · exact ⟨0, rfl, by omega⟩
theorem row_mod {F : Nat → Prop} {w w' : World} {k : IntKind} {a : Option Addr} {n : Nat} {f : Nat → Int} (h : Cp.RowN k w a n f) (hm : Mod F w w') (hF : ∀ b o, a = some ⟨b, o, none⟩ → ¬ F b) : Cp.RowN k w' a n f := fun q => by
  obtain ⟨b, o, e1, e2, e3⟩ := h q
  exact ⟨b, o, e1, Nat.lt_of_lt_of_le e2 hm.size, fun i hi => (World.cell?_of_block (w := w) (hm.block b e2 (hF b o e1))).trans (e3 i hi)⟩
/-- The products that the statement reckons, none of which wraps. -/
theorem prods {u v x y sl : Nat} (hu : u ≤ 12000) (hv : v ≤ 12000) (hx : x ≤ 16) (hy : y ≤ 16) (hs : sl ≤ 12) :
    IntKind.i64.wrap ((u : Int) * y) = (u : Int) * y ∧ IntKind.i64.wrap ((v : Int) * x) = (v : Int) * x ∧ IntKind.i64.wrap ((u : Int) * y - (v : Int) * x) = (u : Int) * y - (v : Int) * x ∧ IntKind.i64.wrap (2 * (sl : Int)) = 2 * (sl : Int) ∧ IntKind.i64.wrap (2 * (sl : Int) * x) = 2 * (sl : Int) * x ∧ IntKind.i64.wrap (2 * (sl : Int) * x * y) = 2 * (sl : Int) * x * y := by
  have h1 : u * y ≤ 12000 * 16 := Nat.mul_le_mul hu hy
  have h2 : v * x ≤ 12000 * 16 := Nat.mul_le_mul hv hx
  have h3 : 2 * sl * x ≤ 24 * 16 := Nat.mul_le_mul (by omega) hx
  have h4 : 2 * sl * x * y ≤ 24 * 16 * 16 := Nat.mul_le_mul h3 hy
  have e1 : (u : Int) * y = ((u * y : Nat) : Int) := (Int.natCast_mul u y).symm
  have e2 : (v : Int) * x = ((v * x : Nat) : Int) := (Int.natCast_mul v x).symm
  have e3 : 2 * (sl : Int) * x = ((2 * sl * x : Nat) : Int) := by push_cast; rfl
  have e4 : 2 * (sl : Int) * x * y = ((2 * sl * x * y : Nat) : Int) := by push_cast; rfl
  rw [e1, e2, e4, e3]
  refine ⟨IntWalk.i64_in _ (by omega), IntWalk.i64_in _ (by omega), IntWalk.i64_in _ (by omega), IntWalk.i64_in _ (by omega), IntWalk.i64_in _ (by omega), IntWalk.i64_in _ (by omega)⟩
end Fr
end Go.Proofs.YthgddpgifdhnjaaGreat
