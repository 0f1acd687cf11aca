/- script's reader: what it has read; the walk of machine. -/
import Derived.Test.YtohlgcdailconaaGreatDoorScrR
import Derived.Test.YtohlgcdailconaaGreatDoorScrW
namespace Go.Proofs.YtohlgcdailconaaGreatDoor.Scr
open Go.RowKit Lib
set_option linter.unusedVariables false
set_option linter.unusedSimpArgs false
/-- A row that is owned, wherever it lies. -/
theorem own_ne {w : World} {base : Nat} {e T : TypeId} {s n b : Nat} {v : Value} {xs : List Value} {cs : Array Value} {fr : Nat × Nat} (h : w.ownsRow base e s v n xs) (hb : w.heap[b]? = some (.cells cs T fr)) (hT : T ≠ e) : v.ownBlock ≠ some b := by
  rcases h.2 with ⟨rfl, _⟩ | ⟨g, cap, cur, rfl, _, hg, _⟩
  · intro e; cases e
  · intro e
    simp only [Value.ownBlock, Option.some.injEq] at e
    subst e
    rw [hg] at hb
    cases hb
    exact hT rfl
theorem own_keep {w w' : World} {base : Nat} {e : TypeId} {s n : Nat} {v : Value} {xs : List Value} {F : Nat → Prop} (h : w.ownsRow base e s v n xs) (hm : Mod F w w') (hF : ∀ k, v.ownBlock = some k → ¬ F k) : w'.ownsRow base e s v n xs := by
  obtain ⟨h1, h2⟩ := h
  refine ⟨h1, ?_⟩
  rcases h2 with h2 | ⟨g, cap, cur, rfl, hb, hg, r⟩
  · exact .inl h2
  · exact .inr ⟨g, cap, cur, rfl, hb, (hm.block g (lt_of_block hg) (hF g rfl)).trans hg, r⟩
def foot (b : Nat) (ev iv av : Value) (k : Nat) : Prop := k = b ∨ ev.ownBlock = some k ∨ iv.ownBlock = some k ∨ av.ownBlock = some k
structure Rdr (w : World) (b : Nat) (ev iv av : Value) (s : Sc) (n : Int) (f : Bool) : Prop where
  blk : w.heap[b]? = some (.cells #[.int .u32 s.pages, ev, str s.key, iv, av, .int .i64 n, .bool f] 66 (0, 0))
  e : w.ownsRow 0 22 1 ev s.exts.length (s.exts.map (Value.int .u32))
  i : w.ownsRow 0 9 1 iv s.imgs.length (s.imgs.map str)
  a : w.ownsRow 0 44 4 av s.acts.length (s.acts.flatMap acC)
theorem Rdr.keep {w w' : World} {b : Nat} {ev iv av : Value} {s : Sc} {n : Int} {f : Bool} {F : Nat → Prop} (h : Rdr w b ev iv av s n f) (hm : Mod F w w') (hF : ∀ k, foot b ev iv av k → ¬ F k) : Rdr w' b ev iv av s n f :=
  ⟨(hm.block _ (lt_of_block h.blk) (hF _ (.inl rfl))).trans h.blk, own_keep h.e hm fun k hk => hF k (.inr (.inl hk)), own_keep h.i hm fun k hk => hF k (.inr (.inr (.inl hk))), own_keep h.a hm fun k hk => hF k (.inr (.inr (.inr hk)))⟩
theorem Rdr.below {w w' : World} {b : Nat} {ev iv av : Value} {s : Sc} {n : Int} {f : Bool} (h : Rdr w b ev iv av s n f) (hb : Below w.heap.size w w') : Rdr w' b ev iv av s n f :=
  h.keep (F := fun _ => False) (Mod.of_below hb _) fun _ _ => id
theorem Rdr.foot_lt {w : World} {b : Nat} {ev iv av : Value} {s : Sc} {n : Int} {f : Bool} (h : Rdr w b ev iv av s n f) : ∀ k, foot b ev iv av k → k < w.heap.size := by
  have q : ∀ {e : TypeId} {m c : Nat} {v : Value} {xs : List Value}, w.ownsRow 0 e m v c xs → ∀ k, v.ownBlock = some k → k < w.heap.size := fun h k hk => (World.ownsRow.lt h k hk).2
  rintro k (rfl | hk | hk | hk)
  · exact lt_of_block h.blk
  · exact q h.e k hk
  · exact q h.i k hk
  · exact q h.a k hk
/-- A cell of the reader's own block is set. -/
theorem Rdr.set {w : World} {b : Nat} {ev iv av : Value} {s s' : Sc} {n n' : Int} {f f' : Bool} (h : Rdr w b ev iv av s n f) (j : Nat) (u : Value) (hj : (#[Value.int .u32 s.pages, ev, str s.key, iv, av, .int .i64 n, .bool f]).setIfInBounds j u = #[.int .u32 s'.pages, ev, str s'.key, iv, av, .int .i64 n', .bool f'])
    (he : s'.exts = s.exts) (hi : s'.imgs = s.imgs) (ha : s'.acts = s.acts) : Rdr (w.setCell ⟨b, j, none⟩ u) b ev iv av s' n' f' := by
  have hm : Mod (fun k => k = b) w (w.setCell ⟨b, j, none⟩ u) := (Mod.refl (fun k => k = b) w).setCell ⟨b, j, none⟩ (.inl rfl) u
  refine ⟨by rw [heap_setCell_same _ _ _ _ _ u h.blk, hj], ?_, ?_, ?_⟩
  · rw [he]; exact own_keep h.e hm fun k hk e => own_ne h.e h.blk (by decide) (by rw [hk, e])
  · rw [hi]; exact own_keep h.i hm fun k hk e => own_ne h.i h.blk (by decide) (by rw [hk, e])
  · rw [ha]; exact own_keep h.a hm fun k hk e => own_ne h.a h.blk (by decide) (by rw [hk, e])
theorem rdr_cells {w : World} {b : Nat} {c0 c1 c2 c3 c4 c5 c6 : Value} (h : w.heap[b]? = some (.cells #[c0, c1, c2, c3, c4, c5, c6] 66 (0, 0))) :
    w.cell? ⟨b, 0, none⟩ = some c0 ∧ w.cell? ⟨b, 1, none⟩ = some c1 ∧ w.cell? ⟨b, 2, none⟩ = some c2 ∧ w.cell? ⟨b, 3, none⟩ = some c3 ∧ w.cell? ⟨b, 4, none⟩ = some c4 ∧ w.cell? ⟨b, 5, none⟩ = some c5 ∧ w.cell? ⟨b, 6, none⟩ = some c6 ∧ ∀ i, w.frozen? ⟨b, i, none⟩ = false := by
  refine ⟨?_, ?_, ?_, ?_, ?_, ?_, ?_, fun i => ?_⟩
  · unfold World.cell?; rw [h]; rfl
  · unfold World.cell?; rw [h]; rfl
  · unfold World.cell?; rw [h]; rfl
  · unfold World.cell?; rw [h]; rfl
  · unfold World.cell?; rw [h]; rfl
  · unfold World.cell?; rw [h]; rfl
  · unfold World.cell?; rw [h]; rfl
  · unfold World.frozen?; rw [h]; simp
theorem own_ne2 {w : World} {b1 b2 : Nat} {e1 e2 : TypeId} {s1 s2 n1 n2 : Nat} {v1 v2 : Value} {x1 x2 : List Value} (h1 : w.ownsRow b1 e1 s1 v1 n1 x1) (h2 : w.ownsRow b2 e2 s2 v2 n2 x2) (hT : e1 ≠ e2) : ∀ k, v1.ownBlock = some k → v2.ownBlock ≠ some k := by
  intro k hk
  rcases h1.2 with ⟨rfl, _⟩ | ⟨g, cap, cur, rfl, _, hg, _⟩
  · cases hk
  · simp only [Value.ownBlock, Option.some.injEq] at hk
    subst hk
    exact own_ne h2 hg hT
theorem grown_mod {w w' : World} {row : Option Nat} (h : w.grownBy w' row) : Mod (fun k => row = some k) w w' := ⟨h.os, h.tape, h.output, h.size, fun k hk hn => h.block k hk fun e => hn e.symm⟩
theorem own_set {w : World} {base b j : Nat} {e T : TypeId} {s n : Nat} {v u : Value} {xs : List Value} {cs : Array Value} {fr : Nat × Nat} (h : w.ownsRow base e s v n xs) (hb : w.heap[b]? = some (.cells cs T fr)) (hT : T ≠ e) : (w.setCell ⟨b, j, none⟩ u).ownsRow base e s v n xs :=
  own_keep h ((Mod.refl (fun k => k = b) w).setCell ⟨b, j, none⟩ (.inl rfl) u) fun k hk e => own_ne h hb hT (by rw [hk, e])
theorem Rdr.appE {w V : World} {b : Nat} {ev iv av v' : Value} {s : Sc} {n : Int} {f : Bool} {x : Int} (h : Rdr w b ev iv av s n f) (hg : w.grownBy V ev.ownBlock) (ho : V.ownsRow 0 22 1 v' (s.exts.length + 1) ((s.exts ++ [x]).map (Value.int .u32))) : Rdr (V.setCell ⟨b, 1, none⟩ v') b v' iv av { s with exts := s.exts ++ [x] } n f := by
  have hm := grown_mod hg
  have hb := (hm.block _ (lt_of_block h.blk) (own_ne h.e h.blk (by decide))).trans h.blk
  refine ⟨by rw [heap_setCell_same _ _ _ _ _ v' hb]; rfl, ?_, ?_, ?_⟩
  · have := own_set (j := 1) (u := v') ho hb (by decide)
    simpa using this
  · exact own_set (own_keep h.i hm (own_ne2 h.i h.e (by decide))) hb (by decide)
  · exact own_set (own_keep h.a hm (own_ne2 h.a h.e (by decide))) hb (by decide)
theorem Rdr.appI {w V : World} {b : Nat} {ev iv av v' : Value} {s : Sc} {n : Int} {f : Bool} {x : Tx} (h : Rdr w b ev iv av s n f) (hg : w.grownBy V iv.ownBlock) (ho : V.ownsRow 0 9 1 v' (s.imgs.length + 1) ((s.imgs ++ [x]).map str)) : Rdr (V.setCell ⟨b, 3, none⟩ v') b ev v' av { s with imgs := s.imgs ++ [x] } n f := by
  have hm := grown_mod hg
  have hb := (hm.block _ (lt_of_block h.blk) (own_ne h.i h.blk (by decide))).trans h.blk
  refine ⟨by rw [heap_setCell_same _ _ _ _ _ v' hb]; rfl, ?_, ?_, ?_⟩
  · exact own_set (own_keep h.e hm (own_ne2 h.e h.i (by decide))) hb (by decide)
  · have := own_set (j := 3) (u := v') ho hb (by decide)
    simpa using this
  · exact own_set (own_keep h.a hm (own_ne2 h.a h.i (by decide))) hb (by decide)
theorem Rdr.appA {w V : World} {b : Nat} {ev iv av v' : Value} {s : Sc} {n : Int} {f : Bool} {x : Ac} (h : Rdr w b ev iv av s n f) (hg : w.grownBy V av.ownBlock) (ho : V.ownsRow 0 44 4 v' (s.acts.length + 1) ((s.acts ++ [x]).flatMap acC)) : Rdr (V.setCell ⟨b, 4, none⟩ v') b ev iv v' { s with acts := s.acts ++ [x] } n f := by
  have hm := grown_mod hg
  have hb := (hm.block _ (lt_of_block h.blk) (own_ne h.a h.blk (by decide))).trans h.blk
  refine ⟨by rw [heap_setCell_same _ _ _ _ _ v' hb]; rfl, ?_, ?_, ?_⟩
  · exact own_set (own_keep h.e hm (own_ne2 h.e h.a (by decide))) hb (by decide)
  · exact own_set (own_keep h.i hm (own_ne2 h.i h.a (by decide))) hb (by decide)
  · have := own_set (j := 4) (u := v') ho hb (by decide)
    simpa using this
def numU (t : Tx) : Option Int := (numT t).bind fun v => if 0 ≤ v ∧ v ≤ 1048576 then some v else none
def scanS : List Tx → Option (Int × List Int)
  | [] => some (0, [])
  | p :: es => (numU p).bind fun a => (es.mapM numU).map fun xs => (a, xs)
theorem mapM_snoc (l : List Tx) (t : Tx) : (l ++ [t]).mapM numU = (l.mapM numU).bind fun xs => (numU t).map fun v => xs ++ [v] := by
  rw [List.mapM_append]
  simp only [List.mapM_cons, List.mapM_nil]
  cases l.mapM numU with
  | none => rfl
  | some xs => cases numU t <;> rfl
theorem scan_snoc (l : List Tx) (t : Tx) : scanS (l ++ [t]) = (scanS l).bind fun st => (numU t).map fun v => if l = [] then (v, []) else (st.1, st.2 ++ [v]) := by
  cases l with
  | nil => cases h : numU t <;> simp [scanS, h]
  | cons p es =>
    simp only [List.cons_append, scanS, mapM_snoc]
    cases numU p with
    | none => rfl
    | some a =>
      cases es.mapM numU with
      | none => rfl
      | some xs => cases numU t <;> simp
def machW : Tx := [109, 97, 99, 104, 105, 110, 101]
def machT : List Tx → Option (Int × List Int)
  | x :: r => if x = machW ∧ r ≠ [] then (scanS r).bind fun st => if hardOk st.1 st.2 then some st else none else none
  | [] => none
theorem own_RdU {w : World} {base : Nat} {v : Value} {xs : List Int} (h : w.ownsRow base 22 1 v xs.length (xs.map (Value.int .u32))) : ∃ a c, v = .slice a xs.length c ∧ RdU w a xs := by
  rcases h.2 with ⟨rfl, h0⟩ | ⟨g, cap, cur, rfl, _, hg, h1, h2, h3, h4⟩
  · have := List.length_eq_zero_iff.1 h0
    subst this
    exact ⟨none, 0, rfl, Rd.nil _ _ _⟩
  · refine ⟨_, cap, rfl, fun i r hr => ?_⟩
    rw [List.getElem?_map] at hr
    obtain ⟨x, hx, rfl⟩ := Option.map_eq_some_iff.1 hr
    refine ⟨g, 0, rfl, lt_of_block hg, fun j u hu => ?_⟩
    cases j with
    | succ j => simp at hu
    | zero =>
      simp at hu
      subst hu
      have hl : i < xs.length := (List.getElem?_eq_some_iff.1 hx).1
      unfold World.cell?
      rw [hg]
      show cur[0 + i * 1 + 0]? = _
      have := congrArg (·[i]?) h4
      simp only [List.getElem?_map, hx, Option.map_some] at this
      rw [List.getElem?_take_of_lt (by omega)] at this
      simpa using this
theorem info_u32 : (Tryz.prog.info? 22).map (fun i => (i.zero, i.size, i.bytes)) = some (some (.int .u32 0), 1, 4) := by kernel_rfl
theorem numU_bd {t : Tx} {v : Int} (h : numU t = some v) : numT t = some v ∧ 0 ≤ v ∧ v ≤ 1048576 := by
  unfold numU at h
  cases hn : numT t with
  | none => rw [hn] at h; cases h
  | some u =>
    rw [hn] at h
    simp only [Option.bind_some] at h
    split at h
    · cases h; exact ⟨rfl, by assumption⟩
    · cases h
theorem mapM_bd (l : List Tx) (xs : List Int) (h : l.mapM numU = some xs) : xs.length = l.length ∧ ∀ x, x ∈ xs → 0 ≤ x ∧ x ≤ 1048576 := by
  induction l generalizing xs with
  | nil => simp at h; subst h; exact ⟨rfl, by simp⟩
  | cons t r ih =>
    rw [List.mapM_cons] at h
    cases hn : numU t with
    | none => rw [hn] at h; cases h
    | some v =>
      cases hr : r.mapM numU with
      | none => rw [hn, hr] at h; cases h
      | some ys =>
        rw [hn, hr] at h
        cases h
        obtain ⟨h1, h2⟩ := ih ys hr
        exact ⟨by simp [h1], fun x hx => by
          rcases List.mem_cons.1 hx with rfl | hx
          · exact (numU_bd hn).2
          · exact h2 x hx⟩
theorem scan_bd {l : List Tx} {st : Int × List Int} (h : scanS l = some st) : 0 ≤ st.1 ∧ st.1 ≤ 1048576 ∧ st.2.length ≤ l.length ∧ (∀ x, x ∈ st.2 → 0 ≤ x ∧ x ≤ 1048576) := by
  cases l with
  | nil => simp [scanS] at h; subst h; exact ⟨by decide, by decide, by simp, by simp⟩
  | cons p es =>
    simp only [scanS] at h
    cases hp : numU p with
    | none => rw [hp] at h; cases h
    | some a =>
      cases he : es.mapM numU with
      | none => rw [hp, he] at h; cases h
      | some xs =>
        rw [hp, he] at h
        cases h
        obtain ⟨h1, h2⟩ := mapM_bd es xs he
        exact ⟨(numU_bd hp).2.1, (numU_bd hp).2.2, by simp [h1], h2⟩
theorem scan_bad {l : List Tx} (i : Nat) (t : Tx) (hi : l[i]? = some t) (h : ∀ st, scanS (l.take i) = some st → numU t = none) : scanS l = none := by
  have key : ∀ (m : List Tx) (k : List Tx), scanS m = none → scanS (m ++ k) = none := fun m k hm => by
    induction k generalizing m with
    | nil => simpa using hm
    | cons y ys ih =>
      rw [show m ++ y :: ys = (m ++ [y]) ++ ys by simp]
      exact ih _ (by rw [scan_snoc, hm]; rfl)
  have h1 : scanS (l.take i ++ [t]) = none := by
    rw [scan_snoc]
    cases hs : scanS (l.take i) with
    | none => rfl
    | some st => rw [h st hs]; rfl
  have h2 : l = (l.take i ++ [t]) ++ l.drop (i + 1) := by
    have h3 : l.take (i + 1) = l.take i ++ [t] := by rw [List.take_add_one, hi]; rfl
    rw [← h3, List.take_append_drop]
  rw [h2]
  exact key _ _ h1
def mRel (w : World) (b : Nat) (ev iv av : Value) (s : Sc) (n : Int) (f : Bool) (tl : List Tx) (vi : Value) (wr : World) : Prop :=
  ∃ (i : Nat) (st : Int × List Int) (ev' : Value), i ≤ tl.length ∧ vi = .int .i64 i ∧ scanS (tl.take i) = some st ∧ Rdr wr b ev' iv av { s with pages := st.1, exts := st.2 } n f ∧ Mod (foot b ev iv av) w wr ∧ ∀ k, ev'.ownBlock = some k → ev.ownBlock = some k ∨ w.heap.size ≤ k
def MachP (w : World) (b : Nat) (ev iv av : Value) (s : Sc) (n : Int) (f : Bool) (l : List Tx) (e : Ending) (w' : World) : Prop :=
  Mod (foot b ev iv av) w w' ∧ match machT l with
    | some st => e = .returned (.tuple #[]) ∧ ∃ ev', Rdr w' b ev' iv av { s with pages := st.1, exts := st.2 } n f ∧ ∀ k, ev'.ownBlock = some k → ev.ownBlock = some k ∨ w.heap.size ≤ k
    | none => e = bad ∧ w'.cell? ⟨b, 5, none⟩ = some (.int .i64 n)
theorem Rdr.n5 {w : World} {b : Nat} {ev iv av : Value} {s : Sc} {n : Int} {f : Bool} (h : Rdr w b ev iv av s n f) : w.cell? ⟨b, 5, none⟩ = some (.int .i64 n) := (rdr_cells h.blk).2.2.2.2.2.1
theorem foot_ge {w : World} {b : Nat} {ev iv av : Value} {s : Sc} {n : Int} {f : Bool} (h : Rdr w b ev iv av s n f) (h100 : 8 ≤ b) (hr : ∀ k, foot b ev iv av k → 8 ≤ k) : True := trivial
set_option maxRecDepth 100000 in
set_option maxHeartbeats 2000000 in
theorem machine {w : World} {b wb : Nat} {ev iv av : Value} {s : Sc} {n : Int} {f : Bool} {x : Tx} {r : List Tx} (h : Laid w) (hr : Rdr w b ev iv av s n f) (hs : s.pages = 0 ∧ s.exts = []) (h100 : ∀ k, foot b ev iv av k → 8 ≤ k)
    (hw : RowT w wb (x :: r)) (hwf : ¬ foot b ev iv av wb) (hlen : ∀ t, t ∈ x :: r → t.length ≤ 1048576) (hn : r.length ≤ 2000000) :
    Calls Tryz.prog 44 #[.pointer (some ⟨b, 0, none⟩), .slice (some ⟨wb, 0, none⟩) (r.length + 1) (r.length + 1)] w (MachP w b ev iv av s n f (x :: r)) := by
  have HYes := Lib.hid fun V st ev' (hv : machT (x :: r) = some st) (hm : Mod (foot b ev iv av) w V) (hR : Rdr V b ev' iv av { s with pages := st.1, exts := st.2 } n f) (hk : ∀ k, ev'.ownBlock = some k → ev.ownBlock = some k ∨ w.heap.size ≤ k) => (show MachP w b ev iv av s n f (x :: r) (.returned (.tuple #[])) V from ⟨hm, by rw [hv]; exact ⟨rfl, ev', hR, hk⟩⟩)
  have HNo := Lib.hid fun V (hv : machT (x :: r) = none) (hm : Mod (foot b ev iv av) w V) (h5 : V.cell? ⟨b, 5, none⟩ = some (.int .i64 n)) => (show MachP w b ev iv av s n f (x :: r) bad V from ⟨hm, by rw [hv]; exact ⟨rfl, h5⟩⟩)
  generalize MachP w b ev iv av s n f (x :: r) = PQ at *
  have HM : Hid (machT (x :: r) = if x = machW ∧ r ≠ [] then (scanS r).bind fun st => if hardOk st.1 st.2 then some st else none else none) := Lib.hid rfl
  have hx0 : w.cell? ⟨wb, 0, none⟩ = some (.string ⟨x.toArray⟩) := hw.cell rfl
  have H := Lib.hid fun V (hV : Mod (foot b ev iv av) w V) => h.mod hV fun k hk hf => by have := h100 k hf; omega
  have HRow := Lib.hid fun V (hV : Mod (foot b ev iv av) w V) => (show RowT V wb (x :: r) from (hV.block _ (lt_of_block hw) hwf).trans hw)
  have HR := Lib.hid hr
  have HLen := Lib.hid hlen
  have hzb := lt_of_block hr.blk
  have hzw := lt_of_block hw
  clear h hr hw hwf hlen h100
  have hxe : (x == machW) = decide (x = machW) := by
    by_cases e : x = machW
    · rw [decide_eq_true e]; exact beq_iff_eq.2 e
    · rw [decide_eq_false e]; exact beq_eq_false_iff_ne.2 e
  by_cases hok : x = machW ∧ r ≠ []
  · obtain ⟨hxm, hne⟩ := hok
    have hrl : 1 ≤ r.length := by cases r; exact absurd rfl hne; simp
    have hrl3 : ¬ r.length = 0 := by omega
    have hrl4 : ¬ r = [] := hne
    have hrl' : decide ((2 : Int) ≤ r.length + 1) = true := decide_eq_true (by omega)
    have hxb : (x == [109, 97, 99, 104, 105, 110, 101]) = true := by rw [hxm]; rfl
    have HMr : Hid (machT (x :: r) = (scanS r).bind fun st => if hardOk st.1 st.2 then some st else none) := Lib.hid (HM.out.trans (if_pos ⟨hxm, hne⟩))
    have HMod0 := Lib.hid ((Mod.refl (foot b ev iv av) w).alloc (.cells #[.bool true, .bool true] 4))
    have HRel0 : Hid (mRel w b ev iv av s n f r (.int .i64 0) (w.alloc (.cells #[.bool true, .bool true] 4))) := Lib.hid ⟨0, (0, []), ev, by omega, rfl, rfl, by
      have := HR.out.below ((Below.refl w.heap.size w).alloc (Nat.le_refl _) (.cells #[.bool true, .bool true] 4))
      have e : ({ s with pages := 0, exts := [] } : Sc) = s := by
        obtain ⟨p, e, k, i, a⟩ := s
        obtain ⟨h1, h2⟩ := hs
        simp only at h1 h2
        subst h1 h2
        rfl
      rw [e]
      exact this, HMod0.out, fun k hk => .inl hk⟩
    clear hxm hne hxe HM
    go_enter Tryz.func44, Tryz.ntmps44
    go_wp2_with fail
    refine (ny2 w rfl).mono ?_
    rintro e w1 ⟨rfl, rfl⟩
    go_wp2_with fail
    generalize w.alloc (.cells #[.bool true, .bool true] 4) = w0 at *
    go_loopw [4, 5, 6, 19] (fun _ _ _ vi wr => mRel w b ev iv av s n f r vi wr) (fun _ _ _ vi _ => r.length - (RowKit.intOf vi).toNat)
    case atStart => exact HRel0.out
    case round =>
      clear HRel0
      obtain ⟨i, st, ev', hi, rfl, hsc, hrd, hmo, hfo⟩ := hrel
      have HSc := Lib.hid hsc
      have HRd := Lib.hid hrd
      have HMo := Lib.hid hmo
      have HFo := Lib.hid hfo
      have hzr := lt_of_block hrd.blk
      clear hsc hrd hmo hfo
      by_cases hin : i < r.length
      · have HX : Hid (r[i]? = some r[i]) := Lib.hid (List.getElem?_eq_getElem hin)
        generalize r[i] = t at *
        have hc : wr.cell? ⟨wb, 1 + i, none⟩ = some (.string ⟨t.toArray⟩) := (HRow.out wr HMo.out).cell (by rw [Nat.add_comm, List.getElem?_cons_succ]; exact HX.out)
        have HNm := Lib.hid (number t (HLen.out t (List.mem_cons_of_mem _ (List.mem_of_getElem? HX.out))) (H.out wr HMo.out))
        have HBad : numU t = none → Hid (machT (x :: r) = none) := fun hu => Lib.hid (by rw [HMr.out, scan_bad i t HX.out (fun _ _ => hu)]; rfl)
        go_wp2_with fail
        refine HNm.out.mono ?_
        rintro e w2 ⟨he, hb⟩
        have HRd2 := Lib.hid (HRd.out.below hb)
        have HMo2 := Lib.hid (HMo.out.trans (Mod.of_below hb (foot b ev iv av)) fun _ _ g => .inl g)
        clear hb
        cases hnt : numT t with
        | none =>
          have HV := HBad (by unfold numU; rw [hnt]; rfl)
          rw [hnt] at he
          subst he
          clear hnt
          exact ⟨rfl, HNo.out _ HV.out HMo2.out HRd2.out.n5⟩
        | some v =>
          rw [hnt] at he
          subst he
          unfold numV
          have HA := Lib.hid ((Below.refl w2.heap.size w2).alloc (Nat.le_refl _) (.cells #[.bool (decide (0 ≤ v)), .bool (decide (v ≤ 1048576))] 4))
          have HRd3 := Lib.hid (HRd2.out.below HA.out)
          have HMo3 := Lib.hid (HMo2.out.alloc (.cells #[.bool (decide (0 ≤ v)), .bool (decide (v ≤ 1048576))] 4))
          by_cases hv : 0 ≤ v ∧ v ≤ 1048576
          · have HU : Hid (numU t = some v) := Lib.hid (by unfold numU; rw [hnt]; exact if_pos hv)
            obtain ⟨v0, v1⟩ := hv
            have hd0 : decide (0 ≤ v) = true := decide_eq_true v0
            have hd1 : decide (v ≤ 1048576) = true := decide_eq_true v1
            rw [hd0, hd1] at HRd3 HMo3
            clear hnt hd0 hd1 HA
            go_wp2_with fail
            refine (ny2 w2 rfl).mono ?_
            rintro e w3 ⟨rfl, rfl⟩
            generalize w2.alloc (.cells #[.bool true, .bool true] 4) = w3 at *
            obtain ⟨c0, c1, c2, c3, c4, c5, c6, cf⟩ := rdr_cells HRd3.out.blk
            have hz3 := lt_of_block HRd3.out.blk
            cases i with
            | zero =>
              have hst : st = (0, []) := by have := HSc.out; simp [scanS] at this; exact this.symm
              subst hst
              have HN := Lib.hid (HRd3.out.set (s' := { s with pages := v, exts := [] }) (n' := n) (f' := f) 0 (.int .u32 v) rfl rfl rfl rfl)
              go_wp2_with fail
              refine ⟨⟨1, (v, []), ev', by omega, by go_num, ?_, HN.out, HMo3.out.setCell ⟨b, 0, none⟩ (.inl (.inl rfl)) _, HFo.out⟩, by simp [RowKit.intOf]; omega⟩
              rw [List.take_add_one, HX.out]
              show scanS ([] ++ [t]) = some (v, [])
              rw [scan_snoc, show scanS [] = some (0, []) from rfl, HU.out]
              rfl
            | succ i =>
              have hi0 : (((i + 1 : Nat) : Int) == 0) = false := beq_eq_false_iff_ne.2 (by omega)
              obtain ⟨i0, hi1, hz0, hz1, hz2⟩ := info_parts info_u32
              have Hi1 := Lib.hid hi1
              have Hz0 := Lib.hid hz0
              have Hz1 := Lib.hid hz1
              have Hz2 := Lib.hid hz2
              have hle : st.2.length ≤ 2000000 := by
                have := (scan_bd HSc.out).2.2.1
                rw [List.length_take] at this
                omega
              have hst : ({ s with pages := st.1, exts := st.2 } : Sc).exts = st.2 := rfl
              clear hi1 hz0 hz1 hz2 hst
              go_wp2_with (at_builtin; refine wpList_append_lies _ (by rfl) _ _ _ (by rfl) 0 22 i0 (.int .u32 0) 1 4 Tryz.underlying23 Hi1.out Hz0.out Hz1.out Hz2.out rfl (by omega) ev' st.2.length (st.2.map (Value.int .u32)) (by rfl) (World.ownsRow.alloc HRd3.out.e _) ⟨w3.heap.size, 0, none⟩ 1 1 [.int .u32 v] (by rfl) (by rfl) (World.news_of_block (heap_alloc_new w3 _)) (fun x hx => by simp at hx; subst hx; rfl) (by omega) (by unfold maxLen; omega) (by omega) (Nat.zero_le _) _ rfl ?_; intro g cap w6 hown hgro hat hlt; have HOwn := Lib.hid hown; have HGro := Lib.hid hgro; have HAt := Lib.hid hat; have hb6 := ((grown_mod hgro).block _ (Nat.lt_of_lt_of_le hz3 (by simp)) (own_ne HRd3.out.e HRd3.out.blk (by decide))).trans ((Below.heap_alloc w3 _ _ hz3).trans HRd3.out.blk); obtain ⟨e0, e1, e2, e3, e4, e5, e6, ef⟩ := rdr_cells hb6; have hz6 := lt_of_block hb6; clear hown hgro hat hb6)
              have hR4 := (HRd3.out.below ((Below.refl w3.heap.size w3).alloc (Nat.le_refl _) (.cells #[.int .u32 v] 22))).appE (x := v) HGro.out (by rw [List.map_append]; exact HOwn.out)
              have hM4 : Mod (foot b ev iv av) w w6 := (HMo3.out.alloc (.cells #[.int .u32 v] 22)).trans (grown_mod HGro.out) fun k _ hk => (HFo.out k hk).imp (fun e => .inr (.inl e)) id
              refine ⟨⟨i + 1 + 1, (st.1, st.2 ++ [v]), _, by omega, by go_num, ?_, hR4, hM4.setCell ⟨b, 1, none⟩ (.inl (.inl rfl)) _, fun k hk => ?_⟩, by simp [RowKit.intOf]; omega⟩
              · rw [List.take_add_one, HX.out]
                show scanS (r.take (i + 1) ++ [t]) = _
                rw [scan_snoc, HSc.out, HU.out]
                have : r.take (i + 1) ≠ [] := by
                  intro e
                  have := congrArg List.length e
                  rw [List.length_take, Nat.min_eq_left (by omega)] at this
                  simp at this
                simp [this]
              · simp only [Value.ownBlock, Option.some.injEq] at hk
                subst hk
                rcases HAt.out with e | e
                · exact HFo.out _ e
                · have h1 := HMo3.out.size
                  have h2 : (w3.alloc (.cells #[.int .u32 v] 22)).heap.size = w3.heap.size + 1 := by simp
                  exact .inr (by omega)
          · have HU : numU t = none := by unfold numU; rw [hnt]; exact if_neg hv
            have HV := HBad HU
            have hbf : (decide (0 ≤ v) && decide (v ≤ 1048576)) = false := by
              rw [Bool.and_eq_false_iff]
              by_cases h0 : 0 ≤ v
              · exact .inr (decide_eq_false fun h1 => hv ⟨h0, h1⟩)
              · exact .inl (decide_eq_false h0)
            have HBf := Lib.hid hbf
            clear hbf hv HU hnt HA
            go_wp2_with fail
            refine (nn2 w2 HBf.out).mono ?_
            rintro e w3 ⟨rfl, rfl⟩
            exact ⟨rfl, HNo.out _ HV.out HMo3.out HRd3.out.n5⟩
      · obtain rfl : i = r.length := by omega
        have hik : ¬ ((r.length : Int) < r.length) := by omega
        rw [List.take_of_length_le (Nat.le_refl _)] at HSc
        obtain ⟨b0, b1, bl, bx⟩ := scan_bd HSc.out
        have hown := HRd.out.e
        obtain ⟨c0, c1, c2, c3, c4, c5, c6, cf⟩ := rdr_cells HRd.out.blk
        simp only at hown c0 c1
        obtain ⟨ea, ec, rfl, hrd⟩ := own_RdU hown
        have HCk := Lib.hid (check (cap := ec) (hp := st.1) hrd (by omega) (fun y hy => by have := bx y hy; omega) b0)
        have HMs : Hid (machT (x :: r) = if hardOk st.1 st.2 then some st else none) := Lib.hid (by rw [HMr.out, HSc.out]; rfl)
        clear hown hrd
        cases hh : hardOk st.1 st.2 with
        | true =>
          have HV : Hid (machT (x :: r) = some st) := Lib.hid (by rw [HMs.out, hh]; rfl)
          rw [hardE_yes hh] at HCk
          clear hh
          go_wp2_with fail
          refine HCk.out.mono ?_
          rintro e w2 ⟨rfl, hb⟩
          have hA := below_th hb ((Below.refl w2.heap.size w2).alloc (Nat.le_refl _) (.cells #[.bool true] 4))
          have HA := Lib.hid hA
          clear hb hA
          go_wp2_with fail
          refine (ny1 w2 rfl).mono ?_
          rintro e w3 ⟨rfl, rfl⟩
          go_wp2
          go_end0
          exact HYes.out _ st _ HV.out (HMo.out.trans (Mod.of_below HA.out (foot b ev iv av)) fun _ _ g => .inl g) (HRd.out.below HA.out) HFo.out
        | false =>
          have HV : Hid (machT (x :: r) = none) := Lib.hid (by rw [HMs.out, hh]; rfl)
          rw [hardE_no hh] at HCk
          clear hh
          go_wp2_with fail
          refine HCk.out.mono ?_
          rintro e w2 ⟨rfl, hb⟩
          have hA := below_th hb ((Below.refl w2.heap.size w2).alloc (Nat.le_refl _) (.cells #[.bool false] 4))
          have HA := Lib.hid hA
          clear hb hA
          go_wp2_with fail
          refine (nn1 w2 rfl).mono ?_
          rintro e w3 ⟨rfl, rfl⟩
          exact ⟨rfl, HNo.out _ HV.out (HMo.out.trans (Mod.of_below HA.out (foot b ev iv av)) fun _ _ g => .inl g) (HRd.out.below HA.out).n5⟩
  · have HV : Hid (machT (x :: r) = none) := Lib.hid (HM.out.trans (if_neg hok))
    have hbf : (decide ((2 : Int) ≤ r.length + 1) && (x == [109, 97, 99, 104, 105, 110, 101])) = false := by
      rw [Bool.and_eq_false_iff]
      by_cases hxm : x = machW
      · left
        have : r = [] := Classical.byContradiction fun e => hok ⟨hxm, e⟩
        rw [this]
        rfl
      · right
        exact hxe.trans (decide_eq_false hxm)
    have HBf := Lib.hid hbf
    clear hbf hxe hok
    go_enter Tryz.func44, Tryz.ntmps44
    go_wp2_with fail
    refine (nn2 w HBf.out).mono ?_
    rintro e w1 ⟨rfl, rfl⟩
    exact ⟨rfl, HNo.out _ HV.out ((Mod.refl _ w).alloc _) (HR.out.below ((Below.refl _ _).alloc (Nat.le_refl _) _)).n5⟩
end Go.Proofs.YtohlgcdailconaaGreatDoor.Scr
