/- The document's reader in memory; the walks of told and machine. -/
import Derived.Test.YtohlgcdailconaaGreatDoorScrUe
import Derived.Test.YtohlgcdailconaaGreatDoorScrUb
import Derived.Test.YtohlgcdailconaaGreatDoorScrD
namespace Go.Proofs.YtohlgcdailconaaGreatDoor.Scr
open Go.RowKit Lib
set_option linter.unusedVariables false
set_option linter.unusedSimpArgs false
namespace R32
structure Rdr (w : World) (b : Nat) (ev iv av : Value) (s : Sc) (n : Int) (f : Bool) : Prop where
  blk : w.heap[b]? = some (.cells #[.int .u32 s.pages, ev, str s.key, iv, av, .int .i64 n, .bool f] 72 (0, 0))
  e : w.ownsRow 0 22 1 ev s.exts.length (s.exts.map (Value.int .u32))
  i : w.ownsRow 0 9 1 iv s.imgs.length (s.imgs.map str)
  a : w.ownsRow 0 44 4 av s.acts.length (s.acts.flatMap acC)
theorem Rdr.keep {w w' : World} {b : Nat} {ev iv av : Value} {s : Sc} {n : Int} {f : Bool} {F : Nat → Prop} (h : Rdr w b ev iv av s n f) (hm : Mod F w w') (hF : ∀ k, foot b ev iv av k → ¬ F k) : Rdr w' b ev iv av s n f :=
  ⟨(hm.block _ (lt_of_block h.blk) (hF _ (.inl rfl))).trans h.blk, own_keep h.e hm fun k hk => hF k (.inr (.inl hk)), own_keep h.i hm fun k hk => hF k (.inr (.inr (.inl hk))), own_keep h.a hm fun k hk => hF k (.inr (.inr (.inr hk)))⟩
theorem Rdr.below {w w' : World} {b : Nat} {ev iv av : Value} {s : Sc} {n : Int} {f : Bool} (h : Rdr w b ev iv av s n f) (hb : Below w.heap.size w w') : Rdr w' b ev iv av s n f :=
  h.keep (F := fun _ => False) (Mod.of_below hb _) fun _ _ => id
theorem Rdr.foot_lt {w : World} {b : Nat} {ev iv av : Value} {s : Sc} {n : Int} {f : Bool} (h : Rdr w b ev iv av s n f) : ∀ k, foot b ev iv av k → k < w.heap.size := by
  have q : ∀ {e : TypeId} {m c : Nat} {v : Value} {xs : List Value}, w.ownsRow 0 e m v c xs → ∀ k, v.ownBlock = some k → k < w.heap.size := fun h k hk => (World.ownsRow.lt h k hk).2
  rintro k (rfl | hk | hk | hk)
  · exact lt_of_block h.blk
  · exact q h.e k hk
  · exact q h.i k hk
  · exact q h.a k hk
theorem Rdr.set {w : World} {b : Nat} {ev iv av : Value} {s s' : Sc} {n n' : Int} {f f' : Bool} (h : Rdr w b ev iv av s n f) (j : Nat) (u : Value) (hj : (#[Value.int .u32 s.pages, ev, str s.key, iv, av, .int .i64 n, .bool f]).setIfInBounds j u = #[.int .u32 s'.pages, ev, str s'.key, iv, av, .int .i64 n', .bool f'])
    (he : s'.exts = s.exts) (hi : s'.imgs = s.imgs) (ha : s'.acts = s.acts) : Rdr (w.setCell ⟨b, j, none⟩ u) b ev iv av s' n' f' := by
  have hm : Mod (fun k => k = b) w (w.setCell ⟨b, j, none⟩ u) := (Mod.refl (fun k => k = b) w).setCell ⟨b, j, none⟩ (.inl rfl) u
  refine ⟨by rw [heap_setCell_same _ _ _ _ _ u h.blk, hj], ?_, ?_, ?_⟩
  · rw [he]; exact own_keep h.e hm fun k hk e => own_ne h.e h.blk (by decide) (by rw [hk, e])
  · rw [hi]; exact own_keep h.i hm fun k hk e => own_ne h.i h.blk (by decide) (by rw [hk, e])
  · rw [ha]; exact own_keep h.a hm fun k hk e => own_ne h.a h.blk (by decide) (by rw [hk, e])
theorem rdr_cells {w : World} {b : Nat} {c0 c1 c2 c3 c4 c5 c6 : Value} (h : w.heap[b]? = some (.cells #[c0, c1, c2, c3, c4, c5, c6] 72 (0, 0))) :
    w.cell? ⟨b, 0, none⟩ = some c0 ∧ w.cell? ⟨b, 1, none⟩ = some c1 ∧ w.cell? ⟨b, 2, none⟩ = some c2 ∧ w.cell? ⟨b, 3, none⟩ = some c3 ∧ w.cell? ⟨b, 4, none⟩ = some c4 ∧ w.cell? ⟨b, 5, none⟩ = some c5 ∧ w.cell? ⟨b, 6, none⟩ = some c6 ∧ ∀ i, w.frozen? ⟨b, i, none⟩ = false := by
  refine ⟨?_, ?_, ?_, ?_, ?_, ?_, ?_, fun i => ?_⟩
  · unfold World.cell?; rw [h]; rfl
  · unfold World.cell?; rw [h]; rfl
  · unfold World.cell?; rw [h]; rfl
  · unfold World.cell?; rw [h]; rfl
  · unfold World.cell?; rw [h]; rfl
  · unfold World.cell?; rw [h]; rfl
  · unfold World.cell?; rw [h]; rfl
  · unfold World.frozen?; rw [h]; simp
theorem Rdr.appE {w V : World} {b : Nat} {ev iv av v' : Value} {s : Sc} {n : Int} {f : Bool} {x : Int} (h : Rdr w b ev iv av s n f) (hg : w.grownBy V ev.ownBlock) (ho : V.ownsRow 0 22 1 v' (s.exts.length + 1) ((s.exts ++ [x]).map (Value.int .u32))) : Rdr (V.setCell ⟨b, 1, none⟩ v') b v' iv av { s with exts := s.exts ++ [x] } n f := by
  have hm := grown_mod hg
  have hb := (hm.block _ (lt_of_block h.blk) (own_ne h.e h.blk (by decide))).trans h.blk
  refine ⟨by rw [heap_setCell_same _ _ _ _ _ v' hb]; rfl, ?_, ?_, ?_⟩
  · have := own_set (j := 1) (u := v') ho hb (by decide)
    simpa using this
  · exact own_set (own_keep h.i hm (own_ne2 h.i h.e (by decide))) hb (by decide)
  · exact own_set (own_keep h.a hm (own_ne2 h.a h.e (by decide))) hb (by decide)
theorem Rdr.appI {w V : World} {b : Nat} {ev iv av v' : Value} {s : Sc} {n : Int} {f : Bool} {x : Tx} (h : Rdr w b ev iv av s n f) (hg : w.grownBy V iv.ownBlock) (ho : V.ownsRow 0 9 1 v' (s.imgs.length + 1) ((s.imgs ++ [x]).map str)) : Rdr (V.setCell ⟨b, 3, none⟩ v') b ev v' av { s with imgs := s.imgs ++ [x] } n f := by
  have hm := grown_mod hg
  have hb := (hm.block _ (lt_of_block h.blk) (own_ne h.i h.blk (by decide))).trans h.blk
  refine ⟨by rw [heap_setCell_same _ _ _ _ _ v' hb]; rfl, ?_, ?_, ?_⟩
  · exact own_set (own_keep h.e hm (own_ne2 h.e h.i (by decide))) hb (by decide)
  · have := own_set (j := 3) (u := v') ho hb (by decide)
    simpa using this
  · exact own_set (own_keep h.a hm (own_ne2 h.a h.i (by decide))) hb (by decide)
theorem Rdr.appA {w V : World} {b : Nat} {ev iv av v' : Value} {s : Sc} {n : Int} {f : Bool} {x : Ac} (h : Rdr w b ev iv av s n f) (hg : w.grownBy V av.ownBlock) (ho : V.ownsRow 0 44 4 v' (s.acts.length + 1) ((s.acts ++ [x]).flatMap acC)) : Rdr (V.setCell ⟨b, 4, none⟩ v') b ev iv v' { s with acts := s.acts ++ [x] } n f := by
  have hm := grown_mod hg
  have hb := (hm.block _ (lt_of_block h.blk) (own_ne h.a h.blk (by decide))).trans h.blk
  refine ⟨by rw [heap_setCell_same _ _ _ _ _ v' hb]; rfl, ?_, ?_, ?_⟩
  · exact own_set (own_keep h.e hm (own_ne2 h.e h.a (by decide))) hb (by decide)
  · exact own_set (own_keep h.i hm (own_ne2 h.i h.a (by decide))) hb (by decide)
  · have := own_set (j := 4) (u := v') ho hb (by decide)
    simpa using this
theorem Rdr.n5 {w : World} {b : Nat} {ev iv av : Value} {s : Sc} {n : Int} {f : Bool} (h : Rdr w b ev iv av s n f) : w.cell? ⟨b, 5, none⟩ = some (.int .i64 n) := (rdr_cells h.blk).2.2.2.2.2.1
theorem Rdr.not_foot {w : World} {b k : Nat} {ev iv av : Value} {s : Sc} {n : Int} {f : Bool} {cs : Array Value} {T : TypeId} {fr : Nat × Nat} (h : Rdr w b ev iv av s n f) (hk : w.heap[k]? = some (.cells cs T fr)) (hT : T ≠ 72 ∧ T ≠ 22 ∧ T ≠ 9 ∧ T ≠ 44) : ¬ foot b ev iv av k := by
  rintro (rfl | e | e | e)
  · have := h.blk
    rw [hk] at this
    cases this
    exact hT.1 rfl
  · exact own_ne h.e hk hT.2.1 e
  · exact own_ne h.i hk hT.2.2.1 e
  · exact own_ne h.a hk hT.2.2.2 e
theorem Rdr.script {w : World} {b : Nat} {ev iv av : Value} {s : Sc} {n : Int} {f : Bool} (h : Rdr w b ev iv av s n f) : ∃ p : SA, ScR w p s ∧ ev = .slice p.ea s.exts.length p.ec ∧ iv = .slice p.ia s.imgs.length p.ic ∧ av = .slice p.aa s.acts.length p.ac := by
  obtain ⟨ea, ec, h1, r1⟩ := own_Rd (k := 1) (n := s.exts.length) (rows := s.exts.map fun x => [Value.int .u32 x]) (fun r hr => by obtain ⟨x, _, rfl⟩ := List.mem_map.1 hr; rfl) (by simp) (by rw [flat_one]; exact h.e)
  obtain ⟨ia, ic, h2, r2⟩ := own_Rd (k := 1) (n := s.imgs.length) (rows := s.imgs.map fun x => [str x]) (fun r hr => by obtain ⟨x, _, rfl⟩ := List.mem_map.1 hr; rfl) (by simp) (by rw [flat_one]; exact h.i)
  obtain ⟨aa, ac, h3, r3⟩ := own_Rd (k := 4) (n := s.acts.length) (rows := s.acts.map acC) (fun r hr => by obtain ⟨x, _, rfl⟩ := List.mem_map.1 hr; rfl) (by simp) (by rw [← List.flatMap_def]; exact h.a)
  exact ⟨⟨ea, ec, ia, ic, aa, ac⟩, ⟨r1, r2, r3⟩, h1, h2, h3⟩
theorem Rdr.scr {w : World} {b : Nat} {p : SA} {s : Sc} {n : Int} {f : Bool} (h : Rdr w b (.slice p.ea s.exts.length p.ec) (.slice p.ia s.imgs.length p.ic) (.slice p.aa s.acts.length p.ac) s n f) : ScR w p s := by
  obtain ⟨q, hs, e1, e2, e3⟩ := h.script
  obtain ⟨a1, a2, a3, a4, a5, a6⟩ := p
  obtain ⟨b1, b2, b3, b4, b5, b6⟩ := q
  simp only [Value.slice.injEq, true_and] at e1 e2 e3
  obtain ⟨rfl, rfl⟩ := e1
  obtain ⟨rfl, rfl⟩ := e2
  obtain ⟨rfl, rfl⟩ := e3
  exact hs
/-- What the document's told leaves. -/
def ToldP (t wd : Tx) (w : World) (e : Ending) (w' : World) : Prop :=
  Below w.heap.size w w' ∧ ∃ b ok, e = .returned (.tuple #[str b, .bool ok]) ∧ (ok = true ∧ (∃ y, wordsT t = some [wd, y] ∧ bytesT y = some b) ∨ ok = false ∧ ∀ y, wordsT t = some [wd, y] → bytesT y = none)
set_option maxHeartbeats 1000000 in
theorem told (t wd : Tx) (ht : t.length ≤ 65536) (w : World) : Calls Tryz.prog 48 #[str t, str wd] w (ToldP t wd w) := by
  have HNo := Lib.hid fun V b (hb : Below w.heap.size w V) (h : ∀ y, wordsT t = some [wd, y] → bytesT y = none) => (show ToldP t wd w (.returned (.tuple #[.string ⟨b.toArray⟩, .bool false])) V from ⟨hb, b, false, rfl, .inr ⟨rfl, h⟩⟩)
  have HYes := Lib.hid fun V b y (hb : Below w.heap.size w V) (h : wordsT t = some [wd, y]) (h2 : bytesT y = some b) => (show ToldP t wd w (.returned (.tuple #[.string ⟨b.toArray⟩, .bool true])) V from ⟨hb, b, true, rfl, .inl ⟨rfl, y, h, h2⟩⟩)
  generalize ToldP t wd w = PQ at *
  unfold str
  go_enter Tryz.func48, Tryz.ntmps48
  go_wp2_with fail
  refine (words t (by omega) _).mono ?_
  rintro e w1 ⟨hb, ⟨hn, rfl⟩ | ⟨l, g, c, hw, rfl, g0, g1, hlc, hrow⟩⟩
  · have HB := Lib.hid hb
    have HN := Lib.hid hn
    clear hb hn
    go_wp2
    exact HNo.out _ [] HB.out fun y hy => by rw [HN.out] at hy; cases hy
  · have HB := Lib.hid hb
    have HW := Lib.hid hw
    have HRow := Lib.hid hrow
    have HLen := Lib.hid (words_lens hw)
    have hlx : l.length ≤ 65537 := by have := HLen.out.2; omega
    clear hb hw hrow hlc
    by_cases hl2 : l.length = 2
    · obtain ⟨a, y, rfl⟩ : ∃ a y, l = [a, y] := by
        match l, hl2 with
        | [a, y], _ => exact ⟨a, y, rfl⟩
      have h0 := HRow.out 0 a rfl
      have h1 := HRow.out 1 y rfl
      have hyl : y.length ≤ 65536 := by have := HLen.out.1 y (by simp); omega
      unfold str at h0 h1
      clear hl2
      by_cases ha : a = wd
      · subst ha
        go_wp2_with fail
        refine (bytes y hyl _).mono ?_
        rintro e w2 ⟨hb, b, ok, rfl, hcase⟩
        have HB2 := Lib.hid (below_th HB.out hb)
        rcases hcase with ⟨rfl, h⟩ | ⟨rfl, h, rfl⟩
        · have HY := Lib.hid h
          clear hb h
          unfold str
          go_wp2
          exact HYes.out _ _ y HB2.out HW.out HY.out
        · have HY := Lib.hid h
          clear hb h
          unfold str
          go_wp2
          exact HNo.out _ [] HB2.out fun y' hy => by
            rw [HW.out] at hy
            cases hy
            exact HY.out
      · have hq : (a == wd) = false := beq_eq_false_iff_ne.2 ha
        have HA := Lib.hid ha
        clear ha
        go_wp2
        exact HNo.out _ [] HB.out fun y' hy => by
          rw [HW.out] at hy
          cases hy
          exact absurd rfl HA.out
    · have hq : ((l.length : Int) != 2) = true := by simp; omega
      have HL2 := Lib.hid hl2
      clear hl2
      go_wp2
      exact HNo.out _ [] HB.out fun y' hy => by
        rw [HW.out] at hy
        cases hy
        exact absurd rfl HL2.out
def mRelR (w : World) (b : Nat) (ev iv av : Value) (s : Sc) (n : Int) (f : Bool) (tl : List Tx) (vi : Value) (wr : World) : Prop :=
  ∃ (i : Nat) (st : Int × List Int) (ev' : Value), i ≤ tl.length ∧ vi = .int .i64 ((i + 1 : Nat) : Int) ∧ scanS (tl.take i) = some st ∧ Rdr wr b ev' iv av { s with pages := st.1, exts := st.2 } n f ∧ Mod (foot b ev iv av) w wr ∧ ∀ k, ev'.ownBlock = some k → ev.ownBlock = some k ∨ w.heap.size ≤ k
/-- What the document's machine leaves. -/
def MachR (w : World) (b : Nat) (ev iv av : Value) (s : Sc) (n : Int) (f : Bool) (t : Tx) (e : Ending) (w' : World) : Prop :=
  ∃ ok ev' s', e = .returned (.bool ok) ∧ Mod (foot b ev iv av) w w' ∧ Rdr w' b ev' iv av s' n f ∧ (∀ k, ev'.ownBlock = some k → ev.ownBlock = some k ∨ w.heap.size ≤ k) ∧
    (ok = true ∧ (∃ st, (wordsT t).bind machT = some st ∧ s' = { s with pages := st.1, exts := st.2 }) ∨ ok = false ∧ (wordsT t).bind machT = none)
theorem Sc.same0 {s : Sc} (h : s.pages = 0 ∧ s.exts = []) : ({ s with pages := 0, exts := [] } : Sc) = s := by
  obtain ⟨p, e, k, i, a⟩ := s
  obtain ⟨h1, h2⟩ := h
  simp only at h1 h2
  subst h1 h2
  rfl
set_option maxRecDepth 100000 in
set_option maxHeartbeats 4000000 in
theorem machine {w : World} {b : Nat} {ev iv av : Value} {s : Sc} {n : Int} {f : Bool} {t : Tx} (hr : Rdr w b ev iv av s n f) (hs : s.pages = 0 ∧ s.exts = []) (ht : t.length ≤ 65536) :
    Calls Tryz.prog 47 #[.pointer (some ⟨b, 0, none⟩), str t] w (MachR w b ev iv av s n f t) := by
  have HNo := Lib.hid fun V ev' s' (hm : Mod (foot b ev iv av) w V) (hR : Rdr V b ev' iv av s' n f) (hk : ∀ k, ev'.ownBlock = some k → ev.ownBlock = some k ∨ w.heap.size ≤ k) (h : (wordsT t).bind machT = none) => (show MachR w b ev iv av s n f t (.returned (.bool false)) V from ⟨false, ev', s', rfl, hm, hR, hk, .inr ⟨rfl, h⟩⟩)
  have HYes := Lib.hid fun V ev' st (hm : Mod (foot b ev iv av) w V) (hR : Rdr V b ev' iv av { s with pages := st.1, exts := st.2 } n f) (hk : ∀ k, ev'.ownBlock = some k → ev.ownBlock = some k ∨ w.heap.size ≤ k) (h : (wordsT t).bind machT = some st) => (show MachR w b ev iv av s n f t (.returned (.bool true)) V from ⟨true, ev', _, rfl, hm, hR, hk, .inl ⟨rfl, st, h, rfl⟩⟩)
  generalize MachR w b ev iv av s n f t = PQ at *
  have HR := Lib.hid hr
  have HS := Lib.hid (Sc.same0 hs)
  clear hr
  unfold str
  go_enter Tryz.func47, Tryz.ntmps47
  go_wp2_with fail
  refine (words t (by omega) _).mono ?_
  rintro e w1 ⟨hb, ⟨hn, rfl⟩ | ⟨l, g, c, hw, rfl, g0, g1, hlc, hrow⟩⟩
  · have HM1 := Lib.hid (Mod.of_below hb (foot b ev iv av))
    have HR1 := Lib.hid (HR.out.below hb)
    have HN : Hid ((wordsT t).bind machT = none) := Lib.hid (by rw [hn]; rfl)
    clear hb hn
    go_wp2
    exact HNo.out _ _ _ HM1.out HR1.out (fun k hk => .inl hk) HN.out
  · have HM1 := Lib.hid (Mod.of_below hb (foot b ev iv av))
    have HR1 := Lib.hid (HR.out.below hb)
    have HW : Hid ((wordsT t).bind machT = machT l) := Lib.hid (by rw [hw]; rfl)
    have HRow := Lib.hid hrow
    have HLen := Lib.hid (words_lens hw)
    have hne := words_ne hw
    have HG : Hid (¬ foot b ev iv av g) := Lib.hid fun h => by have := HR.out.foot_lt g h; omega
    have hsz1 := hb.size
    clear hb hw hrow hlc
    obtain ⟨x, r, rfl⟩ : ∃ x r, l = x :: r := by cases l with | nil => exact absurd rfl hne | cons x r => exact ⟨x, r, rfl⟩
    have hlx : r.length ≤ 65536 := by have := HLen.out.2; simp at this; omega
    have h0 := HRow.out 0 x rfl
    unfold str at h0
    have hln : (x :: r).length = r.length + 1 := rfl
    rw [hln]
    clear hne hln
    by_cases hok : x = machW ∧ r ≠ []
    · obtain ⟨hxm, hrn⟩ := hok
      have hrl : 1 ≤ r.length := by cases r; exact absurd rfl hrn; simp
      have hq : (x == [109, 97, 99, 104, 105, 110, 101]) = true := by rw [hxm]; rfl
      have hq2 : decide ((r.length : Int) + 1 < 2) = false := decide_eq_false (by omega)
      have HMr : Hid ((wordsT t).bind machT = (scanS r).bind fun st => if hardOk st.1 st.2 then some st else none) := Lib.hid (HW.out.trans (if_pos ⟨hxm, hrn⟩))
      have HRel0 : Hid (mRelR w1 b ev iv av s n f r (.int .i64 1) w1) := Lib.hid ⟨0, (0, []), ev, by omega, rfl, rfl, by rw [HS.out]; exact HR1.out, Mod.refl _ _, fun k hk => .inl hk⟩
      clear hxm hrn HW
      go_wp2
      go_loopw [7] (fun vi wr => mRelR w1 b ev iv av s n f r vi wr) (fun vi _ => r.length + 1 - (RowKit.intOf vi).toNat)
      case atStart => exact HRel0.out
      case round =>
        clear HRel0
        obtain ⟨i, st, ev', hi, rfl, hsc, hrd, hmo, hfo⟩ := hrel
        have HSc := Lib.hid hsc
        have HRd := Lib.hid hrd
        have HMo := Lib.hid hmo
        have HFo := Lib.hid hfo
        clear hsc hrd hmo hfo
        by_cases hin : i < r.length
        · have HX : Hid (r[i]? = some r[i]) := Lib.hid (List.getElem?_eq_getElem hin)
          generalize r[i] = y at *
          have hc : wr.cell? ⟨g, i + 1, none⟩ = some (.string ⟨y.toArray⟩) := by
            have h1 := HRow.out (i + 1) y (by rw [List.getElem?_cons_succ]; exact HX.out)
            unfold World.cell? at h1 ⊢
            rw [HMo.out.block g g1 HG.out]
            exact h1
          have hyl : y.length ≤ 1048576 := by have := HLen.out.1 y (List.mem_cons_of_mem _ (List.mem_of_getElem? HX.out)); omega
          have HBad : numU y = none → Hid ((wordsT t).bind machT = none) := fun hu => Lib.hid (by rw [HMr.out, scan_bad i y HX.out (fun _ _ => hu)]; rfl)
          have hlt : ((i + 1 : Nat) : Int) < (r.length : Int) + 1 := by omega
          go_wp2_with fail
          refine (numb y hyl _).mono ?_
          rintro e w2 ⟨⟨v, bb, rfl, hnu⟩, hb⟩
          have HRd2 := Lib.hid (HRd.out.below hb)
          have HMo2 := Lib.hid (HMo.out.trans (Mod.of_below hb (foot b ev iv av)) fun _ _ g => .inl g)
          have HFo2 := Lib.hid fun k hk => (HFo.out k hk).imp id fun h => Nat.le_trans hsz1 h
          have HMz := Lib.hid (HM1.out.trans HMo2.out fun _ _ g => .inl g)
          obtain ⟨v0, v1, hnu⟩ := hnu
          clear hb
          rcases hnu with ⟨rfl, hnu⟩ | ⟨rfl, hnu⟩
          · by_cases hv : 0 ≤ v ∧ v ≤ 1048576
            · have HU : Hid (numU y = some v) := Lib.hid (by unfold numU; rw [hnu]; exact if_pos hv)
              obtain ⟨u0, u1⟩ := hv
              clear hnu
              obtain ⟨c0, c1, c2, c3, c4, c5, c6, cf⟩ := rdr_cells HRd2.out.blk
              simp only at c0 c1
              cases i with
              | zero =>
                have hst : st = (0, []) := by have := HSc.out; simp [scanS] at this; exact this.symm
                subst hst
                have HN := Lib.hid (HRd2.out.set (s' := { s with pages := v, exts := [] }) (n' := n) (f' := f) 0 (.int .u32 v) rfl rfl rfl rfl)
                go_wp2
                refine ⟨⟨1, (v, []), ev', by omega, by go_num, ?_, HN.out, HMo2.out.setCell ⟨b, 0, none⟩ (.inl (.inl rfl)) _, HFo.out⟩, by simp [RowKit.intOf]; omega⟩
                rw [List.take_add_one, HX.out]
                show scanS ([] ++ [y]) = some (v, [])
                rw [scan_snoc, show scanS [] = some (0, []) from rfl, HU.out]
                rfl
              | succ i =>
                have hi0 : (((i + 1 + 1 : Nat) : Int) == 1) = false := beq_eq_false_iff_ne.2 (by omega)
                obtain ⟨i0, hi1, hz0, hz1, hz2⟩ := info_parts info_u32
                have Hi1 := Lib.hid hi1
                have Hz0 := Lib.hid hz0
                have Hz1 := Lib.hid hz1
                have Hz2 := Lib.hid hz2
                have hle : st.2.length ≤ 2000000 := by
                  have := (scan_bd HSc.out).2.2.1
                  rw [List.length_take] at this
                  omega
                have hz3 := lt_of_block HRd2.out.blk
                clear hi1 hz0 hz1 hz2
                go_wp2_with (at_builtin; refine wpList_append_lies _ (by rfl) _ _ _ (by rfl) 0 22 i0 (.int .u32 0) 1 4 Tryz.underlying23 Hi1.out Hz0.out Hz1.out Hz2.out rfl (by omega) ev' st.2.length (st.2.map (Value.int .u32)) (by rfl) (World.ownsRow.alloc HRd2.out.e _) ⟨w2.heap.size, 0, none⟩ 1 1 [.int .u32 v] (by rfl) (by rfl) (World.news_of_block (heap_alloc_new w2 _)) (fun x hx => by simp at hx; subst hx; rfl) (by omega) (by unfold maxLen; omega) (by omega) (Nat.zero_le _) _ rfl ?_; intro g4 cap w6 hown hgro hat hlt; have HOwn := Lib.hid hown; have HGro := Lib.hid hgro; have HAt := Lib.hid hat; have hb6 := ((grown_mod hgro).block _ (Nat.lt_of_lt_of_le hz3 (by simp)) (own_ne HRd2.out.e HRd2.out.blk (by decide))).trans ((Below.heap_alloc w2 _ _ hz3).trans HRd2.out.blk); obtain ⟨e0, e1, e2, e3, e4, e5, e6, ef⟩ := rdr_cells hb6; have hz6 := lt_of_block hb6; clear hown hgro hat hb6)
                have hR4 := (HRd2.out.below ((Below.refl w2.heap.size w2).alloc (Nat.le_refl _) (.cells #[.int .u32 v] 22))).appE (x := v) HGro.out (by rw [List.map_append]; exact HOwn.out)
                have hM4 : Mod (foot b ev iv av) w1 w6 := (HMo2.out.alloc (.cells #[.int .u32 v] 22)).trans (grown_mod HGro.out) fun k _ hk => (HFo.out k hk).imp (fun e => .inr (.inl e)) id
                refine ⟨⟨i + 1 + 1, (st.1, st.2 ++ [v]), _, by omega, by go_num, ?_, hR4, hM4.setCell ⟨b, 1, none⟩ (.inl (.inl rfl)) _, fun k hk => ?_⟩, by simp [RowKit.intOf]; omega⟩
                · rw [List.take_add_one, HX.out]
                  show scanS (r.take (i + 1) ++ [y]) = _
                  rw [scan_snoc, HSc.out, HU.out]
                  have : r.take (i + 1) ≠ [] := by
                    intro e
                    have := congrArg List.length e
                    rw [List.length_take, Nat.min_eq_left (by omega)] at this
                    simp at this
                  simp [this]
                · simp only [Value.ownBlock, Option.some.injEq] at hk
                  subst hk
                  rcases HAt.out with e | e
                  · exact HFo.out _ e
                  · have h1 := HMo2.out.size
                    have h2 : (w2.alloc (.cells #[.int .u32 v] 22)).heap.size = w2.heap.size + 1 := by simp
                    exact .inr (by omega)
            · have HV := HBad (by unfold numU; rw [hnu]; exact if_neg hv)
              clear hnu
              by_cases u0 : v < 0
              · go_wp2
                exact HNo.out _ _ _ HMz.out HRd2.out HFo2.out HV.out
              · have u1 : (1048576 : Int) < v := by omega
                go_wp2
                exact HNo.out _ _ _ HMz.out HRd2.out HFo2.out HV.out
          · have HV := HBad (by unfold numU; rw [hnu]; rfl)
            clear hnu
            go_wp2
            exact HNo.out _ _ _ HMz.out HRd2.out HFo2.out HV.out
        · obtain rfl : i = r.length := by omega
          have hik : ¬ (((r.length + 1 : Nat) : Int) < (r.length : Int) + 1) := by omega
          rw [List.take_of_length_le (Nat.le_refl _)] at HSc
          obtain ⟨b0, b1, bl, bx⟩ := scan_bd HSc.out
          have hown := HRd.out.e
          obtain ⟨c0, c1, c2, c3, c4, c5, c6, cf⟩ := rdr_cells HRd.out.blk
          simp only at hown c0 c1
          obtain ⟨ea, ec, rfl, hrd⟩ := own_RdU hown
          have HCk := Lib.hid (may (cap := ec) (hp := st.1) hrd (by omega) (fun y hy => by have := bx y hy; omega) b0)
          have HMs : Hid ((wordsT t).bind machT = if hardOk st.1 st.2 then some st else none) := Lib.hid (by rw [HMr.out, HSc.out]; rfl)
          have HFo2 := Lib.hid fun k hk => (HFo.out k hk).imp id fun h => Nat.le_trans hsz1 h
          clear hown hrd
          unfold MayP at HCk
          cases hh : hardOk st.1 st.2 with
          | true =>
            have HV : Hid ((wordsT t).bind machT = some st) := Lib.hid (by rw [HMs.out, hh]; rfl)
            rw [hh] at HCk
            clear hh
            go_wp2_with fail
            refine HCk.out.mono ?_
            rintro e w2 ⟨rfl, hb⟩
            have HB := Lib.hid hb
            clear hb
            go_wp2
            exact HYes.out _ _ _ ((HM1.out.trans HMo.out fun _ _ g => .inl g).trans (Mod.of_below HB.out (foot b ev iv av)) fun _ _ g => .inl g) (HRd.out.below HB.out) HFo2.out HV.out
          | false =>
            have HV : Hid ((wordsT t).bind machT = none) := Lib.hid (by rw [HMs.out, hh]; rfl)
            rw [hh] at HCk
            clear hh
            go_wp2_with fail
            refine HCk.out.mono ?_
            rintro e w2 ⟨rfl, hb⟩
            have HB := Lib.hid hb
            clear hb
            go_wp2
            exact HNo.out _ _ _ ((HM1.out.trans HMo.out fun _ _ g => .inl g).trans (Mod.of_below HB.out (foot b ev iv av)) fun _ _ g => .inl g) (HRd.out.below HB.out) HFo2.out HV.out
    · have HV : Hid ((wordsT t).bind machT = none) := Lib.hid (HW.out.trans (if_neg hok))
      by_cases hrn : r.length = 0
      · have hq2 : (r.length : Int) + 1 < 2 := by omega
        clear hok hrn
        go_wp2
        exact HNo.out _ _ _ HM1.out HR1.out (fun k hk => .inl hk) HV.out
      · have hq2 : decide ((r.length : Int) + 1 < 2) = false := decide_eq_false (by omega)
        have hq : (x == [109, 97, 99, 104, 105, 110, 101]) = false := beq_eq_false_iff_ne.2 fun e => hok ⟨e, fun e => hrn (by rw [e]; rfl)⟩
        clear hok hrn
        go_wp2
        exact HNo.out _ _ _ HM1.out HR1.out (fun k hk => .inl hk) HV.out
end R32
end Go.Proofs.YtohlgcdailconaaGreatDoor.Scr
