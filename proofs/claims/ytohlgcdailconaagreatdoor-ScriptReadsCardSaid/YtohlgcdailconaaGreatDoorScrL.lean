/- script's reader: the walk of line. -/
import Derived.Test.YtohlgcdailconaaGreatDoorScrM
import Derived.Test.YtohlgcdailconaaGreatDoorScrP
import Derived.Deep.RegionWith
import Derived.Deep.DeepCutAuto
import Derived.Test.YtohlgcdailconaaGreatDoorRegF
namespace Go.Proofs.YtohlgcdailconaaGreatDoor.Scr
open Go.RowKit Lib
set_option linter.unusedVariables false
set_option linter.unusedSimpArgs false
section
variable {P : Program} {Q : Exit → Act → World → Prop} {md : Region.Mode} {S : World → Prop} {last : Nat}
theorem L_take {l : List Oper} {i : Nat} {oi : Oper} {v : Value} {fuel : Nat} {listed : Array Bool} {a : Act} {w : World} (hi : l[i]? = some oi) (hwt : waitsFor md l.toArray last i = true)
    (hs : Region.noSelect l.toArray = true) (hf : Region.free md l.toArray listed i = true) (hr : (Region.ready md l.toArray listed).contains i = true)
    (hQ : ∀ c a w, Q (.panic c) (a.put oi.dst v) w → Q (.panic c) a w) (hy : YieldsIf P l.toArray S oi v a) (hS : S w)
    (h : AnyE P md l.toArray Q S last fuel (listed.setIfInBounds i true) (a.put oi.dst v) w) : AnyE P md l.toArray Q S last (fuel + 1) listed a w :=
  E_take (by rw [List.getElem?_toArray]; exact hi) hwt hs hf hr hQ hy hS h
theorem L_step {l : List Oper} {i : Nat} {o : Oper} {fuel : Nat} {listed : Array Bool} {a : Act} {w : World} (hr : Region.ready md l.toArray listed = [i]) (ho : l[i]? = some o)
    (h : ∀ K' : Act → World → Prop, Shut (∀ a w, (i ≠ last → S w) → ((i ≠ last → S w) → AnyE P md l.toArray Q S last fuel (listed.setIfInBounds i true) a w) → K' a w) → if Region.wanted o (yielded l.toArray a.tmps) = true then Oper.wp P o a w K' Q else K' (a.put o.dst undef) w) :
    AnyE P md l.toArray Q S last (fuel + 1) listed a w :=
  E_step hr (by rw [List.getElem?_toArray]; exact ho) h
end
section
variable {P : Program} {ops : Array Oper} {Q : Exit → Act → World → Prop} {md : Region.Mode} {S T : World → Prop}
/-- A stronger condition may be asked from here on. -/
theorem H_mono (h : ∀ w, T w → S w) : ∀ (fuel : Nat) (listed : Array Bool) (a : Act) (w : World), wpAnyH P md ops Q T fuel listed a w → wpAnyH P md ops Q S fuel listed a w
  | 0, _, _, _, g => g
  | fuel + 1, _, _, _, g => ⟨g.1, fun i hi => wpOp_mono (fun a' w' q => ⟨h w' q.1, H_mono h fuel _ a' w' q.2⟩) (g.2 i hi)⟩
/-- One alone may come up. -/
theorem H_one {l : List Oper} {i : Nat} {o : Oper} {fuel : Nat} {listed : Array Bool} {a : Act} {w : World} (hr : Region.ready md l.toArray listed = [i]) (ho : l[i]? = some o)
    (h : ∀ K' : Act → World → Prop, Shut (∀ a w, S w → (S w → wpAnyH P md l.toArray Q S fuel (listed.setIfInBounds i true) a w) → K' a w) → if Region.wanted o (yielded l.toArray a.tmps) = true then Oper.wp P o a w K' Q else K' (a.put o.dst undef) w) :
    wpAnyH P md l.toArray Q S (fuel + 1) listed a w :=
  wpAnyH_ready hr (by simp) (AllReadyH.cons (by rw [List.getElem?_toArray]; exact ho) h AllReadyH.nil)
theorem H_two {l : List Oper} {i j : Nat} {o o' : Oper} {fuel : Nat} {listed : Array Bool} {a : Act} {w : World} (hr : Region.ready md l.toArray listed = [i, j]) (ho : l[i]? = some o) (ho' : l[j]? = some o')
    (h : ∀ K' : Act → World → Prop, Shut (∀ a w, S w → (S w → wpAnyH P md l.toArray Q S fuel (listed.setIfInBounds i true) a w) → K' a w) → if Region.wanted o (yielded l.toArray a.tmps) = true then Oper.wp P o a w K' Q else K' (a.put o.dst undef) w)
    (h' : ∀ K' : Act → World → Prop, Shut (∀ a w, S w → (S w → wpAnyH P md l.toArray Q S fuel (listed.setIfInBounds j true) a w) → K' a w) → if Region.wanted o' (yielded l.toArray a.tmps) = true then Oper.wp P o' a w K' Q else K' (a.put o'.dst undef) w) :
    wpAnyH P md l.toArray Q S (fuel + 1) listed a w :=
  wpAnyH_ready hr (by simp) (AllReadyH.cons (by rw [List.getElem?_toArray]; exact ho) h (AllReadyH.cons (by rw [List.getElem?_toArray]; exact ho') h' AllReadyH.nil))
theorem H_take {l : List Oper} {i : Nat} {oi : Oper} {v : Value} {fuel : Nat} {listed : Array Bool} {a : Act} {w : World} (hi : l[i]? = some oi)
    (hs : Region.noSelect l.toArray = true) (hf : Region.free md l.toArray listed i = true) (hr : (Region.ready md l.toArray listed).contains i = true)
    (hQ : ∀ c a w, Q (.panic c) (a.put oi.dst v) w → Q (.panic c) a w) (hy : YieldsIf P l.toArray S oi v a) (hS : S w)
    (h : wpAnyH P md l.toArray Q S fuel (listed.setIfInBounds i true) (a.put oi.dst v) w) : wpAnyH P md l.toArray Q S (fuel + 1) listed a w :=
  wpAnyH_take (by rw [List.getElem?_toArray]; exact hi) hs hf hr hQ hy hS h
end
theorem info_act : (Tryz.prog.info? 44).map (fun i => (i.zero, i.size, i.bytes)) = some (some (.agg #[.int .u8 0, .int .i64 0, .int .i64 0, .string ByteArray.empty]), 4, 40) := by kernel_rfl
def keyW : Tx := [107, 101, 121]
def imgW : Tx := [105, 109, 97, 103, 101]
def imgO (s : Sc) (f : Bool) (r : List Tx) : Option (Sc × Bool) := match r with | [y] => (bytesT y).map fun b => ({ s with imgs := s.imgs ++ [b] }, f) | _ => none
/-- One more line. -/
def lineW (s : Sc) (n : Int) (f : Bool) (l : List Tx) : Option (Sc × Bool) :=
  if n = 0 then (machT l).map fun st => ({ s with pages := st.1, exts := st.2 }, f)
  else if n = 1 then match l with | [k, y] => if k = keyW then (bytesT y).map fun b => ({ s with key := b }, f) else none | _ => none
  else match l with
    | [] => none
    | x :: r => if x = imgW then if f = false ∧ s.imgs.length < 16 then imgO s f r else none
      else (readA (x :: r)).map fun a => ({ s with acts := s.acts ++ [a] }, true)
def lineT (s : Sc) (n : Int) (f : Bool) (t : Tx) : Option (Sc × Bool) := (wordsT t).bind (lineW s n f)
def LineP (w : World) (b : Nat) (ev iv av : Value) (s : Sc) (n : Int) (f : Bool) (t : Tx) (e : Ending) (w' : World) : Prop :=
  Mod (foot b ev iv av) w w' ∧ match lineT s n f t with
    | some st => e = .returned (.tuple #[]) ∧ ∃ ev' iv' av', Rdr w' b ev' iv' av' st.1 n st.2 ∧ ∀ k, foot b ev' iv' av' k → foot b ev iv av k ∨ w.heap.size ≤ k
    | none => e = bad ∧ w'.cell? ⟨b, 5, none⟩ = some (.int .i64 n)
theorem LineP.yes {w w' : World} {b : Nat} {ev iv av ev' iv' av' : Value} {s s' : Sc} {n : Int} {f f' : Bool} {t : Tx} (h : lineT s n f t = some (s', f')) (hm : Mod (foot b ev iv av) w w') (hr : Rdr w' b ev' iv' av' s' n f') (hf : ∀ k, foot b ev' iv' av' k → foot b ev iv av k ∨ w.heap.size ≤ k) : LineP w b ev iv av s n f t (.returned (.tuple #[])) w' :=
  ⟨hm, by rw [h]; exact ⟨rfl, ev', iv', av', hr, hf⟩⟩
theorem LineP.no {w w' : World} {b : Nat} {ev iv av : Value} {s : Sc} {n : Int} {f : Bool} {t : Tx} (h : lineT s n f t = none) (hm : Mod (foot b ev iv av) w w') (h5 : w'.cell? ⟨b, 5, none⟩ = some (.int .i64 n)) : LineP w b ev iv av s n f t bad w' :=
  ⟨hm, by rw [h]; exact ⟨rfl, h5⟩⟩
set_option maxRecDepth 100000 in
theorem line_none {w : World} {b : Nat} {ev iv av : Value} {s : Sc} {n : Int} {f : Bool} {t : Tx} (h : Laid w) (hr : Rdr w b ev iv av s n f) (ht : t.length ≤ 1048576) (hw : wordsT t = none) :
    Calls Tryz.prog 32 #[.pointer (some ⟨b, 0, none⟩), str t] w (LineP w b ev iv av s n f t) := by
  have HNo := Lib.hid fun V => LineP.no (w := w) (w' := V) (b := b) (ev := ev) (iv := iv) (av := av) (s := s) (n := n) (f := f) (t := t) (by unfold lineT; rw [hw]; rfl)
  have HW := Lib.hid (words t ht h)
  have HR := Lib.hid hr
  have HWn := Lib.hid hw
  generalize LineP w b ev iv av s n f t = PQ at *
  clear h hr hw
  unfold str at *
  go_enter Tryz.func32, Tryz.ntmps32
  go_wp2_with fail
  refine HW.out.mono ?_
  rintro e w1 ⟨hb, hm⟩
  rw [HWn.out] at hm
  have hm : e = bad := hm
  subst hm
  exact ⟨rfl, HNo.out _ (Mod.of_below hb _) (HR.out.below hb).n5⟩
set_option maxRecDepth 100000 in
set_option maxHeartbeats 2000000 in
theorem line_0 {w : World} {b : Nat} {ev iv av : Value} {s : Sc} {f : Bool} {t : Tx} {l : List Tx} (h : Laid w) (hr : Rdr w b ev iv av s 0 f) (h100 : ∀ k, foot b ev iv av k → 8 ≤ k) (hs : s.pages = 0 ∧ s.exts = []) (ht : t.length ≤ 1048576) (hw : wordsT t = some l) :
    Calls Tryz.prog 32 #[.pointer (some ⟨b, 0, none⟩), str t] w (LineP w b ev iv av s 0 f t) := by
  have HYes := Lib.hid fun V s' f' ev' iv' av' => LineP.yes (w := w) (w' := V) (b := b) (ev := ev) (iv := iv) (av := av) (ev' := ev') (iv' := iv') (av' := av') (s := s) (s' := s') (n := 0) (f := f) (f' := f') (t := t)
  have HNo := Lib.hid fun V => LineP.no (w := w) (w' := V) (b := b) (ev := ev) (iv := iv) (av := av) (s := s) (n := 0) (f := f) (t := t)
  have HLt : Hid (lineT s 0 f t = (machT l).map fun st => ({ s with pages := st.1, exts := st.2 }, f)) := Lib.hid (by unfold lineT; rw [hw]; rfl)
  have HW := Lib.hid (words t ht h)
  have HR := Lib.hid hr
  have HWn := Lib.hid hw
  have H := Lib.hid h
  have H100 := Lib.hid h100
  obtain ⟨hl1, hl2⟩ := words_lens hw
  generalize LineP w b ev iv av s 0 f t = PQ at *
  clear h hr hw h100
  unfold str at *
  go_enter Tryz.func32, Tryz.ntmps32
  go_wp2_with fail
  refine HW.out.mono ?_
  rintro e w1 ⟨hb, hm⟩
  rw [HWn.out] at hm
  obtain ⟨hne, wb, rfl, hrow, hwb⟩ := hm
  have hr1 := HR.out.below hb
  obtain ⟨c0, c1, c2, c3, c4, c5, c6, cf⟩ := rdr_cells hr1.blk
  obtain ⟨x, r, rfl⟩ : ∃ x r, l = x :: r := by
    match l, hne with
    | x :: r, _ => exact ⟨x, r, rfl⟩
  have HMc := Lib.hid (machine (H.out.step hb) hr1 hs H100.out hrow (fun hf => by have := HR.out.foot_lt _ hf; omega) (fun y hy => Nat.le_trans (hl1 y hy) ht) (by simp at hl2; omega))
  have HMo := Lib.hid (Mod.of_below hb (foot b ev iv av))
  have hsz := hb.size
  clear hr1 hrow hb hne hl1
  go_wp2_with fail
  refine HMc.out.mono ?_
  rintro e w2 ⟨hm, hp⟩
  have HM2 := Lib.hid (HMo.out.trans hm fun _ _ g => .inl g)
  clear hm
  cases hmt : machT (x :: r) with
  | none =>
    rw [hmt] at hp
    obtain ⟨rfl, h5⟩ := hp
    exact ⟨rfl, HNo.out _ (HLt.out.trans (by rw [hmt]; rfl)) HM2.out h5⟩
  | some st =>
    rw [hmt] at hp
    obtain ⟨rfl, ev', hrd, hfo⟩ := hp
    have HV := Lib.hid (HLt.out.trans (by rw [hmt]; rfl : _ = some ({ s with pages := st.1, exts := st.2 }, f)))
    have HRd := Lib.hid hrd
    have HFo := Lib.hid hfo
    clear hmt hrd hfo
    go_wp2
    go_end0
    refine HYes.out _ _ _ _ _ _ HV.out HM2.out HRd.out fun k hk => ?_
    rcases hk with hk | hk | hk
    · exact .inl (.inl hk)
    · rcases HFo.out k hk with g | g
      · exact .inl (.inr (.inl g))
      · exact .inr (by omega)
    · exact .inl (.inr (.inr hk))
set_option maxRecDepth 100000 in
set_option maxHeartbeats 2000000 in
theorem line_1 {w : World} {b : Nat} {ev iv av : Value} {s : Sc} {f : Bool} {t : Tx} {l : List Tx} (h : Laid w) (hr : Rdr w b ev iv av s 1 f) (ht : t.length ≤ 1048576) (hw : wordsT t = some l) :
    Calls Tryz.prog 32 #[.pointer (some ⟨b, 0, none⟩), str t] w (LineP w b ev iv av s 1 f t) := by
  have HYes := Lib.hid fun V s' f' ev' iv' av' => LineP.yes (w := w) (w' := V) (b := b) (ev := ev) (iv := iv) (av := av) (ev' := ev') (iv' := iv') (av' := av') (s := s) (s' := s') (n := 1) (f := f) (f' := f') (t := t)
  have HNo := Lib.hid fun V => LineP.no (w := w) (w' := V) (b := b) (ev := ev) (iv := iv) (av := av) (s := s) (n := 1) (f := f) (t := t)
  have HLt : Hid (lineT s 1 f t = lineW s 1 f l) := Lib.hid (by unfold lineT; rw [hw]; rfl)
  have HW := Lib.hid (words t ht h)
  have HR := Lib.hid hr
  have HWn := Lib.hid hw
  obtain ⟨hl1, hl2⟩ := words_lens hw
  generalize LineP w b ev iv av s 1 f t = PQ at *
  clear h hr hw
  unfold str at *
  go_enter Tryz.func32, Tryz.ntmps32
  go_wp2_with fail
  refine HW.out.mono ?_
  rintro e w1 ⟨hb, hm⟩
  rw [HWn.out] at hm
  obtain ⟨hne, wb, rfl, hrow, hwb⟩ := hm
  have HR1 := Lib.hid (HR.out.below hb)
  have HRow := Lib.hid hrow
  have HMo := Lib.hid (Mod.of_below hb (foot b ev iv av))
  obtain ⟨c0, c1, c2, c3, c4, c5, c6, cf⟩ := rdr_cells HR1.out.blk
  obtain ⟨x, r, rfl⟩ : ∃ x r, l = x :: r := by
    match l, hne with
    | x :: r, _ => exact ⟨x, r, rfl⟩
  have hx0 : w1.cell? ⟨wb, 0, none⟩ = some (.string ⟨x.toArray⟩) := hrow.cell rfl
  have hzw := lt_of_block hrow
  have hzr := lt_of_block HR1.out.blk
  have hfr : ¬ foot b ev iv av wb := fun hf => by have := HR.out.foot_lt _ hf; omega
  have HFr := Lib.hid hfr
  have hxe : (x == keyW) = decide (x = keyW) := by
    by_cases e : x = keyW
    · rw [decide_eq_true e]; exact beq_iff_eq.2 e
    · rw [decide_eq_false e]; exact beq_eq_false_iff_ne.2 e
  clear hb hrow hne hfr HW
  by_cases hok : x = keyW ∧ r.length = 1
  · obtain ⟨hxk, hrl⟩ := hok
    obtain ⟨y, rfl⟩ : ∃ y, r = [y] := by
      match r, hrl with
      | [y], _ => exact ⟨y, rfl⟩
    have HLy : Hid (lineT s 1 f t = (bytesT y).map fun b => ({ s with key := b }, f)) := Lib.hid (HLt.out.trans (by unfold lineW; rw [if_neg (by decide), if_pos rfl]; exact if_pos hxk))
    have hy1 : w1.cell? ⟨wb, 1, none⟩ = some (.string ⟨y.toArray⟩) := HRow.out.cell rfl
    have hxb : (x == [107, 101, 121]) = true := hxe.trans (decide_eq_true hxk)
    have HBy : Hid (∀ V, Calls Tryz.prog 45 #[.string ⟨y.toArray⟩] V (Got str (bytesT y) V)) := Lib.hid fun V => bytes y (Nat.le_trans (hl1 y (by simp)) ht) V
    clear hxe hxk hl1
    simp only [List.length_cons, List.length_nil, Nat.zero_add, Nat.reduceAdd] at *
    go_wp2_with fail
    refine (ny2 w1 rfl).mono ?_
    rintro e w2 ⟨rfl, rfl⟩
    have HA := Lib.hid ((Below.refl w1.heap.size w1).alloc (Nat.le_refl _) (.cells #[.bool true, .bool true] 4))
    go_wp2_with fail
    refine (HBy.out _).mono ?_
    rintro e w3 ⟨he, hb⟩
    have HB3 := Lib.hid (below_th HA.out hb)
    have HR3 := Lib.hid (HR1.out.below HB3.out)
    have HM3 := Lib.hid (HMo.out.trans (Mod.of_below HB3.out (foot b ev iv av)) fun _ _ g => .inl g)
    clear hb
    cases hbt : bytesT y with
    | none =>
      rw [hbt] at he
      subst he
      exact ⟨rfl, HNo.out _ (HLy.out.trans (by rw [hbt]; rfl)) HM3.out HR3.out.n5⟩
    | some k =>
      rw [hbt] at he
      subst he
      have HV := Lib.hid (HLy.out.trans (by rw [hbt]; rfl : _ = some ({ s with key := k }, f)))
      obtain ⟨c0, c1, c2, c3, c4, c5, c6, cf⟩ := rdr_cells HR3.out.blk
      have hz3 := lt_of_block HR3.out.blk
      have HN := Lib.hid (HR3.out.set (s' := { s with key := k }) (n' := 1) (f' := f) 2 (str k) rfl rfl rfl rfl)
      clear hbt
      unfold str at HN ⊢
      go_wp2
      go_end0
      exact HYes.out _ _ _ _ _ _ HV.out (HM3.out.setCell ⟨b, 2, none⟩ (.inl (.inl rfl)) _) HN.out fun k hk => .inl hk
  · have HV : Hid (lineT s 1 f t = none) := Lib.hid (HLt.out.trans (by
      unfold lineW
      rw [if_neg (by decide), if_pos rfl]
      match r, hok with
      | [], _ => rfl
      | [y], h => exact if_neg fun e => h ⟨e, rfl⟩
      | _ :: _ :: _, _ => rfl))
    have hbf : ((((r.length : Int) + 1) == 2) && (x == [107, 101, 121])) = false := by
      rw [Bool.and_eq_false_iff]
      by_cases hxm : x = keyW
      · left
        exact beq_eq_false_iff_ne.2 fun e => hok ⟨hxm, by omega⟩
      · right
        exact hxe.trans (decide_eq_false hxm)
    have HBf := Lib.hid hbf
    clear hbf hxe hok
    simp only [List.length_cons] at *
    go_wp2_with fail
    refine (nn2 w1 HBf.out).mono ?_
    rintro e w2 ⟨rfl, rfl⟩
    have hA := (Below.refl w1.heap.size w1).alloc (Nat.le_refl _) (.cells #[.bool (((r.length : Int) + 1) == 2), .bool (x == [107, 101, 121])] 4)
    exact ⟨rfl, HNo.out _ HV.out (HMo.out.trans (Mod.of_below hA (foot b ev iv av)) fun _ _ g => .inl g) (HR1.out.below hA).n5⟩
set_option maxRecDepth 100000 in
set_option maxHeartbeats 2000000 in
theorem line_img {w : World} {b : Nat} {ev iv av : Value} {s : Sc} {n : Int} {f : Bool} {t x : Tx} {r : List Tx} (h : Laid w) (hr : Rdr w b ev iv av s n f) (ht : t.length ≤ 1048576) (hw : wordsT t = some (x :: r)) (hn0 : n ≠ 0) (hn1 : n ≠ 1) (hxi : x = imgW) :
    Calls Tryz.prog 32 #[.pointer (some ⟨b, 0, none⟩), str t] w (LineP w b ev iv av s n f t) := by
  have HYes := Lib.hid fun V s' f' ev' iv' av' => LineP.yes (w := w) (w' := V) (b := b) (ev := ev) (iv := iv) (av := av) (ev' := ev') (iv' := iv') (av' := av') (s := s) (s' := s') (n := n) (f := f) (f' := f') (t := t)
  have HNo := Lib.hid fun V => LineP.no (w := w) (w' := V) (b := b) (ev := ev) (iv := iv) (av := av) (s := s) (n := n) (f := f) (t := t)
  have HLt : Hid (lineT s n f t = lineW s n f (x :: r)) := Lib.hid (by unfold lineT; rw [hw]; rfl)
  have HW := Lib.hid (words t ht h)
  have HR := Lib.hid hr
  have HWn := Lib.hid hw
  obtain ⟨hl1, hl2⟩ := words_lens hw
  generalize LineP w b ev iv av s n f t = PQ at *
  clear h hr hw
  have hnb0 : (n == 0) = false := beq_eq_false_iff_ne.2 hn0
  have hnb1 : (n == 1) = false := beq_eq_false_iff_ne.2 hn1
  have HLi : Hid (lineT s n f t = if f = false ∧ s.imgs.length < 16 then imgO s f r else none) := Lib.hid (HLt.out.trans (by unfold lineW; rw [if_neg hn0, if_neg hn1]; exact if_pos hxi))
  clear HLt hn0 hn1
  unfold str at *
  go_enter Tryz.func32, Tryz.ntmps32
  go_wp2_with fail
  refine HW.out.mono ?_
  rintro e w1 ⟨hb, hm⟩
  rw [HWn.out] at hm
  obtain ⟨hne, wb, rfl, hrow, hwb⟩ := hm
  have HR1 := Lib.hid (HR.out.below hb)
  have HRow := Lib.hid hrow
  have HMo := Lib.hid (Mod.of_below hb (foot b ev iv av))
  obtain ⟨c0, c1, c2, c3, c4, c5, c6, cf⟩ := rdr_cells HR1.out.blk
  have hx0 : w1.cell? ⟨wb, 0, none⟩ = some (.string ⟨x.toArray⟩) := hrow.cell rfl
  have hzw := lt_of_block hrow
  have hzr := lt_of_block HR1.out.blk
  have hfr : ¬ foot b ev iv av wb := fun hf => by have := HR.out.foot_lt _ hf; omega
  have HFr := Lib.hid hfr
  have hxb : (x == [105, 109, 97, 103, 101]) = true := by rw [hxi]; rfl
  clear hb hrow hne hfr HW
  obtain ⟨ia, ic, hiv⟩ : ∃ ia ic, iv = .slice ia s.imgs.length ic := by
    rcases HR1.out.i.2 with ⟨h1, h2⟩ | ⟨g, cap, cur, h1, _⟩
    · exact ⟨none, 0, by rw [h1, h2]⟩
    · exact ⟨_, _, h1⟩
  have HIv := Lib.hid hiv
  rw [hiv] at c3
  clear hiv hxi
  go_upto_region 8 with fail
  go_cut [] (fun wx => Below w1.heap.size w1 wx ∧ f = false ∧ s.imgs.length < 16)
  case first =>
    have HD0 := Lib.hid (And.intro c6 c3)
    by_cases hok : f = false ∧ s.imgs.length < 16
    · have HOk := Lib.hid hok
      obtain ⟨hf, hil⟩ := hok
      subst hf
      have hil' : ((s.imgs.length : Int) < 16) := by omega
      have HD : Hid (w1.drew.cell? ⟨b, 6, none⟩ = some (.bool false) ∧ w1.drew.cell? ⟨b, 3, none⟩ = some (.slice ia s.imgs.length ic)) := Lib.hid HD0.out
      have HDA : Hid (∀ o, (w1.drew.alloc o).cell? ⟨b, 6, none⟩ = some (.bool false) ∧ (w1.drew.alloc o).cell? ⟨b, 3, none⟩ = some (.slice ia s.imgs.length ic)) := Lib.hid fun o => ⟨(World.cell?_of_block (w := w1) (Below.heap_alloc _ _ _ hzr)).trans HD0.out.1, (World.cell?_of_block (w := w1) (Below.heap_alloc _ _ _ hzr)).trans HD0.out.2⟩
      have HBd : Hid (Below w1.heap.size w1 w1.drew) := Lib.hid (Below.refl _ _).drew
      clear c0 c1 c2 c3 c4 c5 c6
      refine wp_region_held (S := fun w' => w'.cell? ⟨b, 6, none⟩ = some (.bool false) ∧ w'.cell? ⟨b, 3, none⟩ = some (.slice ia s.imgs.length ic)) (by kernel_rfl) ?_
      refine H_take (i := 0) (v := ?_) rfl (by kernel_rfl) (by kernel_rfl) (by kernel_rfl) (fun _ _ _ h => h) (Or.inl ⟨by rfl, ?_⟩) HD.out ?_
      rotate_left
      · intro W hW; obtain ⟨k6, k3⟩ := hW; go_simp; try with_reducible rfl
      try simp only [Act.put, List.getElem_toArray, List.getElem_cons_succ, List.getElem_cons_zero, List.setIfInBounds_toArray, List.set_cons_zero, List.set_cons_succ]
      refine H_take (i := 1) (v := ?_) rfl (by kernel_rfl) (by kernel_rfl) (by kernel_rfl) (fun _ _ _ h => h) (Or.inl ⟨by rfl, ?_⟩) HD.out ?_
      rotate_left
      · intro W hW; obtain ⟨k6, k3⟩ := hW; go_simp; try with_reducible rfl
      try simp only [Act.put, List.getElem_toArray, List.getElem_cons_succ, List.getElem_cons_zero, List.setIfInBounds_toArray, List.set_cons_zero, List.set_cons_succ]
      refine H_take (i := 2) (v := ?_) rfl (by kernel_rfl) (by kernel_rfl) (by kernel_rfl) (fun _ _ _ h => h) (Or.inl ⟨by rfl, ?_⟩) HD.out ?_
      rotate_left
      · intro W hW; obtain ⟨k6, k3⟩ := hW; go_simp; try with_reducible rfl
      try simp only [Act.put, List.getElem_toArray, List.getElem_cons_succ, List.getElem_cons_zero, List.setIfInBounds_toArray, List.set_cons_zero, List.set_cons_succ]
      refine H_take (i := 3) (v := ?_) rfl (by kernel_rfl) (by kernel_rfl) (by kernel_rfl) (fun _ _ _ h => h) (Or.inl ⟨by rfl, ?_⟩) HD.out ?_
      rotate_left
      · intro W hW; obtain ⟨k6, k3⟩ := hW; go_simp; try with_reducible rfl
      try simp only [Act.put, List.getElem_toArray, List.getElem_cons_succ, List.getElem_cons_zero, List.setIfInBounds_toArray, List.set_cons_zero, List.set_cons_succ]
      refine H_take (i := 4) (v := ?_) rfl (by kernel_rfl) (by kernel_rfl) (by kernel_rfl) (fun _ _ _ h => h) (Or.inl ⟨by rfl, ?_⟩) HD.out ?_
      rotate_left
      · intro W hW; obtain ⟨k6, k3⟩ := hW; go_simp; try with_reducible rfl
      try simp only [Act.put, List.getElem_toArray, List.getElem_cons_succ, List.getElem_cons_zero, List.setIfInBounds_toArray, List.set_cons_zero, List.set_cons_succ]
      refine H_take (i := 5) (v := ?_) rfl (by kernel_rfl) (by kernel_rfl) (by kernel_rfl) (fun _ _ _ h => h) (Or.inl ⟨by rfl, ?_⟩) HD.out ?_
      rotate_left
      · intro W hW; obtain ⟨k6, k3⟩ := hW; go_simp; try with_reducible rfl
      try simp only [Act.put, List.getElem_toArray, List.getElem_cons_succ, List.getElem_cons_zero, List.setIfInBounds_toArray, List.set_cons_zero, List.set_cons_succ]
      refine H_take (i := 6) (v := ?_) rfl (by kernel_rfl) (by kernel_rfl) (by kernel_rfl) (fun _ _ _ h => h) (Or.inl ⟨by rfl, ?_⟩) HD.out ?_
      rotate_left
      · intro W hW; obtain ⟨k6, k3⟩ := hW; go_simp; try with_reducible rfl
      try simp only [Act.put, List.getElem_toArray, List.getElem_cons_succ, List.getElem_cons_zero, List.setIfInBounds_toArray, List.set_cons_zero, List.set_cons_succ]
      refine H_take (i := 7) (v := ?_) rfl (by kernel_rfl) (by kernel_rfl) (by kernel_rfl) (fun _ _ _ h => h) (Or.inl ⟨by rfl, ?_⟩) HD.out ?_
      rotate_left
      · intro W hW; obtain ⟨k6, k3⟩ := hW; go_simp; try with_reducible rfl
      try simp only [Act.put, List.getElem_toArray, List.getElem_cons_succ, List.getElem_cons_zero, List.setIfInBounds_toArray, List.set_cons_zero, List.set_cons_succ]
      refine H_take (i := 8) (v := ?_) rfl (by kernel_rfl) (by kernel_rfl) (by kernel_rfl) (fun _ _ _ h => h) (Or.inl ⟨by rfl, ?_⟩) HD.out ?_
      rotate_left
      · intro W hW; obtain ⟨k6, k3⟩ := hW; go_simp; try with_reducible rfl
      try simp only [Act.put, List.getElem_toArray, List.getElem_cons_succ, List.getElem_cons_zero, List.setIfInBounds_toArray, List.set_cons_zero, List.set_cons_succ]
      refine H_take (i := 9) (v := ?_) rfl (by kernel_rfl) (by kernel_rfl) (by kernel_rfl) (fun _ _ _ h => h) (Or.inl ⟨by rfl, ?_⟩) HD.out ?_
      rotate_left
      · intro W hW; obtain ⟨k6, k3⟩ := hW; go_simp; try with_reducible rfl
      try simp only [Act.put, List.getElem_toArray, List.getElem_cons_succ, List.getElem_cons_zero, List.setIfInBounds_toArray, List.set_cons_zero, List.set_cons_succ]
      refine H_one (i := 10) (by kernel_rfl) rfl (fun K hK => ?_)
      go_simp
      refine hK.out _ _ HD.out (fun _ => ?_)
      clear hK K
      try simp only [Act.put, List.getElem_toArray, List.getElem_cons_succ, List.getElem_cons_zero, List.setIfInBounds_toArray, List.set_cons_zero, List.set_cons_succ]
      refine H_take (i := 11) (v := ?_) rfl (by kernel_rfl) (by kernel_rfl) (by kernel_rfl) (fun _ _ _ h => h) (Or.inl ⟨by rfl, ?_⟩) HD.out ?_
      rotate_left
      · intro W hW; obtain ⟨k6, k3⟩ := hW; go_simp; try with_reducible rfl
      try simp only [Act.put, List.getElem_toArray, List.getElem_cons_succ, List.getElem_cons_zero, List.setIfInBounds_toArray, List.set_cons_zero, List.set_cons_succ]
      refine H_one (i := 12) (by kernel_rfl) rfl (fun K hK => ?_)
      go_simp
      refine hK.out _ _ (HDA.out _) (fun _ => ?_)
      clear hK K
      try simp only [Act.put, List.getElem_toArray, List.getElem_cons_succ, List.getElem_cons_zero, List.setIfInBounds_toArray, List.set_cons_zero, List.set_cons_succ]
      refine H_one (i := 13) (by kernel_rfl) rfl (fun K hK => ?_)
      go_simp
      go_at_call 40
      refine (yes2 (x := true) (y := true) (by go_simp) (by go_simp) rfl).mono ?_
      rintro e w2 ⟨rfl, rfl⟩
      refine hK.out _ _ (HDA.out _) (fun _ => ?_)
      clear hK K
      try simp only [Act.put, List.getElem_toArray, List.getElem_cons_succ, List.getElem_cons_zero, List.setIfInBounds_toArray, List.set_cons_zero, List.set_cons_succ]
      refine wpAnyH_done (by kernel_rfl) ?_ _
      go_wp2_with fail
      go_meet
      exact ⟨HBd.out.alloc HBd.out.size _, HOk.out⟩
    · have HV : Hid (lineT s n f t = none) := Lib.hid (HLi.out.trans (if_neg hok))
      have HBd : Hid (Below w1.heap.size w1 w1.drew) := Lib.hid (Below.refl _ _).drew
      by_cases hf : f = false
      · have hil : ¬ s.imgs.length < 16 := fun h => hok ⟨hf, h⟩
        subst hf
        have hil' : ¬ ((s.imgs.length : Int) < 16) := by omega
        have hild : decide ((s.imgs.length : Int) < 16) = false := decide_eq_false hil'
        have HD : Hid (w1.drew.cell? ⟨b, 6, none⟩ = some (.bool false) ∧ w1.drew.cell? ⟨b, 3, none⟩ = some (.slice ia s.imgs.length ic)) := Lib.hid HD0.out
        have HDA : Hid (∀ o, (w1.drew.alloc o).cell? ⟨b, 6, none⟩ = some (.bool false) ∧ (w1.drew.alloc o).cell? ⟨b, 3, none⟩ = some (.slice ia s.imgs.length ic)) := Lib.hid fun o => ⟨(World.cell?_of_block (w := w1) (Below.heap_alloc _ _ _ hzr)).trans HD0.out.1, (World.cell?_of_block (w := w1) (Below.heap_alloc _ _ _ hzr)).trans HD0.out.2⟩
        clear hok c0 c1 c2 c3 c4 c5 c6
        refine wp_region_held (S := fun w' => w'.cell? ⟨b, 6, none⟩ = some (.bool false) ∧ w'.cell? ⟨b, 3, none⟩ = some (.slice ia s.imgs.length ic)) (by kernel_rfl) ?_
        refine H_take (i := 0) (v := ?_) rfl (by kernel_rfl) (by kernel_rfl) (by kernel_rfl) (fun _ _ _ h => h) (Or.inl ⟨by rfl, ?_⟩) HD.out ?_
        rotate_left
        · intro W hW; obtain ⟨k6, k3⟩ := hW; go_simp; try with_reducible rfl
        try simp only [Act.put, List.getElem_toArray, List.getElem_cons_succ, List.getElem_cons_zero, List.setIfInBounds_toArray, List.set_cons_zero, List.set_cons_succ]
        refine H_take (i := 1) (v := ?_) rfl (by kernel_rfl) (by kernel_rfl) (by kernel_rfl) (fun _ _ _ h => h) (Or.inl ⟨by rfl, ?_⟩) HD.out ?_
        rotate_left
        · intro W hW; obtain ⟨k6, k3⟩ := hW; go_simp; try with_reducible rfl
        try simp only [Act.put, List.getElem_toArray, List.getElem_cons_succ, List.getElem_cons_zero, List.setIfInBounds_toArray, List.set_cons_zero, List.set_cons_succ]
        refine H_take (i := 2) (v := ?_) rfl (by kernel_rfl) (by kernel_rfl) (by kernel_rfl) (fun _ _ _ h => h) (Or.inl ⟨by rfl, ?_⟩) HD.out ?_
        rotate_left
        · intro W hW; obtain ⟨k6, k3⟩ := hW; go_simp; try with_reducible rfl
        try simp only [Act.put, List.getElem_toArray, List.getElem_cons_succ, List.getElem_cons_zero, List.setIfInBounds_toArray, List.set_cons_zero, List.set_cons_succ]
        refine H_take (i := 3) (v := ?_) rfl (by kernel_rfl) (by kernel_rfl) (by kernel_rfl) (fun _ _ _ h => h) (Or.inl ⟨by rfl, ?_⟩) HD.out ?_
        rotate_left
        · intro W hW; obtain ⟨k6, k3⟩ := hW; go_simp; try with_reducible rfl
        try simp only [Act.put, List.getElem_toArray, List.getElem_cons_succ, List.getElem_cons_zero, List.setIfInBounds_toArray, List.set_cons_zero, List.set_cons_succ]
        refine H_take (i := 4) (v := ?_) rfl (by kernel_rfl) (by kernel_rfl) (by kernel_rfl) (fun _ _ _ h => h) (Or.inl ⟨by rfl, ?_⟩) HD.out ?_
        rotate_left
        · intro W hW; obtain ⟨k6, k3⟩ := hW; go_simp; try with_reducible rfl
        try simp only [Act.put, List.getElem_toArray, List.getElem_cons_succ, List.getElem_cons_zero, List.setIfInBounds_toArray, List.set_cons_zero, List.set_cons_succ]
        refine H_take (i := 5) (v := ?_) rfl (by kernel_rfl) (by kernel_rfl) (by kernel_rfl) (fun _ _ _ h => h) (Or.inl ⟨by rfl, ?_⟩) HD.out ?_
        rotate_left
        · intro W hW; obtain ⟨k6, k3⟩ := hW; go_simp; try with_reducible rfl
        try simp only [Act.put, List.getElem_toArray, List.getElem_cons_succ, List.getElem_cons_zero, List.setIfInBounds_toArray, List.set_cons_zero, List.set_cons_succ]
        refine H_take (i := 6) (v := ?_) rfl (by kernel_rfl) (by kernel_rfl) (by kernel_rfl) (fun _ _ _ h => h) (Or.inl ⟨by rfl, ?_⟩) HD.out ?_
        rotate_left
        · intro W hW; obtain ⟨k6, k3⟩ := hW; go_simp; try with_reducible rfl
        try simp only [Act.put, List.getElem_toArray, List.getElem_cons_succ, List.getElem_cons_zero, List.setIfInBounds_toArray, List.set_cons_zero, List.set_cons_succ]
        refine H_take (i := 7) (v := ?_) rfl (by kernel_rfl) (by kernel_rfl) (by kernel_rfl) (fun _ _ _ h => h) (Or.inl ⟨by rfl, ?_⟩) HD.out ?_
        rotate_left
        · intro W hW; obtain ⟨k6, k3⟩ := hW; go_simp; try with_reducible rfl
        try simp only [Act.put, List.getElem_toArray, List.getElem_cons_succ, List.getElem_cons_zero, List.setIfInBounds_toArray, List.set_cons_zero, List.set_cons_succ]
        refine H_take (i := 8) (v := ?_) rfl (by kernel_rfl) (by kernel_rfl) (by kernel_rfl) (fun _ _ _ h => h) (Or.inl ⟨by rfl, ?_⟩) HD.out ?_
        rotate_left
        · intro W hW; obtain ⟨k6, k3⟩ := hW; go_simp; try with_reducible rfl
        try simp only [Act.put, List.getElem_toArray, List.getElem_cons_succ, List.getElem_cons_zero, List.setIfInBounds_toArray, List.set_cons_zero, List.set_cons_succ]
        refine H_take (i := 9) (v := ?_) rfl (by kernel_rfl) (by kernel_rfl) (by kernel_rfl) (fun _ _ _ h => h) (Or.inl ⟨by rfl, ?_⟩) HD.out ?_
        rotate_left
        · intro W hW; obtain ⟨k6, k3⟩ := hW; go_simp; try with_reducible rfl
        try simp only [Act.put, List.getElem_toArray, List.getElem_cons_succ, List.getElem_cons_zero, List.setIfInBounds_toArray, List.set_cons_zero, List.set_cons_succ]
        refine H_one (i := 10) (by kernel_rfl) rfl (fun K hK => ?_)
        go_simp
        refine hK.out _ _ HD.out (fun _ => ?_)
        clear hK K
        try simp only [Act.put, List.getElem_toArray, List.getElem_cons_succ, List.getElem_cons_zero, List.setIfInBounds_toArray, List.set_cons_zero, List.set_cons_succ]
        refine H_take (i := 11) (v := ?_) rfl (by kernel_rfl) (by kernel_rfl) (by kernel_rfl) (fun _ _ _ h => h) (Or.inl ⟨by rfl, ?_⟩) HD.out ?_
        rotate_left
        · intro W hW; obtain ⟨k6, k3⟩ := hW; go_simp; try with_reducible rfl
        try simp only [Act.put, List.getElem_toArray, List.getElem_cons_succ, List.getElem_cons_zero, List.setIfInBounds_toArray, List.set_cons_zero, List.set_cons_succ]
        refine H_one (i := 12) (by kernel_rfl) rfl (fun K hK => ?_)
        go_simp
        refine hK.out _ _ (HDA.out _) (fun _ => ?_)
        clear hK K
        try simp only [Act.put, List.getElem_toArray, List.getElem_cons_succ, List.getElem_cons_zero, List.setIfInBounds_toArray, List.set_cons_zero, List.set_cons_succ]
        refine H_one (i := 13) (by kernel_rfl) rfl (fun K hK => ?_)
        go_simp
        go_at_call 40
        refine (no2 (x := true) (y := false) (by go_simp) (by go_simp) rfl).mono ?_
        rintro e w2 ⟨rfl, rfl⟩
        have hA := HBd.out.alloc HBd.out.size (.cells #[.bool true, .bool false] 4)
        exact ⟨rfl, HNo.out _ HV.out (HMo.out.trans (Mod.of_below hA (foot b ev iv av)) fun _ _ g => .inl g) (HR1.out.below hA).n5⟩
      · have hf : f = true := by cases f; exact absurd rfl hf; rfl
        subst hf
        have HD : Hid (w1.drew.cell? ⟨b, 6, none⟩ = some (.bool true) ∧ w1.drew.cell? ⟨b, 3, none⟩ = some (.slice ia s.imgs.length ic)) := Lib.hid HD0.out
        have HDA : Hid (∀ o, (w1.drew.alloc o).cell? ⟨b, 6, none⟩ = some (.bool true) ∧ (w1.drew.alloc o).cell? ⟨b, 3, none⟩ = some (.slice ia s.imgs.length ic)) := Lib.hid fun o => ⟨(World.cell?_of_block (w := w1) (Below.heap_alloc _ _ _ hzr)).trans HD0.out.1, (World.cell?_of_block (w := w1) (Below.heap_alloc _ _ _ hzr)).trans HD0.out.2⟩
        clear hok c0 c1 c2 c3 c4 c5 c6
        refine wp_region_held (S := fun w' => w'.cell? ⟨b, 6, none⟩ = some (.bool true) ∧ w'.cell? ⟨b, 3, none⟩ = some (.slice ia s.imgs.length ic)) (by kernel_rfl) ?_
        refine H_take (i := 0) (v := ?_) rfl (by kernel_rfl) (by kernel_rfl) (by kernel_rfl) (fun _ _ _ h => h) (Or.inl ⟨by rfl, ?_⟩) HD.out ?_
        rotate_left
        · intro W hW; obtain ⟨k6, k3⟩ := hW; go_simp; try with_reducible rfl
        try simp only [Act.put, List.getElem_toArray, List.getElem_cons_succ, List.getElem_cons_zero, List.setIfInBounds_toArray, List.set_cons_zero, List.set_cons_succ]
        refine H_take (i := 1) (v := ?_) rfl (by kernel_rfl) (by kernel_rfl) (by kernel_rfl) (fun _ _ _ h => h) (Or.inl ⟨by rfl, ?_⟩) HD.out ?_
        rotate_left
        · intro W hW; obtain ⟨k6, k3⟩ := hW; go_simp; try with_reducible rfl
        try simp only [Act.put, List.getElem_toArray, List.getElem_cons_succ, List.getElem_cons_zero, List.setIfInBounds_toArray, List.set_cons_zero, List.set_cons_succ]
        refine H_take (i := 2) (v := ?_) rfl (by kernel_rfl) (by kernel_rfl) (by kernel_rfl) (fun _ _ _ h => h) (Or.inl ⟨by rfl, ?_⟩) HD.out ?_
        rotate_left
        · intro W hW; obtain ⟨k6, k3⟩ := hW; go_simp; try with_reducible rfl
        try simp only [Act.put, List.getElem_toArray, List.getElem_cons_succ, List.getElem_cons_zero, List.setIfInBounds_toArray, List.set_cons_zero, List.set_cons_succ]
        refine H_take (i := 3) (v := ?_) rfl (by kernel_rfl) (by kernel_rfl) (by kernel_rfl) (fun _ _ _ h => h) (Or.inl ⟨by rfl, ?_⟩) HD.out ?_
        rotate_left
        · intro W hW; obtain ⟨k6, k3⟩ := hW; go_simp; try with_reducible rfl
        try simp only [Act.put, List.getElem_toArray, List.getElem_cons_succ, List.getElem_cons_zero, List.setIfInBounds_toArray, List.set_cons_zero, List.set_cons_succ]
        refine H_take (i := 4) (v := ?_) rfl (by kernel_rfl) (by kernel_rfl) (by kernel_rfl) (fun _ _ _ h => h) (Or.inl ⟨by rfl, ?_⟩) HD.out ?_
        rotate_left
        · intro W hW; obtain ⟨k6, k3⟩ := hW; go_simp; try with_reducible rfl
        try simp only [Act.put, List.getElem_toArray, List.getElem_cons_succ, List.getElem_cons_zero, List.setIfInBounds_toArray, List.set_cons_zero, List.set_cons_succ]
        refine H_take (i := 5) (v := ?_) rfl (by kernel_rfl) (by kernel_rfl) (by kernel_rfl) (fun _ _ _ h => h) (Or.inl ⟨by rfl, ?_⟩) HD.out ?_
        rotate_left
        · intro W hW; obtain ⟨k6, k3⟩ := hW; go_simp; try with_reducible rfl
        try simp only [Act.put, List.getElem_toArray, List.getElem_cons_succ, List.getElem_cons_zero, List.setIfInBounds_toArray, List.set_cons_zero, List.set_cons_succ]
        refine H_take (i := 6) (v := ?_) rfl (by kernel_rfl) (by kernel_rfl) (by kernel_rfl) (fun _ _ _ h => h) (Or.inl ⟨by rfl, ?_⟩) HD.out ?_
        rotate_left
        · intro W hW; obtain ⟨k6, k3⟩ := hW; go_simp; try with_reducible rfl
        try simp only [Act.put, List.getElem_toArray, List.getElem_cons_succ, List.getElem_cons_zero, List.setIfInBounds_toArray, List.set_cons_zero, List.set_cons_succ]
        refine H_take (i := 7) (v := ?_) rfl (by kernel_rfl) (by kernel_rfl) (by kernel_rfl) (fun _ _ _ h => h) (Or.inl ⟨by rfl, ?_⟩) HD.out ?_
        rotate_left
        · intro W hW; obtain ⟨k6, k3⟩ := hW; go_simp; try with_reducible rfl
        try simp only [Act.put, List.getElem_toArray, List.getElem_cons_succ, List.getElem_cons_zero, List.setIfInBounds_toArray, List.set_cons_zero, List.set_cons_succ]
        refine H_take (i := 8) (v := ?_) rfl (by kernel_rfl) (by kernel_rfl) (by kernel_rfl) (fun _ _ _ h => h) (Or.inl ⟨by rfl, ?_⟩) HD.out ?_
        rotate_left
        · intro W hW; obtain ⟨k6, k3⟩ := hW; go_simp; try with_reducible rfl
        try simp only [Act.put, List.getElem_toArray, List.getElem_cons_succ, List.getElem_cons_zero, List.setIfInBounds_toArray, List.set_cons_zero, List.set_cons_succ]
        refine H_take (i := 9) (v := ?_) rfl (by kernel_rfl) (by kernel_rfl) (by kernel_rfl) (fun _ _ _ h => h) (Or.inl ⟨by rfl, ?_⟩) HD.out ?_
        rotate_left
        · intro W hW; obtain ⟨k6, k3⟩ := hW; go_simp; try with_reducible rfl
        try simp only [Act.put, List.getElem_toArray, List.getElem_cons_succ, List.getElem_cons_zero, List.setIfInBounds_toArray, List.set_cons_zero, List.set_cons_succ]
        refine H_one (i := 10) (by kernel_rfl) rfl (fun K hK => ?_)
        go_simp
        refine hK.out _ _ HD.out (fun _ => ?_)
        clear hK K
        try simp only [Act.put, List.getElem_toArray, List.getElem_cons_succ, List.getElem_cons_zero, List.setIfInBounds_toArray, List.set_cons_zero, List.set_cons_succ]
        refine H_take (i := 11) (v := ?_) rfl (by kernel_rfl) (by kernel_rfl) (by kernel_rfl) (fun _ _ _ h => h) (Or.inl ⟨by rfl, ?_⟩) HD.out ?_
        rotate_left
        · intro W hW; obtain ⟨k6, k3⟩ := hW; go_simp; try with_reducible rfl
        try simp only [Act.put, List.getElem_toArray, List.getElem_cons_succ, List.getElem_cons_zero, List.setIfInBounds_toArray, List.set_cons_zero, List.set_cons_succ]
        refine H_one (i := 12) (by kernel_rfl) rfl (fun K hK => ?_)
        go_simp
        refine hK.out _ _ (HDA.out _) (fun _ => ?_)
        clear hK K
        try simp only [Act.put, List.getElem_toArray, List.getElem_cons_succ, List.getElem_cons_zero, List.setIfInBounds_toArray, List.set_cons_zero, List.set_cons_succ]
        refine H_one (i := 13) (by kernel_rfl) rfl (fun K hK => ?_)
        go_simp
        go_at_call 40
        refine (no2 (x := false) (y := decide ((s.imgs.length : Int) < 16)) (by go_simp) (by go_simp) rfl).mono ?_
        rintro e w2 ⟨rfl, rfl⟩
        have hA := HBd.out.alloc HBd.out.size (.cells #[.bool false, .bool (decide ((s.imgs.length : Int) < 16))] 4)
        exact ⟨rfl, HNo.out _ HV.out (HMo.out.trans (Mod.of_below hA (foot b ev iv av)) fun _ _ g => .inl g) (HR1.out.below hA).n5⟩
  case rest =>
    obtain ⟨hbc, hf, hil⟩ := hcut
    have HRc := Lib.hid (HR1.out.below hbc)
    have HMc := Lib.hid (HMo.out.trans (Mod.of_below hbc (foot b ev iv av)) fun _ _ g => .inl g)
    have HRwc := Lib.hid ((hbc.block _ hzw).trans HRow.out : RowT wc wb (x :: r))
    have HLk : Hid (lineT s n f t = imgO s f r) := Lib.hid (by rw [HLi.out, if_pos ⟨hf, hil⟩])
    clear c0 c1 c2 c3 c4 c5 c6 cf hx0 hbc hf HLi
    by_cases hrl : r.length = 1
    · obtain ⟨y, rfl⟩ : ∃ y, r = [y] := by
        match r, hrl with
        | [y], _ => exact ⟨y, rfl⟩
      have HLy : Hid (lineT s n f t = (bytesT y).map fun b => ({ s with imgs := s.imgs ++ [b] }, f)) := HLk
      have HBy : Hid (∀ V, Calls Tryz.prog 45 #[.string ⟨y.toArray⟩] V (Got str (bytesT y) V)) := Lib.hid fun V => bytes y (Nat.le_trans (hl1 y (by simp)) ht) V
      simp only [List.length_cons, List.length_nil, Nat.zero_add, Nat.reduceAdd] at *
      go_wp2_with fail
      refine (yes1 (x := true) (by go_simp) rfl).mono ?_
      rintro e w4 ⟨rfl, rfl⟩
      have hA := (Below.refl wc.heap.size wc).alloc (Nat.le_refl _) (.cells #[.bool true] 4)
      have HR4 := Lib.hid (HRc.out.below hA)
      have HM4 := Lib.hid (HMc.out.trans (Mod.of_below hA (foot b ev iv av)) fun _ _ g => .inl g)
      have HRw4 := Lib.hid ((hA.block _ (lt_of_block HRwc.out)).trans HRwc.out : RowT _ wb [x, y])
      clear hA
      go_upto_region 10 with fail
      generalize wc.alloc (.cells #[.bool true] 4) = w4 at *
      have h3 := (rdr_cells HR4.out.blk).2.2.2.1
      rw [HIv.out] at h3
      have hw1 : w4.cell? ⟨wb, 1, none⟩ = some (.string ⟨y.toArray⟩) := RowT.cell HRw4.out rfl
      have HD : Hid (w4.drew.cell? ⟨b, 3, none⟩ = some (.slice ia s.imgs.length ic) ∧ w4.drew.cell? ⟨wb, 1, none⟩ = some (.string ⟨y.toArray⟩)) := Lib.hid ⟨h3, hw1⟩
      have hzb4 := lt_of_block HR4.out.blk
      have hzw4 := lt_of_block HRw4.out
      have HDB : Hid (∀ V, Below w4.drew.heap.size w4.drew V → V.cell? ⟨b, 3, none⟩ = some (.slice ia s.imgs.length ic) ∧ V.cell? ⟨wb, 1, none⟩ = some (.string ⟨y.toArray⟩)) := Lib.hid fun V hV => ⟨(World.cell?_of_block (w := w4) (hV.block _ hzb4)).trans h3, (World.cell?_of_block (w := w4) (hV.block _ hzw4)).trans hw1⟩
      have HBw : Hid (Below w4.heap.size w4 w4.drew) := Lib.hid (Below.refl _ _).drew
      have HSz : Hid (w4.drew.heap.size = w4.heap.size) := Lib.hid rfl
      clear h3 hw1
      cases hbt : bytesT y with
      | none =>
        have HBt := Lib.hid hbt
        have HV : Hid (lineT s n f t = none) := Lib.hid (HLy.out.trans (by rw [hbt]; rfl))
        clear hbt
        refine wp_region_E (fun w' => w'.cell? ⟨b, 3, none⟩ = some (.slice ia s.imgs.length ic) ∧ w'.cell? ⟨wb, 1, none⟩ = some (.string ⟨y.toArray⟩)) 15 (by kernel_rfl) ?_
        change AnyE _ _ _ _ _ _ _ _ _ w4.drew
        generalize hwd : w4.drew = wd at *
        refine L_take (i := 0) (v := ?_) rfl (by kernel_rfl) (by kernel_rfl) (by kernel_rfl) (by kernel_rfl) (fun _ _ _ h => h) (Or.inl ⟨by rfl, ?_⟩) HD.out ?_
        rotate_left
        · intro W hW; obtain ⟨k3, kw⟩ := hW; go_simp; try with_reducible rfl
        try simp only [Act.put, List.getElem_toArray, List.getElem_cons_succ, List.getElem_cons_zero, List.setIfInBounds_toArray, List.set_cons_zero, List.set_cons_succ]
        refine L_take (i := 1) (v := ?_) rfl (by kernel_rfl) (by kernel_rfl) (by kernel_rfl) (by kernel_rfl) (fun _ _ _ h => h) (Or.inl ⟨by rfl, ?_⟩) HD.out ?_
        rotate_left
        · intro W hW; obtain ⟨k3, kw⟩ := hW; go_simp; try with_reducible rfl
        try simp only [Act.put, List.getElem_toArray, List.getElem_cons_succ, List.getElem_cons_zero, List.setIfInBounds_toArray, List.set_cons_zero, List.set_cons_succ]
        refine L_take (i := 2) (v := ?_) rfl (by kernel_rfl) (by kernel_rfl) (by kernel_rfl) (by kernel_rfl) (fun _ _ _ h => h) (Or.inl ⟨by rfl, ?_⟩) HD.out ?_
        rotate_left
        · intro W hW; obtain ⟨k3, kw⟩ := hW; go_simp; try with_reducible rfl
        try simp only [Act.put, List.getElem_toArray, List.getElem_cons_succ, List.getElem_cons_zero, List.setIfInBounds_toArray, List.set_cons_zero, List.set_cons_succ]
        refine L_take (i := 3) (v := ?_) rfl (by kernel_rfl) (by kernel_rfl) (by kernel_rfl) (by kernel_rfl) (fun _ _ _ h => h) (Or.inl ⟨by rfl, ?_⟩) HD.out ?_
        rotate_left
        · intro W hW; obtain ⟨k3, kw⟩ := hW; go_simp; try with_reducible rfl
        try simp only [Act.put, List.getElem_toArray, List.getElem_cons_succ, List.getElem_cons_zero, List.setIfInBounds_toArray, List.set_cons_zero, List.set_cons_succ]
        refine L_take (i := 4) (v := ?_) rfl (by kernel_rfl) (by kernel_rfl) (by kernel_rfl) (by kernel_rfl) (fun _ _ _ h => h) (Or.inl ⟨by rfl, ?_⟩) HD.out ?_
        rotate_left
        · intro W hW; obtain ⟨k3, kw⟩ := hW; go_simp; try with_reducible rfl
        try simp only [Act.put, List.getElem_toArray, List.getElem_cons_succ, List.getElem_cons_zero, List.setIfInBounds_toArray, List.set_cons_zero, List.set_cons_succ]
        refine L_take (i := 5) (v := ?_) rfl (by kernel_rfl) (by kernel_rfl) (by kernel_rfl) (by kernel_rfl) (fun _ _ _ h => h) (Or.inl ⟨by rfl, ?_⟩) HD.out ?_
        rotate_left
        · intro W hW; obtain ⟨k3, kw⟩ := hW; go_simp; try with_reducible rfl
        try simp only [Act.put, List.getElem_toArray, List.getElem_cons_succ, List.getElem_cons_zero, List.setIfInBounds_toArray, List.set_cons_zero, List.set_cons_succ]
        refine L_take (i := 6) (v := ?_) rfl (by kernel_rfl) (by kernel_rfl) (by kernel_rfl) (by kernel_rfl) (fun _ _ _ h => h) (Or.inl ⟨by rfl, ?_⟩) HD.out ?_
        rotate_left
        · intro W hW; obtain ⟨k3, kw⟩ := hW; go_simp; try with_reducible rfl
        try simp only [Act.put, List.getElem_toArray, List.getElem_cons_succ, List.getElem_cons_zero, List.setIfInBounds_toArray, List.set_cons_zero, List.set_cons_succ]
        refine L_take (i := 7) (v := ?_) rfl (by kernel_rfl) (by kernel_rfl) (by kernel_rfl) (by kernel_rfl) (fun _ _ _ h => h) (Or.inl ⟨by rfl, ?_⟩) HD.out ?_
        rotate_left
        · intro W hW; obtain ⟨k3, kw⟩ := hW; go_simp; try with_reducible rfl
        try simp only [Act.put, List.getElem_toArray, List.getElem_cons_succ, List.getElem_cons_zero, List.setIfInBounds_toArray, List.set_cons_zero, List.set_cons_succ]
        refine L_take (i := 8) (v := ?_) rfl (by kernel_rfl) (by kernel_rfl) (by kernel_rfl) (by kernel_rfl) (fun _ _ _ h => h) (Or.inl ⟨by rfl, ?_⟩) HD.out ?_
        rotate_left
        · intro W hW; obtain ⟨k3, kw⟩ := hW; go_simp; try with_reducible rfl
        try simp only [Act.put, List.getElem_toArray, List.getElem_cons_succ, List.getElem_cons_zero, List.setIfInBounds_toArray, List.set_cons_zero, List.set_cons_succ]
        refine L_step (i := 9) (by kernel_rfl) rfl (fun K hK => ?_)
        go_simp
        go_at_call 45
        refine (HBy.out _).mono ?_
        rintro e w5 ⟨he, hb⟩
        rw [HBt.out] at he
        subst he
        have HB5 := Lib.hid hb
        clear hb
        have hA := HBw.out.trans (HB5.out.mono (Nat.le_of_eq HSz.out.symm))
        exact ⟨rfl, HNo.out _ HV.out (HM4.out.trans (Mod.of_below hA (foot b ev iv av)) fun _ _ g => .inl g) (HR4.out.below hA).n5⟩
      | some k =>
        have HBt := Lib.hid hbt
        have HV : Hid (lineT s n f t = some ({ s with imgs := s.imgs ++ [k] }, f)) := Lib.hid (HLy.out.trans (by rw [hbt]; rfl))
        obtain ⟨i0, hi1, hz0, hz1, hz2⟩ := info_parts info_str
        have Hi1 := Lib.hid hi1
        have Hz0 := Lib.hid hz0
        have Hz1 := Lib.hid hz1
        have Hz2 := Lib.hid hz2
        have HOwn5 : Hid (∀ V, Below w4.drew.heap.size w4.drew V → V.ownsRow 0 9 1 (.slice ia s.imgs.length ic) s.imgs.length (s.imgs.map str)) := Lib.hid fun V hV => by
          have := (HR4.out.below (HBw.out.trans (hV.mono (Nat.le_of_eq HSz.out.symm)))).i
          rw [HIv.out] at this
          exact this
        have HF6 : Hid (∀ V U, Below w4.drew.heap.size w4.drew V → V.grownBy U (Value.slice ia s.imgs.length ic).ownBlock → U.cell? ⟨b, 3, none⟩ = some (.slice ia s.imgs.length ic) ∧ U.frozen? ⟨b, 3, none⟩ = false ∧ U.cell? ⟨wb, 1, none⟩ = some (.string ⟨y.toArray⟩)) := Lib.hid fun V U hV hU => by
          have hVb := hV.mono (Nat.le_of_eq HSz.out.symm)
          have hR := HR4.out.below (HBw.out.trans hVb)
          have hbk := ((grown_mod hU).block _ (lt_of_block hR.blk) (by rw [← HIv.out]; exact own_ne hR.i hR.blk (by decide))).trans hR.blk
          have hc := rdr_cells hbk
          refine ⟨by rw [hc.2.2.2.1, HIv.out], hc.2.2.2.2.2.2.2 3, ?_⟩
          have hrw : V.heap[wb]? = _ := (hV.block _ hzw4).trans HRw4.out
          exact RowT.cell (((grown_mod hU).block _ (lt_of_block hrw) (fun e => HFr.out (.inr (.inr (.inl (by rw [HIv.out]; exact e)))))).trans hrw) rfl
        have HD6 : Hid (∀ V U, Below w4.drew.heap.size w4.drew V → V.grownBy U (Value.slice ia s.imgs.length ic).ownBlock → U.cell? ⟨b, 3, none⟩ = some (.slice ia s.imgs.length ic) ∧ U.cell? ⟨wb, 1, none⟩ = some (.string ⟨y.toArray⟩)) := Lib.hid fun V U hV hU => ⟨(HF6.out V U hV hU).1, (HF6.out V U hV hU).2.2⟩
        clear hbt hi1 hz0 hz1 hz2
        refine wp_region_E (fun w' => w'.cell? ⟨b, 3, none⟩ = some (.slice ia s.imgs.length ic) ∧ w'.cell? ⟨wb, 1, none⟩ = some (.string ⟨y.toArray⟩)) 15 (by kernel_rfl) ?_
        change AnyE _ _ _ _ _ _ _ _ _ w4.drew
        generalize hwd : w4.drew = wd at *
        refine L_take (i := 0) (v := ?_) rfl (by kernel_rfl) (by kernel_rfl) (by kernel_rfl) (by kernel_rfl) (fun _ _ _ h => h) (Or.inl ⟨by rfl, ?_⟩) HD.out ?_
        rotate_left
        · intro W hW; obtain ⟨k3, kw⟩ := hW; go_simp; try with_reducible rfl
        try simp only [Act.put, List.getElem_toArray, List.getElem_cons_succ, List.getElem_cons_zero, List.setIfInBounds_toArray, List.set_cons_zero, List.set_cons_succ]
        refine L_take (i := 1) (v := ?_) rfl (by kernel_rfl) (by kernel_rfl) (by kernel_rfl) (by kernel_rfl) (fun _ _ _ h => h) (Or.inl ⟨by rfl, ?_⟩) HD.out ?_
        rotate_left
        · intro W hW; obtain ⟨k3, kw⟩ := hW; go_simp; try with_reducible rfl
        try simp only [Act.put, List.getElem_toArray, List.getElem_cons_succ, List.getElem_cons_zero, List.setIfInBounds_toArray, List.set_cons_zero, List.set_cons_succ]
        refine L_take (i := 2) (v := ?_) rfl (by kernel_rfl) (by kernel_rfl) (by kernel_rfl) (by kernel_rfl) (fun _ _ _ h => h) (Or.inl ⟨by rfl, ?_⟩) HD.out ?_
        rotate_left
        · intro W hW; obtain ⟨k3, kw⟩ := hW; go_simp; try with_reducible rfl
        try simp only [Act.put, List.getElem_toArray, List.getElem_cons_succ, List.getElem_cons_zero, List.setIfInBounds_toArray, List.set_cons_zero, List.set_cons_succ]
        refine L_take (i := 3) (v := ?_) rfl (by kernel_rfl) (by kernel_rfl) (by kernel_rfl) (by kernel_rfl) (fun _ _ _ h => h) (Or.inl ⟨by rfl, ?_⟩) HD.out ?_
        rotate_left
        · intro W hW; obtain ⟨k3, kw⟩ := hW; go_simp; try with_reducible rfl
        try simp only [Act.put, List.getElem_toArray, List.getElem_cons_succ, List.getElem_cons_zero, List.setIfInBounds_toArray, List.set_cons_zero, List.set_cons_succ]
        refine L_take (i := 4) (v := ?_) rfl (by kernel_rfl) (by kernel_rfl) (by kernel_rfl) (by kernel_rfl) (fun _ _ _ h => h) (Or.inl ⟨by rfl, ?_⟩) HD.out ?_
        rotate_left
        · intro W hW; obtain ⟨k3, kw⟩ := hW; go_simp; try with_reducible rfl
        try simp only [Act.put, List.getElem_toArray, List.getElem_cons_succ, List.getElem_cons_zero, List.setIfInBounds_toArray, List.set_cons_zero, List.set_cons_succ]
        refine L_take (i := 5) (v := ?_) rfl (by kernel_rfl) (by kernel_rfl) (by kernel_rfl) (by kernel_rfl) (fun _ _ _ h => h) (Or.inl ⟨by rfl, ?_⟩) HD.out ?_
        rotate_left
        · intro W hW; obtain ⟨k3, kw⟩ := hW; go_simp; try with_reducible rfl
        try simp only [Act.put, List.getElem_toArray, List.getElem_cons_succ, List.getElem_cons_zero, List.setIfInBounds_toArray, List.set_cons_zero, List.set_cons_succ]
        refine L_take (i := 6) (v := ?_) rfl (by kernel_rfl) (by kernel_rfl) (by kernel_rfl) (by kernel_rfl) (fun _ _ _ h => h) (Or.inl ⟨by rfl, ?_⟩) HD.out ?_
        rotate_left
        · intro W hW; obtain ⟨k3, kw⟩ := hW; go_simp; try with_reducible rfl
        try simp only [Act.put, List.getElem_toArray, List.getElem_cons_succ, List.getElem_cons_zero, List.setIfInBounds_toArray, List.set_cons_zero, List.set_cons_succ]
        refine L_take (i := 7) (v := ?_) rfl (by kernel_rfl) (by kernel_rfl) (by kernel_rfl) (by kernel_rfl) (fun _ _ _ h => h) (Or.inl ⟨by rfl, ?_⟩) HD.out ?_
        rotate_left
        · intro W hW; obtain ⟨k3, kw⟩ := hW; go_simp; try with_reducible rfl
        try simp only [Act.put, List.getElem_toArray, List.getElem_cons_succ, List.getElem_cons_zero, List.setIfInBounds_toArray, List.set_cons_zero, List.set_cons_succ]
        refine L_take (i := 8) (v := ?_) rfl (by kernel_rfl) (by kernel_rfl) (by kernel_rfl) (by kernel_rfl) (fun _ _ _ h => h) (Or.inl ⟨by rfl, ?_⟩) HD.out ?_
        rotate_left
        · intro W hW; obtain ⟨k3, kw⟩ := hW; go_simp; try with_reducible rfl
        try simp only [Act.put, List.getElem_toArray, List.getElem_cons_succ, List.getElem_cons_zero, List.setIfInBounds_toArray, List.set_cons_zero, List.set_cons_succ]
        refine L_step (i := 9) (by kernel_rfl) rfl (fun K hK => ?_)
        go_simp
        go_at_call 45
        refine (HBy.out _).mono ?_
        rintro e w5 ⟨he, hb⟩
        rw [HBt.out] at he
        subst he
        have HB5 := Lib.hid hb
        clear hb
        refine hK.out _ _ (fun _ => (HDB.out _ HB5.out)) (fun _ => ?_)
        clear hK K
        try simp only [Act.put, List.getElem_toArray, List.getElem_cons_succ, List.getElem_cons_zero, List.setIfInBounds_toArray, List.set_cons_zero, List.set_cons_succ]
        refine L_step (i := 10) (by kernel_rfl) rfl (fun K hK => ?_)
        go_simp
        refine hK.out _ _ (fun _ => (HDB.out _ (HB5.out.alloc HB5.out.size _))) (fun _ => ?_)
        clear hK K
        try simp only [Act.put, List.getElem_toArray, List.getElem_cons_succ, List.getElem_cons_zero, List.setIfInBounds_toArray, List.set_cons_zero, List.set_cons_succ]
        refine L_step (i := 11) (by kernel_rfl) rfl (fun K hK => ?_)
        refine step_append_lies _ (by rfl) _ _ _ (by rfl) 0 9 i0 (.string ByteArray.empty) 1 16 Tryz.underlying26 Hi1.out Hz0.out Hz1.out Hz2.out rfl (by omega) (.slice ia s.imgs.length ic) s.imgs.length (s.imgs.map str) (by rfl) (HOwn5.out _ (HB5.out.alloc HB5.out.size _)) ⟨w5.heap.size, 0, none⟩ 1 1 [str k] (by rfl) (by rfl) (World.news_of_block (heap_alloc_new w5 _)) (fun x hx => by simp at hx; subst hx; rfl) (by omega) (by unfold maxLen; omega) (by omega) (Nat.zero_le _) _ rfl ?_
        intro g cap w6 hown hgro hat hlt
        have HOwn := Lib.hid hown
        have HGro := Lib.hid hgro
        have HAt := Lib.hid hat
        clear hown hgro hat
        refine hK.out _ _ (fun _ => (HD6.out _ _ (HB5.out.alloc HB5.out.size _) HGro.out)) (fun _ => ?_)
        clear hK K
        try simp only [Act.put, List.getElem_toArray, List.getElem_cons_succ, List.getElem_cons_zero, List.setIfInBounds_toArray, List.set_cons_zero, List.set_cons_succ]
        obtain ⟨e3, e3f, ew⟩ := HF6.out _ _ (HB5.out.alloc HB5.out.size _) HGro.out
        refine L_step (i := 12) (by kernel_rfl) rfl (fun K hK => ?_)
        go_simp
        refine hK.out _ _ (fun _ => (HD6.out _ _ (HB5.out.alloc HB5.out.size _) HGro.out)) (fun _ => ?_)
        clear hK K
        try simp only [Act.put, List.getElem_toArray, List.getElem_cons_succ, List.getElem_cons_zero, List.setIfInBounds_toArray, List.set_cons_zero, List.set_cons_succ]
        refine L_step (i := 13) (by kernel_rfl) rfl (fun K hK => ?_)
        go_simp
        refine hK.out _ _ (fun _ => (HD6.out _ _ (HB5.out.alloc HB5.out.size _) HGro.out)) (fun _ => ?_)
        clear hK K
        try simp only [Act.put, List.getElem_toArray, List.getElem_cons_succ, List.getElem_cons_zero, List.setIfInBounds_toArray, List.set_cons_zero, List.set_cons_succ]
        refine L_take (i := 14) (v := ?_) rfl (by kernel_rfl) (by kernel_rfl) (by kernel_rfl) (by kernel_rfl) (fun _ _ _ h => h) (Or.inl ⟨by rfl, ?_⟩) (HD6.out _ _ (HB5.out.alloc HB5.out.size _) HGro.out) ?_
        rotate_left
        · intro W hW; obtain ⟨k3, kw⟩ := hW; go_simp; try with_reducible rfl
        try simp only [Act.put, List.getElem_toArray, List.getElem_cons_succ, List.getElem_cons_zero, List.setIfInBounds_toArray, List.set_cons_zero, List.set_cons_succ]
        refine L_step (i := 15) (by kernel_rfl) rfl (fun K hK => ?_)
        go_simp
        refine hK.out _ _ (fun e => absurd rfl e) (fun _ => ?_)
        clear hK K
        try simp only [Act.put, List.getElem_toArray, List.getElem_cons_succ, List.getElem_cons_zero, List.setIfInBounds_toArray, List.set_cons_zero, List.set_cons_succ]
        refine E_done (by kernel_rfl) ?_ _
        have hA := HBw.out.trans ((HB5.out.alloc HB5.out.size (.cells #[str k] 9)).mono (Nat.le_of_eq HSz.out.symm))
        have hG : (w5.alloc (.cells #[str k] 9)).grownBy w6 iv.ownBlock := by rw [HIv.out]; exact HGro.out
        have HR6 := Lib.hid ((HR4.out.below hA).appI (x := k) hG (by rw [List.map_append]; exact HOwn.out))
        have HM6 := Lib.hid ((HM4.out.trans (Mod.of_below hA (foot b ev iv av)) fun _ _ g => .inl g).trans (grown_mod hG) fun j _ hj => .inl (.inr (.inr (.inl hj))))
        have HS6 : Hid (w.heap.size ≤ (w5.alloc (.cells #[str k] 9)).heap.size) := Lib.hid (Nat.le_trans HM4.out.size hA.size)
        clear hA hG
        go_wp2
        go_end0
        refine HYes.out _ _ _ _ _ _ HV.out (HM6.out.setCell ⟨b, 3, none⟩ (.inl (.inl rfl)) _) HR6.out fun j hj => ?_
        rcases hj with hj | hj | hj | hj
        · exact .inl (.inl hj)
        · exact .inl (.inr (.inl hj))
        · simp only [Value.ownBlock, Option.some.injEq] at hj
          subst hj
          rcases HAt.out with e | e
          · exact .inl (.inr (.inr (.inl (by rw [HIv.out]; exact e))))
          · exact .inr (by rw [e]; exact HS6.out)
        · exact .inl (.inr (.inr (.inr hj)))
    · have HV : Hid (lineT s n f t = none) := Lib.hid (HLk.out.trans (by
        match r, hrl with
        | [], _ => rfl
        | [y], h => exact absurd rfl h
        | _ :: _ :: _, _ => rfl))
      have hlb : (((r.length : Int) + 1) == 2) = false := beq_eq_false_iff_ne.2 (by omega)
      clear hrl
      simp only [List.length_cons] at *
      go_wp2_with fail
      refine (no1 (x := false) (by go_simp) rfl).mono ?_
      rintro e w4 ⟨rfl, rfl⟩
      have hA := (Below.refl wc.heap.size wc).alloc (Nat.le_refl _) (.cells #[.bool false] 4)
      exact ⟨rfl, HNo.out _ HV.out (HMc.out.trans (Mod.of_below hA (foot b ev iv av)) fun _ _ g => .inl g) (HRc.out.below hA).n5⟩
set_option maxRecDepth 100000 in
set_option maxHeartbeats 2000000 in
theorem line_act {w : World} {b : Nat} {ev iv av : Value} {s : Sc} {n : Int} {f : Bool} {t x : Tx} {r : List Tx} (h : Laid w) (hr : Rdr w b ev iv av s n f) (hal : s.acts.length ≤ 1048576) (ht : t.length ≤ 1048576) (hw : wordsT t = some (x :: r)) (hn0 : n ≠ 0) (hn1 : n ≠ 1) (hxi : x ≠ imgW) :
    Calls Tryz.prog 32 #[.pointer (some ⟨b, 0, none⟩), str t] w (LineP w b ev iv av s n f t) := by
  have HYes := Lib.hid fun V s' f' ev' iv' av' => LineP.yes (w := w) (w' := V) (b := b) (ev := ev) (iv := iv) (av := av) (ev' := ev') (iv' := iv') (av' := av') (s := s) (s' := s') (n := n) (f := f) (f' := f') (t := t)
  have HNo := Lib.hid fun V => LineP.no (w := w) (w' := V) (b := b) (ev := ev) (iv := iv) (av := av) (s := s) (n := n) (f := f) (t := t)
  have HLt : Hid (lineT s n f t = lineW s n f (x :: r)) := Lib.hid (by unfold lineT; rw [hw]; rfl)
  have HW := Lib.hid (words t ht h)
  have HLd := Lib.hid h
  have HR := Lib.hid hr
  have HWn := Lib.hid hw
  obtain ⟨hl1, hl2⟩ := words_lens hw
  generalize LineP w b ev iv av s n f t = PQ at *
  clear h hr hw
  have hnb0 : (n == 0) = false := beq_eq_false_iff_ne.2 hn0
  have hnb1 : (n == 1) = false := beq_eq_false_iff_ne.2 hn1
  have HLi : Hid (lineT s n f t = (readA (x :: r)).map fun a => ({ s with acts := s.acts ++ [a] }, true)) := Lib.hid (HLt.out.trans (by unfold lineW; rw [if_neg hn0, if_neg hn1]; exact if_neg hxi))
  clear HLt hn0 hn1
  unfold str at *
  go_enter Tryz.func32, Tryz.ntmps32
  go_wp2_with fail
  refine HW.out.mono ?_
  rintro e w1 ⟨hb, hm⟩
  rw [HWn.out] at hm
  obtain ⟨hne, wb, rfl, hrow, hwb⟩ := hm
  have HR1 := Lib.hid (HR.out.below hb)
  have HRow := Lib.hid hrow
  have HMo := Lib.hid (Mod.of_below hb (foot b ev iv av))
  obtain ⟨c0, c1, c2, c3, c4, c5, c6, cf⟩ := rdr_cells HR1.out.blk
  have hx0 : w1.cell? ⟨wb, 0, none⟩ = some (.string ⟨x.toArray⟩) := hrow.cell rfl
  have hzw := lt_of_block hrow
  have hzr := lt_of_block HR1.out.blk
  have hfr : ¬ foot b ev iv av wb := fun hf => by have := HR.out.foot_lt _ hf; omega
  have HFr := Lib.hid hfr
  have hxb : (x == [105, 109, 97, 103, 101]) = false := beq_eq_false_iff_ne.2 hxi
  have HLw1 := Lib.hid (HLd.out.step hb)
  clear hb hrow hne hfr HW
  obtain ⟨aa, ac, hav⟩ : ∃ aa ac, av = .slice aa s.acts.length ac := by
    rcases HR1.out.a.2 with ⟨h1, h2⟩ | ⟨g, cap, cur, h1, _⟩
    · exact ⟨none, 0, by rw [h1, h2]⟩
    · exact ⟨_, _, h1⟩
  have HAv := Lib.hid hav
  rw [hav] at c4
  have h4 := c4
  clear hav hxi
  go_upto_region 1 with fail
  have HD : Hid (w1.drew.cell? ⟨b, 4, none⟩ = some (.slice aa s.acts.length ac)) := Lib.hid h4
  have HDB : Hid (∀ V, Below w1.drew.heap.size w1.drew V → V.cell? ⟨b, 4, none⟩ = some (.slice aa s.acts.length ac)) := Lib.hid fun V hV => (World.cell?_of_block (w := w1) (hV.block _ hzr)).trans h4
  have HBw : Hid (Below w1.heap.size w1 w1.drew) := Lib.hid (Below.refl _ _).drew
  have HSz : Hid (w1.drew.heap.size = w1.heap.size) := Lib.hid rfl
  have HRa : Hid (Calls Tryz.prog 46 #[.slice (some ⟨wb, 0, none⟩) (r.length + 1) (r.length + 1)] w1.drew (Got acV (readA (x :: r)) w1.drew)) := Lib.hid (readAct (c := 0) (HLw1.out.step HBw.out) HRow.out (fun y hy => Nat.le_trans (hl1 y hy) ht) (by simp at hl2; omega))
  clear c0 c1 c2 c3 c4 c5 c6 cf hx0 h4 hl1
  cases hra : readA (x :: r) with
  | none =>
    have HBt := Lib.hid hra
    have HV : Hid (lineT s n f t = none) := Lib.hid (HLi.out.trans (by rw [hra]; rfl))
    clear hra
    refine wp_region_F (fun w' => w'.cell? ⟨b, 4, none⟩ = some (.slice aa s.acts.length ac)) 14 (by kernel_rfl) ?_
    change AnyF _ _ _ _ _ _ _ _ _ w1.drew
    generalize hwd : w1.drew = wd at *
    refine K_take (i := 0) (v := ?_) rfl (by kernel_rfl) (by kernel_rfl) (by kernel_rfl) (by kernel_rfl) (by kernel_rfl) (fun _ _ _ h => h) (Or.inl ⟨by rfl, ?_⟩) HD.out ?_
    rotate_left
    · intro W hW; obtain k4 := hW; go_simp; try with_reducible rfl
    try simp only [Act.put, List.getElem_toArray, List.getElem_cons_succ, List.getElem_cons_zero, List.setIfInBounds_toArray, List.set_cons_zero, List.set_cons_succ]
    refine K_takeT (i := 1) (v := ?_) rfl (by decide) (by kernel_rfl) (by kernel_rfl) (by kernel_rfl) (fun _ _ _ h => h) (Or.inl ⟨by rfl, ?_⟩) (fun _ => HD.out) ?_
    rotate_left
    · intro W hW; clear hW; go_simp; try with_reducible rfl
    try simp only [Act.put, List.getElem_toArray, List.getElem_cons_succ, List.getElem_cons_zero, List.setIfInBounds_toArray, List.set_cons_zero, List.set_cons_succ]
    refine K_take (i := 2) (v := ?_) rfl (by kernel_rfl) (by kernel_rfl) (by kernel_rfl) (by kernel_rfl) (by kernel_rfl) (fun _ _ _ h => h) (Or.inl ⟨by rfl, ?_⟩) HD.out ?_
    rotate_left
    · intro W hW; obtain k4 := hW; go_simp; try with_reducible rfl
    try simp only [Act.put, List.getElem_toArray, List.getElem_cons_succ, List.getElem_cons_zero, List.setIfInBounds_toArray, List.set_cons_zero, List.set_cons_succ]
    refine K_take (i := 3) (v := ?_) rfl (by kernel_rfl) (by kernel_rfl) (by kernel_rfl) (by kernel_rfl) (by kernel_rfl) (fun _ _ _ h => h) (Or.inl ⟨by rfl, ?_⟩) HD.out ?_
    rotate_left
    · intro W hW; obtain k4 := hW; go_simp; try with_reducible rfl
    try simp only [Act.put, List.getElem_toArray, List.getElem_cons_succ, List.getElem_cons_zero, List.setIfInBounds_toArray, List.set_cons_zero, List.set_cons_succ]
    refine K_take (i := 4) (v := ?_) rfl (by kernel_rfl) (by kernel_rfl) (by kernel_rfl) (by kernel_rfl) (by kernel_rfl) (fun _ _ _ h => h) (Or.inl ⟨by rfl, ?_⟩) HD.out ?_
    rotate_left
    · intro W hW; obtain k4 := hW; go_simp; try with_reducible rfl
    try simp only [Act.put, List.getElem_toArray, List.getElem_cons_succ, List.getElem_cons_zero, List.setIfInBounds_toArray, List.set_cons_zero, List.set_cons_succ]
    refine K_take (i := 5) (v := ?_) rfl (by kernel_rfl) (by kernel_rfl) (by kernel_rfl) (by kernel_rfl) (by kernel_rfl) (fun _ _ _ h => h) (Or.inl ⟨by rfl, ?_⟩) HD.out ?_
    rotate_left
    · intro W hW; obtain k4 := hW; go_simp; try with_reducible rfl
    try simp only [Act.put, List.getElem_toArray, List.getElem_cons_succ, List.getElem_cons_zero, List.setIfInBounds_toArray, List.set_cons_zero, List.set_cons_succ]
    refine K_take (i := 6) (v := ?_) rfl (by kernel_rfl) (by kernel_rfl) (by kernel_rfl) (by kernel_rfl) (by kernel_rfl) (fun _ _ _ h => h) (Or.inl ⟨by rfl, ?_⟩) HD.out ?_
    rotate_left
    · intro W hW; obtain k4 := hW; go_simp; try with_reducible rfl
    try simp only [Act.put, List.getElem_toArray, List.getElem_cons_succ, List.getElem_cons_zero, List.setIfInBounds_toArray, List.set_cons_zero, List.set_cons_succ]
    refine K_take (i := 7) (v := ?_) rfl (by kernel_rfl) (by kernel_rfl) (by kernel_rfl) (by kernel_rfl) (by kernel_rfl) (fun _ _ _ h => h) (Or.inl ⟨by rfl, ?_⟩) HD.out ?_
    rotate_left
    · intro W hW; obtain k4 := hW; go_simp; try with_reducible rfl
    try simp only [Act.put, List.getElem_toArray, List.getElem_cons_succ, List.getElem_cons_zero, List.setIfInBounds_toArray, List.set_cons_zero, List.set_cons_succ]
    refine K_step (i := 8) (by kernel_rfl) rfl (fun K hK => ?_)
    go_simp
    go_at_call 46
    refine HRa.out.mono ?_
    rintro e w5 ⟨he, hb⟩
    rw [HBt.out] at he
    subst he
    have HB5 := Lib.hid hb
    clear hb
    have hA := HBw.out.trans (HB5.out.mono (Nat.le_of_eq HSz.out.symm))
    exact ⟨rfl, HNo.out _ HV.out (HMo.out.trans (Mod.of_below hA (foot b ev iv av)) fun _ _ g => .inl g) (HR1.out.below hA).n5⟩
  | some k =>
    have HBt := Lib.hid hra
    have HV : Hid (lineT s n f t = some ({ s with acts := s.acts ++ [k] }, true)) := Lib.hid (HLi.out.trans (by rw [hra]; rfl))
    obtain ⟨i0, hi1, hz0, hz1, hz2⟩ := info_parts info_act
    have Hi1 := Lib.hid hi1
    have Hz0 := Lib.hid hz0
    have Hz1 := Lib.hid hz1
    have Hz2 := Lib.hid hz2
    have HOwn5 : Hid (∀ V, Below w1.drew.heap.size w1.drew V → V.ownsRow 0 44 4 (.slice aa s.acts.length ac) s.acts.length (s.acts.flatMap acC)) := Lib.hid fun V hV => by
      have := (HR1.out.below (HBw.out.trans (hV.mono (Nat.le_of_eq HSz.out.symm)))).a
      rw [HAv.out] at this
      exact this
    have HF6 : Hid (∀ V U, Below w1.drew.heap.size w1.drew V → V.grownBy U (Value.slice aa s.acts.length ac).ownBlock → U.cell? ⟨b, 4, none⟩ = some (.slice aa s.acts.length ac) ∧ U.frozen? ⟨b, 4, none⟩ = false ∧ U.frozen? ⟨b, 6, none⟩ = false ∧ U.cell? ⟨b, 6, none⟩ = some (.bool f)) := Lib.hid fun V U hV hU => by
      have hVb := hV.mono (Nat.le_of_eq HSz.out.symm)
      have hR := HR1.out.below (HBw.out.trans hVb)
      have hbk := ((grown_mod hU).block _ (lt_of_block hR.blk) (by rw [← HAv.out]; exact own_ne hR.a hR.blk (by decide))).trans hR.blk
      have hc := rdr_cells hbk
      exact ⟨by rw [hc.2.2.2.2.1, HAv.out], hc.2.2.2.2.2.2.2 4, hc.2.2.2.2.2.2.2 6, hc.2.2.2.2.2.2.1⟩
    clear hra hi1 hz0 hz1 hz2
    refine wp_region_F (fun w' => w'.cell? ⟨b, 4, none⟩ = some (.slice aa s.acts.length ac)) 14 (by kernel_rfl) ?_
    change AnyF _ _ _ _ _ _ _ _ _ w1.drew
    generalize hwd : w1.drew = wd at *
    refine K_take (i := 0) (v := ?_) rfl (by kernel_rfl) (by kernel_rfl) (by kernel_rfl) (by kernel_rfl) (by kernel_rfl) (fun _ _ _ h => h) (Or.inl ⟨by rfl, ?_⟩) HD.out ?_
    rotate_left
    · intro W hW; obtain k4 := hW; go_simp; try with_reducible rfl
    try simp only [Act.put, List.getElem_toArray, List.getElem_cons_succ, List.getElem_cons_zero, List.setIfInBounds_toArray, List.set_cons_zero, List.set_cons_succ]
    refine K_takeT (i := 1) (v := ?_) rfl (by decide) (by kernel_rfl) (by kernel_rfl) (by kernel_rfl) (fun _ _ _ h => h) (Or.inl ⟨by rfl, ?_⟩) (fun _ => HD.out) ?_
    rotate_left
    · intro W hW; clear hW; go_simp; try with_reducible rfl
    try simp only [Act.put, List.getElem_toArray, List.getElem_cons_succ, List.getElem_cons_zero, List.setIfInBounds_toArray, List.set_cons_zero, List.set_cons_succ]
    refine K_take (i := 2) (v := ?_) rfl (by kernel_rfl) (by kernel_rfl) (by kernel_rfl) (by kernel_rfl) (by kernel_rfl) (fun _ _ _ h => h) (Or.inl ⟨by rfl, ?_⟩) HD.out ?_
    rotate_left
    · intro W hW; obtain k4 := hW; go_simp; try with_reducible rfl
    try simp only [Act.put, List.getElem_toArray, List.getElem_cons_succ, List.getElem_cons_zero, List.setIfInBounds_toArray, List.set_cons_zero, List.set_cons_succ]
    refine K_take (i := 3) (v := ?_) rfl (by kernel_rfl) (by kernel_rfl) (by kernel_rfl) (by kernel_rfl) (by kernel_rfl) (fun _ _ _ h => h) (Or.inl ⟨by rfl, ?_⟩) HD.out ?_
    rotate_left
    · intro W hW; obtain k4 := hW; go_simp; try with_reducible rfl
    try simp only [Act.put, List.getElem_toArray, List.getElem_cons_succ, List.getElem_cons_zero, List.setIfInBounds_toArray, List.set_cons_zero, List.set_cons_succ]
    refine K_take (i := 4) (v := ?_) rfl (by kernel_rfl) (by kernel_rfl) (by kernel_rfl) (by kernel_rfl) (by kernel_rfl) (fun _ _ _ h => h) (Or.inl ⟨by rfl, ?_⟩) HD.out ?_
    rotate_left
    · intro W hW; obtain k4 := hW; go_simp; try with_reducible rfl
    try simp only [Act.put, List.getElem_toArray, List.getElem_cons_succ, List.getElem_cons_zero, List.setIfInBounds_toArray, List.set_cons_zero, List.set_cons_succ]
    refine K_take (i := 5) (v := ?_) rfl (by kernel_rfl) (by kernel_rfl) (by kernel_rfl) (by kernel_rfl) (by kernel_rfl) (fun _ _ _ h => h) (Or.inl ⟨by rfl, ?_⟩) HD.out ?_
    rotate_left
    · intro W hW; obtain k4 := hW; go_simp; try with_reducible rfl
    try simp only [Act.put, List.getElem_toArray, List.getElem_cons_succ, List.getElem_cons_zero, List.setIfInBounds_toArray, List.set_cons_zero, List.set_cons_succ]
    refine K_take (i := 6) (v := ?_) rfl (by kernel_rfl) (by kernel_rfl) (by kernel_rfl) (by kernel_rfl) (by kernel_rfl) (fun _ _ _ h => h) (Or.inl ⟨by rfl, ?_⟩) HD.out ?_
    rotate_left
    · intro W hW; obtain k4 := hW; go_simp; try with_reducible rfl
    try simp only [Act.put, List.getElem_toArray, List.getElem_cons_succ, List.getElem_cons_zero, List.setIfInBounds_toArray, List.set_cons_zero, List.set_cons_succ]
    refine K_take (i := 7) (v := ?_) rfl (by kernel_rfl) (by kernel_rfl) (by kernel_rfl) (by kernel_rfl) (by kernel_rfl) (fun _ _ _ h => h) (Or.inl ⟨by rfl, ?_⟩) HD.out ?_
    rotate_left
    · intro W hW; obtain k4 := hW; go_simp; try with_reducible rfl
    try simp only [Act.put, List.getElem_toArray, List.getElem_cons_succ, List.getElem_cons_zero, List.setIfInBounds_toArray, List.set_cons_zero, List.set_cons_succ]
    refine K_step (i := 8) (by kernel_rfl) rfl (fun K hK => ?_)
    go_simp
    go_at_call 46
    refine HRa.out.mono ?_
    rintro e w5 ⟨he, hb⟩
    rw [HBt.out] at he
    subst he
    have HB5 := Lib.hid hb
    clear hb
    refine hK.out _ _ (fun _ => (HDB.out _ HB5.out)) (fun _ => ?_)
    clear hK K
    try simp only [Act.put, List.getElem_toArray, List.getElem_cons_succ, List.getElem_cons_zero, List.setIfInBounds_toArray, List.set_cons_zero, List.set_cons_succ]
    refine K_step (i := 9) (by kernel_rfl) rfl (fun K hK => ?_)
    unfold acV acC str
    go_simp
    refine hK.out _ _ (fun _ => (HDB.out _ (HB5.out.alloc HB5.out.size _))) (fun _ => ?_)
    clear hK K
    try simp only [Act.put, List.getElem_toArray, List.getElem_cons_succ, List.getElem_cons_zero, List.setIfInBounds_toArray, List.set_cons_zero, List.set_cons_succ]
    refine K_step (i := 10) (by kernel_rfl) rfl (fun K hK => ?_)
    refine step_append_lies _ (by rfl) _ _ _ (by rfl) 0 44 i0 (.agg #[.int .u8 0, .int .i64 0, .int .i64 0, .string ByteArray.empty]) 4 40 Tryz.underlying27 Hi1.out Hz0.out Hz1.out Hz2.out rfl (by omega) (.slice aa s.acts.length ac) s.acts.length (s.acts.flatMap acC) (by rfl) (HOwn5.out _ (HB5.out.alloc HB5.out.size _)) ⟨w5.heap.size, 0, none⟩ 1 1 (acC k) (by rfl) (by rfl) (World.news_of_block (heap_alloc_new w5 _)) (fun x hx => by simp [acC, str] at hx; rcases hx with rfl | rfl | rfl | rfl <;> rfl) (by omega) (by unfold maxLen; omega) (by omega) (Nat.zero_le _) _ rfl ?_
    intro g cap w6 hown hgro hat hlt
    have HOwn := Lib.hid hown
    have HGro := Lib.hid hgro
    have HAt := Lib.hid hat
    clear hown hgro hat
    refine hK.out _ _ (fun _ => (HF6.out _ _ (HB5.out.alloc HB5.out.size _) HGro.out).1) (fun _ => ?_)
    clear hK K
    try simp only [Act.put, List.getElem_toArray, List.getElem_cons_succ, List.getElem_cons_zero, List.setIfInBounds_toArray, List.set_cons_zero, List.set_cons_succ]
    obtain ⟨e4, e4f, e6f, e6⟩ := HF6.out _ _ (HB5.out.alloc HB5.out.size _) HGro.out
    refine K_takeT (i := 11) (v := ?_) rfl (by decide) (by kernel_rfl) (by kernel_rfl) (by kernel_rfl) (fun _ _ _ h => h) (Or.inl ⟨by rfl, ?_⟩) (fun _ => (HF6.out _ _ (HB5.out.alloc HB5.out.size _) HGro.out).1) ?_
    rotate_left
    · intro W hW; clear hW; go_simp; try with_reducible rfl
    try simp only [Act.put, List.getElem_toArray, List.getElem_cons_succ, List.getElem_cons_zero, List.setIfInBounds_toArray, List.set_cons_zero, List.set_cons_succ]
    refine K_takeT (i := 12) (v := ?_) rfl (by decide) (by kernel_rfl) (by kernel_rfl) (by kernel_rfl) (fun _ _ _ h => h) (Or.inl ⟨by rfl, ?_⟩) (fun _ => (HF6.out _ _ (HB5.out.alloc HB5.out.size _) HGro.out).1) ?_
    rotate_left
    · intro W hW; clear hW; go_simp; try with_reducible rfl
    try simp only [Act.put, List.getElem_toArray, List.getElem_cons_succ, List.getElem_cons_zero, List.setIfInBounds_toArray, List.set_cons_zero, List.set_cons_succ]
    refine K_take (i := 13) (v := ?_) rfl (by kernel_rfl) (by kernel_rfl) (by kernel_rfl) (by kernel_rfl) (by kernel_rfl) (fun _ _ _ h => h) (Or.inl ⟨by rfl, ?_⟩) (HF6.out _ _ (HB5.out.alloc HB5.out.size _) HGro.out).1 ?_
    rotate_left
    · intro W hW; obtain k4 := hW; go_simp; try with_reducible rfl
    try simp only [Act.put, List.getElem_toArray, List.getElem_cons_succ, List.getElem_cons_zero, List.setIfInBounds_toArray, List.set_cons_zero, List.set_cons_succ]
    refine K_step (i := 14) (by kernel_rfl) rfl (fun K hK => ?_)
    go_simp
    refine hK.out _ _ (fun e => absurd e (by decide)) (fun _ => ?_)
    clear hK K
    try simp only [Act.put, List.getElem_toArray, List.getElem_cons_succ, List.getElem_cons_zero, List.setIfInBounds_toArray, List.set_cons_zero, List.set_cons_succ]
    refine K_step (i := 15) (by kernel_rfl) rfl (fun K hK => ?_)
    go_simp
    refine hK.out _ _ (fun e => absurd e (by decide)) (fun _ => ?_)
    clear hK K
    try simp only [Act.put, List.getElem_toArray, List.getElem_cons_succ, List.getElem_cons_zero, List.setIfInBounds_toArray, List.set_cons_zero, List.set_cons_succ]
    refine K_step (i := 16) (by kernel_rfl) rfl (fun K hK => ?_)
    go_simp
    refine hK.out _ _ (fun e => absurd e (by decide)) (fun _ => ?_)
    clear hK K
    try simp only [Act.put, List.getElem_toArray, List.getElem_cons_succ, List.getElem_cons_zero, List.setIfInBounds_toArray, List.set_cons_zero, List.set_cons_succ]
    refine K_step (i := 17) (by kernel_rfl) rfl (fun K hK => ?_)
    go_simp
    refine hK.out _ _ (fun e => absurd e (by decide)) (fun _ => ?_)
    clear hK K
    try simp only [Act.put, List.getElem_toArray, List.getElem_cons_succ, List.getElem_cons_zero, List.setIfInBounds_toArray, List.set_cons_zero, List.set_cons_succ]
    refine F_done (by kernel_rfl) ?_ _
    have hA := HBw.out.trans ((HB5.out.alloc HB5.out.size (.cells (acC k).toArray 44)).mono (Nat.le_of_eq HSz.out.symm))
    have hG : (w5.alloc (.cells (acC k).toArray 44)).grownBy w6 av.ownBlock := by rw [HAv.out]; exact HGro.out
    have HR6 := Lib.hid (((HR1.out.below hA).appA (x := k) hG (by rw [List.flatMap_append]; simpa using HOwn.out)).set (s' := { s with acts := s.acts ++ [k] }) (n' := n) (f' := true) 6 (.bool true) rfl rfl rfl rfl)
    have HM6 := Lib.hid ((HMo.out.trans (Mod.of_below hA (foot b ev iv av)) fun _ _ g => .inl g).trans (grown_mod hG) fun j _ hj => .inl (.inr (.inr (.inr hj))))
    have HS6 : Hid (w.heap.size ≤ (w5.alloc (.cells (acC k).toArray 44)).heap.size) := Lib.hid (Nat.le_trans HMo.out.size hA.size)
    clear hA hG
    go_wp2
    go_end0
    refine HYes.out _ _ _ _ _ _ HV.out ((HM6.out.setCell ⟨b, 4, none⟩ (.inl (.inl rfl)) _).setCell ⟨b, 6, none⟩ (.inl (.inl rfl)) _) HR6.out fun j hj => ?_
    rcases hj with hj | hj | hj | hj
    · exact .inl (.inl hj)
    · exact .inl (.inr (.inl hj))
    · exact .inl (.inr (.inr (.inl hj)))
    · simp only [Value.ownBlock, Option.some.injEq] at hj
      subst hj
      rcases HAt.out with e | e
      · exact .inl (.inr (.inr (.inr (by rw [HAv.out]; exact e))))
      · exact .inr (by rw [e]; exact HS6.out)
theorem line {w : World} {b : Nat} {ev iv av : Value} {s : Sc} {n : Int} {f : Bool} {t : Tx} (h : Laid w) (hr : Rdr w b ev iv av s n f) (h100 : ∀ k, foot b ev iv av k → 8 ≤ k) (hs : n = 0 → s.pages = 0 ∧ s.exts = []) (hal : s.acts.length ≤ 1048576) (ht : t.length ≤ 1048576) :
    Calls Tryz.prog 32 #[.pointer (some ⟨b, 0, none⟩), str t] w (LineP w b ev iv av s n f t) := by
  cases hw : wordsT t with
  | none => exact line_none h hr ht hw
  | some l =>
    by_cases h0 : n = 0
    · subst h0; exact line_0 h hr h100 (hs rfl) ht hw
    · by_cases h1 : n = 1
      · subst h1; exact line_1 h hr ht hw
      · cases l with
        | nil => exact absurd rfl (words_ne hw)
        | cons x r =>
          by_cases hx : x = imgW
          · exact line_img h hr ht hw h0 h1 hx
          · exact line_act h hr hal ht hw h0 h1 hx
end Go.Proofs.YtohlgcdailconaaGreatDoor.Scr
