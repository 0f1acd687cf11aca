/- The walk of the document's line. -/
import Derived.Test.YtohlgcdailconaaGreatDoorScrUf
import Derived.Test.YtohlgcdailconaaGreatDoorScrQ
namespace Go.Proofs.YtohlgcdailconaaGreatDoor.Scr
open Go.RowKit Lib
set_option linter.unusedVariables false
set_option linter.unusedSimpArgs false
namespace R32
def LineR (w : World) (b : Nat) (ev iv av : Value) (s : Sc) (n : Int) (f : Bool) (t : Tx) (e : Ending) (w' : World) : Prop :=
  ∃ ok ev' iv' av' s' f', e = .returned (.bool ok) ∧ Mod (foot b ev iv av) w w' ∧ Rdr w' b ev' iv' av' s' (n + 1) f' ∧ (∀ k, foot b ev' iv' av' k → foot b ev iv av k ∨ w.heap.size ≤ k) ∧
    (ok = true ∧ lineT s n f t = some (s', f') ∨ ok = false ∧ lineT s n f t = none)
theorem lineT_0 (s : Sc) (f : Bool) (t : Tx) : lineT s 0 f t = ((wordsT t).bind machT).map fun st => ({ s with pages := st.1, exts := st.2 }, f) := by
  unfold lineT lineW
  cases wordsT t <;> rfl
theorem lineT_1y {s : Sc} {f : Bool} {t y b : Tx} (h : wordsT t = some [keyW, y]) (hb : bytesT y = some b) : lineT s 1 f t = some ({ s with key := b }, f) := by
  unfold lineT
  rw [h]
  show (if keyW = keyW then (bytesT y).map _ else none) = _
  rw [if_pos rfl, hb]
  rfl
theorem lineT_1n {s : Sc} {f : Bool} {t : Tx} (h : ∀ y, wordsT t = some [keyW, y] → bytesT y = none) : lineT s 1 f t = none := by
  unfold lineT
  cases hw : wordsT t with
  | none => rfl
  | some l =>
    rw [hw] at h
    show (match l with | [k, y] => if k = keyW then (bytesT y).map _ else none | _ => none) = none
    match l, h with
    | [], _ => rfl
    | [_], _ => rfl
    | _ :: _ :: _ :: _, _ => rfl
    | [k, y], h =>
      show (if k = keyW then (bytesT y).map _ else none) = none
      split
      · rename_i hk
        rw [h y (by rw [hk])]
        rfl
      · rfl
theorem lineT_ni {s : Sc} {n : Int} {f : Bool} {t y b : Tx} (hn : 2 ≤ n) (h : wordsT t = some [imgW, y]) (hb : bytesT y = some b) : lineT s n f t = if f = false ∧ s.imgs.length < 16 then some ({ s with imgs := s.imgs ++ [b] }, f) else none := by
  rw [lineT_of h, lineW_n hn, if_pos rfl]
  split
  · show (bytesT y).map _ = _
    rw [hb]
    rfl
  · rfl
theorem kind_img : kindI imgW = -1 := by decide
theorem lineT_na {s : Sc} {n : Int} {f : Bool} {t : Tx} (hn : 2 ≤ n) (h : f = true ∨ ∀ y, wordsT t = some [imgW, y] → bytesT y = none) : lineT s n f t = ((wordsT t).bind readA).map fun a => ({ s with acts := s.acts ++ [a] }, true) := by
  cases hw : wordsT t with
  | none => unfold lineT; rw [hw]; rfl
  | some l =>
    rw [lineT_of hw]
    have hne := words_ne hw
    obtain ⟨x, r, rfl⟩ : ∃ x r, l = x :: r := by cases l with | nil => exact absurd rfl hne | cons x r => exact ⟨x, r, rfl⟩
    rw [lineW_n hn]
    by_cases hx : x = imgW
    · subst hx
      have hr : readA (imgW :: r) = none := by
        show (if 0 < kindI imgW then readR (kindI imgW) r else none) = none
        rw [kind_img]
        rfl
      rw [if_pos rfl]
      show _ = (readA (imgW :: r)).map fun a => ({ s with acts := s.acts ++ [a] }, true)
      rw [hr]
      split
      · rename_i hf
        rcases h with h | h
        · rw [h] at hf; cases hf.1
        · match r, h with
          | [], _ => rfl
          | _ :: _ :: _, _ => rfl
          | [y], h =>
            show (bytesT y).map _ = none
            rw [h y hw]
            rfl
      · rfl
    · rw [if_neg hx]
      rfl
theorem foot4 {w : World} {b : Nat} {ev iv av ev' iv' av' : Value} (h1 : ∀ k, ev'.ownBlock = some k → ev.ownBlock = some k ∨ w.heap.size ≤ k) (h2 : ∀ k, iv'.ownBlock = some k → iv.ownBlock = some k ∨ w.heap.size ≤ k) (h3 : ∀ k, av'.ownBlock = some k → av.ownBlock = some k ∨ w.heap.size ≤ k) : ∀ k, foot b ev' iv' av' k → foot b ev iv av k ∨ w.heap.size ≤ k := by
  rintro k (hk | hk | hk | hk)
  · exact .inl (.inl hk)
  · exact (h1 k hk).imp (fun g => .inr (.inl g)) id
  · exact (h2 k hk).imp (fun g => .inr (.inr (.inl g))) id
  · exact (h3 k hk).imp (fun g => .inr (.inr (.inr g))) id
set_option maxRecDepth 100000 in
set_option maxHeartbeats 8000000 in
theorem line {w : World} {b : Nat} {ev iv av : Value} {s : Sc} {n : Int} {f : Bool} {t : Tx} (hr : Rdr w b ev iv av s n f) (hs : n = 0 → s.pages = 0 ∧ s.exts = []) (hn0 : 0 ≤ n) (hn1 : n ≤ 100000) (hil : s.imgs.length ≤ 100000) (hal : s.acts.length ≤ 100000) (ht : t.length ≤ 65536) :
    Calls Tryz.prog 33 #[.pointer (some ⟨b, 0, none⟩), str t] w (LineR w b ev iv av s n f t) := by
  have HNo := Lib.hid fun V ev' iv' av' s' f' (hm : Mod (foot b ev iv av) w V) (hR : Rdr V b ev' iv' av' s' (n + 1) f') (hk : ∀ k, foot b ev' iv' av' k → foot b ev iv av k ∨ w.heap.size ≤ k) (h : lineT s n f t = none) => (show LineR w b ev iv av s n f t (.returned (.bool false)) V from ⟨false, ev', iv', av', s', f', rfl, hm, hR, hk, .inr ⟨rfl, h⟩⟩)
  have HYes := Lib.hid fun V ev' iv' av' s' f' (hm : Mod (foot b ev iv av) w V) (hR : Rdr V b ev' iv' av' s' (n + 1) f') (hk : ∀ k, foot b ev' iv' av' k → foot b ev iv av k ∨ w.heap.size ≤ k) (h : lineT s n f t = some (s', f')) => (show LineR w b ev iv av s n f t (.returned (.bool true)) V from ⟨true, ev', iv', av', s', f', rfl, hm, hR, hk, .inl ⟨rfl, h⟩⟩)
  generalize LineR w b ev iv av s n f t = PQ at *
  obtain ⟨c0, c1, c2, c3, c4, c5, c6, cf⟩ := rdr_cells hr.blk
  have HR1 := Lib.hid (hr.set (s' := s) (n' := n + 1) (f' := f) 5 (.int .i64 (n + 1)) rfl rfl rfl rfl)
  have HM1 := Lib.hid ((Mod.refl (foot b ev iv av) w).setCell ⟨b, 5, none⟩ (.inl (.inl rfl)) (.int .i64 (n + 1)))
  have HSz : Hid ((w.setCell ⟨b, 5, none⟩ (.int .i64 (n + 1))).heap.size = w.heap.size) := Lib.hid (by simp)
  have hz := lt_of_block hr.blk
  have HW5 : Hid (∀ V (k : Nat), Mod (foot b ev iv av) (w.setCell ⟨b, 5, none⟩ (.int .i64 (n + 1))) V → Mod (foot b ev iv av) w V) := Lib.hid fun V k hV => HM1.out.trans hV fun _ _ g => .inl g
  clear hr
  unfold str
  have hni : ((n : Int) + 1 == 1) = decide (n = 0) := by
    by_cases e : n = 0
    · rw [decide_eq_true e]; subst e; rfl
    · rw [decide_eq_false e]; exact beq_eq_false_iff_ne.2 (by omega)
  by_cases h0 : n = 0
  · subst h0
    have HM := Lib.hid (machine HR1.out (hs rfl) ht)
    unfold str at HM
    clear hni
    go_enter Tryz.func33, Tryz.ntmps33
    go_wp2_with fail
    refine HM.out.mono ?_
    rintro e w2 ⟨ok, ev', s', rfl, hm, hR, hk, hcase⟩
    have hk2 : ∀ k, ev'.ownBlock = some k → ev.ownBlock = some k ∨ w.heap.size ≤ k := fun k hk' => (hk k hk').imp id fun g => by rw [← HSz.out]; exact g
    have HF := Lib.hid (foot4 (w := w) (b := b) (iv := iv) (av := av) hk2 (fun k h => .inl h) (fun k h => .inl h))
    have HMm := Lib.hid (HW5.out _ 0 hm)
    have HR := Lib.hid hR
    clear hm hR hk hk2
    rcases hcase with ⟨rfl, st, h, rfl⟩ | ⟨rfl, h⟩
    · have HV : Hid (lineT s 0 f t = some ({ s with pages := st.1, exts := st.2 }, f)) := Lib.hid (by rw [lineT_0, h]; rfl)
      clear h
      go_wp2
      exact HYes.out _ _ _ _ _ _ HMm.out HR.out HF.out HV.out
    · have HV : Hid (lineT s 0 f t = none) := Lib.hid (by rw [lineT_0, h]; rfl)
      clear h
      go_wp2
      exact HNo.out _ _ _ _ _ _ HMm.out HR.out HF.out HV.out
  · rw [decide_eq_false h0] at hni
    by_cases h1 : n = 1
    · subst h1
      have HT := Lib.hid fun V => told t keyW ht V
      unfold str keyW at HT
      clear hni h0
      go_enter Tryz.func33, Tryz.ntmps33
      go_wp2_with fail
      refine (HT.out _).mono ?_
      rintro e w2 ⟨hb, k, ok, rfl, hcase⟩
      have HR2 := Lib.hid (HR1.out.below hb)
      have HM2 := Lib.hid (HW5.out _ 0 (Mod.of_below hb (foot b ev iv av)))
      have HRk := Lib.hid (HR2.out.set (s' := { s with key := k }) (n' := 1 + 1) (f' := f) 2 (str k) rfl rfl rfl rfl)
      have HMk := Lib.hid (HM2.out.setCell ⟨b, 2, none⟩ (.inl (.inl rfl)) (str k))
      clear hb c0 c1 c2 c3 c4 c5 c6 cf
      obtain ⟨c0, c1, c2, c3, c4, c5, c6, cf⟩ := rdr_cells HR2.out.blk
      have hz2 := lt_of_block HR2.out.blk
      unfold str at HRk HMk ⊢
      rcases hcase with ⟨rfl, y, h, h2⟩ | ⟨rfl, h⟩
      · have HV : Hid (lineT s 1 f t = some ({ s with key := k }, f)) := Lib.hid (lineT_1y h h2)
        clear h h2
        go_wp2
        exact HYes.out _ _ _ _ _ _ HMk.out HRk.out (fun k hk => .inl hk) HV.out
      · have HV : Hid (lineT s 1 f t = none) := Lib.hid (lineT_1n h)
        clear h
        go_wp2
        exact HNo.out _ _ _ _ _ _ HMk.out HRk.out (fun k hk => .inl hk) HV.out
    · have hn2 : 2 ≤ n := by omega
      have hni2 : ((n : Int) + 1 == 2) = false := beq_eq_false_iff_ne.2 (by omega)
      have HT := Lib.hid fun V => told t imgW ht V
      unfold str imgW at HT
      clear h0 h1 hs
      go_enter Tryz.func33, Tryz.ntmps33
      go_wp2_with fail
      refine (HT.out _).mono ?_
      rintro e w2 ⟨hb, k, ok, rfl, hcase⟩
      have HR2 := Lib.hid (HR1.out.below hb)
      have HM2 := Lib.hid (HW5.out _ 0 (Mod.of_below hb (foot b ev iv av)))
      clear hb c0 c1 c2 c3 c4 c5 c6 cf
      obtain ⟨c0, c1, c2, c3, c4, c5, c6, cf⟩ := rdr_cells HR2.out.blk
      have hz2 := lt_of_block HR2.out.blk
      have hsz2 := HM2.out.size
      unfold str
      have HAll : Hid ((ok = true ∧ f = false ∧ ∃ y, wordsT t = some [imgW, y] ∧ bytesT y = some k) ∨ ((ok && !f) = false ∧ lineT s n f t = ((wordsT t).bind readA).map fun a => ({ s with acts := s.acts ++ [a] }, true))) := Lib.hid (by
        rcases hcase with ⟨rfl, y, h, h2⟩ | ⟨rfl, h⟩
        · cases f with
          | true => exact .inr ⟨rfl, lineT_na hn2 (.inl rfl)⟩
          | false => exact .inl ⟨rfl, rfl, y, h, h2⟩
        · exact .inr ⟨rfl, lineT_na hn2 (.inr h)⟩)
      clear hcase
      rcases HAll.out with ⟨rfl, rfl, y, h, h2⟩ | ⟨hoff, hlt⟩
      · have HV : Hid (lineT s n false t = if s.imgs.length < 16 then some ({ s with imgs := s.imgs ++ [k] }, false) else none) := Lib.hid (by rw [lineT_ni hn2 h h2]; simp)
        clear h h2 HAll
        obtain ⟨i0, hi1, hz0, hz1, hz2'⟩ := info_parts info_str
        have Hi1 := Lib.hid hi1
        have Hz0 := Lib.hid hz0
        have Hz1 := Lib.hid hz1
        have Hz2 := Lib.hid hz2'
        clear hi1 hz0 hz1 hz2'
        go_wp2_with (at_builtin; refine wpList_append_lies _ (by rfl) _ _ _ (by rfl) 0 9 i0 (.string ByteArray.empty) 1 16 Tryz.underlying26 Hi1.out Hz0.out Hz1.out Hz2.out rfl (by omega) iv s.imgs.length (s.imgs.map str) (by rfl) (World.ownsRow.alloc HR2.out.i _) ⟨w2.heap.size, 0, none⟩ 1 1 [str k] (by rfl) (by rfl) (World.news_of_block (heap_alloc_new w2 _)) (fun x hx => by simp at hx; subst hx; rfl) (by omega) (by unfold maxLen; omega) (by omega) (Nat.zero_le _) _ rfl ?_; intro g4 cap w6 hown hgro hat hlt; have HOwn := Lib.hid hown; have HGro := Lib.hid hgro; have HAt := Lib.hid hat; have hb6 := ((grown_mod hgro).block _ (Nat.lt_of_lt_of_le hz2 (by simp)) (own_ne HR2.out.i HR2.out.blk (by decide))).trans ((Below.heap_alloc w2 _ _ hz2).trans HR2.out.blk); obtain ⟨e0, e1, e2, e3, e4, e5, e6, ef⟩ := rdr_cells hb6; have hz6 := lt_of_block hb6; clear hown hgro hat hb6)
        have HR4 := Lib.hid ((HR2.out.below ((Below.refl w2.heap.size w2).alloc (Nat.le_refl _) (.cells #[str k] 9))).appI (x := k) HGro.out (by rw [List.map_append]; exact HOwn.out))
        have HM4 := Lib.hid (((HM2.out.alloc (.cells #[str k] 9)).trans (grown_mod HGro.out) fun k _ hk => .inl (.inr (.inr (.inl hk)))).setCell ⟨b, 3, none⟩ (.inl (.inl rfl)) (.slice (some ⟨g4, 0, none⟩) (s.imgs.length + 1) cap))
        have HF4 := Lib.hid (foot4 (w := w) (b := b) (ev := ev) (iv := iv) (av := av) (ev' := ev) (av' := av) (iv' := .slice (some ⟨g4, 0, none⟩) (s.imgs.length + 1) cap) (fun k h => .inl h) (fun k h => by
          simp only [Value.ownBlock, Option.some.injEq] at h
          subst h
          rcases HAt.out with e | e
          · exact .inl e
          · have h2 : (w2.alloc (.cells #[.string ⟨k.toArray⟩] 9)).heap.size = w2.heap.size + 1 := by simp
            exact .inr (by omega)) (fun k h => .inl h))
        by_cases hi : s.imgs.length < 16
        · rw [if_pos hi] at HV
          have hd : decide ((s.imgs.length : Int) + 1 ≤ 16) = true := decide_eq_true (by omega)
          show PQ (.returned (.bool (decide ((s.imgs.length : Int) + 1 ≤ 16)))) _
          rw [hd]
          exact HYes.out _ _ _ _ _ _ HM4.out HR4.out HF4.out HV.out
        · rw [if_neg hi] at HV
          have hd : decide ((s.imgs.length : Int) + 1 ≤ 16) = false := decide_eq_false (by omega)
          show PQ (.returned (.bool (decide ((s.imgs.length : Int) + 1 ≤ 16)))) _
          rw [hd]
          exact HNo.out _ _ _ _ _ _ HM4.out HR4.out HF4.out HV.out
      · have HLt := Lib.hid hlt
        clear hlt HAll
        cases ok with
        | false =>
          clear hoff
          go_wp2_with fail
          refine (readAct t ht _).mono ?_
          rintro e w3 ⟨hb, a, bb, rfl, hcase⟩
          have HR3 := Lib.hid (HR2.out.below hb)
          have HM3 := Lib.hid (HM2.out.trans (Mod.of_below hb (foot b ev iv av)) fun _ _ g => .inl g)
          have HCase := Lib.hid hcase
          clear hb hcase c0 c1 c2 c3 c4 c5 c6 cf
          obtain ⟨d, na, m, tt⟩ := a
          have hne : b < w3.heap.size := lt_of_block HR3.out.blk
          have hR3a := HR3.out.set (s' := s) (n' := n + 1) (f' := true) 6 (.bool true) rfl rfl rfl rfl
          have hzs : (w3.setCell ⟨b, 6, none⟩ (.bool true)).heap.size = w3.heap.size := by simp
          have HR4 := Lib.hid (hR3a.below ((Below.refl _ _).alloc (Nat.le_refl _) (actBlk d na m tt)))
          have HM4 := Lib.hid ((HM3.out.setCell ⟨b, 6, none⟩ (.inl (.inl rfl)) (.bool true)).alloc (actBlk d na m tt))
          have HK4 : Hid (((w3.setCell ⟨b, 6, none⟩ (.bool true)).alloc (actBlk d na m tt)).heap[w3.heap.size]? = some (actBlk d na m tt)) := Lib.hid (by rw [← hzs]; exact heap_alloc_new _ _)
          obtain ⟨c0, c1, c2, c3, c4, c5, c6, cf⟩ := rdr_cells HR3.out.blk
          have hK4f : ¬ foot b ev iv av w3.heap.size := fun h => by have := HR3.out.foot_lt _ h; omega
          have hsz3 := HM3.out.size
          have HSz4 : Hid (((w3.setCell ⟨b, 6, none⟩ (.bool true)).alloc (actBlk d na m tt)).heap.size = w3.heap.size + 1) := Lib.hid (by simp)
          clear hR3a hzs
          unfold actBlk at *
          rw [acC_eq]
          go_upto_region 14 with fail
          generalize (w3.setCell ⟨b, 6, none⟩ (.bool true)).alloc (.cells #[.int .u8 d, .int .i64 na, .int .i64 m, .string ⟨tt.toArray⟩] 44) = w4 at *
          generalize w3.heap.size = k4 at *
          have hav : ∃ aa ac, av = .slice aa s.acts.length ac := (HR4.out.script).elim fun p h => ⟨p.aa, p.ac, h.2.2.2⟩
          obtain ⟨aa, ac, rfl⟩ := hav
          have h4 := (rdr_cells HR4.out.blk).2.2.2.2.1
          obtain ⟨b0, b1, b2, b3⟩ := four_of HK4.out
          have HD : Hid (w4.drew.cell? ⟨b, 4, none⟩ = some (.slice aa s.acts.length ac) ∧ w4.drew.cell? ⟨k4, 0, none⟩ = some (.int .u8 d) ∧ w4.drew.cell? ⟨k4, 1, none⟩ = some (.int .i64 na) ∧ w4.drew.cell? ⟨k4, 2, none⟩ = some (.int .i64 m) ∧ w4.drew.cell? ⟨k4, 3, none⟩ = some (.string ⟨tt.toArray⟩)) := Lib.hid ⟨h4, b0, b1, b2, b3⟩
          have hzb4 := lt_of_block HR4.out.blk
          have hzk4 := lt_of_block HK4.out
          have HDB : Hid (∀ V, Below w4.drew.heap.size w4.drew V → V.cell? ⟨b, 4, none⟩ = some (.slice aa s.acts.length ac) ∧ V.cell? ⟨k4, 0, none⟩ = some (.int .u8 d) ∧ V.cell? ⟨k4, 1, none⟩ = some (.int .i64 na) ∧ V.cell? ⟨k4, 2, none⟩ = some (.int .i64 m) ∧ V.cell? ⟨k4, 3, none⟩ = some (.string ⟨tt.toArray⟩)) := Lib.hid fun V hV => ⟨(World.cell?_of_block (w := w4) (hV.block _ hzb4)).trans h4, (World.cell?_of_block (w := w4) (hV.block _ hzk4)).trans b0, (World.cell?_of_block (w := w4) (hV.block _ hzk4)).trans b1, (World.cell?_of_block (w := w4) (hV.block _ hzk4)).trans b2, (World.cell?_of_block (w := w4) (hV.block _ hzk4)).trans b3⟩
          have HBw : Hid (Below w4.heap.size w4 w4.drew) := Lib.hid (Below.refl _ _).drew
          have HSz : Hid (w4.drew.heap.size = w4.heap.size) := Lib.hid rfl
          obtain ⟨i0, hi1, hz0, hz1, hz2'⟩ := info_parts info_act
          have Hi1 := Lib.hid hi1
          have Hz0 := Lib.hid hz0
          have Hz1 := Lib.hid hz1
          have Hz2 := Lib.hid hz2'
          have HOwn5 : Hid (∀ V, Below w4.drew.heap.size w4.drew V → V.ownsRow 0 44 4 (.slice aa s.acts.length ac) s.acts.length (s.acts.flatMap acC)) := Lib.hid fun V hV => (HR4.out.below (HBw.out.trans (hV.mono (Nat.le_of_eq HSz.out.symm)))).a
          have HF6 : Hid (∀ V U, Below w4.drew.heap.size w4.drew V → V.grownBy U (Value.slice aa s.acts.length ac).ownBlock → (U.cell? ⟨b, 4, none⟩ = some (.slice aa s.acts.length ac) ∧ U.cell? ⟨k4, 0, none⟩ = some (.int .u8 d) ∧ U.cell? ⟨k4, 1, none⟩ = some (.int .i64 na) ∧ U.cell? ⟨k4, 2, none⟩ = some (.int .i64 m) ∧ U.cell? ⟨k4, 3, none⟩ = some (.string ⟨tt.toArray⟩)) ∧ U.cell? ⟨b, 4, none⟩ = some (.slice aa s.acts.length ac) ∧ U.frozen? ⟨b, 4, none⟩ = false) := Lib.hid fun V U hV hU => by
            have hVb := hV.mono (Nat.le_of_eq HSz.out.symm)
            have hR := HR4.out.below (HBw.out.trans hVb)
            have hbk := ((grown_mod hU).block _ (lt_of_block hR.blk) (own_ne hR.a hR.blk (by decide))).trans hR.blk
            have hc := rdr_cells hbk
            have hkV : V.heap[k4]? = _ := (hV.block _ hzk4).trans HK4.out
            have hkU := ((grown_mod hU).block _ (lt_of_block hkV) (fun e => hK4f (.inr (.inr (.inr e))))).trans hkV
            obtain ⟨u0, u1, u2, u3⟩ := four_of hkU
            exact ⟨⟨hc.2.2.2.2.1, u0, u1, u2, u3⟩, hc.2.2.2.2.1, hc.2.2.2.2.2.2.2 4⟩
          clear h4 b0 b1 b2 b3 hi1 hz0 hz1 hz2' c0 c1 c2 c3 c4 c5 c6 cf
          refine wp_region_E (fun w' => w'.cell? ⟨b, 4, none⟩ = some (.slice aa s.acts.length ac) ∧ w'.cell? ⟨k4, 0, none⟩ = some (.int .u8 d) ∧ w'.cell? ⟨k4, 1, none⟩ = some (.int .i64 na) ∧ w'.cell? ⟨k4, 2, none⟩ = some (.int .i64 m) ∧ w'.cell? ⟨k4, 3, none⟩ = some (.string ⟨tt.toArray⟩)) 12 (by kernel_rfl) ?_
          change AnyE _ _ _ _ _ _ _ _ _ w4.drew
          generalize hwd : w4.drew = wd at *
          refine L_take (i := 0) (v := ?_) rfl (by kernel_rfl) (by kernel_rfl) (by kernel_rfl) (by kernel_rfl) (fun _ _ _ h => h) (Or.inl ⟨by rfl, ?_⟩) HD.out ?_
          rotate_left
          · intro W hW; obtain ⟨q4, q0, q1, q2, q3⟩ := hW; go_simp; try with_reducible rfl
          try simp only [Act.put, List.getElem_toArray, List.getElem_cons_succ, List.getElem_cons_zero, List.setIfInBounds_toArray, List.set_cons_zero, List.set_cons_succ]
          refine L_take (i := 1) (v := ?_) rfl (by kernel_rfl) (by kernel_rfl) (by kernel_rfl) (by kernel_rfl) (fun _ _ _ h => h) (Or.inl ⟨by rfl, ?_⟩) HD.out ?_
          rotate_left
          · intro W hW; obtain ⟨q4, q0, q1, q2, q3⟩ := hW; go_simp; try with_reducible rfl
          try simp only [Act.put, List.getElem_toArray, List.getElem_cons_succ, List.getElem_cons_zero, List.setIfInBounds_toArray, List.set_cons_zero, List.set_cons_succ]
          refine L_take (i := 2) (v := ?_) rfl (by kernel_rfl) (by kernel_rfl) (by kernel_rfl) (by kernel_rfl) (fun _ _ _ h => h) (Or.inl ⟨by rfl, ?_⟩) HD.out ?_
          rotate_left
          · intro W hW; obtain ⟨q4, q0, q1, q2, q3⟩ := hW; go_simp; try with_reducible rfl
          try simp only [Act.put, List.getElem_toArray, List.getElem_cons_succ, List.getElem_cons_zero, List.setIfInBounds_toArray, List.set_cons_zero, List.set_cons_succ]
          refine L_take (i := 3) (v := ?_) rfl (by kernel_rfl) (by kernel_rfl) (by kernel_rfl) (by kernel_rfl) (fun _ _ _ h => h) (Or.inl ⟨by rfl, ?_⟩) HD.out ?_
          rotate_left
          · intro W hW; obtain ⟨q4, q0, q1, q2, q3⟩ := hW; go_simp; try with_reducible rfl
          try simp only [Act.put, List.getElem_toArray, List.getElem_cons_succ, List.getElem_cons_zero, List.setIfInBounds_toArray, List.set_cons_zero, List.set_cons_succ]
          refine L_take (i := 4) (v := ?_) rfl (by kernel_rfl) (by kernel_rfl) (by kernel_rfl) (by kernel_rfl) (fun _ _ _ h => h) (Or.inl ⟨by rfl, ?_⟩) HD.out ?_
          rotate_left
          · intro W hW; obtain ⟨q4, q0, q1, q2, q3⟩ := hW; go_simp; try with_reducible rfl
          try simp only [Act.put, List.getElem_toArray, List.getElem_cons_succ, List.getElem_cons_zero, List.setIfInBounds_toArray, List.set_cons_zero, List.set_cons_succ]
          refine L_take (i := 5) (v := ?_) rfl (by kernel_rfl) (by kernel_rfl) (by kernel_rfl) (by kernel_rfl) (fun _ _ _ h => h) (Or.inl ⟨by rfl, ?_⟩) HD.out ?_
          rotate_left
          · intro W hW; obtain ⟨q4, q0, q1, q2, q3⟩ := hW; go_simp; try with_reducible rfl
          try simp only [Act.put, List.getElem_toArray, List.getElem_cons_succ, List.getElem_cons_zero, List.setIfInBounds_toArray, List.set_cons_zero, List.set_cons_succ]
          refine L_take (i := 6) (v := ?_) rfl (by kernel_rfl) (by kernel_rfl) (by kernel_rfl) (by kernel_rfl) (fun _ _ _ h => h) (Or.inl ⟨by rfl, ?_⟩) HD.out ?_
          rotate_left
          · intro W hW; obtain ⟨q4, q0, q1, q2, q3⟩ := hW; go_simp; try with_reducible rfl
          try simp only [Act.put, List.getElem_toArray, List.getElem_cons_succ, List.getElem_cons_zero, List.setIfInBounds_toArray, List.set_cons_zero, List.set_cons_succ]
          refine L_step (i := 7) (by kernel_rfl) rfl (fun K hK => ?_)
          go_simp
          refine hK.out _ _ (fun _ => (HDB.out _ ((Below.refl _ _).alloc (Nat.le_refl _) _))) (fun _ => ?_)
          clear hK K
          try simp only [Act.put, List.getElem_toArray, List.getElem_cons_succ, List.getElem_cons_zero, List.setIfInBounds_toArray, List.set_cons_zero, List.set_cons_succ]
          refine L_step (i := 8) (by kernel_rfl) rfl (fun K hK => ?_)
          refine step_append_lies _ (by rfl) _ _ _ (by rfl) 0 44 i0 (.agg #[.int .u8 0, .int .i64 0, .int .i64 0, .string ByteArray.empty]) 4 40 Tryz.underlying27 Hi1.out Hz0.out Hz1.out Hz2.out rfl (by omega) (.slice aa s.acts.length ac) s.acts.length (s.acts.flatMap acC) (by rfl) (HOwn5.out _ ((Below.refl _ _).alloc (Nat.le_refl _) _)) ⟨wd.heap.size, 0, none⟩ 1 1 (acC ⟨d, na, m, tt⟩) (by rfl) (by rfl) (World.news_of_block (heap_alloc_new wd _)) (fun x hx => by simp [acC, str] at hx; rcases hx with rfl | rfl | rfl | rfl <;> rfl) (by omega) (by unfold maxLen; omega) (by omega) (Nat.zero_le _) _ rfl ?_
          intro g4 cap w6 hown hgro hat hlt
          have HOwn := Lib.hid hown
          have HGro := Lib.hid hgro
          have HAt := Lib.hid hat
          clear hown hgro hat
          refine hK.out _ _ (fun _ => (HF6.out _ _ ((Below.refl _ _).alloc (Nat.le_refl _) _) HGro.out).1) (fun _ => ?_)
          clear hK K
          try simp only [Act.put, List.getElem_toArray, List.getElem_cons_succ, List.getElem_cons_zero, List.setIfInBounds_toArray, List.set_cons_zero, List.set_cons_succ]
          obtain ⟨-, e4, e4f⟩ := HF6.out _ _ ((Below.refl _ _).alloc (Nat.le_refl _) _) HGro.out
          refine L_step (i := 9) (by kernel_rfl) rfl (fun K hK => ?_)
          go_simp
          refine hK.out _ _ (fun _ => (HF6.out _ _ ((Below.refl _ _).alloc (Nat.le_refl _) _) HGro.out).1) (fun _ => ?_)
          clear hK K
          try simp only [Act.put, List.getElem_toArray, List.getElem_cons_succ, List.getElem_cons_zero, List.setIfInBounds_toArray, List.set_cons_zero, List.set_cons_succ]
          refine L_step (i := 10) (by kernel_rfl) rfl (fun K hK => ?_)
          go_simp
          refine hK.out _ _ (fun _ => (HF6.out _ _ ((Below.refl _ _).alloc (Nat.le_refl _) _) HGro.out).1) (fun _ => ?_)
          clear hK K
          try simp only [Act.put, List.getElem_toArray, List.getElem_cons_succ, List.getElem_cons_zero, List.setIfInBounds_toArray, List.set_cons_zero, List.set_cons_succ]
          refine L_take (i := 11) (v := ?_) rfl (by kernel_rfl) (by kernel_rfl) (by kernel_rfl) (by kernel_rfl) (fun _ _ _ h => h) (Or.inl ⟨by rfl, ?_⟩) (HF6.out _ _ ((Below.refl _ _).alloc (Nat.le_refl _) _) HGro.out).1 ?_
          rotate_left
          · intro W hW; obtain ⟨q4, q0, q1, q2, q3⟩ := hW; go_simp; try with_reducible rfl
          try simp only [Act.put, List.getElem_toArray, List.getElem_cons_succ, List.getElem_cons_zero, List.setIfInBounds_toArray, List.set_cons_zero, List.set_cons_succ]
          refine L_step (i := 12) (by kernel_rfl) rfl (fun K hK => ?_)
          go_simp
          refine hK.out _ _ (fun e => absurd rfl e) (fun _ => ?_)
          clear hK K
          try simp only [Act.put, List.getElem_toArray, List.getElem_cons_succ, List.getElem_cons_zero, List.setIfInBounds_toArray, List.set_cons_zero, List.set_cons_succ]
          refine E_done (by kernel_rfl) ?_ _
          have hA := HBw.out.trans (((Below.refl wd.heap.size wd).alloc (Nat.le_refl _) (.cells #[.int .u8 d, .int .i64 na, .int .i64 m, .string ⟨tt.toArray⟩] 44)).mono (Nat.le_of_eq HSz.out.symm))
          have HR6 := Lib.hid ((HR4.out.below hA).appA (x := ⟨d, na, m, tt⟩) HGro.out (by rw [List.flatMap_append]; exact HOwn.out))
          have HM6 := Lib.hid ((((HM4.out.trans (Mod.of_below hA (foot b ev iv (.slice aa s.acts.length ac))) fun _ _ g => .inl g).trans (grown_mod HGro.out) fun j _ hj => .inl (.inr (.inr (.inr hj))))).setCell ⟨b, 4, none⟩ (.inl (.inl rfl)) (.slice (some ⟨g4, 0, none⟩) (s.acts.length + 1) cap))
          have HF6b := Lib.hid (foot4 (w := w) (b := b) (ev := ev) (iv := iv) (av := .slice aa s.acts.length ac) (ev' := ev) (iv' := iv) (av' := .slice (some ⟨g4, 0, none⟩) (s.acts.length + 1) cap) (fun k h => .inl h) (fun k h => .inl h) (fun k h => by
            simp only [Value.ownBlock, Option.some.injEq] at h
            subst h
            rcases HAt.out with e | e
            · exact .inl e
            · have h2 := HM4.out.size
              have h3 := hA.size
              exact .inr (by omega)))
          clear hA
          rcases HCase.out with ⟨rfl, hc⟩ | ⟨rfl, hc⟩
          · have HV := Lib.hid (HLt.out.trans (by rw [hc]))
            clear hc
            go_wp2
            exact HYes.out _ _ _ _ { s with acts := s.acts ++ [⟨d, na, m, tt⟩] } true HM6.out HR6.out HF6b.out HV.out
          · have HV := Lib.hid (HLt.out.trans (by rw [hc]))
            clear hc
            go_wp2
            exact HNo.out _ _ _ _ { s with acts := s.acts ++ [⟨d, na, m, tt⟩] } true HM6.out HR6.out HF6b.out HV.out
        | true =>
          have hf1 : f = true := by simpa using hoff
          subst hf1
          clear hoff
          go_wp2_with fail
          refine (readAct t ht _).mono ?_
          rintro e w3 ⟨hb, a, bb, rfl, hcase⟩
          have HR3 := Lib.hid (HR2.out.below hb)
          have HM3 := Lib.hid (HM2.out.trans (Mod.of_below hb (foot b ev iv av)) fun _ _ g => .inl g)
          have HCase := Lib.hid hcase
          clear hb hcase c0 c1 c2 c3 c4 c5 c6 cf
          obtain ⟨d, na, m, tt⟩ := a
          have hne : b < w3.heap.size := lt_of_block HR3.out.blk
          have hR3a := HR3.out.set (s' := s) (n' := n + 1) (f' := true) 6 (.bool true) rfl rfl rfl rfl
          have hzs : (w3.setCell ⟨b, 6, none⟩ (.bool true)).heap.size = w3.heap.size := by simp
          have HR4 := Lib.hid (hR3a.below ((Below.refl _ _).alloc (Nat.le_refl _) (actBlk d na m tt)))
          have HM4 := Lib.hid ((HM3.out.setCell ⟨b, 6, none⟩ (.inl (.inl rfl)) (.bool true)).alloc (actBlk d na m tt))
          have HK4 : Hid (((w3.setCell ⟨b, 6, none⟩ (.bool true)).alloc (actBlk d na m tt)).heap[w3.heap.size]? = some (actBlk d na m tt)) := Lib.hid (by rw [← hzs]; exact heap_alloc_new _ _)
          obtain ⟨c0, c1, c2, c3, c4, c5, c6, cf⟩ := rdr_cells HR3.out.blk
          have hK4f : ¬ foot b ev iv av w3.heap.size := fun h => by have := HR3.out.foot_lt _ h; omega
          have hsz3 := HM3.out.size
          have HSz4 : Hid (((w3.setCell ⟨b, 6, none⟩ (.bool true)).alloc (actBlk d na m tt)).heap.size = w3.heap.size + 1) := Lib.hid (by simp)
          clear hR3a hzs
          unfold actBlk at *
          rw [acC_eq]
          go_upto_region 14 with fail
          generalize (w3.setCell ⟨b, 6, none⟩ (.bool true)).alloc (.cells #[.int .u8 d, .int .i64 na, .int .i64 m, .string ⟨tt.toArray⟩] 44) = w4 at *
          generalize w3.heap.size = k4 at *
          have hav : ∃ aa ac, av = .slice aa s.acts.length ac := (HR4.out.script).elim fun p h => ⟨p.aa, p.ac, h.2.2.2⟩
          obtain ⟨aa, ac, rfl⟩ := hav
          have h4 := (rdr_cells HR4.out.blk).2.2.2.2.1
          obtain ⟨b0, b1, b2, b3⟩ := four_of HK4.out
          have HD : Hid (w4.drew.cell? ⟨b, 4, none⟩ = some (.slice aa s.acts.length ac) ∧ w4.drew.cell? ⟨k4, 0, none⟩ = some (.int .u8 d) ∧ w4.drew.cell? ⟨k4, 1, none⟩ = some (.int .i64 na) ∧ w4.drew.cell? ⟨k4, 2, none⟩ = some (.int .i64 m) ∧ w4.drew.cell? ⟨k4, 3, none⟩ = some (.string ⟨tt.toArray⟩)) := Lib.hid ⟨h4, b0, b1, b2, b3⟩
          have hzb4 := lt_of_block HR4.out.blk
          have hzk4 := lt_of_block HK4.out
          have HDB : Hid (∀ V, Below w4.drew.heap.size w4.drew V → V.cell? ⟨b, 4, none⟩ = some (.slice aa s.acts.length ac) ∧ V.cell? ⟨k4, 0, none⟩ = some (.int .u8 d) ∧ V.cell? ⟨k4, 1, none⟩ = some (.int .i64 na) ∧ V.cell? ⟨k4, 2, none⟩ = some (.int .i64 m) ∧ V.cell? ⟨k4, 3, none⟩ = some (.string ⟨tt.toArray⟩)) := Lib.hid fun V hV => ⟨(World.cell?_of_block (w := w4) (hV.block _ hzb4)).trans h4, (World.cell?_of_block (w := w4) (hV.block _ hzk4)).trans b0, (World.cell?_of_block (w := w4) (hV.block _ hzk4)).trans b1, (World.cell?_of_block (w := w4) (hV.block _ hzk4)).trans b2, (World.cell?_of_block (w := w4) (hV.block _ hzk4)).trans b3⟩
          have HBw : Hid (Below w4.heap.size w4 w4.drew) := Lib.hid (Below.refl _ _).drew
          have HSz : Hid (w4.drew.heap.size = w4.heap.size) := Lib.hid rfl
          obtain ⟨i0, hi1, hz0, hz1, hz2'⟩ := info_parts info_act
          have Hi1 := Lib.hid hi1
          have Hz0 := Lib.hid hz0
          have Hz1 := Lib.hid hz1
          have Hz2 := Lib.hid hz2'
          have HOwn5 : Hid (∀ V, Below w4.drew.heap.size w4.drew V → V.ownsRow 0 44 4 (.slice aa s.acts.length ac) s.acts.length (s.acts.flatMap acC)) := Lib.hid fun V hV => (HR4.out.below (HBw.out.trans (hV.mono (Nat.le_of_eq HSz.out.symm)))).a
          have HF6 : Hid (∀ V U, Below w4.drew.heap.size w4.drew V → V.grownBy U (Value.slice aa s.acts.length ac).ownBlock → (U.cell? ⟨b, 4, none⟩ = some (.slice aa s.acts.length ac) ∧ U.cell? ⟨k4, 0, none⟩ = some (.int .u8 d) ∧ U.cell? ⟨k4, 1, none⟩ = some (.int .i64 na) ∧ U.cell? ⟨k4, 2, none⟩ = some (.int .i64 m) ∧ U.cell? ⟨k4, 3, none⟩ = some (.string ⟨tt.toArray⟩)) ∧ U.cell? ⟨b, 4, none⟩ = some (.slice aa s.acts.length ac) ∧ U.frozen? ⟨b, 4, none⟩ = false) := Lib.hid fun V U hV hU => by
            have hVb := hV.mono (Nat.le_of_eq HSz.out.symm)
            have hR := HR4.out.below (HBw.out.trans hVb)
            have hbk := ((grown_mod hU).block _ (lt_of_block hR.blk) (own_ne hR.a hR.blk (by decide))).trans hR.blk
            have hc := rdr_cells hbk
            have hkV : V.heap[k4]? = _ := (hV.block _ hzk4).trans HK4.out
            have hkU := ((grown_mod hU).block _ (lt_of_block hkV) (fun e => hK4f (.inr (.inr (.inr e))))).trans hkV
            obtain ⟨u0, u1, u2, u3⟩ := four_of hkU
            exact ⟨⟨hc.2.2.2.2.1, u0, u1, u2, u3⟩, hc.2.2.2.2.1, hc.2.2.2.2.2.2.2 4⟩
          clear h4 b0 b1 b2 b3 hi1 hz0 hz1 hz2' c0 c1 c2 c3 c4 c5 c6 cf
          refine wp_region_E (fun w' => w'.cell? ⟨b, 4, none⟩ = some (.slice aa s.acts.length ac) ∧ w'.cell? ⟨k4, 0, none⟩ = some (.int .u8 d) ∧ w'.cell? ⟨k4, 1, none⟩ = some (.int .i64 na) ∧ w'.cell? ⟨k4, 2, none⟩ = some (.int .i64 m) ∧ w'.cell? ⟨k4, 3, none⟩ = some (.string ⟨tt.toArray⟩)) 12 (by kernel_rfl) ?_
          change AnyE _ _ _ _ _ _ _ _ _ w4.drew
          generalize hwd : w4.drew = wd at *
          refine L_take (i := 0) (v := ?_) rfl (by kernel_rfl) (by kernel_rfl) (by kernel_rfl) (by kernel_rfl) (fun _ _ _ h => h) (Or.inl ⟨by rfl, ?_⟩) HD.out ?_
          rotate_left
          · intro W hW; obtain ⟨q4, q0, q1, q2, q3⟩ := hW; go_simp; try with_reducible rfl
          try simp only [Act.put, List.getElem_toArray, List.getElem_cons_succ, List.getElem_cons_zero, List.setIfInBounds_toArray, List.set_cons_zero, List.set_cons_succ]
          refine L_take (i := 1) (v := ?_) rfl (by kernel_rfl) (by kernel_rfl) (by kernel_rfl) (by kernel_rfl) (fun _ _ _ h => h) (Or.inl ⟨by rfl, ?_⟩) HD.out ?_
          rotate_left
          · intro W hW; obtain ⟨q4, q0, q1, q2, q3⟩ := hW; go_simp; try with_reducible rfl
          try simp only [Act.put, List.getElem_toArray, List.getElem_cons_succ, List.getElem_cons_zero, List.setIfInBounds_toArray, List.set_cons_zero, List.set_cons_succ]
          refine L_take (i := 2) (v := ?_) rfl (by kernel_rfl) (by kernel_rfl) (by kernel_rfl) (by kernel_rfl) (fun _ _ _ h => h) (Or.inl ⟨by rfl, ?_⟩) HD.out ?_
          rotate_left
          · intro W hW; obtain ⟨q4, q0, q1, q2, q3⟩ := hW; go_simp; try with_reducible rfl
          try simp only [Act.put, List.getElem_toArray, List.getElem_cons_succ, List.getElem_cons_zero, List.setIfInBounds_toArray, List.set_cons_zero, List.set_cons_succ]
          refine L_take (i := 3) (v := ?_) rfl (by kernel_rfl) (by kernel_rfl) (by kernel_rfl) (by kernel_rfl) (fun _ _ _ h => h) (Or.inl ⟨by rfl, ?_⟩) HD.out ?_
          rotate_left
          · intro W hW; obtain ⟨q4, q0, q1, q2, q3⟩ := hW; go_simp; try with_reducible rfl
          try simp only [Act.put, List.getElem_toArray, List.getElem_cons_succ, List.getElem_cons_zero, List.setIfInBounds_toArray, List.set_cons_zero, List.set_cons_succ]
          refine L_take (i := 4) (v := ?_) rfl (by kernel_rfl) (by kernel_rfl) (by kernel_rfl) (by kernel_rfl) (fun _ _ _ h => h) (Or.inl ⟨by rfl, ?_⟩) HD.out ?_
          rotate_left
          · intro W hW; obtain ⟨q4, q0, q1, q2, q3⟩ := hW; go_simp; try with_reducible rfl
          try simp only [Act.put, List.getElem_toArray, List.getElem_cons_succ, List.getElem_cons_zero, List.setIfInBounds_toArray, List.set_cons_zero, List.set_cons_succ]
          refine L_take (i := 5) (v := ?_) rfl (by kernel_rfl) (by kernel_rfl) (by kernel_rfl) (by kernel_rfl) (fun _ _ _ h => h) (Or.inl ⟨by rfl, ?_⟩) HD.out ?_
          rotate_left
          · intro W hW; obtain ⟨q4, q0, q1, q2, q3⟩ := hW; go_simp; try with_reducible rfl
          try simp only [Act.put, List.getElem_toArray, List.getElem_cons_succ, List.getElem_cons_zero, List.setIfInBounds_toArray, List.set_cons_zero, List.set_cons_succ]
          refine L_take (i := 6) (v := ?_) rfl (by kernel_rfl) (by kernel_rfl) (by kernel_rfl) (by kernel_rfl) (fun _ _ _ h => h) (Or.inl ⟨by rfl, ?_⟩) HD.out ?_
          rotate_left
          · intro W hW; obtain ⟨q4, q0, q1, q2, q3⟩ := hW; go_simp; try with_reducible rfl
          try simp only [Act.put, List.getElem_toArray, List.getElem_cons_succ, List.getElem_cons_zero, List.setIfInBounds_toArray, List.set_cons_zero, List.set_cons_succ]
          refine L_step (i := 7) (by kernel_rfl) rfl (fun K hK => ?_)
          go_simp
          refine hK.out _ _ (fun _ => (HDB.out _ ((Below.refl _ _).alloc (Nat.le_refl _) _))) (fun _ => ?_)
          clear hK K
          try simp only [Act.put, List.getElem_toArray, List.getElem_cons_succ, List.getElem_cons_zero, List.setIfInBounds_toArray, List.set_cons_zero, List.set_cons_succ]
          refine L_step (i := 8) (by kernel_rfl) rfl (fun K hK => ?_)
          refine step_append_lies _ (by rfl) _ _ _ (by rfl) 0 44 i0 (.agg #[.int .u8 0, .int .i64 0, .int .i64 0, .string ByteArray.empty]) 4 40 Tryz.underlying27 Hi1.out Hz0.out Hz1.out Hz2.out rfl (by omega) (.slice aa s.acts.length ac) s.acts.length (s.acts.flatMap acC) (by rfl) (HOwn5.out _ ((Below.refl _ _).alloc (Nat.le_refl _) _)) ⟨wd.heap.size, 0, none⟩ 1 1 (acC ⟨d, na, m, tt⟩) (by rfl) (by rfl) (World.news_of_block (heap_alloc_new wd _)) (fun x hx => by simp [acC, str] at hx; rcases hx with rfl | rfl | rfl | rfl <;> rfl) (by omega) (by unfold maxLen; omega) (by omega) (Nat.zero_le _) _ rfl ?_
          intro g4 cap w6 hown hgro hat hlt
          have HOwn := Lib.hid hown
          have HGro := Lib.hid hgro
          have HAt := Lib.hid hat
          clear hown hgro hat
          refine hK.out _ _ (fun _ => (HF6.out _ _ ((Below.refl _ _).alloc (Nat.le_refl _) _) HGro.out).1) (fun _ => ?_)
          clear hK K
          try simp only [Act.put, List.getElem_toArray, List.getElem_cons_succ, List.getElem_cons_zero, List.setIfInBounds_toArray, List.set_cons_zero, List.set_cons_succ]
          obtain ⟨-, e4, e4f⟩ := HF6.out _ _ ((Below.refl _ _).alloc (Nat.le_refl _) _) HGro.out
          refine L_step (i := 9) (by kernel_rfl) rfl (fun K hK => ?_)
          go_simp
          refine hK.out _ _ (fun _ => (HF6.out _ _ ((Below.refl _ _).alloc (Nat.le_refl _) _) HGro.out).1) (fun _ => ?_)
          clear hK K
          try simp only [Act.put, List.getElem_toArray, List.getElem_cons_succ, List.getElem_cons_zero, List.setIfInBounds_toArray, List.set_cons_zero, List.set_cons_succ]
          refine L_step (i := 10) (by kernel_rfl) rfl (fun K hK => ?_)
          go_simp
          refine hK.out _ _ (fun _ => (HF6.out _ _ ((Below.refl _ _).alloc (Nat.le_refl _) _) HGro.out).1) (fun _ => ?_)
          clear hK K
          try simp only [Act.put, List.getElem_toArray, List.getElem_cons_succ, List.getElem_cons_zero, List.setIfInBounds_toArray, List.set_cons_zero, List.set_cons_succ]
          refine L_take (i := 11) (v := ?_) rfl (by kernel_rfl) (by kernel_rfl) (by kernel_rfl) (by kernel_rfl) (fun _ _ _ h => h) (Or.inl ⟨by rfl, ?_⟩) (HF6.out _ _ ((Below.refl _ _).alloc (Nat.le_refl _) _) HGro.out).1 ?_
          rotate_left
          · intro W hW; obtain ⟨q4, q0, q1, q2, q3⟩ := hW; go_simp; try with_reducible rfl
          try simp only [Act.put, List.getElem_toArray, List.getElem_cons_succ, List.getElem_cons_zero, List.setIfInBounds_toArray, List.set_cons_zero, List.set_cons_succ]
          refine L_step (i := 12) (by kernel_rfl) rfl (fun K hK => ?_)
          go_simp
          refine hK.out _ _ (fun e => absurd rfl e) (fun _ => ?_)
          clear hK K
          try simp only [Act.put, List.getElem_toArray, List.getElem_cons_succ, List.getElem_cons_zero, List.setIfInBounds_toArray, List.set_cons_zero, List.set_cons_succ]
          refine E_done (by kernel_rfl) ?_ _
          have hA := HBw.out.trans (((Below.refl wd.heap.size wd).alloc (Nat.le_refl _) (.cells #[.int .u8 d, .int .i64 na, .int .i64 m, .string ⟨tt.toArray⟩] 44)).mono (Nat.le_of_eq HSz.out.symm))
          have HR6 := Lib.hid ((HR4.out.below hA).appA (x := ⟨d, na, m, tt⟩) HGro.out (by rw [List.flatMap_append]; exact HOwn.out))
          have HM6 := Lib.hid ((((HM4.out.trans (Mod.of_below hA (foot b ev iv (.slice aa s.acts.length ac))) fun _ _ g => .inl g).trans (grown_mod HGro.out) fun j _ hj => .inl (.inr (.inr (.inr hj))))).setCell ⟨b, 4, none⟩ (.inl (.inl rfl)) (.slice (some ⟨g4, 0, none⟩) (s.acts.length + 1) cap))
          have HF6b := Lib.hid (foot4 (w := w) (b := b) (ev := ev) (iv := iv) (av := .slice aa s.acts.length ac) (ev' := ev) (iv' := iv) (av' := .slice (some ⟨g4, 0, none⟩) (s.acts.length + 1) cap) (fun k h => .inl h) (fun k h => .inl h) (fun k h => by
            simp only [Value.ownBlock, Option.some.injEq] at h
            subst h
            rcases HAt.out with e | e
            · exact .inl e
            · have h2 := HM4.out.size
              have h3 := hA.size
              exact .inr (by omega)))
          clear hA
          rcases HCase.out with ⟨rfl, hc⟩ | ⟨rfl, hc⟩
          · have HV := Lib.hid (HLt.out.trans (by rw [hc]))
            clear hc
            go_wp2
            exact HYes.out _ _ _ _ { s with acts := s.acts ++ [⟨d, na, m, tt⟩] } true HM6.out HR6.out HF6b.out HV.out
          · have HV := Lib.hid (HLt.out.trans (by rw [hc]))
            clear hc
            go_wp2
            exact HNo.out _ _ _ _ { s with acts := s.acts ++ [⟨d, na, m, tt⟩] } true HM6.out HR6.out HF6b.out HV.out
end R32
end Go.Proofs.YtohlgcdailconaaGreatDoor.Scr
