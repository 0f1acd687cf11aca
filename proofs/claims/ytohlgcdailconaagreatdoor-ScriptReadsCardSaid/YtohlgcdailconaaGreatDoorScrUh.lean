/- The walk of the document's Read. -/
import Derived.Test.YtohlgcdailconaaGreatDoorScrUg
namespace Go.Proofs.YtohlgcdailconaaGreatDoor.Scr
open Go.RowKit Lib
set_option linter.unusedVariables false
set_option linter.unusedSimpArgs false
namespace R32
theorem lineT_imgs {s s' : Sc} {n : Int} {f f' : Bool} {t : Tx} (h : lineT s n f t = some (s', f')) : s'.imgs.length ≤ s.imgs.length + 1 := by
  unfold lineT at h
  obtain ⟨l, hl, h⟩ := Option.bind_eq_some_iff.1 h
  unfold lineW at h
  split at h
  · obtain ⟨st, _, h⟩ := Option.map_eq_some_iff.1 h
    cases h
    simp
  · split at h
    · split at h
      · split at h
        · obtain ⟨st, _, h⟩ := Option.map_eq_some_iff.1 h
          cases h
          simp
        · cases h
      · cases h
    · split at h
      · cases h
      · split at h
        · split at h
          · unfold imgO at h
            split at h
            · obtain ⟨st, _, h⟩ := Option.map_eq_some_iff.1 h
              cases h
              simp
            · cases h
          · cases h
        · obtain ⟨st, _, h⟩ := Option.map_eq_some_iff.1 h
          cases h
          simp
theorem seg_cut2 {t : Tx} {i f : Nat} (c : UInt8) (hf : f ≤ i) (hc : t[i]? = some c) (h : ∀ b, b ∈ (t.drop f).take (i - f) → b ≠ c) : spl c (t.drop f) = (t.drop f).take (i - f) :: spl c (t.drop (i + 1)) := by
  obtain ⟨hi, he⟩ := List.getElem?_eq_some_iff.1 hc
  have : t.drop f = (t.drop f).take (i - f) ++ c :: t.drop (i + 1) := by
    conv => lhs; rw [← List.take_append_drop (i - f) (t.drop f)]
    rw [List.drop_drop, show f + (i - f) = i by omega, List.drop_eq_getElem_cons hi, he]
  conv => lhs; rw [this]
  exact spl_app c _ _ h
theorem seg_end2 {t : Tx} {f : Nat} (c : UInt8) (hf : f ≤ t.length) (h : ∀ b, b ∈ (t.drop f).take (t.length - f) → b ≠ c) : spl c (t.drop f) = [t.drop f] := by
  rw [List.take_of_length_le (by rw [List.length_drop]; omega)] at h
  exact spl_none c _ h
structure RdLp (w wr : World) (b : Nat) (t rest : Tx) (ev iv av : Value) (s : Sc) (n : Int) (f : Bool) : Prop where
  r : Rdr wr b ev iv av s n f
  go : goL (spl 10 rest) s n f = readT t
  res : wr.heap[w.heap.size]? = some (scBlk zeroA zeroS)
  below : Below w.heap.size w wr
  ft : ∀ k, foot b ev iv av k → w.heap.size ≤ k
  n0 : 0 ≤ n
  nl : n + rest.length ≤ t.length
  fresh : n = 0 → s.pages = 0 ∧ s.exts = []
  al : (s.acts.length : Int) ≤ n
  il : (s.imgs.length : Int) ≤ n
theorem RdLp.step {w wr V : World} {b : Nat} {t rest : Tx} {ev iv av : Value} {s : Sc} {n : Int} {f : Bool} (h : RdLp w wr b t rest ev iv av s n f) (hb : Below wr.heap.size wr V) : RdLp w V b t rest ev iv av s n f :=
  { h with r := h.r.below hb, res := (hb.block _ (lt_of_block h.res)).trans h.res, below := below_th h.below hb }
def rdRel (w : World) (b : Nat) (t : Tx) (vf vi : Value) (wr : World) : Prop :=
  ∃ (i fr : Nat) (ev iv av : Value) (s : Sc) (n : Int) (f : Bool), vi = .int .i64 i ∧ vf = .int .i64 fr ∧ fr ≤ i ∧ i ≤ t.length ∧ (∀ c, c ∈ (t.drop fr).take (i - fr) → c ≠ 10) ∧ RdLp w wr b t (t.drop fr) ev iv av s n f
set_option maxRecDepth 100000 in
set_option maxHeartbeats 8000000 in
theorem readR {w : World} {t : Tx} (ht : t.length ≤ 32768) : Calls Tryz.prog 16 #[str t] w (Scr.ReadP w t) := by
  have HFin := Lib.hid fun V p s n e (hv : readT t = (s, n, e)) (hb : Below w.heap.size w V) (hr : ScR V p s) => (show Scr.ReadP w t (.returned (.tuple #[.agg (p.cells s), .int .i64 n, .int .i64 e])) V from ⟨hb, p, by rw [hv]; exact hr, by rw [hv]⟩)
  have HGo : Hid (goL (spl 10 t) zeroS 0 false = readT t) := Lib.hid (by unfold readT; rw [if_neg (by omega)])
  generalize Scr.ReadP w t = PQ at *
  have hnl : ¬ ((1048576 : Int) < t.length) := by omega
  have HIx := Lib.hid (idx_tx t)
  have HCut := Lib.hid (cut_tx t)
  unfold str
  go_enter Tryz.func16, Tryz.ntmps16
  go_wp2_with fail
  have HL0 : Hid (RdLp w ((w.alloc (.cells #[.int .u32 0, .slice none 0 0, .string ⟨#[]⟩, .slice none 0 0, .slice none 0 0] 29)).alloc (.cells #[.int .u32 0, .slice none 0 0, .string ⟨#[]⟩, .slice none 0 0, .slice none 0 0, .int .i64 0, .bool false] 72)) (w.heap.size + 1) t (t.drop 0) (.slice none 0 0) (.slice none 0 0) (.slice none 0 0) zeroS 0 false) := Lib.hid {
    r := ⟨by
      have := heap_alloc_new (w.alloc (.cells #[.int .u32 0, .slice none 0 0, .string ⟨#[]⟩, .slice none 0 0, .slice none 0 0] 29)) (.cells #[.int .u32 0, .slice none 0 0, .string ⟨#[]⟩, .slice none 0 0, .slice none 0 0, .int .i64 0, .bool false] 72)
      simpa [zeroS, str] using this, World.ownsRow_nil _ _ _ _, World.ownsRow_nil _ _ _ _, World.ownsRow_nil _ _ _ _⟩
    go := HGo.out
    res := (Below.heap_alloc _ _ _ (by simp)).trans (heap_alloc_new _ _)
    below := ((Below.refl _ _).alloc (Nat.le_refl _) _).alloc (by simp) _
    ft := by
      rintro k (rfl | hk | hk | hk)
      · omega
      · cases hk
      · cases hk
      · cases hk
    n0 := by decide
    nl := by simp
    fresh := fun _ => ⟨rfl, rfl⟩
    al := by simp [zeroS]
    il := by simp [zeroS] }
  generalize ((w.alloc (.cells #[.int .u32 0, .slice none 0 0, .string ⟨#[]⟩, .slice none 0 0, .slice none 0 0] 29)).alloc (.cells #[.int .u32 0, .slice none 0 0, .string ⟨#[]⟩, .slice none 0 0, .slice none 0 0, .int .i64 0, .bool false] 72)) = w0 at *
  go_loopw [6, 7] (fun vf vi wr => rdRel w (w.heap.size + 1) t vf vi wr) (fun _ vi _ => t.length - (RowKit.intOf vi).toNat)
  case atStart => exact ⟨0, 0, _, _, _, _, _, _, rfl, rfl, by omega, by omega, by simp, HL0.out⟩
  case round =>
    clear HL0
    obtain ⟨i, fr, ev, iv, av, s, n, f, rfl, rfl, hfi, hi, hfree, hl⟩ := hrel
    have HLp := Lib.hid hl
    have HFr := Lib.hid hfree
    have hn0 := hl.n0
    have hn1 : n ≤ 32768 := by have := hl.nl; omega
    clear hl hfree
    by_cases hlt : i < t.length
    · obtain ⟨c, hc⟩ : ∃ c, t[i]? = some c := ⟨_, List.getElem?_eq_getElem hlt⟩
      have hx := HIx.out i c hc
      have HC := Lib.hid hc
      have hlt' : (i : Int) < t.length := by omega
      clear hc
      by_cases h10 : c = 10
      · subst h10
        have hq : (((10 : UInt8).toNat : Int) != 10) = false := rfl
        have hcut := HCut.out fr i hfi (by omega)
        have HSp := Lib.hid (seg_cut2 10 hfi HC.out HFr.out)
        have hsl : ((t.drop fr).take (i - fr)).length ≤ 65536 := by rw [List.length_take, List.length_drop]; omega
        have HTl : Hid (((t.drop (i + 1)).length : Int) + 1 ≤ (t.drop fr).length) := Lib.hid (by simp only [List.length_drop]; omega)
        have hfi' : (fr : Int) ≤ i := by omega
        unfold str at hcut
        generalize (t.drop fr).take (i - fr) = x at *
        have HLn := Lib.hid (line HLp.out.r HLp.out.fresh hn0 (by omega) (by have := HLp.out.il; omega) (by have := HLp.out.al; omega) hsl)
        unfold str at HLn
        go_wp2_with fail
        refine HLn.out.mono ?_
        rintro e w3 ⟨ok, ev', iv', av', s', f', rfl, hm, hR, hfo, hcase⟩
        have hres := (hm.block _ (lt_of_block HLp.out.res) (HLp.out.r.not_foot HLp.out.res (by decide))).trans HLp.out.res
        have HB3 := Lib.hid (hm.below HLp.out.below HLp.out.below.size fun k _ hk => HLp.out.ft k hk)
        have hsz := HLp.out.below.size
        have HFt' : Hid (∀ k, foot (w.heap.size + 1) ev' iv' av' k → w.heap.size ≤ k) := Lib.hid fun k hk => (hfo k hk).elim (fun g => HLp.out.ft k g) (fun g => by omega)
        have HR3 := Lib.hid hR
        have HRes := Lib.hid hres
        clear hm hR hfo hres HLn
        rcases hcase with ⟨rfl, hlt2⟩ | ⟨rfl, hlt2⟩
        · have HV : Hid (goL (spl 10 (t.drop (i + 1))) s' (n + 1) f' = readT t) := Lib.hid (by
            rw [← HLp.out.go, HSp.out]
            exact (goL_step hlt2 (spl_ne 10 _)).symm)
          have HAc := Lib.hid (lineT_acts hlt2)
          have HIm := Lib.hid (lineT_imgs hlt2)
          clear hlt2
          go_wp2
          refine ⟨⟨i + 1, i + 1, ev', iv', av', s', n + 1, f', by go_num, by go_num, by omega, by omega, by simp, ?_⟩, by simp [RowKit.intOf]; omega⟩
          exact { r := HR3.out, go := HV.out, res := HRes.out, below := HB3.out, ft := HFt'.out, n0 := by omega, nl := by have := HLp.out.nl; have := HTl.out; omega, fresh := fun e => by omega, al := by have := HLp.out.al; have := HAc.out; omega, il := by have := HLp.out.il; have := HIm.out; omega }
        · have HV : Hid (readT t = (zeroS, n + 1, 320)) := Lib.hid (by
            rw [← HLp.out.go, HSp.out]
            exact goL_stop hlt2 (spl_ne 10 _))
          clear hlt2
          have HSm := Lib.hid (setCell_zero (V := w3.drew) HRes.out)
          obtain ⟨d0, d1, d2, d3, d4⟩ := blk5 (V := w3.drew) (p := zeroA) (s := zeroS) HRes.out
          have dn : w3.drew.cell? ⟨w.heap.size + 1, 5, none⟩ = some (.int .i64 (n + 1)) := (rdr_cells HR3.out.blk).2.2.2.2.2.1
          have df : ∀ i, w3.drew.frozen? ⟨w.heap.size, i, none⟩ = false := fun i => by
            show w3.frozen? _ = _
            unfold World.frozen?
            rw [HRes.out]
            simp [scBlk]
          have HB4 := Lib.hid (below_th HB3.out (Below.refl w3.heap.size w3).drew)
          simp only [zeroA, zeroS, str, List.length_nil] at d0 d1 d2 d3 d4
          go_upto_region 10 with fail
          refine wp_region_held (S := fun w' => w' = w3.drew) (by kernel_rfl) ?_
          change wpAnyH _ _ _ _ _ _ _ _ w3.drew
          generalize hwd : w3.drew = wd at *
          refine H_take (i := 0) (v := ?_) rfl (by kernel_rfl) (by kernel_rfl) (by kernel_rfl) (fun _ _ _ h => h) (Or.inl ⟨by rfl, ?_⟩) rfl ?_
          rotate_left
          · intro W hW; obtain rfl := hW; go_simp; try with_reducible rfl
          try simp only [Act.put, List.getElem_toArray, List.getElem_cons_succ, List.getElem_cons_zero, List.setIfInBounds_toArray, List.set_cons_zero, List.set_cons_succ]
          refine H_take (i := 1) (v := ?_) rfl (by kernel_rfl) (by kernel_rfl) (by kernel_rfl) (fun _ _ _ h => h) (Or.inl ⟨by rfl, ?_⟩) rfl ?_
          rotate_left
          · intro W hW; obtain rfl := hW; go_simp; try with_reducible rfl
          try simp only [Act.put, List.getElem_toArray, List.getElem_cons_succ, List.getElem_cons_zero, List.setIfInBounds_toArray, List.set_cons_zero, List.set_cons_succ]
          refine H_take (i := 2) (v := ?_) rfl (by kernel_rfl) (by kernel_rfl) (by kernel_rfl) (fun _ _ _ h => h) (Or.inl ⟨by rfl, ?_⟩) rfl ?_
          rotate_left
          · intro W hW; obtain rfl := hW; go_simp; try with_reducible rfl
          try simp only [Act.put, List.getElem_toArray, List.getElem_cons_succ, List.getElem_cons_zero, List.setIfInBounds_toArray, List.set_cons_zero, List.set_cons_succ]
          refine H_take (i := 3) (v := ?_) rfl (by kernel_rfl) (by kernel_rfl) (by kernel_rfl) (fun _ _ _ h => h) (Or.inl ⟨by rfl, ?_⟩) rfl ?_
          rotate_left
          · intro W hW; obtain rfl := hW; go_simp; try with_reducible rfl
          try simp only [Act.put, List.getElem_toArray, List.getElem_cons_succ, List.getElem_cons_zero, List.setIfInBounds_toArray, List.set_cons_zero, List.set_cons_succ]
          refine H_take (i := 4) (v := ?_) rfl (by kernel_rfl) (by kernel_rfl) (by kernel_rfl) (fun _ _ _ h => h) (Or.inl ⟨by rfl, ?_⟩) rfl ?_
          rotate_left
          · intro W hW; obtain rfl := hW; go_simp; try with_reducible rfl
          try simp only [Act.put, List.getElem_toArray, List.getElem_cons_succ, List.getElem_cons_zero, List.setIfInBounds_toArray, List.set_cons_zero, List.set_cons_succ]
          refine H_one (i := 5) (by kernel_rfl) rfl (fun K hK => ?_)
          go_simp
          refine hK.out _ _ HSm.out (fun _ => ?_)
          clear hK K
          try simp only [Act.put, List.getElem_toArray, List.getElem_cons_succ, List.getElem_cons_zero, List.setIfInBounds_toArray, List.set_cons_zero, List.set_cons_succ]
          refine H_take (i := 6) (v := ?_) rfl (by kernel_rfl) (by kernel_rfl) (by kernel_rfl) (fun _ _ _ h => h) (Or.inl ⟨by rfl, ?_⟩) HSm.out ?_
          rotate_left
          · intro W hW; obtain rfl := hW; go_simp; try with_reducible rfl
          try simp only [Act.put, List.getElem_toArray, List.getElem_cons_succ, List.getElem_cons_zero, List.setIfInBounds_toArray, List.set_cons_zero, List.set_cons_succ]
          refine H_take (i := 7) (v := ?_) rfl (by kernel_rfl) (by kernel_rfl) (by kernel_rfl) (fun _ _ _ h => h) (Or.inl ⟨by rfl, ?_⟩) HSm.out ?_
          rotate_left
          · intro W hW; obtain rfl := hW; go_simp; try with_reducible rfl
          try simp only [Act.put, List.getElem_toArray, List.getElem_cons_succ, List.getElem_cons_zero, List.setIfInBounds_toArray, List.set_cons_zero, List.set_cons_succ]
          refine wpAnyH_done (by kernel_rfl) ?_ _
          rw [HSm.out]
          go_wp2_with fail
          exact bodyPost_ret (v := .tuple #[.agg (zeroA.cells zeroS), .int .i64 (n + 1), .int .i64 320]) (by simp [results, Tryz.results16, go_sem, d0, d1, d2, d3, d4, SA.cells, str, zeroA, zeroS]) rfl (HFin.out _ zeroA zeroS _ _ HV.out HB4.out (zero_ScR _))
      · have hq : ((c.toNat : Int) != 10) = true := by
          simp
          intro e
          exact h10 (UInt8.toNat_inj.1 (by rw [show c.toNat = 10 by omega]; rfl))
        have H10 := Lib.hid h10
        clear h10
        go_wp2
        refine ⟨⟨i + 1, fr, ev, iv, av, s, n, f, by go_num, rfl, by omega, by omega, fun b hb => ?_, HLp.out⟩, by simp [RowKit.intOf]; omega⟩
        rw [seg_next hfi HC.out] at hb
        rcases List.mem_append.1 hb with hb | hb
        · exact HFr.out b hb
        · obtain rfl : b = c := by simpa using hb
          exact H10.out
    · have hlt' : ¬ (i : Int) < t.length := by omega
      obtain rfl : i = t.length := by omega
      have HFi : Hid (readT t = finT (t.drop fr) s n) := Lib.hid (by rw [← HLp.out.go, seg_end2 10 hfi HFr.out]; rfl)
      obtain ⟨p, hsr, rfl, rfl, rfl⟩ := HLp.out.r.script
      obtain ⟨c0, c1, c2, c3, c4, c5, c6, cf⟩ := rdr_cells HLp.out.r.blk
      have zf : ∀ i, wr.frozen? ⟨w.heap.size, i, none⟩ = false := fun i => by unfold World.frozen?; rw [HLp.out.res]; simp [scBlk]
      have hzr := lt_of_block HLp.out.r.blk
      have hzs := lt_of_block HLp.out.res
      clear hsr
      by_cases hb : fr < t.length ∨ n < 2
      · have HV : Hid (readT t = (zeroS, n + 1, 320)) := Lib.hid (HFi.out.trans (by
          unfold finT
          refine if_pos (hb.imp (fun h e => ?_) id)
          have := congrArg List.length e
          rw [List.length_drop] at this
          simp at this
          omega))
        have HSm := Lib.hid (setCell_zero (V := wr.drew) HLp.out.res)
        obtain ⟨d0, d1, d2, d3, d4⟩ := blk5 (V := wr.drew) (p := zeroA) (s := zeroS) HLp.out.res
        have dn : wr.drew.cell? ⟨w.heap.size + 1, 5, none⟩ = some (.int .i64 n) := c5
        have df : ∀ i, wr.drew.frozen? ⟨w.heap.size, i, none⟩ = false := zf
        have HB4 := Lib.hid (below_th HLp.out.below (Below.refl wr.heap.size wr).drew)
        simp only [zeroA, zeroS, str, List.length_nil] at d0 d1 d2 d3 d4
        by_cases hf : fr < t.length
        · have hf' : (fr : Int) < t.length := by omega
          clear hb
          go_upto_region 13 with fail
          clear c0 c1 c2 c3 c4 c5 c6 cf
          refine wp_region_held (S := fun w' => w' = wr.drew) (by kernel_rfl) ?_
          change wpAnyH _ _ _ _ _ _ _ _ wr.drew
          generalize hwd : wr.drew = wd at *
          refine H_take (i := 0) (v := ?_) rfl (by kernel_rfl) (by kernel_rfl) (by kernel_rfl) (fun _ _ _ h => h) (Or.inl ⟨by rfl, ?_⟩) rfl ?_
          rotate_left
          · intro W hW; obtain rfl := hW; go_simp; try with_reducible rfl
          try simp only [Act.put, List.getElem_toArray, List.getElem_cons_succ, List.getElem_cons_zero, List.setIfInBounds_toArray, List.set_cons_zero, List.set_cons_succ]
          refine H_take (i := 1) (v := ?_) rfl (by kernel_rfl) (by kernel_rfl) (by kernel_rfl) (fun _ _ _ h => h) (Or.inl ⟨by rfl, ?_⟩) rfl ?_
          rotate_left
          · intro W hW; obtain rfl := hW; go_simp; try with_reducible rfl
          try simp only [Act.put, List.getElem_toArray, List.getElem_cons_succ, List.getElem_cons_zero, List.setIfInBounds_toArray, List.set_cons_zero, List.set_cons_succ]
          refine H_take (i := 2) (v := ?_) rfl (by kernel_rfl) (by kernel_rfl) (by kernel_rfl) (fun _ _ _ h => h) (Or.inl ⟨by rfl, ?_⟩) rfl ?_
          rotate_left
          · intro W hW; obtain rfl := hW; go_simp; try with_reducible rfl
          try simp only [Act.put, List.getElem_toArray, List.getElem_cons_succ, List.getElem_cons_zero, List.setIfInBounds_toArray, List.set_cons_zero, List.set_cons_succ]
          refine H_take (i := 3) (v := ?_) rfl (by kernel_rfl) (by kernel_rfl) (by kernel_rfl) (fun _ _ _ h => h) (Or.inl ⟨by rfl, ?_⟩) rfl ?_
          rotate_left
          · intro W hW; obtain rfl := hW; go_simp; try with_reducible rfl
          try simp only [Act.put, List.getElem_toArray, List.getElem_cons_succ, List.getElem_cons_zero, List.setIfInBounds_toArray, List.set_cons_zero, List.set_cons_succ]
          refine H_take (i := 4) (v := ?_) rfl (by kernel_rfl) (by kernel_rfl) (by kernel_rfl) (fun _ _ _ h => h) (Or.inl ⟨by rfl, ?_⟩) rfl ?_
          rotate_left
          · intro W hW; obtain rfl := hW; go_simp; try with_reducible rfl
          try simp only [Act.put, List.getElem_toArray, List.getElem_cons_succ, List.getElem_cons_zero, List.setIfInBounds_toArray, List.set_cons_zero, List.set_cons_succ]
          refine H_take (i := 5) (v := ?_) rfl (by kernel_rfl) (by kernel_rfl) (by kernel_rfl) (fun _ _ _ h => h) (Or.inl ⟨by rfl, ?_⟩) rfl ?_
          rotate_left
          · intro W hW; obtain rfl := hW; go_simp; try with_reducible rfl
          try simp only [Act.put, List.getElem_toArray, List.getElem_cons_succ, List.getElem_cons_zero, List.setIfInBounds_toArray, List.set_cons_zero, List.set_cons_succ]
          refine H_one (i := 6) (by kernel_rfl) rfl (fun K hK => ?_)
          go_simp
          refine hK.out _ _ HSm.out (fun _ => ?_)
          clear hK K
          try simp only [Act.put, List.getElem_toArray, List.getElem_cons_succ, List.getElem_cons_zero, List.setIfInBounds_toArray, List.set_cons_zero, List.set_cons_succ]
          refine H_take (i := 7) (v := ?_) rfl (by kernel_rfl) (by kernel_rfl) (by kernel_rfl) (fun _ _ _ h => h) (Or.inl ⟨by rfl, ?_⟩) HSm.out ?_
          rotate_left
          · intro W hW; obtain rfl := hW; go_simp; try with_reducible rfl
          try simp only [Act.put, List.getElem_toArray, List.getElem_cons_succ, List.getElem_cons_zero, List.setIfInBounds_toArray, List.set_cons_zero, List.set_cons_succ]
          refine H_take (i := 8) (v := ?_) rfl (by kernel_rfl) (by kernel_rfl) (by kernel_rfl) (fun _ _ _ h => h) (Or.inl ⟨by rfl, ?_⟩) HSm.out ?_
          rotate_left
          · intro W hW; obtain rfl := hW; go_simp; try with_reducible rfl
          try simp only [Act.put, List.getElem_toArray, List.getElem_cons_succ, List.getElem_cons_zero, List.setIfInBounds_toArray, List.set_cons_zero, List.set_cons_succ]
          refine wpAnyH_done (by kernel_rfl) ?_ _
          rw [HSm.out]
          have e0 : IntKind.i64.wrap (n + 1) = n + 1 := by rw [IntKind.wrap_i64]; omega
          rw [e0]
          clear e0
          go_wp2_with fail
          exact bodyPost_ret (v := .tuple #[.agg (zeroA.cells zeroS), .int .i64 (n + 1), .int .i64 320]) (by simp [results, Tryz.results16, go_sem, d0, d1, d2, d3, d4, SA.cells, str, zeroA, zeroS]) rfl (HFin.out _ zeroA zeroS _ _ HV.out HB4.out (zero_ScR _))
        · have hf' : ¬ (fr : Int) < t.length := by omega
          have hn2 : n < 2 := hb.resolve_left hf
          clear hb
          go_upto_region 13 with fail
          clear c0 c1 c2 c3 c4 c5 c6 cf
          refine wp_region_held (S := fun w' => w' = wr.drew) (by kernel_rfl) ?_
          change wpAnyH _ _ _ _ _ _ _ _ wr.drew
          generalize hwd : wr.drew = wd at *
          refine H_take (i := 0) (v := ?_) rfl (by kernel_rfl) (by kernel_rfl) (by kernel_rfl) (fun _ _ _ h => h) (Or.inl ⟨by rfl, ?_⟩) rfl ?_
          rotate_left
          · intro W hW; obtain rfl := hW; go_simp; try with_reducible rfl
          try simp only [Act.put, List.getElem_toArray, List.getElem_cons_succ, List.getElem_cons_zero, List.setIfInBounds_toArray, List.set_cons_zero, List.set_cons_succ]
          refine H_take (i := 1) (v := ?_) rfl (by kernel_rfl) (by kernel_rfl) (by kernel_rfl) (fun _ _ _ h => h) (Or.inl ⟨by rfl, ?_⟩) rfl ?_
          rotate_left
          · intro W hW; obtain rfl := hW; go_simp; try with_reducible rfl
          try simp only [Act.put, List.getElem_toArray, List.getElem_cons_succ, List.getElem_cons_zero, List.setIfInBounds_toArray, List.set_cons_zero, List.set_cons_succ]
          refine H_take (i := 2) (v := ?_) rfl (by kernel_rfl) (by kernel_rfl) (by kernel_rfl) (fun _ _ _ h => h) (Or.inl ⟨by rfl, ?_⟩) rfl ?_
          rotate_left
          · intro W hW; obtain rfl := hW; go_simp; try with_reducible rfl
          try simp only [Act.put, List.getElem_toArray, List.getElem_cons_succ, List.getElem_cons_zero, List.setIfInBounds_toArray, List.set_cons_zero, List.set_cons_succ]
          refine H_take (i := 3) (v := ?_) rfl (by kernel_rfl) (by kernel_rfl) (by kernel_rfl) (fun _ _ _ h => h) (Or.inl ⟨by rfl, ?_⟩) rfl ?_
          rotate_left
          · intro W hW; obtain rfl := hW; go_simp; try with_reducible rfl
          try simp only [Act.put, List.getElem_toArray, List.getElem_cons_succ, List.getElem_cons_zero, List.setIfInBounds_toArray, List.set_cons_zero, List.set_cons_succ]
          refine H_take (i := 4) (v := ?_) rfl (by kernel_rfl) (by kernel_rfl) (by kernel_rfl) (fun _ _ _ h => h) (Or.inl ⟨by rfl, ?_⟩) rfl ?_
          rotate_left
          · intro W hW; obtain rfl := hW; go_simp; try with_reducible rfl
          try simp only [Act.put, List.getElem_toArray, List.getElem_cons_succ, List.getElem_cons_zero, List.setIfInBounds_toArray, List.set_cons_zero, List.set_cons_succ]
          refine H_take (i := 5) (v := ?_) rfl (by kernel_rfl) (by kernel_rfl) (by kernel_rfl) (fun _ _ _ h => h) (Or.inl ⟨by rfl, ?_⟩) rfl ?_
          rotate_left
          · intro W hW; obtain rfl := hW; go_simp; try with_reducible rfl
          try simp only [Act.put, List.getElem_toArray, List.getElem_cons_succ, List.getElem_cons_zero, List.setIfInBounds_toArray, List.set_cons_zero, List.set_cons_succ]
          refine H_one (i := 6) (by kernel_rfl) rfl (fun K hK => ?_)
          go_simp
          refine hK.out _ _ HSm.out (fun _ => ?_)
          clear hK K
          try simp only [Act.put, List.getElem_toArray, List.getElem_cons_succ, List.getElem_cons_zero, List.setIfInBounds_toArray, List.set_cons_zero, List.set_cons_succ]
          refine H_take (i := 7) (v := ?_) rfl (by kernel_rfl) (by kernel_rfl) (by kernel_rfl) (fun _ _ _ h => h) (Or.inl ⟨by rfl, ?_⟩) HSm.out ?_
          rotate_left
          · intro W hW; obtain rfl := hW; go_simp; try with_reducible rfl
          try simp only [Act.put, List.getElem_toArray, List.getElem_cons_succ, List.getElem_cons_zero, List.setIfInBounds_toArray, List.set_cons_zero, List.set_cons_succ]
          refine H_take (i := 8) (v := ?_) rfl (by kernel_rfl) (by kernel_rfl) (by kernel_rfl) (fun _ _ _ h => h) (Or.inl ⟨by rfl, ?_⟩) HSm.out ?_
          rotate_left
          · intro W hW; obtain rfl := hW; go_simp; try with_reducible rfl
          try simp only [Act.put, List.getElem_toArray, List.getElem_cons_succ, List.getElem_cons_zero, List.setIfInBounds_toArray, List.set_cons_zero, List.set_cons_succ]
          refine wpAnyH_done (by kernel_rfl) ?_ _
          rw [HSm.out]
          have e0 : IntKind.i64.wrap (n + 1) = n + 1 := by rw [IntKind.wrap_i64]; omega
          rw [e0]
          clear e0
          go_wp2_with fail
          exact bodyPost_ret (v := .tuple #[.agg (zeroA.cells zeroS), .int .i64 (n + 1), .int .i64 320]) (by simp [results, Tryz.results16, go_sem, d0, d1, d2, d3, d4, SA.cells, str, zeroA, zeroS]) rfl (HFin.out _ zeroA zeroS _ _ HV.out HB4.out (zero_ScR _))
      · have hf : ¬ fr < t.length := fun h => hb (.inl h)
        have hn2 : ¬ n < 2 := fun h => hb (.inr h)
        have HV : Hid (readT t = (s, 0, 0)) := Lib.hid (HFi.out.trans (by
          unfold finT
          refine if_neg fun h => hb (h.imp (fun h => absurd ?_ h) id)
          exact List.drop_eq_nil_of_le (by omega)))
        have hf' : ¬ (fr : Int) < t.length := by omega
        clear hb
        unfold str at c2
        have hmm : ∀ u0 u1 u2 u3 u4, Mod (fun k => k = w.heap.size) wr (((((wr.setCell ⟨w.heap.size, 0, none⟩ u0).setCell ⟨w.heap.size, 1, none⟩ u1).setCell ⟨w.heap.size, 2, none⟩ u2).setCell ⟨w.heap.size, 3, none⟩ u3).setCell ⟨w.heap.size, 4, none⟩ u4) := fun u0 u1 u2 u3 u4 =>
          ((((((Mod.refl (fun k => k = w.heap.size) wr).setCell ⟨w.heap.size, 0, none⟩ (.inl rfl) u0).setCell ⟨w.heap.size, 1, none⟩ (.inl rfl) u1).setCell ⟨w.heap.size, 2, none⟩ (.inl rfl) u2).setCell ⟨w.heap.size, 3, none⟩ (.inl rfl) u3).setCell ⟨w.heap.size, 4, none⟩ (.inl rfl) u4)
        have HMm := Lib.hid hmm
        have HRs : Hid ((((((wr.setCell ⟨w.heap.size, 0, none⟩ (.int .u32 s.pages)).setCell ⟨w.heap.size, 1, none⟩ (.slice p.ea s.exts.length p.ec)).setCell ⟨w.heap.size, 2, none⟩ (.string ⟨s.key.toArray⟩)).setCell ⟨w.heap.size, 3, none⟩ (.slice p.ia s.imgs.length p.ic)).setCell ⟨w.heap.size, 4, none⟩ (.slice p.aa s.acts.length p.ac)).heap[w.heap.size]? = some (wrBlk p s)) := Lib.hid (set5 HLp.out.res _ _ _ _ _)
        have HNf : Hid (¬ foot (w.heap.size + 1) (.slice p.ea s.exts.length p.ec) (.slice p.ia s.imgs.length p.ic) (.slice p.aa s.acts.length p.ac) w.heap.size) := Lib.hid (HLp.out.r.not_foot HLp.out.res (by decide))
        obtain ⟨z0, z1, z2, z3, z4⟩ := blk5 (p := zeroA) (s := zeroS) HLp.out.res
        simp only [zeroA, zeroS, str, List.length_nil] at z0 z1 z2 z3 z4
        clear hmm
        go_wp2_with fail
        obtain ⟨e0, e1, e2, e3, e4⟩ := blk5 (p := p) (s := s) HRs.out
        unfold str at e2
        exact bodyPost_ret (v := .tuple #[.agg (p.cells s), .int .i64 0, .int .i64 0]) (by simp [results, Tryz.results16, go_sem, e0, e1, e2, e3, e4, SA.cells, str]) rfl (HFin.out _ p s 0 0 HV.out ((HMm.out _ _ _ _ _).below HLp.out.below HLp.out.below.size (fun k _ e => by omega)) (HLp.out.r.keep (HMm.out _ _ _ _ _) (fun k hk e => HNf.out (by subst e; exact hk))).scr)
end R32
end Go.Proofs.YtohlgcdailconaaGreatDoor.Scr
