/- The walk of the document's readAct. -/
import Derived.Test.YtohlgcdailconaaGreatDoorScrUd
import Derived.Test.YtohlgcdailconaaGreatDoorScrUa
import Derived.Deep.DeepCutAuto
namespace Go.Proofs.YtohlgcdailconaaGreatDoor.Scr
open Go.RowKit Lib
set_option linter.unusedVariables false
set_option linter.unusedSimpArgs false
namespace R32
def namC : Array Value := #[.string ⟨#[]⟩, .string ⟨#[108, 111, 97, 100]⟩, .string ⟨#[114, 117, 110]⟩, .string ⟨#[116, 105, 99, 107]⟩, .string ⟨#[97, 114, 114, 105, 118, 101]⟩, .string ⟨#[115, 119, 97, 112]⟩, .string ⟨#[108, 111, 115, 101]⟩, .string ⟨#[114, 101, 108, 101, 97, 115, 101]⟩]
theorem namC_at (i : Nat) (h : i < 8) : namC[i]? = some (str (form i).word) := by
  have : i = 0 ∨ i = 1 ∨ i = 2 ∨ i = 3 ∨ i = 4 ∨ i = 5 ∨ i = 6 ∨ i = 7 := by omega
  rcases this with rfl | rfl | rfl | rfl | rfl | rfl | rfl | rfl <;> rfl
/-- What readAct has laid: the result, the act, the names, the words. -/
structure Ra (w W : World) (b6 bn wb : Nat) (a : Ac) (l : List Tx) : Prop where
  ret : W.heap[w.heap.size]? = some zeroBlk
  act : W.heap[b6]? = some (actBlk a.d a.n a.m a.t)
  nam : W.heap[bn]? = some (.cells namC 9 (0, 0))
  row : ∀ i x, l[i]? = some x → W.cell? ⟨wb, i, none⟩ = some (str x)
  o1 : w.heap.size < wb
  o2 : wb < b6
  o3 : b6 < bn
  bel : Below w.heap.size w W
theorem Ra.step {w W V : World} {b6 bn wb B : Nat} {a : Ac} {l : List Tx} (h : Ra w W b6 bn wb a l) (hB : bn < B) (hb : Below B W V) : Ra w V b6 bn wb a l :=
  have o1 := h.o1
  have o2 := h.o2
  have o3 := h.o3
  ⟨(hb.block _ (by omega)).trans h.ret, (hb.block _ (by omega)).trans h.act, (hb.block _ (by omega)).trans h.nam, fun i x hx => (hb.cell (p := ⟨wb, i, none⟩) (by show wb < B; omega)).trans (h.row i x hx), o1, o2, o3, h.bel.trans (hb.mono (by omega))⟩
theorem Ra.lt {w W : World} {b6 bn wb : Nat} {a : Ac} {l : List Tx} (h : Ra w W b6 bn wb a l) : bn < W.heap.size := lt_of_block h.nam
theorem Ra.below {w W V : World} {b6 bn wb : Nat} {a : Ac} {l : List Tx} (h : Ra w W b6 bn wb a l) (hb : Below W.heap.size W V) : Ra w V b6 bn wb a l := h.step h.lt hb
theorem Ra.set {w W : World} {b6 bn wb : Nat} {a a' : Ac} {l : List Tx} (h : Ra w W b6 bn wb a l) (j : Nat) (u : Value) (hj : (#[Value.int .u8 a.d, .int .i64 a.n, .int .i64 a.m, .string ⟨a.t.toArray⟩]).setIfInBounds j u = #[.int .u8 a'.d, .int .i64 a'.n, .int .i64 a'.m, .string ⟨a'.t.toArray⟩]) : Ra w (W.setCell ⟨b6, j, none⟩ u) b6 bn wb a' l := by
  have o1 := h.o1
  have o2 := h.o2
  have o3 := h.o3
  have hm : Mod (fun k => k = b6) W (W.setCell ⟨b6, j, none⟩ u) := (Mod.refl (fun k => k = b6) W).setCell ⟨b6, j, none⟩ (.inl rfl) u
  have hlt := h.lt
  refine ⟨(hm.block _ (by omega) (by omega)).trans h.ret, ?_, (hm.block _ (by omega) (by omega)).trans h.nam, fun i x hx => ?_, o1, o2, o3, h.bel.setCell (by show w.heap.size ≤ b6; omega) u⟩
  · unfold actBlk
    rw [heap_setCell_same _ _ _ _ _ u h.act, hj]
  · rw [← h.row i x hx]
    unfold World.cell?
    rw [hm.block wb (by omega) (by omega)]
theorem Ra.cells {w W : World} {b6 bn wb : Nat} {a : Ac} {l : List Tx} (h : Ra w W b6 bn wb a l) : W.cell? ⟨b6, 0, none⟩ = some (.int .u8 a.d) ∧ W.cell? ⟨b6, 1, none⟩ = some (.int .i64 a.n) ∧ W.cell? ⟨b6, 2, none⟩ = some (.int .i64 a.m) ∧ W.cell? ⟨b6, 3, none⟩ = some (.string ⟨a.t.toArray⟩) ∧ ∀ i, W.frozen? ⟨b6, i, none⟩ = false := act_cells h.act
theorem Ra.name {w W : World} {b6 bn wb : Nat} {a : Ac} {l : List Tx} (h : Ra w W b6 bn wb a l) (i : Nat) (hi : i < 8) : W.cell? ⟨bn, i, none⟩ = some (.string ⟨(form i).word.toArray⟩) := by
  unfold World.cell?
  rw [h.nam]
  exact namC_at i hi
def rel1 (w : World) (b6 bn wb : Nat) (l : List Tx) (vi : Value) (wr : World) : Prop := ∃ i : Nat, 1 ≤ i ∧ i ≤ 8 ∧ vi = .int .i64 i ∧ Ra w wr b6 bn wb ⟨kdTo (l.getD 0 []) i, 0, 0, []⟩ l
structure Ns (w wr : World) (b6 bn wb bm : Nat) (a : Ac) (l : List Tx) (i : Nat) (x y : Int) : Prop where
  ra : Ra w wr b6 bn wb a l
  blk : wr.heap[bm]? = some (.cells #[.int .i64 x, .int .i64 y] 3 (0, 0))
  o4 : bn < bm
  x0 : i ≤ 1 → x = 0
  x1 : 1 < i → ∀ z, l[1]? = some z → NuE z x
  y0 : i ≤ 2 → y = 0
  y1 : 2 < i → ∀ z, l[2]? = some z → NuE z y
def rel2 (w : World) (b6 bn wb bm : Nat) (a : Ac) (l : List Tx) (vi : Value) (wr : World) : Prop := ∃ (i : Nat) (x y : Int), 1 ≤ i ∧ i ≤ 3 ∧ (i ≤ 1 ∨ i ≤ l.length) ∧ vi = .int .i64 i ∧ Ns w wr b6 bn wb bm a l i x y
/-- What the document's readAct leaves. -/
def ReadP (t : Tx) (w : World) (e : Ending) (w' : World) : Prop :=
  Below w.heap.size w w' ∧ ∃ a b, e = .returned (.tuple #[.agg (acC a).toArray, .bool b]) ∧ (b = true ∧ (wordsT t).bind readA = some a ∨ b = false ∧ (wordsT t).bind readA = none)
set_option maxRecDepth 100000 in
set_option maxHeartbeats 4000000 in
theorem readAct (t : Tx) (ht : t.length ≤ 65536) (w : World) : Calls Tryz.prog 49 #[str t] w (ReadP t w) := by
  have HNo := Lib.hid fun V a (hb : Below w.heap.size w V) (h : (wordsT t).bind readA = none) => (show ReadP t w (.returned (.tuple #[.agg #[.int .u8 a.d, .int .i64 a.n, .int .i64 a.m, .string ⟨a.t.toArray⟩], .bool false])) V from ⟨hb, a, false, rfl, .inr ⟨rfl, h⟩⟩)
  have HYes := Lib.hid fun V a (hb : Below w.heap.size w V) (h : (wordsT t).bind readA = some a) => (show ReadP t w (.returned (.tuple #[.agg #[.int .u8 a.d, .int .i64 a.n, .int .i64 a.m, .string ⟨a.t.toArray⟩], .bool true])) V from ⟨hb, a, true, rfl, .inl ⟨rfl, h⟩⟩)
  generalize ReadP t w = PQ at *
  unfold str
  go_enter Tryz.func49, Tryz.ntmps49
  go_wp2_with fail
  have hA := (Below.refl w.heap.size w).alloc (Nat.le_refl _) zeroBlk
  have hz : (w.alloc zeroBlk).heap[w.heap.size]? = some zeroBlk := heap_alloc_new w _
  have HA := Lib.hid hA
  have HZ := Lib.hid hz
  have hsz : (w.alloc zeroBlk).heap.size = w.heap.size + 1 := by simp
  have HSz := Lib.hid hsz
  clear hA hz hsz
  unfold zeroBlk at *
  generalize w.alloc (.cells #[.int .u8 0, .int .i64 0, .int .i64 0, .string ⟨#[]⟩] 44 (0, 0)) = w0 at *
  refine (words t (by omega) _).mono ?_
  rintro e w1 ⟨hb, ⟨hn, rfl⟩ | ⟨l, g, c, hw, rfl, g0, g1, hlc, hrow⟩⟩
  · have HB := Lib.hid (below_th HA.out hb)
    have HK := Lib.hid ((hb.block _ (lt_of_block HZ.out)).trans HZ.out)
    have HN : Hid ((wordsT t).bind readA = none) := Lib.hid (by rw [hn]; rfl)
    obtain ⟨c0, c1, c2, c3, cf⟩ := act_cells HK.out
    clear hb hn
    go_wp2
    refine bodyPost_ret (v := .tuple #[.agg #[.int .u8 0, .int .i64 0, .int .i64 0, .string ⟨#[]⟩], .bool false]) (by simp [results, Tryz.results49, go_sem, *]) rfl ?_
    exact HNo.out _ ⟨0, 0, 0, []⟩ ((((HB.out.setCell (Nat.le_refl _) _).setCell (Nat.le_refl _) _).setCell (Nat.le_refl _) _).setCell (Nat.le_refl _) _) HN.out
  · have HB := Lib.hid (below_th HA.out hb)
    have HK := Lib.hid ((hb.block _ (lt_of_block HZ.out)).trans HZ.out)
    have HW := Lib.hid hw
    have HRow := Lib.hid hrow
    have HSz1 := Lib.hid hb.size
    have HLen := Lib.hid (words_lens hw)
    have HNe := Lib.hid (words_ne hw)
    have hlx : l.length ≤ 65537 := by have := HLen.out.2; omega
    clear hb hw hrow hlc
    go_wp2
    have HR0 : Hid (Ra w ((w1.alloc (actBlk 0 0 0 [])).alloc (.cells namC 9)) w1.heap.size (w1.heap.size + 1) g ⟨kdTo (l.getD 0 []) 1, 0, 0, []⟩ l) := Lib.hid (by
      have hk : kdTo (l.getD 0 []) 1 = 0 := rfl
      have h1 := HSz.out
      have hA2 : Below w1.heap.size w1 ((w1.alloc (actBlk 0 0 0 [])).alloc (.cells namC 9)) := ((Below.refl _ _).alloc (Nat.le_refl _) _).alloc (by simp) _
      refine ⟨(hA2.block _ (lt_of_block HK.out)).trans HK.out, ?_, ?_, fun i x hx => (hA2.cell (p := ⟨g, i, none⟩) g1).trans (HRow.out i x hx), by omega, g1, by omega, HB.out.trans (hA2.mono HB.out.size)⟩
      · rw [hk]
        exact (Below.heap_alloc _ _ _ (by simp)).trans (heap_alloc_new w1 _)
      · have := heap_alloc_new (w1.alloc (actBlk 0 0 0 [])) (.cells namC 9)
        simpa using this)
    obtain ⟨x, hx⟩ : ∃ x, l.getD 0 [] = x := ⟨_, rfl⟩
    have HX0 : Hid (l[0]? = some x) := Lib.hid (by rw [← hx]; cases l with | nil => exact absurd rfl HNe.out | cons a r => rfl)
    have HXd := Lib.hid hx
    have hlpos : 0 < l.length := by cases l with | nil => exact absurd rfl HNe.out | cons a r => simp
    clear hx
    go_loopw [8] (fun vi wr => rel1 w w1.heap.size (w1.heap.size + 1) g l vi wr) (fun vi _ => 8 - (RowKit.intOf vi).toNat)
    case atStart => exact ⟨1, by omega, by omega, rfl, HR0.out⟩
    case round =>
      clear HR0
      obtain ⟨i, i1, i8, rfl, hra⟩ := hrel
      rw [HXd.out] at hra
      have HRa := Lib.hid hra
      clear hra
      by_cases hi : i < 8
      · have hi' : (i : Int) < 8 := by omega
        have hn := HRa.out.name i hi
        have hl0 := HRa.out.row 0 x HX0.out
        unfold str at hl0
        have hi0 : (1 : Int) ≤ i := by omega
        have HK1 : Hid (kdTo x (i + 1) = if (form i).word = x then (i : Int) else kdTo x i) := Lib.hid (by
          show (if 1 ≤ i ∧ (form i).word = x then (i : Int) else kdTo x i) = _
          by_cases hf : (form i).word = x
          · rw [if_pos ⟨i1, hf⟩, if_pos hf]
          · rw [if_neg (fun h => hf h.2), if_neg hf])
        obtain ⟨c0, c1, c2, c3, cf⟩ := HRa.out.cells
        generalize (form i).word = fw at *
        by_cases hf : fw = x
        · have hq : (fw == x) = true := beq_iff_eq.2 hf
          have HF := Lib.hid hf
          clear hf
          go_wp2_with fail
          go_quiet (fail)
          go_wp2
          refine ⟨⟨i + 1, by omega, by omega, by go_num, ?_⟩, by simp [RowKit.intOf]; omega⟩
          rw [HXd.out, HK1.out, if_pos HF.out]
          exact (HRa.out.below (below_drewN (Below.refl _ _) _)).set 0 _ rfl
        · have hq : (fw == x) = false := beq_eq_false_iff_ne.2 hf
          have HF := Lib.hid hf
          clear hf
          go_wp2_with fail
          go_quiet (fail)
          go_wp2
          refine ⟨⟨i + 1, by omega, by omega, by go_num, ?_⟩, by simp [RowKit.intOf]; omega⟩
          rw [HXd.out, HK1.out, if_neg HF.out]
          exact HRa.out.below (below_drewN (Below.refl _ _) _)
      · obtain rfl : i = 8 := by omega
        rw [show ((8 : Nat) : Int) = 8 from rfl]
        have HBd := Lib.hid (kdTo_bd x 8 (by omega))
        have d0 := HBd.out.1
        have d7 := HBd.out.2
        have HD0 : Hid (kdTo (l.getD 0 []) 8 = kdTo x 8) := Lib.hid (by rw [HXd.out])
        generalize kdTo x 8 = d at *
        obtain ⟨c0, c1, c2, c3, cf⟩ := HRa.out.cells
        simp only at c0 c1 c2 c3
        go_upto_region 11 with fail
        go_cut [51] (fun s51 wx => s51 = .bool (decide (d = 4 ∧ l.length = 2)) ∧ wx = wr)
        case first =>
          by_cases hd4 : d = 4
          · by_cases hl2 : l.length = 2
            · have hq : ((d : Int) == 4) = true := beq_iff_eq.2 hd4
              have hq2 : ((l.length : Int) == 2) = true := beq_iff_eq.2 (by omega)
              have HD : Hid (decide (d = 4 ∧ l.length = 2) = true) := Lib.hid (decide_eq_true ⟨hd4, hl2⟩)
              clear hd4 hl2
              go_wp2
              go_meet
              rw [HD.out]
              exact ⟨rfl, rfl⟩
            · have hq : ((d : Int) == 4) = true := beq_iff_eq.2 hd4
              have hq2 : ((l.length : Int) == 2) = false := beq_eq_false_iff_ne.2 (by omega)
              have HD : Hid (decide (d = 4 ∧ l.length = 2) = false) := Lib.hid (decide_eq_false fun h => hl2 h.2)
              clear hd4 hl2
              go_wp2
              go_meet
              rw [HD.out]
              exact ⟨rfl, rfl⟩
          · have hq : ((d : Int) == 4) = false := beq_eq_false_iff_ne.2 hd4
            have HD : Hid (decide (d = 4 ∧ l.length = 2) = false) := Lib.hid (decide_eq_false fun h => hd4 h.1)
            clear hd4
            go_wp2
            go_meet
            rw [HD.out]
            exact ⟨rfl, rfl⟩
        case rest =>
          obtain ⟨rfl, rfl⟩ := hcut
          go_upto_if 51 with (fail)
          go_cut [] (fun wx => ∃ a, Ra w wx w1.heap.size (w1.heap.size + 1) g a l ∧ Bl l a ∧ a.t.length ≤ 65536)
          case first =>
            by_cases hd : d = 4 ∧ l.length = 2
            · obtain ⟨rfl, hl2⟩ := hd
              obtain ⟨y, hy⟩ : ∃ y, l[1]? = some y := ⟨_, List.getElem?_eq_getElem (by omega)⟩
              have hlt : (1 : Int) < l.length := by omega
              have hr1 := HRa.out.row 1 y hy
              have hyl : y.length ≤ 65536 := by have := HLen.out.1 y (List.mem_of_getElem? hy); omega
              have HL2 := Lib.hid hl2
              have HY := Lib.hid hy
              rw [decide_eq_true (show (4 : Int) = 4 ∧ l.length = 2 from ⟨rfl, hl2⟩)]
              unfold str at hr1
              clear hl2 hy
              go_wp2_with fail
              refine (bytes y hyl _).mono ?_
              rintro e w2 ⟨hb, b, ok, rfl, hcase⟩
              have HR2 := Lib.hid (HRa.out.below hb)
              have HC := Lib.hid hcase
              clear hb hcase c0 c1 c2 c3 cf
              obtain ⟨c0, c1, c2, c3, cf⟩ := HR2.out.cells
              unfold str
              go_wp2
              go_meet
              refine ⟨⟨4, 0, 0, b⟩, HR2.out.set 3 _ rfl, ⟨HD0.out.symm, .inl ⟨rfl, HL2.out, rfl, rfl, fun y' hy' => ?_⟩⟩, ?_⟩
              · rw [HY.out] at hy'
                cases hy'
                rcases HC.out with ⟨_, h⟩ | ⟨_, h, h2⟩
                · exact .inl h
                · exact .inr ⟨h, h2⟩
              · rcases HC.out with ⟨_, h⟩ | ⟨_, h, h2⟩
                · exact Nat.le_trans (bytes_len h) hyl
                · rw [h2]; simp
            · rw [decide_eq_false hd]
              have HNd := Lib.hid hd
              clear hd
              have hR1 : Hid (Ns w (wc.alloc (.cells #[.int .i64 0, .int .i64 0] 3)) w1.heap.size (w1.heap.size + 1) g wc.heap.size ⟨d, 0, 0, []⟩ l 1 0 0) := Lib.hid ⟨HRa.out.below ((Below.refl _ _).alloc (Nat.le_refl _) _), heap_alloc_new wc _, HRa.out.lt, fun _ => rfl, fun h => absurd h (by omega), fun _ => rfl, fun h => absurd h (by omega)⟩
              go_wp2
              go_loopw [12] (fun vi wx => rel2 w w1.heap.size (w1.heap.size + 1) g wc.heap.size ⟨d, 0, 0, []⟩ l vi wx) (fun vi _ => 3 - (RowKit.intOf vi).toNat)
              case atStart => exact ⟨1, 0, 0, by omega, by omega, .inl (by omega), rfl, hR1.out⟩
              case round =>
                clear hR1 c0 c1 c2 c3 cf
                generalize wc.heap.size = bm at *
                obtain ⟨i, x0, y0, i1, i3, hil, rfl, hns⟩ := hrel
                have HNs := Lib.hid hns
                clear hns
                by_cases hlt : i < l.length
                · obtain ⟨y, hy⟩ : ∃ y, l[i]? = some y := ⟨_, List.getElem?_eq_getElem hlt⟩
                  have hlt' : (i : Int) < l.length := by omega
                  have hyl : y.length ≤ 1048576 := by have := HLen.out.1 y (List.mem_of_getElem? hy); omega
                  have hr1 := HNs.out.ra.row i y hy
                  have HY := Lib.hid hy
                  unfold str at hr1
                  clear hy
                  have hcase : i = 1 ∨ i = 2 ∨ i = 3 := by omega
                  rcases hcase with rfl | rfl | rfl
                  · have hlt' : (1 : Int) < l.length := hlt'
                    go_wp2_with fail
                    refine (numb y hyl _).mono ?_
                    rintro e w2 ⟨⟨v, b, rfl, hnu⟩, hb⟩
                    have HNu : Hid (NuE y v) := Lib.hid ⟨b, hnu⟩
                    have HR2 := Lib.hid (HNs.out.ra.below hb)
                    have HB2 := Lib.hid ((hb.block _ (lt_of_block HNs.out.blk)).trans HNs.out.blk)
                    clear hb hnu
                    obtain ⟨e0, e1, ef⟩ : w2.cell? ⟨bm, 0, none⟩ = some (.int .i64 x0) ∧ w2.cell? ⟨bm, 1, none⟩ = some (.int .i64 y0) ∧ ∀ i, w2.frozen? ⟨bm, i, none⟩ = false := by
                      refine ⟨?_, ?_, fun i => ?_⟩
                      · unfold World.cell?; rw [HB2.out]; rfl
                      · unfold World.cell?; rw [HB2.out]; rfl
                      · unfold World.frozen?; rw [HB2.out]; simp
                    go_wp2
                    refine ⟨⟨2, v, y0, by omega, by omega, .inr (by omega), rfl, HR2.out.step (B := bm) HNs.out.o4 ((Below.refl bm w2).setCell (show bm ≤ (⟨bm, 0, none⟩ : Addr).block from Nat.le_refl _) _), ?_, HNs.out.o4, fun h => absurd h (by omega), fun _ z hz => ?_, fun _ => HNs.out.y0 (by omega), fun h => absurd h (by omega)⟩, by simp [RowKit.intOf]⟩
                    · rw [heap_setCell_same _ _ _ _ _ _ HB2.out]; rfl
                    · rw [HY.out] at hz; cases hz; exact HNu.out
                  · have hlt' : (2 : Int) < l.length := hlt'
                    go_wp2_with fail
                    refine (numb y hyl _).mono ?_
                    rintro e w2 ⟨⟨v, b, rfl, hnu⟩, hb⟩
                    have HNu : Hid (NuE y v) := Lib.hid ⟨b, hnu⟩
                    have HR2 := Lib.hid (HNs.out.ra.below hb)
                    have HB2 := Lib.hid ((hb.block _ (lt_of_block HNs.out.blk)).trans HNs.out.blk)
                    clear hb hnu
                    obtain ⟨e0, e1, ef⟩ : w2.cell? ⟨bm, 0, none⟩ = some (.int .i64 x0) ∧ w2.cell? ⟨bm, 1, none⟩ = some (.int .i64 y0) ∧ ∀ i, w2.frozen? ⟨bm, i, none⟩ = false := by
                      refine ⟨?_, ?_, fun i => ?_⟩
                      · unfold World.cell?; rw [HB2.out]; rfl
                      · unfold World.cell?; rw [HB2.out]; rfl
                      · unfold World.frozen?; rw [HB2.out]; simp
                    go_wp2
                    refine ⟨⟨3, x0, v, by omega, by omega, .inr (by omega), rfl, HR2.out.step (B := bm) HNs.out.o4 ((Below.refl bm w2).setCell (show bm ≤ (⟨bm, 1, none⟩ : Addr).block from Nat.le_refl _) _), ?_, HNs.out.o4, fun h => absurd h (by omega), fun _ z hz => HNs.out.x1 (by omega) z hz, fun h => absurd h (by omega), fun _ z hz => ?_⟩, by simp [RowKit.intOf]⟩
                    · rw [heap_setCell_same _ _ _ _ _ _ HB2.out]; rfl
                    · rw [HY.out] at hz; cases hz; exact HNu.out
                  · have hlt' : (3 : Int) < l.length := hlt'
                    obtain ⟨e0, e1, ef⟩ : wr.cell? ⟨bm, 0, none⟩ = some (.int .i64 x0) ∧ wr.cell? ⟨bm, 1, none⟩ = some (.int .i64 y0) ∧ ∀ i, wr.frozen? ⟨bm, i, none⟩ = false := by
                      refine ⟨?_, ?_, fun i => ?_⟩
                      · unfold World.cell?; rw [HNs.out.blk]; rfl
                      · unfold World.cell?; rw [HNs.out.blk]; rfl
                      · unfold World.frozen?; rw [HNs.out.blk]; simp
                    obtain ⟨c0, c1, c2, c3, cf⟩ := HNs.out.ra.cells
                    simp only at c0 c1 c2 c3
                    have hbne : w1.heap.size < bm := by have := HNs.out.o4; omega
                    go_wp2
                    go_meet
                    refine ⟨⟨d, x0, y0, []⟩, ((HNs.out.ra.set (a' := ⟨d, x0, 0, []⟩) 1 _ rfl).set 2 _ rfl), ⟨HD0.out.symm, .inr ⟨HNd.out, rfl, fun h => HNs.out.x0 (by omega), fun z hz => HNs.out.x1 (by have := (List.getElem?_eq_some_iff.1 hz).1; omega) z hz, fun h => HNs.out.y0 (by omega), fun z hz => HNs.out.y1 (by have := (List.getElem?_eq_some_iff.1 hz).1; omega) z hz⟩⟩, by simp⟩
                · have hlt' : ¬ (i : Int) < l.length := by omega
                  obtain ⟨e0, e1, ef⟩ : wr.cell? ⟨bm, 0, none⟩ = some (.int .i64 x0) ∧ wr.cell? ⟨bm, 1, none⟩ = some (.int .i64 y0) ∧ ∀ i, wr.frozen? ⟨bm, i, none⟩ = false := by
                    refine ⟨?_, ?_, fun i => ?_⟩
                    · unfold World.cell?; rw [HNs.out.blk]; rfl
                    · unfold World.cell?; rw [HNs.out.blk]; rfl
                    · unfold World.frozen?; rw [HNs.out.blk]; simp
                  obtain ⟨c0, c1, c2, c3, cf⟩ := HNs.out.ra.cells
                  simp only at c0 c1 c2 c3
                  have hbne : w1.heap.size < bm := by have := HNs.out.o4; omega
                  go_wp2
                  go_meet
                  refine ⟨⟨d, x0, y0, []⟩, ((HNs.out.ra.set (a' := ⟨d, x0, 0, []⟩) 1 _ rfl).set 2 _ rfl), ⟨HD0.out.symm, .inr ⟨HNd.out, rfl, fun h => HNs.out.x0 (by omega), fun z hz => HNs.out.x1 (by have := (List.getElem?_eq_some_iff.1 hz).1; omega) z hz, fun h => HNs.out.y0 (by omega), fun z hz => HNs.out.y1 (by have := (List.getElem?_eq_some_iff.1 hz).1; omega) z hz⟩⟩, by simp⟩
          case rest =>
            obtain ⟨a, hra, hbl, hat⟩ := hcut
            clear HRa c0 c1 c2 c3 cf HK
            have HR3 := Lib.hid hra
            have hok := hbl.ok (by omega)
            have HAc := Lib.hid (fun V => act a hok hat V)
            have HFi := Lib.hid (hbl.fin HW.out (by omega) fun x hx => by have := HLen.out.1 x hx; omega)
            obtain ⟨d, n, m, tt⟩ := a
            rw [acC_eq] at HAc
            obtain ⟨c0, c1, c2, c3, cf⟩ := hra.cells
            simp only at c0 c1 c2 c3 HAc
            clear hra hbl hok
            go_wp2_with fail
            refine (HAc.out _).mono ?_
            rintro e w4 ⟨hb, sx, b, rfl, hbm, hsl⟩
            have HR4 := Lib.hid (HR3.out.below hb)
            clear hb c0 c1 c2 c3 cf HAc
            obtain ⟨c0, c1, c2, c3, cf⟩ := HR4.out.cells
            obtain ⟨z0, z1, z2, z3, zf⟩ := act_cells HR4.out.ret
            simp only at c0 c1 c2 c3
            have hne : w.heap.size < w1.heap.size := by have := HR4.out.o1; have := HR4.out.o2; omega
            cases b with
            | false =>
              have HBm := Lib.hid hbm
              clear hbm hsl
              unfold str
              go_wp2
              refine bodyPost_ret (v := .tuple #[.agg #[.int .u8 d, .int .i64 n, .int .i64 m, .string ⟨tt.toArray⟩], .bool false]) (by simp [results, Tryz.results49, go_sem, *]) rfl ?_
              exact HNo.out _ ⟨d, n, m, tt⟩ ((((HR4.out.bel.setCell (Nat.le_refl _) _).setCell (Nat.le_refl _) _).setCell (Nat.le_refl _) _).setCell (Nat.le_refl _) _) (HFi.out.2 fun h => by rw [← HBm.out] at h; cases h.1)
            | true =>
              have HBm := Lib.hid hbm
              obtain rfl := hsl rfl
              clear hbm hsl
              unfold str
              generalize lineA ⟨d, n, m, tt⟩ = sx at *
              by_cases he : sx = t
              · have hq : (sx == t) = true := beq_iff_eq.2 he
                have HE := Lib.hid he
                clear he
                go_wp2
                refine bodyPost_ret (v := .tuple #[.agg #[.int .u8 d, .int .i64 n, .int .i64 m, .string ⟨tt.toArray⟩], .bool true]) (by simp [results, Tryz.results49, go_sem, *]) rfl ?_
                exact HYes.out _ ⟨d, n, m, tt⟩ ((((HR4.out.bel.setCell (Nat.le_refl _) _).setCell (Nat.le_refl _) _).setCell (Nat.le_refl _) _).setCell (Nat.le_refl _) _) (HFi.out.1 ⟨HBm.out.symm, HE.out⟩)
              · have hq : (sx == t) = false := beq_eq_false_iff_ne.2 he
                have HE := Lib.hid he
                clear he
                go_wp2
                refine bodyPost_ret (v := .tuple #[.agg #[.int .u8 d, .int .i64 n, .int .i64 m, .string ⟨tt.toArray⟩], .bool false]) (by simp [results, Tryz.results49, go_sem, *]) rfl ?_
                exact HNo.out _ ⟨d, n, m, tt⟩ ((((HR4.out.bel.setCell (Nat.le_refl _) _).setCell (Nat.le_refl _) _).setCell (Nat.le_refl _) _).setCell (Nat.le_refl _) _) (HFi.out.2 fun h => HE.out h.2)
end R32
end Go.Proofs.YtohlgcdailconaaGreatDoor.Scr
