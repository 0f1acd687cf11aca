/- The walk of the document's Write. -/
import Derived.Test.YtohlgcdailconaaGreatDoorScrUb
namespace Go.Proofs.YtohlgcdailconaaGreatDoor.Scr
open Go.RowKit Lib
set_option linter.unusedVariables false
set_option linter.unusedSimpArgs false
namespace R32
def flRel {X : Type} (W : World) (hd : Tx) (f : X → Tx) (l : List X) (vs vi : Value) (wr : World) : Prop := ∃ i : Nat, i ≤ l.length ∧ vi = .int .i64 i ∧ vs = str (hd ++ (l.take i).flatMap f) ∧ Below W.heap.size W wr
theorem flat_take_le {X : Type} (f : X → Tx) (M i : Nat) (l : List X) (h : ∀ x, x ∈ l → (f x).length ≤ M) : ((l.take i).flatMap f).length ≤ l.length * M := by
  have := flat_le f M (l.take i) fun x hx => h x (List.mem_of_mem_take hx)
  exact Nat.le_trans this (Nat.mul_le_mul_right M (by rw [List.length_take]; omega))
set_option maxRecDepth 100000 in
set_option maxHeartbeats 2000000 in
theorem writeR {w : World} {p : SA} {s : Sc} (hs : Sc.ok2 s) (hr : ScR w p s) : Calls Tryz.prog 9 #[.agg (p.cells s)] w (WriteP w s) := by
  have HBad := Lib.hid fun V x (hb : Below w.heap.size w V) (hx : checkE s = x) (hc : (x != 0) = true) => (show WriteP w s (.returned (.tuple #[.string ⟨#[]⟩, .int .i64 x])) V from ⟨by
    have hc2 : checkE s ≠ 0 := by rw [hx]; simpa using hc
    unfold writeO writeE
    rw [if_pos hc2, if_neg hc2, hx]; rfl, hb⟩)
  have HLong := Lib.hid fun V (hb : Below w.heap.size w V) (hx : checkE s = 0) (hc : 1048576 < (scT s).length) => (show WriteP w s (.returned (.tuple #[.string ⟨#[]⟩, .int .i64 5])) V from ⟨by
    have he : writeE s = 5 := by unfold writeE; rw [if_neg (fun h => h hx), if_pos hc]
    unfold writeO
    rw [he]; rfl, hb⟩)
  have HYes := Lib.hid fun V t (hb : Below w.heap.size w V) (hx : checkE s = 0) (ht : t = scT s) (hc : ¬ 1048576 < (scT s).length) => (show WriteP w s (.returned (.tuple #[.string ⟨t.toArray⟩, .int .i64 0])) V from ⟨by
    have he : writeE s = 0 := by unfold writeE; rw [if_neg (fun h => h hx), if_neg hc]
    unfold writeO
    rw [he, ht]; rfl, hb⟩)
  generalize WriteP w s = PQ at *
  have hb : Below w.heap.size w (w.alloc (.cells (p.cells s) 29)) := (Below.refl _ _).alloc (Nat.le_refl _) _
  have HC := Lib.hid (checkR hs (hr.below hb))
  have HR := Lib.hid (hr.below hb)
  have HB := Lib.hid hb
  have HBlk : Hid ((w.alloc (.cells (p.cells s) 29)).heap[w.heap.size]? = some (wrBlk p s)) := Lib.hid (heap_alloc_new w _)
  obtain ⟨c0, c1, c2, c3, c4⟩ := blk5 HBlk.out
  have hz := lt_of_block HBlk.out
  have hsx : p.cells s = #[.int .u32 s.pages, .slice p.ea s.exts.length p.ec, .string ⟨s.key.toArray⟩, .slice p.ia s.imgs.length p.ic, .slice p.aa s.acts.length p.ac] := rfl
  have HS := Lib.hid hs
  have HCell := Lib.hid fun V (hV : Below (w.alloc (.cells (p.cells s) 29)).heap.size (w.alloc (.cells (p.cells s) 29)) V) => blk5 ((hV.block _ hz).trans HBlk.out)
  have HRE := Lib.hid HR.out.exts
  have HRI := Lib.hid HR.out.imgs
  have HRA := Lib.hid HR.out.acts
  clear hb hs hr HBlk HR
  unfold str at *
  rw [hsx] at HB HC HCell HRE HRI HRA c0 c1 c2 c3 c4 hz ⊢
  clear hsx
  generalize p.ea = ea at *
  generalize p.ec = ec at *
  generalize p.ia = ia at *
  generalize p.ic = ic at *
  generalize p.aa = aa at *
  generalize p.ac = ac at *
  go_enter Tryz.func9, Tryz.ntmps9
  go_wp2_with fail
  generalize w.alloc (.cells #[.int .u32 s.pages, .slice ea s.exts.length ec, .string ⟨s.key.toArray⟩, .slice ia s.imgs.length ic, .slice aa s.acts.length ac] 29) = w1 at *
  refine HC.out.mono ?_
  rintro e w2 ⟨rfl, hb⟩
  have HB2 := Lib.hid hb
  obtain ⟨d0, d1, d2, d3, d4⟩ := HCell.out _ hb
  clear hb HC c0 c1 c2 c3 c4
  obtain ⟨x, hx⟩ : ∃ x, checkE s = x := ⟨_, rfl⟩
  rw [hx]
  have HX := Lib.hid hx
  clear hx
  cases hc : (x != 0) with
  | true =>
    have HXc := Lib.hid hc
    go_wp2
    exact HBad.out _ _ (below_th HB.out HB2.out) HX.out HXc.out
  | false =>
    have hx0 : x = 0 := by simpa using hc
    subst hx0
    have p0 := HS.out.ok.p0
    have el1 := HS.out.ok.el
    have il1 := HS.out.ok.il
    have p1 := HS.out.ok.p1
    have hpl := Lib.itoa_length_le s.pages (by omega) (by omega)
    have hee : ∀ i, ((s.exts.take i).flatMap extT).length ≤ 22000000 := fun i => by
      have := flat_take_le extT 22 i s.exts fun x hx => by
        have := HS.out.ok.e0 x hx
        have := Lib.itoa_length_le x (by omega) (by omega)
        simp [extT]; omega
      have := Nat.mul_le_mul_right 22 HS.out.ok.el
      omega
    have hii : ∀ i, ((s.imgs.take i).flatMap imgT).length ≤ 140000000000 := fun i => by
      have := flat_take_le imgT 140000 i s.imgs fun x hx => by
        have := HS.out.il x hx
        have := hexT_length x
        simp [imgT]; omega
      have := Nat.mul_le_mul_right 140000 HS.out.ok.il
      omega
    have haa : (actsT s.acts).length ≤ 12000005000000 := by
      have := actsT_le s.acts HS.out.ok.a0
      have := Nat.mul_le_mul_right 12000005 HS.out.ok.al
      omega
    have hkk : (hexT s.key).length ≤ 131072 := by have := hexT_length s.key; have := HS.out.kl; omega
    have HEE := Lib.hid hee
    have HII := Lib.hid hii
    clear hee hii d1 d2 d3 d4
    have g0 : 8 + (Lib.itoa s.pages).length ≤ 9223372036854775807 := by omega
    go_wp2_with fail
    refine (number' s.pages (by omega) (by omega) _).mono ?_
    rintro e w3 ⟨rfl, hb⟩
    have HB3 := Lib.hid (below_th HB2.out hb)
    clear hb d0
    unfold str
    go_wp2
    go_loopw [5, 6] (fun vs vi wr => flRel w1 (headT s) extT s.exts vs vi wr) (fun _ vi _ => s.exts.length - (RowKit.intOf vi).toNat)
    case atStart => exact ⟨0, by omega, rfl, (str_cat [109, 97, 99, 104, 105, 110, 101, 32] (Lib.itoa s.pages)).trans (congrArg str (by simp [headT])), HB3.out⟩
    case round =>
      obtain ⟨i, hi, rfl, rfl, hb⟩ := hrel
      have HW := Lib.hid hb
      obtain ⟨f0, f1, f2, f3, f4⟩ := HCell.out _ hb
      clear hb
      by_cases hil : i < s.exts.length
      · have hil' : (i : Int) < s.exts.length := by omega
        obtain ⟨g, off, rfl, hce⟩ := (HRE.out.below HW.out).at hil
        have hx0 := HS.out.ok.e0 _ (List.getElem_mem hil)
        have HT : Hid ((s.exts.take (i + 1)).flatMap extT = (s.exts.take i).flatMap extT ++ extT s.exts[i]) := Lib.hid (flat_snoc extT _ _ _ (List.getElem?_eq_getElem hil))
        generalize s.exts[i] = x at *
        have hxl := Lib.itoa_length_le x (by omega) (by omega)
        have hel := HEE.out i
        have hhl : (headT s).length ≤ 29 := by simp [headT]; omega
        generalize headT s = hd at *
        generalize (s.exts.take i).flatMap extT = tl at *
        have g1 : (hd ++ tl).length + 1 ≤ 9223372036854775807 := by rw [List.length_append]; omega
        have g2 : (hd ++ tl).length + 1 + (Lib.itoa x).length ≤ 9223372036854775807 := by rw [List.length_append]; omega
        have HTl : Hid (hd ++ tl ++ [32] ++ Lib.itoa x = hd ++ (s.exts.take (i + 1)).flatMap extT) := Lib.hid (by rw [HT.out]; simp [extT])
        generalize hd ++ tl = tx at *
        unfold str
        go_wp2_with fail
        refine (number' x (by omega) (by omega) _).mono ?_
        rintro e w4 ⟨rfl, hb⟩
        have HB4 := Lib.hid (below_th HW.out hb)
        clear hb
        unfold str
        go_wp2
        refine ⟨⟨i + 1, by omega, by go_num, (str_cat3 tx [32] (Lib.itoa x)).trans (congrArg str HTl.out), HB4.out⟩, by simp [RowKit.intOf]; omega⟩
      · have hil' : ¬ (i : Int) < s.exts.length := by omega
        obtain rfl : i = s.exts.length := by omega
        have hel := HEE.out s.exts.length
        have hhl : (headT s).length ≤ 29 := by simp [headT]; omega
        have HB4 := Lib.hid (bytes' s.key HS.out.kl)
        have HTl : Hid (headT s ++ (s.exts.take s.exts.length).flatMap extT ++ [10, 107, 101, 121, 32] ++ (120 :: hexT s.key) ++ [10] = headT s ++ s.exts.flatMap extT ++ keyT s) := Lib.hid (by rw [List.take_length]; simp [keyT])
        have hxk : (120 :: hexT s.key).length ≤ 140000 := by simp; omega
        have g1 : (headT s ++ (s.exts.take s.exts.length).flatMap extT).length + 5 ≤ 9223372036854775807 := by rw [List.length_append]; omega
        have g2 : (headT s ++ (s.exts.take s.exts.length).flatMap extT).length + 5 + (120 :: hexT s.key).length ≤ 9223372036854775807 := by rw [List.length_append]; omega
        have g3 : (headT s ++ (s.exts.take s.exts.length).flatMap extT).length + 5 + (120 :: hexT s.key).length + 1 ≤ 9223372036854775807 := by rw [List.length_append]; omega
        have hT2 : (headT s ++ s.exts.flatMap extT ++ keyT s).length ≤ 30000000 := by
          rw [← HTl.out]
          simp only [List.length_append, List.length_cons, List.length_nil]
          omega
        have HSc : Hid (scT s = headT s ++ s.exts.flatMap extT ++ keyT s ++ s.imgs.flatMap imgT ++ actsT s.acts) := Lib.hid rfl
        unfold BytP at HB4
        generalize headT s ++ (s.exts.take s.exts.length).flatMap extT = tx at *
        generalize headT s ++ s.exts.flatMap extT ++ keyT s = hd at *
        generalize 120 :: hexT s.key = kx at *
        clear hel hhl hkk hpl hi
        unfold str at *
        go_wp2_with fail
        refine (HB4.out _).mono ?_
        rintro e w4 ⟨rfl, hb⟩
        have HW2 := Lib.hid (below_th HW.out hb)
        clear hb
        have HT3 : Hid (Value.string ((⟨tx.toArray⟩ : ByteArray) ++ ⟨#[10, 107, 101, 121, 32]⟩ ++ ⟨kx.toArray⟩ ++ ⟨#[10]⟩) = str hd) := Lib.hid (by rw [← HTl.out]; rfl)
        go_wp2
        rw [HT3.out]
        clear g1 g2 g3 HT3 HTl hxk HB4
        go_loopw [5, 7] (fun vs vi wr => flRel w1 hd imgT s.imgs vs vi wr) (fun _ vi _ => s.imgs.length - (RowKit.intOf vi).toNat)
        case atStart => exact ⟨0, by omega, rfl, by simp, HW2.out⟩
        case round =>
          clear f0 f1 f2 f3 f4
          obtain ⟨i, hi, rfl, rfl, hb⟩ := hrel
          have HW3 := Lib.hid hb
          obtain ⟨f0, f1, f2, f3, f4⟩ := HCell.out _ hb
          clear hb
          have hel := HII.out i
          by_cases hil : i < s.imgs.length
          · have hil'' : (i : Int) < s.imgs.length := by omega
            have HXi : Hid (s.imgs[i]? = some s.imgs[i]) := Lib.hid (List.getElem?_eq_getElem hil)
            have hx0 := HS.out.il _ (List.getElem_mem hil)
            have HT : Hid ((s.imgs.take (i + 1)).flatMap imgT = (s.imgs.take i).flatMap imgT ++ imgT s.imgs[i]) := Lib.hid (flat_snoc imgT _ _ _ (List.getElem?_eq_getElem hil))
            generalize s.imgs[i] = x at *
            obtain ⟨g, off, rfl, hce⟩ := (HRI.out.below HW3.out).at HXi.out
            have HBy := Lib.hid (bytes' x hx0)
            have HTl : Hid (hd ++ (s.imgs.take i).flatMap imgT ++ [105, 109, 97, 103, 101, 32] ++ (120 :: hexT x) ++ [10] = hd ++ (s.imgs.take (i + 1)).flatMap imgT) := Lib.hid (by rw [HT.out]; simp [imgT])
            have hxk : (120 :: hexT x).length ≤ 140000 := by have := hexT_length x; simp; omega
            have g1 : (hd ++ (s.imgs.take i).flatMap imgT).length + 6 ≤ 9223372036854775807 := by rw [List.length_append]; omega
            have g2 : (hd ++ (s.imgs.take i).flatMap imgT).length + 6 + (120 :: hexT x).length ≤ 9223372036854775807 := by rw [List.length_append]; omega
            have g3 : (hd ++ (s.imgs.take i).flatMap imgT).length + 6 + (120 :: hexT x).length + 1 ≤ 9223372036854775807 := by rw [List.length_append]; omega
            unfold BytP at HBy
            generalize hd ++ (s.imgs.take i).flatMap imgT = tx at *
            generalize 120 :: hexT x = kx at *
            clear hel hx0
            unfold str at *
            go_wp2_with fail
            refine (HBy.out _).mono ?_
            rintro e w5 ⟨rfl, hb⟩
            have HW4 := Lib.hid (below_th HW3.out hb)
            clear hb
            go_wp2
            refine ⟨⟨i + 1, by omega, by go_num, ?_, HW4.out⟩, by simp [RowKit.intOf]; omega⟩
            rw [← HTl.out]
            rfl
          · have hil'' : ¬ (i : Int) < s.imgs.length := by omega
            obtain rfl : i = s.imgs.length := by omega
            rw [List.take_length] at hel ⊢
            have HA := Lib.hid (acts (c := ac) HS.out.ok.a0 HS.out.ok.al HS.out.al (HRA.out.below HW3.out))
            have HO : Hid (checkE s = 0 → actsO s.acts = actsT s.acts) := Lib.hid (fun h => by
              have h2 : hardOk s.pages s.exts = true ∧ actsE s.acts = 0 := by
                unfold checkE at h
                split at h
                · rename_i hh
                  split at h
                  · cases h
                  · exact ⟨hh, h⟩
                · cases h
              have h3 := h2.2
              unfold actsE at h3
              split at h3
              · rename_i hm; unfold actsO; rw [if_pos hm]
              · cases h3)
            have HO2 := Lib.hid (HO.out HX.out)
            unfold ActsP str at HA
            rw [HO2.out] at HA
            have g1 : (hd ++ s.imgs.flatMap imgT).length + (actsT s.acts).length ≤ 9223372036854775807 := by rw [List.length_append]; omega
            have HTl : Hid (scT s = hd ++ s.imgs.flatMap imgT ++ actsT s.acts) := HSc
            have HLn : Hid ((scT s).length = (hd ++ s.imgs.flatMap imgT).length + (actsT s.acts).length) := Lib.hid (by rw [HTl.out, List.length_append])
            generalize hd ++ s.imgs.flatMap imgT = tx at *
            generalize actsT s.acts = ax at *
            clear hel HO HO2
            unfold str at *
            by_cases hlg : 1048576 < tx.length + ax.length
            · have hlg' : (1048576 : Int) < (tx.length : Int) + ax.length := by omega
              go_wp2_with fail
              refine HA.out.mono ?_
              rintro e w5 ⟨rfl, hb⟩
              have HW4 := Lib.hid (below_th HW3.out hb)
              clear hb
              go_wp2
              exact HLong.out _ (below_th HB.out HW4.out) HX.out (by rw [HLn.out]; exact hlg)
            · have hlg' : ¬ (1048576 : Int) < (tx.length : Int) + ax.length := by omega
              go_wp2_with fail
              refine HA.out.mono ?_
              rintro e w5 ⟨rfl, hb⟩
              have HW4 := Lib.hid (below_th HW3.out hb)
              clear hb
              go_wp2
              exact HYes.out _ (tx ++ ax) (below_th HB.out HW4.out) HX.out HTl.out.symm (by rw [HLn.out]; exact hlg)
end R32
end Go.Proofs.YtohlgcdailconaaGreatDoor.Scr
