/- alive: the chapter's example. -/
import Derived.Test.YtohlgcdailconaaGreatDoorScrQ
import Derived.Test.YtohlgcdailconaaGreatDoorScrS
import Derived.Test.YtohlgcdailconaaGreatDoorScrH
namespace Go.Proofs.YtohlgcdailconaaGreatDoor.Scr
open Go.RowKit Lib Go.Proofs.YtohlgcdailconaaGreatDoor.Word
set_option linter.unusedVariables false
set_option linter.unusedSimpArgs false
def exA : Ac := ⟨2, 1, 99, []⟩
def exS : Sc := ⟨9, [2], [107], [], [exA]⟩
def exT : Tx := [109, 97, 99, 104, 105, 110, 101, 32, 57, 32, 50, 10, 107, 101, 121, 32, 120, 54, 98, 10, 114, 117, 110, 32, 49, 32, 57, 57, 10]
def runT : Tx := [114, 117, 110, 32, 49]
theorem dec_1 (u : Nat) (h : u < 10) : decDigits u = [UInt8.ofNat (48 + u)] := by rw [decDigits, dif_pos h]
theorem exA_ok : exA.ok := ⟨by decide, by decide, by decide, by decide, by decide, by decide, by decide⟩
theorem exA_may : mayA exA = true := by decide
theorem exS_ok : exS.ok := ⟨by decide, by decide, by decide, by decide, by decide, fun t h => (by cases h), by decide, fun a h => (by
  have : a = exA := by simpa [exS] using h
  subst this
  exact exA_ok), by decide⟩
theorem hex_k : hexT [107] = [54, 98] := by decide +kernel
theorem itoa_9 : Lib.itoa 9 = [57] := by decide +kernel
theorem itoa_2 : Lib.itoa 2 = [50] := by decide +kernel
theorem itoa_1 : Lib.itoa 1 = [49] := by decide +kernel
theorem itoa_99 : Lib.itoa 99 = [57, 57] := by decide +kernel
theorem scT_ex : scT exS = exT := by
  unfold scT headT keyT actsT exS
  simp only [List.flatMap_cons, List.flatMap_nil]
  rw [itoa_9, hex_k]
  unfold extT
  rw [itoa_2]
  have : lineA exA = [114, 117, 110, 32, 49, 32, 57, 57] := by
    unfold lineA wordsA exA
    rw [show (form (2 : Int)).word = [114, 117, 110] from rfl, show (form (2 : Int)).n = 2 from rfl, show (form (2 : Int)).text = false from rfl]
    simp only [List.take, List.map_cons, List.map_nil]
    rw [itoa_1, itoa_99]
    rfl
  rw [this]
  rfl
theorem write_ex : writeE exS = 0 ∧ writeO exS = exT := by
  have h : writeE exS = 0 := writeE_of (by decide) (by decide) (by decide) (by rw [scT_ex]; decide)
  exact ⟨h, by unfold writeO; rw [if_pos h, scT_ex]⟩
theorem read_ex : readT exT = (exS, 0, 0) := by
  have := read_write exS_ok write_ex.1
  rw [scT_ex] at this
  exact this
theorem read_ex2 : readT (exT ++ runT ++ [10]) = (zeroS, 4, 320) := by
  have hs : spl 10 (exT ++ runT ++ [10]) = linesT exS ++ runT :: [[]] := by
    have h := scT_lines exS
    rw [scT_ex] at h
    have h2 := spl_lines (linesT exS ++ [runT]) (fun l hl => by
      rcases List.mem_append.1 hl with hl | hl
      · exact linesT_chars (by decide) l hl
      · simp only [List.mem_singleton] at hl
        subst hl
        decide)
    rw [List.flatMap_append, ← h] at h2
    simpa using h2
  have hr : lineT exS 3 true runT = none := by
    have hw : wordsT runT = some [[114, 117, 110], [49]] := words_join [[114, 117, 110], [49]] (by simp) (by unfold wchar; decide)
    rw [lineT_of hw, lineW_n (by decide), if_neg (by decide)]
    rfl
  unfold readT
  rw [if_neg (by decide), hs]
  unfold linesT exS
  simp only [List.map_nil, List.nil_append, List.map_cons, List.cons_append]
  rw [goL_step (lineT_m _ _ (by decide) (by decide) (by decide)) (by simp), goL_step (n := 0 + 1) (show lineT _ (0 + 1) _ _ = _ from lineT_k _ _ _) (by simp)]
  rw [goL_step (lineT_a _ _ _ (by decide) exA_may exA_ok) (by simp)]
  exact goL_stop hr (by simp)
theorem check_bad : checkE ⟨0, [], [], [], [⟨0, 0, 0, []⟩]⟩ = 2 := by decide
theorem check_ex : checkE exS = 0 := by decide
def exP (k : Nat) : SA := ⟨some ⟨k, 0, none⟩, 1, none, 0, some ⟨k + 1, 0, none⟩, 1⟩
theorem one_row {w : World} {g : Nat} {cs : List Value} {T : TypeId} (h : w.heap[g]? = some (.cells cs.toArray T (0, 0))) : Rd w (some ⟨g, 0, none⟩) cs.length [cs] := fun i r hi => by
  cases i with
  | succ i => simp at hi
  | zero =>
    simp at hi
    subst hi
    refine ⟨g, 0, rfl, lt_of_block h, fun j v hv => ?_⟩
    unfold World.cell?
    rw [h]
    simpa using hv
set_option maxRecDepth 100000 in
set_option maxHeartbeats 4000000 in
theorem alive {w : World} (h : Laid w) : Calls Tryz.prog 6 #[] w fun e w' => e = .returned (.bool true) ∧ Below w.heap.size w w' := by
  have H := Lib.hid h
  clear h
  have HB3 : Hid (Below w.heap.size w (((w.alloc (.cells #[.int .u32 2] 22)).alloc (.cells #[.int .u8 2, .int .i64 1, .int .i64 99, .string ⟨#[]⟩] 44)).alloc (.cells #[.int .u32 9, .slice (some ⟨w.heap.size, 0, none⟩) 1 1, .string ⟨#[107]⟩, .slice none 0 0, .slice (some ⟨w.heap.size + 1, 0, none⟩) 1 1] 29))) := Lib.hid ((((Below.refl _ _).alloc (Nat.le_refl _) _).alloc (by simp) _).alloc (by simp; omega) _)
  have g0 : (((w.alloc (.cells #[.int .u32 2] 22)).alloc (.cells #[.int .u8 2, .int .i64 1, .int .i64 99, .string ⟨#[]⟩] 44)).alloc (.cells #[.int .u32 9, .slice (some ⟨w.heap.size, 0, none⟩) 1 1, .string ⟨#[107]⟩, .slice none 0 0, .slice (some ⟨w.heap.size + 1, 0, none⟩) 1 1] 29)).heap[w.heap.size]? = some (.cells #[.int .u32 2] 22 (0, 0)) := (Below.heap_alloc _ _ _ (by simp; omega)).trans ((Below.heap_alloc _ _ _ (by simp)).trans (heap_alloc_new w _))
  have g1 : (((w.alloc (.cells #[.int .u32 2] 22)).alloc (.cells #[.int .u8 2, .int .i64 1, .int .i64 99, .string ⟨#[]⟩] 44)).alloc (.cells #[.int .u32 9, .slice (some ⟨w.heap.size, 0, none⟩) 1 1, .string ⟨#[107]⟩, .slice none 0 0, .slice (some ⟨w.heap.size + 1, 0, none⟩) 1 1] 29)).heap[w.heap.size + 1]? = some (.cells #[.int .u8 2, .int .i64 1, .int .i64 99, .string ⟨#[]⟩] 44 (0, 0)) := (Below.heap_alloc _ _ _ (by simp)).trans (by have := heap_alloc_new (w.alloc (.cells #[.int .u32 2] 22)) (.cells #[.int .u8 2, .int .i64 1, .int .i64 99, .string ⟨#[]⟩] 44); simpa using this)
  have g2 : (((w.alloc (.cells #[.int .u32 2] 22)).alloc (.cells #[.int .u8 2, .int .i64 1, .int .i64 99, .string ⟨#[]⟩] 44)).alloc (.cells #[.int .u32 9, .slice (some ⟨w.heap.size, 0, none⟩) 1 1, .string ⟨#[107]⟩, .slice none 0 0, .slice (some ⟨w.heap.size + 1, 0, none⟩) 1 1] 29)).heap[w.heap.size + 1 + 1]? = some (wrBlk (exP w.heap.size) exS) := by have := heap_alloc_new ((w.alloc (.cells #[.int .u32 2] 22)).alloc (.cells #[.int .u8 2, .int .i64 1, .int .i64 99, .string ⟨#[]⟩] 44)) (.cells #[.int .u32 9, .slice (some ⟨w.heap.size, 0, none⟩) 1 1, .string ⟨#[107]⟩, .slice none 0 0, .slice (some ⟨w.heap.size + 1, 0, none⟩) 1 1] 29); simpa [wrBlk, exP, exS, SA.cells, str] using this
  have HS3 : Hid (ScR (((w.alloc (.cells #[.int .u32 2] 22)).alloc (.cells #[.int .u8 2, .int .i64 1, .int .i64 99, .string ⟨#[]⟩] 44)).alloc (.cells #[.int .u32 9, .slice (some ⟨w.heap.size, 0, none⟩) 1 1, .string ⟨#[107]⟩, .slice none 0 0, .slice (some ⟨w.heap.size + 1, 0, none⟩) 1 1] 29)) (exP w.heap.size) exS) := Lib.hid ⟨one_row (cs := [.int .u32 2]) g0, Rd.nil _ _ _, one_row (cs := acC exA) g1⟩
  have HG2 := Lib.hid g2
  clear g0 g1 g2
  go_enter Tryz.func6, Tryz.ntmps6
  go_wp2_with fail
  generalize (((w.alloc (.cells #[.int .u32 2] 22)).alloc (.cells #[.int .u8 2, .int .i64 1, .int .i64 99, .string ⟨#[]⟩] 44)).alloc (.cells #[.int .u32 9, .slice (some ⟨w.heap.size, 0, none⟩) 1 1, .string ⟨#[107]⟩, .slice none 0 0, .slice (some ⟨w.heap.size + 1, 0, none⟩) 1 1] 29)) = w3 at *
  have HWr := Lib.hid (write (H.out.step HB3.out) exS_ok HS3.out)
  refine HWr.out.mono ?_
  rintro e w4 ⟨rfl, hb⟩
  rw [write_ex.1, write_ex.2]
  have HB4 := Lib.hid (below_th HB3.out hb)
  have HS4 := Lib.hid (HS3.out.below hb)
  have HG4 := Lib.hid ((hb.block _ (lt_of_block HG2.out)).trans HG2.out)
  clear hb HWr HS3 HG2
  have HRd := Lib.hid (readAll (t := exT) (H.out.step HB4.out))
  unfold str exT
  go_wp2_with fail
  refine HRd.out.mono ?_
  rintro e w5 ⟨hb, p1, hs1, rfl⟩
  rw [read_ex] at hs1 ⊢
  have HB5 := Lib.hid (below_th HB4.out hb)
  have HS5 := Lib.hid (HS4.out.below hb)
  have HG5 := Lib.hid ((hb.block _ (lt_of_block HG4.out)).trans HG4.out)
  have HX5 := Lib.hid hs1
  clear hb HRd HS4 HG4 hs1 HB4
  have hsa : p1.cells exS = #[.int .u32 9, .slice p1.ea 1 p1.ec, .string ⟨#[107]⟩, .slice p1.ia 0 p1.ic, .slice p1.aa 1 p1.ac] := rfl
  rw [hsa]
  go_wp2_with fail
  have HA5 := Lib.hid ((Below.refl w5.heap.size w5).alloc (Nat.le_refl _) (.cells #[.int .u32 9, .slice p1.ea 1 p1.ec, .string ⟨#[107]⟩, .slice p1.ia 0 p1.ic, .slice p1.aa 1 p1.ac] 29))
  have hxb := heap_alloc_new w5 (.cells #[.int .u32 9, .slice p1.ea 1 p1.ec, .string ⟨#[107]⟩, .slice p1.ia 0 p1.ic, .slice p1.aa 1 p1.ac] 29)
  have hzb : w.heap.size + 1 + 1 < w5.heap.size := lt_of_block HG5.out
  generalize hw5 : w5.heap.size = xb at *
  generalize w5.alloc (.cells #[.int .u32 9, .slice p1.ea 1 p1.ec, .string ⟨#[107]⟩, .slice p1.ia 0 p1.ic, .slice p1.aa 1 p1.ac] 29) = w6 at *
  have HB6 := Lib.hid (HB5.out.trans (HA5.out.mono (by rw [← hw5]; exact HB5.out.size)))
  have hA : Below w5.heap.size w5 w6 := by rw [hw5]; exact HA5.out
  have HS6 := Lib.hid (HS5.out.below hA)
  have HX6 := Lib.hid (HX5.out.below hA)
  have HG6 := Lib.hid ((hA.block _ (lt_of_block HG5.out)).trans HG5.out)
  have HXb : Hid (w6.heap[xb]? = some (wrBlk p1 exS)) := Lib.hid hxb
  clear HA5 hxb hA HS5 HX5 HG5 HB5 hw5 hsa
  have HRd := Lib.hid (readAll (t := exT ++ runT ++ [10]) (H.out.step HB6.out))
  unfold str exT runT at HRd
  refine HRd.out.mono ?_
  rintro e w7 ⟨hb, p2, _, rfl⟩
  rw [show ([109, 97, 99, 104, 105, 110, 101, 32, 57, 32, 50, 10, 107, 101, 121, 32, 120, 54, 98, 10, 114, 117, 110, 32, 49, 32, 57, 57, 10] ++ [114, 117, 110, 32, 49] ++ [10] : Tx) = exT ++ runT ++ [10] from rfl, read_ex2]
  have HB7 := Lib.hid (below_th HB6.out hb)
  have HS7 := Lib.hid (HS6.out.below hb)
  have HX7 := Lib.hid (HX6.out.below hb)
  have HG7 := Lib.hid ((hb.block _ (lt_of_block HG6.out)).trans HG6.out)
  have HY7 := Lib.hid ((hb.block _ (lt_of_block HXb.out)).trans HXb.out)
  clear hb HRd HS6 HX6 HG6 HXb HB6
  have hsa : p2.cells zeroS = #[.int .u32 0, .slice p2.ea 0 p2.ec, .string ⟨#[]⟩, .slice p2.ia 0 p2.ic, .slice p2.aa 0 p2.ac] := rfl
  rw [hsa]
  obtain ⟨c0, c1, c2, c3, c4⟩ := blk5 HG7.out
  obtain ⟨d0, d1, d2, d3, d4⟩ := blk5 HY7.out
  have hz1 := lt_of_block HG7.out
  have hz2 := lt_of_block HY7.out
  simp only [exP, exS, str, List.length_cons, List.length_nil, Nat.zero_add] at c0 c1 c2 c3 c4 d0 d1 d2 d3 d4
  go_wp2_with fail
  have hA := (Below.refl w7.heap.size w7).alloc (Nat.le_refl _) (.cells #[.int .u32 0, .slice p2.ea 0 p2.ec, .string ⟨#[]⟩, .slice p2.ia 0 p2.ic, .slice p2.aa 0 p2.ac] 29)
  have HB8 := Lib.hid (below_th HB7.out hA)
  have HS8 := Lib.hid (HS7.out.below hA)
  have HX8 := Lib.hid (HX7.out.below hA)
  have HG8 := Lib.hid ((hA.block _ (lt_of_block HG7.out)).trans HG7.out)
  clear hA HS7 HX7 HG7 HY7 HB7 c0 c1 c2 c3 c4 d0 d1 d2 d3 d4 hz1 hz2 hsa
  generalize w7.alloc (.cells #[.int .u32 0, .slice p2.ea 0 p2.ec, .string ⟨#[]⟩, .slice p2.ia 0 p2.ic, .slice p2.aa 0 p2.ac] 29) = w8 at *
  have HSa := Lib.hid (same HX8.out HS8.out (by decide) (by decide) (by decide))
  refine HSa.out.mono ?_
  rintro e w9 ⟨rfl, hb⟩
  have HB9 := Lib.hid (below_th HB8.out hb)
  have HS9 := Lib.hid (HS8.out.below hb)
  have HG9 := Lib.hid ((hb.block _ (lt_of_block HG8.out)).trans HG8.out)
  clear hb HSa HS8 HX8 HG8 HB8
  obtain ⟨c0, c1, c2, c3, c4⟩ := blk5 HG9.out
  have hz1 := lt_of_block HG9.out
  simp only [exP, exS, str, List.length_cons, List.length_nil, Nat.zero_add] at c0 c1 c2 c3 c4
  go_wp2_with fail
  have HCk := Lib.hid (checkS (H.out.step HB9.out) exS_ok HS9.out)
  refine HCk.out.mono ?_
  rintro e w10 ⟨rfl, hb⟩
  rw [check_ex]
  have HB10 := Lib.hid (below_th HB9.out hb)
  clear hb HCk HS9 HG9 HB9 c0 c1 c2 c3 c4 hz1
  have hA := (Below.refl w10.heap.size w10).alloc (Nat.le_refl _) (.cells #[.int .u8 0, .int .i64 0, .int .i64 0, .string ⟨#[]⟩] 44)
  have hR := one_row (cs := acC ⟨0, 0, 0, []⟩) (heap_alloc_new w10 (.cells #[.int .u8 0, .int .i64 0, .int .i64 0, .string ⟨#[]⟩] 44))
  have HB11 := Lib.hid (below_th HB10.out hA)
  have HBd := Lib.hid (checkS (p := ⟨none, 0, none, 0, some ⟨w10.heap.size, 0, none⟩, 1⟩) (s := ⟨0, [], [], [], [⟨0, 0, 0, []⟩]⟩) (H.out.step HB11.out) ⟨by decide, by decide, fun x h => (by cases h), by decide, by decide, fun x h => (by cases h), by decide, fun a h => (by simp at h; subst h; exact ⟨by decide, by decide, by decide, by decide, by decide, by decide, by decide⟩), by decide⟩ ⟨Rd.nil _ _ _, Rd.nil _ _ _, hR⟩)
  clear hA hR
  go_wp2_with fail
  generalize w10.alloc (.cells #[.int .u8 0, .int .i64 0, .int .i64 0, .string ⟨#[]⟩] 44) = w11 at *
  refine HBd.out.mono ?_
  rintro e w12 ⟨rfl, hb⟩
  rw [check_bad]
  have HB12 := Lib.hid (below_th HB11.out hb)
  clear hb HBd
  go_wp2
  go_ret
  exact ⟨rfl, HB12.out⟩
end Go.Proofs.YtohlgcdailconaaGreatDoor.Scr
