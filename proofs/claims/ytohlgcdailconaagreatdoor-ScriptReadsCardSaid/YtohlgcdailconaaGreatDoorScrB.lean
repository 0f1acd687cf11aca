/- script's Acts: the lines of acts. -/
import Derived.Test.YtohlgcdailconaaGreatDoorScrK
import Derived.Test.YtohlgcdailconaaGreatDoorSlv
namespace Go.Proofs.YtohlgcdailconaaGreatDoor.Scr
open Go.RowKit Lib
set_option linter.unusedVariables false
set_option linter.unusedSimpArgs false
theorem actsT_snoc (l : List Ac) (i : Nat) (x : Ac) (h : l[i]? = some x) : actsT (l.take (i + 1)) = actsT (l.take i) ++ (lineA x ++ [10]) := by
  rw [List.take_add_one, h]
  simp [actsT]
theorem wordsA_le (a : Ac) (ha : a.ok) : (wordsA a).length ≤ 4 ∧ ∀ x, x ∈ wordsA a → x.length ≤ 3000000 := by
  have hf : (form a.d).n ≤ 2 ∧ (form a.d).word.length ≤ 10 := by
    unfold form
    rcases Nat.lt_or_ge a.d.toNat 8 with h | h
    · have : a.d.toNat = 0 ∨ a.d.toNat = 1 ∨ a.d.toNat = 2 ∨ a.d.toNat = 3 ∨ a.d.toNat = 4 ∨ a.d.toNat = 5 ∨ a.d.toNat = 6 ∨ a.d.toNat = 7 := by omega
      rcases this with h | h | h | h | h | h | h | h <;> rw [h] <;> decide
    · rw [List.getD, List.getElem?_eq_none (by simpa [forms] using h)]
      decide
  refine ⟨?_, fun x hx => ?_⟩
  · unfold wordsA
    rw [List.length_cons, List.length_append, List.length_map, List.length_take]
    split <;> simp <;> omega
  · unfold wordsA at hx
    rcases List.mem_cons.1 hx with rfl | hx
    · omega
    · rcases List.mem_append.1 hx with hx | hx
      · obtain ⟨y, hy, rfl⟩ := List.mem_map.1 hx
        have hy := List.mem_of_mem_take hy
        simp at hy
        have : (Lib.itoa y).length ≤ 21 := by rcases hy with rfl | rfl; exact Lib.itoa_length_le _ ha.n0 ha.n1; exact Lib.itoa_length_le _ ha.m0 ha.m1
        omega
      · split at hx
        · simp at hx
          subst hx
          have := hexT_length a.t
          have := ha.t1
          simp
          omega
        · simp at hx
theorem lineA_le (a : Ac) (ha : a.ok) : (lineA a).length ≤ 12000004 := by
  obtain ⟨h1, h2⟩ := wordsA_le a ha
  have := join_le _ _ h2
  have h3 := Nat.mul_le_mul_right (3000000 + 1) h1
  unfold lineA
  omega
theorem actsT_le (l : List Ac) (h : ∀ a, a ∈ l → a.ok) : (actsT l).length ≤ l.length * 12000005 := by
  induction l with
  | nil => simp [actsT]
  | cons x r ih =>
    have h1 := lineA_le x (h x (by simp))
    have h2 := ih fun a ha => h a (by simp [ha])
    have : actsT (x :: r) = (lineA x ++ [10]) ++ actsT r := rfl
    rw [this]
    simp only [List.length_append, List.length_cons, List.length_nil]
    rw [Nat.add_mul]
    omega
def lineRel (W : World) (b1 b2 : Nat) (l : List Ac) (vi : Value) (wr : World) : Prop :=
  ∃ i : Nat, i ≤ l.length ∧ vi = .int .i64 i ∧ (∀ (k : Nat) a, k < i → l[k]? = some a → mayA a = true) ∧ Bld wr b1 b1 (actsT (l.take i)) ∧ Below b1 W wr ∧ wr.heap[b2]? = some (.cells #[.bool false] 4 (0, 0))
def LinesP (W : World) (b1 b2 : Nat) (l : List Ac) (e : Ending) (w' : World) : Prop :=
  (e = if l.all mayA then .returned (.tuple #[]) else bad) ∧ (l.all mayA = true → Bld w' b1 b1 (actsT l)) ∧ Below b1 W w' ∧ w'.heap[b2]? = some (.cells #[.bool false] 4 (0, 0))
set_option maxRecDepth 100000 in
theorem lines {W : World} {b0 b1 b2 c : Nat} {a : Option Addr} {l : List Ac} (h : Laid W) (hok : ∀ a, a ∈ l → a.ok) (hn : l.length ≤ 1000000) (hr : RdA W a l) (h0 : W.heap[b0]? = some (.cells #[.slice a l.length c] 27 (0, 0)))
    (h1 : Bld W b1 b1 []) (h2 : W.heap[b2]? = some (.cells #[.bool false] 4 (0, 0))) (h01 : b0 < b1) (h100 : 8 ≤ b1) (h12 : b1 ≠ b2) (ha : ∀ g o, a = some ⟨g, o, none⟩ → l ≠ [] → g < b1) :
    Calls Tryz.prog 25 #[.pointer (some ⟨b0, 0, none⟩), .pointer (some ⟨b1, 0, none⟩)] W (LinesP W b1 b2 l) := by
  have HYes := Lib.hid fun V (hv : l.all mayA = true) (hb : Bld V b1 b1 (actsT l)) (hl : Below b1 W V) (h2 : V.heap[b2]? = some (.cells #[.bool false] 4 (0, 0))) => (show LinesP W b1 b2 l (.returned (.tuple #[])) V from ⟨by rw [hv]; rfl, fun _ => hb, hl, h2⟩)
  have HNo := Lib.hid fun V (hv : l.all mayA = false) (hl : Below b1 W V) (h2 : V.heap[b2]? = some (.cells #[.bool false] 4 (0, 0))) => (show LinesP W b1 b2 l bad V from ⟨by rw [hv]; rfl, fun e => (by rw [hv] at e; cases e), hl, h2⟩)
  generalize LinesP W b1 b2 l = PQ at *
  have HRel0 : Hid (lineRel W b1 b2 l (.int .i64 0) W) := Lib.hid ⟨0, by omega, rfl, fun k a hk => absurd hk (Nat.not_lt_zero _), h1, Below.refl _ _, h2⟩
  have hc0 := cell_of_one h0
  have HR := Lib.hid fun V (hV : Below b1 W V) => (show RdA V a l by
    by_cases hl : l = []
    · subst hl; exact Rd.nil _ _ _
    · exact Rd.keep hr hV.size fun g o e _ => hV.block g (ha g o e hl))
  have HL := Lib.hid fun V (hV : Below b1 W V) => h.below hV h100
  have HOk := Lib.hid hok
  have HS : Hid (∀ i, (actsT (l.take i)).length ≤ 1000000 * 12000005) := Lib.hid fun i => by
    have h1 := actsT_le (l.take i) fun a ha => hok a (List.mem_of_mem_take ha)
    have h2 : (l.take i).length ≤ 1000000 := by rw [List.length_take]; omega
    exact Nat.le_trans h1 (Nat.mul_le_mul_right _ h2)
  have hb1 : b1 < W.heap.size := by
    rcases h1 with ⟨_, _, g, _⟩ | ⟨_, _, g, _⟩ <;> exact lt_of_block g
  clear h0 h1 h2 hr h hok ha
  go_enter Tryz.func25, Tryz.ntmps25
  go_wp2
  go_loopw [3, 6] (fun _ vi wr => lineRel W b1 b2 l vi wr) (fun _ vi _ => l.length - (RowKit.intOf vi).toNat)
  case atStart => exact HRel0.out
  case round =>
    clear HRel0
    obtain ⟨i, hi, rfl, hno, hbl, hbw, hb2⟩ := hrel
    have HNn := Lib.hid hno
    have HBl := Lib.hid hbl
    have HBw := Lib.hid hbw
    have HB2 := Lib.hid hb2
    have hsw := hbw.size
    clear hno hbl hbw hb2
    by_cases hin : i < l.length
    · have HX : Hid (l[i]? = some l[i]) := Lib.hid (List.getElem?_eq_getElem hin)
      generalize l[i] = x at *
      obtain ⟨g, off, rfl, c0, c1, c2, c3⟩ := RdA.at (HR.out wr HBw.out) HX.out
      have hxo := HOk.out x (List.mem_of_getElem? HX.out)
      have hll := lineA_le x hxo
      have hb1r : Below b1 W (wr.alloc (.cells #[.int .u8 x.d, .int .i64 x.n, .int .i64 x.m, .string ⟨x.t.toArray⟩] 44)) := HBw.out.alloc (by omega) _
      have HA := Lib.hid (act x hxo (HL.out _ hb1r))
      rw [acC_eq] at HA
      have hb2r : (wr.alloc (.cells #[.int .u8 x.d, .int .i64 x.n, .int .i64 x.m, .string ⟨x.t.toArray⟩] 44)).heap[b2]? = some (.cells #[.bool false] 4 (0, 0)) := (Below.heap_alloc _ _ _ (lt_of_block HB2.out)).trans HB2.out
      have hblr : Bld (wr.alloc (.cells #[.int .u8 x.d, .int .i64 x.n, .int .i64 x.m, .string ⟨x.t.toArray⟩] 44)) b1 b1 (actsT (l.take i)) := HBl.out.keep ((Below.refl _ _).alloc (Nat.le_refl _) _)
      have HB1r := Lib.hid hb1r
      have HB2r := Lib.hid hb2r
      have HBlr := Lib.hid hblr
      clear hb1r hb2r hblr hxo
      cases hm : mayA x with
      | true =>
        have HLn : Hid (lineO x = some (lineA x)) := Lib.hid (by unfold lineO; rw [hm]; rfl)
        have HM := Lib.hid hm
        clear hm
        go_wp2_with fail
        refine HA.out.mono ?_
        generalize wr.alloc (.cells #[.int .u8 x.d, .int .i64 x.n, .int .i64 x.m, .string ⟨x.t.toArray⟩] 44) = w4 at *
        rintro e w5 ⟨he, hb5⟩
        rw [HLn.out] at he
        subst he
        have HBl5 := Lib.hid (HBlr.out.keep hb5)
        have HW5 := Lib.hid (HB1r.out.trans (hb5.mono (by have := HB1r.out.size; omega)))
        have HB25 := Lib.hid ((hb5.block _ (lt_of_block HB2r.out)).trans HB2r.out)
        clear hb5
        have HWr := Lib.hid (writeS HBl5.out (lineA x ++ [10]) (by have := HS.out i; simp only [List.length_append, List.length_cons, List.length_nil]; omega) (by have := HW5.out.size; omega))
        rw [← str_cat] at HWr
        have hll2 : List.length (lineA x) + 1 ≤ 9223372036854775807 := by omega
        unfold str
        go_wp2_with fail
        refine HWr.out.mono ?_
        rintro e w6 ⟨rfl, hbl, hbw, hot⟩
        have HBl6 := Lib.hid hbl
        have HBw6 := Lib.hid hbw
        have HOt := Lib.hid hot
        clear hbl hbw hot
        go_wp2_with fail
        refine ⟨⟨i + 1, by omega, by go_num, fun k a hk hy => ?_, ?_, HW5.out.trans HBw6.out, HOt.out _ _ HB25.out (by simp; omega) (fun c fz e => by cases e)⟩, by simp [RowKit.intOf]; omega⟩
        · rcases Nat.lt_or_ge k i with q | q
          · exact HNn.out k a q hy
          · obtain rfl : k = i := by omega
            rw [HX.out] at hy
            cases hy
            exact HM.out
        · rw [actsT_snoc l i x HX.out]
          exact HBl6.out
      | false =>
        have HLn : Hid (lineO x = none) := Lib.hid (by unfold lineO; rw [hm]; rfl)
        have HV : Hid (l.all mayA = false) := Lib.hid (by rw [List.all_eq_false]; exact ⟨x, List.mem_of_getElem? HX.out, by simp [hm]⟩)
        clear hm
        go_wp2_with fail
        refine HA.out.mono ?_
        generalize wr.alloc (.cells #[.int .u8 x.d, .int .i64 x.n, .int .i64 x.m, .string ⟨x.t.toArray⟩] 44) = w4 at *
        rintro e w5 ⟨he, hb5⟩
        rw [HLn.out] at he
        subst he
        exact ⟨rfl, HNo.out _ HV.out (HB1r.out.trans (hb5.mono (by have := HB1r.out.size; omega))) ((hb5.block _ (lt_of_block HB2r.out)).trans HB2r.out)⟩
    · have HV : Hid (l.all mayA = true) := Lib.hid (by
        rw [List.all_eq_true]
        intro x hx
        obtain ⟨k, hk⟩ := List.getElem?_of_mem hx
        exact HNn.out k x (by have := (List.getElem?_eq_some_iff.1 hk).1; omega) hk)
      have HT : Hid (actsT (l.take i) = actsT l) := Lib.hid (by rw [List.take_of_length_le (by omega)])
      rw [HT.out] at HBl
      go_wp2
      go_end0
      exact HYes.out _ HV.out HBl.out HBw.out HB2.out
/-- A cell of another block, which is no row of bytes. -/
theorem Bld.setCell {w : World} {B b k : Nat} {t : Tx} {cs : Array Value} {T : TypeId} {fr : Nat × Nat} (h : Bld w B b t) (hk : w.heap[k]? = some (.cells cs T fr)) (hT : T ≠ 5) (hkb : k ≠ b) (v : Value) : Bld (w.setCell ⟨k, 0, none⟩ v) B b t := by
  have q : ∀ p, Lib.BuilderAtF 48 5 B b p (Lib.byteCells t) w → Lib.BuilderAtF 48 5 B b p (Lib.byteCells t) (w.setCell ⟨k, 0, none⟩ v) := fun p ⟨hB, u, hv, ho, hn⟩ =>
    ⟨hB, u, (Below.heap_setCell _ _ _ _ (fun e => hkb e.symm)).trans hv, World.ownsRowF.kept (row := some k) ho ⟨rfl, rfl, rfl, by simp [World.setCell], fun j _ hj => Below.heap_setCell _ _ _ _ (fun e => hj (by simp [e]))⟩ (.inr (Lib.ownBlock_neF ho hk hT)), hn⟩
  exact h.imp (q _) (q _)
def actsO (l : List Ac) : Tx := if l.all mayA then actsT l else []
def actsE (l : List Ac) : Int := if l.all mayA then 0 else 2
def ActsP (w : World) (l : List Ac) (e : Ending) (w' : World) : Prop := e = .returned (.tuple #[str (actsO l), .int .i64 (actsE l)]) ∧ Below w.heap.size w w'
theorem acts {w : World} {c : Nat} {a : Option Addr} {l : List Ac} (h : Laid w) (hok : ∀ a, a ∈ l → a.ok) (hn : l.length ≤ 1000000) (hr : RdA w a l) :
    Calls Tryz.prog 10 #[.slice a l.length c] w (ActsP w l) := by
  have HFin := Lib.hid fun V (hb : Below w.heap.size w V) => (show ActsP w l (.returned (.tuple #[str (actsO l), .int .i64 (actsE l)])) V from ⟨rfl, hb⟩)
  generalize ActsP w l = PQ at *
  have hbA : Below w.heap.size w (((w.alloc (.cells #[.slice a l.length c] 27)).alloc (.cells #[.pointer none, .slice none 0 0] 48)).alloc (.cells #[.bool false] 4)) := (((Below.refl _ _).alloc (Nat.le_refl _) _).alloc (by simp) _).alloc (by simp; omega) _
  have HBA := Lib.hid hbA
  have hz : ∀ g o, a = some ⟨g, o, none⟩ → l ≠ [] → g < w.heap.size := fun g o e hl => by
    cases l with
    | nil => exact absurd rfl hl
    | cons x r =>
      obtain ⟨g', o', e', hg, _⟩ := hr 0 (acC x) rfl
      rw [e] at e'
      cases e'
      exact hg
  have h1 : (((w.alloc (.cells #[.slice a l.length c] 27)).alloc (.cells #[.pointer none, .slice none 0 0] 48)).alloc (.cells #[.bool false] 4)).heap[w.heap.size]? = some (.cells #[.slice a l.length c] 27 (0, 0)) :=
    (Below.heap_alloc _ _ _ (by simp; omega)).trans ((Below.heap_alloc _ _ _ (by simp)).trans (heap_alloc_new _ _))
  have h2 : (((w.alloc (.cells #[.slice a l.length c] 27)).alloc (.cells #[.pointer none, .slice none 0 0] 48)).alloc (.cells #[.bool false] 4)).heap[w.heap.size + 1]? = some (.cells #[.pointer none, .slice none 0 0] 48 (0, 0)) := by
    refine (Below.heap_alloc _ _ _ (by simp)).trans ?_
    have := heap_alloc_new (w.alloc (.cells #[.slice a l.length c] 27)) (.cells #[.pointer none, .slice none 0 0] 48)
    simpa using this
  have h3 : (((w.alloc (.cells #[.slice a l.length c] 27)).alloc (.cells #[.pointer none, .slice none 0 0] 48)).alloc (.cells #[.bool false] 4)).heap[w.heap.size + 1 + 1]? = some (.cells #[.bool false] 4 (0, 0)) := by
    have := heap_alloc_new ((w.alloc (.cells #[.slice a l.length c] 27)).alloc (.cells #[.pointer none, .slice none 0 0] 48)) (.cells #[.bool false] 4)
    simpa using this
  have HLs := Lib.hid (lines (b0 := w.heap.size) (b1 := w.heap.size + 1) (b2 := w.heap.size + 1 + 1) (h.below hbA h.big) hok hn (Rd.below hr hbA) h1 (Bld.new h2 (Nat.le_refl _)) h3 (by omega) (by have := h.big; omega) (by omega) (fun g o e hl => by have := hz g o e hl; omega))
  have hmf : ∀ (fn : Fn) (first cap : Array Value) (w : World), (Instr.makeFunc fn first cap).run Tryz.prog w = .ok (.func fn first cap) w := fun _ _ _ _ => rfl
  have HSz : Hid (((w.alloc (.cells #[.slice a l.length c] 27)).alloc (.cells #[.pointer none, .slice none 0 0] 48)).heap.size = w.heap.size + 1 + 1) := Lib.hid (by simp)
  have HB2 : Hid (Below w.heap.size w ((w.alloc (.cells #[.slice a l.length c] 27)).alloc (.cells #[.pointer none, .slice none 0 0] 48))) := Lib.hid (((Below.refl _ _).alloc (Nat.le_refl _) _).alloc (by simp) _)
  clear hr h hok hz h1 h2 h3 hbA
  cases hall : l.all mayA with
  | true =>
    have HO : Hid (actsO l = actsT l ∧ actsE l = 0) := Lib.hid ⟨by unfold actsO; rw [hall]; rfl, by unfold actsE; rw [hall]; rfl⟩
    rw [HO.out.1, HO.out.2] at HFin
    have HC := Lib.hid (caught_ok (g := 25) (cap := #[.pointer (some ⟨w.heap.size, 0, none⟩), .pointer (some ⟨w.heap.size + 1, 0, none⟩)]) (w := (w.alloc (.cells #[.slice a l.length c] 27)).alloc (.cells #[.pointer none, .slice none 0 0] 48)) (Q := fun V => Bld V (w.heap.size + 1) (w.heap.size + 1) (actsT l) ∧ Below w.heap.size w V) (enters_of Tryz.func25 (by kernel_rfl) rfl) (HLs.out.mono fun e w' ⟨he, hb, hl, h2⟩ => ⟨by rw [he, hall]; rfl, by rw [HSz.out]; exact h2, hb hall, HBA.out.trans (hl.mono (by omega))⟩))
    clear hall
    rw [HSz.out] at HC
    unfold str at *
    go_enter Tryz.func10, Tryz.ntmps10
    go_wp2_with fail
    refine HC.out.mono ?_
    rintro e w2 ⟨rfl, w1, ⟨hbl, hbw⟩, hbk, rfl⟩
    have hbd := hbl.setCell hbk (by decide) (by omega) (.bool false)
    have hbs : Below w.heap.size w (w1.setCell ⟨w.heap.size + 1 + 1, 0, none⟩ (.bool false)) := hbw.setCell (by simp only; omega) _
    have HS := Lib.hid (stringS hbd (by have := hbs.size; have := lt_of_block hbk; simp; omega))
    have HBs := Lib.hid hbs
    clear hbl hbw hbk hbd hbs
    generalize w1.setCell ⟨w.heap.size + 1 + 1, 0, none⟩ (.bool false) = w2 at *
    unfold str at HS
    go_wp2_with fail
    refine HS.out.mono ?_
    rintro e w3 ⟨rfl, hb⟩
    have HB3 := Lib.hid (HBs.out.trans (hb.mono (by omega)))
    clear hb
    go_wp2
    exact HFin.out _ HB3.out
  | false =>
    have HO : Hid (actsO l = [] ∧ actsE l = 2) := Lib.hid ⟨by unfold actsO; rw [hall]; rfl, by unfold actsE; rw [hall]; rfl⟩
    rw [HO.out.1, HO.out.2] at HFin
    have HC := Lib.hid (caught_bad (g := 25) (cap := #[.pointer (some ⟨w.heap.size, 0, none⟩), .pointer (some ⟨w.heap.size + 1, 0, none⟩)]) (w := (w.alloc (.cells #[.slice a l.length c] 27)).alloc (.cells #[.pointer none, .slice none 0 0] 48)) (Q := fun V => Below w.heap.size w V) (enters_of Tryz.func25 (by kernel_rfl) rfl) (HLs.out.mono fun e w' ⟨he, hb, hl, h2⟩ => ⟨by rw [he, hall]; rfl, by rw [HSz.out]; exact h2, HBA.out.trans (hl.mono (by omega))⟩))
    clear hall
    rw [HSz.out] at HC
    unfold str at *
    go_enter Tryz.func10, Tryz.ntmps10
    go_wp2_with fail
    refine HC.out.mono ?_
    rintro e w2 ⟨rfl, w1, hbw, hbk, rfl⟩
    have HBs : Hid (Below w.heap.size w (w1.setCell ⟨w.heap.size + 1 + 1, 0, none⟩ (.bool true))) := Lib.hid (hbw.setCell (by simp only; omega) _)
    clear hbw hbk
    generalize w1.setCell ⟨w.heap.size + 1 + 1, 0, none⟩ (.bool true) = w2 at *
    go_wp2
    exact HFin.out _ HBs.out
end Go.Proofs.YtohlgcdailconaaGreatDoor.Scr
