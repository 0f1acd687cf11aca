/- script's Check and Write. -/
import Derived.Test.YtohlgcdailconaaGreatDoorScrB
namespace Go.Proofs.YtohlgcdailconaaGreatDoor.Scr
open Go.RowKit Lib
set_option linter.unusedVariables false
set_option linter.unusedSimpArgs false
/-- Where a script's rows lie. -/
structure SA where
  ea : Option Addr
  ec : Nat
  ia : Option Addr
  ic : Nat
  aa : Option Addr
  ac : Nat
def SA.cells (p : SA) (s : Sc) : Array Value := #[.int .u32 s.pages, .slice p.ea s.exts.length p.ec, str s.key, .slice p.ia s.imgs.length p.ic, .slice p.aa s.acts.length p.ac]
structure ScR (w : World) (p : SA) (s : Sc) : Prop where
  exts : RdU w p.ea s.exts
  imgs : RdT w p.ia s.imgs
  acts : RdA w p.aa s.acts
theorem ScR.below {w w' : World} {p : SA} {s : Sc} (h : ScR w p s) (hb : Below w.heap.size w w') : ScR w' p s := ⟨h.exts.below hb, h.imgs.below hb, h.acts.below hb⟩
structure Sc.ok (s : Sc) : Prop where
  p0 : 0 ≤ s.pages
  p1 : s.pages ≤ 4294967295
  e0 : ∀ x, x ∈ s.exts → 0 ≤ x ∧ x ≤ 4294967295
  el : s.exts.length ≤ 1000000
  kl : s.key.length ≤ 1048576
  i0 : ∀ t, t ∈ s.imgs → t.length ≤ 1048576
  il : s.imgs.length ≤ 1000000
  a0 : ∀ a, a ∈ s.acts → a.ok
  al : s.acts.length ≤ 1000000
def checkE (s : Sc) : Int := if hardOk s.pages s.exts then if 16 < s.imgs.length then 2 else actsE s.acts else 2
def CheckP (w : World) (s : Sc) (e : Ending) (w' : World) : Prop := e = .returned (.int .i64 (checkE s)) ∧ Below w.heap.size w w'
theorem checkS {w : World} {p : SA} {s : Sc} (h : Laid w) (hs : s.ok) (hr : ScR w p s) : Calls Tryz.prog 12 #[.agg (p.cells s)] w (CheckP w s) := by
  have HFin := Lib.hid fun V x (hx : checkE s = x) (hb : Below w.heap.size w V) => (show CheckP w s (.returned (.int .i64 x)) V from ⟨by rw [hx], hb⟩)
  generalize CheckP w s = PQ at *
  have hb : Below w.heap.size w (w.alloc (.cells (p.cells s) 29)) := (Below.refl _ _).alloc (Nat.le_refl _) _
  have HC := Lib.hid (check (cap := p.ec) (hr.exts.below hb) (by have := hs.el; omega) hs.e0 hs.p0)
  have HA := Lib.hid fun V (hV : Below w.heap.size w V) => acts (c := p.ac) (h.step hV) hs.a0 hs.al (hr.acts.below hV)
  have HB := Lib.hid hb
  have HH : Hid ((hardOk s.pages s.exts = true → hardE s.pages s.exts = 0) ∧ (hardOk s.pages s.exts = false → hardE s.pages s.exts = 2)) := Lib.hid ⟨hardE_yes, hardE_no⟩
  have HE : Hid (checkE s = if hardOk s.pages s.exts then if 16 < s.imgs.length then 2 else actsE s.acts else 2) := Lib.hid rfl
  have hblk := heap_alloc_new w (.cells (p.cells s) 29)
  have hil := hs.il
  clear h hs hr hb
  obtain ⟨pages, exts, key, imgs, acts⟩ := s
  unfold SA.cells str at *
  simp only at *
  have hz := lt_of_block hblk
  have hcell : ∀ V : World, Below (w.alloc (.cells #[.int .u32 pages, .slice p.ea exts.length p.ec, .string ⟨key.toArray⟩, .slice p.ia imgs.length p.ic, .slice p.aa acts.length p.ac] 29)).heap.size (w.alloc (.cells #[.int .u32 pages, .slice p.ea exts.length p.ec, .string ⟨key.toArray⟩, .slice p.ia imgs.length p.ic, .slice p.aa acts.length p.ac] 29)) V → V.cell? ⟨w.heap.size, 2, none⟩ = some (.string ⟨key.toArray⟩) ∧ V.cell? ⟨w.heap.size, 3, none⟩ = some (.slice p.ia imgs.length p.ic) ∧ V.cell? ⟨w.heap.size, 4, none⟩ = some (.slice p.aa acts.length p.ac) := fun V hV => by
    have := (hV.block _ hz).trans hblk
    unfold World.cell?
    rw [this]
    exact ⟨rfl, rfl, rfl⟩
  have HCell := Lib.hid hcell
  clear hcell hblk hz
  cases hh : hardOk pages exts with
  | false =>
    have HV : Hid (checkE ⟨pages, exts, key, imgs, acts⟩ = 2) := Lib.hid (HE.out.trans (by simp [hh]))
    rw [HH.out.2 hh] at HC
    clear hh HH HE
    go_enter Tryz.func12, Tryz.ntmps12
    go_wp2_with fail
    refine HC.out.mono ?_
    rintro e w2 ⟨rfl, hb⟩
    have HB2 := Lib.hid (HB.out.trans (hb.mono HB.out.size))
    clear hb
    go_wp2
    exact HFin.out _ _ HV.out HB2.out
  | true =>
    rw [HH.out.1 hh] at HC
    by_cases hi : 16 < imgs.length
    · have HV : Hid (checkE ⟨pages, exts, key, imgs, acts⟩ = 2) := Lib.hid (HE.out.trans (by simp [hh, hi]))
      clear hh HH HE
      have hi' : ((16 : Int) < imgs.length) := by omega
      go_enter Tryz.func12, Tryz.ntmps12
      go_wp2_with fail
      refine HC.out.mono ?_
      rintro e w2 ⟨rfl, hb⟩
      obtain ⟨c2, c3, c4⟩ := HCell.out _ hb
      have HB2 := Lib.hid (HB.out.trans (hb.mono HB.out.size))
      clear hb
      go_wp2
      exact HFin.out _ _ HV.out HB2.out
    · have HV : Hid (checkE ⟨pages, exts, key, imgs, acts⟩ = actsE acts) := Lib.hid (HE.out.trans (by simp [hh, hi]))
      clear hh HH HE
      have hi' : ¬ ((16 : Int) < imgs.length) := by omega
      go_enter Tryz.func12, Tryz.ntmps12
      go_wp2_with fail
      refine HC.out.mono ?_
      rintro e w2 ⟨rfl, hb⟩
      obtain ⟨c2, c3, c4⟩ := HCell.out _ hb
      have HB2 := Lib.hid (HB.out.trans (hb.mono HB.out.size))
      have HA2 := Lib.hid (HA.out _ HB2.out)
      clear hb
      go_wp2_with fail
      refine HA2.out.mono ?_
      rintro e w3 ⟨rfl, hb⟩
      have HB3 := Lib.hid (below_th HB2.out hb)
      clear hb
      go_wp2
      exact HFin.out _ _ HV.out HB3.out
def extT (x : Int) : Tx := 32 :: Lib.itoa x
def imgT (t : Tx) : Tx := [105, 109, 97, 103, 101, 32, 120] ++ hexT t ++ [10]
def headT (s : Sc) : Tx := [109, 97, 99, 104, 105, 110, 101, 32] ++ Lib.itoa s.pages
def keyT (s : Sc) : Tx := [10, 107, 101, 121, 32, 120] ++ hexT s.key ++ [10]
def scT (s : Sc) : Tx := headT s ++ s.exts.flatMap extT ++ keyT s ++ s.imgs.flatMap imgT ++ actsT s.acts
def writeE (s : Sc) : Int := if checkE s ≠ 0 then checkE s else if 1048576 < (scT s).length then 5 else 0
def writeO (s : Sc) : Tx := if writeE s = 0 then scT s else []
def WriteP (w : World) (s : Sc) (e : Ending) (w' : World) : Prop := e = .returned (.tuple #[str (writeO s), .int .i64 (writeE s)]) ∧ Below w.heap.size w w'
theorem flat_le {X : Type} (f : X → Tx) (M : Nat) (l : List X) (h : ∀ x, x ∈ l → (f x).length ≤ M) : (l.flatMap f).length ≤ l.length * M := by
  induction l with
  | nil => simp
  | cons x r ih =>
    have h1 := h x (by simp)
    have h2 := ih fun a ha => h a (by simp [ha])
    rw [List.flatMap_cons, List.length_append, List.length_cons, Nat.add_mul]
    omega
theorem flat_snoc {X : Type} (f : X → Tx) (l : List X) (i : Nat) (x : X) (h : l[i]? = some x) : (l.take (i + 1)).flatMap f = (l.take i).flatMap f ++ f x := by
  rw [List.take_add_one, h]
  simp
def apRel {X : Type} (W : World) (b k0 : Nat) (O : Obj) (hd : Tx) (f : X → Tx) (l : List X) (vi : Value) (wr : World) : Prop :=
  ∃ i : Nat, i ≤ l.length ∧ vi = .int .i64 i ∧ Bld wr b b (hd ++ (l.take i).flatMap f) ∧ Below b W wr ∧ wr.heap[k0]? = some O
theorem Bld.lt {w : World} {B b : Nat} {t : Tx} (h : Bld w B b t) : b < w.heap.size := by
  rcases h with ⟨_, _, g, _⟩ | ⟨_, _, g, _⟩ <;> exact lt_of_block g
/-- A text is written to the builder; a block of another kind stands. -/
def PutP (w : World) (b k0 : Nat) (O : Obj) (t u : Tx) (e : Ending) (w' : World) : Prop := e = .returned (.tuple #[.int .i64 u.length, .nilIface]) ∧ Bld w' b b (t ++ u) ∧ Below b w w' ∧ w'.heap[k0]? = some O
theorem put {w : World} {b k0 : Nat} {O : Obj} {t : Tx} (h : Bld w b b t) (hk : w.heap[k0]? = some O) (hkb : k0 < b) (u : Tx) (hl : t.length + u.length ≤ 140737488355328) :
    Calls Tryz.prog 17 #[.pointer (some ⟨b, 0, none⟩), str u] w (PutP w b k0 O t u) :=
  (writeS h u hl (Nat.le_of_lt h.lt)).mono fun e w' ⟨he, h1, h2, _⟩ => ⟨he, h1, h2, (h2.block _ hkb).trans hk⟩
theorem write_bad {w : World} {p : SA} {s : Sc} (h : Laid w) (hs : s.ok) (hr : ScR w p s) (hc : checkE s ≠ 0) : Calls Tryz.prog 8 #[.agg (p.cells s)] w (WriteP w s) := by
  have HFin := Lib.hid fun V (hb : Below w.heap.size w V) => (show WriteP w s (.returned (.tuple #[str [], .int .i64 (checkE s)])) V from ⟨by unfold writeO writeE; rw [if_pos hc, if_neg hc], hb⟩)
  generalize WriteP w s = PQ at *
  have hb : Below w.heap.size w (w.alloc (.cells (p.cells s) 29)) := (Below.refl _ _).alloc (Nat.le_refl _) _
  have HC := Lib.hid (checkS (h.step hb) hs (hr.below hb))
  have HB := Lib.hid hb
  have hne : (checkE s != 0) = true := by simpa using hc
  clear h hs hr hb hc
  unfold CheckP at HC
  generalize checkE s = x at *
  obtain ⟨pages, exts, key, imgs, acts⟩ := s
  unfold SA.cells str at *
  simp only at *
  go_enter Tryz.func8, Tryz.ntmps8
  go_wp2_with fail
  refine HC.out.mono ?_
  rintro e w2 ⟨rfl, hb⟩
  have HB2 := Lib.hid (HB.out.trans (hb.mono HB.out.size))
  clear hb
  go_wp2
  exact HFin.out _ HB2.out
theorem str_cat3 (a b c : Tx) : Value.string ((⟨a.toArray⟩ : ByteArray) ++ ⟨b.toArray⟩ ++ ⟨c.toArray⟩) = str (a ++ b ++ c) := by
  unfold str
  congr 1
def wrBlk (p : SA) (s : Sc) : Obj := .cells (p.cells s) 29 (0, 0)
theorem blk5 {V : World} {k : Nat} {p : SA} {s : Sc} (h : V.heap[k]? = some (wrBlk p s)) : V.cell? ⟨k, 0, none⟩ = some (.int .u32 s.pages) ∧ V.cell? ⟨k, 1, none⟩ = some (.slice p.ea s.exts.length p.ec) ∧ V.cell? ⟨k, 2, none⟩ = some (str s.key) ∧ V.cell? ⟨k, 3, none⟩ = some (.slice p.ia s.imgs.length p.ic) ∧ V.cell? ⟨k, 4, none⟩ = some (.slice p.aa s.acts.length p.ac) := by
  unfold World.cell?
  rw [h]
  exact ⟨rfl, rfl, rfl, rfl, rfl⟩
theorem itoa_le (x : Int) (h0 : -9223372036854775808 ≤ x) (h1 : x ≤ 9223372036854775807) : (Lib.itoa x).length ≤ 21 := Lib.itoa_length_le x h0 h1
set_option maxRecDepth 100000 in
set_option maxHeartbeats 4000000 in
theorem write_ok {w : World} {p : SA} {s : Sc} (h : Laid w) (hs : s.ok) (hr : ScR w p s) (hc : checkE s = 0) : Calls Tryz.prog 8 #[.agg (p.cells s)] w (WriteP w s) := by
  have HFin := Lib.hid fun V x y (hx : writeO s = x) (hy : writeE s = y) (hb : Below w.heap.size w V) => (show WriteP w s (.returned (.tuple #[str x, .int .i64 y])) V from ⟨by rw [hx, hy], hb⟩)
  have HE : Hid (writeE s = if 1048576 < (scT s).length then 5 else 0) := Lib.hid (by unfold writeE; rw [if_neg (by rw [hc]; simp)])
  have HO : Hid (writeO s = if writeE s = 0 then scT s else []) := Lib.hid rfl
  generalize WriteP w s = PQ at *
  have hb : Below w.heap.size w (w.alloc (.cells (p.cells s) 29)) := (Below.refl _ _).alloc (Nat.le_refl _) _
  have HC := Lib.hid (checkS (h.step hb) hs (hr.below hb))
  unfold CheckP at HC
  rw [hc] at HC
  have HB := Lib.hid hb
  have HBlk : Hid ((w.alloc (.cells (p.cells s) 29)).heap[w.heap.size]? = some (wrBlk p s)) := Lib.hid (heap_alloc_new w _)
  have HL := Lib.hid fun V (hV : Below w.heap.size w V) => h.step hV
  have HR := Lib.hid fun V (hV : Below w.heap.size w V) => hr.below hV
  have HA := Lib.hid fun V (hV : Below w.heap.size w V) => acts (c := p.ac) (h.step hV) hs.a0 hs.al (hr.below hV).acts
  have hck : hardOk s.pages s.exts = true ∧ s.imgs.length ≤ 16 ∧ actsE s.acts = 0 := by
    unfold checkE at hc
    split at hc
    · split at hc
      · cases hc
      · exact ⟨by assumption, by omega, hc⟩
    · cases hc
  have HCk := Lib.hid hck
  have HS := Lib.hid hs
  have HTx : Hid (scT s = headT s ++ s.exts.flatMap extT ++ keyT s ++ s.imgs.flatMap imgT ++ actsT s.acts) := Lib.hid rfl
  have HAO : Hid (actsO s.acts = actsT s.acts) := Lib.hid (by
    unfold actsO
    split
    · rfl
    · have := hck.2.2
      unfold actsE at this
      rw [if_neg (by assumption)] at this
      cases this)
  have HAE := Lib.hid hck.2.2
  have p0 := hs.p0
  have p1 := hs.p1
  have hel := hs.el
  have hil := hs.il
  clear h hs hr hb hc hck
  obtain ⟨pages, exts, key, imgs, acts⟩ := s
  unfold SA.cells at *
  simp only at *
  go_enter Tryz.func8, Tryz.ntmps8
  go_wp2_with fail
  refine HC.out.mono ?_
  rintro e w2 ⟨rfl, hb⟩
  have HB2 := Lib.hid (HB.out.trans (hb.mono HB.out.size))
  have HBlk2 := Lib.hid ((hb.block _ (lt_of_block HBlk.out)).trans HBlk.out)
  clear hb HB HBlk HC
  obtain ⟨c0, c1, c2, c3, c4⟩ := blk5 HBlk2.out
  have hz := lt_of_block HBlk2.out
  have HBa := Lib.hid (HB2.out.alloc HB2.out.size (.cells #[.pointer none, .slice none 0 0] 48))
  have HBlka : Hid ((w2.alloc (.cells #[.pointer none, .slice none 0 0] 48)).heap[w.heap.size]? = some (wrBlk p ⟨pages, exts, key, imgs, acts⟩)) := Lib.hid ((Below.heap_alloc _ _ _ hz).trans HBlk2.out)
  have HBl : Hid (Bld (w2.alloc (.cells #[.pointer none, .slice none 0 0] 48)) w2.heap.size w2.heap.size []) := Lib.hid (Bld.new (heap_alloc_new w2 _) (Nat.le_refl _))
  have HI := Lib.hid (itoa pages (by omega) (by omega) (HL.out _ HBa.out))
  have hpl := itoa_le pages (by omega) (by omega)
  unfold str at HI
  go_wp2_with fail
  refine HI.out.mono ?_
  generalize w2.alloc (.cells #[.pointer none, .slice none 0 0] 48) = w3 at *
  generalize w2.heap.size = b at *
  rintro e w4 ⟨rfl, hb⟩
  have HB4 := Lib.hid (HBa.out.trans (hb.mono HBa.out.size))
  have HBlk4 := Lib.hid ((hb.block _ (lt_of_block HBlka.out)).trans HBlka.out)
  have HBl4 := Lib.hid (HBl.out.keep hb)
  clear hb HBlka HBl HI
  have HP := Lib.hid (put HBl4.out HBlk4.out hz ([109, 97, 99, 104, 105, 110, 101, 32] ++ Lib.itoa pages) (by simp; omega))
  rw [← str_cat] at HP
  have hov : 8 + List.length (Lib.itoa pages) ≤ 9223372036854775807 := by omega
  go_wp2_with fail
  refine HP.out.mono ?_
  rintro e w5 ⟨rfl, hbl, hbw, hbk⟩
  have HW5 := Lib.hid (HB4.out.trans (hbw.mono (by omega)))
  have HRel0 : Hid (apRel w5 b w.heap.size (wrBlk p ⟨pages, exts, key, imgs, acts⟩) (headT ⟨pages, exts, key, imgs, acts⟩) extT exts (.int .i64 0) w5) := Lib.hid ⟨0, by omega, rfl, by simpa [headT] using hbl, Below.refl _ _, hbk⟩
  have HP' := HP
  clear HP HP' hbl hbw hov HBl4 HBlk4 HB4
  obtain ⟨c0, c1, c2, c3, c4⟩ := blk5 hbk
  clear hbk
  have HFl1 : Hid (∀ i, (headT ⟨pages, exts, key, imgs, acts⟩ ++ (exts.take i).flatMap extT).length ≤ 1000000 * 30 + 100) := Lib.hid fun i => by
    have h1 := flat_le extT 22 (exts.take i) fun x hx => by
      have := HS.out.e0 x (List.mem_of_mem_take hx)
      have := itoa_le x (by omega) (by omega)
      simp [extT]; omega
    have h2 : (exts.take i).length ≤ 1000000 := by rw [List.length_take]; omega
    have h3 := Nat.mul_le_mul_right 22 h2
    rw [List.length_append]
    simp only [headT, List.length_append, List.length_cons, List.length_nil]
    omega
  go_wp2_with fail
  go_loopw [7, 28] (fun _ vi wr => apRel w5 b w.heap.size (wrBlk p ⟨pages, exts, key, imgs, acts⟩) (headT ⟨pages, exts, key, imgs, acts⟩) extT exts vi wr) (fun _ vi _ => exts.length - (RowKit.intOf vi).toNat)
  case atStart => exact HRel0.out
  case round =>
    clear HRel0 c0 c1 c2 c3 c4
    obtain ⟨i, hi, rfl, hbl, hbw, hbk⟩ := hrel
    have HBl := Lib.hid hbl
    have HBw := Lib.hid (HW5.out.trans (hbw.mono (by omega)))
    have HB0 := Lib.hid hbw
    have HBk := Lib.hid hbk
    clear hbl hbw
    by_cases hin : i < exts.length
    · obtain ⟨g, off, hgo, hc⟩ := (HR.out wr HBw.out).exts.at hin
      have HGo := Lib.hid hgo
      have HX : Hid (exts[i]? = some exts[i]) := Lib.hid (List.getElem?_eq_getElem hin)
      generalize exts[i] = x at *
      have hx := HS.out.e0 x (List.mem_of_getElem? HX.out)
      obtain ⟨x0, x1⟩ := hx
      have HI := Lib.hid (itoa x (by omega) (by omega) (HL.out _ HBw.out))
      have hxl := itoa_le x (by omega) (by omega)
      unfold str at HI
      rw [HGo.out]
      clear hgo hbk
      go_wp2_with fail
      refine HI.out.mono ?_
      rintro e w6 ⟨rfl, hb⟩
      have HBl6 := Lib.hid (HBl.out.keep hb)
      have HBk6 := Lib.hid ((hb.block _ (lt_of_block HBk.out)).trans HBk.out)
      have HB6 := Lib.hid (HB0.out.trans (hb.mono (Nat.le_of_lt HBl.out.lt)))
      clear hb
      have HP := Lib.hid (put HBl6.out HBk6.out hz ([32] ++ Lib.itoa x) (by have := HFl1.out i; simp at this ⊢; omega))
      rw [← str_cat] at HP
      have hov : 1 + List.length (Lib.itoa x) ≤ 9223372036854775807 := by omega
      go_wp2_with fail
      refine HP.out.mono ?_
      rintro e w7 ⟨rfl, hbl, hbw, hbk⟩
      have HBl7 := Lib.hid hbl
      have HBw7 := Lib.hid hbw
      have HBk7 := Lib.hid hbk
      clear hbl hbw hbk
      go_wp2_with fail
      refine ⟨⟨i + 1, by omega, by go_num, ?_, HB6.out.trans HBw7.out, HBk7.out⟩, by simp [RowKit.intOf]; omega⟩
      rw [flat_snoc extT exts i x HX.out, ← List.append_assoc]
      exact HBl7.out
    · obtain rfl : i = exts.length := by omega
      have hik : ¬ ((exts.length : Int) < exts.length) := by omega
      have hfl := HFl1.out exts.length
      rw [List.take_of_length_le (Nat.le_refl _)] at HBl hfl
      obtain ⟨c0, c1, c2, c3, c4⟩ := blk5 HBk.out
      have hkl := HS.out.kl
      have HH := Lib.hid (hex key hkl wr)
      have hhl := hexT_length key
      unfold str at HH c2
      generalize hT1 : headT ⟨pages, exts, key, imgs, acts⟩ ++ exts.flatMap extT = T1 at *
      clear hbk
      have HT1 := Lib.hid hT1
      clear hT1
      have HBw0 := HBw
      go_wp2_with fail
      refine HH.out.mono ?_
      rintro e w6 ⟨rfl, hb⟩
      have HBl6 := Lib.hid (HBl.out.keep hb)
      have HBk6 := Lib.hid ((hb.block _ (lt_of_block HBk.out)).trans HBk.out)
      have HB6 := Lib.hid (HBw.out.trans (hb.mono HBw.out.size))
      clear hb
      have hkt : (keyT ⟨pages, exts, key, imgs, acts⟩).length ≤ 2097160 := by simp [keyT]; omega
      have HP := Lib.hid (put HBl6.out HBk6.out hz (keyT ⟨pages, exts, key, imgs, acts⟩) (by omega))
      unfold keyT at HP
      rw [← str_cat3] at HP
      have hov : 6 + List.length (hexT key) ≤ 9223372036854775807 := by omega
      have hov2 : 6 + List.length (hexT key) + 1 ≤ 9223372036854775807 := by omega
      clear c0 c1 c2 c3 c4
      go_wp2_with fail
      refine HP.out.mono ?_
      rintro e w7 ⟨rfl, hbl, hbw, hbk⟩
      have HW7 := Lib.hid (HB6.out.trans (hbw.mono (by omega)))
      have HRel0 : Hid (apRel w7 b w.heap.size (wrBlk p ⟨pages, exts, key, imgs, acts⟩) (T1 ++ keyT ⟨pages, exts, key, imgs, acts⟩) imgT imgs (.int .i64 0) w7) := Lib.hid ⟨0, by omega, rfl, by simp only [List.take_zero, List.flatMap_nil, List.append_nil]; exact hbl, Below.refl _ _, hbk⟩
      have hT2 : (T1 ++ keyT ⟨pages, exts, key, imgs, acts⟩).length ≤ 40000000 := by rw [List.length_append]; omega
      generalize T1 ++ keyT ⟨pages, exts, key, imgs, acts⟩ = T2 at *
      clear HP hbl hbw hov hov2 hkt hhl hkl HBl6 HBk6 HB6 HH HBl HBk HB0 HFl1
      obtain ⟨c0, c1, c2, c3, c4⟩ := blk5 hbk
      clear hbk
      have HFl2 : Hid (∀ i, (T2 ++ (imgs.take i).flatMap imgT).length ≤ 1000000 * 2097160 + 40000000) := Lib.hid fun i => by
        have h1 := flat_le imgT 2097160 (imgs.take i) fun x hx => by
          have := HS.out.i0 x (List.mem_of_mem_take hx)
          have := hexT_length x
          simp [imgT]; omega
        have h2 : (imgs.take i).length ≤ 1000000 := by rw [List.length_take]; omega
        have h3 := Nat.mul_le_mul_right 2097160 h2
        rw [List.length_append]
        omega
      go_wp2_with fail
      go_loopw [9, 47] (fun _ vi wr => apRel w7 b w.heap.size (wrBlk p ⟨pages, exts, key, imgs, acts⟩) T2 imgT imgs vi wr) (fun _ vi _ => imgs.length - (RowKit.intOf vi).toNat)
      case atStart => exact HRel0.out
      case round =>
        clear HRel0 c0 c1 c2 c3 c4
        obtain ⟨i, hi, rfl, hbl, hbw, hbk⟩ := hrel
        have HBl := Lib.hid hbl
        have HBw := Lib.hid (HW7.out.trans (hbw.mono (by omega)))
        have HB0 := Lib.hid hbw
        have HBk := Lib.hid hbk
        clear hbl hbw
        by_cases hin : i < imgs.length
        · have HX : Hid (imgs[i]? = some imgs[i]) := Lib.hid (List.getElem?_eq_getElem hin)
          generalize imgs[i] = x at *
          obtain ⟨g, off, hgo, hc⟩ := RdT.at (HR.out wr HBw.out).imgs HX.out
          have HGo := Lib.hid hgo
          have hxl := HS.out.i0 x (List.mem_of_getElem? HX.out)
          have hhl := hexT_length x
          have HH := Lib.hid (hex x hxl wr)
          unfold str at HH hc
          rw [HGo.out]
          clear hgo hbk
          go_wp2_with fail
          refine HH.out.mono ?_
          rintro e w8 ⟨rfl, hb⟩
          have HBl6 := Lib.hid (HBl.out.keep hb)
          have HBk6 := Lib.hid ((hb.block _ (lt_of_block HBk.out)).trans HBk.out)
          have HB6 := Lib.hid (HB0.out.trans (hb.mono (Nat.le_of_lt HBl.out.lt)))
          clear hb
          have HP := Lib.hid (put HBl6.out HBk6.out hz (imgT x) (by have := HFl2.out i; simp [imgT] at this ⊢; omega))
          unfold imgT at HP
          rw [← str_cat3] at HP
          have hov : 7 + List.length (hexT x) ≤ 9223372036854775807 := by omega
          have hov2 : 7 + List.length (hexT x) + 1 ≤ 9223372036854775807 := by omega
          go_wp2_with fail
          refine HP.out.mono ?_
          rintro e w9 ⟨rfl, hbl, hbw, hbk⟩
          have HBl7 := Lib.hid hbl
          have HBw7 := Lib.hid hbw
          have HBk7 := Lib.hid hbk
          clear hbl hbw hbk
          go_wp2_with fail
          refine ⟨⟨i + 1, by omega, by go_num, ?_, HB6.out.trans HBw7.out, HBk7.out⟩, by simp [RowKit.intOf]; omega⟩
          rw [flat_snoc imgT imgs i x HX.out, ← List.append_assoc]
          exact HBl7.out
        · obtain rfl : i = imgs.length := by omega
          have hik : ¬ ((imgs.length : Int) < imgs.length) := by omega
          have hfl := HFl2.out imgs.length
          rw [List.take_of_length_le (Nat.le_refl _)] at HBl hfl
          obtain ⟨c0, c1, c2, c3, c4⟩ := blk5 HBk.out
          have HA2 := Lib.hid (HA.out _ HBw.out)
          unfold ActsP at HA2
          rw [HAE.out, HAO.out] at HA2
          clear hbk
          unfold str at HA2
          go_wp2_with fail
          refine HA2.out.mono ?_
          rintro e w8 ⟨rfl, hb⟩
          have HBl6 := Lib.hid (HBl.out.keep hb)
          have HBk6 := Lib.hid ((hb.block _ (lt_of_block HBk.out)).trans HBk.out)
          have HB6 := Lib.hid (HBw.out.trans (hb.mono HBw.out.size))
          clear hb
          have hal : (actsT acts).length ≤ 1000000 * 12000005 := Nat.le_trans (actsT_le acts HS.out.a0) (Nat.mul_le_mul_right _ HS.out.al)
          have HP := Lib.hid (put HBl6.out HBk6.out hz (actsT acts) (by omega))
          have HTx2 := HTx
          generalize T2 ++ imgs.flatMap imgT = T3 at *
          unfold str at HP
          go_wp2_with fail
          refine HP.out.mono ?_
          rintro e w9 ⟨rfl, hbl, hbw, hbk⟩
          rw [← HTx.out] at hbl
          have HBl9 := Lib.hid hbl
          have HBw9 := Lib.hid (HB6.out.trans (hbw.mono (by omega)))
          have HLen := Lib.hid (lenS hbl)
          have HStr := Lib.hid (stringS hbl (Nat.le_of_lt hbl.lt))
          clear hbl hbw hbk HTx HTx2
          unfold str at HStr
          have hsl : (scT ⟨pages, exts, key, imgs, acts⟩).length = (scT ⟨pages, exts, key, imgs, acts⟩).length := rfl
          generalize scT ⟨pages, exts, key, imgs, acts⟩ = T at *
          clear hsl
          by_cases hlt : 1048576 < T.length
          · have HV : Hid (writeE ⟨pages, exts, key, imgs, acts⟩ = 5 ∧ writeO ⟨pages, exts, key, imgs, acts⟩ = []) := Lib.hid (by
              have e1 : writeE ⟨pages, exts, key, imgs, acts⟩ = 5 := HE.out.trans (if_pos hlt)
              exact ⟨e1, HO.out.trans (by rw [e1]; rfl)⟩)
            have hlt' : ((1048576 : Int) < T.length) := by omega
            clear hlt
            go_wp2_with fail
            refine HLen.out.mono ?_
            rintro e w10 ⟨rfl, rfl⟩
            go_wp2
            exact HFin.out _ _ _ HV.out.2 HV.out.1 HBw9.out
          · have HV : Hid (writeE ⟨pages, exts, key, imgs, acts⟩ = 0 ∧ writeO ⟨pages, exts, key, imgs, acts⟩ = T) := Lib.hid (by
              have e1 : writeE ⟨pages, exts, key, imgs, acts⟩ = 0 := HE.out.trans (if_neg hlt)
              exact ⟨e1, HO.out.trans (by rw [e1]; rfl)⟩)
            have hlt' : ¬ ((1048576 : Int) < T.length) := by omega
            clear hlt
            go_wp2_with fail
            refine HLen.out.mono ?_
            rintro e w10 ⟨rfl, rfl⟩
            go_wp2_with fail
            refine HStr.out.mono ?_
            rintro e w11 ⟨rfl, hb⟩
            have HB11 := Lib.hid (HBw9.out.trans (hb.mono (by omega)))
            clear hb
            go_wp2
            exact HFin.out _ _ _ HV.out.2 HV.out.1 HB11.out
theorem write {w : World} {p : SA} {s : Sc} (h : Laid w) (hs : s.ok) (hr : ScR w p s) : Calls Tryz.prog 8 #[.agg (p.cells s)] w (WriteP w s) := by
  by_cases hc : checkE s = 0
  · exact write_ok h hs hr hc
  · exact write_bad h hs hr hc
end Go.Proofs.YtohlgcdailconaaGreatDoor.Scr
