/- The walks of the document's Acts, May, Check. -/
import Derived.Test.YtohlgcdailconaaGreatDoorScrUa
namespace Go.Proofs.YtohlgcdailconaaGreatDoor.Scr
open Go.RowKit Lib
set_option linter.unusedVariables false
set_option linter.unusedSimpArgs false
namespace R32
def actsRel (W : World) (l : List Ac) (vs vi : Value) (wr : World) : Prop := ∃ i : Nat, i ≤ l.length ∧ vi = .int .i64 i ∧ vs = str (actsT (l.take i)) ∧ (∀ k a, k < i → l[k]? = some a → mayA a = true) ∧ Below W.heap.size W wr
theorem all_may {l : List Ac} (h : ∀ k a, k < l.length → l[k]? = some a → mayA a = true) : l.all mayA = true := by
  rw [List.all_eq_true]
  intro x hx
  obtain ⟨k, hk⟩ := List.getElem?_of_mem hx
  exact h k x (List.getElem?_eq_some_iff.1 hk).1 hk
theorem acts {w : World} {c : Nat} {p : Option Addr} {l : List Ac} (hok : ∀ a, a ∈ l → a.ok) (hn : l.length ≤ 1000000) (ht : ∀ a, a ∈ l → a.t.length ≤ 65536) (hr : RdA w p l) :
    Calls Tryz.prog 11 #[.slice p l.length c] w (ActsP w l) := by
  have HYes := Lib.hid fun V s (hb : Below w.heap.size w V) (h : l.all mayA = true) (hs : s = actsT l) => (show ActsP w l (.returned (.tuple #[.string ⟨s.toArray⟩, .int .i64 0])) V from ⟨by unfold actsO actsE; rw [if_pos h, if_pos h, hs]; rfl, hb⟩)
  have HNo := Lib.hid fun V (hb : Below w.heap.size w V) (h : l.all mayA = false) => (show ActsP w l (.returned (.tuple #[.string ⟨#[]⟩, .int .i64 2])) V from ⟨by unfold actsO actsE; rw [h]; rfl, hb⟩)
  generalize ActsP w l = PQ at *
  have HR := Lib.hid hr
  have HL := Lib.hid (actsT_le l hok)
  clear hr
  go_enter Tryz.func11, Tryz.ntmps11
  go_wp2
  go_loopw [4, 5] (fun vs vi wr => actsRel w l vs vi wr) (fun _ vi _ => l.length - (RowKit.intOf vi).toNat)
  case atStart => exact ⟨0, by omega, rfl, rfl, fun k a hk => absurd hk (by omega), Below.refl _ _⟩
  case round =>
    obtain ⟨i, hi, rfl, rfl, hm, hb⟩ := hrel
    have HM := Lib.hid hm
    have HB := Lib.hid hb
    clear hm hb
    by_cases hil : i < l.length
    · have HX : Hid (l[i]? = some l[i]) := Lib.hid (List.getElem?_eq_getElem hil)
      have HXm : Hid (l[i] ∈ l) := Lib.hid (List.getElem_mem _)
      generalize l[i] = x at *
      obtain ⟨g, off, rfl, c0, c1, c2, c3⟩ := (HR.out.below HB.out).at HX.out
      have hx := hok x HXm.out
      have HA := Lib.hid fun V => act x hx (ht x HXm.out) V
      have hs := actsT_snoc l i x HX.out
      have hle := actsT_le (l.take (i + 1)) fun a ha => hok a (List.mem_of_mem_take ha)
      rw [hs, List.length_append, List.length_append] at hle
      have hle2 := Nat.mul_le_mul_right 12000005 (show (l.take (i + 1)).length ≤ 1000000 by rw [List.length_take]; omega)
      have g1 : (actsT (l.take i)).length + (lineA x).length ≤ 9223372036854775807 := by simp at hle; omega
      have g2 : (actsT (l.take i)).length + (lineA x).length + 1 ≤ 9223372036854775807 := by simp at hle; omega
      have HS := Lib.hid hs
      clear hs hle hle2
      have hil' : (i : Int) < l.length := by omega
      rw [acC_eq] at HA
      unfold str at *
      obtain ⟨d, n, m, t⟩ := x
      go_wp2_with fail
      refine (HA.out _).mono ?_
      rintro e w1 ⟨hb, s, b, rfl, hbm, hsl⟩
      have HB1 := Lib.hid (below_th HB.out hb)
      clear hb
      cases b with
      | false =>
        have HBm := Lib.hid hbm
        clear hbm hsl
        go_wp2
        exact HNo.out _ HB1.out (List.all_eq_false.2 ⟨_, HXm.out, by rw [← HBm.out]; simp⟩)
      | true =>
        have HBm := Lib.hid hbm
        obtain rfl := hsl rfl
        clear hbm hsl
        unfold str
        go_wp2
        refine ⟨⟨i + 1, by omega, by go_num, ?_, fun k a hk ha => ?_, HB1.out⟩, by simp [RowKit.intOf]; omega⟩
        · rw [HS.out, ← List.append_assoc]
          rfl
        · rcases Nat.lt_or_ge k i with q | q
          · exact HM.out k a q ha
          · obtain rfl : k = i := by omega
            rw [HX.out] at ha
            cases ha
            exact HBm.out.symm
    · have hil' : ¬ (i : Int) < l.length := by omega
      obtain rfl : i = l.length := by omega
      unfold str
      go_wp2
      exact HYes.out _ _ HB.out (all_may HM.out) (by first | rfl | rw [List.take_length])
def MayP (w : World) (hp : Int) (xs : List Int) (e : Ending) (w' : World) : Prop := e = .returned (.bool (hardOk hp xs)) ∧ Below w.heap.size w w'
theorem may {w : World} {a : Option Addr} {cap : Nat} {hp : Int} {xs : List Int} (h : RdU w a xs) (hl : xs.length ≤ 2000000) (hb0 : ∀ x, x ∈ xs → 0 ≤ x ∧ x ≤ 4294967295) (p0 : 0 ≤ hp) :
    Calls Tryz.prog 29 #[.agg #[.int .u32 hp, .slice a xs.length cap]] w (MayP w hp xs) := by
  have hb : Below w.heap.size w (w.alloc (.cells #[.int .u32 hp, .slice a xs.length cap] 25)) := (Below.refl _ _).alloc (Nat.le_refl _) _
  have hblk := heap_alloc_new w (.cells #[.int .u32 hp, .slice a xs.length cap] 25)
  have hc2 : ∀ V : World, V.heap[w.heap.size]? = some (.cells #[.int .u32 hp, .slice a xs.length cap] 25 (0, 0)) → V.cell? ⟨w.heap.size, 0, none⟩ = some (.int .u32 hp) ∧ V.cell? ⟨w.heap.size, 1, none⟩ = some (.slice a xs.length cap) := fun V hV => by
    unfold World.cell?
    rw [hV]
    exact ⟨rfl, rfl⟩
  have HC2 := Lib.hid hc2
  have HW := Lib.hid fun V (hV : Below w.heap.size w V) => h.below hV
  have HB := Lib.hid hb
  have HBlk := Lib.hid hblk
  have HX0 := Lib.hid hb0
  have HFin := Lib.hid fun V (hb : Below w.heap.size w V) x (hx : hardOk hp xs = x) => (show MayP w hp xs (.returned (.bool x)) V from ⟨by rw [hx], hb⟩)
  generalize MayP w hp xs = PQ at *
  clear hb hc2 h hb0
  go_enter Tryz.func29, Tryz.ntmps29
  go_wp2_with fail
  generalize hw1 : w.alloc (.cells #[.int .u32 hp, .slice a xs.length cap] 25) = w1 at *
  clear hw1
  go_loopw [3] (fun vi wr => ckRel w1 xs vi wr) (fun vi _ => xs.length - (RowKit.intOf vi).toNat)
  case atStart => exact ⟨0, by omega, rfl, fun k x hk => absurd hk (Nat.not_lt_zero _), Below.refl _ _⟩
  case round =>
    obtain ⟨i, hi, rfl, hno, hbw⟩ := hrel
    have HNo := Lib.hid hno
    have HB1 := Lib.hid (HB.out.trans (hbw.mono HB.out.size))
    have HBw := Lib.hid hbw
    obtain ⟨c0, c1⟩ := HC2.out _ ((hbw.block _ (lt_of_block HBlk.out)).trans HBlk.out)
    clear hno hbw
    by_cases hin : i < xs.length
    · obtain ⟨g, off, rfl, hc⟩ := (HW.out wr HB1.out).at hin
      have HX : Hid (xs[i]? = some xs[i]) := Lib.hid (List.getElem?_eq_getElem hin)
      have hi1 : (i : Int) < xs.length := by omega
      generalize xs[i] = x at *
      by_cases hx : 1024 < x
      · have HE : Hid (hardOk hp xs = false) := Lib.hid (by
          have : xs.all (fun x => decide (x ≤ 1024)) = false := by
            rw [List.all_eq_false]
            exact ⟨x, List.mem_of_getElem? HX.out, by simp; omega⟩
          unfold hardOk
          rw [this, Bool.and_false])
        go_wp2
        exact HFin.out _ HB1.out _ HE.out
      · go_wp2
        refine ⟨⟨i + 1, by omega, by go_num, fun k y hk hy => ?_, HBw.out⟩, by simp [RowKit.intOf]; omega⟩
        rcases Nat.lt_or_ge k i with q | q
        · exact HNo.out k y q hy
        · obtain rfl : k = i := by omega
          rw [HX.out] at hy
          cases hy
          omega
    · have hi1 : ¬ (i : Int) < xs.length := by omega
      have HE : Hid (xs.all (fun x => decide (x ≤ 1024)) = true) := Lib.hid (by
        rw [List.all_eq_true]
        intro x hx
        obtain ⟨k, hk⟩ := List.getElem?_of_mem hx
        exact decide_eq_true (HNo.out k x (by have := (List.getElem?_eq_some_iff.1 hk).1; omega) hk))
      by_cases d1 : hp ≤ 4096
      · by_cases d2 : (xs.length : Int) ≤ 16
        · have HV : Hid (hardOk hp xs = true) := Lib.hid (by unfold hardOk; rw [decide_eq_true d1, decide_eq_true (show xs.length ≤ 16 by omega), HE.out]; rfl)
          go_wp2
          exact HFin.out _ HB1.out _ HV.out
        · have HV : Hid (hardOk hp xs = false) := Lib.hid (by unfold hardOk; rw [decide_eq_false (show ¬ xs.length ≤ 16 by omega)]; simp)
          go_wp2
          exact HFin.out _ HB1.out _ HV.out
      · have HV : Hid (hardOk hp xs = false) := Lib.hid (by unfold hardOk; rw [decide_eq_false d1]; rfl)
        go_wp2
        exact HFin.out _ HB1.out _ HV.out
structure Sc.ok2 (s : Sc) : Prop where
  ok : s.ok
  kl : s.key.length ≤ 65536
  il : ∀ t, t ∈ s.imgs → t.length ≤ 65536
  al : ∀ a, a ∈ s.acts → a.t.length ≤ 65536
set_option maxHeartbeats 1000000 in
theorem checkR {w : World} {p : SA} {s : Sc} (hs : Sc.ok2 s) (hr : ScR w p s) : Calls Tryz.prog 13 #[.agg (p.cells s)] w (CheckP w s) := by
  have HFin := Lib.hid fun V x (hx : checkE s = x) (hb : Below w.heap.size w V) => (show CheckP w s (.returned (.int .i64 x)) V from ⟨by rw [hx], hb⟩)
  generalize CheckP w s = PQ at *
  have hb : Below w.heap.size w (w.alloc (.cells (p.cells s) 29)) := (Below.refl _ _).alloc (Nat.le_refl _) _
  have HM := Lib.hid fun V (hV : Below w.heap.size w V) => may (cap := p.ec) (hr.exts.below hV) (by have := hs.ok.el; omega) hs.ok.e0 hs.ok.p0
  have HA := Lib.hid (acts (c := p.ac) hs.ok.a0 hs.ok.al hs.al (hr.acts.below hb))
  have HB := Lib.hid hb
  have HE : Hid (checkE s = if hardOk s.pages s.exts then if 16 < s.imgs.length then 2 else actsE s.acts else 2) := Lib.hid rfl
  have hil := hs.ok.il
  have HBlk : Hid ((w.alloc (.cells (p.cells s) 29)).heap[w.heap.size]? = some (wrBlk p s)) := Lib.hid (heap_alloc_new w _)
  clear hs hr hb
  obtain ⟨c0, c1, c2, c3, c4⟩ := blk5 HBlk.out
  have hz := lt_of_block HBlk.out
  have hsx : p.cells s = #[.int .u32 s.pages, .slice p.ea s.exts.length p.ec, .string ⟨s.key.toArray⟩, .slice p.ia s.imgs.length p.ic, .slice p.aa s.acts.length p.ac] := rfl
  unfold str at *
  rw [hsx] at HA HB HBlk c0 c1 c2 c3 c4 hz ⊢
  clear hsx
  unfold MayP ActsP at *
  cases hh : hardOk s.pages s.exts with
  | false =>
    have HV : Hid (checkE s = 2) := Lib.hid (HE.out.trans (by simp [hh]))
    rw [hh] at HM
    clear hh HE
    go_enter Tryz.func13, Tryz.ntmps13
    go_wp2_with fail
    generalize w.alloc (.cells #[.int .u32 s.pages, .slice p.ea s.exts.length p.ec, .string ⟨s.key.toArray⟩, .slice p.ia s.imgs.length p.ic, .slice p.aa s.acts.length p.ac] 29) = w1 at *
    refine HA.out.mono ?_
    rintro e w2 ⟨rfl, hb⟩
    have HB2 := Lib.hid (below_th HB.out hb)
    obtain ⟨d0, d1, d2, d3, d4⟩ := blk5 ((hb.block _ hz).trans HBlk.out)
    unfold str at *
    clear hb
    go_wp2_with fail
    refine (HM.out _ HB2.out).mono ?_
    rintro e w3 ⟨rfl, hb⟩
    have HB3 := Lib.hid (below_th HB2.out hb)
    clear hb
    go_wp2
    exact HFin.out _ _ HV.out HB3.out
  | true =>
    rw [hh] at HM
    by_cases hi : 16 < s.imgs.length
    · have HV : Hid (checkE s = 2) := Lib.hid (HE.out.trans (by simp [hh, hi]))
      have hi' : ((16 : Int) < s.imgs.length) := by omega
      clear hh HE
      go_enter Tryz.func13, Tryz.ntmps13
      go_wp2_with fail
      generalize w.alloc (.cells #[.int .u32 s.pages, .slice p.ea s.exts.length p.ec, .string ⟨s.key.toArray⟩, .slice p.ia s.imgs.length p.ic, .slice p.aa s.acts.length p.ac] 29) = w1 at *
      refine HA.out.mono ?_
      rintro e w2 ⟨rfl, hb⟩
      have HB2 := Lib.hid (below_th HB.out hb)
      have HK := Lib.hid ((hb.block _ hz).trans HBlk.out)
      obtain ⟨d0, d1, d2, d3, d4⟩ := blk5 HK.out
      have hz2 := lt_of_block HK.out
      unfold str at *
      clear hb
      go_wp2_with fail
      refine (HM.out _ HB2.out).mono ?_
      rintro e w3 ⟨rfl, hb⟩
      have HB3 := Lib.hid (below_th HB2.out hb)
      obtain ⟨f0, f1, f2, f3, f4⟩ := blk5 ((hb.block _ hz2).trans HK.out)
      clear hb
      go_wp2
      exact HFin.out _ _ HV.out HB3.out
    · have HV : Hid (checkE s = actsE s.acts) := Lib.hid (HE.out.trans (by simp [hh, hi]))
      have hi' : ¬ ((16 : Int) < s.imgs.length) := by omega
      clear hh HE
      go_enter Tryz.func13, Tryz.ntmps13
      go_wp2_with fail
      generalize w.alloc (.cells #[.int .u32 s.pages, .slice p.ea s.exts.length p.ec, .string ⟨s.key.toArray⟩, .slice p.ia s.imgs.length p.ic, .slice p.aa s.acts.length p.ac] 29) = w1 at *
      refine HA.out.mono ?_
      rintro e w2 ⟨rfl, hb⟩
      have HB2 := Lib.hid (below_th HB.out hb)
      have HK := Lib.hid ((hb.block _ hz).trans HBlk.out)
      obtain ⟨d0, d1, d2, d3, d4⟩ := blk5 HK.out
      have hz2 := lt_of_block HK.out
      unfold str at *
      clear hb
      go_wp2_with fail
      refine (HM.out _ HB2.out).mono ?_
      rintro e w3 ⟨rfl, hb⟩
      have HB3 := Lib.hid (below_th HB2.out hb)
      obtain ⟨f0, f1, f2, f3, f4⟩ := blk5 ((hb.block _ hz2).trans HK.out)
      clear hb
      go_wp2
      exact HFin.out _ _ HV.out HB3.out
end R32
end Go.Proofs.YtohlgcdailconaaGreatDoor.Scr
