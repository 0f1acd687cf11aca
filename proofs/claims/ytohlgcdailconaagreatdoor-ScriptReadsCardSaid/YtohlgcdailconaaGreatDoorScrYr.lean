/- The walk of ScriptReads. -/
import Derived.Test.YtohlgcdailconaaGreatDoorScrYw
import Derived.Test.YtohlgcdailconaaGreatDoorScrUh
namespace Go.Proofs.YtohlgcdailconaaGreatDoor.Scr
open Go.RowKit Lib Go.Proofs.YtohlgcdailconaaGreatDoor.Word
set_option linter.unusedVariables false
set_option linter.unusedSimpArgs false
theorem readT_bd (t : Tx) (ht : t.length ≤ 1000000) : (readT t).1.exts.length ≤ 2000000 ∧ (readT t).1.imgs.length ≤ 2000000 ∧ (readT t).1.acts.length ≤ 2000000 := by
  rcases write_read t ht with ⟨x, hx, hok, _, _⟩ | ⟨m, hm, _⟩
  · rw [hx]
    have h1 := hok.el
    have h2 := hok.il
    have h3 := hok.al
    exact ⟨by show x.exts.length ≤ _; omega, by show x.imgs.length ≤ _; omega, by show x.acts.length ≤ _; omega⟩
  · rw [hm]
    exact ⟨Nat.zero_le _, Nat.zero_le _, Nat.zero_le _⟩
set_option maxRecDepth 100000 in
set_option maxHeartbeats 8000000 in
theorem scriptReads {w : World} {t : Tx} (h : Laid w) : Calls Tryz.prog 4 #[str t] w (OkP w) := by
  have HFin := Lib.hid fun V (hb : Below w.heap.size w V) => (show OkP w (.returned (.bool true)) V from ⟨rfl, hb⟩)
  generalize OkP w = PQ at *
  have H := Lib.hid h
  clear h
  by_cases htl : 32768 < t.length
  · have HAl := Lib.hid (alive H.out)
    have htl2 : (32768 : Int) < t.length := by omega
    unfold str
    go_enter Tryz.func4, Tryz.ntmps4
    go_wp2_with fail
    refine HAl.out.mono ?_
    rintro e w3 ⟨rfl, hb⟩
    have HB := Lib.hid hb
    clear hb
    go_wp2
    exact HFin.out _ HB.out
  · have htl2 : ¬ (32768 : Int) < t.length := by omega
    obtain ⟨b1, b2, b3⟩ := readT_bd t (by omega)
    have HRd := Lib.hid (readAll (t := t) H.out)
    have HRr := Lib.hid fun V => R32.readR (w := V) (t := t) (by omega)
    unfold ReadP at HRr
    unfold str at *
    go_enter Tryz.func4, Tryz.ntmps4
    go_wp2_with fail
    refine HRd.out.mono ?_
    rintro e w1 ⟨hb, p, hs1, rfl⟩
    have HB1 := Lib.hid hb
    have hsx : ∀ p : SA, p.cells (readT t).1 = #[.int .u32 (readT t).1.pages, .slice p.ea (readT t).1.exts.length p.ec, .string ⟨(readT t).1.key.toArray⟩, .slice p.ia (readT t).1.imgs.length p.ic, .slice p.aa (readT t).1.acts.length p.ac] := fun _ => rfl
    have hA := (Below.refl w1.heap.size w1).alloc (Nat.le_refl _) (.cells (p.cells (readT t).1) 29)
    have HB2 := Lib.hid (below_th hb hA)
    have HP2 : Hid (Lie (w1.alloc (.cells (p.cells (readT t).1) 29)) w1.heap.size p (readT t).1) := Lib.hid ⟨heap_alloc_new w1 _, hs1.below hA⟩
    clear hb hs1 hA
    generalize readT t = rd at *
    obtain ⟨s, n, er⟩ := rd
    simp only at *
    rw [hsx] at HB2 HP2 ⊢
    go_wp2_with fail
    generalize w1.alloc (.cells #[.int .u32 s.pages, .slice p.ea s.exts.length p.ec, .string ⟨s.key.toArray⟩, .slice p.ia s.imgs.length p.ic, .slice p.aa s.acts.length p.ac] 29) = w2 at *
    refine (HRr.out _).mono ?_
    rintro e w3 ⟨hb, q, hs3, rfl⟩
    have hA := (Below.refl w3.heap.size w3).alloc (Nat.le_refl _) (.cells (q.cells s) 29)
    have HB4 := Lib.hid (below_th (below_th HB2.out hb) hA)
    have HP4 := Lib.hid ((HP2.out.below hb).below hA)
    have HQ4 : Hid (Lie (w3.alloc (.cells (q.cells s) 29)) w3.heap.size q s) := Lib.hid ⟨heap_alloc_new w3 _, hs3.below hA⟩
    have HSa := Lib.hid (same HP4.out.row HQ4.out.row b1 b2 b3)
    obtain ⟨c0, c1, c2, c3, c4⟩ := five_of HP4.out.blk
    obtain ⟨d0, d1, d2, d3, d4⟩ := five_of HQ4.out.blk
    have hz1 := lt_of_block HP4.out.blk
    have hz2 := lt_of_block HQ4.out.blk
    clear hb hA hs3 HRr HRd
    rw [hsx] at HB4 HP4 HQ4 HSa c0 c1 c2 c3 c4 d0 d1 d2 d3 d4 hz1 hz2 ⊢
    rw [hsx] at HSa
    go_wp2_with fail
    refine HSa.out.mono ?_
    rintro e w5 ⟨rfl, hb⟩
    have HB5 := Lib.hid (below_th HB4.out hb)
    have HAl := Lib.hid (alive (H.out.step HB5.out))
    clear hb c0 c1 c2 c3 c4 d0 d1 d2 d3 d4 hz1 hz2 HSa
    go_wp2_with fail
    refine HAl.out.mono ?_
    rintro e w6 ⟨rfl, hb⟩
    have HB6 := Lib.hid (below_th HB5.out hb)
    clear hb
    go_wp2
    exact HFin.out _ HB6.out
end Go.Proofs.YtohlgcdailconaaGreatDoor.Scr
