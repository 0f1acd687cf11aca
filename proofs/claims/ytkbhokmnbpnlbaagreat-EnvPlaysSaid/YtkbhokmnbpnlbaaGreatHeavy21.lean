/- Heavy21: Acts21, Heavy21, Same21 in one text. -/
import Derived.Test.YtkbhokmnbpnlbaaGreatAlive21
import Derived.Test.YtkbhokmnbpnlbaaGreatRunsB
import Derived.OpenShut
/- Acts of layer 21 as arguments: how they read. -/
namespace Go.Proofs.YtkbhokmnbpnlbaaGreat.Cp
open Go.RowKit
set_option linter.unusedVariables false
def actQ (g : Nat → Option Value) (x : ActR) : Prop := (g 0 = some (.int .i64 x.dod) ∧ g 1 = some (.int .u32 x.n) ∧ g 2 = some (.int .u32 x.m) ∧ g 3 = some (.string x.text)) ∧ x.ok
theorem act_read {H : Type} {enc : TypeId × Value → H} {w : World} {base : Nat} {spare : Nat → Bool} {held : Bool} (cs : List Value) (n : Nat) (z : DataW H × List MemPlace) (g : Nat → Option Value)
    (h : DataW.trod enc Tryz.prog w base spare held n 60 cs = some z) (hw : Rd.Wt Tryz.prog 60 z.1) (hl : cs.length = 4) (hg : ∀ j, j < 4 → g j = cs[j]?) : ∃ x : ActR, actQ g x := by
  obtain ⟨_, hs⟩ := Rd.rd_struct Tryz.underlying60 (by kernel_rfl) (by kernel_rfl) h hw
  obtain ⟨v0, z0, n0, e0, t0, q0⟩ := hs 0 _ rfl
  obtain ⟨x0, rfl, w0⟩ := Rd.rd_int Tryz.underlying3 t0
  obtain ⟨v1, z1, n1, e1, t1, q1⟩ := hs 1 _ rfl
  obtain ⟨x1, rfl, w1⟩ := Rd.rd_int Tryz.underlying22 t1
  obtain ⟨v2, z2, n2, e2, t2, q2⟩ := hs 2 _ rfl
  obtain ⟨x2, rfl, w2⟩ := Rd.rd_int Tryz.underlying22 t2
  obtain ⟨v3, z3, n3, e3, t3, q3⟩ := hs 3 _ rfl
  obtain ⟨x3, rfl, w3⟩ := Rd.rd_str Tryz.underlying9 t3 q3
  have b0 := bounds_i64 w0
  have b1 := bounds_u32 w1
  have b2 := bounds_u32 w2
  exact ⟨⟨x0, x1, x2, x3⟩, ⟨(hg 0 (by omega)).trans e0, (hg 1 (by omega)).trans e1, (hg 2 (by omega)).trans e2, (hg 3 (by omega)).trans e3⟩, ⟨b0.1, b0.2, b1.1, b1.2, b2.1, b2.2, Nat.le_of_lt w3⟩⟩
end Go.Proofs.YtkbhokmnbpnlbaaGreat.Cp
/- Acts in memory; the walk of aediculelaw21.Heavy. -/
namespace Go.Proofs.YtkbhokmnbpnlbaaGreat
open Go.RowKit Word
set_option linter.unusedVariables false
set_option linter.unusedSimpArgs false
namespace Cp
/-- Cell by cell: act i of a slice at block b. -/
structure ActAt (w : World) (b off i : Nat) (x : ActR) : Prop where
  dod : w.cell? ⟨b, off + i * 4, none⟩ = some (.int .i64 x.dod)
  n : w.cell? ⟨b, off + i * 4 + 1, none⟩ = some (.int .u32 x.n)
  m : w.cell? ⟨b, off + i * 4 + 2, none⟩ = some (.int .u32 x.m)
  text : w.cell? ⟨b, off + i * 4 + 3, none⟩ = some (.string x.text)
theorem act_lt {w : World} {b i : Nat} {v : Value} (h : w.cell? ⟨b, i, none⟩ = some v) : b < w.heap.size := by
  unfold World.cell? at h
  cases hg : w.heap[b]? with
  | none => rw [hg] at h; cases h
  | some _ => exact lt_of_block hg
theorem ActAt.below {w w' : World} {b off i : Nat} {x : ActR} (h : ActAt w b off i x) (hb : Below w.heap.size w w') : ActAt w' b off i x := by
  have hl := act_lt h.dod
  exact ⟨(hb.cell (p := ⟨b, _, none⟩) hl).trans h.dod, (hb.cell (p := ⟨b, _, none⟩) hl).trans h.n, (hb.cell (p := ⟨b, _, none⟩) hl).trans h.m, (hb.cell (p := ⟨b, _, none⟩) hl).trans h.text⟩
def noAct : ActR := ⟨0, 0, 0, ByteArray.empty⟩
/-- A row of acts. -/
structure Acts (w : World) (a : Option Addr) (len : Nat) (Z : Nat → ActR) : Prop where
  at' : 0 < len → ∃ b off, a = some ⟨b, off, none⟩ ∧ ∀ i, i < len → ActAt w b off i (Z i)
  ok : ∀ i, i < len → (Z i).ok
theorem Acts.below {w w' : World} {a : Option Addr} {len : Nat} {Z : Nat → ActR} (h : Acts w a len Z) (hb : Below w.heap.size w w') : Acts w' a len Z :=
  ⟨fun hn => by
    obtain ⟨b, off, e, hc⟩ := h.at' hn
    exact ⟨b, off, e, fun i hi => (hc i hi).below hb⟩, h.ok⟩
theorem sl_acts {w : World} {a : Option Addr} {cap : Nat} {xs : List ActR} (h : Rd.Sl w 4 actQ a cap xs) : Acts w a xs.length (fun i => xs.getD i noAct) := by
  obtain ⟨_, _, h, _⟩ := h
  rcases h with rfl | ⟨b, off, rfl, h⟩
  · exact ⟨fun g => absurd g (by simp), fun i hi => absurd hi (by simp)⟩
  · have hg : ∀ i, i < xs.length → xs[i]? = some (xs.getD i noAct) := fun i hi => by rw [List.getD, List.getElem?_eq_getElem hi]; rfl
    refine ⟨fun _ => ⟨b, off, rfl, fun i hi => ?_⟩, fun i hi => (h i _ (hg i hi)).2⟩
    obtain ⟨⟨e0, e1, e2, e3⟩, _⟩ := h i _ (hg i hi)
    exact ⟨e0, e1, e2, e3⟩
def sumA (Z : Nat → ActR) : Nat → Nat
  | 0 => 0
  | k + 1 => sumA Z k + (Z k).text.size
theorem sumA_bd (Z : Nat → ActR) (k : Nat) (h : ∀ i, i < k → (Z i).text.size ≤ 140737488355328) : sumA Z k ≤ k * 140737488355328 := by
  induction k with
  | zero => simp [sumA]
  | succ k ih =>
    have := ih fun i hi => h i (by omega)
    have := h k (by omega)
    simp only [sumA]
    omega
def hvRel (Z : Nat → ActR) (len : Nat) (sn si : Value) : Prop := ∃ k : Nat, k ≤ min len 300 ∧ si = .int .i64 k ∧ sn = .int .i64 (sumA Z k : Nat)
set_option maxRecDepth 100000 in
set_option maxHeartbeats 4000000 in
theorem heavy21 (w : World) (x : St) (a : Option Addr) (len cap : Nat) (Z : Nat → ActR) (hZ : Acts w a len Z) (hlen : len ≤ 9223372036854775807) :
    Calls Tryz.prog 19 #[.agg x.cells, .slice a len cap] w fun e w' => ∃ b, e = .returned (.bool b) ∧ (b = false → heavyV x = false ∧ len ≤ 150) ∧ Below w.heap.size w w' := by
  have hb : Below w.heap.size w (w.alloc (.cells x.cells 37)) := (Below.refl _ _).alloc (Nat.le_refl _) _
  have HZ := Lib.hid (hZ.below hb)
  have HB := Lib.hid hb
  have HHv := Lib.hid (heavy06 (w.alloc (.cells x.cells 37)) x)
  obtain ⟨b0, b1, b2, b3, b4, b5, b6⟩ := (⟨heap_alloc_new w _⟩ : StBox (w.alloc (.cells x.cells 37)) w.heap.size x).cells
  have HPost : Hid (∀ b w', (b = false → heavyV x = false ∧ len ≤ 150) → Below w.heap.size w w' → ∃ b', Ending.returned (.bool b) = .returned (.bool b') ∧ (b' = false → heavyV x = false ∧ len ≤ 150) ∧ Below w.heap.size w w') := Lib.hid fun b w' h1 h2 => ⟨b, rfl, h1, h2⟩
  generalize hP : (fun (e : Ending) (w' : World) => ∃ b, e = .returned (.bool b) ∧ (b = false → heavyV x = false ∧ len ≤ 150) ∧ Below w.heap.size w w') = PQ at *
  have HPost2 : Hid (∀ b w', (b = false → heavyV x = false ∧ len ≤ 150) → Below w.heap.size w w' → PQ (.returned (.bool b)) w') := Lib.hid fun b w' h1 h2 => by rw [← hP]; exact ⟨b, rfl, h1, h2⟩
  clear hb hZ HPost hP
  unfold St.cells at *
  go_enter Tryz.func19, Tryz.ntmps19
  go_wp2
  go_loopw [5, 6] (fun sn si wr => hvRel Z len sn si ∧ wr = w.alloc (.cells #[.slice x.ra x.rn x.rcap, .int .u32 x.pc, .slice x.pa x.pn x.pcap, .int .u16 x.at', .slice x.ca x.cn x.ccap, .int .u16 x.wh, .string x.text] 37)) (fun _ i _ => 300 - (intOf i).toNat)
  case atStart => exact ⟨⟨0, by omega, rfl, rfl⟩, rfl⟩
  case round =>
    obtain ⟨⟨k, hk, rfl, rfl⟩, rfl⟩ := hrel
    have hsb := sumA_bd Z k fun i hi => (HZ.out.ok i (by omega)).t1
    by_cases hk2 : k < len
    · by_cases hk3 : k < 300
      · obtain ⟨b, off, rfl, hc⟩ := HZ.out.at' (by omega)
        have ht := (hc k hk2).text
        have hto := (HZ.out.ok k hk2).t1
        have Hsu := Lib.hid (show sumA Z (k + 1) = sumA Z k + (Z k).text.size from rfl)
        clear hc
        generalize (Z k).text = tx at *
        generalize hsm : sumA Z k = sm at *
        have Hsm := Lib.hid hsm
        clear hsm
        go_wp2
        exact ⟨⟨⟨k + 1, by omega, by go_num, by rw [Hsu.out]; go_num⟩, by first | rfl | trivial⟩, by simp [intOf]; omega⟩
      · have hl : 150 < len := by omega
        have Hl := Lib.hid hl
        generalize hsm : sumA Z k = sm at *
        clear hsm
        go_wp2_with fail
        refine HHv.out.mono ?_
        rintro e w1 ⟨rfl, hb1⟩
        have HB1 := Lib.hid (below_th HB.out hb1)
        clear hb1
        cases hh : heavyV x with
        | true =>
          clear hh
          go_wp2
          first | exact HPost2.out true _ (fun g => (nomatch g)) HB1.out | (go_ret; exact HPost2.out true _ (fun g => (nomatch g)) HB1.out)
        | false =>
          clear hh
          go_wp2
          first | exact HPost2.out true _ (fun g => (nomatch g)) HB1.out | (go_ret; exact HPost2.out true _ (fun g => (nomatch g)) HB1.out)
    · obtain rfl : k = len := by omega
      have hk3 : k ≤ 300 := by omega
      generalize hsm : sumA Z k = sm at *
      clear hsm
      by_cases hk4 : k < 300
      all_goals
        go_wp2_with fail
        refine HHv.out.mono ?_
        rintro e w1 ⟨rfl, hb1⟩
        have HB1 := Lib.hid (below_th HB.out hb1)
        clear hb1
        cases hh : heavyV x with
        | true =>
          clear hh
          go_wp2
          first | exact HPost2.out true _ (fun g => (nomatch g)) HB1.out | (go_ret; exact HPost2.out true _ (fun g => (nomatch g)) HB1.out)
        | false =>
          have HH := Lib.hid hh
          clear hh
          by_cases hl : 150 < k
          · go_wp2
            first | exact HPost2.out true _ (fun g => (nomatch g)) HB1.out | (go_ret; exact HPost2.out true _ (fun g => (nomatch g)) HB1.out)
          · have Hl := Lib.hid hl
            have hl2 : ¬ (150 : Int) < k := by omega
            go_wp2
            first
              | exact HPost2.out _ _ (fun _ => ⟨HH.out, by have := Hl.out; omega⟩) HB1.out
              | (go_ret; exact HPost2.out _ _ (fun _ => ⟨HH.out, by have := Hl.out; omega⟩) HB1.out)
end Cp
end Go.Proofs.YtkbhokmnbpnlbaaGreat
/- The walk of aediculelaw21.same. -/
namespace Go.Proofs.YtkbhokmnbpnlbaaGreat
open Go.RowKit Word
set_option linter.unusedVariables false
set_option linter.unusedSimpArgs false
namespace Cp
def s21Rel (w : World) (n : Nat) (vi : Value) (wr : World) : Prop := ∃ i : Nat, i ≤ n ∧ vi = .int .i64 i ∧ Below w.heap.size w wr
end Cp
end Go.Proofs.YtkbhokmnbpnlbaaGreat
