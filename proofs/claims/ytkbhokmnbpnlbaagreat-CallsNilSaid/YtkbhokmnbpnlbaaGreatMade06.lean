/- The walk of aediculelaw06.Made. -/
import Derived.Test.YtkbhokmnbpnlbaaGreatDuo
import Derived.Test.YtkbhokmnbpnlbaaGreatText06
import Derived.Test.YtkbhokmnbpnlbaaGreatRspW
import Derived.Deep.RegionHeld3
namespace Go.Proofs.YtkbhokmnbpnlbaaGreat
open Go.RowKit Word
set_option linter.unusedSimpArgs false
set_option linter.unusedVariables false
namespace Cp
/-- A row of numbers among cells. -/
def RowN (k : IntKind) (w : World) (a : Option Addr) (n : Nat) (f : Nat → Int) : Prop := 0 < n → ∃ b off, a = some ⟨b, off, none⟩ ∧ b < w.heap.size ∧ ∀ i, i < n → w.cell? ⟨b, off + i, none⟩ = some (.int k (f i))
/-- A state, as Made takes it. -/
structure St where
  ra : Option Addr
  rn : Nat
  rcap : Nat
  rf : Nat → Int
  pc : Int
  pa : Option Addr
  pn : Nat
  pcap : Nat
  pf : Nat → Int
  at' : Int
  ca : Option Addr
  cn : Nat
  ccap : Nat
  cf : Nat → Ins
  wh : Int
  text : ByteArray
def St.cells (x : St) : Array Value := #[.slice x.ra x.rn x.rcap, .int .u32 x.pc, .slice x.pa x.pn x.pcap, .int .u16 x.at', .slice x.ca x.cn x.ccap, .int .u16 x.wh, .string x.text]
structure St.ok (w : World) (x : St) : Prop where
  rrow : RowN .u32 w x.ra x.rn x.rf
  rbd : ∀ i, i < x.rn → 0 ≤ x.rf i ∧ x.rf i ≤ 4294967295
  rlen : x.rn ≤ 9223372036854775807
  p0 : 0 ≤ x.pc
  p1 : x.pc ≤ 4294967295
  prow : RowN .u8 w x.pa x.pn x.pf
  pbd : ∀ i, i < x.pn → 0 ≤ x.pf i ∧ x.pf i ≤ 255
  plen : x.pn ≤ 16
  a0 : 0 ≤ x.at'
  a1 : x.at' ≤ 65535
  crow : Code w x.ca x.cn x.cf
  cbd : ∀ i, i < x.cn → (x.cf i).ok
  clen : x.cn ≤ 1000
  w0 : 0 ≤ x.wh
  w1 : x.wh ≤ 65535
  tlen : x.text.size ≤ 65536
def St.regs (x : St) : List Int := regsK x.rf (min x.rn 16)
def St.pgs (x : St) : List Pg := madeA x.pf x.pn x.at' (strOfNums (textL x.cf x.cn)) x.wh x.text
/-- What Made leaves. -/
def MadePost (w : World) (x : St) (e : Ending) (w' : World) : Prop :=
  ∃ (cb sb mb : Nat) (A : List Pg) (db rb : Nat) (lv : Value) (R : List Rp), e = .returned (.tuple #[.pointer (some ⟨cb, 0, none⟩), .pointer (some ⟨sb, 0, none⟩), .pointer (some ⟨db, 0, none⟩), .pointer (some ⟨rb, 0, none⟩), .bool true]) ∧
    Duo w w' cb sb mb A x.regs x.pc db rb lv R x.regs x.pc ∧ cores A = cores (rpgs R) ∧ cores A = cores x.pgs
/-- The box of a state. -/
structure StBox (w : World) (b : Nat) (x : St) : Prop where
  blk : w.heap[b]? = some (.cells x.cells 37 (0, 0))
theorem StBox.cells {w : World} {b : Nat} {x : St} (h : StBox w b x) : w.cell? ⟨b, 0, none⟩ = some (.slice x.ra x.rn x.rcap) ∧ w.cell? ⟨b, 1, none⟩ = some (.int .u32 x.pc) ∧ w.cell? ⟨b, 2, none⟩ = some (.slice x.pa x.pn x.pcap) ∧ w.cell? ⟨b, 3, none⟩ = some (.int .u16 x.at') ∧ w.cell? ⟨b, 4, none⟩ = some (.slice x.ca x.cn x.ccap) ∧ w.cell? ⟨b, 5, none⟩ = some (.int .u16 x.wh) ∧ w.cell? ⟨b, 6, none⟩ = some (.string x.text) := by
  unfold World.cell?
  rw [h.blk]
  exact ⟨rfl, rfl, rfl, rfl, rfl, rfl, rfl⟩
theorem StBox.below {w w' : World} {b : Nat} {x : St} {B : Nat} (h : StBox w b x) (hb : Below B w w') (hB : b < B) : StBox w' b x := ⟨(hb.block _ hB).trans h.blk⟩
def m1Rel (w0 : World) (x : St) (cb sb mb db rb : Nat) (vi : Value) (wr : World) : Prop :=
  ∃ k : Nat, k ≤ x.rn ∧ k ≤ 16 ∧ vi = .int .i64 k ∧ Duo w0 wr cb sb mb [] (regsK x.rf k) x.pc db rb (.slice none 0 0) [] (regsK x.rf k) x.pc
def m2Rel (w0 : World) (x : St) (cb sb mb db rb : Nat) (vi : Value) (wr : World) : Prop :=
  ∃ (k : Nat) (A : List Pg) (lv : Value) (R : List Rp), k ≤ x.pn ∧ vi = .int .i64 k ∧ Duo w0 wr cb sb mb A x.regs x.pc db rb lv R x.regs x.pc ∧ cores A = cores (rpgs R) ∧ cores A = cores (pgsK x.pf k)
set_option maxRecDepth 100000 in
set_option maxHeartbeats 4000000 in
theorem made (w : World) (x : St) (hx : x.ok w) : Calls Tryz.prog 50 #[.agg x.cells] w (MadePost w x) := by
  have HFin : Hid (∀ (cb sb mb : Nat) (A : List Pg) (db rb : Nat) (lv : Value) (R : List Rp) w', Duo w w' cb sb mb A x.regs x.pc db rb lv R x.regs x.pc → cores A = cores (rpgs R) → cores A = cores x.pgs → MadePost w x (.returned (.tuple #[.pointer (some ⟨cb, 0, none⟩), .pointer (some ⟨sb, 0, none⟩), .pointer (some ⟨db, 0, none⟩), .pointer (some ⟨rb, 0, none⟩), .bool true])) w') :=
    Lib.hid fun cb sb mb A db rb lv R w' h1 h2 h3 => ⟨cb, sb, mb, A, db, rb, lv, R, rfl, h1, h2, h3⟩
  generalize MadePost w x = PQ at *
  have HX := Lib.hid hx
  have hp0 := hx.p0
  have hp1 := hx.p1
  generalize hW : w.alloc (.cells x.cells 37) = W
  have hb : Below w.heap.size w W := by rw [← hW]; exact (Below.refl _ _).alloc (Nat.le_refl _) _
  have hbx : StBox W w.heap.size x := by rw [← hW]; exact ⟨heap_alloc_new w _⟩
  have hsz : W.heap.size = w.heap.size + 1 := by rw [← hW]; simp
  have HB := Lib.hid hb
  have HBx := Lib.hid hbx
  obtain ⟨b0, b1, b2, b3, b4, b5, b6⟩ := hbx.cells
  clear hb hbx hx
  unfold St.cells at hW ⊢
  go_enter Tryz.func50, Tryz.ntmps50
  go_wp2_with fail
  refine (new x.pc hp0 hp1 W).mono ?_
  rintro e w1 ⟨rfl, hc1, hb1⟩
  have hz1 := hb1.size
  have HC1 := Lib.hid hc1
  have hlt1 := hc1.lt
  have HB1 := Lib.hid hb1
  have HBx1 := Lib.hid (HBx.out.below hb1 (by omega))
  clear hc1 hb1 b0 b1 b2 b3 b4 b5 b6
  go_wp2_with fail
  refine (Sp.new w1).mono ?_
  rintro e w2 ⟨rfl, hs2, hb2, hz2⟩
  have hz2' := hb2.size
  have HS2 := Lib.hid hs2
  have HB2 := Lib.hid (HB1.out.trans (hb2.mono HB1.out.size))
  have HC2 := Lib.hid (HC1.out.below hb2)
  have hbx2 := HBx1.out.below hb2 (by omega)
  obtain ⟨b0, b1, b2, b3, b4, b5, b6⟩ := hbx2.cells
  have HBx2 := Lib.hid hbx2
  clear hs2 hb2 hbx2 HBx1 HC1 HB1
  go_wp2
  have hD : Duo W ((w2.alloc (.cells #[.int .u32 0, .int .u32 0, .int .u32 0, .int .u32 0, .int .u32 0, .int .u32 0, .int .u32 0, .int .u32 0, .int .u32 0, .int .u32 0, .int .u32 0, .int .u32 0, .int .u32 0, .int .u32 0, .int .u32 0, .int .u32 0, .int .u32 x.pc] 124)).alloc (.cells #[.slice none 0 0] 210))
      (w.heap.size + 1) (w1.heap.size + 1) w1.heap.size [] (List.replicate 16 0) x.pc (w1.heap.size + 2) (w1.heap.size + 2 + 1) (.slice none 0 0) [] (List.replicate 16 0) x.pc := by
    have hb4 : Below w2.heap.size w2 ((w2.alloc (.cells #[.int .u32 0, .int .u32 0, .int .u32 0, .int .u32 0, .int .u32 0, .int .u32 0, .int .u32 0, .int .u32 0, .int .u32 0, .int .u32 0, .int .u32 0, .int .u32 0, .int .u32 0, .int .u32 0, .int .u32 0, .int .u32 0, .int .u32 x.pc] 124)).alloc (.cells #[.slice none 0 0] 210)) := ((Below.refl _ _).alloc (Nat.le_refl _) _).alloc (by simp) _
    have hl := HS2.out.lt (.inl rfl)
    have hc1 := HC2.out.lt
    have hd : Cpu 124 ((w2.alloc (.cells #[.int .u32 0, .int .u32 0, .int .u32 0, .int .u32 0, .int .u32 0, .int .u32 0, .int .u32 0, .int .u32 0, .int .u32 0, .int .u32 0, .int .u32 0, .int .u32 0, .int .u32 0, .int .u32 0, .int .u32 0, .int .u32 0, .int .u32 x.pc] 124)).alloc (.cells #[.slice none 0 0] 210)) (w1.heap.size + 2) (List.replicate 16 0) x.pc := by
      refine ⟨?_, ⟨rfl, fun x hx => ?_⟩, hp0, hp1⟩
      · rw [← hz2, Below.heap_alloc _ _ _ (by simp)]
        exact heap_alloc_new w2 _
      · have := List.eq_of_mem_replicate hx
        omega
    have hr := heap_alloc_new (w2.alloc (.cells #[.int .u32 0, .int .u32 0, .int .u32 0, .int .u32 0, .int .u32 0, .int .u32 0, .int .u32 0, .int .u32 0, .int .u32 0, .int .u32 0, .int .u32 0, .int .u32 0, .int .u32 0, .int .u32 0, .int .u32 0, .int .u32 0, .int .u32 x.pc] 124)) (.cells #[.slice none 0 0] 210)
    rw [show (w2.alloc (.cells #[.int .u32 0, .int .u32 0, .int .u32 0, .int .u32 0, .int .u32 0, .int .u32 0, .int .u32 0, .int .u32 0, .int .u32 0, .int .u32 0, .int .u32 0, .int .u32 0, .int .u32 0, .int .u32 0, .int .u32 0, .int .u32 0, .int .u32 x.pc] 124)).heap.size = w1.heap.size + 2 + 1 by simp [hz2]] at hr
    have fa : ∀ k, Spc.foot (w1.heap.size + 1) w1.heap.size [] k → k = w1.heap.size + 1 ∨ k = w1.heap.size := fun k hk => by
      rcases hk with g | g | ⟨p, g, _⟩
      · exact .inl g
      · exact .inr g
      · cases g
    have fr : ∀ k, Rsp.foot (w1.heap.size + 2 + 1) (.slice none 0 0) [] k → k = w1.heap.size + 2 + 1 := fun k hk => by
      rcases hk with g | g | ⟨q, g, _⟩
      · exact g
      · cases g
      · cases g
    have hcp := HC2.out.below hb4
    rw [hsz] at hcp
    refine ⟨hcp, hd, ⟨HS2.out.below hb4 fun _ hk => HS2.out.lt hk, rsp_nil hr, fun k hk g => ?_⟩, HB2.out.trans (hb4.mono HB2.out.size), by omega, by omega, fun k hk => ?_, fun k hk => ?_, by omega, fun g => ?_, fun g => ?_, fun g => ?_, fun g => ?_⟩
    · have := fa k hk; have := fr k g; omega
    · have := fa k hk; omega
    · have := fr k hk; omega
    · have := fa _ g; omega
    · have := fr _ g; omega
    · have := fa _ g; omega
    · have := fr _ g; omega
  rw [← regsK_zero x.rf] at hD
  have HD := Lib.hid hD
  have hwl : w.heap.size < W.heap.size := by omega
  clear hD b0 b1 b2 b3 b4 b5 b6 HBx2 HC2 HB2 HS2 hz2 hz2' hz1 hlt1 hsz hW
  have HRow : Hid (∀ wr, Below W.heap.size W wr → RowN .u32 wr x.ra x.rn x.rf ∧ RowN .u8 wr x.pa x.pn x.pf ∧ Code wr x.ca x.cn x.cf ∧ StBox wr w.heap.size x) := Lib.hid fun wr hb => by
    have hbw := HB.out.trans (hb.mono HB.out.size)
    refine ⟨fun hn => ?_, fun hn => ?_, HX.out.crow.below hbw, HBx.out.below hb hwl⟩
    · obtain ⟨b, off, e, hbl, hc⟩ := HX.out.rrow hn
      exact ⟨b, off, e, Nat.lt_of_lt_of_le hbl hbw.size, fun i hi => (World.cell?_of_block (w := w) (hbw.block b hbl)).trans (hc i hi)⟩
    · obtain ⟨b, off, e, hbl, hc⟩ := HX.out.prow hn
      exact ⟨b, off, e, Nat.lt_of_lt_of_le hbl hbw.size, fun i hi => (World.cell?_of_block (w := w) (hbw.block b hbl)).trans (hc i hi)⟩
  generalize w.heap.size + 1 = cb at *
  generalize w1.heap.size + 1 = sb at *
  generalize w1.heap.size + 2 + 1 = rb at *
  generalize w1.heap.size + 2 = db at *
  generalize w1.heap.size = mb at *
  go_loopw [11] (fun vi wr => m1Rel W x cb sb mb db rb vi wr) (fun vi _ => 16 - (intOf vi).toNat)
  case atStart => exact ⟨0, Nat.zero_le _, by omega, by go_num, HD.out⟩
  case round =>
    clear HD
    obtain ⟨k, hk1, hk2, rfl, hd⟩ := hrel
    obtain ⟨hrr, _, _, hbx⟩ := HRow.out wr hd.bel
    obtain ⟨b0, b1, b2, b3, b4, b5, b6⟩ := hbx.cells
    have hrl := HX.out.rlen
    have HDk := Lib.hid hd
    by_cases hk34 : k < x.rn ∧ k < 16
    · obtain ⟨hk3, hk4⟩ := hk34
      · have hv := HX.out.rbd k hk3
        obtain ⟨b, off, hra, hbl, hcl⟩ := hrr (by omega)
        have hcv := hcl k hk3
        rw [hra] at b0
        have hks := regsK_succ x.rf k hk4
        have HR2 : Hid (∀ w4, Duo W w4 cb sb mb [] (regsK x.rf (k + 1)) x.pc db rb (.slice none 0 0) [] (regsK x.rf k) x.pc → w4.cell? ⟨w.heap.size, 0, none⟩ = some (.slice (some ⟨b, off, none⟩) x.rn x.rcap) ∧ w4.cell? ⟨b, off + k, none⟩ = some (.int .u32 (x.rf k))) := Lib.hid fun w4 h4 => by
          obtain ⟨hrr4, _, _, hbx4⟩ := HRow.out w4 h4.bel
          obtain ⟨b', off', hra', _, hcl'⟩ := hrr4 (by omega)
          rw [hra] at hra'
          cases hra'
          exact ⟨hra ▸ hbx4.cells.1, hcl' k hk3⟩
        have Hks := Lib.hid hks
        have Hv := Lib.hid hv
        clear hd hrr hbx hcl hks hv hra
        generalize x.rf k = v at *
        go_wp2_with fail
        refine (setReg_ok HDk.out.cp k hk4 v Hv.out.1 Hv.out.2).mono ?_
        rintro e w4 ⟨rfl, hc4, hm4⟩
        rw [Hks.out] at hc4
        have hd4 := HDk.out.setC hc4 hm4
        obtain ⟨e0, e1⟩ := HR2.out w4 hd4
        have HD4 := Lib.hid hd4
        clear hc4 hm4 hd4 HDk b0 b1 b2 b3 b4 b5 b6 hcv
        by_cases hk0 : k = 0
        · subst hk0
          go_wp2
          refine ⟨⟨1, by omega, by omega, by go_num, ?_⟩, by simp [intOf]⟩
          exact HD4.out
        · have hk5 : decide (0 < (k : Int)) = true := decide_eq_true (by omega)
          have hk6 : (k : Int) < 16 := by omega
          have g1 := HD4.out.dp.cellReg k hk4
          have g2 := HD4.out.dp.thaw k
          have HS4 := Lib.hid (HD4.out.dp.setReg k hk4 v Hv.out.1 Hv.out.2)
          rw [← putG_nat _ _ _ hk0, Hks.out] at HS4
          go_wp2_with fail
          go_region
          all_goals
            go_wp2
            refine ⟨⟨k + 1, by omega, by omega, by go_num, ?_⟩, by simp [intOf]; omega⟩
            exact (HD4.out.setD HS4.out (Mod.setCell (F := fun j => j = db) (Mod.refl _ _) _ (.inl rfl) _)).below ((Below.refl _ _).drew)
    · have hkm : k = min x.rn 16 := by omega
      have hreg : regsK x.rf k = x.regs := by unfold St.regs; rw [hkm]
      have hor : ¬ (k < x.rn) ∨ ((k : Int) < x.rn ∧ ¬ ((k : Int) < 16)) := by omega
      rw [hreg] at hd
      have HD := Lib.hid hd
      clear hd hrr hbx HDk hreg hkm hk34 hk1 hk2
      rcases hor with hg | ⟨hg, hg2⟩
      all_goals
        go_wp2_with fail
        go_loopw [12] (fun vi wr => m2Rel W x cb sb mb db rb vi wr) (fun vi _ => x.pn - (intOf vi).toNat)
        case atStart => exact ⟨0, [], _, [], Nat.zero_le _, by go_num, HD.out, rfl, rfl⟩
        case round =>
          clear HD b0 b1 b2 b3 b4 b5 b6
          obtain ⟨j, A, lv, R, hj, rfl, hd, he, hk⟩ := hrel
          obtain ⟨_, hpr, hcr, hbx⟩ := HRow.out _ hd.bel
          obtain ⟨b0, b1, b2, b3, b4, b5, b6⟩ := hbx.cells
          have HDk := Lib.hid hd
          have HCr := Lib.hid hcr
          have HE := Lib.hid he
          have HK := Lib.hid hk
          have hpn := HX.out.plen
          clear hd he hk hbx hcr
          by_cases hj2 : j < x.pn
          · have hv := HX.out.pbd j hj2
            obtain ⟨b, off, hpa, hbl, hcl⟩ := hpr (by omega)
            have hcv := hcl j hj2
            rw [hpa] at b2
            have HR2 : Hid (∀ w4 A4 lv4 R4, Duo W w4 cb sb mb A4 x.regs x.pc db rb lv4 R4 x.regs x.pc → w4.cell? ⟨w.heap.size, 2, none⟩ = some (.slice (some ⟨b, off, none⟩) x.pn x.pcap) ∧ w4.cell? ⟨b, off + j, none⟩ = some (.int .u8 (x.pf j))) := Lib.hid fun w4 A4 lv4 R4 h4 => by
              obtain ⟨_, hpr4, _, hbx4⟩ := HRow.out w4 h4.bel
              obtain ⟨b', off', hpa', _, hcl'⟩ := hpr4 (by omega)
              rw [hpa] at hpa'
              cases hpa'
              exact ⟨hpa ▸ hbx4.cells.2.2.1, hcl' j hj2⟩
            have hw1 : IntKind.u32.wrap (j : Int) = j := by rw [IntKind.wrap_u32']; omega
            have hw2 : IntKind.u32.wrap ((j : Int) * 256) = j * 256 := by rw [IntKind.wrap_u32']; omega
            have hw3 : (j : Int) % 4294967296 = j := by omega
            have hw4 : (j : Int) * 256 % 4294967296 = j * 256 := by omega
            have HPs : Hid (pgsK x.pf (j + 1) = if x.pf j < 8 then Sp.mapA (pgsK x.pf j) (j * 256) 0 (x.pf j) else pgsK x.pf j) := Lib.hid rfl
            have HFree : Hid (x.pf j < 8 → Sp.mapE (pgsK x.pf j) (j * 256) (x.pf j) = 0) := Lib.hid fun h8 => pgsK_free x.pf j (by omega) hv.1 h8
            have Hv := Lib.hid hv
            clear hcl hv hpa hpr
            generalize x.pf j = v at *
            by_cases hv8 : v < 8
            · have hE1 : Sp.mapE A (j * 256) v = 0 := by rw [Cor.mapE HK.out]; exact HFree.out hv8
              have hE2 : Sp.mapE (rpgs R) (j * 256) v = 0 := by rw [← Cor.mapE HE.out]; exact hE1
              go_wp2_with fail
              refine (Sp.s_map HDk.out.pair.sp (j * 256) v (by omega) (by omega) Hv.out.1 Hv.out.2).mono ?_
              rintro e w4 ⟨blk, rfl, hs4⟩
              rw [hE1]
              have hd4 := HDk.out.left hs4
              obtain ⟨e0, e1⟩ := HR2.out w4 _ _ _ hd4
              have HD4 := Lib.hid hd4
              clear hs4 hd4 HDk b0 b1 b2 b3 b4 b5 b6 hcv
              go_wp2_with fail
              refine (Rs.map_any HD4.out.pair.rp (j * 256) v (by omega) (by omega) Hv.out.1 Hv.out.2).mono ?_
              rintro e w5 ⟨lv5, R5, blk5, rfl, hR5, hs5⟩
              rw [hE2]
              have HD5 := Lib.hid (HD4.out.right hs5)
              have HR5 := Lib.hid hR5
              clear hs5 HD4 e0 e1 hR5
              go_wp2
              refine ⟨⟨j + 1, _, lv5, R5, by omega, by go_num, HD5.out, ?_, ?_⟩, by simp [intOf]; omega⟩
              · rw [HR5.out]
                exact Cor.mapA HE.out _ _ _ _
              · rw [HPs.out, if_pos hv8]
                exact Cor.mapA HK.out _ _ _ _
            · have hv9 : decide (v < 8) = false := decide_eq_false hv8
              go_wp2
              refine ⟨⟨j + 1, A, lv, R, by omega, by go_num, HDk.out, HE.out, ?_⟩, by simp [intOf]; omega⟩
              rw [HPs.out, if_neg hv8]
              exact HK.out
          · obtain rfl : j = x.pn := by omega
            have ha0 := HX.out.a0
            have ha1 := HX.out.a1
            have hw0 := HX.out.w0
            have hw1 := HX.out.w1
            have hm1 : (x.at').tmod 4096 = x.at' % 4096 := Int.tmod_eq_emod_of_nonneg ha0
            have hm2 : (x.wh).tmod 4096 = x.wh % 4096 := Int.tmod_eq_emod_of_nonneg hw0
            have hm3 : x.at' % 4294967296 = x.at' := by omega
            have hm4 : x.wh % 4294967296 = x.wh := by omega
            go_wp2_with fail
            go_region
            go_wp2_with fail
            have HT : Hid (∀ V A5 lv5 R5, Duo W V cb sb mb A5 x.regs x.pc db rb lv5 R5 x.regs x.pc → V.cell? ⟨w.heap.size, 6, none⟩ = some (.string x.text)) := Lib.hid fun V A5 lv5 R5 h5 => by
              obtain ⟨_, _, _, hbx5⟩ := HRow.out V h5.bel
              exact hbx5.cells.2.2.2.2.2.2
            refine (text _ x.ca x.cn x.ccap x.cf (HCr.out.below (Below.refl _ _).drew) HX.out.cbd HX.out.clen).mono ?_
            rintro e w5 ⟨rfl, hb5⟩
            have hSsz : (strOfNums (textL x.cf x.cn)).size ≤ 140737488355328 := by rw [szN, textL_len]; have := HX.out.clen; omega
            have hTsz : x.text.size ≤ 140737488355328 := by have := HX.out.tlen; omega
            have HPg : Hid (x.pgs = Sp.putA (Sp.putA (pgsK x.pf x.pn) (x.at' % 4096) 0 (strOfNums (textL x.cf x.cn))) (x.wh % 4096) 0 x.text) := Lib.hid rfl
            have hA0 : 0 ≤ x.at' % 4096 := by omega
            have hA1 : x.at' % 4096 ≤ 4294967295 := by omega
            have hA2 : 0 ≤ x.wh % 4096 := by omega
            have hA3 : x.wh % 4096 ≤ 4294967295 := by omega
            have hd5 := (HDk.out.below (Below.refl _ _).drew).below hb5
            have HD5 := Lib.hid hd5
            have hd6 := hd5.below (Below.refl _ _).drew
            have HD6 := Lib.hid hd6
            have t5 := HT.out _ _ _ _ hd5
            have t6 := HT.out _ _ _ _ hd6
            clear hd5 hd6 hb5 HDk b0 b1 b2 b3 b4 b5 b6 HCr hm1 hm2 hm3 hm4
            generalize strOfNums (textL x.cf x.cn) = S at *
            generalize x.at' % 4096 = AT at *
            generalize x.wh % 4096 = WH at *
            go_wp2_with fail
            go_region_held3 (fun w' => w'.cell? ⟨w.heap.size, 6, none⟩ = some (.string x.text))
              (first
                | exact t5
                | exact t6
                | exact t7
                | exact t8
                | exact t9
                | exact t10)
              (first
                | (go_at_call 125
                   (with_reducible refine (Sp.s_set HD6.out.pair.sp AT S hA0 hA1 hSsz).mono ?_)
                   rintro e w7 ⟨rfl, hs7⟩
                   have hd7 := HD6.out.left hs7
                   have t7 := HT.out _ _ _ _ hd7)
                | (go_at_call 126
                   (with_reducible refine (Rs.put_in hd7.pair.rp AT 0 S hA0 hA1 hSsz (by omega) (by omega)).mono ?_)
                   rintro e w8 ⟨R8, rfl, hR8, hs8⟩
                   rw [← Cor.fitsE HE.out]
                   have he8 := Cor.putA HE.out AT 0 S
                   rw [← hR8] at he8
                   have hk8 := Cor.putA HK.out AT 0 S
                   have hd8 := hd7.right hs8
                   have t8 := HT.out _ _ _ _ hd8)
                | (go_at_call 125
                   (with_reducible refine (Sp.s_set hd8.pair.sp WH x.text hA2 hA3 hTsz).mono ?_)
                   rintro e w9 ⟨rfl, hs9⟩
                   have hd9 := hd8.left hs9
                   have t9 := HT.out _ _ _ _ hd9)
                | (go_at_call 126
                   (with_reducible refine (Rs.put_in hd9.pair.rp WH 0 x.text hA2 hA3 hTsz (by omega) (by omega)).mono ?_)
                   rintro e w10 ⟨R10, rfl, hR10, hs10⟩
                   rw [← Cor.fitsE he8]
                   have he10 := Cor.putA he8 WH 0 x.text
                   rw [← hR10] at he10
                   have hk10 := Cor.putA hk8 WH 0 x.text
                   have hd10 := hd9.right hs10
                   have t10 := HT.out _ _ _ _ hd10))
            all_goals
              have HD10 := Lib.hid (hd10.weaken HB.out)
              have HE10 := Lib.hid he10
              rw [← HPg.out] at hk10
              have HK10 := Lib.hid hk10
              clear hd10 he10 hk10 hd9 hd8 hd7 t5 t6 t7 t8 t9 t10 he8 hk8 hR8 hR10 hs7 hs8 hs9 hs10
              go_wp2
              refine bodyPost_ret (v := .tuple #[.pointer (some ⟨cb, 0, none⟩), .pointer (some ⟨sb, 0, none⟩), .pointer (some ⟨db, 0, none⟩), .pointer (some ⟨rb, 0, none⟩), .bool true]) (by simp [results, Tryz.results50]) rfl ?_
              exact HFin.out cb sb mb _ db rb _ R10 _ HD10.out HE10.out HK10.out
end Cp
end Go.Proofs.YtkbhokmnbpnlbaaGreat
