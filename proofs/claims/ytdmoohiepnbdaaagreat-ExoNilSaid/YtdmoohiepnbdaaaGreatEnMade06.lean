/- Made06, LoopP, RegT, ExoW, EnvN in one text. -/
import Derived.Test.YtdmoohiepnbdaaaGreatEnEnvX
import Derived.Test.YtdmoohiepnbdaaaGreatEnRefW
import Derived.Test.YtdmoohiepnbdaaaGreatEnRspW
import Derived.Deep.RegionHeld3
import Derived.Test.YtdmoohiepnbdaaaGreatEnPag
import Derived.Test.YtdmoohiepnbdaaaGreatEnBase
import Derived.Deep.RegionWith
import Derived.Deep.DeepCutAuto
import Derived.Test.YtdmoohiepnbdaaaGreatEnSl21
namespace Go.Proofs.YtdmoohiepnbdaaaGreat
open Go.RowKit Word
set_option linter.unusedSimpArgs false
set_option linter.unusedVariables false
namespace Cp
def RowN (k : IntKind) (w : World) (a : Option Addr) (n : Nat) (f : Nat → Int) : Prop := 0 < n → ∃ b off, a = some ⟨b, off, none⟩ ∧ b < w.heap.size ∧ ∀ i, i < n → w.cell? ⟨b, off + i, none⟩ = some (.int k (f i))
structure St where
  ra : Option Addr
  rn : Nat
  rcap : Nat
  rf : Nat → Int
  pc : Int
  pa : Option Addr
  pn : Nat
  pcap : Nat
  pf : Nat → Int
  at' : Int
  ca : Option Addr
  cn : Nat
  ccap : Nat
  cf : Nat → Ins
  wh : Int
  text : ByteArray
def St.cells (x : St) : Array Value := #[.slice x.ra x.rn x.rcap, .int .u32 x.pc, .slice x.pa x.pn x.pcap, .int .u16 x.at', .slice x.ca x.cn x.ccap, .int .u16 x.wh, .string x.text]
structure St.ok (w : World) (x : St) : Prop where
  rrow : RowN .u32 w x.ra x.rn x.rf
  rbd : ∀ i, i < x.rn → 0 ≤ x.rf i ∧ x.rf i ≤ 4294967295
  rlen : x.rn ≤ 9223372036854775807
  p0 : 0 ≤ x.pc
  p1 : x.pc ≤ 4294967295
  prow : RowN .u8 w x.pa x.pn x.pf
  pbd : ∀ i, i < x.pn → 0 ≤ x.pf i ∧ x.pf i ≤ 255
  plen : x.pn ≤ 16
  a0 : 0 ≤ x.at'
  a1 : x.at' ≤ 65535
  crow : Code w x.ca x.cn x.cf
  cbd : ∀ i, i < x.cn → (x.cf i).ok
  clen : x.cn ≤ 1000
  w0 : 0 ≤ x.wh
  w1 : x.wh ≤ 65535
  tlen : x.text.size ≤ 65536
def St.regs (x : St) : List Int := regsK x.rf (min x.rn 16)
def St.pgs (x : St) : List Pg := madeA x.pf x.pn x.at' (strOfNums (textL x.cf x.cn)) x.wh x.text
def MadePost (w : World) (x : St) (e : Ending) (w' : World) : Prop :=
  ∃ (cb sb mb : Nat) (A : List Pg) (db rb : Nat) (lv : Value) (R : List Rp), e = .returned (.tuple #[.pointer (some ⟨cb, 0, none⟩), .pointer (some ⟨sb, 0, none⟩), .pointer (some ⟨db, 0, none⟩), .pointer (some ⟨rb, 0, none⟩), .bool true]) ∧
    Duo w w' cb sb mb A x.regs x.pc db rb lv R x.regs x.pc ∧ cores A = cores (rpgs R) ∧ cores A = cores x.pgs
structure StBox (w : World) (b : Nat) (x : St) : Prop where
  blk : w.heap[b]? = some (.cells x.cells 63 (0, 0))
theorem StBox.cells {w : World} {b : Nat} {x : St} (h : StBox w b x) : w.cell? ⟨b, 0, none⟩ = some (.slice x.ra x.rn x.rcap) ∧ w.cell? ⟨b, 1, none⟩ = some (.int .u32 x.pc) ∧ w.cell? ⟨b, 2, none⟩ = some (.slice x.pa x.pn x.pcap) ∧ w.cell? ⟨b, 3, none⟩ = some (.int .u16 x.at') ∧ w.cell? ⟨b, 4, none⟩ = some (.slice x.ca x.cn x.ccap) ∧ w.cell? ⟨b, 5, none⟩ = some (.int .u16 x.wh) ∧ w.cell? ⟨b, 6, none⟩ = some (.string x.text) := by
  unfold World.cell?
  rw [h.blk]
  exact ⟨rfl, rfl, rfl, rfl, rfl, rfl, rfl⟩
theorem StBox.below {w w' : World} {b : Nat} {x : St} {B : Nat} (h : StBox w b x) (hb : Below B w w') (hB : b < B) : StBox w' b x := ⟨(hb.block _ hB).trans h.blk⟩
def m1Rel (w0 : World) (x : St) (cb sb mb db rb : Nat) (vi : Value) (wr : World) : Prop :=
  ∃ k : Nat, k ≤ x.rn ∧ k ≤ 16 ∧ vi = .int .i64 k ∧ Duo w0 wr cb sb mb [] (regsK x.rf k) x.pc db rb (.slice none 0 0) [] (regsK x.rf k) x.pc
def m2Rel (w0 : World) (x : St) (cb sb mb db rb : Nat) (vi : Value) (wr : World) : Prop :=
  ∃ (k : Nat) (A : List Pg) (lv : Value) (R : List Rp), k ≤ x.pn ∧ vi = .int .i64 k ∧ Duo w0 wr cb sb mb A x.regs x.pc db rb lv R x.regs x.pc ∧ cores A = cores (rpgs R) ∧ cores A = cores (pgsK x.pf k)
set_option maxRecDepth 100000 in
set_option maxHeartbeats 4000000 in
theorem made (w : World) (x : St) (hx : x.ok w) : Calls Tryz.prog 29 #[.agg x.cells] w (MadePost w x) := by
  have HFin : Hid (∀ (cb sb mb : Nat) (A : List Pg) (db rb : Nat) (lv : Value) (R : List Rp) w', Duo w w' cb sb mb A x.regs x.pc db rb lv R x.regs x.pc → cores A = cores (rpgs R) → cores A = cores x.pgs → MadePost w x (.returned (.tuple #[.pointer (some ⟨cb, 0, none⟩), .pointer (some ⟨sb, 0, none⟩), .pointer (some ⟨db, 0, none⟩), .pointer (some ⟨rb, 0, none⟩), .bool true])) w') :=
    Lib.hid fun cb sb mb A db rb lv R w' h1 h2 h3 => ⟨cb, sb, mb, A, db, rb, lv, R, rfl, h1, h2, h3⟩
  generalize MadePost w x = PQ at *
  have HX := Lib.hid hx
  have hp0 := hx.p0
  have hp1 := hx.p1
  generalize hW : w.alloc (.cells x.cells 63) = W
  have hb : Below w.heap.size w W := by rw [← hW]; exact (Below.refl _ _).alloc (Nat.le_refl _) _
  have hbx : StBox W w.heap.size x := by rw [← hW]; exact ⟨heap_alloc_new w _⟩
  have hsz : W.heap.size = w.heap.size + 1 := by rw [← hW]; simp
  have HB := Lib.hid hb
  have HBx := Lib.hid hbx
  obtain ⟨b0, b1, b2, b3, b4, b5, b6⟩ := hbx.cells
  clear hb hbx hx
  unfold St.cells at hW ⊢
  go_enter Tryz.func29, Tryz.ntmps29
  go_wp2_with fail
  refine (new x.pc hp0 hp1 W).mono ?_
  rintro e w1 ⟨rfl, hc1, hb1⟩
  have hz1 := hb1.size
  have HC1 := Lib.hid hc1
  have hlt1 := hc1.lt
  have HB1 := Lib.hid hb1
  have HBx1 := Lib.hid (HBx.out.below hb1 (by omega))
  clear hc1 hb1 b0 b1 b2 b3 b4 b5 b6
  go_wp2_with fail
  refine (Sp.new w1).mono ?_
  rintro e w2 ⟨rfl, hs2, hb2, hz2⟩
  have hz2' := hb2.size
  have HS2 := Lib.hid hs2
  have HB2 := Lib.hid (HB1.out.trans (hb2.mono HB1.out.size))
  have HC2 := Lib.hid (HC1.out.below hb2)
  have hbx2 := HBx1.out.below hb2 (by omega)
  obtain ⟨b0, b1, b2, b3, b4, b5, b6⟩ := hbx2.cells
  have HBx2 := Lib.hid hbx2
  clear hs2 hb2 hbx2 HBx1 HC1 HB1
  go_wp2
  have hD : Duo W ((w2.alloc (.cells #[.int .u32 0, .int .u32 0, .int .u32 0, .int .u32 0, .int .u32 0, .int .u32 0, .int .u32 0, .int .u32 0, .int .u32 0, .int .u32 0, .int .u32 0, .int .u32 0, .int .u32 0, .int .u32 0, .int .u32 0, .int .u32 0, .int .u32 x.pc] 170)).alloc (.cells #[.slice none 0 0] 203))
      (w.heap.size + 1) (w1.heap.size + 1) w1.heap.size [] (List.replicate 16 0) x.pc (w1.heap.size + 2) (w1.heap.size + 2 + 1) (.slice none 0 0) [] (List.replicate 16 0) x.pc := by
    have hb4 : Below w2.heap.size w2 ((w2.alloc (.cells #[.int .u32 0, .int .u32 0, .int .u32 0, .int .u32 0, .int .u32 0, .int .u32 0, .int .u32 0, .int .u32 0, .int .u32 0, .int .u32 0, .int .u32 0, .int .u32 0, .int .u32 0, .int .u32 0, .int .u32 0, .int .u32 0, .int .u32 x.pc] 170)).alloc (.cells #[.slice none 0 0] 203)) := ((Below.refl _ _).alloc (Nat.le_refl _) _).alloc (by simp) _
    have hl := HS2.out.lt (.inl rfl)
    have hc1 := HC2.out.lt
    have hd : Cpu 170 ((w2.alloc (.cells #[.int .u32 0, .int .u32 0, .int .u32 0, .int .u32 0, .int .u32 0, .int .u32 0, .int .u32 0, .int .u32 0, .int .u32 0, .int .u32 0, .int .u32 0, .int .u32 0, .int .u32 0, .int .u32 0, .int .u32 0, .int .u32 0, .int .u32 x.pc] 170)).alloc (.cells #[.slice none 0 0] 203)) (w1.heap.size + 2) (List.replicate 16 0) x.pc := by
      refine ⟨?_, ⟨rfl, fun x hx => ?_⟩, hp0, hp1⟩
      · rw [← hz2, Below.heap_alloc _ _ _ (by simp)]
        exact heap_alloc_new w2 _
      · have := List.eq_of_mem_replicate hx
        omega
    have hr := heap_alloc_new (w2.alloc (.cells #[.int .u32 0, .int .u32 0, .int .u32 0, .int .u32 0, .int .u32 0, .int .u32 0, .int .u32 0, .int .u32 0, .int .u32 0, .int .u32 0, .int .u32 0, .int .u32 0, .int .u32 0, .int .u32 0, .int .u32 0, .int .u32 0, .int .u32 x.pc] 170)) (.cells #[.slice none 0 0] 203)
    rw [show (w2.alloc (.cells #[.int .u32 0, .int .u32 0, .int .u32 0, .int .u32 0, .int .u32 0, .int .u32 0, .int .u32 0, .int .u32 0, .int .u32 0, .int .u32 0, .int .u32 0, .int .u32 0, .int .u32 0, .int .u32 0, .int .u32 0, .int .u32 0, .int .u32 x.pc] 170)).heap.size = w1.heap.size + 2 + 1 by simp [hz2]] at hr
    have fa : ∀ k, Spc.foot (w1.heap.size + 1) w1.heap.size [] k → k = w1.heap.size + 1 ∨ k = w1.heap.size := fun k hk => by
      rcases hk with g | g | ⟨p, g, _⟩
      · exact .inl g
      · exact .inr g
      · cases g
    have fr : ∀ k, Rsp.foot (w1.heap.size + 2 + 1) (.slice none 0 0) [] k → k = w1.heap.size + 2 + 1 := fun k hk => by
      rcases hk with g | g | ⟨q, g, _⟩
      · exact g
      · cases g
      · cases g
    have hcp := HC2.out.below hb4
    rw [hsz] at hcp
    refine ⟨hcp, hd, ⟨HS2.out.below hb4 fun _ hk => HS2.out.lt hk, rsp_nil hr, fun k hk g => ?_⟩, HB2.out.trans (hb4.mono HB2.out.size), by omega, by omega, fun k hk => ?_, fun k hk => ?_, by omega, fun g => ?_, fun g => ?_, fun g => ?_, fun g => ?_⟩
    · have := fa k hk; have := fr k g; omega
    · have := fa k hk; omega
    · have := fr k hk; omega
    · have := fa _ g; omega
    · have := fr _ g; omega
    · have := fa _ g; omega
    · have := fr _ g; omega
  rw [← regsK_zero x.rf] at hD
  have HD := Lib.hid hD
  have hwl : w.heap.size < W.heap.size := by omega
  clear hD b0 b1 b2 b3 b4 b5 b6 HBx2 HC2 HB2 HS2 hz2 hz2' hz1 hlt1 hsz hW
  have HRow : Hid (∀ wr, Below W.heap.size W wr → RowN .u32 wr x.ra x.rn x.rf ∧ RowN .u8 wr x.pa x.pn x.pf ∧ Code wr x.ca x.cn x.cf ∧ StBox wr w.heap.size x) := Lib.hid fun wr hb => by
    have hbw := HB.out.trans (hb.mono HB.out.size)
    refine ⟨fun hn => ?_, fun hn => ?_, HX.out.crow.below hbw, HBx.out.below hb hwl⟩
    · obtain ⟨b, off, e, hbl, hc⟩ := HX.out.rrow hn
      exact ⟨b, off, e, Nat.lt_of_lt_of_le hbl hbw.size, fun i hi => (World.cell?_of_block (w := w) (hbw.block b hbl)).trans (hc i hi)⟩
    · obtain ⟨b, off, e, hbl, hc⟩ := HX.out.prow hn
      exact ⟨b, off, e, Nat.lt_of_lt_of_le hbl hbw.size, fun i hi => (World.cell?_of_block (w := w) (hbw.block b hbl)).trans (hc i hi)⟩
  generalize w.heap.size + 1 = cb at *
  generalize w1.heap.size + 1 = sb at *
  generalize w1.heap.size + 2 + 1 = rb at *
  generalize w1.heap.size + 2 = db at *
  generalize w1.heap.size = mb at *
  go_loopw [11] (fun vi wr => m1Rel W x cb sb mb db rb vi wr) (fun vi _ => 16 - (intOf vi).toNat)
  case atStart => exact ⟨0, Nat.zero_le _, by omega, by go_num, HD.out⟩
  case round =>
    clear HD
    obtain ⟨k, hk1, hk2, rfl, hd⟩ := hrel
    obtain ⟨hrr, _, _, hbx⟩ := HRow.out wr hd.bel
    obtain ⟨b0, b1, b2, b3, b4, b5, b6⟩ := hbx.cells
    have hrl := HX.out.rlen
    have HDk := Lib.hid hd
    by_cases hk34 : k < x.rn ∧ k < 16
    · obtain ⟨hk3, hk4⟩ := hk34
      · have hv := HX.out.rbd k hk3
        obtain ⟨b, off, hra, hbl, hcl⟩ := hrr (by omega)
        have hcv := hcl k hk3
        rw [hra] at b0
        have hks := regsK_succ x.rf k hk4
        have HR2 : Hid (∀ w4, Duo W w4 cb sb mb [] (regsK x.rf (k + 1)) x.pc db rb (.slice none 0 0) [] (regsK x.rf k) x.pc → w4.cell? ⟨w.heap.size, 0, none⟩ = some (.slice (some ⟨b, off, none⟩) x.rn x.rcap) ∧ w4.cell? ⟨b, off + k, none⟩ = some (.int .u32 (x.rf k))) := Lib.hid fun w4 h4 => by
          obtain ⟨hrr4, _, _, hbx4⟩ := HRow.out w4 h4.bel
          obtain ⟨b', off', hra', _, hcl'⟩ := hrr4 (by omega)
          rw [hra] at hra'
          cases hra'
          exact ⟨hra ▸ hbx4.cells.1, hcl' k hk3⟩
        have Hks := Lib.hid hks
        have Hv := Lib.hid hv
        clear hd hrr hbx hcl hks hv hra
        generalize x.rf k = v at *
        go_wp2_with fail
        refine (setReg_ok HDk.out.cp k hk4 v Hv.out.1 Hv.out.2).mono ?_
        rintro e w4 ⟨rfl, hc4, hm4⟩
        rw [Hks.out] at hc4
        have hd4 := HDk.out.setC hc4 hm4
        obtain ⟨e0, e1⟩ := HR2.out w4 hd4
        have HD4 := Lib.hid hd4
        clear hc4 hm4 hd4 HDk b0 b1 b2 b3 b4 b5 b6 hcv
        by_cases hk0 : k = 0
        · subst hk0
          go_wp2
          refine ⟨⟨1, by omega, by omega, by go_num, ?_⟩, by simp [intOf]⟩
          exact HD4.out
        · have hk5 : decide (0 < (k : Int)) = true := decide_eq_true (by omega)
          have hk6 : (k : Int) < 16 := by omega
          have g1 := HD4.out.dp.cellReg k hk4
          have g2 := HD4.out.dp.thaw k
          have HS4 := Lib.hid (HD4.out.dp.setReg k hk4 v Hv.out.1 Hv.out.2)
          rw [← putG_nat _ _ _ hk0, Hks.out] at HS4
          go_wp2_with fail
          go_region
          all_goals
            go_wp2
            refine ⟨⟨k + 1, by omega, by omega, by go_num, ?_⟩, by simp [intOf]; omega⟩
            exact (HD4.out.setD HS4.out (Mod.setCell (F := fun j => j = db) (Mod.refl _ _) _ (.inl rfl) _)).below ((Below.refl _ _).drew)
    · have hkm : k = min x.rn 16 := by omega
      have hreg : regsK x.rf k = x.regs := by unfold St.regs; rw [hkm]
      have hor : ¬ (k < x.rn) ∨ ((k : Int) < x.rn ∧ ¬ ((k : Int) < 16)) := by omega
      rw [hreg] at hd
      have HD := Lib.hid hd
      clear hd hrr hbx HDk hreg hkm hk34 hk1 hk2
      rcases hor with hg | ⟨hg, hg2⟩
      all_goals
        go_wp2_with fail
        go_loopw [12] (fun vi wr => m2Rel W x cb sb mb db rb vi wr) (fun vi _ => x.pn - (intOf vi).toNat)
        case atStart => exact ⟨0, [], _, [], Nat.zero_le _, by go_num, HD.out, rfl, rfl⟩
        case round =>
          clear HD b0 b1 b2 b3 b4 b5 b6
          obtain ⟨j, A, lv, R, hj, rfl, hd, he, hk⟩ := hrel
          obtain ⟨_, hpr, hcr, hbx⟩ := HRow.out _ hd.bel
          obtain ⟨b0, b1, b2, b3, b4, b5, b6⟩ := hbx.cells
          have HDk := Lib.hid hd
          have HCr := Lib.hid hcr
          have HE := Lib.hid he
          have HK := Lib.hid hk
          have hpn := HX.out.plen
          clear hd he hk hbx hcr
          by_cases hj2 : j < x.pn
          · have hv := HX.out.pbd j hj2
            obtain ⟨b, off, hpa, hbl, hcl⟩ := hpr (by omega)
            have hcv := hcl j hj2
            rw [hpa] at b2
            have HR2 : Hid (∀ w4 A4 lv4 R4, Duo W w4 cb sb mb A4 x.regs x.pc db rb lv4 R4 x.regs x.pc → w4.cell? ⟨w.heap.size, 2, none⟩ = some (.slice (some ⟨b, off, none⟩) x.pn x.pcap) ∧ w4.cell? ⟨b, off + j, none⟩ = some (.int .u8 (x.pf j))) := Lib.hid fun w4 A4 lv4 R4 h4 => by
              obtain ⟨_, hpr4, _, hbx4⟩ := HRow.out w4 h4.bel
              obtain ⟨b', off', hpa', _, hcl'⟩ := hpr4 (by omega)
              rw [hpa] at hpa'
              cases hpa'
              exact ⟨hpa ▸ hbx4.cells.2.2.1, hcl' j hj2⟩
            have hw1 : IntKind.u32.wrap (j : Int) = j := by rw [IntKind.wrap_u32']; omega
            have hw2 : IntKind.u32.wrap ((j : Int) * 256) = j * 256 := by rw [IntKind.wrap_u32']; omega
            have hw3 : (j : Int) % 4294967296 = j := by omega
            have hw4 : (j : Int) * 256 % 4294967296 = j * 256 := by omega
            have HPs : Hid (pgsK x.pf (j + 1) = if x.pf j < 8 then Sp.mapA (pgsK x.pf j) (j * 256) 0 (x.pf j) else pgsK x.pf j) := Lib.hid rfl
            have HFree : Hid (x.pf j < 8 → Sp.mapE (pgsK x.pf j) (j * 256) (x.pf j) = 0) := Lib.hid fun h8 => pgsK_free x.pf j (by omega) hv.1 h8
            have Hv := Lib.hid hv
            clear hcl hv hpa hpr
            generalize x.pf j = v at *
            by_cases hv8 : v < 8
            · have hE1 : Sp.mapE A (j * 256) v = 0 := by rw [Cor.mapE HK.out]; exact HFree.out hv8
              have hE2 : Sp.mapE (rpgs R) (j * 256) v = 0 := by rw [← Cor.mapE HE.out]; exact hE1
              go_wp2_with fail
              refine (Sp.s_map HDk.out.pair.sp (j * 256) v (by omega) (by omega) Hv.out.1 Hv.out.2).mono ?_
              rintro e w4 ⟨blk, rfl, hs4⟩
              rw [hE1]
              have hd4 := HDk.out.left hs4
              obtain ⟨e0, e1⟩ := HR2.out w4 _ _ _ hd4
              have HD4 := Lib.hid hd4
              clear hs4 hd4 HDk b0 b1 b2 b3 b4 b5 b6 hcv
              go_wp2_with fail
              refine (Rs.map_any HD4.out.pair.rp (j * 256) v (by omega) (by omega) Hv.out.1 Hv.out.2).mono ?_
              rintro e w5 ⟨lv5, R5, blk5, rfl, hR5, hs5⟩
              rw [hE2]
              have HD5 := Lib.hid (HD4.out.right hs5)
              have HR5 := Lib.hid hR5
              clear hs5 HD4 e0 e1 hR5
              go_wp2
              refine ⟨⟨j + 1, _, lv5, R5, by omega, by go_num, HD5.out, ?_, ?_⟩, by simp [intOf]; omega⟩
              · rw [HR5.out]
                exact Cor.mapA HE.out _ _ _ _
              · rw [HPs.out, if_pos hv8]
                exact Cor.mapA HK.out _ _ _ _
            · have hv9 : decide (v < 8) = false := decide_eq_false hv8
              go_wp2
              refine ⟨⟨j + 1, A, lv, R, by omega, by go_num, HDk.out, HE.out, ?_⟩, by simp [intOf]; omega⟩
              rw [HPs.out, if_neg hv8]
              exact HK.out
          · obtain rfl : j = x.pn := by omega
            have ha0 := HX.out.a0
            have ha1 := HX.out.a1
            have hw0 := HX.out.w0
            have hw1 := HX.out.w1
            have hm1 : (x.at').tmod 4096 = x.at' % 4096 := Int.tmod_eq_emod_of_nonneg ha0
            have hm2 : (x.wh).tmod 4096 = x.wh % 4096 := Int.tmod_eq_emod_of_nonneg hw0
            have hm3 : x.at' % 4294967296 = x.at' := by omega
            have hm4 : x.wh % 4294967296 = x.wh := by omega
            go_wp2_with fail
            go_region
            go_wp2_with fail
            have HT : Hid (∀ V A5 lv5 R5, Duo W V cb sb mb A5 x.regs x.pc db rb lv5 R5 x.regs x.pc → V.cell? ⟨w.heap.size, 6, none⟩ = some (.string x.text)) := Lib.hid fun V A5 lv5 R5 h5 => by
              obtain ⟨_, _, _, hbx5⟩ := HRow.out V h5.bel
              exact hbx5.cells.2.2.2.2.2.2
            refine (text _ x.ca x.cn x.ccap x.cf (HCr.out.below (Below.refl _ _).drew) HX.out.cbd HX.out.clen).mono ?_
            rintro e w5 ⟨rfl, hb5⟩
            have hSsz : (strOfNums (textL x.cf x.cn)).size ≤ 140737488355328 := by rw [szN, textL_len]; have := HX.out.clen; omega
            have hTsz : x.text.size ≤ 140737488355328 := by have := HX.out.tlen; omega
            have HPg : Hid (x.pgs = Sp.putA (Sp.putA (pgsK x.pf x.pn) (x.at' % 4096) 0 (strOfNums (textL x.cf x.cn))) (x.wh % 4096) 0 x.text) := Lib.hid rfl
            have hA0 : 0 ≤ x.at' % 4096 := by omega
            have hA1 : x.at' % 4096 ≤ 4294967295 := by omega
            have hA2 : 0 ≤ x.wh % 4096 := by omega
            have hA3 : x.wh % 4096 ≤ 4294967295 := by omega
            have hd5 := (HDk.out.below (Below.refl _ _).drew).below hb5
            have HD5 := Lib.hid hd5
            have hd6 := hd5.below (Below.refl _ _).drew
            have HD6 := Lib.hid hd6
            have t5 := HT.out _ _ _ _ hd5
            have t6 := HT.out _ _ _ _ hd6
            clear hd5 hd6 hb5 HDk b0 b1 b2 b3 b4 b5 b6 HCr hm1 hm2 hm3 hm4
            generalize strOfNums (textL x.cf x.cn) = S at *
            generalize x.at' % 4096 = AT at *
            generalize x.wh % 4096 = WH at *
            go_wp2_with fail
            go_region_held3 (fun w' => w'.cell? ⟨w.heap.size, 6, none⟩ = some (.string x.text))
              (first
                | exact t5
                | exact t6
                | exact t7
                | exact t8
                | exact t9
                | exact t10)
              (first
                | (go_at_call 94
                   (with_reducible refine (Sp.s_set HD6.out.pair.sp AT S hA0 hA1 hSsz).mono ?_)
                   rintro e w7 ⟨rfl, hs7⟩
                   have hd7 := HD6.out.left hs7
                   have t7 := HT.out _ _ _ _ hd7)
                | (go_at_call 110
                   (with_reducible refine (Rs.put_in hd7.pair.rp AT 0 S hA0 hA1 hSsz (by omega) (by omega)).mono ?_)
                   rintro e w8 ⟨R8, rfl, hR8, hs8⟩
                   rw [← Cor.fitsE HE.out]
                   have he8 := Cor.putA HE.out AT 0 S
                   rw [← hR8] at he8
                   have hk8 := Cor.putA HK.out AT 0 S
                   have hd8 := hd7.right hs8
                   have t8 := HT.out _ _ _ _ hd8)
                | (go_at_call 94
                   (with_reducible refine (Sp.s_set hd8.pair.sp WH x.text hA2 hA3 hTsz).mono ?_)
                   rintro e w9 ⟨rfl, hs9⟩
                   have hd9 := hd8.left hs9
                   have t9 := HT.out _ _ _ _ hd9)
                | (go_at_call 110
                   (with_reducible refine (Rs.put_in hd9.pair.rp WH 0 x.text hA2 hA3 hTsz (by omega) (by omega)).mono ?_)
                   rintro e w10 ⟨R10, rfl, hR10, hs10⟩
                   rw [← Cor.fitsE he8]
                   have he10 := Cor.putA he8 WH 0 x.text
                   rw [← hR10] at he10
                   have hk10 := Cor.putA hk8 WH 0 x.text
                   have hd10 := hd9.right hs10
                   have t10 := HT.out _ _ _ _ hd10))
            all_goals
              have HD10 := Lib.hid (hd10.weaken HB.out)
              have HE10 := Lib.hid he10
              rw [← HPg.out] at hk10
              have HK10 := Lib.hid hk10
              clear hd10 he10 hk10 hd9 hd8 hd7 t5 t6 t7 t8 t9 t10 he8 hk8 hR8 hR10 hs7 hs8 hs9 hs10
              go_wp2
              refine bodyPost_ret (v := .tuple #[.pointer (some ⟨cb, 0, none⟩), .pointer (some ⟨sb, 0, none⟩), .pointer (some ⟨db, 0, none⟩), .pointer (some ⟨rb, 0, none⟩), .bool true]) (by simp [results, Tryz.results29]) rfl ?_
              exact HFin.out cb sb mb _ db rb _ R10 _ HD10.out HE10.out HK10.out
end Cp
end Go.Proofs.YtdmoohiepnbdaaaGreat
namespace Go.Proofs.YtdmoohiepnbdaaaGreat
open Go.RowKit Word
set_option linter.unusedVariables false
namespace Lp
def code (n i : Nat) : Ins := if i + 1 < n then ⟨17, 1, 1, 0, 1⟩ else ⟨40, 0, 0, 0, 256⟩
def Pages (A : List Pg) (n : Nat) : Prop := ∀ i, i < n → Sp.fitsB A (256 + 8 * (i : Int)) 8 4 = true ∧ Sp.getL A (256 + 8 * (i : Int)) 8 = Ins.encL (code n i)
theorem Pages.of {A B : List Pg} {n : Nat} (h : Pages A n) (hc : cores B = cores A) : Pages B n := fun i hi => by
  rw [Cor.fitsB hc, Cor.getL hc]
  exact h i hi
theorem code_dec (n i : Nat) : Ins.decB (strOfNums (Ins.encL (code n i))) = true ∧ Ins.decI (strOfNums (Ins.encL (code n i))) = code n i := by
  unfold code
  split <;> exact ⟨by decide +kernel, by kernel_rfl⟩
structure Goes (E : En) (n : Nat) : Prop where
  kind : E.kind = 2
  pages : Pages E.A n
  pc : ∃ i : Nat, i < n ∧ E.pc = 256 + 8 * i
theorem step {E : En} {n : Nat} (h : Goes E n) (h8 : n ≤ 8) : E.stop = (0, 0, 0) ∧ Goes E.step n ∧ E.step.A = E.A := by
  obtain ⟨i, hi, hpc⟩ := h.pc
  obtain ⟨h1, h2⟩ := h.pages i hi
  obtain ⟨d1, d2⟩ := code_dec n i
  have hs : Cp.stp E.A E.r E.pc = Cp.exe E.A E.r E.pc (code n i) := by
    unfold Cp.stp
    rw [hpc, if_pos h1, h2, if_pos d1, d2]
  by_cases hl : i + 1 < n
  · have hc : code n i = ⟨17, 1, 1, 0, 1⟩ := if_pos hl
    have ho : Cp.stp E.A E.r E.pc = Cp.goes E.A (Cp.putG E.r 1 (opv 1 (Cp.rg E.r 1) 1)) (Cp.next E.pc) := by
      rw [hs, hc]
      rfl
    have hst : E.step = { E with A := E.A, r := Cp.putG E.r 1 (opv 1 (Cp.rg E.r 1) 1), pc := Cp.next E.pc } := by
      unfold En.step
      rw [if_neg (fun q => q h.kind), ho]
      rfl
    refine ⟨?_, ?_, ?_⟩
    · unfold En.stop
      rw [if_neg (fun q => q h.kind), ho]
      rfl
    · rw [hst]
      refine ⟨h.kind, h.pages, i + 1, hl, ?_⟩
      show Cp.next E.pc = _
      unfold Cp.next
      omega
    · rw [hst]
  · have hc : code n i = ⟨40, 0, 0, 0, 256⟩ := if_neg hl
    have ho : Cp.stp E.A E.r E.pc = Cp.goes E.A E.r 256 := by
      rw [hs, hc]
      rfl
    have hst : E.step = { E with A := E.A, r := E.r, pc := 256 } := by
      unfold En.step
      rw [if_neg (fun q => q h.kind), ho]
      rfl
    refine ⟨?_, ?_, ?_⟩
    · unfold En.stop
      rw [if_neg (fun q => q h.kind), ho]
      rfl
    · rw [hst]
      exact ⟨h.kind, h.pages, 0, by omega, rfl⟩
    · rw [hst]
end Lp
end Go.Proofs.YtdmoohiepnbdaaaGreat
namespace Go.Proofs.YtdmoohiepnbdaaaGreat
open Go.RowKit
set_option linter.unusedVariables false
section
variable {P : Program} {Q : Exit → Act → World → Prop} {md : Region.Mode} {S : World → Prop}
theorem T {l : List Oper} {oi : Oper} {v : Value} {fuel : Nat} {listed : Array Bool} {a a' : Act} {w : World} (i : Nat) (hS : S w)
    (h : wpAnyH P md l.toArray Q S fuel (listed.setIfInBounds i true) a' w)
    (hi : l[i]? = some oi := by rfl) (hs : Region.noSelect l.toArray = true := by kernel_rfl) (hf : Region.free md l.toArray listed i = true := by kernel_rfl) (hr : (Region.ready md l.toArray listed).contains i = true := by kernel_rfl)
    (hw : Region.wanted oi (yielded l.toArray a.tmps) = true := by rfl)
    (hy : ∀ W, S W → (execOp a.eval oi).run P W = .ok (.value v) W := by intro W hW; (repeat (obtain ⟨_, hW⟩ := hW)); go_simp; try with_reducible rfl)
    (hQ : ∀ c a w, Q (.panic c) (a.put oi.dst v) w → Q (.panic c) a w := by exact fun _ _ _ h => h)
    (ha : a.put oi.dst v = a' := by simp only [Act.put, List.getElem_toArray, List.getElem_cons_succ, List.getElem_cons_zero, List.setIfInBounds_toArray, List.set_cons_zero, List.set_cons_succ]; rfl) : wpAnyH P md l.toArray Q S (fuel + 1) listed a w := by
  subst ha
  exact wpAnyH_take (by rw [List.getElem?_toArray]; exact hi) hs hf hr hQ (Or.inl ⟨hw, hy⟩) hS h
theorem U {l : List Oper} {o : Oper} {fuel : Nat} {listed : Array Bool} {a : Act} {w : World} (i : Nat)
    (h : ∀ K' : Act → World → Prop, Shut (∀ a w, S w → (S w → wpAnyH P md l.toArray Q S fuel (listed.setIfInBounds i true) a w) → K' a w) → if Region.wanted o (yielded l.toArray a.tmps) = true then Oper.wp P o a w K' Q else K' (a.put o.dst undef) w)
    (hr : Region.ready md l.toArray listed = [i] := by kernel_rfl) (ho : l[i]? = some o := by rfl) :
    wpAnyH P md l.toArray Q S (fuel + 1) listed a w :=
  wpAnyH_ready hr (by simp) (AllReadyH.cons (by rw [List.getElem?_toArray]; exact ho) h AllReadyH.nil)
theorem V {l : List Oper} {fuel : Nat} {listed : Array Bool} {a a' : Act} {w : World} {K' : Act → World → Prop} (hK : Shut (∀ a w, S w → (S w → wpAnyH P md l.toArray Q S fuel listed a w) → K' a w)) (hS : S w)
    (h : wpAnyH P md l.toArray Q S fuel listed a' w) (ha : a = a' := by first | (simp only [Act.put, List.getElem_toArray, List.getElem_cons_succ, List.getElem_cons_zero, List.setIfInBounds_toArray, List.set_cons_zero, List.set_cons_succ]; rfl) | rfl) : K' a w := by
  subst ha
  exact hK.out _ _ hS fun _ => h
theorem B {l : List Oper} {id : Nat} {a : Act} {w : World} (S : World → Prop) (hS : S w.drew)
    (h : ∀ w', w' = w.drew → S w' → wpAnyH P .any l.toArray Q S l.toArray.size (Array.replicate l.toArray.size false) a w') (hm : P.follows .mixedOrders = true := by kernel_rfl) : (Code.region id l.toArray true).wp P Q a w :=
  wp_region_held hm (h _ rfl hS)
end
theorem setCell_same {w : World} {b i : Nat} {cs : Array Value} {e : TypeId} {f : Nat × Nat} {v : Value} (h : w.heap[b]? = some (.cells cs e f)) (hv : cs[i]? = some v) : w.setCell ⟨b, i, none⟩ v = w := by
  have : (w.heap.modify b fun | .cells c elem frozen => .cells (if (none : Option Nat).isSome then c else c.setIfInBounds i v) elem frozen | o => o) = w.heap := by
    apply Array.ext_getElem?
    intro k
    rw [Array.getElem?_modify]
    split
    · rename_i q
      subst q
      rw [h]
      obtain ⟨hi, hv'⟩ := Array.getElem?_eq_some_iff.1 hv
      have : cs.setIfInBounds i v = cs := by
        rw [Array.setIfInBounds, dif_pos hi, ← hv']
        exact Array.set_getElem_self hi
      simp [this]
    · rfl
  show { w with heap := _ } = w
  cases w
  exact congrArg (fun x => World.mk x _ _ _ _) this
end Go.Proofs.YtdmoohiepnbdaaaGreat
namespace Go.Proofs.YtdmoohiepnbdaaaGreat
open Go.RowKit
set_option linter.unusedVariables false
set_option linter.unusedSimpArgs false
theorem keep {w V : World} {b i : Nat} {v : Value} (h : w.cell? ⟨b, i, none⟩ = some v) (hb : Below w.heap.size w V) : V.cell? ⟨b, i, none⟩ = some v := by
  have hl : b < w.heap.size := by
    unfold World.cell? at h
    cases hg : w.heap[b]? with
    | none => rw [hg] at h; cases h
    | some _ => exact lt_of_block hg
  exact (World.cell?_of_block (w := w) (hb.block _ hl)).trans h
structure Slt where
  is : Bool
  pg : Int
  env : Option Nat
namespace Ex
def slotC (s : Slt) : List Value := [.bool s.is, .int .i64 s.pg, .pointer (s.env.map fun b => ⟨b, 0, none⟩)]
def cells (kb : Nat) (S : Nat → Slt) (tv : Value) : Array Value := (.pointer (some ⟨kb, 0, none⟩) :: (((List.range 9).flatMap fun i => slotC (S i)) ++ [tv])).toArray
theorem cells_at (kb : Nat) (S : Nat → Slt) (tv : Value) (i j : Nat) (hi : i < 9) (hj : j < 3) : (cells kb S tv)[1 + i * 3 + j]? = (slotC (S i))[j]? := by
  have h1 : i = 0 ∨ i = 1 ∨ i = 2 ∨ i = 3 ∨ i = 4 ∨ i = 5 ∨ i = 6 ∨ i = 7 ∨ i = 8 := by omega
  have h2 : j = 0 ∨ j = 1 ∨ j = 2 := by omega
  rcases h1 with rfl | rfl | rfl | rfl | rfl | rfl | rfl | rfl | rfl <;> rcases h2 with rfl | rfl | rfl <;> rfl
def upd (S : Nat → Slt) (i : Nat) (s : Slt) : Nat → Slt := fun k => if k = i then s else S k
theorem cells_set (kb : Nat) (S : Nat → Slt) (tv : Value) (i : Nat) (s : Slt) (hi : i < 9) :
    (((cells kb S tv).setIfInBounds (1 + i * 3) (.bool s.is)).setIfInBounds (1 + i * 3 + 1) (.int .i64 s.pg)).setIfInBounds (1 + i * 3 + 2) (.pointer (s.env.map fun b => ⟨b, 0, none⟩)) = cells kb (upd S i s) tv := by
  have h1 : i = 0 ∨ i = 1 ∨ i = 2 ∨ i = 3 ∨ i = 4 ∨ i = 5 ∨ i = 6 ∨ i = 7 ∨ i = 8 := by omega
  rcases h1 with rfl | rfl | rfl | rfl | rfl | rfl | rfl | rfl | rfl <;> rfl
theorem cells_env (kb : Nat) (S : Nat → Slt) (tv : Value) (i : Nat) (b : Nat) (hi : i < 9) :
    (cells kb S tv).setIfInBounds (1 + i * 3 + 2) (.pointer (some ⟨b, 0, none⟩)) = cells kb (upd S i { S i with env := some b }) tv := by
  have h1 : i = 0 ∨ i = 1 ∨ i = 2 ∨ i = 3 ∨ i = 4 ∨ i = 5 ∨ i = 6 ∨ i = 7 ∨ i = 8 := by omega
  rcases h1 with rfl | rfl | rfl | rfl | rfl | rfl | rfl | rfl | rfl <;> rfl
end Ex
structure Ex (w : World) (xb kb : Nat) (S : Nat → Slt) (tv : Value) : Prop where
  blk : w.heap[xb]? = some (.cells (Ex.cells kb S tv) 190 (0, 0))
namespace Ex
variable {w w' : World} {xb kb : Nat} {S : Nat → Slt} {tv : Value}
theorem mod {F : Nat → Prop} (h : Ex w xb kb S tv) (hm : Mod F w w') (hF : ¬ F xb) : Ex w' xb kb S tv := ⟨(hm.block _ (lt_of_block h.blk) hF).trans h.blk⟩
theorem below (h : Ex w xb kb S tv) (hb : Below w.heap.size w w') : Ex w' xb kb S tv := ⟨(hb.block _ (lt_of_block h.blk)).trans h.blk⟩
theorem at' (h : Ex w xb kb S tv) (i : Nat) (hi : i < 9) : w.cell? ⟨xb, 1 + i * 3, none⟩ = some (.bool (S i).is) ∧ w.cell? ⟨xb, 1 + i * 3 + 1, none⟩ = some (.int .i64 (S i).pg) ∧ w.cell? ⟨xb, 1 + i * 3 + 2, none⟩ = some (.pointer ((S i).env.map fun b => ⟨b, 0, none⟩)) ∧ ∀ j, w.frozen? ⟨xb, j, none⟩ = false := by
  refine ⟨?_, ?_, ?_, fun j => ?_⟩
  · unfold World.cell?; rw [h.blk]; exact cells_at kb S tv i 0 hi (by decide)
  · unfold World.cell?; rw [h.blk]; exact cells_at kb S tv i 1 hi (by decide)
  · unfold World.cell?; rw [h.blk]; exact cells_at kb S tv i 2 hi (by decide)
  · unfold World.frozen?; rw [h.blk]; simp
theorem ker (h : Ex w xb kb S tv) : w.cell? ⟨xb, 0, none⟩ = some (.pointer (some ⟨kb, 0, none⟩)) := by unfold World.cell?; rw [h.blk]; rfl
theorem has (h : Ex w xb kb S tv) (n : Nat) (n1 : 1 ≤ n) (n8 : n ≤ 8) : Calls Tryz.prog 111 #[.pointer (some ⟨xb, 0, none⟩), .int .i64 n] w fun e w' => e = .returned (.bool (S n).is) ∧ w = w' := by
  obtain ⟨c0, c1, c2, cf⟩ := h.at' n (by omega)
  have h1 : (1 : Int) ≤ n := by omega
  have h2 : (n : Int) < 9 := by omega
  clear h cf
  go_enter Tryz.func111, Tryz.ntmps111
  go_wp2
  go_ret
  exact ⟨rfl, rfl⟩
theorem of (h : Ex w xb kb S tv) (n : Nat) (n1 : 1 ≤ n) (n8 : n ≤ 8) (hs : (S n).is = true) : Calls Tryz.prog 101 #[.pointer (some ⟨xb, 0, none⟩), .int .i64 n] w fun e w' => e = .returned (.pointer ((S n).env.map fun b => ⟨b, 0, none⟩)) ∧ w = w' := by
  obtain ⟨c0, c1, c2, cf⟩ := h.at' n (by omega)
  have HH := Lib.hid (h.has n n1 n8)
  rw [hs] at HH
  have h1 : (1 : Int) ≤ n := by omega
  have h2 : (n : Int) < 9 := by omega
  clear h cf hs
  go_enter Tryz.func101, Tryz.ntmps101
  go_wp2_with fail
  refine HH.out.mono ?_
  rintro e w1 ⟨rfl, rfl⟩
  go_wp2
  go_ret
  exact ⟨rfl, rfl⟩
theorem state_one {S' : World} {b : Nat} {x y z : Value} (h : S'.heap[b]? = some (.cells #[x, y, z] 95 (0, 0))) : S'.cell? ⟨b, 0, none⟩ = some x ∧ S'.cell? ⟨b, 1, none⟩ = some y ∧ S'.cell? ⟨b, 2, none⟩ = some z ∧ ∀ j, S'.frozen? ⟨b, j, none⟩ = false := by
  refine ⟨?_, ?_, ?_, fun j => ?_⟩
  · unfold World.cell?; rw [h]; rfl
  · unfold World.cell?; rw [h]; rfl
  · unfold World.cell?; rw [h]; rfl
  · unfold World.frozen?; rw [h]; simp
def StateP (w : World) (E : En) (e : Ending) (w' : World) : Prop := e = .returned (.agg #[.int .u8 E.kind, .int .u32 E.code, .int .i64 E.why]) ∧ Below w.heap.size w w'
theorem state {a : EAt} {E : En} (h : Ex w xb kb S tv) (n : Nat) (n1 : 1 ≤ n) (n8 : n ≤ 8) (hs : (S n).is = true) (hv : (S n).env = some a.eb) (he : Env w a E) : Calls Tryz.prog 37 #[.pointer (some ⟨xb, 0, none⟩), .int .i64 n] w (StateP w E) := by
  have HFin := Lib.hid fun V (hb : Below w.heap.size w V) => (show StateP w E (.returned (.agg #[.int .u8 E.kind, .int .u32 E.code, .int .i64 E.why])) V from ⟨rfl, hb⟩)
  generalize StateP w E = PQ at *
  have hA := (Below.refl w.heap.size w).alloc (Nat.le_refl _) (.cells #[.int .u8 0, .int .u32 0, .int .i64 0] 95)
  have hx := h.below hA
  obtain ⟨c0, c1, c2, cf⟩ := hx.at' n (by omega)
  rw [hv] at c2
  have HH := Lib.hid (hx.has n n1 n8)
  rw [hs] at HH
  have HS := Lib.hid (Ev.state (he.below hA))
  have HA := Lib.hid hA
  have HK := Lib.hid (heap_alloc_new w (.cells #[.int .u8 0, .int .u32 0, .int .i64 0] 95))
  have h1 : (1 : Int) ≤ n := by omega
  have h2 : (n : Int) < 9 := by omega
  clear h he hs hv hx hA cf
  go_enter Tryz.func37, Tryz.ntmps37
  go_wp2_with fail
  generalize w.alloc (.cells #[.int .u8 0, .int .u32 0, .int .i64 0] 95) = w0 at *
  refine HH.out.mono ?_
  rintro e w1 ⟨rfl, rfl⟩
  go_wp2_with fail
  refine HS.out.mono ?_
  rintro e w2 ⟨rfl, hb⟩
  obtain ⟨k0, k1, k2, kf⟩ := state_one ((hb.block _ (lt_of_block HK.out)).trans HK.out)
  have HB2 := Lib.hid (below_th HA.out hb)
  clear hb c0 c1 c2
  go_wp2
  refine bodyPost_ret (v := .agg #[.int .u8 E.kind, .int .u32 E.code, .int .i64 E.why]) (by simp [results, Tryz.results37, go_sem, *]) rfl ?_
  exact HFin.out _ (((HB2.out.setCell (Nat.le_refl _) _).setCell (Nat.le_refl _) _).setCell (Nat.le_refl _) _)
def runRel (w : World) (a : EAt) (E : En) (m k : Nat) (vs : Value) (wr : World) : Prop := ∃ (i : Nat) (E' : En), i ≤ k ∧ vs = .int .i64 i ∧ Env wr a E' ∧ Lp.Goes E' m ∧ E'.A = E.A ∧ E'.num = E.num ∧ Mod (a.foot E.A) w wr
def RunP (w : World) (a : EAt) (E : En) (m k : Nat) (e : Ending) (w' : World) : Prop := ∃ E' : En, e = .returned (.tuple #[.int .i64 k, .int .i64 0]) ∧ Env w' a E' ∧ Lp.Goes E' m ∧ E'.A = E.A ∧ E'.num = E.num ∧ Mod (a.foot E.A) w w'
theorem num_step (E : En) : E.step.num = E.num := by
  unfold En.step
  split
  · rfl
  · dsimp only
    split <;> rfl
theorem kind_field (c y : Int) (w : World) : (Instr.field 95 (.agg #[.int .u8 2, .int .u32 c, .int .i64 y]) 0).run Tryz.prog w = .ok (.int .u8 2) w := by kernel_rfl
set_option maxRecDepth 100000 in
set_option maxHeartbeats 2000000 in
theorem run {a : EAt} {E : En} {m : Nat} (h : Ex w xb kb S tv) (n : Nat) (n1 : 1 ≤ n) (n8 : n ≤ 8) (hs : (S n).is = true) (hv : (S n).env = some a.eb) (he : Env w a E) (hg : Lp.Goes E m) (m8 : m ≤ 8) (hxf : ¬ a.foot E.A xb) (k : Nat) (k1 : k ≤ 65536) :
    Calls Tryz.prog 26 #[.pointer (some ⟨xb, 0, none⟩), .int .i64 n, .int .i64 k] w (RunP w a E m k) := by
  have HFin := Lib.hid fun V (E' : En) (h1 : Env V a E') (h2 : Lp.Goes E' m) (h3 : E'.A = E.A) (h4 : E'.num = E.num) (h5 : Mod (a.foot E.A) w V) => (show RunP w a E m k (.returned (.tuple #[.int .i64 k, .int .i64 0])) V from ⟨E', rfl, h1, h2, h3, h4, h5⟩)
  have HR0 : Hid (runRel w a E m k (.int .i64 0) w) := Lib.hid ⟨0, E, by omega, rfl, he, hg, rfl, rfl, Mod.refl _ _⟩
  generalize RunP w a E m k = PQ at *
  have HO := Lib.hid (h.of n n1 n8 hs)
  rw [hv] at HO
  have HKf := Lib.hid kind_field
  clear h hs hv he hg
  have hk : ¬ (65536 : Int) < k := by omega
  go_enter Tryz.func26, Tryz.ntmps26
  go_wp2_with fail
  refine HO.out.mono ?_
  rintro e w1 ⟨rfl, rfl⟩
  go_wp2
  go_loopw [6] (fun vs wr => runRel w a E m k vs wr) (fun vs _ => k - (intOf vs).toNat)
  case atStart => exact HR0.out
  case round =>
    clear HR0 HO
    obtain ⟨i, E', hi, rfl, hen, hgo, hA, hnum, hmo⟩ := hrel
    have HEn := Lib.hid hen
    have HGo := Lib.hid hgo
    have HA := Lib.hid hA
    have HNum := Lib.hid hnum
    have HMo := Lib.hid hmo
    clear hen hgo hA hnum hmo
    by_cases hik : i < k
    · have hik' : (i : Int) < k := by omega
      have HSt := Lib.hid (Ev.state HEn.out)
      rw [HGo.out.kind] at HSt
      have hkf := HKf.out E'.code E'.why
      go_wp2_with fail
      refine HSt.out.mono ?_
      rintro e w2 ⟨rfl, hb⟩
      have HE2 := Lib.hid (HEn.out.below hb)
      have HB2 := Lib.hid (Mod.of_below hb (a.foot E.A))
      clear hb HSt
      have HStep := Lib.hid (Ev.step HE2.out)
      obtain ⟨hs1, hs2, hs3⟩ := Lp.step HGo.out m8
      have hred : E'.redE = 0 := if_neg fun q => q HGo.out.kind
      rw [hs1, hred] at HStep
      have HS2 := Lib.hid hs2
      have HS3 := Lib.hid hs3
      clear hs1 hs2 hs3 hred
      go_wp2_with fail
      refine HStep.out.mono ?_
      rintro e w3 ⟨rfl, hst⟩
      have HE3 := Lib.hid hst
      clear hst HStep
      go_wp2
      have hAl := (Below.refl w3.heap.size w3).alloc (Nat.le_refl _) (.cells #[.int .u8 0, .int .u32 0, .int .i64 0] 193)
      refine ⟨⟨i + 1, E'.step, by omega, by go_num, HE3.out.env.below hAl, HS2.out, HS3.out.trans HA.out, (num_step E').trans HNum.out, ?_⟩, by simp [intOf]; omega⟩
      refine ((HMo.out.trans HB2.out fun _ _ g => .inl g).trans HE3.out.mod fun _ _ g => .inl ?_).trans (Mod.of_below hAl fun _ => False) fun _ _ g => g.elim
      rw [HA.out] at g
      exact g
    · obtain rfl : i = k := by omega
      have hik' : ¬ ((i : Int) < i) := by omega
      go_wp2
      exact HFin.out _ E' HEn.out HGo.out HA.out HNum.out HMo.out
end Ex
end Go.Proofs.YtdmoohiepnbdaaaGreat
namespace Go.Proofs.YtdmoohiepnbdaaaGreat
open Go.RowKit Word
set_option linter.unusedVariables false
set_option linter.unusedSimpArgs false
namespace Ev
section
variable {w : World} {a : EAt} {E : En}
theorem reg_bad {cb : Nat} (w : World) (n : Int) (hn : n < 0 ∨ 16 ≤ n) : Calls Tryz.prog 153 #[.pointer (some ⟨cb, 0, none⟩), .int .i64 n] w fun e w' => e = .returned (.tuple #[.int .u32 0, .int .i64 2]) ∧ w = w' := by
  cases g0 : decide (n < 0) with
  | true =>
    go_enter Tryz.func153, Tryz.ntmps153
    go_wp2
    go_ret2
    exact ⟨rfl, rfl⟩
  | false =>
    have g1 : decide ((16 : Int) ≤ n) = true := decide_eq_true (by have := of_decide_eq_false g0; omega)
    go_enter Tryz.func153, Tryz.ntmps153
    go_wp2
    go_ret2
    exact ⟨rfl, rfl⟩
theorem arg (h : Env w a E) (n : Int) (n0 : -9223372036854775808 ≤ n) (n1 : n ≤ 9223372036854775807) : Calls Tryz.prog 70 #[.pointer (some ⟨a.eb, 0, none⟩), .int .i64 n] w fun e w' => e = .returned (.int .u32 (E.arg n)) ∧ w = w' := by
  obtain ⟨_, _, c2, _⟩ := cells h
  have HR : Hid (Calls Tryz.prog 153 #[.pointer (some ⟨a.cb, 0, none⟩), .int .i64 n] w fun e w' => ∃ y, e = .returned (.tuple #[.int .u32 (E.arg n), .int .i64 y]) ∧ w = w') := by
    unfold En.arg
    by_cases g : 0 ≤ n ∧ n < 16
    · rw [if_pos g]
      obtain ⟨m, rfl⟩ := Int.eq_ofNat_of_zero_le g.1
      exact Lib.hid ((Cp.reg_ok h.cp m (by omega)).mono fun e w' ⟨g1, g2⟩ => ⟨0, g1, g2⟩)
    · rw [if_neg g]
      exact Lib.hid ((reg_bad w n (by omega)).mono fun e w' ⟨g1, g2⟩ => ⟨2, g1, g2⟩)
  generalize E.arg n = v at *
  clear h
  go_enter Tryz.func70, Tryz.ntmps70
  go_wp2_with fail
  refine HR.out.mono ?_
  rintro e w2 ⟨y, rfl, rfl⟩
  go_wp2
  go_ret
  exact ⟨rfl, rfl⟩
theorem put (h : Env w a E) (s : ByteArray) (hs : s.size ≤ 140737488355328) : Calls Tryz.prog 97 #[.pointer (some ⟨a.eb, 0, none⟩), .string s] w fun e w' => e = .returned (.int .i64 (E.putE s)) ∧ EStep w w' a E a (E.put s) := by
  have HR := Lib.hid (ready h)
  obtain ⟨_, _, _, _, _, _, _, c7⟩ := cells h
  have ht := h.ok.text
  by_cases hk : E.kind = 2
  · have e : E.redE = 0 := by unfold En.redE; rw [if_neg (by omega)]
    rw [e] at HR
    by_cases hl : 4096 < E.text.size + s.size
    · have e2 : E.putE s = 4 := by unfold En.putE; rw [if_neg (by omega), if_pos hl]
      have e3 : E.put s = E := by unfold En.put; rw [e2, if_pos (by omega)]
      have HS := Lib.hid (EStep.refl h)
      rw [e2, e3]
      have hlb : (4096 : Int) < E.text.size + s.size := by omega
      clear e e2 e3 hk h
      go_enter Tryz.func97, Tryz.ntmps97
      go_wp2_with fail
      refine HR.out.mono ?_
      rintro e w2 ⟨rfl, rfl⟩
      go_wp2
      go_ret
      exact ⟨rfl, HS.out⟩
    · have e2 : E.putE s = 0 := by unfold En.putE; rw [if_neg (by omega), if_neg hl]
      have e3 : E.put s = { E with text := E.text ++ s } := by unfold En.put; rw [e2, if_neg (by omega)]
      have HS := Lib.hid (EStep.setText h (E.text ++ s) (by rw [ByteArray.size_append]; omega))
      have f7 := h.free 7
      rw [e2, e3]
      have hlb : ¬ (4096 : Int) < E.text.size + s.size := by omega
      clear e e2 e3 hk h
      go_enter Tryz.func97, Tryz.ntmps97
      go_wp2_with fail
      refine HR.out.mono ?_
      rintro e w2 ⟨rfl, rfl⟩
      go_wp2
      go_ret
      exact ⟨rfl, HS.out⟩
  · have e : E.redE = 3 := by unfold En.redE; rw [if_pos hk]
    have e2 : E.putE s = 3 := by unfold En.putE; rw [if_pos hk]
    have e3 : E.put s = E := by unfold En.put; rw [e2, if_pos (by omega)]
    have HS := Lib.hid (EStep.refl h)
    rw [e] at HR
    rw [e2, e3]
    clear e e2 e3 hk h
    go_enter Tryz.func97, Tryz.ntmps97
    go_wp2_with fail
    refine HR.out.mono ?_
    rintro e w2 ⟨rfl, rfl⟩
    go_wp2
    go_ret
    exact ⟨rfl, HS.out⟩
end
end Ev
end Go.Proofs.YtdmoohiepnbdaaaGreat
namespace Go.Proofs.YtdmoohiepnbdaaaGreat
open Go.RowKit Word
set_option linter.unusedVariables false
set_option linter.unusedSimpArgs false
theorem isSome_addr {B : List Pg} {x : Int} : (atAddr B x).isSome = true ↔ x ∈ B.map Pg.addr := by
  rw [List.mem_map]
  constructor
  · intro g
    obtain ⟨p, hp⟩ := Option.isSome_iff_exists.1 g
    exact ⟨p, (atAddr_mem hp).1, (atAddr_mem hp).2⟩
  · rintro ⟨p, hp, rfl⟩
    cases hq : atAddr B p.addr with
    | some _ => rfl
    | none => exact absurd rfl (atAddr_none hq p hp)
theorem En.mayP_iff {x : Int} : En.mayP x = true ↔ x % 256 = 0 ∧ 256 ≤ x ∧ x < 1048576 := by
  unfold En.mayP
  simp [and_assoc]
theorem En.Ok.map {E : En} (h : E.Ok) {x : Int} (blk : Nat) (hm : Sp.mapE E.A x 3 = 0) : ∀ y, y ∈ E.own → (atAddr (Sp.mapA E.A x blk 3) y).isSome = true := fun y hy => by
  have := isSome_addr.1 (h.has y hy)
  rw [List.mem_map] at this
  obtain ⟨p, hp, hpy⟩ := this
  refine isSome_addr.2 (List.mem_map.2 ⟨p, ?_, hpy⟩)
  unfold Sp.mapA
  rw [if_pos hm]
  exact mem_insPg.2 (.inr hp)
theorem En.Ok.page {E : En} (h : E.Ok) {x : Int} (blk : Nat) (hp : En.mayP x = true) (hm : Sp.mapE E.A x 3 = 0) : x ∉ E.own ∧ ({ E with A := Sp.mapA E.A x blk 3, own := En.ins x E.own } : En).Ok := by
  have hx := En.mayP_iff.1 hp
  have hn : x ∉ E.own := fun g => by
    have hs := h.has x g
    unfold Sp.mapE at hm
    by_cases q : Sp.mayB x = false ∨ (7 : Int) < 3
    · rw [if_pos q] at hm; omega
    · rw [if_neg q] at hm
      have : pageAt E.A x = atAddr E.A x := by unfold pageAt; rw [hx.1, Int.sub_zero]
      rw [this, if_pos hs] at hm
      omega
  refine ⟨hn, En.up_ins h.up hn, fun y hy => ?_, fun y hy => ?_, h.text⟩
  · rcases En.mem_ins.1 hy with rfl | g
    · exact hx
    · exact h.may y g
  · rcases En.mem_ins.1 hy with rfl | g
    · refine isSome_addr.2 (List.mem_map.2 ⟨pgNew y blk 3, ?_, rfl⟩)
      unfold Sp.mapA
      rw [if_pos hm]
      exact mem_insPg.2 (.inl rfl)
    · exact h.map blk hm y g
end Go.Proofs.YtdmoohiepnbdaaaGreat
namespace Go.Proofs.YtdmoohiepnbdaaaGreat
open Go.RowKit Word
set_option linter.unusedVariables false
set_option linter.unusedSimpArgs false
def En.new (num pc : Int) (A : List Pg) : En := ⟨num, 2, 0, 0, ByteArray.empty, [], A, List.replicate 16 0, pc⟩
def NewPost (w : World) (A : List Pg) (num pc : Int) (e : Ending) (w' : World) : Prop :=
  ∃ a C, e = .returned (.tuple #[.pointer (some ⟨a.eb, 0, none⟩), .int .i64 0]) ∧ Env w' a (En.new num pc C) ∧ cores C = cores A ∧ (∀ k, a.foot C k → w.heap.size ≤ k) ∧ Below w.heap.size w w'
namespace Ev
section
variable {w : World} {sb mb : Nat} {A : List Pg}
set_option maxRecDepth 100000 in
set_option maxHeartbeats 4000000 in
theorem new (h : Spc w sb mb A) (num pc : Int) (n0 : 1 ≤ num) (n1 : num ≤ 8) (p0 : 0 ≤ pc) (p1 : pc ≤ 4294967295) : Calls Tryz.prog 75 #[.int .i64 num, .pointer (some ⟨sb, 0, none⟩), .int .u32 pc] w (NewPost w A num pc) := by
  have HC := Lib.hid (Sp.copy h)
  have g1 : ¬ num < 1 := by omega
  have g2 : ¬ 8 < num := by omega
  have HFin : Hid (∀ so mo C w2 w3, Spc w2 so mo C → cores C = cores A → (∀ k, Spc.foot so mo C k → w.heap.size ≤ k) → Below w.heap.size w w2 → Cpu 281 w3 w2.heap.size (List.replicate 16 0) pc → Below w2.heap.size w2 w3 →
      NewPost w A num pc (.returned (.tuple #[.pointer (some ⟨w3.heap.size, 0, none⟩), .int .i64 0])) (w3.alloc (.cells #[.pointer (some ⟨so, 0, none⟩), .slice none 0 0, .pointer (some ⟨w2.heap.size, 0, none⟩), .int .i64 num, .int .u8 2, .int .u32 0, .int .i64 0, .string ByteArray.empty] 277))) := Lib.hid fun so mo C w2 w3 hs hc hf hb hp hb3 => by
    have hz := hb.size
    have hz3 := hb3.size
    have hpl := hp.lt
    have hba : Below w3.heap.size w3 (w3.alloc (.cells #[.pointer (some ⟨so, 0, none⟩), .slice none 0 0, .pointer (some ⟨w2.heap.size, 0, none⟩), .int .i64 num, .int .u8 2, .int .u32 0, .int .i64 0, .string ByteArray.empty] 277)) := (Below.refl _ _).alloc (Nat.le_refl _) _
    refine ⟨⟨w3.heap.size, so, mo, w2.heap.size, .slice none 0 0⟩, C, rfl, ?_, hc, fun k hk => ?_, ?_⟩
    · exact { blk := heap_alloc_new w3 _, cp := hp.below hba, sp := (hs.below hb3 fun k hk => hs.lt hk).below hba fun k hk => Nat.lt_of_lt_of_le (hs.lt hk) hz3, ls := Sl.Lst.nil _, ec := by show w3.heap.size ≠ w2.heap.size; omega, es := fun g => absurd (hs.lt g) (Nat.not_lt.2 hz3), cs := fun g => Nat.lt_irrefl _ (hs.lt g), le := fun g hg => (nomatch hg), ok := ⟨List.Pairwise.nil, fun x hx => (nomatch hx), fun x hx => (nomatch hx), Nat.zero_le _⟩ }
    · rcases hk with g | g | g | g
      · rw [g]; show w.heap.size ≤ w3.heap.size; omega
      · rw [g]; exact hz
      · exact hf k g
      · cases g
    · exact (hb.trans (hb3.mono hz)).alloc (Nat.le_trans hz hz3) _
  generalize NewPost w A num pc = PQ at *
  clear h
  go_enter Tryz.func75, Tryz.ntmps75
  go_wp2_with fail
  refine HC.out.mono ?_
  rintro e w2 ⟨so, mo, C, rfl, hs, hc, hf, hb⟩
  have HS := Lib.hid (⟨hs, hc, hf, hb⟩ : Spc w2 so mo C ∧ cores C = cores A ∧ (∀ k, Spc.foot so mo C k → w.heap.size ≤ k) ∧ Below w.heap.size w w2)
  clear hs hc hf hb
  go_wp2_with fail
  refine (Cp.new pc p0 p1 w2).mono ?_
  rintro e w3 ⟨rfl, hp, hb3⟩
  have HP := Lib.hid (⟨hp, hb3⟩ : _ ∧ _)
  clear hp hb3
  go_wp2
  exact HFin.out so mo C w2 w3 HS.out.1 HS.out.2.1 HS.out.2.2.1 HS.out.2.2.2 HP.out.1 HP.out.2
end
end Ev
end Go.Proofs.YtdmoohiepnbdaaaGreat
