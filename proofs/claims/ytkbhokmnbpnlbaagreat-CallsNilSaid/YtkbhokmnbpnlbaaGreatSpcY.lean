/- The walk of space's Copy. -/
import Derived.Test.YtkbhokmnbpnlbaaGreatSpcW
import Derived.Maps.RangeWalk
import Derived.Deep.RegionHeld3
import Derived.Deep.MidRow
import Derived.Test.YtkbhokmnbpnlbaaGreatPag
namespace Go.Proofs.YtkbhokmnbpnlbaaGreat
open Go.RowKit
set_option linter.unusedVariables false
theorem fold_set (off : Nat) : ∀ (L : List Value) (k : Nat) (Z : Array Value), off + k + L.length ≤ Z.size → ((L.zipIdx k).foldl (fun (cs : Array Value) (x : Value × Nat) => cs.setIfInBounds (off + x.2) x.1) Z).size = Z.size ∧
    ∀ i, ((L.zipIdx k).foldl (fun (cs : Array Value) (x : Value × Nat) => cs.setIfInBounds (off + x.2) x.1) Z)[i]? = if off + k ≤ i ∧ i < off + k + L.length then L[i - (off + k)]? else Z[i]?
  | [], k, Z, _ => ⟨rfl, fun i => by rw [if_neg (by rw [List.length_nil]; omega)]; rfl⟩
  | x :: L, k, Z, h => by
    obtain ⟨h1, h2⟩ := fold_set off L (k + 1) (Z.setIfInBounds (off + k) x) (by simp at h ⊢; omega)
    rw [List.zipIdx_cons, List.foldl_cons]
    refine ⟨by rw [h1]; simp, fun i => ?_⟩
    rw [h2 i]
    simp only [List.length_cons] at h ⊢
    by_cases e : i = off + k
    · subst e
      rw [if_neg (by omega), if_pos (by omega), Nat.sub_self, Array.getElem?_setIfInBounds, if_pos rfl, if_pos (by omega)]
      rfl
    · by_cases g : off + k ≤ i ∧ i < off + k + (L.length + 1)
      · rw [if_pos (by omega), if_pos g, show i - (off + k) = (i - (off + (k + 1))) + 1 by omega]
        rfl
      · rw [if_neg (by omega), if_neg g, Array.getElem?_setIfInBounds, if_neg (by omega)]
theorem fold_page (Z : Array Value) (hZ : Z.size = 257) (a : Int) (bs : List Value) (hb : bs.length = 256) :
    List.foldl (fun (cs : Array Value) (x : Value × Nat) => cs.setIfInBounds (1 + x.snd) x.fst) (Z.setIfInBounds 0 (.int .u8 a)) bs.zipIdx = (Value.int .u8 a :: bs).toArray := by
  obtain ⟨g1, g2⟩ := fold_set 1 bs 0 (Z.setIfInBounds 0 (.int .u8 a)) (by simp [hZ, hb])
  apply Array.ext_getElem?
  intro i
  rw [g2 i]
  cases i with
  | zero => simp [hZ]
  | succ i =>
    by_cases g : 1 + 0 ≤ i + 1 ∧ i + 1 < 1 + 0 + bs.length
    · rw [if_pos g]; simp
    · rw [if_neg g]
      rw [Array.getElem?_eq_none (by simp; omega), Array.getElem?_eq_none (by simp; omega)]
theorem zeroPageSize : Tryz.zeroCells228.size = 257 := by kernel_rfl
def Pg.core (p : Pg) : Int × Int × List Int := (p.addr, p.perm, p.bytes)
def cores (A : List Pg) : List (Int × Int × List Int) := A.map Pg.core
/-- A page comes in, whichever. -/
theorem Spc.insertPg {w : World} {sb mb : Nat} {A : List Pg} (h : Spc w sb mb A) (p : Pg) (hp : p.ok) (hn : atAddr A p.addr = none) (hblk : w.heap[p.blk]? = some (.cells p.cells 228 (0, 0))) (hfresh : ¬ Spc.foot sb mb A p.blk) :
    ∃ w', (Instr.mapUpdate 229 (.map (some mb)) (.int .u32 p.addr) (.pointer (some ⟨p.blk, 0, none⟩))).run Tryz.prog w = .ok () w' ∧ Spc w' sb mb (insPg p A) ∧ w.grownBy w' (some mb) := by
  obtain ⟨D, n, ho, hv, hs⟩ := h.map
  have ht := own_tight ho
  have hl := h.len
  have K := Maps.int_keyed (P := Tryz.prog) Tryz.underlying22
  have h0 := hp.a0
  have h1 := hp.a1
  have hk := Maps.keyOf_int_mk (P := Tryz.prog) Tryz.underlying22 (wf_u32 h0 (by omega : p.addr ≤ 4294967295))
  obtain ⟨w', hrun, how, htu⟩ := ht.store K Tryz.underlying229 (by rw [hs]; unfold maxLen; omega) (val := .pointer (some ⟨p.blk, 0, none⟩)) (d := .lit (.int .i64 p.blk)) (ps := []) hk rfl
  have hg := htu.grown
  have hne : ∀ k, k < w.heap.size → k ≠ mb → w'.heap[k]? = w.heap[k]? := fun k hk hkm => hg.block k hk (by simpa using hkm)
  refine ⟨w', hrun, ⟨?_, ?_, ?_, ?_, ?_, ?_⟩, hg⟩
  · exact (hne sb (h.lt (.inl rfl)) h.ne_hm).trans h.head
  · refine ⟨_, _, how, fun x zd => ?_, ?_⟩
    · rw [atAddr_ins h.up hn]
      by_cases e : x = p.addr
      · subst e
        rw [if_pos rfl, Maps.atKey_put_same ht.isMap (K.key hk)]
      · rw [if_neg e, Maps.atKey_put_other (by intro g; simp at g; exact e g), hv]
    · rw [Maps.size_put (ht.tidy K), length_insPg, hs]
      have : Maps.has D (.int .u32 p.addr) = false := Maps.has_false_of_atKey fun z => by rw [hv, hn]
      rw [this]
      rfl
  · intro q hq
    rcases mem_insPg.1 hq with rfl | hq'
    · exact (hne _ (lt_of_block hblk) (fun e => hfresh (.inr (.inl e)))).trans hblk
    · exact (hne q.blk (lt_of_block (h.page q hq')) (h.ne_map hq').symm).trans (h.page q hq')
  · intro q hq
    rcases mem_insPg.1 hq with rfl | hq'
    · exact hp
    · exact h.ok q hq'
  · exact up_insPg h.up (atAddr_none hn)
  · exact pw_insPg h.blks fun q hq e => hfresh (.inr (.inr ⟨q, hq, e.symm⟩))
theorem cores_eq {A : List Pg} (h : A.Pairwise fun p q => p.addr < q.addr) : cores A = (A.map (·.addr)).map fun a => ((atAddr A a).map Pg.core).getD (0, 0, []) := by
  unfold cores
  rw [List.map_map]
  refine List.map_congr_left fun p hp => ?_
  show Pg.core p = ((atAddr A p.addr).map Pg.core).getD _
  rw [atAddr_eq_some h hp]
  rfl
theorem rising_unique : ∀ {l l' : List Int}, l.Pairwise (fun x y => x < y) → l'.Pairwise (fun x y => x < y) → (∀ x, x ∈ l ↔ x ∈ l') → l = l' := by
  intro l l' h1 h2 h
  refine List.Perm.eq_of_pairwise (le := fun a b => a < b) (fun a b _ _ g1 g2 => absurd g1 (by omega)) h1 h2 ((List.perm_ext_iff_of_nodup (h1.imp fun g => by omega) (h2.imp fun g => by omega)).2 h)
/-- What stands at each address tells all. -/
theorem cores_ext {A C : List Pg} (hA : A.Pairwise fun p q => p.addr < q.addr) (hC : C.Pairwise fun p q => p.addr < q.addr) (h : ∀ x, (atAddr C x).map Pg.core = (atAddr A x).map Pg.core) : cores C = cores A := by
  have hm : ∀ (B : List Pg) x, x ∈ B.map (·.addr) ↔ (atAddr B x).isSome = true := by
    intro B x
    constructor
    · intro g
      cases hx : atAddr B x with
      | some p => rfl
      | none =>
        obtain ⟨p, hp, e⟩ := List.mem_map.1 g
        exact absurd e (atAddr_none hx p hp)
    · intro g
      obtain ⟨p, hp⟩ := Option.isSome_iff_exists.1 g
      exact List.mem_map.2 ⟨p, (atAddr_mem hp).1, (atAddr_mem hp).2⟩
  have hadd : C.map (·.addr) = A.map (·.addr) := by
    refine rising_unique (List.pairwise_map.2 hC) (List.pairwise_map.2 hA) fun x => ?_
    rw [hm, hm]
    have := congrArg Option.isSome (h x)
    simpa using Iff.of_eq (congrArg (· = true) this)
  rw [cores_eq hA, cores_eq hC, hadd]
  exact List.map_congr_left fun a _ => by rw [h]
namespace Sp
/-- So far: what is no longer to come stands in the copy. -/
def cpRel (w : World) (sb mb : Nat) (A : List Pg) (D : DataW Unit) (n sb' mb' r : Nat) (wr : World) : Prop :=
  ∃ (left : Lit → Bool) (cnt : Nat) (C : List Pg), wr.ranges Tryz.prog 22 ptrElem mb r n D left cnt ∧ Spc wr sb mb A ∧ Spc wr sb' mb' C ∧ (∀ k, Spc.foot sb' mb' C k → w.heap.size ≤ k) ∧ r ≠ sb' ∧ r ≠ mb' ∧ (∀ p, p ∈ C → p.blk ≠ r) ∧ w.heap.size ≤ r ∧ Below w.heap.size w wr ∧
    ∀ x, (atAddr C x).map Pg.core = if left (.int .u32 x) then none else (atAddr A x).map Pg.core
def CopyPost (w : World) (A : List Pg) (e : Ending) (w' : World) : Prop :=
  ∃ (sb' mb' : Nat) (C : List Pg), e = .returned (.pointer (some ⟨sb', 0, none⟩)) ∧ Spc w' sb' mb' C ∧ cores C = cores A ∧ (∀ k, Spc.foot sb' mb' C k → w.heap.size ≤ k) ∧ Below w.heap.size w w'
set_option maxRecDepth 100000 in
set_option maxHeartbeats 4000000 in
theorem copy {w : World} {sb mb : Nat} {A : List Pg} (h : Spc w sb mb A) : Calls Tryz.prog 67 #[.pointer (some ⟨sb, 0, none⟩)] w (CopyPost w A) := by
  have K := Maps.int_keyed (P := Tryz.prog) Tryz.underlying22
  obtain ⟨D, n, ho, hv, hs⟩ := h.map
  have Hv := Lib.hid hv
  have H := Lib.hid h
  have hfl : ∀ k, Spc.foot sb mb A k → k < w.heap.size := fun k hk => h.lt hk
  have Hfl := Lib.hid hfl
  have Ho := Lib.hid ho
  clear h hv hs hfl ho
  go_enter Tryz.func67, Tryz.ntmps67
  go_wp2_with fail
  refine (new _).mono ?_
  rintro e w1 ⟨rfl, h1, hb1, hz1⟩
  have hs1 := H.out.below hb1 Hfl.out
  have hc := hs1.cellHead
  have ho1 : w1.ownsMap Tryz.prog 22 ptrElem mb n D := own_of_block Ho.out (hb1.block mb (Hfl.out mb (.inr (.inl rfl))))
  have Ho1 := Lib.hid ho1
  have H1 := Lib.hid h1
  have Hs1 := Lib.hid hs1
  have Hb1 := Lib.hid hb1
  have Hz1 := Lib.hid hz1
  clear hs1 h1 hb1 ho1 hz1
  obtain ⟨sb', hsb'⟩ : ∃ s, w.heap.size + 1 = s := ⟨_, rfl⟩
  obtain ⟨mb', hmb'⟩ : ∃ s, w.heap.size = s := ⟨_, rfl⟩
  have Hsb := Lib.hid hsb'
  have Hmb := Lib.hid hmb'
  rw [hsb'] at H1 ⊢
  rw [hmb'] at H1
  clear hsb' hmb'
  go_wp2_with (at_range; refine wpList_range_own _ rfl _ 229 rfl 22 223 K Tryz.underlying229 ptrElem mb n D rfl Ho1.out ?_; intro w2 hrg hg2 hz2)
  obtain ⟨r, hr⟩ : ∃ r, w1.heap.size = r := ⟨_, rfl⟩
  rw [hr] at hrg ⊢
  have Hr := Lib.hid hr
  have h2 : cpRel w sb mb A D n sb' mb' r w2 := by
    have hz := Hz1.out
    have e1 := Hsb.out
    have e2 := Hmb.out
    have hb2 : Below w.heap.size w w2 := Hb1.out.grown hg2 Hb1.out.size (fun k e => by cases e)
    refine ⟨_, _, [], hrg, H.out.below hb2 Hfl.out, H1.out.frame fun k hk => hg2.block k ?_ (by simp), fun k hk => ?_, by omega, by omega, fun p hp => by simp at hp, by omega, hb2, fun x => ?_⟩
    · exact H1.out.lt hk
    · rcases hk with rfl | rfl | ⟨p, hp, _⟩
      · omega
      · omega
      · simp at hp
    · have : Maps.has D (.int .u32 x) = (atAddr A x).isSome := by
        cases hx : atAddr A x with
        | some p => exact Maps.has_true_of_atKey (y := .lit (.int .i64 p.blk)) fun zd => by rw [Hv.out, hx]
        | none => exact Maps.has_false_of_atKey fun z => by rw [Hv.out, hx]
      rw [this]
      cases atAddr A x <;> rfl
  have H2 := Lib.hid h2
  clear hr hrg hg2 hz2 h2 hc
  go_frame
  go_loopw [4, 5] (fun _ _ wr => cpRel w sb mb A D n sb' mb' r wr) (fun _ _ wr => wr.rangeLeft mb r)
  case atStart => exact H2.out
  case round =>
    clear H2 Hs1 H1 Ho1 Hb1 Hz1 Ho Hr
    clear w2 w1
    obtain ⟨left, cnt, C, hrg, hsA, hsC, hft, hr1, hr2, hr4, hr3, hbw, hat⟩ := hrel
    have Hrg := Lib.hid hrg
    have HA := Lib.hid hsA
    have HC := Lib.hid hsC
    have Hft := Lib.hid hft
    have Hr3 := Lib.hid hr3
    have Hbw := Lib.hid hbw
    have Hat := Lib.hid hat
    clear hrg hsA hsC hft hr3 hbw hat
    go_wp2_with (at_next; refine wpList_next_ranges _ rfl _ rfl 22 K ptrElem (Value.int .u32) id (fun key kl hk => by obtain ⟨x, hx, _⟩ := Maps.keyOf_int_inv Tryz.underlying22 hk; exact ⟨x, hx⟩) (fun v _ _ => ⟨v, rfl⟩) mb r n D left cnt rfl Hrg.out ?_ ?_)
    · intro hc0 hl0
      go_wp2
      go_ret
      exact ⟨sb', mb', C, rfl, HC.out, cores_ext H.out.up HC.out.up fun x => by rw [Hat.out, hl0]; rfl, Hft.out, Hbw.out⟩
    · intro x c kl y1 y2 w3 cnt2 hkey hlk hR hat3 hrg3 hlt hg3 hs3 hen
      obtain ⟨x', ex, rfl, hwx⟩ := Pag.keyOf_u32 Tryz.underlying22 hkey
      obtain rfl : x = x' := by simpa [Pag.encU] using ex
      obtain ⟨p, hp, hy⟩ : ∃ p, atAddr A x = some p ∧ y1 = .lit (.int .i64 p.blk) := by
        cases hx : atAddr A x with
        | some p => exact ⟨p, rfl, by rw [← hat3 y1, Hv.out, hx]⟩
        | none =>
          have g1 := hat3 (.lit (.int .i64 0))
          have g2 := hat3 (.lit (.int .i64 1))
          rw [Hv.out, hx] at g1 g2
          rw [← g1] at g2
          simp at g2
      subst hy
      obtain rfl : c = .pointer (some ⟨p.blk, 0, none⟩) := by
        rcases ptrElem_inv hR with ⟨_, hb⟩ | ⟨b, e, hb⟩
        · omega
        · have : b = p.blk := by omega
          subst this
          exact e
      have hpm := atAddr_mem hp
      obtain ⟨hpm, rfl⟩ := hpm
      have hw3b : Below w.heap.size w w3 := Hbw.out.grown hg3 Hbw.out.size (fun k e => by cases e; exact Hr3.out)
      have hA3 : Spc w3 sb mb A := H.out.below hw3b Hfl.out
      have hC3 : Spc w3 sb' mb' C := HC.out.frame fun k hk => hg3.block k (HC.out.lt hk) (by
        rintro e
        cases e
        rcases hk with g | g | ⟨q, hq, g⟩
        · exact hr1 g
        · exact hr2 g
        · exact hr4 q hq g.symm)
      have hcn : atAddr C p.addr = none := by
        have := Hat.out p.addr
        rw [if_pos hlk] at this
        simpa using this
      have hpo := hA3.ok p hpm
      have hpg := hA3.page p hpm
      -- the new page
      obtain ⟨q, hq⟩ : ∃ q : Pg, q = { p with blk := w3.heap.size } := ⟨_, rfl⟩
      have hq1 : q.addr = p.addr := by rw [hq]
      have hq2 : q.blk = w3.heap.size := by rw [hq]
      have hqc : q.cells = p.cells := by rw [hq]; rfl
      have hqo : q.ok := by rw [hq]; exact ⟨hpo.a0, hpo.a1, hpo.a2, hpo.p0, hpo.p1, hpo.len, hpo.bd⟩
      have hC4 : Spc (w3.alloc (.cells q.cells 228)).drew sb' mb' C := hC3.frame fun k hk => by
        have := hC3.lt hk
        exact Below.heap_alloc _ _ _ this
      have hbq : (w3.alloc (.cells q.cells 228)).drew.heap[q.blk]? = some (.cells q.cells 228 (0, 0)) := by rw [hq2]; exact heap_alloc_new w3 _
      obtain ⟨w5, hrun, hC5, hg5⟩ := hC4.insertPg q hqo (by rw [hq1]; exact hcn) hbq (fun g => by have := hC3.lt g; omega)
      rw [hq1, hq2, hqc] at hrun
      rw [show p.cells = _ from (fold_page _ zeroPageSize p.perm (p.bytes.map (Value.int .u8)) (by rw [List.length_map, hpo.len])).symm] at hrun
      have hch := hC3.cellHead
      have hcp := hA3.cellPerm hpm
      have hra : w3.rangeAt p.blk 1 (p.bytes.map (Value.int .u8)) := fun j v hj => by
        have hj' : j < 256 := by have g1 := (List.getElem?_eq_some_iff.1 hj).1; have g2 := hpo.len; rw [List.length_map] at g1; omega
        rw [hA3.cellByte hpm j hj', ← hj]
        have hl := hpo.len
        simp [List.getD, List.getElem?_eq_getElem (show j < p.bytes.length by omega)]
      have hund := Tryz.underlying226
      have hplen := hpo.len
      have hinf : (Tryz.prog.info? 226).map (·.size) = some (p.bytes.map (Value.int .u8)).length := by rw [List.length_map, hpo.len]; kernel_rfl
      have hmbl := Hfl.out mb (.inr (.inl rfl))
      have hmb2 := Hft.out mb' (.inr (.inl rfl))
      have hrl := hrg3.lt
      have hg4 : w3.grownBy (w3.alloc (.cells q.cells 228)).drew none := by
        have g := World.grownBy_alloc w3 (.cells q.cells 228) none
        exact ⟨g.os, g.tape, g.output, g.size, g.block⟩
      have hrg5 : w5.ranges Tryz.prog 22 ptrElem mb r n D (fun z => left z && !z.sameKey (.int .u32 p.addr)) cnt2 :=
        (hrg3.kept hg4 (by simp) (by simp)).kept hg5 (by intro e; cases e; omega) (by intro e; cases e; exact hr2 rfl)
      have hw5b : Below w.heap.size w w5 := (hw3b.grown hg4 hw3b.size (fun k e => by cases e)).grown hg5 (by have := hw3b.size; simp; omega) (fun k e => by cases e; exact hmb2)
      have hA5 : Spc w5 sb mb A := H.out.below hw5b Hfl.out
      have hch5 := hC5.cellHead
      have hcp5 := hA5.cellPerm hpm
      have hra5 : w5.rangeAt p.blk 1 (p.bytes.map (Value.int .u8)) := fun j v hj => by
        have hj' : j < 256 := by have g1 := (List.getElem?_eq_some_iff.1 hj).1; have g2 := hpo.len; rw [List.length_map] at g1; omega
        rw [hA5.cellByte hpm j hj', ← hj]
        have hl := hpo.len
        simp [List.getD, List.getElem?_eq_getElem (show j < p.bytes.length by omega)]
      have fin : cpRel w sb mb A D n sb' mb' r w5 := by
        refine ⟨_, cnt2, insPg q C, hrg5, hA5, hC5, fun k hk => ?_, hr1, hr2, fun g hg => ?_, Hr3.out, hw5b, fun x => ?_⟩
        · rcases foot_insPg.1 hk with g | g
          · rw [g, hq2]; exact hw3b.size
          · exact Hft.out k g
        · rcases mem_insPg.1 hg with rfl | g2
          · rw [hq2]; omega
          · exact hr4 g g2
        · rw [atAddr_ins hC3.up (by rw [hq1]; exact hcn), hq1]
          by_cases e : x = p.addr
          · subst e
            rw [if_pos rfl, hp]
            simp [Lit.sameKey, hq, Pg.core]
          · rw [if_neg e, Hat.out x]
            simp [Lit.sameKey, e]
      have Fin := Lib.hid fin
      have Hrg5 := Lib.hid hrg5
      have Hlt := Lib.hid hlt
      have Hrgl := Lib.hid Hrg.out.left_eq
      have hsl := Lib.hid (hC3.lt (.inl rfl))
      have hpl := Lib.hid (hA3.lt (.inr (.inr ⟨p, hpm, rfl⟩)))
      clear hmbl hmb2 hrl hg4 hw5b hA5
      clear fin hrg5 hlt hrg3 hg3 hs3 hA3 hC3 hcn hpo hpg hq hqo hC4 hbq hC5 hg5 hw3b hat3 hp hwx ex hR hlk hkey hpm Hat hqc hq1 hq2 hr1 hr2 hr4
      go_wp2
      go_region_held3 (fun w' => w'.cell? ⟨sb', 0, none⟩ = some (.map (some mb')) ∧ w'.cell? ⟨p.blk, 0, none⟩ = some (.int .u8 p.perm) ∧ w'.rangeAt p.blk 1 (p.bytes.map (Value.int .u8)))
        (first
          | exact ⟨hch, hcp, hra⟩
          | exact ⟨hch5, hcp5, hra5⟩
          | exact ⟨(World.cell?_of_block (w := w3) (Below.heap_alloc _ _ _ hsl.out)).trans hch, (World.cell?_of_block (w := w3) (Below.heap_alloc _ _ _ hpl.out)).trans hcp, World.rangeAt_alloc hra _⟩)
        (first | fail)
      all_goals
        go_wp2
        exact ⟨Fin.out, by rw [Hrg5.out.left_eq, Hrgl.out]; exact Hlt.out⟩
end Sp
end Go.Proofs.YtkbhokmnbpnlbaaGreat
