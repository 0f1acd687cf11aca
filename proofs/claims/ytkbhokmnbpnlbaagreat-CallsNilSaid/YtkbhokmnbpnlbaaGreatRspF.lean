/- The walk of the document's space's Copy. -/
import Derived.Test.YtkbhokmnbpnlbaaGreatRspE
import Derived.Test.YtkbhokmnbpnlbaaGreatSpcY
import Derived.Test.YtkbhokmnbpnlbaaGreatReg
namespace Go.Proofs.YtkbhokmnbpnlbaaGreat
open Go.RowKit
set_option linter.unusedVariables false
def rcores (R : List Rp) : List (Int × Int × List Int) := cores (rpgs R)
theorem rcores_snoc (l : List Rp) (q : Rp) : rcores (l ++ [q]) = rcores l ++ [q.pg.core] := by
  unfold rcores cores rpgs
  rw [List.map_append, List.map_append]; rfl
/-- What a copied page is: its struct's block and its bytes' block are new. -/
theorem up_of_cores {A B : List Pg} (h : cores A = cores B) (hB : B.Pairwise fun p q => p.addr < q.addr) : A.Pairwise fun p q => p.addr < q.addr := by
  have e : A.map (·.addr) = B.map (·.addr) := by
    have := congrArg (List.map Prod.fst) h
    unfold cores at this
    rw [List.map_map, List.map_map] at this
    exact this
  have h1 : (B.map (·.addr)).Pairwise (· < ·) := by rw [List.pairwise_map]; exact hB
  rw [← e, List.pairwise_map] at h1
  exact h1
namespace Rs
theorem cell_at1 (W : World) (a : Obj) (x : Value) (t : TypeId) : ∀ j u, [x][j]? = some u → ((W.alloc a).alloc (.cells #[x] t)).cell? ((⟨W.heap.size + 1, 0, none⟩ : Addr).add j) = some u := by
  have := cell_one_new (W.alloc a) x t
  simpa using this
def ccRel (w : World) (R : List Rp) (cb : Nat) (vi : Value) (wr : World) : Prop :=
  ∃ (i : Nat) (lvc : Value) (C : List Rp), vi = .int .i64 i ∧ i ≤ R.length ∧ C.length = i ∧ Rsp wr cb lvc C ∧ rcores C = rcores (R.take i) ∧ wr.ownsRow w.heap.size 249 1 lvc i (C.map Rp.ptr) ∧ (∀ k, Rsp.foot cb lvc C k → w.heap.size ≤ k) ∧ Below w.heap.size w wr
def RCopyPost (w : World) (R : List Rp) (e : Ending) (w' : World) : Prop :=
  ∃ (cb : Nat) (lvc : Value) (C : List Rp), e = .returned (.pointer (some ⟨cb, 0, none⟩)) ∧ Rsp w' cb lvc C ∧ rcores C = rcores R ∧ (∀ k, Rsp.foot cb lvc C k → w.heap.size ≤ k) ∧ Below w.heap.size w w'
/-- One page more: what the walk's last world holds. wr: ahead; w1: the bytes are copied (row v1), w2 = w1 with the struct; w4: the row has grown; then the store. -/
theorem copy_step {w wr w1 w3 w4 : World} {R : List Rp} {cb i : Nat} {lvc v4 : Value} {C : List Rp} {g1 cap1 : Nat} {p : Rp}
    (hp : R[i]? = some p) (hpr : RPage wr p) (hsp : Rsp wr cb lvc C) (hCl : C.length = i) (hco : rcores C = rcores (R.take i)) (hown : wr.ownsRow w.heap.size 249 1 lvc i (C.map Rp.ptr)) (hft : ∀ k, Rsp.foot cb lvc C k → w.heap.size ≤ k) (hbw : Below w.heap.size w wr)
    (hup : (rpgs R).Pairwise fun p q => p.addr < q.addr)
    (h1 : w1.ownsRow wr.heap.size 5 1 (.slice (some ⟨g1, 0, none⟩) 256 cap1) 256 (p.pg.bytes.map (Value.int .u8))) (hb1 : Below wr.heap.size wr w1)
    (hb3 : Below w1.heap.size w1 w3) (hq : w3.heap[w1.heap.size]? = some (.cells #[.int .u32 p.pg.addr, .int .u8 p.pg.perm, .slice (some ⟨g1, 0, none⟩) 256 cap1] 248 (0, 0)))
    (h4 : w4.ownsRow w.heap.size 249 1 v4 (i + 1) (C.map Rp.ptr ++ [.pointer (some ⟨w1.heap.size, 0, none⟩)])) (hg4 : w3.grownBy w4 lvc.ownBlock) :
    ccRel w R cb (.int .i64 (i + 1)) (w4.setCell ⟨cb, 0, none⟩ v4) := by
  obtain ⟨hi, hpe⟩ := List.getElem?_eq_some_iff.1 hp
  obtain ⟨hl1, h1r⟩ := h1
  rcases h1r with ⟨h1r, _⟩ | ⟨g, c, cur, he, hgb, hgh, hc1, hc2, hcs, hct⟩
  · cases h1r
  simp only [Value.slice.injEq, Option.some.injEq, Addr.mk.injEq, and_true, true_and] at he
  obtain ⟨rfl, rfl⟩ := he
  have s1 := hb1.size
  have s3 := hb3.size
  have hg1l : g1 < w1.heap.size := lt_of_block hgh
  have s4 := hg4.size
  have hlv : ∀ k, lvc.ownBlock = some k → k < wr.heap.size := fun k hk => (hown.lt k hk).2
  have hb13 : Below wr.heap.size wr w3 := hb1.trans (hb3.mono s1)
  have hold : ∀ k, k < wr.heap.size → lvc.ownBlock ≠ some k → w4.heap[k]? = wr.heap[k]? := fun k hk hne => (hg4.block k (by omega) (by intro e; exact hne e.symm)).trans (hb13.block k hk)
  have hok := hpr.ok
  obtain ⟨q, hqd⟩ : ∃ q : Rp, q = ⟨⟨p.pg.addr, w1.heap.size, p.pg.perm, p.pg.bytes⟩, g1, cap1⟩ := ⟨_, rfl⟩
  have hqp : RPage w4 q := by
    have k1 : w4.heap[w1.heap.size]? = w3.heap[w1.heap.size]? := hg4.block _ (lt_of_block hq) (by intro e; have := hlv _ e.symm; omega)
    have k2 : w4.heap[g1]? = w1.heap[g1]? := (hg4.block _ (by omega) (by intro e; have := hlv _ e.symm; omega)).trans (hb3.block _ hg1l)
    rw [hqd]
    refine ⟨k1.trans hq, ⟨cur, k2.trans hgh, by simpa using hcs, fun j hj => ?_⟩, hc1, hc2, ⟨hok.a0, hok.a1, hok.a2, hok.p0, hok.p1, hok.len, hok.bd⟩⟩
    have h5 : (cur.toList.take (256 * 1))[j]? = (p.pg.bytes.map (Value.int .u8))[j]? := by rw [hct]
    rw [List.getElem?_take_of_lt (by omega), List.getElem?_map] at h5
    have hl := hok.len
    have hcl : cur.toList.length = cur.size := Array.length_toList ..
    rw [List.getElem?_eq_getElem (by omega)] at h5
    rw [Array.getElem?_eq_getElem (by omega)]
    simpa [List.getD, List.getElem?_eq_getElem (show j < p.pg.bytes.length by omega)] using h5
  have hold2 : ∀ k, (∃ x, x ∈ C ∧ (k = x.pg.blk ∨ k = x.bb)) ∨ k = cb → w4.heap[k]? = wr.heap[k]? := by
    rintro k (⟨x, hx, hk⟩ | rfl)
    · have hxp := hsp.pages x hx
      obtain ⟨cu, hcu, _⟩ := hxp.data
      rcases hk with rfl | rfl
      · exact hold _ hxp.lt1 (own_ne hown hxp.page (by decide))
      · exact hold _ hxp.lt2 (own_ne hown hcu (by decide))
    · exact hold _ (lt_of_block hsp.head) (own_ne hown hsp.head (by decide))
  have hcore : rcores (C ++ [q]) = rcores (R.take (i + 1)) := by
    rw [rcores_snoc, hco, List.take_succ_eq_append_getElem hi, rcores_snoc, hpe, hqd]; rfl
  have hrow4 : w4.ownsRow w.heap.size 249 1 v4 (C ++ [q]).length ((C ++ [q]).map Rp.ptr) := by
    rw [List.length_append, hCl, List.map_append, hqd]; exact h4
  have hsp4 : Rsp (w4.setCell ⟨cb, 0, none⟩ v4) cb v4 (C ++ [q]) := by
    have hhead : w4.heap[cb]? = _ := (hold2 cb (.inr rfl)).trans hsp.head
    refine ⟨?_, ?_, ?_, ?_, ?_⟩
    · have := heap_setCell_same w4 cb 0 _ _ v4 hhead
      simpa using this
    · have hz : w4.ownsRow 0 249 1 v4 (C ++ [q]).length ((C ++ [q]).map Rp.ptr) := by
        obtain ⟨hl, g⟩ := hrow4
        refine ⟨hl, g.imp id ?_⟩
        rintro ⟨b, cap, cur, k1, k2, k3⟩
        exact ⟨b, cap, cur, k1, Nat.zero_le _, k3⟩
      exact row_keep hz fun k hk => Below.heap_setCell _ _ _ _ fun e => own_ne hrow4 hhead (by decide) (by rw [← (show k = cb from e)]; exact hk)
    · intro x hx
      have hx4 : RPage w4 x := by
        rcases List.mem_append.1 hx with hx | hx
        · exact (hsp.pages x hx).keep (hold2 _ (.inl ⟨x, hx, .inl rfl⟩)) (hold2 _ (.inl ⟨x, hx, .inr rfl⟩))
        · rw [List.mem_singleton.1 hx]; exact hqp
      refine hx4.keep (Below.heap_setCell _ _ _ _ fun e => ?_) (Below.heap_setCell _ _ _ _ fun e => ?_)
      · have := hx4.page
        rw [show x.pg.blk = cb from e, hhead] at this
        simp at this
      · obtain ⟨cu, this, _⟩ := hx4.data
        rw [show x.bb = cb from e, hhead] at this
        simp at this
    · refine up_of_cores (B := rpgs (R.take (i + 1))) hcore ?_
      unfold rpgs at hup ⊢
      rw [List.map_take]
      exact hup.sublist (List.take_sublist _ _)
    · refine List.pairwise_append.2 ⟨hsp.bbs, List.pairwise_singleton _ _, fun x hx y hy => ?_⟩
      rw [List.mem_singleton.1 hy, hqd]
      have := (hsp.pages x hx).lt2
      show x.bb ≠ g1
      omega
  have hb4 : Below w.heap.size w w4 := own_below (hbw.trans (hb13.mono hbw.size)) (by have := hbw.size; omega) (row_keep (W := wr) hown fun k hk => hb13.block k (hlv k hk)) hg4
  refine ⟨i + 1, v4, C ++ [q], by simp, by omega, by rw [List.length_append, hCl]; rfl, hsp4, hcore, ?_, ?_, hb4.setCell (hft cb (.inl rfl)) _⟩
  · have hhead : w4.heap[cb]? = _ := (hold2 cb (.inr rfl)).trans hsp.head
    have := hrow4
    rw [List.length_append, hCl] at this
    exact row_keep this fun k hk => Below.heap_setCell _ _ _ _ fun e => own_ne hrow4 hhead (by decide) (by rw [← (show k = cb from e)]; exact hk)
  · rintro k (g | g | ⟨x, hx, g⟩)
    · exact hft k (.inl g)
    · exact (h4.lt k g).1
    · rcases List.mem_append.1 hx with hx | hx
      · exact hft k (.inr (.inr ⟨x, hx, g⟩))
      · have := hbw.size
        rw [List.mem_singleton.1 hx, hqd] at g
        rcases g with g | g
        · have : k = w1.heap.size := g
          omega
        · have : k = g1 := g
          omega
set_option maxRecDepth 100000 in
set_option maxHeartbeats 4000000 in
theorem copy {w : World} {rb : Nat} {lv : Value} {R : List Rp} (h : Rsp w rb lv R) : Calls Tryz.prog 127 #[.pointer (some ⟨rb, 0, none⟩)] w (RCopyPost w R) := by
  have hln := h.len
  obtain ⟨i0, hi0, hz0, hz1, hz2⟩ := info_parts infoPg
  have Hi := Lib.hid hi0
  have Hz0 := Lib.hid hz0
  have Hz1 := Lib.hid hz1
  have Hz2 := Lib.hid hz2
  obtain ⟨i1, hi0, hz0, hz1, hz2⟩ := info_parts Sp.infoU8
  have Ki := Lib.hid hi0
  have Kz0 := Lib.hid hz0
  have Kz1 := Lib.hid hz1
  have Kz2 := Lib.hid hz2
  obtain ⟨n, hn⟩ : ∃ n, R.length = n := ⟨_, rfl⟩
  have Hn := Lib.hid hn
  rw [hn] at hln
  have H := Lib.hid h
  obtain ⟨a, cap, hlv, hrow, _⟩ := h.row
  have Hrow := Lib.hid hrow
  have hc0 := h.cellHead
  rw [hlv, hn] at hc0
  have Hlv := Lib.hid hlv
  have Hc0 := Lib.hid hc0
  have hrb : rb < w.heap.size := lt_of_block h.head
  clear h hi0 hz0 hz1 hz2 hn hrow hc0 hlv
  go_enter Tryz.func127, Tryz.ntmps127
  go_wp2
  go_loopw [4] (fun vi wr => ccRel w R w.heap.size vi wr) (fun vi _ => n - (intOf vi).toNat)
  case atStart => exact ⟨0, .slice none 0 0, [], by go_num, Nat.zero_le _, rfl, rsp_nil (by simpa using heap_alloc_new w _), rfl, World.ownsRow_nil _ _ _ _, fun k hk => by rcases hk with rfl | hk | ⟨q, hq, _⟩ <;> first | exact Nat.le_refl _ | cases hk | simp at hq, (Below.refl _ _).alloc (Nat.le_refl _) _⟩
  case round =>
    obtain ⟨i, lvc, C, rfl, hi, hCl, hsp, hco, hown, hft, hbw⟩ := hrel
    rw [Hn.out] at hi
    have hsz := hbw.size
    have hc : wr.cell? ⟨rb, 0, none⟩ = some (.slice a n cap) := (hbw.cell hrb).trans Hc0.out
    have HB := Lib.hid hbw
    have HS := Lib.hid (H.out.below hbw fun k hk => H.out.lt hk)
    have Ho := Lib.hid hown
    have Hft := Lib.hid hft
    have HC := Lib.hid hsp
    have Hco := Lib.hid hco
    have HCl := Lib.hid hCl
    clear hco hCl
    by_cases hin : i < n
    · have hin2 : i < R.length := by rw [Hn.out]; exact hin
      obtain ⟨g, rfl, hcell⟩ := Hrow.out (by rw [Hn.out]; omega)
      have hci0 : w.cell? ⟨g, i, none⟩ = some (R[i]).ptr := hcell i _ (List.getElem?_eq_getElem hin2)
      have hg : g < w.heap.size := H.out.lt (.inr (.inl (by rw [Hlv.out]; rfl)))
      have hci : wr.cell? ⟨g, i, none⟩ = some (R[i]).ptr := (hbw.cell hg).trans hci0
      have hpg := HS.out.pages R[i] (List.getElem_mem hin2)
      obtain ⟨c0, c1, c2⟩ := hpg.cells
      have hcc := hsp.cellHead
      unfold Rp.ptr at hci
      have Hcs : Hid (∀ k, Rsp.foot rb lv R k → k < w.heap.size) := Lib.hid fun k hk => H.out.lt hk
      have hbl := hpg.lt2
      have hpl := hpg.lt1
      have hcbl : w.heap.size < wr.heap.size := lt_of_block hsp.head
      have hol := hpg.ok.len
      have hby : ∀ W, Below wr.heap.size wr W → ∀ j u, (R[i].pg.bytes.map (Value.int .u8))[j]? = some u → W.cell? ((⟨R[i].bb, 0, none⟩ : Addr).add j) = some u := by
        intro W hW j u hj
        have hjl : j < 256 := by have g1 := (List.getElem?_eq_some_iff.1 hj).1; rw [List.length_map] at g1; omega
        rw [show (⟨R[i].bb, 0, none⟩ : Addr).add j = ⟨R[i].bb, j, none⟩ by simp [Addr.add] <;> omega, hW.cell (p := ⟨R[i].bb, j, none⟩) hbl, hpg.byte j hjl, ← hj]
        simp [List.getD, List.getElem?_eq_getElem (show j < R[i].pg.bytes.length by omega)]
      have Hby := Lib.hid hby
      have Hpg := Lib.hid hpg
      have Hri := Lib.hid (show R[i]? = some R[i] from List.getElem?_eq_getElem hin2)
      have hcl1 := lt_of_block hpg.page
      clear hown hbw hpg hcell hci0 hsp hft hby
      generalize hpp : R[i] = p at *
      clear hpp
      have Hup := Lib.hid H.out.up
      have hlen8 : (p.pg.bytes.map (Value.int .u8)).length = 256 := by rw [List.length_map, hol]
      go_wp2
      have HS7 : Hid (∀ W, Below wr.heap.size wr W → W.cell? ⟨w.heap.size, 0, none⟩ = some lvc ∧ W.cell? ⟨rb, 0, none⟩ = some (.slice (some ⟨g, 0, none⟩) n cap) ∧ W.cell? ⟨g, i, none⟩ = some (.pointer (some ⟨p.pg.blk, 0, none⟩)) ∧ W.cell? ⟨p.pg.blk, 0, none⟩ = some (.int .u32 p.pg.addr) ∧ W.cell? ⟨p.pg.blk, 1, none⟩ = some (.int .u8 p.pg.perm) ∧ W.cell? ⟨p.pg.blk, 2, none⟩ = some (.slice (some ⟨p.bb, 0, none⟩) 256 p.cap)) :=
        Lib.hid fun W hW => ⟨(hW.cell (p := ⟨w.heap.size, 0, none⟩) hcbl).trans hcc, (hW.cell (p := ⟨rb, 0, none⟩) (Nat.lt_of_lt_of_le hrb hsz)).trans hc, (hW.cell (p := ⟨g, i, none⟩) (Nat.lt_of_lt_of_le hg hsz)).trans hci, (hW.cell (p := ⟨p.pg.blk, 0, none⟩) hpl).trans c0, (hW.cell (p := ⟨p.pg.blk, 1, none⟩) hpl).trans c1, (hW.cell (p := ⟨p.pg.blk, 2, none⟩) hpl).trans c2⟩
      have Hnb : Hid (lvc.ownBlock ≠ some w.heap.size) := Lib.hid (own_ne Ho.out HC.out.head (by decide))
      have Hfz : Hid (wr.frozen? ⟨w.heap.size, 0, none⟩ = false) := Lib.hid (by have := HC.out.head; unfold World.frozen?; rw [this]; rfl)
      have Hne : Hid (lvc.ownBlock ≠ some p.pg.blk ∧ lvc.ownBlock ≠ some rb ∧ lvc.ownBlock ≠ some g ∧ p.pg.blk ≠ w.heap.size) := Lib.hid ⟨own_ne Ho.out Hpg.out.page (by decide), fun e => by have := (Ho.out.lt _ e).1; omega, fun e => by have := (Ho.out.lt _ e).1; omega, by
        have := (Hcs.out p.pg.blk (.inr (.inr ⟨p, List.mem_of_getElem? Hri.out, .inl rfl⟩)))
        omega⟩
      have Hkeep : Hid (∀ W : World, (∀ k, k < wr.heap.size → lvc.ownBlock ≠ some k → W.heap[k]? = wr.heap[k]?) → W.cell? ⟨rb, 0, none⟩ = some (.slice (some ⟨g, 0, none⟩) n cap) ∧ W.cell? ⟨g, i, none⟩ = some (.pointer (some ⟨p.pg.blk, 0, none⟩)) ∧ W.cell? ⟨p.pg.blk, 0, none⟩ = some (.int .u32 p.pg.addr) ∧ W.cell? ⟨p.pg.blk, 1, none⟩ = some (.int .u8 p.pg.perm) ∧ W.cell? ⟨p.pg.blk, 2, none⟩ = some (.slice (some ⟨p.bb, 0, none⟩) 256 p.cap)) :=
        Lib.hid fun W hW => ⟨(World.cell?_of_block (w := wr) (hW rb (by omega) Hne.out.2.1)).trans hc, (World.cell?_of_block (w := wr) (hW g (by omega) Hne.out.2.2.1)).trans hci, (World.cell?_of_block (w := wr) (hW _ hpl Hne.out.1)).trans c0, (World.cell?_of_block (w := wr) (hW _ hpl Hne.out.1)).trans c1, (World.cell?_of_block (w := wr) (hW _ hpl Hne.out.1)).trans c2⟩
      refine wp_region_E (fun w' => w'.cell? ⟨w.heap.size, 0, none⟩ = some lvc ∧ w'.cell? ⟨rb, 0, none⟩ = some (.slice (some ⟨g, 0, none⟩) n cap) ∧ w'.cell? ⟨g, i, none⟩ = some (.pointer (some ⟨p.pg.blk, 0, none⟩)) ∧ w'.cell? ⟨p.pg.blk, 0, none⟩ = some (.int .u32 p.pg.addr) ∧ w'.cell? ⟨p.pg.blk, 1, none⟩ = some (.int .u8 p.pg.perm) ∧ w'.cell? ⟨p.pg.blk, 2, none⟩ = some (.slice (some ⟨p.bb, 0, none⟩) 256 p.cap)) 42 (by kernel_rfl) ?_
      have h0 := HS7.out _ (Below.refl _ wr).drew
      refine E_take (i := 0) (v := ?_) rfl (by kernel_rfl) (by kernel_rfl) (by kernel_rfl) (by kernel_rfl) (fun _ _ _ h => h) (Or.inl ⟨by rfl, ?_⟩) h0 ?_
      rotate_left
      · intro W hW; obtain ⟨k0, k1, k2, k3, k4, k5⟩ := hW; go_simp; try with_reducible rfl
      simp only [Act.put, List.getElem_toArray, List.getElem_cons_zero, List.setIfInBounds_toArray, List.set_cons_zero, List.set_cons_succ]
      refine E_take (i := 1) (v := ?_) rfl (by kernel_rfl) (by kernel_rfl) (by kernel_rfl) (by kernel_rfl) (fun _ _ _ h => h) (Or.inl ⟨by rfl, ?_⟩) h0 ?_
      rotate_left
      · intro W hW; obtain ⟨k0, k1, k2, k3, k4, k5⟩ := hW; go_simp; try with_reducible rfl
      simp only [Act.put, List.getElem_toArray, List.getElem_cons_succ, List.getElem_cons_zero, List.setIfInBounds_toArray, List.set_cons_zero, List.set_cons_succ]
      refine E_take (i := 2) (v := ?_) rfl (by kernel_rfl) (by kernel_rfl) (by kernel_rfl) (by kernel_rfl) (fun _ _ _ h => h) (Or.inl ⟨by rfl, ?_⟩) h0 ?_
      rotate_left
      · intro W hW; obtain ⟨k0, k1, k2, k3, k4, k5⟩ := hW; go_simp; try with_reducible rfl
      simp only [Act.put, List.getElem_toArray, List.getElem_cons_succ, List.getElem_cons_zero, List.setIfInBounds_toArray, List.set_cons_zero, List.set_cons_succ]
      refine E_take (i := 3) (v := ?_) rfl (by kernel_rfl) (by kernel_rfl) (by kernel_rfl) (by kernel_rfl) (fun _ _ _ h => h) (Or.inl ⟨by rfl, ?_⟩) h0 ?_
      rotate_left
      · intro W hW; obtain ⟨k0, k1, k2, k3, k4, k5⟩ := hW; go_simp; try with_reducible rfl
      simp only [Act.put, List.getElem_toArray, List.getElem_cons_succ, List.getElem_cons_zero, List.setIfInBounds_toArray, List.set_cons_zero, List.set_cons_succ]
      refine E_take (i := 4) (v := ?_) rfl (by kernel_rfl) (by kernel_rfl) (by kernel_rfl) (by kernel_rfl) (fun _ _ _ h => h) (Or.inl ⟨by rfl, ?_⟩) h0 ?_
      rotate_left
      · intro W hW; obtain ⟨k0, k1, k2, k3, k4, k5⟩ := hW; go_simp; try with_reducible rfl
      simp only [Act.put, List.getElem_toArray, List.getElem_cons_succ, List.getElem_cons_zero, List.setIfInBounds_toArray, List.set_cons_zero, List.set_cons_succ]
      refine E_take (i := 5) (v := ?_) rfl (by kernel_rfl) (by kernel_rfl) (by kernel_rfl) (by kernel_rfl) (fun _ _ _ h => h) (Or.inl ⟨by rfl, ?_⟩) h0 ?_
      rotate_left
      · intro W hW; obtain ⟨k0, k1, k2, k3, k4, k5⟩ := hW; go_simp; try with_reducible rfl
      simp only [Act.put, List.getElem_toArray, List.getElem_cons_succ, List.getElem_cons_zero, List.setIfInBounds_toArray, List.set_cons_zero, List.set_cons_succ]
      refine E_take (i := 6) (v := ?_) rfl (by kernel_rfl) (by kernel_rfl) (by kernel_rfl) (by kernel_rfl) (fun _ _ _ h => h) (Or.inl ⟨by rfl, ?_⟩) h0 ?_
      rotate_left
      · intro W hW; obtain ⟨k0, k1, k2, k3, k4, k5⟩ := hW; go_simp; try with_reducible rfl
      simp only [Act.put, List.getElem_toArray, List.getElem_cons_succ, List.getElem_cons_zero, List.setIfInBounds_toArray, List.set_cons_zero, List.set_cons_succ]
      refine E_take (i := 7) (v := ?_) rfl (by kernel_rfl) (by kernel_rfl) (by kernel_rfl) (by kernel_rfl) (fun _ _ _ h => h) (Or.inl ⟨by rfl, ?_⟩) h0 ?_
      rotate_left
      · intro W hW; obtain ⟨k0, k1, k2, k3, k4, k5⟩ := hW; go_simp; try with_reducible rfl
      simp only [Act.put, List.getElem_toArray, List.getElem_cons_succ, List.getElem_cons_zero, List.setIfInBounds_toArray, List.set_cons_zero, List.set_cons_succ]
      refine E_take (i := 8) (v := ?_) rfl (by kernel_rfl) (by kernel_rfl) (by kernel_rfl) (by kernel_rfl) (fun _ _ _ h => h) (Or.inl ⟨by rfl, ?_⟩) h0 ?_
      rotate_left
      · intro W hW; obtain ⟨k0, k1, k2, k3, k4, k5⟩ := hW; go_simp; try with_reducible rfl
      simp only [Act.put, List.getElem_toArray, List.getElem_cons_succ, List.getElem_cons_zero, List.setIfInBounds_toArray, List.set_cons_zero, List.set_cons_succ]
      refine E_take (i := 9) (v := ?_) rfl (by kernel_rfl) (by kernel_rfl) (by kernel_rfl) (by kernel_rfl) (fun _ _ _ h => h) (Or.inl ⟨by rfl, ?_⟩) h0 ?_
      rotate_left
      · intro W hW; obtain ⟨k0, k1, k2, k3, k4, k5⟩ := hW; go_simp; try with_reducible rfl
      simp only [Act.put, List.getElem_toArray, List.getElem_cons_succ, List.getElem_cons_zero, List.setIfInBounds_toArray, List.set_cons_zero, List.set_cons_succ]
      refine E_take (i := 10) (v := ?_) rfl (by kernel_rfl) (by kernel_rfl) (by kernel_rfl) (by kernel_rfl) (fun _ _ _ h => h) (Or.inl ⟨by rfl, ?_⟩) h0 ?_
      rotate_left
      · intro W hW; obtain ⟨k0, k1, k2, k3, k4, k5⟩ := hW; go_simp; try with_reducible rfl
      simp only [Act.put, List.getElem_toArray, List.getElem_cons_succ, List.getElem_cons_zero, List.setIfInBounds_toArray, List.set_cons_zero, List.set_cons_succ]
      refine E_take (i := 11) (v := ?_) rfl (by kernel_rfl) (by kernel_rfl) (by kernel_rfl) (by kernel_rfl) (fun _ _ _ h => h) (Or.inl ⟨by rfl, ?_⟩) h0 ?_
      rotate_left
      · intro W hW; obtain ⟨k0, k1, k2, k3, k4, k5⟩ := hW; go_simp; try with_reducible rfl
      simp only [Act.put, List.getElem_toArray, List.getElem_cons_succ, List.getElem_cons_zero, List.setIfInBounds_toArray, List.set_cons_zero, List.set_cons_succ]
      refine E_take (i := 12) (v := ?_) rfl (by kernel_rfl) (by kernel_rfl) (by kernel_rfl) (by kernel_rfl) (fun _ _ _ h => h) (Or.inl ⟨by rfl, ?_⟩) h0 ?_
      rotate_left
      · intro W hW; obtain ⟨k0, k1, k2, k3, k4, k5⟩ := hW; go_simp; try with_reducible rfl
      simp only [Act.put, List.getElem_toArray, List.getElem_cons_succ, List.getElem_cons_zero, List.setIfInBounds_toArray, List.set_cons_zero, List.set_cons_succ]
      refine E_take (i := 13) (v := ?_) rfl (by kernel_rfl) (by kernel_rfl) (by kernel_rfl) (by kernel_rfl) (fun _ _ _ h => h) (Or.inl ⟨by rfl, ?_⟩) h0 ?_
      rotate_left
      · intro W hW; obtain ⟨k0, k1, k2, k3, k4, k5⟩ := hW; go_simp; try with_reducible rfl
      simp only [Act.put, List.getElem_toArray, List.getElem_cons_succ, List.getElem_cons_zero, List.setIfInBounds_toArray, List.set_cons_zero, List.set_cons_succ]
      refine E_take (i := 14) (v := ?_) rfl (by kernel_rfl) (by kernel_rfl) (by kernel_rfl) (by kernel_rfl) (fun _ _ _ h => h) (Or.inl ⟨by rfl, ?_⟩) h0 ?_
      rotate_left
      · intro W hW; obtain ⟨k0, k1, k2, k3, k4, k5⟩ := hW; go_simp; try with_reducible rfl
      simp only [Act.put, List.getElem_toArray, List.getElem_cons_succ, List.getElem_cons_zero, List.setIfInBounds_toArray, List.set_cons_zero, List.set_cons_succ]
      refine E_take (i := 15) (v := ?_) rfl (by kernel_rfl) (by kernel_rfl) (by kernel_rfl) (by kernel_rfl) (fun _ _ _ h => h) (Or.inl ⟨by rfl, ?_⟩) h0 ?_
      rotate_left
      · intro W hW; obtain ⟨k0, k1, k2, k3, k4, k5⟩ := hW; go_simp; try with_reducible rfl
      simp only [Act.put, List.getElem_toArray, List.getElem_cons_succ, List.getElem_cons_zero, List.setIfInBounds_toArray, List.set_cons_zero, List.set_cons_succ]
      refine E_take (i := 16) (v := ?_) rfl (by kernel_rfl) (by kernel_rfl) (by kernel_rfl) (by kernel_rfl) (fun _ _ _ h => h) (Or.inl ⟨by rfl, ?_⟩) h0 ?_
      rotate_left
      · intro W hW; obtain ⟨k0, k1, k2, k3, k4, k5⟩ := hW; go_simp; try with_reducible rfl
      simp only [Act.put, List.getElem_toArray, List.getElem_cons_succ, List.getElem_cons_zero, List.setIfInBounds_toArray, List.set_cons_zero, List.set_cons_succ]
      refine E_take (i := 17) (v := ?_) rfl (by kernel_rfl) (by kernel_rfl) (by kernel_rfl) (by kernel_rfl) (fun _ _ _ h => h) (Or.inl ⟨by rfl, ?_⟩) h0 ?_
      rotate_left
      · intro W hW; obtain ⟨k0, k1, k2, k3, k4, k5⟩ := hW; go_simp; try with_reducible rfl
      simp only [Act.put, List.getElem_toArray, List.getElem_cons_succ, List.getElem_cons_zero, List.setIfInBounds_toArray, List.set_cons_zero, List.set_cons_succ]
      refine E_take (i := 18) (v := ?_) rfl (by kernel_rfl) (by kernel_rfl) (by kernel_rfl) (by kernel_rfl) (fun _ _ _ h => h) (Or.inl ⟨by rfl, ?_⟩) h0 ?_
      rotate_left
      · intro W hW; obtain ⟨k0, k1, k2, k3, k4, k5⟩ := hW; go_simp; try with_reducible rfl
      simp only [Act.put, List.getElem_toArray, List.getElem_cons_succ, List.getElem_cons_zero, List.setIfInBounds_toArray, List.set_cons_zero, List.set_cons_succ]
      refine E_take (i := 19) (v := ?_) rfl (by kernel_rfl) (by kernel_rfl) (by kernel_rfl) (by kernel_rfl) (fun _ _ _ h => h) (Or.inl ⟨by rfl, ?_⟩) h0 ?_
      rotate_left
      · intro W hW; obtain ⟨k0, k1, k2, k3, k4, k5⟩ := hW; go_simp; try with_reducible rfl
      simp only [Act.put, List.getElem_toArray, List.getElem_cons_succ, List.getElem_cons_zero, List.setIfInBounds_toArray, List.set_cons_zero, List.set_cons_succ]
      refine E_take (i := 20) (v := ?_) rfl (by kernel_rfl) (by kernel_rfl) (by kernel_rfl) (by kernel_rfl) (fun _ _ _ h => h) (Or.inl ⟨by rfl, ?_⟩) h0 ?_
      rotate_left
      · intro W hW; obtain ⟨k0, k1, k2, k3, k4, k5⟩ := hW; go_simp; try with_reducible rfl
      simp only [Act.put, List.getElem_toArray, List.getElem_cons_succ, List.getElem_cons_zero, List.setIfInBounds_toArray, List.set_cons_zero, List.set_cons_succ]
      refine E_take (i := 21) (v := ?_) rfl (by kernel_rfl) (by kernel_rfl) (by kernel_rfl) (by kernel_rfl) (fun _ _ _ h => h) (Or.inl ⟨by rfl, ?_⟩) h0 ?_
      rotate_left
      · intro W hW; obtain ⟨k0, k1, k2, k3, k4, k5⟩ := hW; go_simp; try with_reducible rfl
      simp only [Act.put, List.getElem_toArray, List.getElem_cons_succ, List.getElem_cons_zero, List.setIfInBounds_toArray, List.set_cons_zero, List.set_cons_succ]
      refine E_take (i := 22) (v := ?_) rfl (by kernel_rfl) (by kernel_rfl) (by kernel_rfl) (by kernel_rfl) (fun _ _ _ h => h) (Or.inl ⟨by rfl, ?_⟩) h0 ?_
      rotate_left
      · intro W hW; obtain ⟨k0, k1, k2, k3, k4, k5⟩ := hW; go_simp; try with_reducible rfl
      simp only [Act.put, List.getElem_toArray, List.getElem_cons_succ, List.getElem_cons_zero, List.setIfInBounds_toArray, List.set_cons_zero, List.set_cons_succ]
      refine E_take (i := 23) (v := ?_) rfl (by kernel_rfl) (by kernel_rfl) (by kernel_rfl) (by kernel_rfl) (fun _ _ _ h => h) (Or.inl ⟨by rfl, ?_⟩) h0 ?_
      rotate_left
      · intro W hW; obtain ⟨k0, k1, k2, k3, k4, k5⟩ := hW; go_simp; try with_reducible rfl
      simp only [Act.put, List.getElem_toArray, List.getElem_cons_succ, List.getElem_cons_zero, List.setIfInBounds_toArray, List.set_cons_zero, List.set_cons_succ]
      refine E_take (i := 24) (v := ?_) rfl (by kernel_rfl) (by kernel_rfl) (by kernel_rfl) (by kernel_rfl) (fun _ _ _ h => h) (Or.inl ⟨by rfl, ?_⟩) h0 ?_
      rotate_left
      · intro W hW; obtain ⟨k0, k1, k2, k3, k4, k5⟩ := hW; go_simp; try with_reducible rfl
      simp only [Act.put, List.getElem_toArray, List.getElem_cons_succ, List.getElem_cons_zero, List.setIfInBounds_toArray, List.set_cons_zero, List.set_cons_succ]
      refine E_take (i := 25) (v := ?_) rfl (by kernel_rfl) (by kernel_rfl) (by kernel_rfl) (by kernel_rfl) (fun _ _ _ h => h) (Or.inl ⟨by rfl, ?_⟩) h0 ?_
      rotate_left
      · intro W hW; obtain ⟨k0, k1, k2, k3, k4, k5⟩ := hW; go_simp; try with_reducible rfl
      simp only [Act.put, List.getElem_toArray, List.getElem_cons_succ, List.getElem_cons_zero, List.setIfInBounds_toArray, List.set_cons_zero, List.set_cons_succ]
      refine E_take (i := 26) (v := ?_) rfl (by kernel_rfl) (by kernel_rfl) (by kernel_rfl) (by kernel_rfl) (fun _ _ _ h => h) (Or.inl ⟨by rfl, ?_⟩) h0 ?_
      rotate_left
      · intro W hW; obtain ⟨k0, k1, k2, k3, k4, k5⟩ := hW; go_simp; try with_reducible rfl
      simp only [Act.put, List.getElem_toArray, List.getElem_cons_succ, List.getElem_cons_zero, List.setIfInBounds_toArray, List.set_cons_zero, List.set_cons_succ]
      refine E_take (i := 27) (v := ?_) rfl (by kernel_rfl) (by kernel_rfl) (by kernel_rfl) (by kernel_rfl) (fun _ _ _ h => h) (Or.inl ⟨by rfl, ?_⟩) h0 ?_
      rotate_left
      · intro W hW; obtain ⟨k0, k1, k2, k3, k4, k5⟩ := hW; go_simp; try with_reducible rfl
      simp only [Act.put, List.getElem_toArray, List.getElem_cons_succ, List.getElem_cons_zero, List.setIfInBounds_toArray, List.set_cons_zero, List.set_cons_succ]
      refine E_take (i := 28) (v := ?_) rfl (by kernel_rfl) (by kernel_rfl) (by kernel_rfl) (by kernel_rfl) (fun _ _ _ h => h) (Or.inl ⟨by rfl, ?_⟩) h0 ?_
      rotate_left
      · intro W hW; obtain ⟨k0, k1, k2, k3, k4, k5⟩ := hW; go_simp; try with_reducible rfl
      simp only [Act.put, List.getElem_toArray, List.getElem_cons_succ, List.getElem_cons_zero, List.setIfInBounds_toArray, List.set_cons_zero, List.set_cons_succ]
      refine E_take (i := 29) (v := ?_) rfl (by kernel_rfl) (by kernel_rfl) (by kernel_rfl) (by kernel_rfl) (fun _ _ _ h => h) (Or.inl ⟨by rfl, ?_⟩) h0 ?_
      rotate_left
      · intro W hW; obtain ⟨k0, k1, k2, k3, k4, k5⟩ := hW; go_simp; try with_reducible rfl
      simp only [Act.put, List.getElem_toArray, List.getElem_cons_succ, List.getElem_cons_zero, List.setIfInBounds_toArray, List.set_cons_zero, List.set_cons_succ]
      refine E_take (i := 30) (v := ?_) rfl (by kernel_rfl) (by kernel_rfl) (by kernel_rfl) (by kernel_rfl) (fun _ _ _ h => h) (Or.inl ⟨by rfl, ?_⟩) h0 ?_
      rotate_left
      · intro W hW; obtain ⟨k0, k1, k2, k3, k4, k5⟩ := hW; go_simp; try with_reducible rfl
      simp only [Act.put, List.getElem_toArray, List.getElem_cons_succ, List.getElem_cons_zero, List.setIfInBounds_toArray, List.set_cons_zero, List.set_cons_succ]
      refine E_take (i := 31) (v := ?_) rfl (by kernel_rfl) (by kernel_rfl) (by kernel_rfl) (by kernel_rfl) (fun _ _ _ h => h) (Or.inl ⟨by rfl, ?_⟩) h0 ?_
      rotate_left
      · intro W hW; obtain ⟨k0, k1, k2, k3, k4, k5⟩ := hW; go_simp; try with_reducible rfl
      simp only [Act.put, List.getElem_toArray, List.getElem_cons_succ, List.getElem_cons_zero, List.setIfInBounds_toArray, List.set_cons_zero, List.set_cons_succ]
      refine E_take (i := 32) (v := ?_) rfl (by kernel_rfl) (by kernel_rfl) (by kernel_rfl) (by kernel_rfl) (fun _ _ _ h => h) (Or.inl ⟨by rfl, ?_⟩) h0 ?_
      rotate_left
      · intro W hW; obtain ⟨k0, k1, k2, k3, k4, k5⟩ := hW; go_simp; try with_reducible rfl
      simp only [Act.put, List.getElem_toArray, List.getElem_cons_succ, List.getElem_cons_zero, List.setIfInBounds_toArray, List.set_cons_zero, List.set_cons_succ]
      refine E_take (i := 33) (v := ?_) rfl (by kernel_rfl) (by kernel_rfl) (by kernel_rfl) (by kernel_rfl) (fun _ _ _ h => h) (Or.inl ⟨by rfl, ?_⟩) h0 ?_
      rotate_left
      · intro W hW; obtain ⟨k0, k1, k2, k3, k4, k5⟩ := hW; go_simp; try with_reducible rfl
      simp only [Act.put, List.getElem_toArray, List.getElem_cons_succ, List.getElem_cons_zero, List.setIfInBounds_toArray, List.set_cons_zero, List.set_cons_succ]
      refine E_take (i := 34) (v := ?_) rfl (by kernel_rfl) (by kernel_rfl) (by kernel_rfl) (by kernel_rfl) (fun _ _ _ h => h) (Or.inl ⟨by rfl, ?_⟩) h0 ?_
      rotate_left
      · intro W hW; obtain ⟨k0, k1, k2, k3, k4, k5⟩ := hW; go_simp; try with_reducible rfl
      simp only [Act.put, List.getElem_toArray, List.getElem_cons_succ, List.getElem_cons_zero, List.setIfInBounds_toArray, List.set_cons_zero, List.set_cons_succ]
      refine E_step (i := 35) (by kernel_rfl) rfl (fun K hK => ?_)
      refine step_append_lies _ (by rfl) _ _ _ (by rfl) wr.heap.size 5 i1 (.int .u8 0) 1 1 Tryz.underlying33 Ki.out Kz0.out Kz1.out Kz2.out rfl (by omega) (.slice none 0 0) 0 [] (by rfl) (World.ownsRow_nil _ _ _ _) ⟨p.bb, 0, none⟩ 256 p.cap (p.pg.bytes.map (Value.int .u8)) (by rfl) hlen8 (Hby.out _ (Below.refl _ _).drew) (fun x hx => by obtain ⟨y, _, rfl⟩ := List.mem_map.1 hx; rfl) (by omega) (by unfold maxLen; omega) (by omega) (by simp) wr.heap.size (by simp) ?_
      intro g1 cap1 w1 ho1 hg1 _ hl1
      have hb1 : Below wr.heap.size wr w1 := ((Below.refl _ wr).drew).grown hg1 (by simp) (fun k e => by cases e)
      have hz1 := hb1.size
      have h1 := HS7.out _ hb1
      refine hK.out _ _ (fun _ => h1) (fun _ => ?_)
      clear hK K
      try simp only [Act.put, List.getElem_toArray, List.getElem_cons_succ, List.getElem_cons_zero, List.setIfInBounds_toArray, List.set_cons_zero, List.set_cons_succ]
      refine E_take (i := 36) (v := ?_) rfl (by kernel_rfl) (by kernel_rfl) (by kernel_rfl) (by kernel_rfl) (fun _ _ _ h => h) (Or.inl ⟨by rfl, ?_⟩) h1 ?_
      rotate_left
      · intro W hW; obtain ⟨k0, k1, k2, k3, k4, k5⟩ := hW; go_simp; try with_reducible rfl
      simp only [Act.put, List.getElem_toArray, List.getElem_cons_succ, List.getElem_cons_zero, List.setIfInBounds_toArray, List.set_cons_zero, List.set_cons_succ]
      refine E_step (i := 37) (by kernel_rfl) rfl (fun K hK => ?_)
      go_simp
      have h2 := HS7.out _ (hb1.alloc hz1 (.cells #[.int .u32 p.pg.addr, .int .u8 p.pg.perm, .slice (some ⟨g1, 0, none⟩) 256 cap1] 248))
      refine hK.out _ _ (fun _ => h2) (fun _ => ?_)
      clear hK K
      try simp only [Act.put, List.getElem_toArray, List.getElem_cons_succ, List.getElem_cons_zero, List.setIfInBounds_toArray, List.set_cons_zero, List.set_cons_succ]
      refine E_step (i := 38) (by kernel_rfl) rfl (fun K hK => ?_)
      go_simp
      have hb3 := (hb1.alloc hz1 (.cells #[.int .u32 p.pg.addr, .int .u8 p.pg.perm, .slice (some ⟨g1, 0, none⟩) 256 cap1] 248)).alloc (by simp; omega) (.cells #[.pointer (some ⟨w1.heap.size, 0, none⟩)] 249)
      have h3 := HS7.out _ hb3
      refine hK.out _ _ (fun _ => h3) (fun _ => ?_)
      clear hK K
      try simp only [Act.put, List.getElem_toArray, List.getElem_cons_succ, List.getElem_cons_zero, List.setIfInBounds_toArray, List.set_cons_zero, List.set_cons_succ]
      refine E_step (i := 39) (by kernel_rfl) rfl (fun K hK => ?_)
      refine step_append_lies _ (by rfl) _ _ _ (by rfl) w.heap.size 249 i0 (.pointer none) 1 8 Tryz.underlying208 Hi.out Hz0.out Hz1.out Hz2.out rfl (by omega) lvc i (C.map Rp.ptr) (by rfl) (row_keep Ho.out fun k hk => hb3.block k (Ho.out.lt k hk).2) ⟨w1.heap.size + 1, 0, none⟩ 1 1 [.pointer (some ⟨w1.heap.size, 0, none⟩)] (by rfl) (by rfl) (cell_at1 _ _ _ _) (by simp [Value.oneCell']) (by omega) (by unfold maxLen; omega) (by omega) (by simp; omega) (w1.heap.size + 2) (by simp) ?_
      intro g4 cap4 w4 ho4 hg4 _ hl4
      have hb4 : ∀ k, k < wr.heap.size → lvc.ownBlock ≠ some k → w4.heap[k]? = wr.heap[k]? := fun k hk hne => (hg4.block k (by simp; omega) (fun e => hne e.symm)).trans (hb3.block k hk)
      have hc4 : w4.cell? ⟨w.heap.size, 0, none⟩ = some lvc := (World.cell?_of_block (w := wr) (hb4 _ hcbl Hnb.out)).trans hcc
      have hf4 : w4.frozen? ⟨w.heap.size, 0, none⟩ = false := (World.frozen?_of_block (w := wr) (hb4 _ hcbl Hnb.out)).trans Hfz.out
      have h4 := And.intro hc4 (Hkeep.out _ hb4)
      refine hK.out _ _ (fun _ => h4) (fun _ => ?_)
      clear hK K
      try simp only [Act.put, List.getElem_toArray, List.getElem_cons_succ, List.getElem_cons_zero, List.setIfInBounds_toArray, List.set_cons_zero, List.set_cons_succ]
      refine E_step (i := 40) (by kernel_rfl) rfl (fun K hK => ?_)
      go_simp
      refine hK.out _ _ (fun _ => h4) (fun _ => ?_)
      clear hK K
      try simp only [Act.put, List.getElem_toArray, List.getElem_cons_succ, List.getElem_cons_zero, List.setIfInBounds_toArray, List.set_cons_zero, List.set_cons_succ]
      refine E_take (i := 41) (v := ?_) rfl (by kernel_rfl) (by kernel_rfl) (by kernel_rfl) (by kernel_rfl) (fun _ _ _ h => h) (Or.inl ⟨by rfl, ?_⟩) h4 ?_
      rotate_left
      · intro W hW; obtain ⟨k0, k1, k2, k3, k4, k5⟩ := hW; go_simp; try with_reducible rfl
      try simp only [Act.put, List.getElem_toArray, List.getElem_cons_succ, List.getElem_cons_zero, List.setIfInBounds_toArray, List.set_cons_zero, List.set_cons_succ]
      refine E_step (i := 42) (by kernel_rfl) rfl (fun K hK => ?_)
      go_simp
      refine hK.out _ _ (fun e => absurd rfl e) (fun _ => ?_)
      clear hK K
      try simp only [Act.put, List.getElem_toArray, List.getElem_cons_succ, List.getElem_cons_zero, List.setIfInBounds_toArray, List.set_cons_zero, List.set_cons_succ]
      refine E_done (by kernel_rfl) ?_ _
      go_wp2
      refine ⟨copy_step Hri.out Hpg.out HC.out HCl.out Hco.out Ho.out Hft.out HB.out Hup.out ho1 hb1 (((Below.refl _ _).alloc (Nat.le_refl _) _).alloc (by simp) _) (heap_alloc2_old _ _ _) ho4 hg4, by simp [intOf]; omega⟩
    · obtain rfl : i = n := by omega
      have htk : R.take i = R := List.take_of_length_le (by rw [Hn.out]; exact Nat.le_refl _)
      rw [htk] at Hco
      clear hown hbw htk
      go_wp2
      go_ret
      exact ⟨w.heap.size, lvc, C, rfl, HC.out, Hco.out, Hft.out, HB.out⟩
end Rs
end Go.Proofs.YtkbhokmnbpnlbaaGreat
