/- The walk of aediculelaw05's Same: of spaces that are alike. -/
import Derived.Test.YtkbhokmnbpnlbaaGreatPair
namespace Go.Proofs.YtkbhokmnbpnlbaaGreat
open Go.RowKit
set_option linter.unusedVariables false
namespace Sp
theorem get_page {A : List Pg} (hup : A.Pairwise fun p q => p.addr < q.addr) {p : Pg} (hp : p ∈ A) (hok : p.ok) : pageAt A p.addr = some p ∧ getE A p.addr 256 0 = 0 ∧ getS A p.addr 256 0 = strOfNums p.bytes := by
  have a0 := hok.a0
  have a2 := hok.a2
  have hl := hok.len
  have hin : ∀ k : Nat, k < 256 → pageAt A (p.addr + k) = some p := fun k hk => by
    unfold pageAt
    rw [show p.addr + (k : Int) - (p.addr + (k : Int)) % 256 = p.addr by omega]
    exact atAddr_eq_some hup hp
  have hfit : fitsB A p.addr 256 0 = true := by
    unfold fitsB
    rw [List.all_eq_true]
    intro k hk
    unfold okAt
    rw [hin k (List.mem_range.1 hk)]
    simp [bits]
    decide
  refine ⟨by have := hin 0 (by omega); simpa using this, ?_, ?_⟩
  · unfold getE; rw [if_neg (by omega)]; exact fitsE_yes hfit
  · unfold getS
    rw [if_neg (by omega), show (256 : Int).toNat = 256 from rfl, if_pos hfit]
    congr 1
    refine List.ext_getElem (by rw [getL_length, hl]) fun i h1 h2 => ?_
    have hi : i < 256 := by rw [getL_length] at h1; exact h1
    have e : (getL A p.addr 256)[i]? = some (byteAt A (p.addr + (i : Int))) := by unfold getL; rw [List.getElem?_map, List.getElem?_range hi]; rfl
    rw [List.getElem?_eq_getElem h1, Option.some.injEq] at e
    rw [e]
    unfold byteAt
    rw [hin i hi]
    show p.bytes.getD ((p.addr + (i : Int)) % 256).toNat 0 = _
    rw [show ((p.addr + (i : Int)) % 256).toNat = i by omega, List.getD, List.getElem?_eq_getElem (by omega)]
    rfl
def smRel (w : World) (n : Nat) (vi : Value) (wr : World) : Prop := ∃ i : Nat, vi = .int .i64 i ∧ i ≤ n ∧ Below w.heap.size w wr
set_option maxRecDepth 100000 in
set_option maxHeartbeats 4000000 in
theorem same {w : World} {sb mb rb : Nat} {A : List Pg} {lv : Value} {R : List Rp} (h : Pair w sb mb A rb lv R) (hc : cores A = cores (rpgs R)) :
    Calls Tryz.prog 84 #[.pointer (some ⟨sb, 0, none⟩), .pointer (some ⟨rb, 0, none⟩)] w fun e w' => e = .returned (.bool true) ∧ Below w.heap.size w w' := by
  have hln := h.rp.len
  obtain ⟨n, hn⟩ : ∃ n, R.length = n := ⟨_, rfl⟩
  have Hn := Lib.hid hn
  rw [hn] at hln
  have H := Lib.hid h
  obtain ⟨a, cap, hlv, hrow, _⟩ := h.rp.row
  have Hrow := Lib.hid hrow
  have hc0 := h.rp.cellHead
  rw [hlv, hn] at hc0
  have Hlv := Lib.hid hlv
  have Hc0 := Lib.hid hc0
  have hrb : rb < w.heap.size := lt_of_block h.rp.head
  have Hc := Lib.hid hc
  clear h hn hrow hc0 hlv hc
  go_enter Tryz.func84, Tryz.ntmps84
  go_wp2_with fail
  refine (Pag.pages H.out.sp).mono ?_
  rintro e w1 ⟨v1, rfl, ho1, hb1⟩
  have HP1 := Lib.hid (H.out.below hb1)
  have hb1s := hb1.size
  go_wp2_with fail
  refine (Rs.pages HP1.out.rp).mono ?_
  rintro e w2 ⟨v2, rfl, ho2, hb2⟩
  have ho1' : w2.ownsRow w.heap.size 22 1 v1 A.length ((Pag.addrs A).map Pag.encU) := row_keep ho1 fun k hk => hb2.block k (ho1.lt k hk).2
  have hl1 : A.length = (Pag.addrs A).length := by unfold Pag.addrs; rw [List.length_map]
  have hl2 : (rpgs R).length = (Pag.addrs (rpgs R)).length := by unfold Pag.addrs; rw [List.length_map]
  rw [hl1] at ho1'
  rw [hl2] at ho2
  obtain ⟨a1, c1, rfl, hw1⟩ := Rs.words_own ho1'
  obtain ⟨a2, c2, rfl, hw2⟩ := Rs.words_own ho2
  have Hw1 := Lib.hid hw1
  have Hw2 := Lib.hid hw2
  have HB2 := Lib.hid (below_th hb1 hb2)
  have he := Lib.hid (Cor.addrs_eq Hc.out)
  clear ho1 ho2 ho1' hw1 hw2 hb1 hb2 hl1 hl2 hb1s
  have Hsw := Lib.hid (Rs.sameWords (ca := c1) (cb := c2) Hw1.out Hw2.out)
  rw [decide_eq_true he.out] at Hsw
  generalize (Pag.addrs A).length = la at *
  generalize (Pag.addrs (rpgs R)).length = lb at *
  go_wp2_with fail
  refine Hsw.out.mono ?_
  rintro e w3 ⟨rfl, hb3⟩
  have HB3 := Lib.hid (below_th HB2.out hb3)
  clear hb3 HB2 Hsw Hw1 Hw2 HP1 he
  go_wp2
  go_loopw [5, 6, 7, 8, 9] (fun vi _ _ _ _ wr => smRel w n vi wr) (fun vi _ _ _ _ _ => n - (intOf vi).toNat)
  case atStart => exact ⟨0, by go_num, Nat.zero_le _, HB3.out⟩
  case round =>
    obtain ⟨i, rfl, hi, hbw⟩ := hrel
    have hsz := hbw.size
    have hc : wr.cell? ⟨rb, 0, none⟩ = some (.slice a n cap) := (hbw.cell hrb).trans Hc0.out
    have HB := Lib.hid hbw
    clear HB3
    by_cases hin : i < n
    · have hin2 : i < R.length := by rw [Hn.out]; exact hin
      obtain ⟨g, rfl, hcell⟩ := Hrow.out (by rw [Hn.out]; omega)
      have hci0 : w.cell? ⟨g, i, none⟩ = some (R[i]).ptr := hcell i _ (List.getElem?_eq_getElem hin2)
      have hg : g < w.heap.size := H.out.rp.lt (.inr (.inl (by rw [Hlv.out]; rfl)))
      have hci : wr.cell? ⟨g, i, none⟩ = some (R[i]).ptr := (hbw.cell hg).trans hci0
      have HP := Lib.hid (H.out.below hbw)
      have hqm : R[i] ∈ R := List.getElem_mem hin2
      have hpg := HP.out.rp.pages R[i] hqm
      have hpg0 := H.out.rp.pages R[i] hqm
      have hpl := hpg0.lt1
      have hbl := hpg0.lt2
      obtain ⟨x0, x1, x2⟩ := hpg.cells
      have hok := hpg.ok
      have b0 := hok.a0
      have b1 := hok.a1
      have hbl8 := hok.len
      have Hpg := Lib.hid hpg
      obtain ⟨q1, q2, q3⟩ := get_page H.out.rp.up (List.mem_map.2 ⟨R[i], hqm, rfl⟩) hok
      have y1 := Lib.hid ((Cor.permV Hc.out R[i].pg.addr).trans (show permV (rpgs R) R[i].pg.addr = R[i].pg.perm by unfold permV; rw [show pageAt (rpgs R) R[i].pg.addr = some R[i].pg from q1]))
      have y2 := Lib.hid ((Cor.permB Hc.out R[i].pg.addr).trans (show permB (rpgs R) R[i].pg.addr = true by unfold permB; rw [show pageAt (rpgs R) R[i].pg.addr = some R[i].pg from q1]; rfl))
      have y3 := Lib.hid ((Cor.getE Hc.out R[i].pg.addr 256 0).trans q2)
      have y4 := Lib.hid ((Cor.getS Hc.out R[i].pg.addr 256 0).trans q3)
      have Hpm := Lib.hid (Sp.perm_any HP.out.sp R[i].pg.addr b0 (by omega))
      rw [y1.out, y2.out] at Hpm
      unfold Rp.ptr at hci
      clear hbw hpg0 hcell hci0 q1 q2 q3 hok
      go_wp2_with (go_at_call 156; (with_reducible refine Hpm.out.mono ?_); rintro e w1 ⟨rfl, rfl⟩)
      refine (Sp.look HP.out.sp R[i].pg.addr 256 b0 (by omega)).mono ?_
      rintro e w4 ⟨rfl, hb4⟩
      rw [y3.out, y4.out]
      have hwz := Hpg.out.lt1
      have hwz2 := Hpg.out.lt2
      have Hpg4 := Lib.hid (Hpg.out.keep (hb4.block _ hwz) (hb4.block _ hwz2))
      have HB4 := Lib.hid (below_th HB.out hb4)
      have hc4 : w4.cell? ⟨rb, 0, none⟩ = some (.slice (some ⟨g, 0, none⟩) n cap) := (hb4.cell (p := ⟨rb, 0, none⟩) (Nat.lt_of_lt_of_le hrb hsz)).trans hc
      have hci4 : w4.cell? ⟨g, i, none⟩ = some (.pointer (some ⟨R[i].pg.blk, 0, none⟩)) := (hb4.cell (p := ⟨g, i, none⟩) (Nat.lt_of_lt_of_le hg hsz)).trans hci
      obtain ⟨z0, z1, z2⟩ := Hpg4.out.cells
      have hcv := run_convert_bytes_arg (P := Tryz.prog) w4 33 5 Tryz.underlying33 Tryz.underlying5 R[i].bb 0 256 R[i].cap R[i].pg.bytes hbl8 (fun j hj => by rw [Nat.zero_add]; exact Hpg4.out.byte j hj) 9 Tryz.underlying9
      clear hb4 y1 y2 y3 y4 Hpm hc hci x0 x1 x2 HP
      generalize strOfNums R[i].pg.bytes = ss at *
      generalize R[i].pg.perm = pp at *
      go_wp2
      refine ⟨⟨i + 1, by go_num, by omega, HB4.out⟩, by simp [intOf]; omega⟩
    · obtain rfl : i = n := by omega
      go_wp2
      go_ret
      exact ⟨rfl, HB.out⟩
end Sp
end Go.Proofs.YtkbhokmnbpnlbaaGreat
