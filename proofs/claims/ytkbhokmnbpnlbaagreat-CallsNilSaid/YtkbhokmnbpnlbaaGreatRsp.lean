/- The document's space in memory (aediculeref05): a row of pages; the walks of May, of, Perm. -/
import Derived.Test.YtkbhokmnbpnlbaaGreatSpcW
import Derived.Test.YtkbhokmnbpnlbaaGreatSlv
namespace Go.Proofs.YtkbhokmnbpnlbaaGreat
open Go.RowKit
set_option linter.unusedVariables false
/-- A page of the document's: its page (blk: its struct's block), the block and the room of its bytes. -/
structure Rp where
  pg : Pg
  bb : Nat
  cap : Nat
def Rp.ptr (q : Rp) : Value := .pointer (some ⟨q.pg.blk, 0, none⟩)
/-- What a page of the document's is in memory. -/
structure RPage (w : World) (q : Rp) : Prop where
  page : w.heap[q.pg.blk]? = some (.cells #[.int .u32 q.pg.addr, .int .u8 q.pg.perm, .slice (some ⟨q.bb, 0, none⟩) 256 q.cap] 248 (0, 0))
  data : ∃ cur, w.heap[q.bb]? = some (.cells cur 5 (0, 0)) ∧ cur.size = q.cap ∧ ∀ j, j < 256 → cur[j]? = some (.int .u8 (q.pg.bytes.getD j 0))
  cap1 : 256 ≤ q.cap
  cap2 : q.cap ≤ maxLen
  ok : q.pg.ok
structure Rsp (w : World) (rb : Nat) (lv : Value) (R : List Rp) : Prop where
  head : w.heap[rb]? = some (.cells #[lv] 210 (0, 0))
  list : w.ownsRow 0 249 1 lv R.length (R.map Rp.ptr)
  pages : ∀ q, q ∈ R → RPage w q
  up : (R.map (·.pg)).Pairwise fun p q => p.addr < q.addr
  bbs : R.Pairwise fun p q => p.bb ≠ q.bb
def rpgs (R : List Rp) : List Pg := R.map (·.pg)
def Rsp.foot (rb : Nat) (lv : Value) (R : List Rp) (k : Nat) : Prop := k = rb ∨ lv.ownBlock = some k ∨ ∃ q, q ∈ R ∧ (k = q.pg.blk ∨ k = q.bb)
theorem RPage.keep {w w' : World} {q : Rp} (h : RPage w q) (h1 : w'.heap[q.pg.blk]? = w.heap[q.pg.blk]?) (h2 : w'.heap[q.bb]? = w.heap[q.bb]?) : RPage w' q := by
  obtain ⟨cur, hb, rest⟩ := h.data
  exact ⟨h1.trans h.page, ⟨cur, h2.trans hb, rest⟩, h.cap1, h.cap2, h.ok⟩
theorem RPage.lt1 {w : World} {q : Rp} (h : RPage w q) : q.pg.blk < w.heap.size := lt_of_block h.page
theorem RPage.lt2 {w : World} {q : Rp} (h : RPage w q) : q.bb < w.heap.size := by obtain ⟨cur, hb, _⟩ := h.data; exact lt_of_block hb
theorem Rsp.lt {w : World} {rb : Nat} {lv : Value} {R : List Rp} (h : Rsp w rb lv R) {k : Nat} (hk : Rsp.foot rb lv R k) : k < w.heap.size := by
  rcases hk with rfl | hk | ⟨q, hq, rfl | rfl⟩
  · exact lt_of_block h.head
  · exact (h.list.lt k hk).2
  · exact (h.pages q hq).lt1
  · exact (h.pages q hq).lt2
theorem Rsp.frame {w w' : World} {rb : Nat} {lv : Value} {R : List Rp} (h : Rsp w rb lv R) (hf : ∀ k, Rsp.foot rb lv R k → w'.heap[k]? = w.heap[k]?) : Rsp w' rb lv R := by
  refine ⟨(hf rb (.inl rfl)).trans h.head, ?_, fun q hq => (h.pages q hq).keep (hf _ (.inr (.inr ⟨q, hq, .inl rfl⟩))) (hf _ (.inr (.inr ⟨q, hq, .inr rfl⟩))), h.up, h.bbs⟩
  obtain ⟨hl, g⟩ := h.list
  refine ⟨hl, g.imp id ?_⟩
  rintro ⟨g1, cap, cur, rfl, h1, h2, rest⟩
  exact ⟨g1, cap, cur, rfl, h1, (hf g1 (.inr (.inl rfl))).trans h2, rest⟩
theorem Rsp.below {w w' : World} {rb : Nat} {lv : Value} {R : List Rp} {B : Nat} (h : Rsp w rb lv R) (hm : Below B w w') (hf : ∀ k, Rsp.foot rb lv R k → k < B) : Rsp w' rb lv R := h.frame fun k hk => hm.block k (hf k hk)
theorem Rsp.same {w w' : World} {rb : Nat} {lv : Value} {R : List Rp} (h : Rsp w rb lv R) (hm : Below w.heap.size w w') : Rsp w' rb lv R := h.below hm fun k hk => h.lt hk
theorem Rsp.cellHead {w : World} {rb : Nat} {lv : Value} {R : List Rp} (h : Rsp w rb lv R) : w.cell? ⟨rb, 0, none⟩ = some lv := by unfold World.cell?; rw [h.head]; rfl
theorem RPage.cells {w : World} {q : Rp} (h : RPage w q) : w.cell? ⟨q.pg.blk, 0, none⟩ = some (.int .u32 q.pg.addr) ∧ w.cell? ⟨q.pg.blk, 1, none⟩ = some (.int .u8 q.pg.perm) ∧ w.cell? ⟨q.pg.blk, 2, none⟩ = some (.slice (some ⟨q.bb, 0, none⟩) 256 q.cap) := by
  refine ⟨?_, ?_, ?_⟩ <;> (unfold World.cell?; rw [h.page]; rfl)
theorem RPage.byte {w : World} {q : Rp} (h : RPage w q) (j : Nat) (hj : j < 256) : w.cell? ⟨q.bb, j, none⟩ = some (.int .u8 (q.pg.bytes.getD j 0)) := by
  obtain ⟨cur, hb, _, hc⟩ := h.data
  unfold World.cell?
  rw [hb]
  simpa using hc j hj
theorem RPage.free {w : World} {q : Rp} (h : RPage w q) (j : Nat) : w.frozen? ⟨q.bb, j, none⟩ = false := by
  obtain ⟨cur, hb, _, hc⟩ := h.data
  unfold World.frozen?
  rw [hb]
  simp
/-- The row: nil, or a block; its cells. -/
theorem Rsp.row {w : World} {rb : Nat} {lv : Value} {R : List Rp} (h : Rsp w rb lv R) : ∃ a cap, lv = .slice a R.length cap ∧ (0 < R.length → ∃ g, a = some ⟨g, 0, none⟩ ∧ ∀ i q, R[i]? = some q → w.cell? ⟨g, i, none⟩ = some q.ptr) ∧ R.length ≤ maxLen := by
  obtain ⟨hl, g⟩ := h.list
  rcases g with ⟨rfl, h0⟩ | ⟨g, cap, cur, rfl, _, hg, h1, h2, h3, h4⟩
  · exact ⟨none, 0, by rw [h0], fun g => by omega, by unfold maxLen; omega⟩
  · refine ⟨_, cap, rfl, fun _ => ⟨g, rfl, fun i q hq => ?_⟩, by omega⟩
    have hi := (List.getElem?_eq_some_iff.1 hq).1
    unfold World.cell?
    rw [hg]
    have h5 : (cur.toList.take (R.length * 1))[i]? = (R.map Rp.ptr)[i]? := by rw [h4]
    rw [List.getElem?_take_of_lt (by omega), List.getElem?_map, hq] at h5
    simpa using h5
theorem Rsp.len {w : World} {rb : Nat} {lv : Value} {R : List Rp} (h : Rsp w rb lv R) : R.length ≤ 4096 := by
  have hok : ∀ p, p ∈ rpgs R → p.ok := by
    intro p hp
    obtain ⟨q, hq, rfl⟩ := List.mem_map.1 hp
    exact (h.pages q hq).ok
  have := len_up h.up hok 0 (fun p hp => (hok p hp).a0) (by omega)
  rw [List.length_map] at this
  omega
/-! ### May, of, Perm -/
namespace Rs
theorem may (x : Int) (h0 : 0 ≤ x) (h1 : x ≤ 4294967295) (w : World) : Calls Tryz.prog 194 #[.int .u32 x] w fun e w' => e = .returned (.bool (Sp.mayB x)) ∧ w = w' := by
  by_cases a : x % 256 = 0
  · by_cases b : x < 1048576
    · go_enter Tryz.func194, Tryz.ntmps194
      go_wp2
      go_ret
      exact ⟨Sp.ret_bool (by unfold Sp.mayB; rw [decide_eq_true b, a]; rfl), rfl⟩
    · go_enter Tryz.func194, Tryz.ntmps194
      go_wp2
      go_ret
      exact ⟨Sp.ret_bool (by unfold Sp.mayB; rw [decide_eq_false (by omega)]; simp), rfl⟩
  · have a2 : (x % 256 == 0) = false := beq_eq_false_iff_ne.2 a
    go_enter Tryz.func194, Tryz.ntmps194
    go_wp2
    go_ret
    exact ⟨Sp.ret_bool (by unfold Sp.mayB; rw [a2]; rfl), rfl⟩
def ofRel (R : List Rp) (x : Int) (vi : Value) : Prop := ∃ i : Nat, vi = .int .i64 i ∧ i ≤ R.length ∧ ∀ q, q ∈ R.take i → q.pg.addr ≠ x - x % 256
theorem of_hit {R : List Rp} {x : Int} (hup : (rpgs R).Pairwise fun p q => p.addr < q.addr) {i : Nat} (hi : i < R.length) (h : R[i].pg.addr = x - x % 256) : pageAt (rpgs R) x = some R[i].pg := by
  unfold pageAt
  rw [← h]
  exact atAddr_eq_some hup (List.mem_map.2 ⟨_, List.getElem_mem hi, rfl⟩)
theorem of_miss {R : List Rp} {x : Int} (h : ∀ q, q ∈ R → q.pg.addr ≠ x - x % 256) : pageAt (rpgs R) x = none := by
  refine atAddr_eq_none fun p hp => ?_
  obtain ⟨q, hq, rfl⟩ := List.mem_map.1 hp
  exact h q hq
set_option maxRecDepth 100000 in
theorem of {w : World} {rb : Nat} {lv : Value} {R : List Rp} (h : Rsp w rb lv R) (x : Int) (h0 : 0 ≤ x) (h1 : x ≤ 18446744073709551615) :
    Calls Tryz.prog 195 #[.pointer (some ⟨rb, 0, none⟩), .int .u64 x] w fun e w' => e = .returned (pgPtr (pageAt (rpgs R) x)) ∧ w = w' := by
  obtain ⟨a, cap, rfl, hrow, hmx⟩ := h.row
  unfold maxLen at hmx
  have hc := h.cellHead
  have H := Lib.hid h
  have Hrow := Lib.hid hrow
  clear h hrow
  generalize hn : R.length = n at *
  have Hn := Lib.hid hn
  clear hn
  go_enter Tryz.func195, Tryz.ntmps195
  go_wp2
  go_loop [5] (fun vi => ofRel R x vi) (fun vi => n - (intOf vi).toNat)
  case atStart => exact ⟨0, by go_num, Nat.zero_le _, fun q hq => by simp at hq⟩
  case round =>
    obtain ⟨i, rfl, hi, hno⟩ := hrel
    rw [Hn.out] at hi
    have Hno := Lib.hid hno
    clear hno
    by_cases hin : i < n
    · have hin2 : i < R.length := by rw [Hn.out]; exact hin
      obtain ⟨g, rfl, hcell⟩ := Hrow.out (by omega)
      have hci : w.cell? ⟨g, i, none⟩ = some (R[i]).ptr := hcell i _ (List.getElem?_eq_getElem hin2)
      have hpg := H.out.pages R[i] (List.getElem_mem hin2)
      have hok := hpg.ok
      have b0 := hok.a0
      have b1 := hok.a1
      have b2 := hok.a2
      obtain ⟨c0, _, _⟩ := hpg.cells
      have hA := Lib.hid (show ∀ x, R[i].pg.addr = x - x % 256 → pageAt (rpgs R) x = some R[i].pg from fun x => of_hit H.out.up hin2)
      have hB := Lib.hid (show R[i].pg.addr ≠ x - x % 256 → ∀ q, q ∈ R.take (i + 1) → q.pg.addr ≠ x - x % 256 from fun hne q hq => by
        rw [List.take_succ_eq_append_getElem hin2, List.mem_append] at hq
        rcases hq with hq | hq
        · exact Hno.out q hq
        · rw [List.mem_singleton.1 hq]; exact hne)
      unfold Rp.ptr at hci
      generalize R[i].pg.addr = y at *
      generalize hqb : R[i].pg.blk = pb at *
      have Hqb := Lib.hid hqb
      clear hcell hpg hok hqb
      by_cases g1 : y ≤ x
      · by_cases g2 : x < y + 256
        · have e : y = x - x % 256 := by omega
          have hP := hA.out x e
          have HP := Lib.hid hP
          clear hP e hA hB
          go_wp2
          go_ret
          exact ⟨by rw [HP.out, ← Hqb.out]; rfl, rfl⟩
        · have HB2 := Lib.hid (hB.out (by omega))
          clear hA hB
          go_wp2
          go_round
          case rel => exact ⟨i + 1, by go_num, by rw [Hn.out]; omega, HB2.out⟩
          case measure => simp [intOf]; omega
      · have g1z : decide (y ≤ x) = false := decide_eq_false g1
        have HB2 := Lib.hid (hB.out (by omega))
        clear hA hB
        go_wp2
        go_round
        case rel => exact ⟨i + 1, by go_num, by rw [Hn.out]; omega, HB2.out⟩
        case measure => simp [intOf]; omega
    · obtain rfl : i = n := by omega
      have HP := Lib.hid (of_miss (R := R) (x := x) (fun q hq => Hno.out q (by rw [List.take_of_length_le (by rw [Hn.out]; exact Nat.le_refl _)]; exact hq)))
      go_wp2
      go_ret
      exact ⟨by rw [HP.out]; rfl, rfl⟩
theorem of_none {w : World} {rb : Nat} {lv : Value} {R : List Rp} (h : Rsp w rb lv R) (x : Int) (h0 : 0 ≤ x) (h1 : x ≤ 18446744073709551615) (hp : pageAt (rpgs R) x = none) :
    Calls Tryz.prog 195 #[.pointer (some ⟨rb, 0, none⟩), .int .u64 x] w fun e w' => e = .returned (.pointer none) ∧ w = w' := by
  have := of h x h0 h1
  rw [hp] at this
  exact this
theorem of_some {w : World} {rb : Nat} {lv : Value} {R : List Rp} (h : Rsp w rb lv R) (x : Int) (h0 : 0 ≤ x) (h1 : x ≤ 18446744073709551615) {p : Pg} (hp : pageAt (rpgs R) x = some p) :
    Calls Tryz.prog 195 #[.pointer (some ⟨rb, 0, none⟩), .int .u64 x] w fun e w' => e = .returned (.pointer (some ⟨p.blk, 0, none⟩)) ∧ w = w' := by
  have := of h x h0 h1
  rw [hp] at this
  exact this
end Rs
end Go.Proofs.YtkbhokmnbpnlbaaGreat
