/- The walks of the document's space's Pages, and of SameWords. -/
import Derived.Test.YtkbhokmnbpnlbaaGreatRspW
import Derived.Test.YtkbhokmnbpnlbaaGreatPag
namespace Go.Proofs.YtkbhokmnbpnlbaaGreat
open Go.RowKit
theorem rsp_nil {w : World} {rb : Nat} (h : w.heap[rb]? = some (.cells #[.slice none 0 0] 210 (0, 0))) : Rsp w rb (.slice none 0 0) [] :=
  ⟨h, World.ownsRow_nil _ _ _ _, fun q hq => by simp at hq, .nil, .nil⟩
end Go.Proofs.YtkbhokmnbpnlbaaGreat
namespace Go.Proofs.YtkbhokmnbpnlbaaGreat.Rs
open Go.RowKit Pag
set_option linter.unusedVariables false
def pgsRel (w : World) (R : List Rp) (vl vi : Value) (wr : World) : Prop :=
  ∃ i : Nat, vi = .int .i64 i ∧ i ≤ R.length ∧ Below w.heap.size w wr ∧ wr.ownsRow w.heap.size 22 1 vl i ((addrs (rpgs (R.take i))).map encU)
theorem addrs_snoc (l : List Rp) (q : Rp) : (addrs (rpgs (l ++ [q]))).map encU = (addrs (rpgs l)).map encU ++ [.int .u32 q.pg.addr] := by
  unfold addrs rpgs
  rw [List.map_append, List.map_append, List.map_append]; rfl
set_option maxRecDepth 100000 in
set_option maxHeartbeats 4000000 in
theorem pages {w : World} {rb : Nat} {lv : Value} {R : List Rp} (h : Rsp w rb lv R) : Calls Tryz.prog 155 #[.pointer (some ⟨rb, 0, none⟩)] w (PagesPost (rpgs R) w) := by
  have hln := h.len
  obtain ⟨i0, hi0, hz0, hz1, hz2⟩ := info_parts infoU32
  have Hi := Lib.hid hi0
  have Hz0 := Lib.hid hz0
  have Hz1 := Lib.hid hz1
  have Hz2 := Lib.hid hz2
  obtain ⟨n, hn⟩ : ∃ n, R.length = n := ⟨_, rfl⟩
  have Hn := Lib.hid hn
  rw [hn] at hln
  have H := Lib.hid h
  obtain ⟨a, cap, hlv, hrow, _⟩ := h.row
  have Hrow := Lib.hid hrow
  have hc0 := h.cellHead
  rw [hlv, hn] at hc0
  have Hlv := Lib.hid hlv
  have Hc0 := Lib.hid hc0
  have hrb : rb < w.heap.size := lt_of_block h.head
  have HPost : Hid (∀ (v : Value) (w' : World), w'.ownsRow w.heap.size 22 1 v n ((addrs (rpgs R)).map encU) → Below w.heap.size w w' → PagesPost (rpgs R) w (.returned v) w') := Lib.hid fun v w' g1 g2 => ⟨v, rfl, by rw [show (rpgs R).length = n by rw [← hn]; exact List.length_map ..]; exact g1, g2⟩
  generalize PagesPost (rpgs R) w = PQ at *
  clear h hi0 hz0 hz1 hz2 hn hrow hc0 hlv
  go_enter Tryz.func155, Tryz.ntmps155
  go_wp2
  go_loopw [3, 4] (fun vl vi wr => pgsRel w R vl vi wr) (fun _ vi _ => n - (intOf vi).toNat)
  case atStart => exact ⟨0, by go_num, Nat.zero_le _, Below.refl _ _, World.ownsRow_nil _ _ _ _⟩
  case round =>
    obtain ⟨i, rfl, hi, hbw, hown⟩ := hrel
    rw [Hn.out] at hi
    have hsz := hbw.size
    have hc : wr.cell? ⟨rb, 0, none⟩ = some (.slice a n cap) := (hbw.cell hrb).trans Hc0.out
    have HB := Lib.hid hbw
    have HS := Lib.hid (H.out.below hbw fun k hk => H.out.lt hk)
    have Ho := Lib.hid hown
    by_cases hin : i < n
    · have hin2 : i < R.length := by rw [Hn.out]; exact hin
      obtain ⟨g, rfl, hcell⟩ := Hrow.out (by rw [Hn.out]; omega)
      have hci0 : w.cell? ⟨g, i, none⟩ = some (R[i]).ptr := hcell i _ (List.getElem?_eq_getElem hin2)
      have hg : g < w.heap.size := H.out.lt (.inr (.inl (by rw [Hlv.out]; rfl)))
      have hci : wr.cell? ⟨g, i, none⟩ = some (R[i]).ptr := (hbw.cell hg).trans hci0
      have hpg := HS.out.pages R[i] (List.getElem_mem hin2)
      obtain ⟨c0, _, _⟩ := hpg.cells
      have htk := Lib.hid (List.take_succ_eq_append_getElem hin2)
      unfold Rp.ptr at hci
      have hsn := Lib.hid (addrs_snoc (R.take i) R[i])
      clear hown hbw hpg hcell hci0
      go_wp2_with (at_builtin; go_loud (refine wpList_append_own _ rfl _ _ 32 rfl w.heap.size 22 i0 (.int .u32 0) 1 4 Tryz.underlying32 Hi.out Hz0.out Hz1.out Hz2.out rfl (by decide) _ _ _ rfl (Ho.out.alloc _) ⟨wr.heap.size, 0, none⟩ 1 1 [.int .u32 R[i].pg.addr] rfl rfl (cell_one_new _ _ _) (by simp [Value.oneCell']) (by unfold maxLen; omega) (by omega) (by simp; omega) ?_); intro v2 w2 ho2 hg2 _; have hb2 := own_below (HB.out.alloc hsz _) (by simp; omega) (Ho.out.alloc _) hg2)
      refine ⟨⟨i + 1, by go_num, by rw [Hn.out]; omega, hb2, ?_⟩, by simp [intOf]; omega⟩
      rw [htk.out, hsn.out]
      exact ho2
    · obtain rfl : i = n := by omega
      have htk : R.take i = R := List.take_of_length_le (by rw [Hn.out]; exact Nat.le_refl _)
      rw [htk] at Ho
      clear hown hbw htk
      go_wp2
      first | exact HPost.out _ _ Ho.out HB.out | (go_ret; exact HPost.out _ _ Ho.out HB.out)
/-- A row of words: nil, or in a block. -/
structure Words (w : World) (a : Option Addr) (xs : List Int) : Prop where
  cell : ∀ i, (h : i < xs.length) → ∃ g o, a = some ⟨g, o, none⟩ ∧ w.cell? ⟨g, o + i, none⟩ = some (.int .u32 xs[i])
  len : xs.length ≤ 9223372036854775807
theorem words_own {w : World} {base : Nat} {v : Value} {xs : List Int} (h : w.ownsRow base 22 1 v xs.length (xs.map encU)) : ∃ a cap, v = .slice a xs.length cap ∧ Words w a xs := by
  rcases h.2 with ⟨rfl, h0⟩ | ⟨g, cap, cur, rfl, _, _, h1, h2, _⟩
  · exact ⟨none, 0, by rw [h0], fun i hi => by omega, by omega⟩
  · refine ⟨_, cap, rfl, fun i hi => ⟨g, 0, rfl, ?_⟩, by unfold maxLen at h2; omega⟩
    rw [Nat.zero_add, World.ownsRow.cellAt h i (by simpa using hi), List.getElem?_map, List.getElem?_eq_getElem hi]; rfl
def swRel (xs ys : List Int) (vi : Value) : Prop := ∃ i : Nat, i ≤ xs.length ∧ vi = .int .i64 i ∧ ∀ j, j < i → xs[j]? = ys[j]?
set_option maxRecDepth 100000 in
theorem sameWords {w : World} {a b : Option Addr} {ca cb : Nat} {xs ys : List Int} (ha : Words w a xs) (hb : Words w b ys) :
    Calls Tryz.prog 82 #[.slice a xs.length ca, .slice b ys.length cb] w fun e w' => e = .returned (.bool (decide (xs = ys))) ∧ Below w.heap.size w w' := by
  have HA := Lib.hid ha
  have HB := Lib.hid hb
  have l1 := ha.len
  have l2 := hb.len
  have HN : Hid (xs ≠ ys → decide (xs = ys) = false) := Lib.hid fun g => decide_eq_false g
  have HY : Hid (xs = ys → decide (xs = ys) = true) := Lib.hid fun g => decide_eq_true g
  generalize decide (xs = ys) = res at *
  clear ha hb
  by_cases hl : xs.length = ys.length
  · have Hl := Lib.hid hl
    generalize hn : xs.length = n at *
    have Hn := Lib.hid hn
    rw [← hl]
    clear hl hn
    go_enter Tryz.func82, Tryz.ntmps82
    go_wp2
    go_loopw [5] (fun vi wr => swRel xs ys vi ∧ Below w.heap.size w wr) (fun vi _ => n - (intOf vi).toNat)
    case atStart => exact ⟨⟨0, by omega, rfl, fun j hj => absurd hj (by omega)⟩, Below.refl _ _⟩
    case round =>
      obtain ⟨⟨i, hi, rfl, hsame⟩, hbel⟩ := hrel
      rw [Hn.out] at hi
      have HB2 := Lib.hid hbel
      have HSm := Lib.hid hsame
      clear hsame
      by_cases hin : i < n
      · have h1 : i < xs.length := by rw [Hn.out]; exact hin
        have h2 : i < ys.length := by rw [← Hl.out]; exact hin
        obtain ⟨g, o, rfl, hc⟩ := HA.out.cell i h1
        obtain ⟨g2, o2, rfl, hc2⟩ := HB.out.cell i h2
        have hgl : g < w.heap.size := by unfold World.cell? at hc; cases hg : w.heap[g]? with | none => rw [hg] at hc; cases hc | some _ => exact lt_of_block hg
        have hgl2 : g2 < w.heap.size := by unfold World.cell? at hc2; cases hg : w.heap[g2]? with | none => rw [hg] at hc2; cases hc2 | some _ => exact lt_of_block hg
        have hc' := (hbel.cell (p := ⟨g, o + i, none⟩) hgl).trans hc
        have hc2' := (hbel.cell (p := ⟨g2, o2 + i, none⟩) hgl2).trans hc2
        have Hx := Lib.hid (show xs[i]? = some xs[i] from List.getElem?_eq_getElem h1)
        have Hy := Lib.hid (show ys[i]? = some ys[i] from List.getElem?_eq_getElem h2)
        generalize xs[i] = x at *
        generalize ys[i] = y at *
        clear hc hc2 hbel
        by_cases hxy : x = y
        · subst hxy
          go_wp2
          go_region
          all_goals
            go_wp2
            refine ⟨⟨⟨i + 1, by rw [Hn.out]; omega, by go_num, fun j hj => ?_⟩, HB2.out.drew⟩, by simp [intOf]; omega⟩
            by_cases e : j = i
            · rw [e, Hx.out, Hy.out]
            · exact HSm.out j (by omega)
        · have hne : (x != y) = true := by simpa using hxy
          have hf := Lib.hid (HN.out fun e => hxy (by have := Hx.out; rw [e, Hy.out] at this; simpa using this.symm))
          go_wp2
          go_region
          all_goals
            go_wp2
            go_ret
            exact ⟨Sp.ret_bool hf.out.symm, HB2.out.drew⟩
      · obtain rfl : i = n := by omega
        have hY := Lib.hid (HY.out (List.ext_getElem? fun j => by
          by_cases hj : j < i
          · exact HSm.out j hj
          · rw [List.getElem?_eq_none (by rw [Hn.out]; omega), List.getElem?_eq_none (by rw [← Hl.out]; omega)]))
        go_wp2
        go_ret
        exact ⟨Sp.ret_bool hY.out.symm, HB2.out⟩
  · have hf := Lib.hid (HN.out fun e => hl (by rw [e]))
    have hne : ((xs.length : Int) != (ys.length : Int)) = true := by rw [bne_iff_ne]; omega
    generalize xs.length = n at *
    generalize ys.length = m at *
    clear hl
    go_enter Tryz.func82, Tryz.ntmps82
    go_wp2
    go_ret
    exact ⟨Sp.ret_bool hf.out.symm, Below.refl _ _⟩
end Go.Proofs.YtkbhokmnbpnlbaaGreat.Rs
