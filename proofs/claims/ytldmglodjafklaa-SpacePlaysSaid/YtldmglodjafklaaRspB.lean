/- The walks of the document's space: Map whole, Unmap, Get. -/
import Derived.Test.YtldmglodjafklaaRspA
namespace Go.Proofs.Ytldmglodjafklaa
open Go.RowKit
set_option linter.unusedVariables false
/-- A step of an object: what it may turn, and where it lies behind. -/
structure RStep (w w' : World) (rb : Nat) (lv : Value) (R : List Rp) (lv' : Value) (R' : List Rp) : Prop where
  sp : Rsp w' rb lv' R'
  mod : Mod (Rsp.foot rb lv R) w w'
  foot : ∀ k, Rsp.foot rb lv' R' k → Rsp.foot rb lv R k ∨ w.heap.size ≤ k
theorem RStep.refl {w : World} {rb : Nat} {lv : Value} {R : List Rp} (h : Rsp w rb lv R) : RStep w w rb lv R lv R := ⟨h, Mod.refl _ _, fun _ g => .inl g⟩
namespace Rs
theorem map_arg {w : World} {rb : Nat} (addr perm : Int) (h0 : 0 ≤ addr) (h1 : addr ≤ 4294967295) (p0 : 0 ≤ perm) (p1 : perm ≤ 255) (hb : Sp.mayB addr = false ∨ 7 < perm) :
    Calls Try.prog 44 #[.pointer (some ⟨rb, 0, none⟩), .int .u32 addr, .int .u8 perm] w fun e w' => e = .returned (.int .i64 2) ∧ w = w' := by
  cases hm : Sp.mayB addr with
  | false =>
    have Hmay := Lib.hid (fun w => may addr h0 h1 w)
    rw [hm] at Hmay
    go_enter Try.func44, Try.ntmps44
    go_wp2_with (go_at_call 60; (with_reducible refine (Hmay.out _).mono ?_); rintro e w1 ⟨rfl, rfl⟩)
    go_ret
    exact ⟨rfl, rfl⟩
  | true =>
    have hp : 7 < perm := by rw [hm] at hb; simpa using hb
    have Hmay := Lib.hid (fun w => may addr h0 h1 w)
    rw [hm] at Hmay
    clear hb
    go_enter Try.func44, Try.ntmps44
    go_wp2_with (go_at_call 60; (with_reducible refine (Hmay.out _).mono ?_); rintro e w1 ⟨rfl, rfl⟩)
    go_ret
    exact ⟨rfl, rfl⟩
theorem map_have {w : World} {rb : Nat} {lv : Value} {R : List Rp} (h : Rsp w rb lv R) (addr perm : Int) (h0 : 0 ≤ addr) (h1 : addr ≤ 4294967295) (p0 : 0 ≤ perm) (p1 : perm ≤ 7) (hm : Sp.mayB addr = true) {p : Pg} (hp : pageAt (rpgs R) addr = some p) :
    Calls Try.prog 44 #[.pointer (some ⟨rb, 0, none⟩), .int .u32 addr, .int .u8 perm] w fun e w' => e = .returned (.int .i64 9) ∧ w = w' := by
  have Hof := Lib.hid (of_some h addr h0 (by omega) hp)
  have Hmay := Lib.hid (fun w => may addr h0 h1 w)
  rw [hm] at Hmay
  clear h hp
  go_enter Try.func44, Try.ntmps44
  go_wp2_with (first | (go_at_call 60; (with_reducible refine (Hmay.out _).mono ?_); rintro e w1 ⟨rfl, rfl⟩) | (go_at_call 49; (with_reducible refine Hof.out.mono ?_); rintro e w1 ⟨rfl, rfl⟩))
  go_ret
  exact ⟨rfl, rfl⟩
/-- Map: behind it there are the pages that 'mapA' says, of some block. -/
theorem map_any {w : World} {rb : Nat} {lv : Value} {R : List Rp} (h : Rsp w rb lv R) (addr perm : Int) (h0 : 0 ≤ addr) (h1 : addr ≤ 4294967295) (p0 : 0 ≤ perm) (p1 : perm ≤ 255) :
    Calls Try.prog 44 #[.pointer (some ⟨rb, 0, none⟩), .int .u32 addr, .int .u8 perm] w fun e w' => ∃ lv' R' blk, e = .returned (.int .i64 (Sp.mapE (rpgs R) addr perm)) ∧ rpgs R' = Sp.mapA (rpgs R) addr blk perm ∧ RStep w w' rb lv R lv' R' := by
  by_cases hb : Sp.mayB addr = false ∨ 7 < perm
  · have e : Sp.mapE (rpgs R) addr perm = 2 := by unfold Sp.mapE; rw [if_pos hb]
    exact (map_arg addr perm h0 h1 p0 p1 hb).mono fun x w' ⟨g1, g2⟩ => ⟨lv, R, 0, by rw [g1, e], by unfold Sp.mapA; rw [e]; rfl, g2 ▸ RStep.refl h⟩
  · have hm : Sp.mayB addr = true := by cases g : Sp.mayB addr with | true => rfl | false => exact absurd (.inl g) hb
    have hp7 : perm ≤ 7 := by omega
    cases hp : pageAt (rpgs R) addr with
    | some p =>
      have e : Sp.mapE (rpgs R) addr perm = 9 := by unfold Sp.mapE; rw [if_neg hb, hp]; rfl
      exact (map_have h addr perm h0 h1 p0 hp7 hm hp).mono fun x w' ⟨g1, g2⟩ => ⟨lv, R, 0, by rw [g1, e], by unfold Sp.mapA; rw [e]; rfl, g2 ▸ RStep.refl h⟩
    | none =>
      have e : Sp.mapE (rpgs R) addr perm = 0 := by unfold Sp.mapE; rw [if_neg hb, hp]; rfl
      refine (map_ok h addr perm h0 h1 p0 hp7 hm hp).mono ?_
      rintro x w' ⟨p, lv', g1, g2, g3, g4, g5, g6⟩
      refine ⟨lv', insR p R, p.pg.blk, by rw [g1, e], ?_, ⟨g4, g6.mono fun k _ g => .inl g, ?_⟩⟩
      · rw [rpgs_insR]
        unfold Sp.mapA
        rw [if_pos e, ← g2]
      · rintro k (g | g | ⟨q, hq, g⟩)
        · exact .inl (.inl g)
        · exact .inr (g5 k g)
        · rcases mem_insR.1 hq with rfl | hq
          · have a1 := g3.1
            have a2 := g3.2
            exact .inr (by rcases g with rfl | rfl <;> omega)
          · exact .inl (.inr (.inr ⟨q, hq, g⟩))
/-! ### Unmap -/
theorem unmap_arg {w : World} {rb : Nat} (addr : Int) (h0 : 0 ≤ addr) (h1 : addr ≤ 4294967295) (hm : Sp.mayB addr = false) :
    Calls Try.prog 45 #[.pointer (some ⟨rb, 0, none⟩), .int .u32 addr] w fun e w' => e = .returned (.int .i64 2) ∧ w = w' := by
  have Hmay := Lib.hid (fun w => may addr h0 h1 w)
  rw [hm] at Hmay
  go_enter Try.func45, Try.ntmps45
  go_wp2_with (go_at_call 60; (with_reducible refine (Hmay.out _).mono ?_); rintro e w1 ⟨rfl, rfl⟩)
  go_ret
  exact ⟨rfl, rfl⟩
theorem unmap_none {w : World} {rb : Nat} {lv : Value} {R : List Rp} (h : Rsp w rb lv R) (addr : Int) (h0 : 0 ≤ addr) (h1 : addr ≤ 4294967295) (hm : Sp.mayB addr = true) (hp : pageAt (rpgs R) addr = none) :
    Calls Try.prog 45 #[.pointer (some ⟨rb, 0, none⟩), .int .u32 addr] w fun e w' => e = .returned (.int .i64 3) ∧ w = w' := by
  have Hof := Lib.hid (of_none h addr h0 (by omega) hp)
  have Hmay := Lib.hid (fun w => may addr h0 h1 w)
  rw [hm] at Hmay
  clear h hp
  go_enter Try.func45, Try.ntmps45
  go_wp2_with (first | (go_at_call 60; (with_reducible refine (Hmay.out _).mono ?_); rintro e w1 ⟨rfl, rfl⟩) | (go_at_call 49; (with_reducible refine Hof.out.mono ?_); rintro e w1 ⟨rfl, rfl⟩))
  go_ret
  exact ⟨rfl, rfl⟩
def delR (a : Int) (R : List Rp) : List Rp := R.filter fun q => q.pg.addr != a
theorem rpgs_delR (a : Int) (R : List Rp) : rpgs (delR a R) = delPg a (rpgs R) := by
  unfold rpgs delR delPg
  rw [List.filter_map]
  rfl
theorem mem_delR {a : Int} {R : List Rp} {q : Rp} : q ∈ delR a R → q ∈ R := fun h => (List.mem_filter.1 h).1
theorem delR_app (a : Int) (l : List Rp) (q : Rp) : delR a (l ++ [q]) = delR a l ++ (if q.pg.addr != a then [q] else []) := by
  unfold delR
  rw [List.filter_append, List.filter_cons]
  rfl
def umRel (w : World) (R : List Rp) (addr : Int) (vl vi : Value) (wr : World) : Prop :=
  ∃ i : Nat, vi = .int .i64 i ∧ i ≤ R.length ∧ Below w.heap.size w wr ∧ wr.ownsRow w.heap.size 102 1 vl (delR addr (R.take i)).length ((delR addr (R.take i)).map Rp.ptr)
theorem own_shape {W : World} {base n : Nat} {e : TypeId} {v : Value} {xs : List Value} (h : W.ownsRow base e 1 v n xs) : ∃ a c, v = .slice a n c := by
  rcases h.2 with ⟨rfl, rfl⟩ | ⟨g, cap, cur, rfl, _⟩
  · exact ⟨_, _, rfl⟩
  · exact ⟨_, _, rfl⟩
set_option maxRecDepth 100000 in
set_option maxHeartbeats 4000000 in
theorem unmap_ok {w : World} {rb : Nat} {lv : Value} {R : List Rp} (h : Rsp w rb lv R) (addr : Int) (h0 : 0 ≤ addr) (h1 : addr ≤ 4294967295) (hm : Sp.mayB addr = true) {p : Pg} (hp : pageAt (rpgs R) addr = some p) :
    Calls Try.prog 45 #[.pointer (some ⟨rb, 0, none⟩), .int .u32 addr] w fun e w' => ∃ lv', e = .returned (.int .i64 0) ∧ RStep w w' rb lv R lv' (delR addr R) := by
  have hln := h.len
  obtain ⟨i0, hi0, hz0, hz1, hz2⟩ := info_parts infoPg
  have Hi := Lib.hid hi0
  have Hz0 := Lib.hid hz0
  have Hz1 := Lib.hid hz1
  have Hz2 := Lib.hid hz2
  obtain ⟨n, hn⟩ : ∃ n, R.length = n := ⟨_, rfl⟩
  have Hn := Lib.hid hn
  rw [hn] at hln
  have Hof := Lib.hid (of_some h addr h0 (by omega) hp)
  have H := Lib.hid h
  obtain ⟨a, cap, hlv, hrow, _⟩ := h.row
  have Hrow := Lib.hid hrow
  have hc0 := h.cellHead
  rw [hlv, hn] at hc0
  have Hlv := Lib.hid hlv
  have Hc0 := Lib.hid hc0
  have Hf0 := Lib.hid (show w.frozen? ⟨rb, 0, none⟩ = false by have := h.head; unfold World.frozen?; rw [this]; rfl)
  have hrb : rb < w.heap.size := lt_of_block h.head
  have Hmay := Lib.hid (fun w => may addr h0 h1 w)
  rw [hm] at Hmay
  clear h hp hi0 hz0 hz1 hz2 hn hm hrow hc0 hlv
  go_enter Try.func45, Try.ntmps45
  go_wp2_with (first | (go_at_call 60; (with_reducible refine (Hmay.out _).mono ?_); rintro e w1 ⟨rfl, rfl⟩) | (go_at_call 49; (with_reducible refine Hof.out.mono ?_); rintro e w1 ⟨rfl, rfl⟩))
  go_loopw [5, 6] (fun vl vi wr => umRel w R addr vl vi wr) (fun _ vi _ => n - (intOf vi).toNat)
  case atStart => exact ⟨0, by go_num, Nat.zero_le _, Below.refl _ _, World.ownsRow_nil _ _ _ _⟩
  case round =>
    obtain ⟨i, rfl, hi, hbw, hown⟩ := hrel
    rw [Hn.out] at hi
    have hsz := hbw.size
    have hc : wr.cell? ⟨rb, 0, none⟩ = some (.slice a n cap) := (hbw.cell hrb).trans Hc0.out
    have HB := Lib.hid hbw
    have HS := Lib.hid (H.out.below hbw fun k hk => H.out.lt hk)
    have Ho := Lib.hid hown
    have hle : (delR addr (R.take i)).length ≤ 4096 := Nat.le_trans (List.length_filter_le _ _) (by rw [List.length_take]; omega)
    by_cases hin : i < n
    · have hin2 : i < R.length := by rw [Hn.out]; exact hin
      obtain ⟨g, rfl, hcell⟩ := Hrow.out (by rw [Hn.out]; omega)
      have hci0 : w.cell? ⟨g, i, none⟩ = some (R[i]).ptr := hcell i _ (List.getElem?_eq_getElem hin2)
      have hg : g < w.heap.size := H.out.lt (.inr (.inl (by rw [Hlv.out]; rfl)))
      have hci : wr.cell? ⟨g, i, none⟩ = some (R[i]).ptr := (hbw.cell hg).trans hci0
      have hpg := HS.out.pages R[i] (List.getElem_mem hin2)
      obtain ⟨c0, _, _⟩ := hpg.cells
      have htk := Lib.hid (List.take_succ_eq_append_getElem hin2)
      have hdr := Lib.hid (delR_app addr (R.take i) R[i])
      unfold Rp.ptr at hci
      generalize hdl : (delR addr (R.take i)).length = dl at *
      have Hdl := Lib.hid hdl
      clear hown hbw hpg hcell hci0 hdl
      by_cases hne : R[i].pg.addr = addr
      · have Hne := Lib.hid hne
        have hne2 : (R[i].pg.addr != addr) = false := by simpa using hne
        clear hne
        go_wp2
        refine ⟨⟨i + 1, by go_num, by rw [Hn.out]; omega, HB.out, ?_⟩, by simp [intOf]; omega⟩
        rw [htk.out, hdr.out, hne2, if_neg (by decide), List.append_nil, Hdl.out]
        exact Ho.out
      · have hne2 : (R[i].pg.addr != addr) = true := by simpa using hne
        clear hne
        go_wp2_with (at_builtin; go_loud (refine wpList_append_own _ rfl _ _ 53 rfl w.heap.size 102 i0 (.pointer none) 1 8 Try.underlying53 Hi.out Hz0.out Hz1.out Hz2.out rfl (by decide) _ _ _ rfl (Ho.out.alloc _) ⟨wr.heap.size, 0, none⟩ 1 1 [.pointer (some ⟨R[i].pg.blk, 0, none⟩)] rfl rfl (cell_one_new _ _ _) (by simp [Value.oneCell']) (by unfold maxLen; omega) (by omega) (by simp; omega) ?_); intro v2 w2 ho2 hg2 _; have hb2 := own_below (HB.out.alloc hsz _) (by simp; omega) (Ho.out.alloc _) hg2)
        refine ⟨⟨i + 1, by go_num, by rw [Hn.out]; omega, hb2, ?_⟩, by simp [intOf]; omega⟩
        rw [htk.out, hdr.out, hne2, if_pos rfl, List.length_append, List.map_append, Hdl.out]
        exact ho2
    · obtain rfl : i = n := by omega
      have htk : R.take i = R := List.take_of_length_le (by rw [Hn.out]; exact Nat.le_refl _)
      have hfz : wr.frozen? ⟨rb, 0, none⟩ = false := (hbw.frozen (p := ⟨rb, 0, none⟩) hrb).trans Hf0.out
      rw [htk] at Ho
      obtain ⟨a1, c1, rfl⟩ := own_shape Ho.out
      have fin : RStep w (wr.setCell ⟨rb, 0, none⟩ (.slice a1 (delR addr R).length c1)) rb lv R (.slice a1 (delR addr R).length c1) (delR addr R) := by
        refine ⟨rsp_store HS.out Ho.out (fun q hq => HS.out.pages q (mem_delR hq)) ?_ (H.out.bbs.filter _), ((Mod.of_below HB.out (fun k => k = rb)).setCell _ (.inl rfl) _).mono fun k _ g => .inl g, ?_⟩
        · rw [rpgs_delR]
          exact List.Pairwise.filter _ H.out.up
        · rintro k (g | g | ⟨q, hq, g⟩)
          · exact .inl (.inl g)
          · exact .inr (Ho.out.lt k g).1
          · exact .inl (.inr (.inr ⟨q, mem_delR hq, g⟩))
      have Fin := Lib.hid fin
      clear fin hown hbw htk
      generalize (delR addr R).length = m at *
      go_wp2
      go_ret
      exact ⟨_, rfl, Fin.out⟩
theorem unmap_any {w : World} {rb : Nat} {lv : Value} {R : List Rp} (h : Rsp w rb lv R) (addr : Int) (h0 : 0 ≤ addr) (h1 : addr ≤ 4294967295) :
    Calls Try.prog 45 #[.pointer (some ⟨rb, 0, none⟩), .int .u32 addr] w fun e w' => ∃ lv' R', e = .returned (.int .i64 (Sp.unmapE (rpgs R) addr)) ∧ rpgs R' = Sp.unmapA (rpgs R) addr ∧ RStep w w' rb lv R lv' R' := by
  cases hm : Sp.mayB addr with
  | false =>
    have e : Sp.unmapE (rpgs R) addr = 2 := by unfold Sp.unmapE; rw [if_pos hm]
    exact (unmap_arg addr h0 h1 hm).mono fun x w' ⟨g1, g2⟩ => ⟨lv, R, by rw [g1, e], by unfold Sp.unmapA; rw [e]; rfl, g2 ▸ RStep.refl h⟩
  | true =>
    cases hp : pageAt (rpgs R) addr with
    | none =>
      have e : Sp.unmapE (rpgs R) addr = 3 := by unfold Sp.unmapE; rw [hm, hp]; rfl
      exact (unmap_none h addr h0 h1 hm hp).mono fun x w' ⟨g1, g2⟩ => ⟨lv, R, by rw [g1, e], by unfold Sp.unmapA; rw [e]; rfl, g2 ▸ RStep.refl h⟩
    | some p =>
      have e : Sp.unmapE (rpgs R) addr = 0 := by unfold Sp.unmapE; rw [hm, hp]; rfl
      exact (unmap_ok h addr h0 h1 hm hp).mono fun x w' ⟨lv', g1, g2⟩ => ⟨lv', _, by rw [g1, e], by unfold Sp.unmapA; rw [if_pos e, rpgs_delR], g2⟩
end Rs
end Go.Proofs.Ytldmglodjafklaa
