/- The walk of the document's space's Put. -/
import Derived.Test.YtldmglodjafklaaRspC
namespace Go.Proofs.Ytldmglodjafklaa
open Go.RowKit
set_option linter.unusedVariables false
def setRp (x v : Int) (q : Rp) : Rp := { q with pg := setPg x v q.pg }
def setR (R : List Rp) (x v : Int) : List Rp := R.map (setRp x v)
theorem rpgs_setR (R : List Rp) (x v : Int) : rpgs (setR R x v) = setByte (rpgs R) x v := by
  unfold rpgs setR setByte
  rw [List.map_map, List.map_map]
  rfl
theorem ptrs_setR (R : List Rp) (x v : Int) : (setR R x v).map Rp.ptr = R.map Rp.ptr := by
  unfold setR
  rw [List.map_map]
  refine List.map_congr_left fun q _ => ?_
  show Value.pointer (some ⟨(setPg x v q.pg).blk, 0, none⟩) = _
  rw [setPg_blk]; rfl
theorem Rsp.foot_set {rb : Nat} {lv : Value} {R : List Rp} {x v : Int} {k : Nat} : Rsp.foot rb lv (setR R x v) k ↔ Rsp.foot rb lv R k := by
  unfold Rsp.foot
  refine or_congr Iff.rfl (or_congr Iff.rfl ⟨?_, ?_⟩)
  · rintro ⟨q', hq', h⟩
    obtain ⟨q, hq, rfl⟩ := List.mem_map.1 hq'
    exact ⟨q, hq, by simpa [setRp, setPg_blk] using h⟩
  · rintro ⟨q, hq, h⟩
    exact ⟨setRp x v q, List.mem_map.2 ⟨q, hq, rfl⟩, by simpa [setRp, setPg_blk] using h⟩
theorem bb_ne_of {R : List Rp} (h : R.Pairwise fun p q => p.bb ≠ q.bb) : ∀ {p q : Rp}, p ∈ R → q ∈ R → p ≠ q → p.bb ≠ q.bb := by
  induction R with
  | nil => intro p q hp; simp at hp
  | cons a r ih =>
    intro p q hp hq he
    rw [List.pairwise_cons] at h
    rcases List.mem_cons.1 hp with rfl | hp'
    · rcases List.mem_cons.1 hq with rfl | hq'
      · exact absurd rfl he
      · exact h.1 q hq'
    · rcases List.mem_cons.1 hq with rfl | hq'
      · exact fun e => h.1 p hp' e.symm
      · exact ih h.2 hp' hq' he
theorem rp_eq_of_up {R : List Rp} (h : (rpgs R).Pairwise fun p q => p.addr < q.addr) : ∀ {p q : Rp}, p ∈ R → q ∈ R → p.pg.addr = q.pg.addr → p = q := by
  induction R with
  | nil => intro p q hp; simp at hp
  | cons a r ih =>
    intro p q hp hq he
    have h' : (∀ b, b ∈ rpgs r → a.pg.addr < b.addr) ∧ (rpgs r).Pairwise fun p q => p.addr < q.addr := List.pairwise_cons.1 h
    rcases List.mem_cons.1 hp with rfl | hp'
    · rcases List.mem_cons.1 hq with rfl | hq'
      · rfl
      · have := h'.1 q.pg (List.mem_map.2 ⟨q, hq', rfl⟩); omega
    · rcases List.mem_cons.1 hq with rfl | hq'
      · have := h'.1 p.pg (List.mem_map.2 ⟨p, hp', rfl⟩); omega
      · exact ih h'.2 hp' hq' he
theorem RPage.setByte {w : World} {q : Rp} (h : RPage w q) {x v : Int} (hx : q.pg.addr = x - x % 256) {j : Nat} (hj : x % 256 = j) (v0 : 0 ≤ v) (v1 : v < 256) : RPage (w.setCell ⟨q.bb, j, none⟩ (.int .u8 v)) (setRp x v q) := by
  obtain ⟨cur, hb, hs, hc⟩ := h.data
  have hne : q.pg.blk ≠ q.bb := by
    intro e
    have := h.page
    rw [e, hb] at this
    simp at this
  have hpl := h.ok.len
  have h1 := h.cap1
  refine ⟨?_, ⟨_, heap_setCell_same w q.bb j cur _ _ hb, (Array.size_setIfInBounds ..).trans hs, fun i hi => ?_⟩, h.cap1, h.cap2, setPg_ok x v q.pg h.ok v0 v1⟩
  · show (w.setCell ⟨q.bb, j, none⟩ (.int .u8 v)).heap[(setPg x v q.pg).blk]? = some (.cells #[.int .u32 (setPg x v q.pg).addr, .int .u8 (setPg x v q.pg).perm, _] _ _)
    rw [setPg_blk, setPg_addr, setPg_perm, Below.heap_setCell _ _ _ _ hne]
    exact h.page
  · have e : (setRp x v q).pg.bytes = q.pg.bytes.set j v := by
      show (setPg x v q.pg).bytes = _
      unfold setPg
      rw [if_pos (by simpa using hx), hj]; rfl
    rw [e]
    by_cases g : i = j
    · subst g
      rw [Array.getElem?_setIfInBounds_self_of_lt (by omega)]
      simp [List.getD, hpl, hi]
    · rw [Array.getElem?_setIfInBounds_ne (fun e => g e.symm), hc i hi]
      simp only [List.getD]
      rw [List.getElem?_set_ne fun e => g e.symm]
theorem setRp_other {x v : Int} {q : Rp} (h : q.pg.addr ≠ x - x % 256) : setRp x v q = q := by
  unfold setRp setPg
  rw [if_neg (by simpa using h)]
theorem Rsp.setByte {w : World} {rb : Nat} {lv : Value} {R : List Rp} (h : Rsp w rb lv R) {x v : Int} {p : Rp} (hp : p ∈ R) (hx : p.pg.addr = x - x % 256) {j : Nat} (hj : x % 256 = j) (v0 : 0 ≤ v) (v1 : v < 256) :
    Rsp (w.setCell ⟨p.bb, j, none⟩ (.int .u8 v)) rb lv (setR R x v) := by
  obtain ⟨cur, hb, _⟩ := (h.pages p hp).data
  have hne : ∀ k, k ≠ p.bb → (w.setCell ⟨p.bb, j, none⟩ (.int .u8 v)).heap[k]? = w.heap[k]? := fun k hk => Below.heap_setCell _ _ _ _ hk
  refine ⟨?_, ?_, ?_, ?_, ?_⟩
  · rw [hne]
    · exact h.head
    · intro e
      have := h.head
      rw [e, hb] at this
      simp at this
  · have hl : (setR R x v).length = R.length := List.length_map ..
    rw [ptrs_setR, hl]
    exact row_keep h.list fun k hk => hne k fun e => own_ne h.list hb (by decide) (e ▸ hk)
  · intro q' hq'
    obtain ⟨q, hq, rfl⟩ := List.mem_map.1 hq'
    by_cases e : q.pg.addr = x - x % 256
    · obtain rfl : q = p := rp_eq_of_up h.up hq hp (by rw [e, hx])
      exact (h.pages q hq).setByte e hj v0 v1
    · rw [setRp_other e]
      refine (h.pages q hq).keep (hne _ fun g => ?_) (hne _ (bb_ne_of h.bbs hq hp fun g => e (by rw [g, hx])))
      have := (h.pages q hq).page
      rw [g, hb] at this
      simp at this
  · show (rpgs (setR R x v)).Pairwise _
    rw [rpgs_setR]
    unfold Proofs.Ytldmglodjafklaa.setByte
    rw [List.pairwise_map]
    have := h.up
    unfold rpgs
    simpa only [setPg_addr] using this
  · unfold setR
    rw [List.pairwise_map]
    exact h.bbs
def putR (R : List Rp) (addr : Int) (xs : List Int) : Nat → List Rp
  | 0 => R
  | k + 1 => setR (putR R addr xs k) (addr + k) (xs.getD k 0)
theorem rpgs_putR (R : List Rp) (addr : Int) (xs : List Int) (k : Nat) : rpgs (putR R addr xs k) = putN (rpgs R) addr xs k := by
  induction k with
  | zero => rfl
  | succ k ih => show rpgs (setR _ _ _) = Proofs.Ytldmglodjafklaa.setByte _ _ _; rw [rpgs_setR, ih]
theorem foot_putR {rb : Nat} {lv : Value} {R : List Rp} {addr : Int} {xs : List Int} {n k : Nat} : Rsp.foot rb lv (putR R addr xs n) k ↔ Rsp.foot rb lv R k := by
  induction n with
  | zero => exact Iff.rfl
  | succ n ih => exact Rsp.foot_set.trans ih
namespace Rs
def pfRel (A : List Pg) (addr : Int) (n : Nat) (need : Int) (vi : Value) : Prop := ∃ k : Nat, k ≤ n ∧ vi = .int .i64 k ∧ Sp.fitsB A addr k need = true
def ppRel (rb : Nat) (lv : Value) (R : List Rp) (addr : Int) (s : ByteArray) (w : World) (vi : Value) (wr : World) : Prop :=
  ∃ k : Nat, k ≤ s.size ∧ vi = .int .i64 k ∧ Rsp wr rb lv (putR R addr (nums s) k) ∧ Mod (Rsp.foot rb lv R) w wr
set_option maxRecDepth 100000 in
set_option maxHeartbeats 4000000 in
theorem put_in {w : World} {rb : Nat} {lv : Value} {R : List Rp} (h : Rsp w rb lv R) (addr need : Int) (s : ByteArray) (h0 : 0 ≤ addr) (h1 : addr ≤ 4294967295) (hn : s.size ≤ 140737488355328) (n0 : 0 ≤ need) (n1 : need ≤ 255) :
    Calls Try.prog 46 #[.pointer (some ⟨rb, 0, none⟩), .int .u32 addr, .string s, .int .u8 need] w fun e w' => ∃ R', e = .returned (.int .i64 (Sp.fitsE (rpgs R) addr s.size need)) ∧ rpgs R' = Sp.putA (rpgs R) addr need s ∧ RStep w w' rb lv R lv R' := by
  have HNo : Hid (Sp.fitsB (rpgs R) addr s.size need = false → ∃ R', Ending.returned (.int .i64 50) = .returned (.int .i64 (Sp.fitsE (rpgs R) addr s.size need)) ∧ rpgs R' = Sp.putA (rpgs R) addr need s ∧ RStep w w rb lv R lv R') :=
    Lib.hid fun g => ⟨R, by rw [Sp.fitsE_no g], by unfold Sp.putA; rw [g]; rfl, RStep.refl h⟩
  have HYes : Hid (∀ wr, Sp.fitsB (rpgs R) addr s.size need = true → Rsp wr rb lv (putR R addr (nums s) s.size) → Mod (Rsp.foot rb lv R) w wr → ∃ R', Ending.returned (.int .i64 0) = .returned (.int .i64 (Sp.fitsE (rpgs R) addr s.size need)) ∧ rpgs R' = Sp.putA (rpgs R) addr need s ∧ RStep w wr rb lv R lv R') :=
    Lib.hid fun wr g hr hm => ⟨_, by rw [Sp.fitsE_yes g], by unfold Sp.putA; rw [if_pos g, rpgs_putR], ⟨hr, hm, fun k hk => .inl (foot_putR.1 hk)⟩⟩
  generalize hPQ : (fun (e : Ending) w' => ∃ R', e = .returned (.int .i64 (Sp.fitsE (rpgs R) addr s.size need)) ∧ rpgs R' = Sp.putA (rpgs R) addr need s ∧ RStep w w' rb lv R lv R') = PQ at *
  have HPQ := Lib.hid hPQ
  have H := Lib.hid h
  clear h hPQ
  go_enter Try.func46, Try.ntmps46
  go_wp2
  go_loop [9, 10] (fun vi _ => pfRel (rpgs R) addr s.size need vi) (fun vi _ => s.size - (intOf vi).toNat)
  case atStart => exact ⟨0, by omega, rfl, rfl⟩
  case round =>
    obtain ⟨k, hk, rfl, hfit⟩ := hrel
    have Hf := Lib.hid hfit
    clear hfit
    by_cases hk2 : k < s.size
    · cases hp : pageAt (rpgs R) (addr + k) with
      | none =>
        have Hno := Lib.hid (HNo.out (Sp.fitsB_false (A := rpgs R) (need := need) hk2 (by unfold Sp.okAt; rw [hp])))
        have Hof : Hid _ := Lib.hid (of_none H.out (addr + k) (by omega) (by omega) hp)
        clear hp
        go_wp2_with (go_at_call 49; (with_reducible refine Hof.out.mono ?_); rintro e w1 ⟨rfl, rfl⟩)
        rw [← HPQ.out]
        exact Hno.out
      | some p =>
        obtain ⟨q, hq, rfl, hpa⟩ := page_of H.out hp
        obtain ⟨c0, c1, c2⟩ := (H.out.pages q hq).cells
        have hok := (H.out.pages q hq).ok
        have b1 := hok.a1
        have hof := of_some H.out (addr + k) (by omega) (by omega) hp
        have Hof := Lib.hid hof
        by_cases hb : (bits .and .u8 q.pg.perm need == need) = true
        · have Hs := Lib.hid (show Sp.fitsB (rpgs R) addr (k + 1) need = true by rw [Sp.fitsB_succ, Hf.out]; unfold Sp.okAt; rw [hp]; simpa using hb)
          have hb2 : (bits .and .u8 q.pg.perm need != need) = false := by rw [bne, hb]; rfl
          clear hp hb hof hok hpa
          go_wp2_with (go_at_call 49; (with_reducible refine Hof.out.mono ?_); rintro e w1 ⟨rfl, rfl⟩)
          go_round
          case rel => exact ⟨k + 1, by omega, by go_num, Hs.out⟩
          case measure => simp [intOf] <;> omega
        · have hb' : (bits .and .u8 q.pg.perm need == need) = false := by simpa using hb
          have Hno := Lib.hid (HNo.out (Sp.fitsB_false (A := rpgs R) (need := need) hk2 (by unfold Sp.okAt; rw [hp]; exact hb')))
          have hb2 : (bits .and .u8 q.pg.perm need != need) = true := by rw [bne, hb']; rfl
          clear hp hb hb' hof hok hpa
          go_wp2_with (go_at_call 49; (with_reducible refine Hof.out.mono ?_); rintro e w1 ⟨rfl, rfl⟩)
          rw [← HPQ.out]
          exact Hno.out
    · obtain rfl : k = s.size := by omega
      go_wp2
      go_loopw [11, 12, 13] (fun vi _ _ wr => ppRel rb lv R addr s w vi wr) (fun vi _ _ _ => s.size - (intOf vi).toNat)
      case atStart => exact ⟨0, by omega, rfl, H.out, Mod.refl _ _⟩
      case round =>
        obtain ⟨k, hk, rfl, hsp, hm⟩ := hrel
        have Hm := Lib.hid hm
        have HS := Lib.hid hsp
        by_cases hk2 : k < s.size
        · have hokk := Sp.fitsB_at hk2 Hf.out
          cases hp0 : pageAt (rpgs R) (addr + k) with
          | none => unfold Sp.okAt at hokk; rw [hp0] at hokk; cases hokk
          | some p0 =>
            obtain ⟨p, hp, hpb, hpp, hpa⟩ := pageAt_putN_some hp0 addr (nums s) k
            rw [← rpgs_putR] at hp
            obtain ⟨q, hq, rfl, hqa⟩ := page_of hsp hp
            have hpg := hsp.pages q hq
            have hok := hpg.ok
            have b0 := hok.a0
            have b1 := hok.a1
            obtain ⟨c0, c1, c2⟩ := hpg.cells
            have Hof := Lib.hid (of_some hsp (addr + k) (by omega) (by omega) hp)
            obtain ⟨j, hj⟩ : ∃ j : Nat, addr + (k : Int) - q.pg.addr = j := ⟨(addr + (k : Int) - q.pg.addr).toNat, by omega⟩
            have hcb := hpg.byte j (by omega)
            have hfr := hpg.free j
            have hxb := byte_bd (s[k]'hk2)
            rw [nums_get s k hk2] at hxb
            have Hst : Hid (Rsp (wr.setCell ⟨q.bb, j, none⟩ (.int .u8 ((nums s).getD k 0))) rb lv (putR R addr (nums s) (k + 1))) := Lib.hid (hsp.setByte hq hqa (show (addr + (k : Int)) % 256 = j by omega) hxb.1 hxb.2)
            have Hft : Hid (Rsp.foot rb lv R q.bb) := Lib.hid (foot_putR.1 (.inr (.inr ⟨q, hq, .inr rfl⟩)))
            have c16 := hpg.cap2
            have c15 := hpg.cap1
            unfold maxLen at c16
            have hix : ∀ w, (Instr.index 9 (.string s) (.int .i64 k)).run Try.prog w = .ok (.int .u8 ((nums s).getD k 0)) w := by rw [← nums_get s k hk2]; intro w; go_simp
            clear hp hpg hok hokk hp0 hsp hm hpb hpp hpa
            generalize (nums s).getD k 0 = x at *
            generalize q.pg.perm = qp at *
            generalize q.pg.addr = qa at *
            generalize q.pg.bytes.getD j 0 = xo at *
            generalize hqb : q.pg.blk = qb at *
            generalize hqc : q.bb = qc at *
            generalize hqd : q.cap = qd at *
            clear hqb hqc hqd
            have x1 : IntKind.u64.wrap addr = addr := Sp.wrap64 (by omega) (by omega)
            have x2 : IntKind.u64.wrap (k : Int) = k := Sp.wrap64 (by omega) (by omega)
            have x3 : IntKind.u64.wrap (addr + (k : Int)) = addr + k := Sp.wrap64 (by omega) (by omega)
            have x4 : IntKind.u64.wrap qa = qa := Sp.wrap64 (by omega) (by omega)
            have x5 : IntKind.u64.wrap (addr + (k : Int) - qa) = j := by rw [hj]; exact Sp.wrap64 (by omega) (by omega)
            have x6 : (j : Int) < 256 := by omega
            have Hpa := Lib.hid hqa
            have Hj := Lib.hid hj
            clear hqa hj
            go_wp2_with (go_at_call 49; (with_reducible refine Hof.out.mono ?_); rintro e w1 ⟨rfl, rfl⟩)
            go_region
            all_goals
              go_wp2
              refine ⟨⟨k + 1, by omega, by go_num, Hst.out.same (Below.refl _ _).drew, (Hm.out.setCell _ (.inl Hft.out) _).drew⟩, by simp [intOf]; omega⟩
        · obtain rfl : k = s.size := by omega
          have Hy := Lib.hid (HYes.out wr Hf.out hsp hm)
          clear hsp hm
          go_wp2
          rw [← HPQ.out]
          exact Hy.out
end Rs
end Go.Proofs.Ytldmglodjafklaa
