/- EnvN: EnvY, EnvZ, EnvN in one text. -/
import Derived.Test.YtkbhokmnbpnlbaaGreatEnvW
import Derived.Test.YtkbhokmnbpnlbaaGreatSpcY
/- The walks of an environment's methods, third part: Page, Drop, Own, Put, Arg, Answer. -/
namespace Go.Proofs.YtkbhokmnbpnlbaaGreat
open Go.RowKit Word
set_option linter.unusedVariables false
set_option linter.unusedSimpArgs false
namespace Ev
section
variable {w : World} {a : EAt} {E : En}
theorem reg_bad {cb : Nat} (w : World) (n : Int) (hn : n < 0 ∨ 16 ≤ n) : Calls Tryz.prog 80 #[.pointer (some ⟨cb, 0, none⟩), .int .i64 n] w fun e w' => e = .returned (.tuple #[.int .u32 0, .int .i64 2]) ∧ w = w' := by
  cases g0 : decide (n < 0) with
  | true =>
    go_enter Tryz.func80, Tryz.ntmps80
    go_wp2
    go_ret2
    exact ⟨rfl, rfl⟩
  | false =>
    have g1 : decide ((16 : Int) ≤ n) = true := decide_eq_true (by have := of_decide_eq_false g0; omega)
    go_enter Tryz.func80, Tryz.ntmps80
    go_wp2
    go_ret2
    exact ⟨rfl, rfl⟩
theorem own (h : Env w a E) : Calls Tryz.prog 64 #[.pointer (some ⟨a.eb, 0, none⟩)] w fun e w' => ∃ v, e = .returned v ∧ Sl.Lst w' v E.own ∧ (∀ b, v.ownBlock = some b → w.heap.size ≤ b) ∧ Below w.heap.size w w' := by
  obtain ⟨_, c1, _⟩ := cells h
  have HC := Lib.hid (Sl.clone h.ls h.ok.len)
  obtain ⟨lv, hlv⟩ : ∃ lv, a.lv = lv := ⟨_, rfl⟩
  rw [hlv] at c1 HC
  clear h hlv
  go_enter Tryz.func64, Tryz.ntmps64
  go_wp2_with fail
  refine HC.out.mono ?_
  rintro e w2 ⟨v, rfl, h1, h2, h3⟩
  have HP := Lib.hid (⟨h1, h2, h3⟩ : Sl.Lst w2 v E.own ∧ (∀ b, v.ownBlock = some b → w.heap.size ≤ b) ∧ Below w.heap.size w w2)
  clear h1 h2 h3
  go_wp2
  go_ret
  exact ⟨v, rfl, HP.out⟩
theorem own_nil (w : World) : Calls Tryz.prog 64 #[.pointer none] w fun e w' => e = .returned (.slice none 0 0) ∧ w = w' := by
  go_enter Tryz.func64, Tryz.ntmps64
  go_wp2
  go_ret
  exact ⟨rfl, rfl⟩
theorem arg (h : Env w a E) (n : Int) (n0 : -9223372036854775808 ≤ n) (n1 : n ≤ 9223372036854775807) : Calls Tryz.prog 32 #[.pointer (some ⟨a.eb, 0, none⟩), .int .i64 n] w fun e w' => e = .returned (.int .u32 (E.arg n)) ∧ w = w' := by
  obtain ⟨_, _, c2, _⟩ := cells h
  have HR : Hid (Calls Tryz.prog 80 #[.pointer (some ⟨a.cb, 0, none⟩), .int .i64 n] w fun e w' => ∃ y, e = .returned (.tuple #[.int .u32 (E.arg n), .int .i64 y]) ∧ w = w') := by
    unfold En.arg
    by_cases g : 0 ≤ n ∧ n < 16
    · rw [if_pos g]
      obtain ⟨m, rfl⟩ := Int.eq_ofNat_of_zero_le g.1
      exact Lib.hid ((Cp.reg_ok h.cp m (by omega)).mono fun e w' ⟨g1, g2⟩ => ⟨0, g1, g2⟩)
    · rw [if_neg g]
      exact Lib.hid ((reg_bad w n (by omega)).mono fun e w' ⟨g1, g2⟩ => ⟨2, g1, g2⟩)
  generalize E.arg n = v at *
  clear h
  go_enter Tryz.func32, Tryz.ntmps32
  go_wp2_with fail
  refine HR.out.mono ?_
  rintro e w2 ⟨y, rfl, rfl⟩
  go_wp2
  go_ret
  exact ⟨rfl, rfl⟩
theorem arg_nil (n : Int) (w : World) : Calls Tryz.prog 32 #[.pointer none, .int .i64 n] w fun e w' => e = .returned (.int .u32 0) ∧ w = w' := by
  go_enter Tryz.func32, Tryz.ntmps32
  go_wp2
  go_ret
  exact ⟨rfl, rfl⟩
theorem answer (h : Env w a E) (v y : Int) (v0 : 0 ≤ v) (v1 : v ≤ 4294967295) (y0 : 0 ≤ y) (y1 : y ≤ 4294967295) : Calls Tryz.prog 28 #[.pointer (some ⟨a.eb, 0, none⟩), .int .u32 v, .int .u32 y] w fun e w' => e = .returned (.int .i64 0) ∧ EStep w w' a E a (E.answer v y) := by
  have H := Lib.hid h
  have hc := Cp.setReg_ok h.cp 1 (by omega) v v0 v1
  obtain ⟨_, _, c2, _⟩ := cells h
  have HC := Lib.hid hc
  clear h hc
  go_enter Tryz.func28, Tryz.ntmps28
  go_wp2_with fail
  refine HC.out.mono ?_
  rintro e w2 ⟨rfl, hc2, hm2⟩
  have hs2 := EStep.regs H.out hc2 hm2
  have HS2 := Lib.hid hs2
  have HC2 := Lib.hid (Cp.setReg_ok hs2.env.cp 2 (by omega) y y0 y1)
  obtain ⟨_, _, d2, _⟩ := cells hs2.env
  clear hc2 hm2 hs2
  go_wp2_with fail
  refine HC2.out.mono ?_
  rintro e w3 ⟨rfl, hc3, hm3⟩
  have HS3 := Lib.hid (HS2.out.trans (EStep.regs HS2.out.env hc3 hm3))
  clear hc3 hm3
  go_wp2
  go_ret
  exact ⟨rfl, HS3.out⟩
theorem answer_nil (v y : Int) (w : World) : Calls Tryz.prog 28 #[.pointer none, .int .u32 v, .int .u32 y] w fun e w' => e = .returned (.int .i64 1) ∧ w = w' := by
  go_enter Tryz.func28, Tryz.ntmps28
  go_wp2
  go_ret
  exact ⟨rfl, rfl⟩
theorem put (h : Env w a E) (s : ByteArray) (hs : s.size ≤ 140737488355328) : Calls Tryz.prog 27 #[.pointer (some ⟨a.eb, 0, none⟩), .string s] w fun e w' => e = .returned (.int .i64 (E.putE s)) ∧ EStep w w' a E a (E.put s) := by
  have HR := Lib.hid (ready h)
  obtain ⟨_, _, _, _, _, _, _, c7⟩ := cells h
  have ht := h.ok.text
  by_cases hk : E.kind = 2
  · have e : E.redE = 0 := by unfold En.redE; rw [if_neg (by omega)]
    rw [e] at HR
    by_cases hl : 4096 < E.text.size + s.size
    · have e2 : E.putE s = 4 := by unfold En.putE; rw [if_neg (by omega), if_pos hl]
      have e3 : E.put s = E := by unfold En.put; rw [e2, if_pos (by omega)]
      have HS := Lib.hid (EStep.refl h)
      rw [e2, e3]
      have hlb : (4096 : Int) < E.text.size + s.size := by omega
      clear e e2 e3 hk h
      go_enter Tryz.func27, Tryz.ntmps27
      go_wp2_with fail
      refine HR.out.mono ?_
      rintro e w2 ⟨rfl, rfl⟩
      go_wp2
      go_ret
      exact ⟨rfl, HS.out⟩
    · have e2 : E.putE s = 0 := by unfold En.putE; rw [if_neg (by omega), if_neg hl]
      have e3 : E.put s = { E with text := E.text ++ s } := by unfold En.put; rw [e2, if_neg (by omega)]
      have HS := Lib.hid (EStep.setText h (E.text ++ s) (by rw [ByteArray.size_append]; omega))
      have f7 := h.free 7
      rw [e2, e3]
      have hlb : ¬ (4096 : Int) < E.text.size + s.size := by omega
      clear e e2 e3 hk h
      go_enter Tryz.func27, Tryz.ntmps27
      go_wp2_with fail
      refine HR.out.mono ?_
      rintro e w2 ⟨rfl, rfl⟩
      go_wp2
      go_ret
      exact ⟨rfl, HS.out⟩
  · have e : E.redE = 3 := by unfold En.redE; rw [if_pos hk]
    have e2 : E.putE s = 3 := by unfold En.putE; rw [if_pos hk]
    have e3 : E.put s = E := by unfold En.put; rw [e2, if_pos (by omega)]
    have HS := Lib.hid (EStep.refl h)
    rw [e] at HR
    rw [e2, e3]
    clear e e2 e3 hk h
    go_enter Tryz.func27, Tryz.ntmps27
    go_wp2_with fail
    refine HR.out.mono ?_
    rintro e w2 ⟨rfl, rfl⟩
    go_wp2
    go_ret
    exact ⟨rfl, HS.out⟩
theorem put_nil (s : ByteArray) (w : World) : Calls Tryz.prog 27 #[.pointer none, .string s] w fun e w' => e = .returned (.int .i64 1) ∧ w = w' := by
  have HR := Lib.hid (ready_nil w)
  go_enter Tryz.func27, Tryz.ntmps27
  go_wp2_with fail
  refine HR.out.mono ?_
  rintro e w2 ⟨rfl, rfl⟩
  go_wp2
  go_ret
  exact ⟨rfl, rfl⟩
end
end Ev
end Go.Proofs.YtkbhokmnbpnlbaaGreat
/- The walks of an environment's Page and Drop. -/
namespace Go.Proofs.YtkbhokmnbpnlbaaGreat
open Go.RowKit Word
set_option linter.unusedVariables false
set_option linter.unusedSimpArgs false
theorem isSome_addr {B : List Pg} {x : Int} : (atAddr B x).isSome = true ↔ x ∈ B.map Pg.addr := by
  rw [List.mem_map]
  constructor
  · intro g
    obtain ⟨p, hp⟩ := Option.isSome_iff_exists.1 g
    exact ⟨p, (atAddr_mem hp).1, (atAddr_mem hp).2⟩
  · rintro ⟨p, hp, rfl⟩
    cases hq : atAddr B p.addr with
    | some _ => rfl
    | none => exact absurd rfl (atAddr_none hq p hp)
theorem En.mayP_iff {x : Int} : En.mayP x = true ↔ x % 256 = 0 ∧ 256 ≤ x ∧ x < 1048576 := by
  unfold En.mayP
  simp [and_assoc]
theorem En.mayE_zero {E : En} {x : Int} (h : E.mayE x = 0) : E.kind = 2 ∧ En.mayP x = true := by
  unfold En.mayE at h
  by_cases g : E.kind = 2
  · rw [if_neg (by omega)] at h
    cases hm : En.mayP x with
    | true => exact ⟨g, rfl⟩
    | false => rw [hm, if_pos rfl] at h; omega
  · rw [if_pos g] at h; omega
theorem En.Ok.map {E : En} (h : E.Ok) {x : Int} (blk : Nat) (hm : Sp.mapE E.A x 3 = 0) : ∀ y, y ∈ E.own → (atAddr (Sp.mapA E.A x blk 3) y).isSome = true := fun y hy => by
  have := isSome_addr.1 (h.has y hy)
  rw [List.mem_map] at this
  obtain ⟨p, hp, hpy⟩ := this
  refine isSome_addr.2 (List.mem_map.2 ⟨p, ?_, hpy⟩)
  unfold Sp.mapA
  rw [if_pos hm]
  exact mem_insPg.2 (.inr hp)
theorem En.Ok.page {E : En} (h : E.Ok) {x : Int} (blk : Nat) (hp : En.mayP x = true) (hm : Sp.mapE E.A x 3 = 0) : x ∉ E.own ∧ ({ E with A := Sp.mapA E.A x blk 3, own := En.ins x E.own } : En).Ok := by
  have hx := En.mayP_iff.1 hp
  have hn : x ∉ E.own := fun g => by
    have hs := h.has x g
    unfold Sp.mapE at hm
    by_cases q : Sp.mayB x = false ∨ (7 : Int) < 3
    · rw [if_pos q] at hm; omega
    · rw [if_neg q] at hm
      have : pageAt E.A x = atAddr E.A x := by unfold pageAt; rw [hx.1, Int.sub_zero]
      rw [this, if_pos hs] at hm
      omega
  refine ⟨hn, En.up_ins h.up hn, fun y hy => ?_, fun y hy => ?_, h.text⟩
  · rcases En.mem_ins.1 hy with rfl | g
    · exact hx
    · exact h.may y g
  · rcases En.mem_ins.1 hy with rfl | g
    · refine isSome_addr.2 (List.mem_map.2 ⟨pgNew y blk 3, ?_, rfl⟩)
      unfold Sp.mapA
      rw [if_pos hm]
      exact mem_insPg.2 (.inl rfl)
    · exact h.map blk hm y g
theorem En.Ok.less {E : En} (h : E.Ok) (x : Int) : ({ E with own := E.own.filter (fun y => y != x) } : En).Ok :=
  ⟨h.up.filter _, fun y hy => h.may y (List.mem_filter.1 hy).1, fun y hy => h.has y (List.mem_filter.1 hy).1, h.text⟩
theorem En.Ok.unmap {E : En} (h : E.Ok) (x : Int) : ∀ y, y ∈ E.own.filter (fun y => y != x) → (atAddr (Sp.unmapA E.A x) y).isSome = true := fun y hy => by
  obtain ⟨h1, h2⟩ := List.mem_filter.1 hy
  have := isSome_addr.1 (h.has y h1)
  rw [List.mem_map] at this
  obtain ⟨p, hp, hpy⟩ := this
  refine isSome_addr.2 (List.mem_map.2 ⟨p, ?_, hpy⟩)
  unfold Sp.unmapA
  split
  · exact mem_delPg.2 ⟨hp, by rw [hpy]; simpa using h2⟩
  · exact hp
namespace Ev
section
variable {w : World} {a : EAt} {E : En}
set_option maxRecDepth 100000 in
set_option maxHeartbeats 4000000 in
theorem may_nil (x : Int) (w : World) : Calls Tryz.prog 71 #[.pointer none, .int .u32 x] w fun e w' => e = .returned (.int .i64 1) ∧ Below w.heap.size w w' := by
  have HR := Lib.hid (ready_nil w)
  have HB := Lib.hid (Below.refl w.heap.size w)
  go_enter Tryz.func71, Tryz.ntmps71
  go_wp2_with fail
  refine HR.out.mono ?_
  rintro e w2 ⟨rfl, rfl⟩
  go_wp2
  go_ret
  exact ⟨rfl, HB.out⟩
set_option maxRecDepth 100000 in
set_option maxHeartbeats 4000000 in
theorem page (h : Env w a E) (x : Int) (x0 : 0 ≤ x) (x1 : x ≤ 4294967295) : Calls Tryz.prog 26 #[.pointer (some ⟨a.eb, 0, none⟩), .int .u32 x] w fun e w' => ∃ blk lv, e = .returned (.int .i64 (E.pageE x)) ∧ EStep w w' a E { a with lv := lv } (E.page x blk) := by
  have HM := Lib.hid (may h x x0 x1)
  by_cases hm : E.mayE x = 0
  · obtain ⟨hk, hp⟩ := En.mayE_zero hm
    have hpe : E.pageE x = Sp.mapE E.A x 3 := by unfold En.pageE; rw [if_neg (by omega)]
    rw [hm] at HM
    have HMap : Hid (∀ V, Below w.heap.size w V → Calls Tryz.prog 66 #[.pointer (some ⟨a.sb, 0, none⟩), .int .u32 x, .int .u8 3] V fun e w' => ∃ blk, e = .returned (.int .i64 (Sp.mapE E.A x 3)) ∧ SStep V w' a.sb a.mb E.A (Sp.mapA E.A x blk 3)) := Lib.hid fun V hV => Sp.s_map (h.below hV).sp x 3 x0 x1 (by omega) (by omega)
    have HV := Lib.hid fun V (hV : Below w.heap.size w V) => EStep.of_below h hV
    by_cases he : Sp.mapE E.A x 3 = 0
    · have e2 : ∀ blk, E.page x blk = { E with A := Sp.mapA E.A x blk 3, own := En.ins x E.own } := fun blk => by unfold En.page; rw [hpe, if_neg (by omega)]
      have HO : Hid (∀ blk, x ∉ E.own ∧ ({ E with A := Sp.mapA E.A x blk 3, own := En.ins x E.own } : En).Ok) := Lib.hid fun blk => h.ok.page blk hp he
      have HH := Lib.hid fun blk => h.ok.map blk he
      have HOk := Lib.hid h.ok
      simp only [e2]
      rw [hpe]
      rw [he] at HMap ⊢
      clear e2 hpe he hp hk hm h
      go_enter Tryz.func26, Tryz.ntmps26
      go_wp2_with fail
      refine HM.out.mono ?_
      rintro e w2 ⟨rfl, hb2⟩
      have HS2 := Lib.hid (HV.out w2 hb2)
      obtain ⟨c0, _⟩ := cells (HV.out w2 hb2).env
      have HMp := Lib.hid (HMap.out w2 hb2)
      clear hb2 HM HMap HV
      go_wp2_with fail
      refine HMp.out.mono ?_
      rintro e w3 ⟨blk, rfl, hs3⟩
      have hE3 := EStep.space HS2.out.env hs3 (HH.out blk)
      have HS3 := Lib.hid (HS2.out.trans hE3)
      obtain ⟨_, c1, _⟩ := cells hE3.env
      have hls := hE3.env.ls
      simp only at c1 hls
      obtain ⟨ao, cap, hlv, hws⟩ := hls.words HOk.out.len
      have HLs := Lib.hid hls
      have HBS := Lib.hid (Sl.bsearch (cap := cap) hws x HOk.out.up HOk.out.len)
      have HLe := Lib.hid hE3.env.le
      have HLv := Lib.hid hlv
      rw [hlv] at c1
      clear hE3 hs3 hls hlv hws c0 HMp HH HS2
      go_wp2_with fail
      refine HBS.out.mono ?_
      rintro e w4 ⟨k, hpl, rfl, rfl⟩
      have HPl := Lib.hid hpl
      clear HBS hpl
      generalize decide (E.own[k]? = some x) = bb at *
      have hbb : Below w4.heap.size w4 (w4.alloc (.cells #[.int .u32 x] 22)) := (Below.refl _ _).alloc (Nat.le_refl _) _
      have hl5 : Sl.Lst (w4.alloc (.cells #[.int .u32 x] 22)) a.lv E.own := HLs.out.frame fun g hg => hbb.block _ (HLe.out g hg).1
      have hin := Sl.insert hl5 x k HPl.out.le HOk.out.len w4.heap.size (heap_alloc_new w4 _) (fun e => by have hle := HLe.out; exact absurd (hle _ e).1 (Nat.lt_irrefl _))
      rw [HLv.out] at hin
      have HIn := Lib.hid hin
      have HB5 := Lib.hid hbb
      clear hin hl5 hbb
      go_wp2_with fail
      refine HIn.out.mono ?_
      rintro e w6 ⟨v6, rfl, hl6, hm6, hv6⟩
      rw [← HLv.out] at hm6 hv6
      have hm46 : Mod (fun b => a.lv.ownBlock = some b) w4 w6 := (Mod.of_below HB5.out _).same hm6
      rw [En.ins_place HPl.out (HO.out blk).1] at hl6
      obtain ⟨a6, cap6, rfl⟩ := SlV.form hl6
      have hst := EStep.list HS3.out.env (own := En.ins x E.own) hl6 hm46 (fun b hb => by
        refine ⟨?_, (hv6 b hb).imp id fun g => Nat.le_trans HB5.out.size g⟩
        obtain ⟨g, q1, q2⟩ := SlV.lt hl6 (by
          have : x ∈ En.ins x E.own := En.mem_ins.2 (.inl rfl)
          exact List.length_pos_of_mem this)
        rw [q1] at hb
        injection hb with hb
        omega) (HO.out blk).2
      have he6 := (hm46.block _ (lt_of_block HS3.out.env.blk) (fun g => (HLe.out _ g).2.1 rfl)).trans HS3.out.env.blk
      have c16 : w6.cell? ⟨a.eb, 1, none⟩ = some a.lv := by
        unfold World.cell?
        rw [he6]
        rfl
      have f16 : w6.frozen? ⟨a.eb, 1, none⟩ = false := by
        unfold World.frozen?
        rw [he6]
        simp
      clear he6
      have HFin := Lib.hid (HS3.out.trans hst)
      clear hm6 hv6 hm46 hl6 hst HIn
      go_wp2
      go_ret
      exact ⟨blk, _, rfl, HFin.out⟩
    · have e2 : ∀ blk, E.page x blk = E := fun blk => by unfold En.page; rw [hpe, if_pos he]
      have HSp : Hid (∀ blk, Sp.mapA E.A x blk 3 = E.A) := Lib.hid fun blk => by unfold Sp.mapA; rw [if_neg he]
      have HOk := Lib.hid h.ok
      simp only [e2]
      rw [hpe]
      generalize Sp.mapE E.A x 3 = r at *
      have heb : (r != 0) = true := bne_iff_ne.2 he
      clear e2 hpe hp hk hm h
      go_enter Tryz.func26, Tryz.ntmps26
      go_wp2_with fail
      refine HM.out.mono ?_
      rintro e w2 ⟨rfl, hb2⟩
      have HS2 := Lib.hid (HV.out w2 hb2)
      obtain ⟨c0, _⟩ := cells (HV.out w2 hb2).env
      have HMp := Lib.hid (HMap.out w2 hb2)
      clear hb2 HM HMap HV
      go_wp2_with fail
      refine HMp.out.mono ?_
      rintro e w3 ⟨blk, rfl, hs3⟩
      rw [HSp.out blk] at hs3
      have HS3 := Lib.hid (HS2.out.trans (EStep.space HS2.out.env hs3 HOk.out.has))
      clear hs3
      go_wp2
      go_ret
      exact ⟨0, a.lv, rfl, HS3.out⟩
  · have hpe : E.pageE x = E.mayE x := by unfold En.pageE; rw [if_pos hm]
    have e2 : ∀ blk, E.page x blk = E := fun blk => by unfold En.page; rw [hpe, if_pos hm]
    have HV := Lib.hid fun V (hV : Below w.heap.size w V) => EStep.of_below h hV
    simp only [e2]
    rw [hpe]
    generalize E.mayE x = r at *
    have heb : (r != 0) = true := bne_iff_ne.2 hm
    clear e2 hpe h
    go_enter Tryz.func26, Tryz.ntmps26
    go_wp2_with fail
    refine HM.out.mono ?_
    rintro e w2 ⟨rfl, hb2⟩
    have HS2 := Lib.hid (HV.out w2 hb2)
    clear hb2
    go_wp2
    go_ret
    exact ⟨0, a.lv, rfl, HS2.out⟩
theorem page_nil (x : Int) (x0 : 0 ≤ x) (x1 : x ≤ 4294967295) (w : World) : Calls Tryz.prog 26 #[.pointer none, .int .u32 x] w fun e w' => e = .returned (.int .i64 1) ∧ Below w.heap.size w w' := by
  have HM := Lib.hid (may_nil x w)
  go_enter Tryz.func26, Tryz.ntmps26
  go_wp2_with fail
  refine HM.out.mono ?_
  rintro e w2 ⟨rfl, hb2⟩
  have HB := Lib.hid hb2
  clear hb2
  go_wp2
  go_ret
  exact ⟨rfl, HB.out⟩
theorem drop_nil (x : Int) (x0 : 0 ≤ x) (x1 : x ≤ 4294967295) (w : World) : Calls Tryz.prog 65 #[.pointer none, .int .u32 x] w fun e w' => e = .returned (.int .i64 1) ∧ Below w.heap.size w w' := by
  have HM := Lib.hid (may_nil x w)
  go_enter Tryz.func65, Tryz.ntmps65
  go_wp2_with fail
  refine HM.out.mono ?_
  rintro e w2 ⟨rfl, hb2⟩
  have HB := Lib.hid hb2
  clear hb2
  go_wp2
  go_ret
  exact ⟨rfl, HB.out⟩
set_option maxRecDepth 100000 in
set_option maxHeartbeats 4000000 in
theorem drop (h : Env w a E) (x : Int) (x0 : 0 ≤ x) (x1 : x ≤ 4294967295) : Calls Tryz.prog 65 #[.pointer (some ⟨a.eb, 0, none⟩), .int .u32 x] w fun e w' => ∃ lv, e = .returned (.int .i64 (E.dropE x)) ∧ EStep w w' a E { a with lv := lv } (E.drop x) := by
  have HM := Lib.hid (may h x x0 x1)
  have HV := Lib.hid fun V (hV : Below w.heap.size w V) => EStep.of_below h hV
  have HOk := Lib.hid h.ok
  by_cases hm : E.mayE x = 0
  · rw [hm] at HM
    by_cases he : x ∈ E.own
    · have hpe : E.dropE x = Sp.unmapE E.A x := by unfold En.dropE; rw [if_neg (by omega), if_pos he]
      have e2 : E.drop x = { E with A := Sp.unmapA E.A x, own := E.own.filter (fun y => y != x) } := by unfold En.drop; rw [if_neg (by omega), if_pos he]
      have Hx := Lib.hid he
      rw [hpe, e2]
      clear e2 hpe he hm h
      go_enter Tryz.func65, Tryz.ntmps65
      go_wp2_with fail
      refine HM.out.mono ?_
      rintro e w2 ⟨rfl, hb2⟩
      have HS2 := Lib.hid (HV.out w2 hb2)
      obtain ⟨_, c1, _⟩ := cells (HV.out w2 hb2).env
      have hls := (HV.out w2 hb2).env.ls
      obtain ⟨ao, cap, hlv, hws⟩ := hls.words HOk.out.len
      have HLs := Lib.hid hls
      have HBS := Lib.hid (Sl.bsearch (cap := cap) hws x HOk.out.up HOk.out.len)
      have HLv := Lib.hid hlv
      rw [hlv] at c1
      clear hb2 HM HV hls hlv hws
      go_wp2_with fail
      refine HBS.out.mono ?_
      rintro e w4 ⟨k, hpl, rfl, rfl⟩
      have hkx := (En.place_mem HOk.out.up hpl).1 Hx.out
      rw [decide_eq_true hkx]
      have hkl : k < E.own.length := (List.getElem?_eq_some_iff.1 hkx).1
      have hde := Sl.delete HLs.out k (k + 1) rfl hkl HOk.out.len
      rw [HLv.out, show ((k + 1 : Nat) : Int) = (k : Int) + 1 from rfl] at hde
      have HDe := Lib.hid hde
      have HEr := Lib.hid (En.erase_place HOk.out.up hkx)
      have hkn : (k : Int) + 1 ≤ 2000000 := by have := HOk.out.len; omega
      clear HBS hpl hkx hde hkl
      go_wp2_with fail
      refine HDe.out.mono ?_
      rintro e w6 ⟨v6, rfl, hl6, hv6, hm6⟩
      rw [← HLv.out] at hm6 hv6
      rw [HEr.out] at hl6
      obtain ⟨a6, cap6, rfl⟩ := SlV.form hl6
      have hst := EStep.list HS2.out.env (own := E.own.filter (fun y => y != x)) hl6 hm6 (fun b hb => by
        rw [hv6] at hb
        exact ⟨Nat.lt_of_lt_of_le (HS2.out.env.le b hb).1 hm6.size, .inl hb⟩) (HOk.out.less x)
      have he6 := (hm6.block _ (lt_of_block HS2.out.env.blk) (fun g => (HS2.out.env.le _ g).2.1 rfl)).trans HS2.out.env.blk
      have c16 : w6.cell? ⟨a.eb, 1, none⟩ = some a.lv := by
        unfold World.cell?
        rw [he6]
        rfl
      have f16 : w6.frozen? ⟨a.eb, 1, none⟩ = false := by
        unfold World.frozen?
        rw [he6]
        simp
      have HS6 := Lib.hid (HS2.out.trans hst)
      obtain ⟨c0, _⟩ := cells hst.env
      simp only at c0
      have HUn := Lib.hid (Sp.s_unmap hst.env.sp x x0 x1)
      clear he6 hm6 hv6 hl6 hst HDe HS2
      go_wp2_with fail
      refine HUn.out.mono ?_
      rintro e w7 ⟨rfl, hs7⟩
      have HFin := Lib.hid (HS6.out.trans (EStep.space HS6.out.env hs7 (HOk.out.unmap x)))
      clear hs7 HUn HS6
      go_wp2
      go_ret
      exact ⟨_, rfl, HFin.out⟩
    · have hpe : E.dropE x = 3 := by unfold En.dropE; rw [if_neg (by omega), if_neg he]
      have e2 : E.drop x = E := by unfold En.drop; rw [if_neg (by omega), if_neg he]
      have Hx := Lib.hid he
      rw [hpe, e2]
      clear e2 hpe he hm h
      go_enter Tryz.func65, Tryz.ntmps65
      go_wp2_with fail
      refine HM.out.mono ?_
      rintro e w2 ⟨rfl, hb2⟩
      have HS2 := Lib.hid (HV.out w2 hb2)
      obtain ⟨_, c1, _⟩ := cells (HV.out w2 hb2).env
      have hls := (HV.out w2 hb2).env.ls
      obtain ⟨ao, cap, hlv, hws⟩ := hls.words HOk.out.len
      have HBS := Lib.hid (Sl.bsearch (cap := cap) hws x HOk.out.up HOk.out.len)
      rw [hlv] at c1
      clear hb2 HM HV hls hlv hws
      go_wp2_with fail
      refine HBS.out.mono ?_
      rintro e w4 ⟨k, hpl, rfl, rfl⟩
      have hkx : ¬ E.own[k]? = some x := fun g => Hx.out ((En.place_mem HOk.out.up hpl).2 g)
      rw [decide_eq_false hkx]
      clear HBS hpl hkx
      go_wp2
      go_ret
      exact ⟨a.lv, rfl, HS2.out⟩
  · have hpe : E.dropE x = E.mayE x := by unfold En.dropE; rw [if_pos hm]
    have e2 : E.drop x = E := by unfold En.drop; rw [if_pos hm]
    rw [hpe, e2]
    generalize E.mayE x = r at *
    have heb : (r != 0) = true := bne_iff_ne.2 hm
    clear e2 hpe h
    go_enter Tryz.func65, Tryz.ntmps65
    go_wp2_with fail
    refine HM.out.mono ?_
    rintro e w2 ⟨rfl, hb2⟩
    have HS2 := Lib.hid (HV.out w2 hb2)
    clear hb2
    go_wp2
    go_ret
    exact ⟨a.lv, rfl, HS2.out⟩
end
end Ev
end Go.Proofs.YtkbhokmnbpnlbaaGreat
/- The walk of env.New. -/
namespace Go.Proofs.YtkbhokmnbpnlbaaGreat
open Go.RowKit Word
set_option linter.unusedVariables false
set_option linter.unusedSimpArgs false
/-- One that is new. -/
def En.new (num pc : Int) (A : List Pg) : En := ⟨num, 2, 0, 0, ByteArray.empty, [], A, List.replicate 16 0, pc⟩
def NewPost (w : World) (A : List Pg) (num pc : Int) (e : Ending) (w' : World) : Prop :=
  ∃ a C, e = .returned (.tuple #[.pointer (some ⟨a.eb, 0, none⟩), .int .i64 0]) ∧ Env w' a (En.new num pc C) ∧ cores C = cores A ∧ (∀ k, a.foot C k → w.heap.size ≤ k) ∧ Below w.heap.size w w'
namespace Ev
section
variable {w : World} {sb mb : Nat} {A : List Pg}
theorem new_nil (num pc : Int) (w : World) : Calls Tryz.prog 51 #[.int .i64 num, .pointer none, .int .u32 pc] w fun e w' => e = .returned (.tuple #[.pointer none, .int .i64 1]) ∧ w = w' := by
  go_enter Tryz.func51, Tryz.ntmps51
  go_wp2
  refine bodyPost_ret (v := .tuple #[.pointer none, .int .i64 1]) (by simp [results, Tryz.results51, go_sem, *]) rfl ?_
  exact ⟨rfl, rfl⟩
theorem new_arg (p : Addr) (num pc : Int) (hn : num < 1 ∨ 8 < num) (w : World) : Calls Tryz.prog 51 #[.int .i64 num, .pointer (some p), .int .u32 pc] w fun e w' => e = .returned (.tuple #[.pointer none, .int .i64 2]) ∧ w = w' := by
  cases g : decide (num < 1) with
  | true =>
    have g' := of_decide_eq_true g
    go_enter Tryz.func51, Tryz.ntmps51
    go_wp2
    refine bodyPost_ret (v := .tuple #[.pointer none, .int .i64 2]) (by simp [results, Tryz.results51, go_sem, *]) rfl ?_
    exact ⟨rfl, rfl⟩
  | false =>
    have g' := of_decide_eq_false g
    have g2 : 8 < num := by omega
    go_enter Tryz.func51, Tryz.ntmps51
    go_wp2
    refine bodyPost_ret (v := .tuple #[.pointer none, .int .i64 2]) (by simp [results, Tryz.results51, go_sem, *]) rfl ?_
    exact ⟨rfl, rfl⟩
set_option maxRecDepth 100000 in
set_option maxHeartbeats 4000000 in
theorem new (h : Spc w sb mb A) (num pc : Int) (n0 : 1 ≤ num) (n1 : num ≤ 8) (p0 : 0 ≤ pc) (p1 : pc ≤ 4294967295) : Calls Tryz.prog 51 #[.int .i64 num, .pointer (some ⟨sb, 0, none⟩), .int .u32 pc] w (NewPost w A num pc) := by
  have HC := Lib.hid (Sp.copy h)
  have g1 : ¬ num < 1 := by omega
  have g2 : ¬ 8 < num := by omega
  have HFin : Hid (∀ so mo C w2 w3, Spc w2 so mo C → cores C = cores A → (∀ k, Spc.foot so mo C k → w.heap.size ≤ k) → Below w.heap.size w w2 → Cpu 233 w3 w2.heap.size (List.replicate 16 0) pc → Below w2.heap.size w2 w3 →
      NewPost w A num pc (.returned (.tuple #[.pointer (some ⟨w3.heap.size, 0, none⟩), .int .i64 0])) (w3.alloc (.cells #[.pointer (some ⟨so, 0, none⟩), .slice none 0 0, .pointer (some ⟨w2.heap.size, 0, none⟩), .int .i64 num, .int .u8 2, .int .u32 0, .int .i64 0, .string ByteArray.empty] 150))) := Lib.hid fun so mo C w2 w3 hs hc hf hb hp hb3 => by
    have hz := hb.size
    have hz3 := hb3.size
    have hpl := hp.lt
    have hba : Below w3.heap.size w3 (w3.alloc (.cells #[.pointer (some ⟨so, 0, none⟩), .slice none 0 0, .pointer (some ⟨w2.heap.size, 0, none⟩), .int .i64 num, .int .u8 2, .int .u32 0, .int .i64 0, .string ByteArray.empty] 150)) := (Below.refl _ _).alloc (Nat.le_refl _) _
    refine ⟨⟨w3.heap.size, so, mo, w2.heap.size, .slice none 0 0⟩, C, rfl, ?_, hc, fun k hk => ?_, ?_⟩
    · exact { blk := heap_alloc_new w3 _, cp := hp.below hba, sp := (hs.below hb3 fun k hk => hs.lt hk).below hba fun k hk => Nat.lt_of_lt_of_le (hs.lt hk) hz3, ls := Sl.Lst.nil _, ec := by show w3.heap.size ≠ w2.heap.size; omega, es := fun g => absurd (hs.lt g) (Nat.not_lt.2 hz3), cs := fun g => Nat.lt_irrefl _ (hs.lt g), le := fun g hg => (nomatch hg), ok := ⟨List.Pairwise.nil, fun x hx => (nomatch hx), fun x hx => (nomatch hx), Nat.zero_le _⟩ }
    · rcases hk with g | g | g | g
      · rw [g]; show w.heap.size ≤ w3.heap.size; omega
      · rw [g]; exact hz
      · exact hf k g
      · cases g
    · exact (hb.trans (hb3.mono hz)).alloc (Nat.le_trans hz hz3) _
  generalize NewPost w A num pc = PQ at *
  clear h
  go_enter Tryz.func51, Tryz.ntmps51
  go_wp2_with fail
  refine HC.out.mono ?_
  rintro e w2 ⟨so, mo, C, rfl, hs, hc, hf, hb⟩
  have HS := Lib.hid (⟨hs, hc, hf, hb⟩ : Spc w2 so mo C ∧ cores C = cores A ∧ (∀ k, Spc.foot so mo C k → w.heap.size ≤ k) ∧ Below w.heap.size w w2)
  clear hs hc hf hb
  go_wp2_with fail
  refine (Cp.new pc p0 p1 w2).mono ?_
  rintro e w3 ⟨rfl, hp, hb3⟩
  have HP := Lib.hid (⟨hp, hb3⟩ : _ ∧ _)
  clear hp hb3
  go_wp2
  exact HFin.out so mo C w2 w3 HS.out.1 HS.out.2.1 HS.out.2.2.1 HS.out.2.2.2 HP.out.1 HP.out.2
end
end Ev
end Go.Proofs.YtkbhokmnbpnlbaaGreat
