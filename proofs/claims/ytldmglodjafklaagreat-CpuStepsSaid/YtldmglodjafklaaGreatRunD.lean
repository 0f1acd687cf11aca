/- The walk of aediculeref06.Run. -/
import Derived.Test.YtldmglodjafklaaGreatStepD
namespace Go.Proofs.YtldmglodjafklaaGreat
open Go.RowKit Word
set_option linter.unusedVariables false
set_option linter.unusedSimpArgs false
namespace Cp
section
variable {w : World} {db rb : Nat} {lv : Value} {R : List Rp} {r : List Int} {pc : Int}
/-- What the document's Run leaves. -/
def RdPost (w : World) (db rb : Nat) (lv : Value) (R : List Rp) (q : Out × Nat) (e : Ending) (w' : World) : Prop :=
  ∃ R', e = .returned (.tuple #[q.1.stop, .int .i64 q.2]) ∧ Cpu 107 w' db q.1.r q.1.pc ∧ rpgs R' = q.1.A ∧ Rsp w' rb lv R' ∧ Mod (fun k => k = db ∨ Rsp.foot rb lv R k) w w' ∧ ∀ k, Rsp.foot rb lv R' k → Rsp.foot rb lv R k ∨ w.heap.size ≤ k
/-- The world within: the cpu, the space, the answer's box. -/
structure RD (w V : World) (db rb : Nat) (lv : Value) (R0 R : List Rp) (r : List Int) (pc : Int) : Prop where
  cpu : Cpu 107 V db r pc
  rsp : Rsp V rb lv R
  rs : RsBox V w.heap.size
  mod : Mod (fun k => k = db ∨ Rsp.foot rb lv R0 k) w V
  foot : ∀ k, Rsp.foot rb lv R k → Rsp.foot rb lv R0 k ∨ w.heap.size < k
  nd : ¬ Rsp.foot rb lv R db
  lt : db < w.heap.size
  old : ∀ k, Rsp.foot rb lv R0 k → k < w.heap.size
namespace RD
variable {V V' : World} {R0 R' : List Rp} {r' : List Int} {pc' : Int}
theorem below (h : RD w V db rb lv R0 R r pc) (hb : Below V.heap.size V V') : RD w V' db rb lv R0 R r pc :=
  ⟨h.cpu.below hb, h.rsp.same hb, h.rs.frame (hb.block _ (lt_of_block h.rs.blk)), h.mod.same (Mod.of_below hb _), h.foot, h.nd, h.lt, h.old⟩
theorem step (h : RD w V db rb lv R0 R r pc) (hc : Cpu 107 V' db r' pc') (hr : Rsp V' rb lv R') (hm : Mod (fun k => k = db ∨ Rsp.foot rb lv R k) V V') (hf : ∀ k, Rsp.foot rb lv R' k → Rsp.foot rb lv R k ∨ V.heap.size ≤ k) : RD w V' db rb lv R0 R' r' pc' := by
  have hl := lt_of_block h.rs.blk
  have hn : ∀ k, Rsp.foot rb lv R k → k ≠ w.heap.size := fun k hk e => by
    rcases h.foot k hk with g | g
    · have := h.old k g; omega
    · omega
  refine ⟨hc, hr, h.rs.frame (hm.block _ hl ?_), h.mod.trans hm ?_, fun k hk => ?_, fun g => ?_, h.lt, h.old⟩
  · rintro (g | g)
    · have := h.lt; omega
    · exact hn _ g rfl
  · rintro i _ (g | g)
    · exact .inl (.inl g)
    · rcases h.foot i g with q | q
      · exact .inl (.inr q)
      · exact .inr (by omega)
  · rcases hf k hk with g | g
    · exact h.foot k g
    · exact .inr (by omega)
  · rcases hf _ g with q | q
    · exact h.nd q
    · have := h.cpu.lt; omega
theorem fin (h : RD w V db rb lv R0 R r pc) (k n y : Int) (m : Nat) : RdPost w db rb lv R0 (⟨k, n, y, r, pc, rpgs R⟩, m) (.returned (.tuple #[.agg #[.int .u8 k, .int .u32 n, .int .i64 y], .int .i64 m])) (((V.setCell ⟨w.heap.size, 0, none⟩ (.int .u8 k)).setCell ⟨w.heap.size, 1, none⟩ (.int .u32 n)).setCell ⟨w.heap.size, 2, none⟩ (.int .i64 y)) := by
  have hn := h.lt
  have hne : ∀ j, j ≠ w.heap.size → (((V.setCell ⟨w.heap.size, 0, none⟩ (.int .u8 k)).setCell ⟨w.heap.size, 1, none⟩ (.int .u32 n)).setCell ⟨w.heap.size, 2, none⟩ (.int .i64 y)).heap[j]? = V.heap[j]? := fun j hj => by
    rw [Below.heap_setCell _ _ _ _ hj, Below.heap_setCell _ _ _ _ hj, Below.heap_setCell _ _ _ _ hj]
  exact ⟨R, rfl, h.cpu.frame (hne _ (by omega)), rfl, h.rsp.frame fun j hj => hne j (by
    rcases h.foot j hj with g | g
    · have := h.old j g; omega
    · omega), set3_mod h.mod (Nat.le_refl _) _ _ _, fun k hk => (h.foot k hk).imp id Nat.le_of_lt⟩
end RD
def rdRel (w : World) (db rb : Nat) (lv : Value) (R : List Rp) (r : List Int) (pc : Int) (n : Nat) (si : Value) (wr : World) : Prop :=
  ∃ (j : Nat) (R' : List Rp) (r' : List Int) (pc' : Int), j ≤ n ∧ si = .int .i64 j ∧ RD w wr db rb lv R R' r' pc' ∧
    run (rpgs R) r pc n = ((run (rpgs R') r' pc' (n - j)).1, (run (rpgs R') r' pc' (n - j)).2 + j)
set_option maxRecDepth 100000 in
set_option maxHeartbeats 2000000 in
theorem runD (hc : Cpu 107 w db r pc) (hr : Rsp w rb lv R) (hn : ¬ Rsp.foot rb lv R db) (n : Nat) (hn2 : n ≤ 9223372036854775807) :
    Calls Tryz.prog 35 #[.pointer (some ⟨db, 0, none⟩), .pointer (some ⟨rb, 0, none⟩), .int .i64 n] w (RdPost w db rb lv R (run (rpgs R) r pc n)) := by
  have HFin : Hid (∀ (V : World) (R' : List Rp) (r' : List Int) (pc' k u y : Int) (m : Nat), RD w V db rb lv R R' r' pc' → run (rpgs R) r pc n = (⟨k, u, y, r', pc', rpgs R'⟩, m) → RdPost w db rb lv R (run (rpgs R) r pc n) (.returned (.tuple #[.agg #[.int .u8 k, .int .u32 u, .int .i64 y], .int .i64 m])) (((V.setCell ⟨w.heap.size, 0, none⟩ (.int .u8 k)).setCell ⟨w.heap.size, 1, none⟩ (.int .u32 u)).setCell ⟨w.heap.size, 2, none⟩ (.int .i64 y))) := Lib.hid fun V R' r' pc' k u y m g e => by rw [e]; exact g.fin k u y m
  generalize RdPost w db rb lv R (run (rpgs R) r pc n) = PQ at *
  have HD : Hid (∀ w', Below w.heap.size w w' → RsBox w' w.heap.size → RD w w' db rb lv R R r pc) := Lib.hid fun w' hb hx => ⟨hc.below hb, hr.same hb, hx, Mod.of_below hb _, fun k hk => .inl hk, hn, hc.lt, fun k hk => hr.lt hk⟩
  clear hc hr hn
  go_enter Tryz.func35, Tryz.ntmps35
  go_wp2
  go_loopw [8] (fun si wr => rdRel w db rb lv R r pc n si wr) (fun si _ => n - (intOf si).toNat)
  case atStart =>
    have hb : Below w.heap.size w (w.alloc (.cells #[.int .u8 0, .int .u32 0, .int .i64 0] 29)) := (Below.refl _ _).alloc (Nat.le_refl _) _
    exact ⟨0, R, r, pc, Nat.zero_le _, by go_num, HD.out _ hb ⟨heap_alloc_new w _⟩, by simp⟩
  case round =>
    obtain ⟨j, R', r', pc', hj, rfl, hd, heq⟩ := hrel
    clear HD
    by_cases hj2 : j < n
    · obtain ⟨m, hm2⟩ : ∃ m, n - j = m + 1 := ⟨n - j - 1, by omega⟩
      have hst := stepD hd.cpu hd.rsp hd.nd
      have hz := stp_zero (rpgs R') r' pc'
      have hk := stp_kind (rpgs R') r' pc'
      have h0 := run_zero (rpgs R') r' pc' m
      have h1 := run_one (rpgs R') r' pc' m
      have h2 := run_two (rpgs R') r' pc' m
      rw [hm2] at heq
      generalize stp (rpgs R') r' pc' = o at *
      obtain ⟨kind, num, why, r2, pc2, A2⟩ := o
      simp only at hz hk h0 h1 h2
      have HST := Lib.hid hst
      have HD := Lib.hid hd
      have HE := Lib.hid heq
      have Hm2 := Lib.hid hm2
      clear hst heq hd hm2
      rcases hk with rfl | rfl | rfl
      · obtain ⟨rfl, rfl⟩ := hz rfl
        have HH := Lib.hid (h0 rfl)
        clear h0 h1 h2 hz
        go_wp2_with fail
        refine HST.out.mono ?_
        rintro e w2 ⟨R2, rfl, hc2, rfl, hs2, hm2, hf2⟩
        have HD2 := Lib.hid (HD.out.step hc2 hs2 hm2 hf2)
        have HB2 : Hid (Below w2.heap.size w2 (w2.alloc (.cells #[.int .u8 0, .int .u32 0, .int .i64 0] 29))) := Lib.hid ((Below.refl _ _).alloc (Nat.le_refl _) _)
        clear hc2 hs2 hm2 hf2
        unfold Out.stop
        simp only
        go_wp2
        refine ⟨⟨j + 1, R2, r2, pc2, by omega, by go_num, HD2.out.below HB2.out, ?_⟩, by simp [intOf]; omega⟩
        rw [HE.out, HH.out, show n - (j + 1) = m by have := Hm2.out; omega]
        simp only [Prod.mk.injEq, true_and]
        omega
      · have HH := Lib.hid (h1 rfl)
        clear h0 h1 h2 hz
        go_wp2_with fail
        refine HST.out.mono ?_
        rintro e w2 ⟨R2, rfl, hc2, rfl, hs2, hm2, hf2⟩
        have HD2 := Lib.hid (HD.out.step hc2 hs2 hm2 hf2)
        have HB2 : Hid (Below w2.heap.size w2 (w2.alloc (.cells #[.int .u8 1, .int .u32 num, .int .i64 why] 29))) := Lib.hid ((Below.refl _ _).alloc (Nat.le_refl _) _)
        have HD3 := Lib.hid (HD2.out.below HB2.out)
        obtain ⟨c0, c1, c2, f0, f1, f2⟩ := HD3.out.rs.cells
        clear hc2 hs2 hm2 hf2
        unfold Out.stop
        simp only
        go_wp2
        obtain ⟨v0, v1, v2⟩ := cells3 (set3_blk HD3.out.rs.blk (.int .u8 1) (.int .u32 num) (.int .i64 why))
        clear c0 c1 c2 f0 f1 f2
        refine bodyPost_ret (v := .tuple #[.agg #[.int .u8 1, .int .u32 num, .int .i64 why], .int .i64 (↑j + 1)]) (by simp [results, Tryz.results35, go_sem, *]) rfl ?_
        exact HFin.out _ R2 r2 pc2 1 num why (j + 1) HD3.out (by rw [HE.out, HH.out]; simp only [Nat.add_comm])
      · have HH := Lib.hid (h2 rfl)
        clear h0 h1 h2 hz
        go_wp2_with fail
        refine HST.out.mono ?_
        rintro e w2 ⟨R2, rfl, hc2, rfl, hs2, hm2, hf2⟩
        have HD2 := Lib.hid (HD.out.step hc2 hs2 hm2 hf2)
        have HB2 : Hid (Below w2.heap.size w2 (w2.alloc (.cells #[.int .u8 2, .int .u32 num, .int .i64 why] 29))) := Lib.hid ((Below.refl _ _).alloc (Nat.le_refl _) _)
        have HD3 := Lib.hid (HD2.out.below HB2.out)
        obtain ⟨c0, c1, c2, f0, f1, f2⟩ := HD3.out.rs.cells
        clear hc2 hs2 hm2 hf2
        unfold Out.stop
        simp only
        go_wp2
        obtain ⟨v0, v1, v2⟩ := cells3 (set3_blk HD3.out.rs.blk (.int .u8 2) (.int .u32 num) (.int .i64 why))
        clear c0 c1 c2 f0 f1 f2
        refine bodyPost_ret (v := .tuple #[.agg #[.int .u8 2, .int .u32 num, .int .i64 why], .int .i64 ↑j]) (by simp [results, Tryz.results35, go_sem, *]) rfl ?_
        exact HFin.out _ R2 r2 pc2 2 num why j HD3.out (by rw [HE.out, HH.out]; simp only [Nat.zero_add])
    · obtain rfl : j = n := by omega
      obtain ⟨c0, c1, c2, f0, f1, f2⟩ := hd.rs.cells
      have HD := Lib.hid hd
      have HE := Lib.hid heq
      clear hd heq
      go_wp2
      refine bodyPost_ret (v := .tuple #[.agg #[.int .u8 0, .int .u32 0, .int .i64 0], .int .i64 j]) (by simp [results, Tryz.results35, go_sem, *]) rfl ?_
      exact HFin.out _ R' r' pc' 0 0 0 j HD.out (by rw [HE.out, Nat.sub_self]; simp only [run, Nat.zero_add]; rfl)
end
end Cp
end Go.Proofs.YtldmglodjafklaaGreat
