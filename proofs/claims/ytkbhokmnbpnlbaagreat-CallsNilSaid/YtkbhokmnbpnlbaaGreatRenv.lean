/- The document's environment in memory; the walk of aediculeref21.New; environments that are alike but for their blocks. -/
import Derived.Test.YtkbhokmnbpnlbaaGreatEnvN
import Derived.Test.YtkbhokmnbpnlbaaGreatRspF
namespace Go.Proofs.YtkbhokmnbpnlbaaGreat
open Go.RowKit Word
set_option linter.unusedVariables false
set_option linter.unusedSimpArgs false
namespace En
/-- Alike, but for the blocks of the pages. -/
structure Like (E F : En) : Prop where
  num : E.num = F.num
  kind : E.kind = F.kind
  code : E.code = F.code
  why : E.why = F.why
  text : E.text = F.text
  own : E.own = F.own
  A : cores E.A = cores F.A
  r : E.r = F.r
  pc : E.pc = F.pc
theorem Like.refl (E : En) : Like E E := ⟨rfl, rfl, rfl, rfl, rfl, rfl, rfl, rfl, rfl⟩
theorem Like.symm {E F : En} (h : Like E F) : Like F E := ⟨h.num.symm, h.kind.symm, h.code.symm, h.why.symm, h.text.symm, h.own.symm, h.A.symm, h.r.symm, h.pc.symm⟩
theorem Like.trans {E F G : En} (h : Like E F) (k : Like F G) : Like E G := ⟨h.num.trans k.num, h.kind.trans k.kind, h.code.trans k.code, h.why.trans k.why, h.text.trans k.text, h.own.trans k.own, h.A.trans k.A, h.r.trans k.r, h.pc.trans k.pc⟩
section
variable {E F : En}
theorem Like.stp (h : Like E F) : Cp.Like (Cp.stp E.A E.r E.pc) (Cp.stp F.A F.r F.pc) := by
  rw [h.r, h.pc]
  exact Cp.like_stp h.A _ _
theorem Like.redE (h : Like E F) : E.redE = F.redE := by unfold En.redE; rw [h.kind]
theorem Like.stop (h : Like E F) : E.stop = F.stop := by
  unfold En.stop
  rw [h.kind, h.stp.kind, h.stp.num, h.stp.why]
theorem Like.step (h : Like E F) : Like E.step F.step := by
  unfold En.step
  rw [h.kind]
  by_cases g : F.kind ≠ 2
  · rw [if_pos g, if_pos g]; exact h
  · rw [if_neg g, if_neg g]
    have hs := h.stp
    simp only
    rw [hs.kind]
    by_cases q : (Cp.stp F.A F.r F.pc).kind = 2
    · rw [if_pos q, if_pos q]
      exact ⟨h.num, rfl, rfl, hs.why, h.text, h.own, hs.cores, hs.r, hs.pc⟩
    · rw [if_neg q, if_neg q]
      exact ⟨h.num, rfl, h.code, h.why, h.text, h.own, hs.cores, hs.r, hs.pc⟩
theorem Like.exit (h : Like E F) (c : Int) : Like (E.exit c) (F.exit c) := by
  unfold En.exit
  rw [h.kind]
  split
  · exact h
  · exact ⟨h.num, rfl, rfl, rfl, h.text, h.own, h.A, h.r, h.pc⟩
theorem Like.mayE (h : Like E F) (x : Int) : E.mayE x = F.mayE x := by unfold En.mayE; rw [h.kind]
theorem Like.pageE (h : Like E F) (x : Int) : E.pageE x = F.pageE x := by unfold En.pageE; rw [h.mayE, Cor.mapE h.A]
theorem Like.page (h : Like E F) (x : Int) (b c : Nat) : Like (E.page x b) (F.page x c) := by
  unfold En.page
  rw [h.pageE]
  split
  · exact h
  · exact ⟨h.num, h.kind, h.code, h.why, h.text, by show En.ins x E.own = En.ins x F.own; rw [h.own], Cor.mapA h.A x b c 3, h.r, h.pc⟩
theorem Like.dropE (h : Like E F) (x : Int) : E.dropE x = F.dropE x := by unfold En.dropE; rw [h.mayE, h.own, Cor.unmapE h.A]
theorem Like.drop (h : Like E F) (x : Int) : Like (E.drop x) (F.drop x) := by
  unfold En.drop
  rw [h.mayE, h.own]
  split
  · exact h
  · split
    · exact ⟨h.num, h.kind, h.code, h.why, h.text, rfl, Cor.unmapA h.A x, h.r, h.pc⟩
    · exact h
theorem Like.putE (h : Like E F) (s : ByteArray) : E.putE s = F.putE s := by unfold En.putE; rw [h.kind, h.text]
theorem Like.put (h : Like E F) (s : ByteArray) : Like (E.put s) (F.put s) := by
  unfold En.put
  rw [h.putE]
  split
  · exact h
  · exact ⟨h.num, h.kind, h.code, h.why, by show E.text ++ s = F.text ++ s; rw [h.text], h.own, h.A, h.r, h.pc⟩
theorem Like.arg (h : Like E F) (n : Int) : E.arg n = F.arg n := by unfold En.arg; rw [h.r]
theorem Like.answer (h : Like E F) (v y : Int) : Like (E.answer v y) (F.answer v y) := ⟨h.num, h.kind, h.code, h.why, h.text, h.own, h.A, by show Cp.putG (Cp.putG E.r 1 v) 2 y = _; rw [h.r]; rfl, h.pc⟩
end
end En
/-- Where a document's environment lies. -/
structure RAt where
  eb : Nat
  rb : Nat
  lv : Value
  cb : Nat
  ow : Value
def RAt.foot (a : RAt) (R : List Rp) (k : Nat) : Prop := k = a.eb ∨ k = a.cb ∨ Rsp.foot a.rb a.lv R k ∨ a.ow.ownBlock = some k
def RAt.cells (a : RAt) (E : En) : Array Value := #[.int .i64 E.num, .pointer (some ⟨a.rb, 0, none⟩), .pointer (some ⟨a.cb, 0, none⟩), .int .u8 E.kind, .int .u32 E.code, .int .i64 E.why, a.ow, .string E.text]
structure Renv (w : World) (a : RAt) (R : List Rp) (E : En) : Prop where
  blk : w.heap[a.eb]? = some (.cells (a.cells E) 80 (0, 0))
  cp : Cpu 124 w a.cb E.r E.pc
  rp : Rsp w a.rb a.lv R
  eq : rpgs R = E.A
  ls : Sl.Lst w a.ow E.own
  ec : a.eb ≠ a.cb
  es : ¬ Rsp.foot a.rb a.lv R a.eb
  cs : ¬ Rsp.foot a.rb a.lv R a.cb
  le : ∀ g, a.ow.ownBlock = some g → g < w.heap.size ∧ g ≠ a.eb ∧ g ≠ a.cb ∧ ¬ Rsp.foot a.rb a.lv R g
  ok : E.Ok
namespace Renv
variable {w w' : World} {a : RAt} {R : List Rp} {E : En}
theorem lt (h : Renv w a R E) (k : Nat) (hk : a.foot R k) : k < w.heap.size := by
  rcases hk with rfl | rfl | g | g
  · exact lt_of_block h.blk
  · exact h.cp.lt
  · exact h.rp.lt g
  · exact (h.le k g).1
theorem frame (h : Renv w a R E) (hf : ∀ k, a.foot R k → w'.heap[k]? = w.heap[k]?) (hz : w.heap.size ≤ w'.heap.size) : Renv w' a R E :=
  { h with
    blk := (hf _ (.inl rfl)).trans h.blk
    cp := h.cp.frame (hf _ (.inr (.inl rfl)))
    rp := h.rp.frame fun k hk => hf k (.inr (.inr (.inl hk)))
    ls := h.ls.frame fun g hg => hf g (.inr (.inr (.inr hg)))
    le := fun g hg => ⟨Nat.lt_of_lt_of_le (h.le g hg).1 hz, (h.le g hg).2⟩ }
theorem below (h : Renv w a R E) (hb : Below w.heap.size w w') : Renv w' a R E := h.frame (fun k hk => hb.block k (h.lt k hk)) hb.size
theorem keep {F : Nat → Prop} (h : Renv w a R E) (hm : Mod F w w') (hF : ∀ k, a.foot R k → ¬ F k) : Renv w' a R E := h.frame (fun k hk => hm.block k (h.lt k hk) (hF k hk)) hm.size
theorem cell (h : Renv w a R E) (i : Nat) (v : Value) (hi : (a.cells E)[i]? = some v) : w.cell? ⟨a.eb, i, none⟩ = some v := by
  unfold World.cell?
  rw [h.blk]
  exact hi
theorem free (h : Renv w a R E) (i : Nat) : w.frozen? ⟨a.eb, i, none⟩ = false := by
  unfold World.frozen?
  rw [h.blk]
  simp
end Renv
theorem rcores_cores {C R : List Rp} (h : rcores C = rcores R) : cores (rpgs C) = cores (rpgs R) := h
def RNewPost (w : World) (R : List Rp) (num pc : Int) (e : Ending) (w' : World) : Prop :=
  ∃ a C, e = .returned (.tuple #[.pointer (some ⟨a.eb, 0, none⟩), .bool true]) ∧ Renv w' a C (En.new num pc (rpgs C)) ∧ cores (rpgs C) = cores (rpgs R) ∧ (∀ k, a.foot C k → w.heap.size ≤ k) ∧ Below w.heap.size w w'
namespace Rv
section
variable {w : World} {rb : Nat} {lv : Value} {R : List Rp}
theorem new_arg (p : Addr) (num pc : Int) (hn : num < 1 ∨ 8 < num) (w : World) : Calls Tryz.prog 52 #[.int .i64 num, .pointer (some p), .int .u32 pc] w fun e w' => e = .returned (.tuple #[.pointer none, .bool false]) ∧ w = w' := by
  cases g : decide (num < 1) with
  | true =>
    have g' := of_decide_eq_true g
    go_enter Tryz.func52, Tryz.ntmps52
    go_wp2
    refine bodyPost_ret (v := .tuple #[.pointer none, .bool false]) (by simp [results, Tryz.results52, go_sem, *]) rfl ?_
    exact ⟨rfl, rfl⟩
  | false =>
    have g' := of_decide_eq_false g
    have g2 : 8 < num := by omega
    go_enter Tryz.func52, Tryz.ntmps52
    go_wp2
    refine bodyPost_ret (v := .tuple #[.pointer none, .bool false]) (by simp [results, Tryz.results52, go_sem, *]) rfl ?_
    exact ⟨rfl, rfl⟩
set_option maxRecDepth 100000 in
set_option maxHeartbeats 4000000 in
theorem new (h : Rsp w rb lv R) (num pc : Int) (n0 : 1 ≤ num) (n1 : num ≤ 8) (p0 : 0 ≤ pc) (p1 : pc ≤ 4294967295) : Calls Tryz.prog 52 #[.int .i64 num, .pointer (some ⟨rb, 0, none⟩), .int .u32 pc] w (RNewPost w R num pc) := by
  have HC := Lib.hid (Rs.copy h)
  have g1 : ¬ num < 1 := by omega
  have g2 : ¬ 8 < num := by omega
  have HFin : Hid (∀ cb lvc C w2, Rsp w2 cb lvc C → rcores C = rcores R → (∀ k, Rsp.foot cb lvc C k → w.heap.size ≤ k) → Below w.heap.size w w2 →
      RNewPost w R num pc (.returned (.tuple #[.pointer (some ⟨w2.heap.size + 1, 0, none⟩), .bool true])) ((w2.alloc (.cells #[.int .u32 0, .int .u32 0, .int .u32 0, .int .u32 0, .int .u32 0, .int .u32 0, .int .u32 0, .int .u32 0, .int .u32 0, .int .u32 0, .int .u32 0, .int .u32 0, .int .u32 0, .int .u32 0, .int .u32 0, .int .u32 0, .int .u32 pc] 124)).alloc (.cells #[.int .i64 num, .pointer (some ⟨cb, 0, none⟩), .pointer (some ⟨w2.heap.size, 0, none⟩), .int .u8 2, .int .u32 0, .int .i64 0, .slice none 0 0, .string ⟨#[]⟩] 80))) := Lib.hid fun cb lvc C w2 hs hc hf hb => by
    have hz := hb.size
    have hb1 : Below w2.heap.size w2 (w2.alloc (.cells #[.int .u32 0, .int .u32 0, .int .u32 0, .int .u32 0, .int .u32 0, .int .u32 0, .int .u32 0, .int .u32 0, .int .u32 0, .int .u32 0, .int .u32 0, .int .u32 0, .int .u32 0, .int .u32 0, .int .u32 0, .int .u32 0, .int .u32 pc] 124)) := (Below.refl _ _).alloc (Nat.le_refl _) _
    have hz1 : (w2.alloc (.cells #[.int .u32 0, .int .u32 0, .int .u32 0, .int .u32 0, .int .u32 0, .int .u32 0, .int .u32 0, .int .u32 0, .int .u32 0, .int .u32 0, .int .u32 0, .int .u32 0, .int .u32 0, .int .u32 0, .int .u32 0, .int .u32 0, .int .u32 pc] 124)).heap.size = w2.heap.size + 1 := by simp
    have hcp : Cpu 124 (w2.alloc (.cells #[.int .u32 0, .int .u32 0, .int .u32 0, .int .u32 0, .int .u32 0, .int .u32 0, .int .u32 0, .int .u32 0, .int .u32 0, .int .u32 0, .int .u32 0, .int .u32 0, .int .u32 0, .int .u32 0, .int .u32 0, .int .u32 0, .int .u32 pc] 124)) w2.heap.size (List.replicate 16 0) pc := ⟨heap_alloc_new w2 _, ⟨rfl, fun x hx => by rw [List.eq_of_mem_replicate hx]; omega⟩, p0, p1⟩
    generalize w2.alloc (.cells #[.int .u32 0, .int .u32 0, .int .u32 0, .int .u32 0, .int .u32 0, .int .u32 0, .int .u32 0, .int .u32 0, .int .u32 0, .int .u32 0, .int .u32 0, .int .u32 0, .int .u32 0, .int .u32 0, .int .u32 0, .int .u32 0, .int .u32 pc] 124) = w3 at *
    have hba : Below w3.heap.size w3 (w3.alloc (.cells #[.int .i64 num, .pointer (some ⟨cb, 0, none⟩), .pointer (some ⟨w2.heap.size, 0, none⟩), .int .u8 2, .int .u32 0, .int .i64 0, .slice none 0 0, .string ⟨#[]⟩] 80)) := (Below.refl _ _).alloc (Nat.le_refl _) _
    have hen := heap_alloc_new w3 (.cells #[.int .i64 num, .pointer (some ⟨cb, 0, none⟩), .pointer (some ⟨w2.heap.size, 0, none⟩), .int .u8 2, .int .u32 0, .int .i64 0, .slice none 0 0, .string ⟨#[]⟩] 80)
    rw [hz1] at hen
    refine ⟨⟨w2.heap.size + 1, cb, lvc, w2.heap.size, .slice none 0 0⟩, C, rfl, ?_, rcores_cores hc, fun k hk => ?_, ?_⟩
    · exact { blk := hen, cp := hcp.below hba, rp := (hs.same hb1).same hba, eq := rfl, ls := Sl.Lst.nil _, ec := by show w2.heap.size + 1 ≠ w2.heap.size; omega, es := fun g => absurd (hs.lt g) (by show ¬ w2.heap.size + 1 < w2.heap.size; omega), cs := fun g => Nat.lt_irrefl _ (hs.lt g), le := fun g hg => (nomatch hg), ok := ⟨List.Pairwise.nil, fun x hx => (nomatch hx), fun x hx => (nomatch hx), Nat.zero_le _⟩ }
    · rcases hk with g | g | g | g
      · rw [g]; show w.heap.size ≤ w2.heap.size + 1; omega
      · rw [g]; exact hz
      · exact hf k g
      · cases g
    · exact (hb.trans (hb1.mono hz)).alloc (by omega) _
  generalize RNewPost w R num pc = PQ at *
  clear h
  go_enter Tryz.func52, Tryz.ntmps52
  go_wp2_with fail
  refine HC.out.mono ?_
  rintro e w2 ⟨cb, lvc, C, rfl, hs, hc, hf, hb⟩
  have HS := Lib.hid (⟨hs, hc, hf, hb⟩ : Rsp w2 cb lvc C ∧ rcores C = rcores R ∧ (∀ k, Rsp.foot cb lvc C k → w.heap.size ≤ k) ∧ Below w.heap.size w w2)
  clear hs hc hf hb
  go_wp2
  exact HFin.out cb lvc C w2 HS.out.1 HS.out.2.1 HS.out.2.2.1 HS.out.2.2.2
end
end Rv
end Go.Proofs.YtkbhokmnbpnlbaaGreat
