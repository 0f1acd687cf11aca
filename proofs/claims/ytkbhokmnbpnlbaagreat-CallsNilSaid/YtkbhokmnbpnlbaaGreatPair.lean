/- A space and a document's space beside each other. -/
import Derived.Test.YtkbhokmnbpnlbaaGreatCor
namespace Go.Proofs.YtkbhokmnbpnlbaaGreat
open Go.RowKit
set_option linter.unusedVariables false
structure SStep (w w' : World) (sb mb : Nat) (A A' : List Pg) : Prop where
  sp : Spc w' sb mb A'
  mod : Mod (Spc.foot sb mb A) w w'
  foot : ∀ k, Spc.foot sb mb A' k → Spc.foot sb mb A k ∨ w.heap.size ≤ k
theorem SStep.refl {w : World} {sb mb : Nat} {A : List Pg} (h : Spc w sb mb A) : SStep w w sb mb A A := ⟨h, Mod.refl _ _, fun _ g => .inl g⟩
namespace Sp
section
variable {w : World} {sb mb : Nat} {A : List Pg}
theorem s_map (h : Spc w sb mb A) (addr perm : Int) (h0 : 0 ≤ addr) (h1 : addr ≤ 4294967295) (p0 : 0 ≤ perm) (p1 : perm ≤ 255) :
    Calls Tryz.prog 66 #[.pointer (some ⟨sb, 0, none⟩), .int .u32 addr, .int .u8 perm] w fun e w' => ∃ blk, e = .returned (.int .i64 (mapE A addr perm)) ∧ SStep w w' sb mb A (mapA A addr blk perm) :=
  (map_any h addr perm h0 h1 p0 p1).mono fun e w' ⟨g1, g2, g3⟩ => ⟨_, g1, ⟨g2, g3.mono fun k _ hk => .inr (.inl hk), fun k hk => by
    rcases foot_mapA hk with rfl | g
    · exact .inr (Nat.le_refl _)
    · exact .inl g⟩⟩
theorem foot_unmapA {addr : Int} {k : Nat} (h : Spc.foot sb mb (unmapA A addr) k) : Spc.foot sb mb A k := by
  unfold unmapA at h
  split at h
  · rcases h with h | h | ⟨p, hp, h⟩
    · exact .inl h
    · exact .inr (.inl h)
    · exact .inr (.inr ⟨p, (mem_delPg.1 hp).1, h⟩)
  · exact h
theorem s_unmap (h : Spc w sb mb A) (addr : Int) (h0 : 0 ≤ addr) (h1 : addr ≤ 4294967295) :
    Calls Tryz.prog 141 #[.pointer (some ⟨sb, 0, none⟩), .int .u32 addr] w fun e w' => e = .returned (.int .i64 (unmapE A addr)) ∧ SStep w w' sb mb A (unmapA A addr) :=
  (unmap_any h addr h0 h1).mono fun e w' ⟨g1, g2, g3⟩ => ⟨g1, ⟨g2, g3.mono fun k _ hk => .inr (.inl hk), fun k hk => .inl (foot_unmapA hk)⟩⟩
theorem s_set (h : Spc w sb mb A) (addr : Int) (s : ByteArray) (h0 : 0 ≤ addr) (h1 : addr ≤ 4294967295) (hn : s.size ≤ 140737488355328) :
    Calls Tryz.prog 125 #[.pointer (some ⟨sb, 0, none⟩), .int .u32 addr, .string s] w fun e w' => e = .returned (.int .i64 (fitsE A addr s.size 0)) ∧ SStep w w' sb mb A (putA A addr 0 s) :=
  (set h addr s h0 h1 hn).mono fun e w' ⟨g1, g2, g3⟩ => ⟨g1, ⟨g2, g3.mono fun k _ hk => .inr (.inr hk), fun k hk => .inl (foot_putA.1 hk)⟩⟩
theorem s_write (h : Spc w sb mb A) (addr : Int) (s : ByteArray) (h0 : 0 ≤ addr) (h1 : addr ≤ 4294967295) (hn : s.size ≤ 140737488355328) :
    Calls Tryz.prog 200 #[.pointer (some ⟨sb, 0, none⟩), .int .u32 addr, .string s] w fun e w' => e = .returned (.int .i64 (fitsE A addr s.size 2)) ∧ SStep w w' sb mb A (putA A addr 2 s) :=
  (write h addr s h0 h1 hn).mono fun e w' ⟨g1, g2, g3⟩ => ⟨g1, ⟨g2, g3.mono fun k _ hk => .inr (.inr hk), fun k hk => .inl (foot_putA.1 hk)⟩⟩
end
end Sp
structure Pair (w : World) (sb mb : Nat) (A : List Pg) (rb : Nat) (lv : Value) (R : List Rp) : Prop where
  sp : Spc w sb mb A
  rp : Rsp w rb lv R
  apart : ∀ k, Spc.foot sb mb A k → ¬ Rsp.foot rb lv R k
theorem Rsp.keep {w w' : World} {rb : Nat} {lv : Value} {R : List Rp} {F : Nat → Prop} (h : Rsp w rb lv R) (hm : Mod F w w') (hf : ∀ k, Rsp.foot rb lv R k → ¬ F k) : Rsp w' rb lv R := h.frame fun k hk => hm.block k (h.lt hk) (hf k hk)
section
variable {w w' : World} {sb mb rb : Nat} {A A' : List Pg} {lv lv' : Value} {R R' : List Rp}
theorem Pair.below (h : Pair w sb mb A rb lv R) (hb : Below w.heap.size w w') : Pair w' sb mb A rb lv R := ⟨h.sp.below hb fun _ hk => h.sp.lt hk, h.rp.same hb, h.apart⟩
theorem Pair.left (h : Pair w sb mb A rb lv R) (s : SStep w w' sb mb A A') : Pair w' sb mb A' rb lv R :=
  ⟨s.sp, h.rp.keep s.mod fun k hk g => h.apart k g hk, fun k hk g => by
    rcases s.foot k hk with q | q
    · exact h.apart k q g
    · have := h.rp.lt g; omega⟩
theorem Pair.right (h : Pair w sb mb A rb lv R) (s : RStep w w' rb lv R lv' R') : Pair w' sb mb A rb lv' R' :=
  ⟨h.sp.keep s.mod fun k hk g => h.apart k hk g, s.sp, fun k hk g => by
    rcases s.foot k g with q | q
    · exact h.apart k hk q
    · have := h.sp.lt hk; omega⟩
/-- A step of both. -/
structure DStep (w w' : World) (sb mb : Nat) (A : List Pg) (rb : Nat) (lv : Value) (R : List Rp) (A' : List Pg) (lv' : Value) (R' : List Rp) : Prop where
  pair : Pair w' sb mb A' rb lv' R'
  mod : Mod (fun k => Spc.foot sb mb A k ∨ Rsp.foot rb lv R k) w w'
  fa : ∀ k, Spc.foot sb mb A' k → Spc.foot sb mb A k ∨ w.heap.size ≤ k
  fr : ∀ k, Rsp.foot rb lv' R' k → Rsp.foot rb lv R k ∨ w.heap.size ≤ k
theorem DStep.refl (h : Pair w sb mb A rb lv R) : DStep w w sb mb A rb lv R A lv R := ⟨h, Mod.refl _ _, fun _ g => .inl g, fun _ g => .inl g⟩
theorem DStep.below {W : World} (h : DStep w w' sb mb A rb lv R A' lv' R') (hb : Below w'.heap.size w' W) : DStep w W sb mb A rb lv R A' lv' R' :=
  ⟨h.pair.below hb, h.mod.trans (Mod.of_below hb (fun _ => False)) fun _ _ g => g.elim, h.fa, h.fr⟩
theorem DStep.pre {W : World} (hb : Below W.heap.size W w) (h : DStep w w' sb mb A rb lv R A' lv' R') (hA : ∀ k, Spc.foot sb mb A k → k < W.heap.size) (hR : ∀ k, Rsp.foot rb lv R k → k < W.heap.size) : DStep W w' sb mb A rb lv R A' lv' R' :=
  ⟨h.pair, (Mod.of_below hb _).trans h.mod fun i hi g => .inl g, fun k hk => (h.fa k hk).imp id fun g => Nat.le_trans hb.size g, fun k hk => (h.fr k hk).imp id fun g => Nat.le_trans hb.size g⟩
theorem DStep.left {A2 : List Pg} {W : World} (h : DStep w w' sb mb A rb lv R A' lv' R') (s : SStep w' W sb mb A' A2) : DStep w W sb mb A rb lv R A2 lv' R' :=
  ⟨h.pair.left s, h.mod.trans s.mod fun i hi g => by rcases h.fa i g with q | q; exact .inl (.inl q); exact .inr q, fun k hk => by
    rcases s.foot k hk with q | q
    · exact h.fa k q
    · exact .inr (Nat.le_trans h.mod.size q), h.fr⟩
theorem DStep.right {lv2 : Value} {R2 : List Rp} {W : World} (h : DStep w w' sb mb A rb lv R A' lv' R') (s : RStep w' W rb lv' R' lv2 R2) : DStep w W sb mb A rb lv R A' lv2 R2 :=
  ⟨h.pair.right s, h.mod.trans s.mod fun i hi g => by rcases h.fr i g with q | q; exact .inl (.inr q); exact .inr q, h.fa, fun k hk => by
    rcases s.foot k hk with q | q
    · exact h.fr k q
    · exact .inr (Nat.le_trans h.mod.size q)⟩
/-- The cells of a block that is neither's. -/
theorem DStep.cell (h : DStep w w' sb mb A rb lv R A' lv' R') {p : Addr} {v : Value} (hc : w.cell? p = some v) (hp : p.block < w.heap.size) (ha : ¬ Spc.foot sb mb A p.block) (hr : ¬ Rsp.foot rb lv R p.block) : w'.cell? p = some v :=
  (World.cell?_of_block (w := w) (h.mod.block _ hp fun g => g.elim ha hr)).trans hc
end
end Go.Proofs.YtkbhokmnbpnlbaaGreat
