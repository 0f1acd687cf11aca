/- A space of the call's own: the contracts in one form. -/
import Derived.Test.YtldmglodjafklaaSpcD
namespace Go.Proofs.Ytldmglodjafklaa.Sp
open Go.RowKit
set_option linter.unusedVariables false
structure Own (w0 w : World) (sb mb : Nat) (A : List Pg) : Prop where
  spc : Spc w sb mb A
  base : ∀ k, Spc.foot sb mb A k → w0.heap.size ≤ k
  bel : Below w0.heap.size w0 w
theorem foot_insPg {sb mb : Nat} {A : List Pg} {p : Pg} {k : Nat} : Spc.foot sb mb (insPg p A) k ↔ k = p.blk ∨ Spc.foot sb mb A k := by
  unfold Spc.foot
  constructor
  · rintro (h | h | ⟨q, hq, rfl⟩)
    · exact .inr (.inl h)
    · exact .inr (.inr (.inl h))
    · rcases mem_insPg.1 hq with rfl | hq'
      · exact .inl rfl
      · exact .inr (.inr (.inr ⟨q, hq', rfl⟩))
  · rintro (h | h | h | ⟨q, hq, rfl⟩)
    · exact .inr (.inr ⟨p, mem_insPg.2 (.inl rfl), h⟩)
    · exact .inl h
    · exact .inr (.inl h)
    · exact .inr (.inr ⟨q, mem_insPg.2 (.inr hq), rfl⟩)
theorem foot_mapA {sb mb : Nat} {A : List Pg} {addr perm : Int} {blk k : Nat} (h : Spc.foot sb mb (mapA A addr blk perm) k) : k = blk ∨ Spc.foot sb mb A k := by
  unfold mapA at h
  split at h
  · exact foot_insPg.1 h
  · exact .inr h
theorem foot_putA {sb mb : Nat} {A : List Pg} {addr need : Int} {s : ByteArray} {k : Nat} : Spc.foot sb mb (putA A addr need s) k ↔ Spc.foot sb mb A k := by
  unfold putA
  split
  · exact foot_putN
  · exact Iff.rfl
theorem Own.below {w0 w w' : World} {sb mb : Nat} {A : List Pg} (h : Own w0 w sb mb A) (k : Below w.heap.size w w') : Own w0 w' sb mb A :=
  ⟨h.spc.below k fun _ hk => h.spc.lt hk, h.base, h.bel.trans (k.mono h.bel.size)⟩
theorem Own.mod {w0 w w' : World} {sb mb : Nat} {A A' : List Pg} {F : Nat → Prop} (h : Own w0 w sb mb A) (hs : Spc w' sb mb A') (hm : Mod F w w') (hF : ∀ k, F k → Spc.foot sb mb A k) (hf : ∀ k, Spc.foot sb mb A' k → Spc.foot sb mb A k ∨ w.heap.size ≤ k) : Own w0 w' sb mb A' :=
  ⟨hs, fun k hk => by rcases hf k hk with g | g; exact h.base k g; exact Nat.le_trans h.bel.size g, Mod.below h.bel hm h.bel.size fun k _ hk => h.base k (hF k hk)⟩
theorem o_new (w : World) : Calls Try.prog 8 #[] w fun e w' => e = .returned (.pointer (some ⟨w.heap.size + 1, 0, none⟩)) ∧ Own w w' (w.heap.size + 1) w.heap.size [] :=
  (new w).mono fun e w' ⟨h1, h2, h3, _⟩ => ⟨h1, h2, fun k hk => by rcases hk with rfl | rfl | ⟨p, hp, _⟩; omega; omega; simp at hp, h3⟩
section
variable {w0 w : World} {sb mb : Nat} {A : List Pg}
theorem o_map (h : Own w0 w sb mb A) (addr perm : Int) (h0 : 0 ≤ addr) (h1 : addr ≤ 4294967295) (p0 : 0 ≤ perm) (p1 : perm ≤ 255) :
    Calls Try.prog 9 #[.pointer (some ⟨sb, 0, none⟩), .int .u32 addr, .int .u8 perm] w fun e w' => e = .returned (.int .i64 (mapE A addr perm)) ∧ Own w0 w' sb mb (mapA A addr w.heap.size perm) :=
  (map_any h.spc addr perm h0 h1 p0 p1).mono fun e w' ⟨g1, g2, g3⟩ => ⟨g1, h.mod g2 g3 (fun k hk => .inr (.inl hk)) fun k hk => by
    rcases foot_mapA hk with rfl | g
    · exact .inr (Nat.le_refl _)
    · exact .inl g⟩
theorem o_write (h : Own w0 w sb mb A) (addr : Int) (s : ByteArray) (h0 : 0 ≤ addr) (h1 : addr ≤ 4294967295) (hn : s.size ≤ 140737488355328) :
    Calls Try.prog 13 #[.pointer (some ⟨sb, 0, none⟩), .int .u32 addr, .string s] w fun e w' => e = .returned (.int .i64 (fitsE A addr s.size 2)) ∧ Own w0 w' sb mb (putA A addr 2 s) :=
  (write h.spc addr s h0 h1 hn).mono fun e w' ⟨g1, g2, g3⟩ => ⟨g1, h.mod g2 g3 (fun k hk => .inr (.inr hk)) fun k hk => .inl (foot_putA.1 hk)⟩
theorem o_look (h : Own w0 w sb mb A) (addr n : Int) (h0 : 0 ≤ addr) (h1 : addr ≤ 4294967295) :
    Calls Try.prog 11 #[.pointer (some ⟨sb, 0, none⟩), .int .u32 addr, .int .i64 n] w fun e w' => e = .returned (.tuple #[.string (getS A addr n 0), .int .i64 (getE A addr n 0)]) ∧ Own w0 w' sb mb A :=
  (look h.spc addr n h0 h1).mono fun e w' ⟨g1, g2⟩ => ⟨g1, h.below g2⟩
theorem o_read (h : Own w0 w sb mb A) (addr n : Int) (h0 : 0 ≤ addr) (h1 : addr ≤ 4294967295) :
    Calls Try.prog 10 #[.pointer (some ⟨sb, 0, none⟩), .int .u32 addr, .int .i64 n] w fun e w' => e = .returned (.tuple #[.string (getS A addr n 1), .int .i64 (getE A addr n 1)]) ∧ Own w0 w' sb mb A :=
  (read h.spc addr n h0 h1).mono fun e w' ⟨g1, g2⟩ => ⟨g1, h.below g2⟩
theorem o_fetch (h : Own w0 w sb mb A) (addr : Int) (h0 : 0 ≤ addr) (h1 : addr ≤ 4294967295) :
    Calls Try.prog 12 #[.pointer (some ⟨sb, 0, none⟩), .int .u32 addr] w fun e w' => e = .returned (.tuple #[.string (getS A addr 8 4), .int .i64 (getE A addr 8 4)]) ∧ Own w0 w' sb mb A :=
  (fetch h.spc addr h0 h1).mono fun e w' ⟨g1, g2⟩ => ⟨g1, h.below g2⟩
end
end Go.Proofs.Ytldmglodjafklaa.Sp
