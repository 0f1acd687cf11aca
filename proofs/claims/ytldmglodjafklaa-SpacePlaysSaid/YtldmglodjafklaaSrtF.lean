/- The library's sort at rows of uint32: math/bits.Len at small numbers, xorshift, breakPatternsOrdered: some permutation. -/
import Derived.Test.YtldmglodjafklaaSrtC
import Derived.Sort.LotD1
import Derived.Lib.BitFns
import Derived.Lib.Strings
import Derived.Laws.BitsAllLaws
namespace Go.Proofs.Ytldmglodjafklaa.Srt
open Go.RowKit Go.Sort
set_option linter.unusedVariables false
theorem tab_get (y : Int) (h0 : 0 ≤ y) (h1 : y < 256) (h : y.toNat < Lib.len8tab.size) : wrap64 (wrap64 (Lib.len8tab[y.toNat]'h).toNat) = (Lib.bitLen y.toNat : Int) ∧ wrap64 (8 + wrap64 (Lib.len8tab[y.toNat]'h).toNat) = 8 + (Lib.bitLen y.toNat : Int) := by
  have e : ((Lib.len8tab[y.toNat]'h).toNat : Int) = Lib.len8 y := by
    unfold Lib.len8
    rw [getElem?_pos Lib.len8tab y.toNat h]
    rfl
  have g := Lib.len8_of y h0 (by omega)
  have l := Lib.bitLen_le8' y h0 (by omega)
  rw [e]
  unfold wrap64
  constructor <;> omega
set_option maxRecDepth 100000 in
set_option maxHeartbeats 4000000 in
theorem len64 (x : Int) (h0 : 0 ≤ x) (hx : x < 65536) (w : World) : Calls Try.prog 111 #[.int .u64 x] w fun e w' => e = .returned (.int .i64 (Lib.bitLen x.toNat)) ∧ w = w' := by
  by_cases h : x < 256
  · have h2 : ¬ (256 : Int) ≤ x := by omega
    go_enter Try.func111, Try.ntmps111
    conv in (Value.string _) => tactic => exact (show _ = Value.string Lib.len8tab by kernel_rfl)
    go_wp2
    go_ret
    exact ⟨congrArg Ending.returned (congrArg (Value.int IntKind.i64) (tab_get x h0 h _).1), rfl⟩
  · have h2 : (256 : Int) ≤ x := by omega
    have hb : x / 256 < (Lib.len8tab.size : Int) := by rw [Lib.len8tab_size]; omega
    go_enter Try.func111, Try.ntmps111
    conv in (Value.string _) => tactic => exact (show _ = Value.string Lib.len8tab by kernel_rfl)
    go_wp2
    go_ret
    have s := Lib.bitLen_shift8 x.toNat (by omega) (by omega)
    refine ⟨congrArg Ending.returned (congrArg (Value.int IntKind.i64) ?_), rfl⟩
    refine (tab_get (x / 256) (by omega) (by omega) _).2.trans ?_
    rw [show (x / 256).toNat = x.toNat / 256 by omega]
    omega
theorem bitsLen_any (x : Nat) (hx : x < 65536) (w : World) : Calls Try.prog 82 #[.int .u64 x] w fun e w' => e = .returned (.int .i64 (Lib.bitLen x)) ∧ w = w' := by
  have h : ∀ w, Calls Try.prog 111 #[.int .u64 x] w fun e w' => e = .returned (.int .i64 (Lib.bitLen x)) ∧ w = w' := fun w => len64 x (by omega) (by omega) w
  go_enter Try.func82, Try.ntmps82
  go_wp2_with (go_at_call 111; (with_reducible refine (h _).mono ?_); rintro e w' ⟨rfl, rfl⟩)
  go_ret
  exact ⟨rfl, rfl⟩
/-- The power of two above: at most twice the number. -/
theorem pow_bitLen : ∀ (k x : Nat), x < 2 ^ k → k ≤ 64 → 2 ^ Lib.bitLen x ≤ 2 * x + 1 ∧ Lib.bitLen x ≤ k
  | 0, x, hx, _ => by
    obtain rfl : x = 0 := by simp at hx; exact hx
    decide
  | k + 1, x, hx, hk => by
    by_cases h0 : x = 0
    · subst h0
      have : Lib.bitLen 0 = 0 := by decide
      rw [this]; simp
    · have hlt : x < 2 ^ 64 := Nat.lt_of_lt_of_le hx (Nat.pow_le_pow_right (by omega) hk)
      rw [Lib.bitLen_half x h0 hlt]
      obtain ⟨h1, h2⟩ := pow_bitLen k (x / 2) (by rw [Nat.pow_succ] at hx; omega) (by omega)
      refine ⟨?_, by omega⟩
      rw [Nat.pow_add]
      by_cases hz : x / 2 = 0
      · obtain rfl : x = 1 := by omega
        decide
      · have : 2 ^ Lib.bitLen (x / 2) ≠ 2 * (x / 2) + 1 := by
          intro g
          cases hb : Lib.bitLen (x / 2) with
          | zero => rw [hb] at g; simp at g; omega
          | succ m => rw [hb, Nat.pow_succ] at g; omega
        omega
theorem nextPow (x : Nat) (hx : x < 65536) (w : World) : Calls Try.prog 117 #[.int .i64 x] w fun e w' => e = .returned (.int .u64 ((2 ^ Lib.bitLen x : Nat) : Int)) ∧ w = w' := by
  obtain ⟨h1, h2⟩ := pow_bitLen 16 x hx (by omega)
  have h := fun w => bitsLen_any x hx w
  generalize Lib.bitLen x = k at *
  go_enter Try.func117, Try.ntmps117
  go_wp2_with (go_at_call 82; (with_reducible refine (h _).mono ?_); rintro e w' ⟨rfl, rfl⟩)
  go_ret
  have e2 : IntKind.u64.wrap ((2 : Int) ^ k) = ((2 ^ k : Nat) : Int) := by
    have e3 : ((2 : Int) ^ k) = ((2 ^ k : Nat) : Int) := by simp
    rw [e3]
    generalize 2 ^ k = y at *
    simp [IntKind.wrap, IntKind.bits, IntKind.signed]
    omega
  exact ⟨by rw [e2]; rfl, rfl⟩
/-! ### xorshift -/
structure SX (W0 w : World) (blk off : Nat) (e : TypeId) (N : Nat) (d : Array Int) (sb : Nat) (r : Int) : Prop where
  sw : SW W0 w blk off e N d
  new : W0.heap.size ≤ sb
  ne : sb ≠ blk
  cnt : w.heap[sb]? = some (.cells #[.int .u64 r] 150 (0, 0))
  r0 : 0 ≤ r
  r1 : r < 18446744073709551616
section
variable {W0 w : World} {blk off : Nat} {e : TypeId} {N : Nat} {d : Array Int} {sb : Nat} {r : Int}
theorem SX.drewN (h : SX W0 w blk off e N d sb r) (n : Nat) : SX W0 (w.drewN n) blk off e N d sb r := ⟨h.sw.drewN n, h.new, h.ne, h.cnt, h.r0, h.r1⟩
theorem SX.cell (h : SX W0 w blk off e N d sb r) : w.cell? ⟨sb, 0, none⟩ = some (.int .u64 r) := by unfold World.cell?; rw [h.cnt]; rfl
theorem SX.free (h : SX W0 w blk off e N d sb r) : w.frozen? ⟨sb, 0, none⟩ = false := by unfold World.frozen?; rw [h.cnt]; simp
theorem SX.put (h : SX W0 w blk off e N d sb r) (c' : Int) (h0 : 0 ≤ c') (h1 : c' < 18446744073709551616) : SX W0 (w.setCell ⟨sb, 0, none⟩ (.int .u64 c')) blk off e N d sb c' := by
  refine ⟨⟨h.sw.mod.setCell _ (.inr h.new) _, ?_⟩, h.new, h.ne, ?_, h0, h1⟩
  · obtain ⟨cur, hb, rest⟩ := h.sw.row
    exact ⟨cur, by rw [heap_setCell_other _ _ _ _ h.ne.symm]; exact hb, rest⟩
  · have := heap_setCell_same w sb 0 _ _ (.int .u64 c') h.cnt
    simpa using this
end
theorem SX.swap {W0 w : World} {blk off : Nat} {e : TypeId} {N : Nat} {d : Array Int} {sb : Nat} {r : Int} (h : SX W0 w blk off e N d sb r) (i j : Nat) (hi : i < d.size) (hj : j < d.size) : SX W0 ((w.drewN 1).setCell ⟨blk, off + i, none⟩ (.int .u32 d[j]!) |>.setCell ⟨blk, off + j, none⟩ (.int .u32 d[i]!)) blk off e N (swp d i j) sb r :=
  ⟨(h.sw.drewN 1).swap i j hi hj, h.new, h.ne, by rw [heap_setCell_other _ _ _ _ h.ne, heap_setCell_other _ _ _ _ h.ne]; exact h.cnt, h.r0, h.r1⟩
theorem xor_bd (a b : Int) : 0 ≤ bits .xor .u64 a b ∧ bits .xor .u64 a b < 18446744073709551616 := by
  have : bits .xor .u64 a b = IntKind.u64.wrap (bits .xor .u64 a b) := by
    unfold bits
    simp [IntKind.wrap, IntKind.bits, IntKind.signed]
  rw [this, IntKind.wrap_u64]
  omega
def NX (W0 : World) (blk off : Nat) (e : TypeId) (N : Nat) (d : Array Int) (sb : Nat) (x : Ending) (w' : World) : Prop :=
  ∃ r : Int, x = .returned (.int .u64 r) ∧ 0 ≤ r ∧ r < 18446744073709551616 ∧ SX W0 w' blk off e N d sb r
set_option maxRecDepth 100000 in
theorem next {W0 w : World} {blk off : Nat} {e : TypeId} {N : Nat} {d : Array Int} {sb : Nat} {r : Int} (h : SX W0 w blk off e N d sb r) :
    Calls Try.prog 118 #[.pointer (some ⟨sb, 0, none⟩)] w (NX W0 blk off e N d sb) := by
  have hc := h.cell
  have hf := h.free
  have hr0 := h.r0
  have hr1 := h.r1
  have H := Lib.hid h
  clear h
  go_enter Try.func118, Try.ntmps118
  go_wp2
  go_region
  have bd1 := xor_bd r (IntKind.u64.wrap (r * 8192))
  generalize hr1' : bits .xor .u64 r (IntKind.u64.wrap (r * 8192)) = r1 at *
  generalize hw1 : World.drew _ = w1
  have H1 : Hid (SX W0 w1 blk off e N d sb r1) := Lib.hid (by rw [← hw1]; exact (H.out.drewN 1).put r1 bd1.1 bd1.2)
  clear hw1 hr1' hc hf
  have hc := H1.out.cell
  have hf := H1.out.free
  go_wp2
  go_region
  have bd2 := xor_bd r1 (r1 / 128)
  generalize hr2' : bits .xor .u64 r1 (r1 / 128) = r2 at *
  generalize hw2 : World.drew _ = w2
  have H2 : Hid (SX W0 w2 blk off e N d sb r2) := Lib.hid (by rw [← hw2]; exact (H1.out.drewN 1).put r2 bd2.1 bd2.2)
  clear hw2 hr2' hc hf
  have hc := H2.out.cell
  have hf := H2.out.free
  go_wp2
  go_region
  have bd3 := xor_bd r2 (IntKind.u64.wrap (r2 * 131072))
  generalize hr3' : bits .xor .u64 r2 (IntKind.u64.wrap (r2 * 131072)) = r3 at *
  generalize hw3 : World.drew _ = w3
  have H3 : Hid (SX W0 w3 blk off e N d sb r3) := Lib.hid (by rw [← hw3]; exact (H2.out.drewN 1).put r3 bd3.1 bd3.2)
  clear hw3 hr3' hc hf
  have hc := H3.out.cell
  have hf := H3.out.free
  go_wp2
  go_ret
  exact ⟨r3, rfl, bd3.1, bd3.2, H3.out⟩
/-! ### breakPatterns -/
theorem and_bd (a : Int) (m : Nat) (h0 : 0 ≤ a) (h1 : a < 18446744073709551616) (hm : m < 18446744073709551616) : ∃ t : Nat, bits .and .u64 a (m : Int) = (t : Int) ∧ t ≤ m := by
  refine ⟨a.toNat &&& m, ?_, Nat.and_le_right⟩
  have := u64_and a m h0 h1 (by omega) (by omega)
  simpa using this
def BP (W0 : World) (blk off : Nat) (e : TypeId) (N : Nat) (d : Array Int) (a b : Nat) (x : Ending) (w' : World) : Prop :=
  ∃ d' : Array Int, x = .returned (.tuple #[]) ∧ PermIn a b d d' ∧ SW W0 w' blk off e N d'
def bpRel (W0 : World) (blk off : Nat) (e : TypeId) (N : Nat) (d : Array Int) (a b sb : Nat) (lo : Nat) (vi : Value) (wr : World) : Prop :=
  ∃ (k : Nat) (dk : Array Int) (r : Int), vi = .int .i64 ((lo : Int) + k) ∧ k ≤ 3 ∧ PermIn a b d dk ∧ SX W0 wr blk off e N dk sb r
set_option maxRecDepth 100000 in
set_option maxHeartbeats 2000000 in
theorem breakPatterns {W0 w : World} {blk off : Nat} {e : TypeId} {N : Nat} {d : Array Int} (h : SW W0 w blk off e N d) (cap a b : Nat) (hab : a + 12 < b) (hb : b ≤ d.size) (hsz : d.size < 65536) :
    Calls Try.prog 103 #[.slice (some ⟨blk, off, none⟩) d.size cap, .int .i64 a, .int .i64 b] w (BP W0 blk off e N d a b) := by
  obtain ⟨l, hl⟩ : ∃ l, b - a = l := ⟨_, rfl⟩
  have hbd : (b : Int) - (a : Int) = (l : Int) := by omega
  have hl1 : a + l ≤ b := by omega
  have hl1' : b ≤ a + l := by omega
  have hl2 : 12 < l := by omega
  clear hl
  obtain ⟨lo, hlo⟩ : ∃ lo, a + l / 4 * 2 - 1 = lo := ⟨_, rfl⟩
  have elo : (a : Int) + (l : Int) / 4 * 2 - 1 = (lo : Int) := by omega
  have ehi : (a : Int) + (l : Int) / 4 * 2 + 1 = (lo : Int) + 2 := by omega
  have l0 : a ≤ lo ∧ lo + 2 < b := by omega
  clear hlo
  obtain ⟨p1, p2⟩ := pow_bitLen 16 l (by omega) (by omega)
  have hnp := fun w => nextPow l (by omega) w
  have hp0 : 1 ≤ 2 ^ Lib.bitLen l := Nat.one_le_two_pow
  have hpe : 2 ^ Lib.bitLen l ≤ 2 * l := by
    have e := Lib.bitLen_half l (by omega) (by omega)
    rw [e, Nat.pow_add] at p1 ⊢
    omega
  clear p1 p2
  generalize 2 ^ Lib.bitLen l = m at *
  have h0 : SX W0 (w.alloc (.cells #[.int .u64 l] 150)) blk off e N d w.heap.size l :=
    ⟨h.below ((Below.refl _ _).alloc (Nat.le_refl _) _), h.mod.size, by have := h.lt; omega, by have := heap_alloc_new w (.cells #[.int .u64 l] 150); simpa using this, by omega, by omega⟩
  have H0 := Lib.hid h0
  clear h0 h
  generalize hn : d.size = n at *
  have Hn := Lib.hid hn
  clear hn
  go_enter Try.func103, Try.ntmps103
  go_wp2_with (go_at_call 117; (with_reducible refine (hnp _).mono ?_); rintro e w' ⟨rfl, rfl⟩)
  generalize w.heap.size = sb at *
  clear hnp
  go_loopw [9, 10] (fun vi _ wr => bpRel W0 blk off e N d a b sb lo vi wr) (fun vi _ _ => (lo + 3 - intOf vi).toNat)
  case atStart => exact ⟨0, d, l, by go_num, by omega, permIn_refl _ _ _, H0.out⟩
  case round =>
    obtain ⟨k, dk, r, rfl, hk, hp, hsx⟩ := hrel
    have hsz2 : dk.size = n := hp.1.trans Hn.out
    have HX := Lib.hid hsx
    have HP := Lib.hid hp
    have Hsz2 := Lib.hid hsz2
    have hnx := next hsx
    have HNX := Lib.hid hnx
    clear hsx hp hsz2 hnx
    by_cases hk3 : k < 3
    · go_wp2_with fail
      refine HNX.out.mono ?_
      rintro y w2 ⟨r2, rfl, g0, g1, hx2⟩
      obtain ⟨t, ht, htm⟩ := and_bd r2 (m - 1) g0 g1 (by omega)
      rw [show ((m - 1 : Nat) : Int) = (m : Int) - 1 by omega] at ht
      obtain ⟨G, hG⟩ : ∃ G : Nat → Int, ∀ t, G t = dk[t]! := ⟨fun t => dk[t]!, fun _ => rfl⟩
      have HG := Lib.hid hG
      have HX2 := Lib.hid hx2
      clear hx2 hG
      have hcw : ∀ t, t < n → w2.cell? ⟨blk, off + t, none⟩ = some (.int .u32 (G t)) := fun t ht => by rw [HG.out]; exact HX2.out.sw.cells t (by rw [Hsz2.out]; exact ht)
      have hfw : ∀ t, t < n → w2.frozen? ⟨blk, off + t, none⟩ = false := fun t ht => HX2.out.sw.free _
      have ht3 : t < 2 * l := by omega
      clear htm
      by_cases htl : t < l
      · have htz : ¬ (l : Int) ≤ (t : Int) := by omega
        obtain ⟨v', hy'⟩ := cell?_setCell_some (w := w2) (p := ⟨blk, off + (lo + k), none⟩) (x := .int .u32 (G (a + t))) (q := ⟨blk, off + (a + t), none⟩) (hcw (a + t) (by omega))
        go_wp2
        go_region
        all_goals go_wp2
        go_roundw
        case rel =>
          refine ⟨k + 1, swp dk (lo + k) (a + t), r2, by congr 1, by omega, permIn_trans _ _ _ _ _ HP.out (swp_permIn dk a b (lo + k) (a + t) (by omega) (by omega) (by omega) (by omega) (by rw [Hsz2.out]; exact hb)), ?_⟩
          have hw := HX2.out.swap (lo + k) (a + t) (by rw [Hsz2.out]; omega) (by rw [Hsz2.out]; omega)
          rw [HG.out, HG.out]
          exact hw
        case measure => simp [intOf]; omega
      · have htz : (l : Int) ≤ (t : Int) := by omega
        obtain ⟨u, hu⟩ : ∃ u, t - l = u := ⟨_, rfl⟩
        have hu1 : (t : Int) - (l : Int) = (u : Int) := by omega
        have hu2 : u < l := by omega
        clear hu
        obtain ⟨v', hy'⟩ := cell?_setCell_some (w := w2) (p := ⟨blk, off + (lo + k), none⟩) (x := .int .u32 (G (a + u))) (q := ⟨blk, off + (a + u), none⟩) (hcw (a + u) (by omega))
        go_wp2
        go_region
        all_goals go_wp2
        go_roundw
        case rel =>
          refine ⟨k + 1, swp dk (lo + k) (a + u), r2, by congr 1, by omega, permIn_trans _ _ _ _ _ HP.out (swp_permIn dk a b (lo + k) (a + u) (by omega) (by omega) (by omega) (by omega) (by rw [Hsz2.out]; exact hb)), ?_⟩
          have hw := HX2.out.swap (lo + k) (a + u) (by rw [Hsz2.out]; omega) (by rw [Hsz2.out]; omega)
          rw [HG.out, HG.out]
          exact hw
        case measure => simp [intOf]; omega
    · obtain rfl : k = 3 := by omega
      go_wp2
      go_end0
      exact ⟨dk, rfl, HP.out, HX.out.sw⟩
end Go.Proofs.Ytldmglodjafklaa.Srt
