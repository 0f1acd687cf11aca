/- The library's sort at rows of uint32: order2Ordered, medianOrdered, medianAdjacentOrdered, choosePivotOrdered: which index comes, not just which. -/
import Derived.Test.YtldmglodjafklaaSrtA
namespace Go.Proofs.Ytldmglodjafklaa.Srt
open Go.RowKit Go.Sort
set_option linter.unusedVariables false
/-- A row, and a counter at a block of the sort's own. -/
structure SC (W0 w : World) (blk off : Nat) (e : TypeId) (N : Nat) (d : Array Int) (sb : Nat) (c : Int) : Prop where
  sw : SW W0 w blk off e N d
  new : W0.heap.size ≤ sb
  ne : sb ≠ blk
  cnt : w.heap[sb]? = some (.cells #[.int .i64 c] 3 (0, 0))
section
variable {W0 w : World} {blk off : Nat} {e : TypeId} {N : Nat} {d : Array Int} {sb : Nat} {c : Int}
theorem SC.drewN (h : SC W0 w blk off e N d sb c) (n : Nat) : SC W0 (w.drewN n) blk off e N d sb c := ⟨h.sw.drewN n, h.new, h.ne, h.cnt⟩
theorem SC.cell (h : SC W0 w blk off e N d sb c) : w.cell? ⟨sb, 0, none⟩ = some (.int .i64 c) := by unfold World.cell?; rw [h.cnt]; rfl
theorem SC.free (h : SC W0 w blk off e N d sb c) : w.frozen? ⟨sb, 0, none⟩ = false := by unfold World.frozen?; rw [h.cnt]; simp
theorem SC.put (h : SC W0 w blk off e N d sb c) (c' : Int) : SC W0 (w.setCell ⟨sb, 0, none⟩ (.int .i64 c')) blk off e N d sb c' := by
  refine ⟨⟨h.sw.mod.setCell _ (.inr h.new) _, ?_⟩, h.new, h.ne, ?_⟩
  · obtain ⟨cur, hb, rest⟩ := h.sw.row
    exact ⟨cur, by rw [heap_setCell_other _ _ _ _ h.ne.symm]; exact hb, rest⟩
  · have := heap_setCell_same w sb 0 _ _ (.int .i64 c') h.cnt
    simpa using this
end
def O2 (W0 : World) (blk off : Nat) (e : TypeId) (N : Nat) (d : Array Int) (sb : Nat) (c : Int) (a b : Nat) (x : Ending) (w' : World) : Prop :=
  ∃ (p q : Nat) (c' : Int), x = .returned (.tuple #[.int .i64 p, .int .i64 q]) ∧ ((p = a ∧ q = b) ∨ (p = b ∧ q = a)) ∧ c ≤ c' ∧ c' ≤ c + 1 ∧ SC W0 w' blk off e N d sb c'
def O1 (W0 : World) (blk off : Nat) (e : TypeId) (N : Nat) (d : Array Int) (sb : Nat) (c : Int) (lo hi : Nat) (k : Int) (x : Ending) (w' : World) : Prop :=
  ∃ (p : Nat) (c' : Int), x = .returned (.int .i64 p) ∧ lo ≤ p ∧ p < hi ∧ c ≤ c' ∧ c' ≤ c + k ∧ SC W0 w' blk off e N d sb c'
set_option maxRecDepth 100000 in
theorem order2 {W0 w : World} {blk off : Nat} {e : TypeId} {N : Nat} {d : Array Int} {sb : Nat} {c : Int} (h : SC W0 w blk off e N d sb c) (cap a b : Nat) (ha : a < d.size) (hb : b < d.size) (hsz : d.size < 4611686018427387904) (c0 : 0 ≤ c) (c1 : c ≤ 100) :
    Calls Try.prog 123 #[.slice (some ⟨blk, off, none⟩) d.size cap, .int .i64 a, .int .i64 b, .pointer (some ⟨sb, 0, none⟩)] w (O2 W0 blk off e N d sb c a b) := by
  have H := Lib.hid h
  generalize hn : d.size = n at *
  have Hn := Lib.hid hn
  obtain ⟨G, hG⟩ : ∃ G : Nat → Int, ∀ t, G t = d[t]! := ⟨fun t => d[t]!, fun _ => rfl⟩
  have hcw : ∀ t, t < n → w.cell? ⟨blk, off + t, none⟩ = some (.int .u32 (G t)) := fun t ht => by rw [hG]; exact h.sw.cells t (by omega)
  clear h hn hG
  go_enter Try.func123, Try.ntmps123
  go_wp2
  go_quiet ((go_at_call 107; exact Calls.quiet_of_same (less _ _ _)))
  generalize hW2 : w.drewN nq = W2
  have H2 : Hid (SC W0 W2 blk off e N d sb c) := Lib.hid (by rw [← hW2]; exact H.out.drewN nq)
  have hcc := H2.out.cell
  have hff := H2.out.free
  clear hcw hW2
  go_wp2
  · go_ret2
    exact ⟨b, a, c + 1, rfl, .inr ⟨rfl, rfl⟩, by omega, by omega, H2.out.put _⟩
  · go_ret2
    exact ⟨a, b, c, rfl, .inl ⟨rfl, rfl⟩, by omega, by omega, H2.out⟩
set_option maxRecDepth 100000 in
theorem median {W0 w : World} {blk off : Nat} {e : TypeId} {N : Nat} {d : Array Int} {sb : Nat} {c : Int} (h : SC W0 w blk off e N d sb c) (cap a b x lo hi : Nat) (ha : lo ≤ a ∧ a < hi) (hb : lo ≤ b ∧ b < hi) (hx : lo ≤ x ∧ x < hi) (hh : hi ≤ d.size) (hsz : d.size < 4611686018427387904) (c0 : 0 ≤ c) (c1 : c ≤ 50) :
    Calls Try.prog 120 #[.slice (some ⟨blk, off, none⟩) d.size cap, .int .i64 a, .int .i64 b, .int .i64 x, .pointer (some ⟨sb, 0, none⟩)] w (O1 W0 blk off e N d sb c lo hi 3) := by
  have H := Lib.hid h
  clear h
  have k1 := Lib.hid (order2 H.out cap a b (by omega) (by omega) hsz c0 (by omega))
  go_enter Try.func120, Try.ntmps120
  go_wp2_with fail
  refine k1.out.mono ?_
  rintro y w1 ⟨p1, q1, c2, rfl, hp1, g1, g2, h1⟩
  have H1 := Lib.hid h1
  have k2 := Lib.hid (order2 h1 cap q1 x (by omega) (by omega) hsz (by omega) (by omega))
  clear h1
  go_wp2_with fail
  refine k2.out.mono ?_
  rintro y w2 ⟨p2, q2, c3, rfl, hp2, g3, g4, h2⟩
  have H2 := Lib.hid h2
  have k3 := Lib.hid (order2 h2 cap p1 p2 (by omega) (by omega) hsz (by omega) (by omega))
  clear h2
  go_wp2_with fail
  refine k3.out.mono ?_
  rintro y w3 ⟨p3, q3, c4, rfl, hp3, g5, g6, h3⟩
  have H3 := Lib.hid h3
  clear h3
  go_wp2
  go_ret
  exact ⟨q3, c4, rfl, by omega, by omega, by omega, by omega, H3.out⟩
set_option maxRecDepth 100000 in
theorem medianAdjacent {W0 w : World} {blk off : Nat} {e : TypeId} {N : Nat} {d : Array Int} {sb : Nat} {c : Int} (h : SC W0 w blk off e N d sb c) (cap a lo hi : Nat) (ha : lo + 1 ≤ a ∧ a + 1 < hi) (hh : hi ≤ d.size) (hsz : d.size < 4611686018427387904) (c0 : 0 ≤ c) (c1 : c ≤ 50) :
    Calls Try.prog 119 #[.slice (some ⟨blk, off, none⟩) d.size cap, .int .i64 a, .pointer (some ⟨sb, 0, none⟩)] w (O1 W0 blk off e N d sb c lo hi 3) := by
  have k1 := Lib.hid (median h cap (a - 1) a (a + 1) lo hi (by omega) (by omega) (by omega) hh hsz c0 c1)
  clear h
  have e1 : ((a : Int) - 1) = ((a - 1 : Nat) : Int) := by omega
  go_enter Try.func119, Try.ntmps119
  go_wp2_with fail
  refine k1.out.mono ?_
  rintro y w1 ⟨p, c2, rfl, g0, g1, g2, g3, h1⟩
  have H1 := Lib.hid h1
  clear h1
  go_wp2
  go_ret
  exact ⟨p, c2, rfl, g0, g1, g2, g3, H1.out⟩
def CP (W0 : World) (blk off : Nat) (e : TypeId) (N : Nat) (d : Array Int) (a b : Nat) (x : Ending) (w' : World) : Prop :=
  ∃ (p : Nat) (k : Int), x = .returned (.tuple #[.int .i64 p, .int .i64 k]) ∧ a ≤ p ∧ p < b ∧ (k = 0 ∨ k = 1 ∨ k = 2) ∧ SW W0 w' blk off e N d
set_option maxRecDepth 100000 in
set_option maxHeartbeats 1000000 in
theorem choosePivot {W0 w : World} {blk off : Nat} {e : TypeId} {N : Nat} {d : Array Int} (h : SW W0 w blk off e N d) (cap a b : Nat) (hab : a + 12 < b) (hb : b ≤ d.size) (hsz : d.size < 4611686018427387904) :
    Calls Try.prog 104 #[.slice (some ⟨blk, off, none⟩) d.size cap, .int .i64 a, .int .i64 b] w (CP W0 blk off e N d a b) := by
  obtain ⟨l, hl⟩ : ∃ l, b - a = l := ⟨_, rfl⟩
  have hbd : (b : Int) - (a : Int) = (l : Int) := by omega
  have hl1 : a + l ≤ b := by omega
  have hl2 : 12 < l := by omega
  clear hl
  have h0 : SC W0 (w.alloc (.cells #[.int .i64 0] 3)) blk off e N d w.heap.size 0 :=
    ⟨h.below ((Below.refl _ _).alloc (Nat.le_refl _) _), h.mod.size, by have := h.lt; omega, by have := heap_alloc_new w (.cells #[.int .i64 0] 3); simpa using this⟩
  have H0 := Lib.hid h0
  clear h0 h
  obtain ⟨i, hi⟩ : ∃ i, a + l / 4 = i := ⟨_, rfl⟩
  obtain ⟨j, hj⟩ : ∃ j, a + l / 4 * 2 = j := ⟨_, rfl⟩
  obtain ⟨k, hk⟩ : ∃ k, a + l / 4 * 3 = k := ⟨_, rfl⟩
  have ei : (a : Int) + (l : Int) / 4 = (i : Int) := by omega
  have ej : (a : Int) + (l : Int) / 4 * 2 = (j : Int) := by omega
  have ek : (a : Int) + (l : Int) / 4 * 3 = (k : Int) := by omega
  have i0 : a ≤ i ∧ i < b := by omega
  have j0 : a ≤ j ∧ j < b := by omega
  have k0 : a ≤ k ∧ k < b := by omega
  have fin : Hid (∀ (p : Nat) (c : Int) (W : World), a ≤ p → p < b → SC W0 W blk off e N d w.heap.size c → ∀ q : Int, (q = 0 ∨ q = 1 ∨ q = 2) → CP W0 blk off e N d a b (.returned (.tuple #[.int .i64 p, .int .i64 q])) W) := Lib.hid fun p c W h1 h2 h3 q h4 => ⟨p, q, rfl, h1, h2, h4, h3.sw⟩
  by_cases h50 : 50 ≤ l
  · have i1 : a + 1 ≤ i ∧ i + 1 < b := by omega
    have j1 : a + 1 ≤ j ∧ j + 1 < b := by omega
    have k1 : a + 1 ≤ k ∧ k + 1 < b := by omega
    clear hi hj hk
    have c1 := Lib.hid (medianAdjacent H0.out cap i a b i1 hb hsz (by omega) (by omega))
    go_enter Try.func104, Try.ntmps104
    go_wp2_with fail
    refine c1.out.mono ?_
    rintro y w1 ⟨p1, x1, rfl, g1, g2, g3, g4, h1⟩
    have c2 := Lib.hid (medianAdjacent h1 cap j a b j1 hb hsz (by omega) (by omega))
    clear h1
    go_wp2_with fail
    refine c2.out.mono ?_
    rintro y w2 ⟨p2, x2, rfl, g5, g6, g7, g8, h2⟩
    have c3 := Lib.hid (medianAdjacent h2 cap k a b k1 hb hsz (by omega) (by omega))
    clear h2
    go_wp2_with fail
    refine c3.out.mono ?_
    rintro y w3 ⟨p3, x3, rfl, g9, g10, g11, g12, h3⟩
    have c4 := Lib.hid (median h3 cap p1 p2 p3 a b ⟨g1, g2⟩ ⟨g5, g6⟩ ⟨g9, g10⟩ hb hsz (by omega) (by omega))
    clear h3
    go_wp2_with fail
    refine c4.out.mono ?_
    rintro y w4 ⟨p4, x4, rfl, g13, g14, g15, g16, h4⟩
    have hcc := h4.cell
    have H4 := Lib.hid h4
    clear h4
    by_cases z0 : x4 = 0
    · subst z0
      go_wp2
      go_ret2
      exact fin.out p4 0 w4 g13 g14 H4.out 1 (by omega)
    · by_cases z12 : x4 = 12
      · subst z12
        go_wp2
        go_ret2
        exact fin.out p4 12 w4 g13 g14 H4.out 2 (by omega)
      · have b0 : (x4 == 0) = false := by simpa using z0
        have b12 : (x4 == 12) = false := by simpa using z12
        go_wp2
        go_ret2
        exact fin.out p4 x4 w4 g13 g14 H4.out 0 (by omega)
  · clear hi hj hk
    have c4 := Lib.hid (median H0.out cap i j k a b i0 j0 k0 hb hsz (by omega) (by omega))
    go_enter Try.func104, Try.ntmps104
    go_wp2_with fail
    refine c4.out.mono ?_
    rintro y w4 ⟨p4, x4, rfl, g13, g14, g15, g16, h4⟩
    have hcc := h4.cell
    have H4 := Lib.hid h4
    clear h4
    by_cases z0 : x4 = 0
    · subst z0
      go_wp2
      go_ret2
      exact fin.out p4 0 w4 g13 g14 H4.out 1 (by omega)
    · have z12 : x4 ≠ 12 := by omega
      have b0 : (x4 == 0) = false := by simpa using z0
      have b12 : (x4 == 12) = false := by simpa using z12
      go_wp2
      go_ret2
      exact fin.out p4 x4 w4 g13 g14 H4.out 0 (by omega)
end Go.Proofs.Ytldmglodjafklaa.Srt
