/- The library's slices at rows of uint32: BinarySearch, Clone. -/
import Derived.Test.YtldmglodjafklaaGreatRspE
import Derived.Lib.SliceRun
import Derived.Shelf.RegionOpenPlain
import Derived.Deep.RegionLaw
import Derived.Laws.IdiomCopy
import Derived.Lib.AppendZeros
import Derived.Lib.Overlaps
namespace Go.Proofs.YtldmglodjafklaaGreat.Sl
open Go.RowKit Pag
set_option linter.unusedVariables false
set_option linter.unusedSimpArgs false
/-- A list of words, wherever it lies. -/
def Lst (w : World) (v : Value) (xs : List Int) : Prop := SlV w 22 1 v xs.length (xs.map encU)
theorem Lst.nil (w : World) : Lst w (.slice none 0 0) [] := SlV.nil _ _ _
theorem Lst.words {w : World} {v : Value} {xs : List Int} (h : Lst w v xs) (hs : xs.length ≤ 2000000) : ∃ a cap, v = .slice a xs.length cap ∧ Rs.Words w a xs := by
  rcases h.2 with ⟨h0, a, rfl⟩ | ⟨g, off, cap, cur, rfl, hg, _, _, _, hc⟩
  · exact ⟨a, 0, by rw [h0], fun i hi => absurd hi (by omega), by omega⟩
  · refine ⟨_, cap, rfl, fun i hi => ⟨g, off, rfl, ?_⟩, by omega⟩
    unfold World.cell?
    rw [hg]
    have := hc i (by omega)
    rw [List.getElem?_map, List.getElem?_eq_getElem hi] at this
    exact this
theorem Lst.frame {w w' : World} {v : Value} {xs : List Int} (h : Lst w v xs) (hb : ∀ g, v.ownBlock = some g → w'.heap[g]? = w.heap[g]?) : Lst w' v xs := SlV.keep h hb
theorem Lst.keep {F : Nat → Prop} {w w' : World} {v : Value} {xs : List Int} (h : Lst w v xs) (hm : Mod F w w') (hl : ∀ g, v.ownBlock = some g → g < w.heap.size) (hF : ∀ g, v.ownBlock = some g → ¬ F g) : Lst w' v xs := h.frame fun g hg => hm.block _ (hl g hg) (hF g hg)
theorem word_lt {w : World} {b i : Nat} {v : Value} (h : w.cell? ⟨b, i, none⟩ = some v) : b < w.heap.size := by
  unfold World.cell? at h
  cases hg : w.heap[b]? with
  | none => rw [hg] at h; cases h
  | some _ => exact lt_of_block hg
/-- Where a word stands among rising ones, or would. -/
structure Place (xs : List Int) (x : Int) (k : Nat) : Prop where
  le : k ≤ xs.length
  lo : ∀ (j : Nat) (y : Int), j < k → xs[j]? = some y → y < x
  hi : ∀ (j : Nat) (y : Int), k ≤ j → xs[j]? = some y → x ≤ y
def bsRel (w : World) (xs : List Int) (x : Int) (n : Nat) (vi vj : Value) (wr : World) : Prop :=
  ∃ i j : Nat, i ≤ j ∧ j ≤ n ∧ vi = .int .i64 i ∧ vj = .int .i64 j ∧ (∀ (m : Nat) (y : Int), m < i → xs[m]? = some y → y < x) ∧ (∀ (m : Nat) (y : Int), j ≤ m → xs[m]? = some y → x ≤ y) ∧ wr = w
theorem up_at {xs : List Int} (h : xs.Pairwise (· < ·)) {i j : Nat} (hij : i ≤ j) {x y : Int} (hx : xs[i]? = some x) (hy : xs[j]? = some y) : x ≤ y := by
  obtain ⟨hi, rfl⟩ := List.getElem?_eq_some_iff.1 hx
  obtain ⟨hj, rfl⟩ := List.getElem?_eq_some_iff.1 hy
  rcases Nat.lt_or_ge i j with g | g
  · exact Int.le_of_lt ((List.pairwise_iff_getElem.1 h) i j hi hj g)
  · obtain rfl : i = j := Nat.le_antisymm hij g
    exact Int.le_refl _
theorem isNaN (x : Int) (w : World) : Calls Tryz.prog 87 #[.int .u32 x] w fun e w' => e = .returned (.bool false) ∧ w' = w := by
  go_enter Tryz.func87, Tryz.ntmps87
  go_wp2
  go_ret
  exact ⟨rfl, rfl⟩
set_option maxRecDepth 100000 in
set_option maxHeartbeats 4000000 in
theorem bsearch {w : World} {a : Option Addr} {cap : Nat} {xs : List Int} (h : Rs.Words w a xs) (x : Int) (hup : xs.Pairwise (· < ·)) (hs : xs.length ≤ 2000000) :
    Calls Tryz.prog 52 #[.slice a xs.length cap, .int .u32 x] w fun e w' => ∃ k, Place xs x k ∧ e = .returned (.tuple #[.int .i64 k, .bool (decide (xs[k]? = some x))]) ∧ w' = w := by
  have H := Lib.hid h
  have hl := hs
  have Hup := Lib.hid hup
  obtain ⟨n, hn⟩ : ∃ n, xs.length = n := ⟨_, rfl⟩
  have Hn := Lib.hid hn
  rw [hn] at hl ⊢
  clear h hn hup hs
  go_enter Tryz.func52, Tryz.ntmps52
  go_wp2
  go_loopw [7, 8, 9] (fun vi vj _ wr => bsRel w xs x n vi vj wr) (fun vi vj _ _ => (intOf vj).toNat - (intOf vi).toNat)
  case atStart => exact ⟨0, n, Nat.zero_le _, Nat.le_refl _, by go_num, by go_num, fun m y hm _ => absurd hm (Nat.not_lt_zero _), fun m y hm g => absurd g (by rw [List.getElem?_eq_none (by rw [Hn.out]; exact hm)]; exact fun e => (nomatch e)), rfl⟩
  case round =>
    obtain ⟨i, j, hij, hjn, rfl, rfl, hlo, hhi, rfl⟩ := hrel
    have HLo := Lib.hid hlo
    have HHi := Lib.hid hhi
    clear hlo hhi
    by_cases hlt : i < j
    · obtain ⟨h, hh⟩ : ∃ h, (i + j) / 2 = h := ⟨_, rfl⟩
      have h1 : i ≤ h := by omega
      have h2 : h < j := by omega
      have hx : h < xs.length := by rw [Hn.out]; omega
      obtain ⟨g, o, rfl, hc⟩ := H.out.cell h hx
      have Hx := Lib.hid (show xs[h]? = some xs[h] from List.getElem?_eq_getElem hx)
      generalize xs[h] = y at *
      have hw : ((i : Int) + j) / 2 = h := by omega
      clear hx
      by_cases hy : y < x
      · have hb : Sort.ltInt y x = true := decide_eq_true hy
        go_wp2_with (go_at_call 86; (with_reducible refine (Srt.less _ _ _).mono ?_); rintro e w2 ⟨rfl, rfl⟩)
        refine ⟨⟨h + 1, j, by omega, hjn, by go_num, rfl, fun m z hm hz => ?_, HHi.out, rfl⟩, by simp [intOf]; omega⟩
        have := up_at Hup.out (show m ≤ h by omega) hz Hx.out
        omega
      · have hb : Sort.ltInt y x = false := decide_eq_false hy
        go_wp2_with (go_at_call 86; (with_reducible refine (Srt.less _ _ _).mono ?_); rintro e w2 ⟨rfl, rfl⟩)
        refine ⟨⟨i, h, by omega, by omega, rfl, by go_num, HLo.out, fun m z hm hz => ?_, rfl⟩, by simp [intOf]; omega⟩
        have := up_at Hup.out hm Hx.out hz
        omega
    · obtain rfl : i = j := by omega
      by_cases hin : i < n
      · have hx : i < xs.length := by rw [Hn.out]; exact hin
        obtain ⟨g, o, rfl, hc⟩ := H.out.cell i hx
        have Hx := Lib.hid (show xs[i]? = some xs[i] from List.getElem?_eq_getElem hx)
        have HP : Hid (Place xs x i) := Lib.hid ⟨Nat.le_of_lt hx, HLo.out, HHi.out⟩
        generalize xs[i] = y at *
        clear hx
        by_cases hy : y = x
        · subst hy
          have HD := Lib.hid (decide_eq_true Hx.out)
          go_wp2
          refine bodyPost_ret (v := .tuple #[.int .i64 i, .bool true]) (by simp [results, Tryz.results52, go_sem, *]) rfl ?_
          exact ⟨i, HP.out, by rw [HD.out], rfl⟩
        · have hyb : (y == x) = false := beq_eq_false_iff_ne.2 hy
          have HD : Hid (decide (xs[i]? = some x) = false) := Lib.hid (decide_eq_false (by rw [Hx.out]; exact fun e => hy (Option.some.inj e)))
          go_wp2_with (go_at_call 87; (with_reducible refine (isNaN _ _).mono ?_); rintro e w2 ⟨rfl, rfl⟩)
          refine bodyPost_ret (v := .tuple #[.int .i64 i, .bool false]) (by simp [results, Tryz.results52, go_sem, *]) rfl ?_
          exact ⟨i, HP.out, by rw [HD.out], rfl⟩
      · obtain rfl : i = n := by omega
        have HP : Hid (Place xs x i) := Lib.hid ⟨Nat.le_of_eq Hn.out.symm, HLo.out, HHi.out⟩
        have HD : Hid (decide (xs[i]? = some x) = false) := Lib.hid (decide_eq_false (by rw [List.getElem?_eq_none (Nat.le_of_eq Hn.out)]; exact fun e => (nomatch e)))
        go_wp2
        refine bodyPost_ret (v := .tuple #[.int .i64 i, .bool false]) (by simp [results, Tryz.results52, go_sem, *]) rfl ?_
        exact ⟨i, HP.out, by rw [HD.out], rfl⟩
theorem row_cell {w : World} {g off n cap j : Nat} {cur : Array Value} {x : Int} {xs : List Int} (hg : w.heap[g]? = some (.cells cur 22 (0, 0))) (hc : ∀ j, j < n * 1 → cur[off + j]? = (xs.map encU)[j]?) (hj : j < n) (hx : xs[j]? = some x) : w.cell? ⟨g, off + j, none⟩ = some (encU x) := by
  unfold World.cell?
  rw [hg]
  have := hc j (by omega)
  rw [List.getElem?_map, hx] at this
  exact this
set_option maxRecDepth 100000 in
set_option maxHeartbeats 4000000 in
theorem delete {w : World} {v : Value} {xs : List Int} (h : Lst w v xs) (k j : Nat) (hj : j = k + 1) (hk : k < xs.length) (hs : xs.length ≤ 2000000) :
    Calls Tryz.prog 54 #[v, .int .i64 k, .int .i64 j] w fun e w' => ∃ v', e = .returned v' ∧ Lst w' v' (xs.eraseIdx k) ∧ v'.ownBlock = v.ownBlock ∧ Mod (fun b => v.ownBlock = some b) w w' := by
  obtain ⟨i0, hi0, hz0, hz1, hz2⟩ := info_parts infoU32
  rcases h.2 with ⟨h0, _⟩ | ⟨g, off, cap, cur, rfl, hg, hnc, hcm, hcs, hc⟩
  · omega
  obtain ⟨n, hn⟩ : ∃ n, xs.length = n := ⟨_, rfl⟩
  rw [hn] at hk hs hnc hc ⊢
  obtain ⟨news, hnews⟩ : ∃ news, news = (xs.drop j).map encU := ⟨_, rfl⟩
  have hlen : news.length = n - j := by rw [hnews]; simp [hn]
  have hcell : ∀ j, j < n → w.cell? ⟨g, off + j, none⟩ = (xs.map encU)[j]? := fun j hj => by
    unfold World.cell?
    rw [hg]
    exact hc j (by omega)
  have hsome : ∀ j, j < n → (w.cell? ⟨g, off + j, none⟩).isSome = true := fun j hj => by
    rw [hcell j hj, List.getElem?_eq_getElem (by simp [hn]; exact hj)]
    rfl
  have hfree : ∀ (j : Nat), w.frozen? ⟨g, j, none⟩ = false := fun j => by
    unfold World.frozen?
    rw [hg]
    simp
  obtain ⟨A, hA, hsrc⟩ : ∃ A : Addr, (if cap = j then some (⟨g, off, none⟩ : Addr) else some ⟨g, off + j, none⟩) = some A ∧ Hid (∀ t u, news[t]? = some u → w.drew.cell? (A.add t) = some u) := by
    by_cases e : cap = j
    · refine ⟨⟨g, off, none⟩, by simp [e], Lib.hid fun t u hu => ?_⟩
      have h0 : news.length = 0 := by rw [hlen]; omega
      rw [List.length_eq_zero_iff.1 h0] at hu
      simp at hu
    · refine ⟨⟨g, off + j, none⟩, by simp [e], Lib.hid fun t u hu => ?_⟩
      have ht : t < n - j := by
        have := (List.getElem?_eq_some_iff.1 hu).1
        rwa [hlen] at this
      rw [hnews, List.getElem?_map, List.getElem?_drop, ← List.getElem?_map, ← hcell _ (by omega)] at hu
      rw [Addr.add_lit, show off + j + t = off + (j + t) by omega]
      exact hu
  have s1 : Hid (news.length = (n - j) * 1) := Lib.hid (by rw [Nat.mul_one]; exact hlen)
  have s2 : Hid (∀ u ∈ news, u.oneCell' = true) := Lib.hid fun u hu => by
    rw [hnews] at hu
    obtain ⟨x, _, rfl⟩ := List.mem_map.1 hu
    rfl
  have s3 : Hid (∀ t, t < news.length → (w.drew.cell? ⟨g, off + k * 1 + t, none⟩).isSome = true ∧ w.drew.frozen? ⟨g, off + k * 1 + t, none⟩ = false) := Lib.hid fun t ht => by
    rw [hlen] at ht
    rw [Nat.mul_one, Nat.add_assoc]
    exact ⟨hsome _ (by omega), hfree _⟩
  obtain ⟨W1, hW1⟩ : ∃ W1, W1 = w.drew.setCells g (off + k * 1) news := ⟨_, rfl⟩
  obtain ⟨cur1, c1, c2, c3, c4⟩ := heap_setCells_same g 22 news w.drew (off + k * 1) cur hg (by rw [hlen]; omega)
  rw [← hW1] at c1
  have hcl : ∀ ty c', (Builtin.clear_ #[43] ty #[.slice (some ⟨g, off + (n - 1), none⟩) 1 c']).run Tryz.prog W1 = .ok (.tuple #[]) (W1.setCells g (off + (n - 1)) [.int .u32 0]) :=
    fun ty c' => Lib.run_clear_slice W1 _ _ ty _ Tryz.underlying43 Tryz.zeroValue22 rfl rfl g (off + (n - 1)) 1 _ (by omega) (fun t ht => by unfold World.cell?; rw [c1]; simp [Array.getElem?_eq_getElem (show off + (n - 1) + t < cur1.size by omega)]) (fun t ht => by unfold World.frozen?; rw [c1]; simp)
  obtain ⟨cur2, d1, d2, d3, d4⟩ := heap_setCells_same g 22 [.int .u32 0] W1 (off + (n - 1)) cur1 c1 (by simp; omega)
  have HFin : Hid (Lst (W1.setCells g (off + (n - 1)) [.int .u32 0]) (.slice (some ⟨g, off, none⟩) (n - 1) cap) (xs.eraseIdx k) ∧ Mod (fun b => some g = some b) w (W1.setCells g (off + (n - 1)) [.int .u32 0])) := by
    refine Lib.hid ⟨⟨by simp [List.length_eraseIdx, hn, hk], .inr ⟨g, off, cap, cur2, ?_, d1, ?_, hcm, by rw [d2, c2]; exact hcs, fun t ht => ?_⟩⟩, ?_⟩
    · rw [List.length_eraseIdx, hn, if_pos hk]
    · rw [List.length_eraseIdx, hn, if_pos hk]; omega
    · rw [List.length_eraseIdx, hn, if_pos hk] at ht
      rw [d3 _ (by omega), List.getElem?_map, List.getElem?_eraseIdx]
      by_cases e : t < k
      · rw [if_pos e, c3 _ (by omega), hc t (by omega), List.getElem?_map]
      · rw [if_neg e]
        have := c4 (t - k) (by rw [hlen]; omega)
        rw [show off + k * 1 + (t - k) = off + t by omega] at this
        rw [this, hnews, List.getElem?_map, List.getElem?_drop, show j + (t - k) = t + 1 by omega]
    · have m1 := mod_setCells g news w.drew (off + k * 1)
      rw [← hW1] at m1
      have m2 := mod_setCells g [.int .u32 0] W1 (off + (n - 1))
      have m0 : Mod (fun i => i = g) w w.drew := (Mod.refl _ _).drew
      exact ((m0.same m1).same m2).mono fun i _ hi => by rw [hi]
  have HW : Hid (W1 = w.drew.setCells g (off + k * 1) news) := Lib.hid hW1
  have hkc : k ≤ cap := by omega
  have hkc2 : j ≤ cap := by omega
  have hjn : j ≤ n := by omega
  have hkj : ¬ ((k : Int) = j) := by omega
  have hnk : k + (n - j) = n - 1 := by omega
  have hij : (0 : Int) ≤ j := by omega
  have hkji : (k : Int) ≤ j := by omega
  have hjni : (j : Int) ≤ n := by omega
  have mixed : Tryz.prog.follows .mixedOrders = true := by kernel_rfl
  have hn1 : n - (n - 1) = 1 := by omega
  have hcm2 : cap ≤ 9223372036854775807 := by unfold maxLen at hcm; omega
  clear hW1 c1 c2 c3 c4 d1 d2 d3 d4 hnews hlen hsome hfree hcell hc hg h hn hj
  go_enter Tryz.func54, Tryz.ntmps54
  go_wp2_with fail
  go_region_law_o (refine step_append_room rfl (.tmp 22) (.tmp 25) 43 rfl 22 i0 1 Tryz.underlying43 hi0 hz1 g off k cap (by simp [Act.eval, Act.put]) A (n - j) (cap - j) news (by simp [Act.eval, Act.put, *]) s1.out hsrc.out s2.out (by omega) s3.out ?_; rw [← HW.out])
  go_wp2
  go_ret
  exact ⟨_, rfl, HFin.out.1, rfl, HFin.out.2⟩
set_option maxRecDepth 100000 in
set_option maxHeartbeats 4000000 in
theorem clone {w : World} {v : Value} {xs : List Int} (h : Lst w v xs) (hs : xs.length ≤ 2000000) :
    Calls Tryz.prog 56 #[v] w fun e w' => ∃ v', e = .returned v' ∧ Lst w' v' xs ∧ (∀ b, v'.ownBlock = some b → w.heap.size ≤ b) ∧ Below w.heap.size w w' := by
  obtain ⟨i0, hi0, hz0, hz1, hz2⟩ := info_parts infoU32
  have H := Lib.hid h
  rcases h.2 with ⟨h0, a, rfl⟩ | ⟨g, off, cap, cur, rfl, hg, hnc, hcm, hcs, hc⟩
  · obtain rfl : xs = [] := List.length_eq_zero_iff.1 h0
    clear h h0
    cases a with
    | none =>
      go_enter Tryz.func56, Tryz.ntmps56
      have hq := fun W => Lib.run_eql_slice_nil (P := Tryz.prog) W _ _ none 0 0 0 0 Tryz.underlying43
      go_wp2
      first
        | (go_ret; exact ⟨_, rfl, H.out, fun b hb => (nomatch hb), Below.refl _ _⟩)
        | (refine bodyPost_ret (v := .slice none 0 0) (by simp [results, Tryz.results56, go_sem, *]) rfl ?_; exact ⟨_, rfl, H.out, fun b hb => (nomatch hb), Below.refl _ _⟩)
    | some a =>
      have hq := fun W => Lib.run_eql_slice_nil (P := Tryz.prog) W _ _ (some a) 0 0 0 0 Tryz.underlying43
      go_enter Tryz.func56, Tryz.ntmps56
      have HB : Hid (Below w.heap.size w (w.alloc (.cells #[] 22))) := Lib.hid ((Below.refl _ _).alloc (Nat.le_refl _) _)
      have HL : Hid (Lst (w.alloc (.cells #[] 22)) (.slice (some ⟨w.heap.size, 0, none⟩) 0 0) []) := Lib.hid ⟨rfl, .inl ⟨rfl, _, rfl⟩⟩
      go_wp2
      go_ret
      exact ⟨_, rfl, HL.out, fun b hb => by injection hb with hb; exact Nat.le_of_eq hb, HB.out⟩
  · obtain ⟨n, hn⟩ : ∃ n, xs.length = n := ⟨_, rfl⟩
    rw [hn] at h hs hnc hc ⊢
    have hq := fun W => Lib.run_eql_slice_nil (P := Tryz.prog) W _ _ (some ⟨g, off, none⟩) n cap 0 0 Tryz.underlying43
    have hcl : ∀ j u, (xs.map encU)[j]? = some u → (w.alloc (.cells #[] 22)).cell? ((⟨g, off, none⟩ : Addr).add j) = some u := fun j u hu => by
      have hj : j < n := by have := (List.getElem?_eq_some_iff.1 hu).1; simpa [hn] using this
      rw [Addr.add_lit]
      unfold World.cell?
      rw [Below.heap_alloc _ _ _ (lt_of_block hg), hg]
      exact (hc j (by omega)).trans hu
    clear h hg hnc hcm hcs hc
    by_cases h0 : n = 0
    · subst h0
      obtain rfl : xs = [] := List.length_eq_zero_iff.1 hn
      have HB : Hid (Below w.heap.size w (w.alloc (.cells #[] 22))) := Lib.hid ((Below.refl _ _).alloc (Nat.le_refl _) _)
      have HL : Hid (Lst (w.alloc (.cells #[] 22)) (.slice (some ⟨w.heap.size, 0, none⟩) 0 0) []) := Lib.hid ⟨rfl, .inl ⟨rfl, _, rfl⟩⟩
      go_enter Tryz.func56, Tryz.ntmps56
      go_wp2
      go_ret
      exact ⟨_, rfl, HL.out, fun b hb => by injection hb with hb; exact Nat.le_of_eq hb, HB.out⟩
    · have HB : Hid (Below w.heap.size w (w.alloc (.cells #[] 22))) := Lib.hid ((Below.refl _ _).alloc (Nat.le_refl _) _)
      have HN : Hid (SlV (w.alloc (.cells #[] 22)) 22 1 (.slice (some ⟨w.heap.size, 0, none⟩) 0 0) 0 []) := Lib.hid ⟨rfl, .inl ⟨rfl, _, rfl⟩⟩
      have HC : Hid (∀ j u, (xs.map encU)[j]? = some u → (w.alloc (.cells #[] 22)).cell? ((⟨g, off, none⟩ : Addr).add j) = some u) := Lib.hid hcl
      have HLn := Lib.hid hn
      have hml : n ≤ maxLen := by unfold maxLen; omega
      clear hn hcl
      go_enter Tryz.func56, Tryz.ntmps56
      go_wp2_with (at_builtin; refine wpList_append_slv _ rfl _ _ 43 rfl 22 i0 (.int .u32 0) 1 4 Tryz.underlying43 hi0 hz0 hz1 hz2 rfl (by decide) _ 0 [] rfl HN.out ⟨g, off, none⟩ n cap (xs.map encU) rfl (by omega) (by rw [List.length_map, HLn.out, Nat.mul_one]) HC.out (by simp [Value.oneCell']) (by omega) (by omega) ?_; intro v2 w2 hl2 hm2 hb2)
      go_ret
      refine ⟨v2, rfl, ?_, ?_, ?_⟩
      · have := hl2
        rw [Nat.zero_add, List.nil_append, ← HLn.out] at this
        exact this
      · intro b hb
        have hb3 : v2.ownBlock = some w.heap.size ∨ ∃ k, v2.ownBlock = some k ∧ (w.alloc (.cells #[] 22)).heap.size ≤ k := hb2
        rcases hb3 with g2 | ⟨k, g2, g3⟩
        · rw [g2] at hb
          injection hb with hb
          exact Nat.le_of_eq hb
        · rw [g2] at hb
          injection hb with hb
          simp at g3
          omega
      · refine Mod.below HB.out hm2 (by simp) fun i _ hi => ?_
        injection hi with hi
        exact Nat.le_of_eq hi
end Go.Proofs.YtldmglodjafklaaGreat.Sl
