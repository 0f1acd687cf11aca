/- The walk of aediculeref04.Decode. -/
import Derived.Test.YtldmglodjafklaaGreatRefW
import Derived.Test.YtldmglodjafklaaGreatWordRefGet
namespace Go.Proofs.YtldmglodjafklaaGreat.Ins
open Go.RowKit Word
set_option linter.unusedSimpArgs false
set_option linter.unusedVariables false
theorem boxcells {W : World} {b : Nat} {y0 y1 y2 y3 v : Value} {t : TypeId} (c : W.heap[b]? = some (.cells #[y0, y1, y2, y3, v] t (0, 0))) : W.cell? ⟨b, 0, none⟩ = some y0 ∧ W.cell? ⟨b, 1, none⟩ = some y1 ∧ W.cell? ⟨b, 2, none⟩ = some y2 ∧ W.cell? ⟨b, 3, none⟩ = some y3 ∧ W.cell? ⟨b, 4, none⟩ = some v ∧ W.frozen? ⟨b, 0, none⟩ = false ∧ W.frozen? ⟨b, 1, none⟩ = false ∧ W.frozen? ⟨b, 2, none⟩ = false ∧ W.frozen? ⟨b, 3, none⟩ = false ∧ W.frozen? ⟨b, 4, none⟩ = false := by
  unfold World.cell? World.frozen?
  rw [c]
  exact ⟨rfl, rfl, rfl, rfl, rfl, rfl, rfl, rfl, rfl, rfl⟩
set_option maxRecDepth 100000 in
set_option maxHeartbeats 1000000 in
theorem decodeR (s : ByteArray) (hm : s.size ≤ 1048576) (w : World) : Calls Tryz.prog 68 #[.string s] w fun e w' => e = .returned (.tuple #[(decX s).val, .int .i64 (decE s)]) ∧ Below w.heap.size w w' := by
  by_cases h8 : s.size = 8
  · obtain ⟨y0, y1, y2, y3, y4, y5, y6, y7, hn, b0, b1, b2, b3, b4, b5, b6, b7⟩ := eight h8
    have g0 : ((s[0]'(by omega)).toNat : Int) = y0 := by rw [nums_get, hn]; rfl
    have g1 : ((s[1]'(by omega)).toNat : Int) = y1 := by rw [nums_get, hn]; rfl
    have g2 : ((s[2]'(by omega)).toNat : Int) = y2 := by rw [nums_get, hn]; rfl
    have hd : decI s = ⟨y0, y1 % 16, y1 / 16, y2, getV [y4, y5, y6, y7]⟩ := by unfold decI; rw [hn]; rfl
    have hen : mayV (decI s) = true → (encS (decI s) = s ↔ y3 = 0) := fun hm => by
      have h := enc_eq h8 hm
      rw [hn] at h
      unfold encS
      rw [if_pos hm]
      exact h
    have hok := decI_ok h8
    have hg : nums (s.extract 4 8) = [y4, y5, y6, y7] := by
      have := nums_drop s 4
      rw [h8] at this
      rw [this, hn]
      rfl
    have hgs : (s.extract 4 8).size = 4 := by rw [← nums_length, hg]; rfl
    have Hg := Lib.hid (WordRef.get_ok (s.extract 4 8) (by omega) (by omega))
    rw [hg] at Hg
    have hB : decB s = ((y3 == 0) && mayV (decI s)) := by
      unfold decB
      rw [hn, h8]
      simp
    have hDX : decX s = (if decB s then decI s else nix) := rfl
    have hDE : decE s = (if decB s then 0 else 7) := rfl
    have hck := encode (decI s)
    rw [hd] at hen hck hB hDX hok
    generalize getV [y4, y5, y6, y7] = v at *
    have hr1 : y1.tmod 16 = y1 % 16 := Int.tmod_eq_emod_of_nonneg b1.1
    have hr2 : y1.tdiv 16 = y1 / 16 := Int.tdiv_eq_ediv_of_nonneg b1.1
    go_enter Tryz.func68, Tryz.ntmps68
    go_wp2_with (go_at_call 100; (with_reducible refine (Hg.out _).mono ?_); rintro e w2 ⟨rfl, rfl⟩)
    go_region
    go_wp2_with fail
    generalize hW1 : ((w.alloc (.cells #[Value.int .u8 0, .int .u8 0, .int .u8 0, .int .u8 0, .int .u32 0] 91)).alloc (.cells #[Value.int .u8 y0, .int .u8 (y1 % 16), .int .u8 (y1 / 16), .int .u8 y2, .int .u32 v] 91)).drew = W1 at *
    have hbl : Below w.heap.size w W1 := by rw [← hW1]; exact (((Below.refl _ _).alloc (Nat.le_refl _) _).alloc (by simp) _).drew
    have hsz : W1.heap.size = w.heap.size + 2 := by rw [← hW1]; simp
    have c1 : W1.heap[w.heap.size + 1]? = some (.cells #[Value.int .u8 y0, .int .u8 (y1 % 16), .int .u8 (y1 / 16), .int .u8 y2, .int .u32 v] 91 (0, 0)) := by
      rw [← hW1]
      have h := heap_alloc_new (w.alloc (.cells #[Value.int .u8 0, .int .u8 0, .int .u8 0, .int .u8 0, .int .u32 0] 91)) (.cells #[Value.int .u8 y0, .int .u8 (y1 % 16), .int .u8 (y1 / 16), .int .u8 y2, .int .u32 v] 91)
      rwa [show (w.alloc (.cells #[Value.int .u8 0, .int .u8 0, .int .u8 0, .int .u8 0, .int .u32 0] 91)).heap.size = w.heap.size + 1 by simp] at h
    have c0 : W1.heap[w.heap.size]? = some (.cells #[Value.int .u8 0, .int .u8 0, .int .u8 0, .int .u8 0, .int .u32 0] 91 (0, 0)) := by
      rw [← hW1]
      exact (Below.heap_alloc _ _ _ (by simp)).trans (heap_alloc_new w _)
    have hH : Hid (∀ w3, Below W1.heap.size W1 w3 → Below w.heap.size w w3 ∧ w3.heap[w.heap.size + 1]? = some (.cells #[Value.int .u8 y0, .int .u8 (y1 % 16), .int .u8 (y1 / 16), .int .u8 y2, .int .u32 v] 91 (0, 0)) ∧ w3.heap[w.heap.size]? = some (.cells #[Value.int .u8 0, .int .u8 0, .int .u8 0, .int .u8 0, .int .u32 0] 91 (0, 0))) := Lib.hid fun w3 hb => ⟨hbl.trans (hb.mono hbl.size), (hb.block _ (by omega)).trans c1, (hb.block _ (by omega)).trans c0⟩
    have hck1 : Calls Tryz.prog 93 #[.agg #[.int .u8 y0, .int .u8 (y1 % 16), .int .u8 (y1 / 16), .int .u8 y2, .int .u32 v]] W1 fun e w' => e = .returned (.tuple #[.string (encS ⟨y0, y1 % 16, y1 / 16, y2, v⟩), .int .i64 (encE ⟨y0, y1 % 16, y1 / 16, y2, v⟩)]) ∧ Below W1.heap.size W1 w' := hck hok W1
    generalize hX : (⟨y0, y1 % 16, y1 / 16, y2, v⟩ : Ins) = X at *
    refine hck1.mono ?_
    rintro e w3 ⟨rfl, hb3⟩
    obtain ⟨hb, d1, d0⟩ := hH.out w3 hb3
    have HB := Lib.hid hb
    obtain ⟨q0, q1, q2, q3, q4, _⟩ := boxcells d1
    obtain ⟨r0, r1, r2, r3, r4, t0, t1, t2, t3, t4⟩ := boxcells d0
    clear c1 c0 d1 d0 hb hb3 hck hck1 hH hbl hsz hn hg hgs Hg hok hW1
    have HBz : Hid (∀ a b c d e : Value, Below w.heap.size w (((((w3.setCell ⟨w.heap.size, 0, none⟩ a).setCell ⟨w.heap.size, 1, none⟩ b).setCell ⟨w.heap.size, 2, none⟩ c).setCell ⟨w.heap.size, 3, none⟩ d).setCell ⟨w.heap.size, 4, none⟩ e)) := Lib.hid fun a b c d e => ((((HB.out.setCell (Nat.le_refl _) _).setCell (Nat.le_refl _) _).setCell (Nat.le_refl _) _).setCell (Nat.le_refl _) _).setCell (Nat.le_refl _) _
    cases hmy : mayV X with
    | true =>
      have hen2 := hen hmy
      by_cases h3 : y3 = 0
      · have hBt : decB s = true := by rw [hB, h3, hmy]; rfl
        have HX : Hid (decX s = X ∧ decE s = 0) := Lib.hid ⟨by rw [hDX, if_pos hBt], by rw [hDE, if_pos hBt]⟩
        have hes : encS X = s := hen2.2 h3
        have hE0 : encE X = 0 := by unfold encE; rw [if_pos hmy]
        rw [hes, hE0]
        clear hBt hes hE0 hen2 hen hB hDX hDE h3 hd
        go_wp2_with fail
        refine bodyPost_ret (v := .tuple #[.agg #[.int .u8 y0, .int .u8 (y1 % 16), .int .u8 (y1 / 16), .int .u8 y2, .int .u32 v], .int .i64 0]) (by simp [results, Tryz.results68, go_sem, *]) rfl ⟨?_, HBz.out _ _ _ _ _⟩
        rw [HX.out.1, HX.out.2, ← hX]
        rfl
      · have hBt : decB s = false := by rw [hB, show (y3 == 0) = false by simpa using h3]; rfl
        have HX : Hid (decX s = nix ∧ decE s = 7) := Lib.hid ⟨by rw [hDX, hBt]; rfl, by rw [hDE, hBt]; rfl⟩
        have hes : encS X ≠ s := fun h => h3 (hen2.1 h)
        have hE0 : encE X = 0 := by unfold encE; rw [if_pos hmy]
        rw [hE0]
        clear hBt hE0 hen2 hen hB hDX hDE h3 hd
        generalize encS X = T at *
        have hss : (T.toList == s.toList) = false := by
          cases h : (T.toList == s.toList) with
          | false => rfl
          | true =>
            have e : T.toList = s.toList := by simpa using h
            rw [ByteArray.toList_eq, ByteArray.toList_eq] at e
            exact absurd (Go.WideShapes.bytes_inj e) hes
        go_wp2_with fail
        refine bodyPost_ret (v := .tuple #[nix.val, .int .i64 7]) (by simp [results, Tryz.results68, go_sem, val, nix, *]) rfl ⟨?_, HBz.out _ _ _ _ _⟩
        rw [HX.out.1, HX.out.2]
    | false =>
      have hBt : decB s = false := by rw [hB, hmy]; simp
      have HX : Hid (decX s = nix ∧ decE s = 7) := Lib.hid ⟨by rw [hDX, hBt]; rfl, by rw [hDE, hBt]; rfl⟩
      have hE0 : encE X = 2 := by unfold encE; rw [hmy]; rfl
      rw [hE0]
      clear hBt hE0 hen hB hDX hDE hd
      go_wp2_with fail
      refine bodyPost_ret (v := .tuple #[nix.val, .int .i64 7]) (by simp [results, Tryz.results68, go_sem, val, nix, *]) rfl ⟨?_, HBz.out _ _ _ _ _⟩
      rw [HX.out.1, HX.out.2]
  · have h8' : ((s.size : Int) != 8) = true := by simpa using (by omega : (s.size : Int) ≠ 8)
    have HX : Hid (decX s = nix ∧ decE s = 7) := Lib.hid (by
      have hB : decB s = false := by
        cases hB : decB s with
        | false => rfl
        | true => exact absurd (decB_size hB) h8
      unfold decX decE
      rw [hB]
      exact ⟨rfl, rfl⟩)
    go_enter Tryz.func68, Tryz.ntmps68
    go_wp2
    refine bodyPost_ret (v := .tuple #[nix.val, .int .i64 7]) (by simp [results, Tryz.results68, go_sem, val, nix]) rfl ⟨?_, (Below.refl _ _).alloc (Nat.le_refl _) _⟩
    rw [HX.out.1, HX.out.2]
end Go.Proofs.YtldmglodjafklaaGreat.Ins
