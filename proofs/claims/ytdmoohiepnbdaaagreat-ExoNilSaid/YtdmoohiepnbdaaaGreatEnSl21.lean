/- Sl21, Stp, Env, EnvW in one text. -/
import Derived.Test.YtdmoohiepnbdaaaGreatEnPag
import Derived.Lib.SliceRun
import Derived.Shelf.RegionOpenPlain
import Derived.Deep.RegionLaw
import Derived.Laws.IdiomCopy
import Derived.Lib.AppendZeros
import Derived.Lib.Overlaps
import Derived.Test.YtdmoohiepnbdaaaGreatEnStepW
import Derived.Test.YtdmoohiepnbdaaaGreatEnPair
import Derived.Deep.MidRow
namespace Go.Proofs.YtdmoohiepnbdaaaGreat.Sl
open Go.RowKit Pag
set_option linter.unusedVariables false
set_option linter.unusedSimpArgs false
def Lst (w : World) (v : Value) (xs : List Int) : Prop := SlV w 41 1 v xs.length (xs.map encU)
theorem Lst.nil (w : World) : Lst w (.slice none 0 0) [] := SlV.nil _ _ _
theorem Lst.frame {w w' : World} {v : Value} {xs : List Int} (h : Lst w v xs) (hb : ∀ g, v.ownBlock = some g → w'.heap[g]? = w.heap[g]?) : Lst w' v xs := SlV.keep h hb
theorem Lst.keep {F : Nat → Prop} {w w' : World} {v : Value} {xs : List Int} (h : Lst w v xs) (hm : Mod F w w') (hl : ∀ g, v.ownBlock = some g → g < w.heap.size) (hF : ∀ g, v.ownBlock = some g → ¬ F g) : Lst w' v xs := h.frame fun g hg => hm.block _ (hl g hg) (hF g hg)
end Go.Proofs.YtdmoohiepnbdaaaGreat.Sl
namespace Go.Proofs.YtdmoohiepnbdaaaGreat.Sl
open Go.RowKit Pag
set_option linter.unusedVariables false
set_option linter.unusedSimpArgs false
theorem wp_copy_at {P : Program} (w : World) {o : Oper} {a : Act} {K : Act → World → Prop} {Q : Exit → Act → World → Prop} (d s : Operand) (t t' : TypeId)
    (ho : o.op = .call { callee := .builtin .copy, args := #[d, s], argTypes := #[t, t'] }) (v u : Value) (hd : a.eval d = v) (hs : a.eval s = u) {v' : Value} {w' : World}
    (hr : (Builtin.copy_ #[t, t'] o.type #[v, u]).run P w = .ok v' w') (h : K (a.put o.dst v') w') : o.wp P a w K Q := by
  unfold Oper.wp execOp
  simp only [ho, resolve, invoke, builtin, Sem.run_bind, Sem.run_pure, Result.andThen_ok, List.map_toArray, List.map_cons, List.map_nil, hd, hs, hr]
  exact h
theorem wpList_copy_at {P : Program} (w : World) {ops : Array Oper} {rest : List Oper} {o : Oper} {a : Act} {Q : Exit → Act → World → Prop} (hgd : o.guard = none) (d s : Operand) (t t' : TypeId)
    (ho : o.op = .call { callee := .builtin .copy, args := #[d, s], argTypes := #[t, t'] }) (v u : Value) (hd : a.eval d = v) (hs : a.eval s = u) {v' : Value} {w' : World}
    (hr : (Builtin.copy_ #[t, t'] o.type #[v, u]).run P w = .ok v' w') (h : wpList P ops Q rest (a.put o.dst v') w') : wpList P ops Q (o :: rest) a w :=
  wpList_plain hgd fun _ hK => wp_copy_at w d s t t' ho v u hd hs hr (hK _ _ h)
theorem step_copy_at {P : Program} {ops : Array Oper} {o : Oper} {a : Act} {w : World} {K : Act → World → Prop} {Q : Exit → Act → World → Prop} {E : Prop}
    (hg : o.guard = none) (d x : Operand) (dT sT : TypeId) (hop : o.op = Op.call { callee := Callee.builtin Builtin.copy, args := #[d, x], argTypes := #[dT, sT] })
    (v u : Value) (hd : a.eval d = v) (hx : a.eval x = u) {v' : Value} {w' : World} (hr : (Builtin.copy_ #[dT, sT] o.type #[v, u]).run P w = .ok v' w') (hK : K (a.put o.dst v') w') :
    if Region.wanted o (yielded ops a.tmps) = true then Oper.wp P o a w K Q else E := by
  have hw : Region.wanted o (yielded ops a.tmps) = true := by simp [Region.wanted, hg]
  rw [if_pos hw]
  exact wp_copy_at w d x dT sT hop v u hd hx hr hK
def InsPost (w : World) (v : Value) (xs : List Int) (k : Nat) (x : Int) (e : Ending) (w' : World) : Prop :=
  ∃ v', e = .returned v' ∧ Lst w' v' (xs.take k ++ x :: xs.drop k) ∧ Mod (fun b => v.ownBlock = some b) w w' ∧ ∀ b, v'.ownBlock = some b → v.ownBlock = some b ∨ w.heap.size ≤ b
theorem one_cell {w : World} {vb : Nat} {x : Int} (hv : w.heap[vb]? = some (.cells #[.int .u32 x] 41 (0, 0))) : ∀ j u, [Value.int .u32 x][j]? = some u → w.cell? ((⟨vb, 0, none⟩ : Addr).add j) = some u := fun j u hu => by
  rw [Addr.add_lit, Nat.zero_add]
  unfold World.cell?
  rw [hv]
  simpa using hu
set_option maxRecDepth 100000 in
set_option maxHeartbeats 4000000 in
theorem insert_end {w : World} {v : Value} {xs : List Int} (h : Lst w v xs) (x : Int) (hs : xs.length ≤ 2000000) (vb : Nat) (hv : w.heap[vb]? = some (.cells #[.int .u32 x] 41 (0, 0))) :
    Calls Tryz.prog 179 #[v, .int .i64 xs.length, .slice (some ⟨vb, 0, none⟩) 1 1] w (InsPost w v xs xs.length x) := by
  obtain ⟨i0, hi0, hz0, hz1, hz2⟩ := info_parts infoU32
  have H := Lib.hid h
  have HC := Lib.hid (one_cell hv)
  obtain ⟨n, hn⟩ : ∃ n, xs.length = n := ⟨_, rfl⟩
  have HF : Hid (∀ v' w', SlV w' 41 1 v' (xs.length + 1) (xs.map encU ++ [.int .u32 x]) → Mod (fun k => v.ownBlock = some k) w w' → (v'.ownBlock = v.ownBlock ∨ ∃ k, v'.ownBlock = some k ∧ w.heap.size ≤ k) → InsPost w v xs xs.length x (.returned v') w') := Lib.hid fun v' w' h1 h2 h3 => by
    refine ⟨v', rfl, ?_, h2, fun b hb => ?_⟩
    · unfold Lst
      rw [List.take_length, List.drop_length, List.length_append, List.map_append]
      exact h1
    · rcases h3 with g | ⟨k, g1, g2⟩
      · exact .inl (g ▸ hb)
      · rw [g1] at hb; injection hb with hb; exact .inr (hb ▸ g2)
  generalize InsPost w v xs xs.length x = PQ at *
  unfold Lst at H
  obtain ⟨a, cap, rfl⟩ := h.form
  have hnc : n ≤ cap := by
    rcases h.2 with ⟨h0, _, _⟩ | ⟨g, off, cap', cur, e, hg, hnc, _⟩
    · omega
    · simp only [Value.slice.injEq] at e
      omega
  have hcap : cap ≤ 9223372036854775807 := by
    rcases h.2 with ⟨h0, _, e⟩ | ⟨g, off, cap', cur, e, hg, _, hcm, _⟩
    · simp only [Value.slice.injEq] at e
      omega
    · simp only [Value.slice.injEq] at e
      unfold maxLen at hcm
      omega
  rw [hn] at H HF hs ⊢
  clear h hv
  have hml : n + 1 ≤ maxLen := by unfold maxLen; omega
  have hby : (n + 1) * 4 ≤ 140737488355328 := by omega
  have HLn := Lib.hid hn
  have HX : Hid ((xs.map encU).length = n * 1) := Lib.hid (by rw [List.length_map, hn, Nat.mul_one])
  clear hn
  generalize xs.map encU = cs at *
  cases a with
  | none =>
    go_enter Tryz.func179, Tryz.ntmps179
    go_wp2_with (at_builtin; refine wpList_append_slv _ rfl _ _ 57 rfl 41 i0 (.int .u32 0) 1 4 Tryz.underlying57 hi0 hz0 hz1 hz2 rfl (by decide) _ n cs rfl H.out ⟨vb, 0, none⟩ 1 1 [.int .u32 x] rfl (by omega) rfl HC.out (by simp [Value.oneCell']) hml hby ?_; intro v2 w2 hl2 hm2 hb2)
    all_goals exact HF.out v2 w2 hl2 hm2 hb2
  | some a =>
    obtain ⟨g, off, sp⟩ := a
    go_enter Tryz.func179, Tryz.ntmps179
    go_wp2_with (at_builtin; refine wpList_append_slv _ rfl _ _ 57 rfl 41 i0 (.int .u32 0) 1 4 Tryz.underlying57 hi0 hz0 hz1 hz2 rfl (by decide) _ n cs rfl H.out ⟨vb, 0, none⟩ 1 1 [.int .u32 x] rfl (by omega) rfl HC.out (by simp [Value.oneCell']) hml hby ?_; intro v2 w2 hl2 hm2 hb2)
    all_goals exact HF.out v2 w2 hl2 hm2 hb2
set_option maxRecDepth 100000 in
set_option maxHeartbeats 4000000 in
theorem insert_shift {w : World} {g off cap : Nat} {cur : Array Value} {xs : List Int} (hg : w.heap[g]? = some (.cells cur 41 (0, 0))) (hcm : cap ≤ maxLen) (hcs : off + cap * 1 ≤ cur.size) (hc : ∀ j, j < xs.length * 1 → cur[off + j]? = (xs.map encU)[j]?)
    (x : Int) (k : Nat) (hk : k < xs.length) (hroom : xs.length + 1 ≤ cap) (hs : xs.length ≤ 2000000) (vb : Nat) (hv : w.heap[vb]? = some (.cells #[.int .u32 x] 41 (0, 0))) (hvg : vb ≠ g) :
    Calls Tryz.prog 179 #[.slice (some ⟨g, off, none⟩) xs.length cap, .int .i64 k, .slice (some ⟨vb, 0, none⟩) 1 1] w (InsPost w (.slice (some ⟨g, off, none⟩) xs.length cap) xs k x) := by
  obtain ⟨i0, hi0, hz0, hz1, hz2⟩ := info_parts infoU32
  have hsz : (Tryz.prog.info? 41).map (·.size) = some 1 := by rw [hi0]; simp [hz1]
  obtain ⟨n, hn⟩ : ∃ n, xs.length = n := ⟨_, rfl⟩
  rw [hn] at hk hroom hs hc ⊢
  obtain ⟨news, hnews⟩ : ∃ news, news = (xs.drop k).map encU := ⟨_, rfl⟩
  have hlen : news.length = n - k := by rw [hnews]; simp [hn]
  have hcell : ∀ j, j < n → w.cell? ⟨g, off + j, none⟩ = (xs.map encU)[j]? := fun j hj => by
    unfold World.cell?
    rw [hg]
    exact hc j (by omega)
  have hsome : ∀ j, j < n + 1 → (w.cell? ⟨g, off + j, none⟩).isSome = true := fun j hj => by
    unfold World.cell?
    rw [hg]
    simp [Array.getElem?_eq_getElem (show off + j < cur.size by omega)]
  have hfree : ∀ (j : Nat), w.frozen? ⟨g, j, none⟩ = false := fun j => by
    unfold World.frozen?
    rw [hg]
    simp
  have hsa : w.shape? vb = some (41, 1) := by unfold World.shape?; rw [hv]; rfl
  have hsb : w.shape? g = some (41, cur.size) := by unfold World.shape?; rw [hg]
  have hfv : ∀ j, w.frozen? ⟨vb, j, none⟩ = false := fun j => by unfold World.frozen?; rw [hv]; simp
  have hov : ∀ lb cb, (callFunc 230 #[.slice (some ⟨vb, 0, none⟩) 1 1, .slice (some ⟨g, off + (k + 1), none⟩) lb cb]).run Tryz.prog w = .ok (.value (.bool false)) w := fun lb cb => by
    rw [run_callFunc_extern Tryz.func230 (by kernel_rfl) (by kernel_rfl) (by kernel_rfl) (e := Extern.SlicesOverlaps.overlaps #[57, 57] #[4]) (by kernel_rfl),
      Lib.run_overlaps_apart w 57 4 41 Tryz.underlying57 1 Tryz.sizeOf41 ⟨vb, 0, none⟩ ⟨g, off + (k + 1), none⟩ 1 1 lb cb hvg _ _ _ _ hsa hsb (by omega) (hfv _) (hfv _)]
    rfl
  have hsrc : ∀ t u, news[t]? = some u → w.cell? ⟨g, off + k + t, none⟩ = some u := fun t u hu => by
    have ht : t < n - k := by rw [← hlen]; exact (List.getElem?_eq_some_iff.1 hu).1
    rw [hnews, List.getElem?_map, List.getElem?_drop, ← List.getElem?_map, ← hcell _ (by omega)] at hu
    rw [Nat.add_assoc]
    exact hu
  have h1c : ∀ u ∈ news, u.oneCell' = true := fun u hu => by
    rw [hnews] at hu
    obtain ⟨x, _, rfl⟩ := List.mem_map.1 hu
    rfl
  have hcp1 : ∀ ty dc sc, (Builtin.copy_ #[57, 57] ty #[.slice (some ⟨g, off + (k + 1), none⟩) (n - k) dc, .slice (some ⟨g, off + k, none⟩) (n + 1 - k) sc]).run Tryz.prog w.drew = .ok (goInt news.length) (w.drew.setCells g (off + (k + 1)) news) := fun ty dc sc =>
    run_copy_cells w.drew _ _ ty 41 g (off + (k + 1)) (n - k) dc ⟨g, off + k, none⟩ (n + 1 - k) sc news Tryz.underlying57 hsz (by rw [hlen]; simp only [Nat.min_def]; split <;> omega)
      (fun j v hj => by rw [Addr.add_lit]; exact hsrc j v hj)
      (fun j hj => by rw [Nat.add_assoc]; exact hsome _ (by omega)) (fun j hj => hfree _) h1c
  obtain ⟨W1, hW1⟩ : ∃ W1, W1 = w.drew.setCells g (off + (k + 1)) news := ⟨_, rfl⟩
  obtain ⟨cur1, c1, c2, c3, c4⟩ := heap_setCells_same g 41 news w.drew (off + (k + 1)) cur hg (by rw [hlen]; omega)
  have m1 := mod_setCells g news w.drew (off + (k + 1))
  rw [← hW1] at c1 m1 hcp1
  have hv1 : W1.heap[vb]? = some (.cells #[.int .u32 x] 41 (0, 0)) := (m1.block _ (lt_of_block hv) hvg).trans hv
  have hcp2 : ∀ ty dc, (Builtin.copy_ #[57, 57] ty #[.slice (some ⟨g, off + k, none⟩) (n + 1 - k) dc, .slice (some ⟨vb, 0, none⟩) 1 1]).run Tryz.prog W1 = .ok (goInt 1) (W1.setCells g (off + k) [.int .u32 x]) := fun ty dc =>
    run_copy_cells W1 _ _ ty 41 g (off + k) (n + 1 - k) dc ⟨vb, 0, none⟩ 1 1 [.int .u32 x] Tryz.underlying57 hsz (by simp only [Nat.min_def, List.length_singleton]; split <;> omega)
      (one_cell hv1) (fun j hj => by unfold World.cell?; rw [c1]; simp at hj; simp [hj, Array.getElem?_eq_getElem (show off + k < cur1.size by omega)]) (fun j hj => by unfold World.frozen?; rw [c1]; simp) (by simp [Value.oneCell'])
  have hset : W1.setCells g (off + k) [.int .u32 x] = W1.setCell ⟨g, off + k, none⟩ (.int .u32 x) := by simp [World.setCells]
  have d1 := heap_setCell_same W1 g (off + k) cur1 41 (.int .u32 x) c1
  have HFin : Hid (InsPost w (.slice (some ⟨g, off, none⟩) n cap) xs k x (.returned (.slice (some ⟨g, off, none⟩) (n + 1) cap)) (W1.setCells g (off + k) [.int .u32 x])) := by
    have hL : (xs.take k ++ x :: xs.drop k).length = n + 1 := by simp [hn]; omega
    have hT : (xs.take k).length = k := by rw [List.length_take]; omega
    refine Lib.hid ⟨_, rfl, ⟨by simp, .inr ⟨g, off, cap, _, by rw [hL], by rw [hset]; exact d1, by rw [hL]; exact hroom, hcm, by rw [Array.size_setIfInBounds, c2]; exact hcs, fun t ht => ?_⟩⟩, ?_, fun b hb => .inl hb⟩
    · rw [hL] at ht
      rw [Array.getElem?_setIfInBounds, List.getElem?_map]
      rcases Nat.lt_trichotomy t k with e | e | e
      · rw [if_neg (by omega), c3 _ (by omega), hc t (by omega), List.getElem?_map, List.getElem?_append_left (by omega), List.getElem?_take_of_lt e]
      · subst e
        rw [if_pos rfl, if_pos (by omega), List.getElem?_append_right (by omega), hT, Nat.sub_self]
        rfl
      · rw [if_neg (by omega)]
        have := c4 (t - (k + 1)) (by rw [hlen]; omega)
        rw [show off + (k + 1) + (t - (k + 1)) = off + t by omega] at this
        rw [this, hnews, List.getElem?_map, List.getElem?_append_right (by omega), hT, show t - k = (t - (k + 1)) + 1 by omega]
        rfl
    · have m2 := mod_setCells g [.int .u32 x] W1 (off + k)
      have m0 : Mod (fun i => i = g) w w.drew := (Mod.refl _ _).drew
      exact ((m0.same m1).same m2).mono fun i _ hi => by rw [hi]; rfl
  have hz2 : ¬ ((k : Int) = n) := by omega
  have mixed : Tryz.prog.follows .mixedOrders = true := by kernel_rfl
  have hw1 : IntKind.i64.wrap ((k : Int) + 1) = (k : Int) + 1 := by rw [IntKind.wrap_i64]; omega
  have hb1 : (0 : Int) ≤ (k : Int) + 1 := by omega
  have hin : k ≤ n := by omega
  have htn : ((k : Int) + 1).toNat = k + 1 := by omega
  have hb2 : ¬ (cap = k + 1) := by omega
  have hb3 : (k : Int) ≤ (n : Int) + 1 := by omega
  have hb4 : ¬ (cap = k) := by omega
  have hc63 : cap ≤ 9223372036854775807 := by unfold maxLen at hcm; omega
  generalize InsPost w (.slice (some ⟨g, off, none⟩) n cap) xs k x = PQ at *
  clear hW1 c1 c2 c3 c4 d1 hset m1 hnews hlen hsome hfree hcell hc hg hn hsrc h1c hv1 hv hfv hsa hsb
  go_enter Tryz.func179, Tryz.ntmps179
  go_wp2_with (simp only [hov])
  go_region_law_o (refine step_copy_at rfl _ _ 57 57 rfl _ _ (by simp [Act.eval, Act.put]) (by simp [Act.eval, Act.put]) (hcp1 _ _ _) ?_)
  go_wp2_with (at_builtin; refine wpList_copy_at _ rfl _ _ 57 57 rfl _ _ rfl rfl (hcp2 _ _) ?_)
  exact HFin.out
theorem run_append_zeros {P : Program} (w : World) (t tn ty e : TypeId) (i : TypeInfo) (z : Value) (k kn : IntKind) (ht : P.underlying t = some (.slice e)) (htn : P.underlying tn = some (.int kn)) (hi : P.info? e = some i) (hz : i.zero = some z)
    (base : Option Addr) (sLen sCap : Nat) (olds : List Value) (hold : (Builtin.firstCells i.size sLen (.slice base sLen sCap)).run P w.drew = .ok olds.toArray w.drew)
    (n : Nat) (h0 : 0 < n) (hs : 0 < i.size) (hg : sCap < sLen + n) (h63 : ((sLen + n : Nat) : Int) ≤ 9223372036854775807) (hfit : Builtin.nextslicecap (sLen + n) sCap * i.bytes ≤ 281474976710656) (h48 : n * i.bytes ≤ 281474976710656) :
    (Builtin.append_ #[t, tn] ty #[.slice base sLen sCap, .int k n]).run P w =
      .ok (.slice (some ⟨w.heap.size, 0, none⟩) (sLen + n) (grownCap w (sLen + n) sCap e)) (w.drew.alloc (.cells (olds.toArray ++ Builtin.zeroCells z.cells n ++ Builtin.zeroCells z.cells (grownCap w (sLen + n) sCap e - (sLen + n))) e)) := by
  have hn : n ≠ 0 := by omega
  have hnr : ¬ (sLen + n ≤ sCap) := by omega
  have hw : IntKind.i64.wrap (n : Int) = n := by rw [IntKind.wrap_i64]; omega
  have h63' : ¬ (9223372036854775807 < ((sLen : Int) + (n : Int))) := by omega
  have h63n : ¬ (9223372036854775807 < (n : Int)) := by omega
  have h48' : ¬ (281474976710656 < Builtin.nextslicecap (sLen + n) sCap * i.bytes) := by omega
  have h48i : ¬ (281474976710656 < (n : Int) * (i.bytes : Int)) := by
    rw [← Int.natCast_mul]
    omega
  have hneg : ¬ ((n : Int) < 0) := by omega
  have hns : ¬ (n * i.size = 0) := Nat.mul_ne_zero hn (by omega)
  simp [Builtin.append_, run_underlying ht, run_underlying htn, sizeOf, typeInfo, zeroValue, hi, hz, asInt, asIntOf, hw, hn, hnr, hneg, hns, h63', h63n, h48', h48i, Question.forced, hold, newRow, grownCap]
set_option maxRecDepth 100000 in
set_option maxHeartbeats 4000000 in
theorem insert_grow {w : World} {g off cap : Nat} {cur : Array Value} {xs : List Int} (hg : w.heap[g]? = some (.cells cur 41 (0, 0))) (hcm : cap ≤ maxLen) (hcs : off + cap * 1 ≤ cur.size) (hc : ∀ j, j < xs.length * 1 → cur[off + j]? = (xs.map encU)[j]?)
    (x : Int) (k : Nat) (hk : k < xs.length) (hnc : xs.length ≤ cap) (hroom : cap < xs.length + 1) (hs : xs.length ≤ 2000000) (vb : Nat) (hv : w.heap[vb]? = some (.cells #[.int .u32 x] 41 (0, 0))) :
    Calls Tryz.prog 179 #[.slice (some ⟨g, off, none⟩) xs.length cap, .int .i64 k, .slice (some ⟨vb, 0, none⟩) 1 1] w (InsPost w (.slice (some ⟨g, off, none⟩) xs.length cap) xs k x) := by
  obtain ⟨i0, hi0, hz0, hz1, hz2⟩ := info_parts infoU32
  have hsz : (Tryz.prog.info? 41).map (·.size) = some 1 := by rw [hi0]; simp [hz1]
  obtain ⟨n, hn⟩ : ∃ n, xs.length = n := ⟨_, rfl⟩
  rw [hn] at hk hnc hroom hs hc ⊢
  obtain rfl : cap = n := by omega
  obtain ⟨news, hnews⟩ : ∃ news, news = (xs.drop k).map encU := ⟨_, rfl⟩
  have hlen : news.length = cap - k := by rw [hnews]; simp [hn]
  have hcell : ∀ j, j < cap → w.cell? ⟨g, off + j, none⟩ = (xs.map encU)[j]? := fun j hj => by
    unfold World.cell?
    rw [hg]
    exact hc j (by omega)
  have hold : (Builtin.firstCells i0.size k (.slice (some ⟨g, off, none⟩) k cap)).run Tryz.prog w.drew = .ok ((xs.take k).map encU).toArray w.drew := by
    rw [hz1]
    exact run_firstCells_some w.drew 1 k ⟨g, off, none⟩ k cap _ (by simp [hn]; omega) (fun j v hj => by
      have hjk : j < k := by have := (List.getElem?_eq_some_iff.1 hj).1; simp [hn] at this; omega
      rw [Addr.add_lit]
      refine (hcell j (by omega)).trans ?_
      rw [List.getElem?_map] at hj ⊢
      rw [List.getElem?_take_of_lt hjk] at hj
      exact hj)
  have hrun := fun ty => run_append_zeros (P := Tryz.prog) w 57 3 ty 41 i0 _ .i64 .i64 Tryz.underlying57 Tryz.underlying3 hi0 hz0 (some ⟨g, off, none⟩) k cap _ hold (cap + 1 - k) (by omega) (by omega) (by omega) (by omega) (growslice_fits (by omega) (by rw [hz2]; omega)) (by rw [hz2]; omega)
  rw [show k + (cap + 1 - k) = cap + 1 by omega] at hrun
  have hge := grownCap_ge w (cap + 1) cap 41
  have hgm := grownCap_le_maxLen w (cap + 1) cap 41 (by unfold maxLen; omega)
  generalize grownCap w (cap + 1) cap 41 = gc at *
  obtain ⟨E, hE⟩ : ∃ E, ((xs.take k).map encU).toArray ++ Builtin.zeroCells (Value.int .u32 0).cells (cap + 1 - k) ++ Builtin.zeroCells (Value.int .u32 0).cells (gc - (cap + 1)) = E := ⟨_, rfl⟩
  rw [hE] at hrun
  have hEs : E.size = gc := by
    rw [← hE]
    simp only [Array.size_append, size_zeroCells, List.size_toArray, List.length_map, List.length_take]
    have : (Value.int IntKind.u32 0).cells.size = 1 := rfl
    rw [this]
    omega
  have hEg : ∀ t, t < k → E[t]? = (xs.map encU)[t]? := fun t ht => by
    rw [← hE, Array.append_assoc, Array.getElem?_append_left (by simp [hn]; omega)]
    simp [List.getElem?_take_of_lt ht]
  obtain ⟨q, hq⟩ : ∃ q, w.heap.size = q := ⟨_, rfl⟩
  have hgl := lt_of_block hg
  have hvl := lt_of_block hv
  obtain ⟨W0, hW0⟩ : ∃ W0, W0 = w.drew.alloc (.cells E 41) := ⟨_, rfl⟩
  rw [hq] at hrun hgl hvl
  rw [← hW0] at hrun
  have c0 : W0.heap[q]? = some (.cells E 41 (0, 0)) := by rw [hW0, ← hq]; exact heap_alloc_new w.drew _
  have hbel0 : Below q w W0 := by rw [hW0, ← hq]; exact (Below.refl _ _).drew.alloc (Nat.le_refl _) _
  have hcp2 : ∀ ty dc, (Builtin.copy_ #[57, 57] ty #[.slice (some ⟨q, k, none⟩) (cap + 1 - k) dc, .slice (some ⟨vb, 0, none⟩) 1 1]).run Tryz.prog W0 = .ok (goInt 1) (W0.setCells q k [.int .u32 x]) := fun ty dc =>
    run_copy_cells W0 _ _ ty 41 q k (cap + 1 - k) dc ⟨vb, 0, none⟩ 1 1 [.int .u32 x] Tryz.underlying57 hsz (by simp only [Nat.min_def, List.length_singleton]; split <;> omega)
      (one_cell ((hbel0.block _ hvl).trans hv)) (fun j hj => by unfold World.cell?; rw [c0]; simp at hj; simp [hj, Array.getElem?_eq_getElem (show k < E.size by omega)]) (fun j hj => by unfold World.frozen?; rw [c0]; simp) (by simp [Value.oneCell'])
  have hset : W0.setCells q k [.int .u32 x] = W0.setCell ⟨q, k, none⟩ (.int .u32 x) := by simp [World.setCells]
  have c1 := heap_setCell_same W0 q k E 41 (.int .u32 x) c0
  obtain ⟨W1, hW1⟩ : ∃ W1, W1 = W0.setCells q k [.int .u32 x] := ⟨_, rfl⟩
  rw [← hW1] at hcp2
  rw [← hset, ← hW1] at c1
  have hbel1 : Below q w W1 := by
    rw [hW1]
    refine Mod.below hbel0 (mod_setCells q _ W0 k) (Nat.le_of_lt (lt_of_block c0)) fun i _ hi => ?_
    exact Nat.le_of_eq hi.symm
  have hsrc : ∀ t u, news[t]? = some u → W1.drew.cell? ((⟨g, off + k, none⟩ : Addr).add t) = some u := fun t u hu => by
    have ht : t < cap - k := by rw [← hlen]; exact (List.getElem?_eq_some_iff.1 hu).1
    rw [hnews, List.getElem?_map, List.getElem?_drop, ← List.getElem?_map, ← hcell _ (by omega)] at hu
    rw [Addr.add_lit, Nat.add_assoc]
    exact (hbel1.cell (p := ⟨g, off + (k + t), none⟩) hgl).trans hu
  have h1c : ∀ u ∈ news, u.oneCell' = true := fun u hu => by
    rw [hnews] at hu
    obtain ⟨x, _, rfl⟩ := List.mem_map.1 hu
    rfl
  have hcp1 : ∀ ty dc sc, (Builtin.copy_ #[57, 57] ty #[.slice (some ⟨q, k + 1, none⟩) (cap - k) dc, .slice (some ⟨g, off + k, none⟩) (cap - k) sc]).run Tryz.prog W1.drew = .ok (goInt news.length) (W1.drew.setCells q (k + 1) news) := fun ty dc sc =>
    run_copy_cells W1.drew _ _ ty 41 q (k + 1) (cap - k) dc ⟨g, off + k, none⟩ (cap - k) sc news Tryz.underlying57 hsz (by rw [hlen]; simp only [Nat.min_def]; split <;> omega)
      hsrc
      (fun j hj => by
        rw [hlen] at hj
        show (W1.cell? _).isSome = true
        unfold World.cell?
        rw [c1]
        simp [Array.getElem?_eq_getElem (show k + 1 + j < (E.setIfInBounds k (.int .u32 x)).size by rw [Array.size_setIfInBounds, hEs]; omega)])
      (fun j hj => by show W1.frozen? _ = false; unfold World.frozen?; rw [c1]; simp) h1c
  obtain ⟨cur2, d1, d2, d3, d4⟩ := heap_setCells_same q 41 news W1.drew (k + 1) _ c1 (by rw [Array.size_setIfInBounds, hlen]; omega)
  have hbel2 : Below q w (W1.drew.setCells q (k + 1) news) := by
    refine Mod.below hbel1.drew (mod_setCells q news W1.drew (k + 1)) (Nat.le_of_lt (lt_of_block c1)) fun i _ hi => ?_
    exact Nat.le_of_eq hi.symm
  have HFin : Hid (InsPost w (.slice (some ⟨g, off, none⟩) cap cap) xs k x (.returned (.slice (some ⟨q, 0, none⟩) (cap + 1) gc)) (W1.drew.setCells q (k + 1) news)) := by
    have hL : (xs.take k ++ x :: xs.drop k).length = cap + 1 := by simp [hn]; omega
    have hT : (xs.take k).length = k := by rw [List.length_take]; omega
    refine Lib.hid ⟨_, rfl, ⟨by simp, .inr ⟨q, 0, gc, cur2, by rw [hL], d1, by rw [hL]; exact hge, hgm, by rw [d2, Array.size_setIfInBounds, hEs]; omega, fun t ht => ?_⟩⟩, ?_, fun b hb => ?_⟩
    · rw [hL] at ht
      rw [Nat.zero_add, List.getElem?_map]
      rcases Nat.lt_trichotomy t k with e | e | e
      · rw [d3 _ (by omega), Array.getElem?_setIfInBounds, if_neg (by omega), hEg t e, List.getElem?_map, List.getElem?_append_left (by omega), List.getElem?_take_of_lt e]
      · subst e
        rw [d3 _ (by omega), Array.getElem?_setIfInBounds, if_pos rfl, if_pos (by omega), List.getElem?_append_right (by omega), hT, Nat.sub_self]
        rfl
      · have := d4 (t - (k + 1)) (by rw [hlen]; omega)
        rw [show k + 1 + (t - (k + 1)) = t by omega] at this
        rw [this, hnews, List.getElem?_map, List.getElem?_append_right (by omega), hT, show t - k = (t - (k + 1)) + 1 by omega]
        rfl
    · subst hq
      exact Mod.of_below hbel2 _
    · injection hb with hb
      exact .inr (Nat.le_of_eq (hq.trans hb))
  have hz2 : ¬ ((k : Int) = cap) := by omega
  have mixed : Tryz.prog.follows .mixedOrders = true := by kernel_rfl
  have hw1 : IntKind.i64.wrap ((k : Int) + 1) = (k : Int) + 1 := by rw [IntKind.wrap_i64]; omega
  have hb1 : (0 : Int) ≤ (k : Int) + 1 := by omega
  have hin : k ≤ cap := by omega
  have htn : ((k : Int) + 1).toNat = k + 1 := by omega
  have hb2 : ¬ (gc = k + 1) := by omega
  have hb3 : (k : Int) ≤ (cap : Int) + 1 := by omega
  have hb4 : ¬ (gc = k) := by omega
  have hb5 : ¬ (cap = k) := by omega
  have hsub : (cap : Int) + 1 - k = ((cap + 1 - k : Nat) : Int) := by omega
  have hc63 : gc ≤ 9223372036854775807 := by unfold maxLen at hgm; omega
  generalize InsPost w (.slice (some ⟨g, off, none⟩) cap cap) xs k x = PQ at *
  clear hW0 hW1 c0 c1 d1 d2 d3 d4 hset hnews hlen hcell hold hc hg hn hsrc h1c hv hE hEs hEg hbel0 hbel1 hbel2 hq
  go_enter Tryz.func179, Tryz.ntmps179
  go_wp2_with (at_builtin; refine Lib.wpList_append_run _ rfl _ _ _ _ rfl _ _ rfl rfl _ _ (hrun _) ?_)
  go_region_law_o (refine step_copy_at rfl _ _ 57 57 rfl _ _ (by simp [Act.eval, Act.put]) (by simp [Act.eval, Act.put]) (hcp1 _ _ _) ?_)
  go_wp2
  exact HFin.out
theorem insert {w : World} {v : Value} {xs : List Int} (h : Lst w v xs) (x : Int) (k : Nat) (hk : k ≤ xs.length) (hs : xs.length ≤ 2000000) (vb : Nat) (hv : w.heap[vb]? = some (.cells #[.int .u32 x] 41 (0, 0))) (hvg : v.ownBlock ≠ some vb) :
    Calls Tryz.prog 179 #[v, .int .i64 k, .slice (some ⟨vb, 0, none⟩) 1 1] w (InsPost w v xs k x) := by
  by_cases e : k = xs.length
  · rw [e]
    exact insert_end h x hs vb hv
  · rcases h.2 with ⟨h0, a, rfl⟩ | ⟨g, off, cap, cur, rfl, hg, hnc, hcm, hcs, hc⟩
    · omega
    · by_cases hroom : xs.length + 1 ≤ cap
      · exact insert_shift hg hcm hcs hc x k (by omega) hroom hs vb hv fun e => hvg (by rw [e]; rfl)
      · exact insert_grow hg hcm hcs hc x k (by omega) hnc (by omega) hs vb hv
end Go.Proofs.YtdmoohiepnbdaaaGreat.Sl
namespace Go.Proofs.YtdmoohiepnbdaaaGreat
open Go.RowKit Word
set_option linter.unusedVariables false
set_option linter.unusedSimpArgs false
structure StpBox (w : World) (b : Nat) (k u y : Int) : Prop where
  blk : w.heap[b]? = some (.cells #[.int .u8 k, .int .u32 u, .int .i64 y] 193 (0, 0))
theorem StpBox.mod {F : Nat → Prop} {w w' : World} {b : Nat} {k u y : Int} (h : StpBox w b k u y) (hm : Mod F w w') (hF : ¬ F b) : StpBox w' b k u y := ⟨(hm.block _ (lt_of_block h.blk) hF).trans h.blk⟩
theorem StpBox.below {w w' : World} {b : Nat} {k u y : Int} (h : StpBox w b k u y) (hb : Below w.heap.size w w') : StpBox w' b k u y := ⟨(hb.block _ (lt_of_block h.blk)).trans h.blk⟩
theorem StpBox.cells {w : World} {b : Nat} {k u y : Int} (h : StpBox w b k u y) : w.cell? ⟨b, 0, none⟩ = some (.int .u8 k) ∧ w.cell? ⟨b, 1, none⟩ = some (.int .u32 u) ∧ w.cell? ⟨b, 2, none⟩ = some (.int .i64 y) ∧ w.frozen? ⟨b, 0, none⟩ = false ∧ w.frozen? ⟨b, 1, none⟩ = false ∧ w.frozen? ⟨b, 2, none⟩ = false := by
  unfold World.cell? World.frozen?
  rw [h.blk]
  exact ⟨rfl, rfl, rfl, rfl, rfl, rfl⟩
theorem StpBox.set {w : World} {b : Nat} {k u y : Int} (h : StpBox w b k u y) (k' u' y' : Int) : StpBox (((w.setCell ⟨b, 0, none⟩ (.int .u8 k')).setCell ⟨b, 1, none⟩ (.int .u32 u')).setCell ⟨b, 2, none⟩ (.int .i64 y')) b k' u' y' := ⟨Cp.set3_blk h.blk _ _ _⟩
theorem stp_mod (w : World) (b : Nat) (x y z : Value) : Mod (fun i => i = b) w (((w.setCell ⟨b, 0, none⟩ x).setCell ⟨b, 1, none⟩ y).setCell ⟨b, 2, none⟩ z) := Mod.setCell (F := fun i => i = b) (Mod.setCell (F := fun i => i = b) (Mod.setCell (F := fun i => i = b) (Mod.refl _ _) ⟨b, 0, none⟩ (.inl rfl) _) ⟨b, 1, none⟩ (.inl rfl) _) ⟨b, 2, none⟩ (.inl rfl) _
end Go.Proofs.YtdmoohiepnbdaaaGreat
namespace Go.Proofs.YtdmoohiepnbdaaaGreat
open Go.RowKit Word
set_option linter.unusedVariables false
set_option linter.unusedSimpArgs false
structure En where
  num : Int
  kind : Int
  code : Int
  why : Int
  text : ByteArray
  own : List Int
  A : List Pg
  r : List Int
  pc : Int
namespace En
def step (E : En) : En :=
  if E.kind ≠ 2 then E else
    let o := Cp.stp E.A E.r E.pc
    if o.kind = 2 then { E with A := o.A, r := o.r, pc := o.pc, kind := 4, code := 0, why := o.why } else { E with A := o.A, r := o.r, pc := o.pc }
def stop (E : En) : Int × Int × Int := if E.kind ≠ 2 then (0, 0, 0) else ((Cp.stp E.A E.r E.pc).kind, (Cp.stp E.A E.r E.pc).num, (Cp.stp E.A E.r E.pc).why)
def redE (E : En) : Int := if E.kind ≠ 2 then 3 else 0
def exit (E : En) (c : Int) : En := if E.kind ≠ 2 then E else { E with kind := 3, code := c, why := 0 }
def mayP (x : Int) : Bool := x % 256 == 0 && decide (256 ≤ x) && decide (x < 1048576)
def mayE (E : En) (x : Int) : Int := if E.kind ≠ 2 then 3 else if mayP x = false then 2 else 0
def ins (x : Int) : List Int → List Int
  | [] => [x]
  | y :: l => if x < y then x :: y :: l else y :: ins x l
def pageE (E : En) (x : Int) : Int := if E.mayE x ≠ 0 then E.mayE x else Sp.mapE E.A x 3
def page (E : En) (x : Int) (blk : Nat) : En := if E.pageE x ≠ 0 then E else { E with A := Sp.mapA E.A x blk 3, own := ins x E.own }
def dropE (E : En) (x : Int) : Int := if E.mayE x ≠ 0 then E.mayE x else if x ∈ E.own then Sp.unmapE E.A x else 3
def drop (E : En) (x : Int) : En := if E.mayE x ≠ 0 then E else if x ∈ E.own then { E with A := Sp.unmapA E.A x, own := E.own.filter (fun y => y != x) } else E
def putE (E : En) (s : ByteArray) : Int := if E.kind ≠ 2 then 3 else if 4096 < E.text.size + s.size then 4 else 0
def put (E : En) (s : ByteArray) : En := if E.putE s ≠ 0 then E else { E with text := E.text ++ s }
def arg (E : En) (n : Int) : Int := if 0 ≤ n ∧ n < 16 then Cp.rg E.r n else 0
structure Ok (E : En) : Prop where
  up : E.own.Pairwise (· < ·)
  may : ∀ x, x ∈ E.own → x % 256 = 0 ∧ 256 ≤ x ∧ x < 1048576
  has : ∀ x, x ∈ E.own → (atAddr E.A x).isSome = true
  text : E.text.size ≤ 4096
theorem len_up : ∀ (l : List Int) (lo hi : Int), l.Pairwise (· < ·) → (∀ x, x ∈ l → lo ≤ x ∧ x < hi) → lo ≤ hi → (l.length : Int) ≤ hi - lo
  | [], lo, hi, _, _, h => by simp; omega
  | y :: l, lo, hi, hp, hb, h => by
    have hy := hb y (List.mem_cons_self ..)
    have := len_up l (y + 1) hi (List.pairwise_cons.1 hp).2 (fun x hx => ⟨by have := (List.pairwise_cons.1 hp).1 x hx; omega, (hb x (List.mem_cons_of_mem _ hx)).2⟩) (by omega)
    simp only [List.length_cons, Int.natCast_add, Int.natCast_one]
    omega
theorem Ok.len {E : En} (h : E.Ok) : E.own.length ≤ 2000000 := by
  have := len_up E.own 0 1048576 h.up (fun x hx => ⟨by have := h.may x hx; omega, (h.may x hx).2.2⟩) (by omega)
  omega
theorem mem_ins {x y : Int} : ∀ {l : List Int}, y ∈ ins x l ↔ y = x ∨ y ∈ l
  | [] => by simp [ins]
  | z :: l => by
    unfold ins
    split
    · simp
    · simp [mem_ins (l := l)]
      constructor
      · rintro (h | h | h) <;> simp [h]
      · rintro (h | h | h) <;> simp [h]
theorem up_ins {x : Int} : ∀ {l : List Int}, l.Pairwise (· < ·) → x ∉ l → (ins x l).Pairwise (· < ·)
  | [], _, _ => List.pairwise_singleton _ _
  | z :: l, h, hx => by
    obtain ⟨h1, h2⟩ := List.pairwise_cons.1 h
    unfold ins
    split
    · rename_i g
      exact List.pairwise_cons.2 ⟨fun y hy => by
        rcases List.mem_cons.1 hy with rfl | hy
        · exact g
        · exact Int.lt_trans g (h1 y hy), h⟩
    · rename_i g
      refine List.pairwise_cons.2 ⟨fun y hy => ?_, up_ins h2 fun q => hx (List.mem_cons_of_mem _ q)⟩
      rcases mem_ins.1 hy with rfl | hy
      · have : y ≠ z := fun e => hx (e ▸ List.mem_cons_self ..)
        omega
      · exact h1 y hy
end En
structure EAt where
  eb : Nat
  sb : Nat
  mb : Nat
  cb : Nat
  lv : Value
def EAt.foot (a : EAt) (A : List Pg) (k : Nat) : Prop := k = a.eb ∨ k = a.cb ∨ Spc.foot a.sb a.mb A k ∨ a.lv.ownBlock = some k
def EAt.cells (a : EAt) (E : En) : Array Value := #[.pointer (some ⟨a.sb, 0, none⟩), a.lv, .pointer (some ⟨a.cb, 0, none⟩), .int .i64 E.num, .int .u8 E.kind, .int .u32 E.code, .int .i64 E.why, .string E.text]
structure Env (w : World) (a : EAt) (E : En) : Prop where
  blk : w.heap[a.eb]? = some (.cells (a.cells E) 277 (0, 0))
  cp : Cpu 281 w a.cb E.r E.pc
  sp : Spc w a.sb a.mb E.A
  ls : Sl.Lst w a.lv E.own
  ec : a.eb ≠ a.cb
  es : ¬ Spc.foot a.sb a.mb E.A a.eb
  cs : ¬ Spc.foot a.sb a.mb E.A a.cb
  le : ∀ g, a.lv.ownBlock = some g → g < w.heap.size ∧ g ≠ a.eb ∧ g ≠ a.cb ∧ ¬ Spc.foot a.sb a.mb E.A g
  ok : E.Ok
namespace Env
variable {w w' : World} {a : EAt} {E : En}
theorem lt (h : Env w a E) (k : Nat) (hk : a.foot E.A k) : k < w.heap.size := by
  rcases hk with rfl | rfl | g | g
  · exact lt_of_block h.blk
  · exact h.cp.lt
  · exact h.sp.lt g
  · exact (h.le k g).1
theorem frame (h : Env w a E) (hf : ∀ k, a.foot E.A k → w'.heap[k]? = w.heap[k]?) (hz : w.heap.size ≤ w'.heap.size) : Env w' a E :=
  { h with
    blk := (hf _ (.inl rfl)).trans h.blk
    cp := h.cp.frame (hf _ (.inr (.inl rfl)))
    sp := h.sp.frame fun k hk => hf k (.inr (.inr (.inl hk)))
    ls := h.ls.frame fun g hg => hf g (.inr (.inr (.inr hg)))
    le := fun g hg => ⟨Nat.lt_of_lt_of_le (h.le g hg).1 hz, (h.le g hg).2⟩ }
theorem below (h : Env w a E) (hb : Below w.heap.size w w') : Env w' a E := h.frame (fun k hk => hb.block k (h.lt k hk)) hb.size
theorem keep {F : Nat → Prop} (h : Env w a E) (hm : Mod F w w') (hF : ∀ k, a.foot E.A k → ¬ F k) : Env w' a E := h.frame (fun k hk => hm.block k (h.lt k hk) (hF k hk)) hm.size
theorem cell (h : Env w a E) (i : Nat) (v : Value) (hi : (a.cells E)[i]? = some v) : w.cell? ⟨a.eb, i, none⟩ = some v := by
  unfold World.cell?
  rw [h.blk]
  exact hi
theorem free (h : Env w a E) (i : Nat) : w.frozen? ⟨a.eb, i, none⟩ = false := by
  unfold World.frozen?
  rw [h.blk]
  simp
end Env
structure EStep (w w' : World) (a : EAt) (E : En) (a' : EAt) (E' : En) : Prop where
  env : Env w' a' E'
  same : a'.eb = a.eb ∧ a'.sb = a.sb ∧ a'.mb = a.mb ∧ a'.cb = a.cb
  mod : Mod (a.foot E.A) w w'
  foot : ∀ k, a'.foot E'.A k → a.foot E.A k ∨ w.heap.size ≤ k
namespace EStep
variable {w w' w'' : World} {a a' a'' : EAt} {E E' E'' : En}
theorem refl (h : Env w a E) : EStep w w a E a E := ⟨h, ⟨rfl, rfl, rfl, rfl⟩, Mod.refl _ _, fun _ g => .inl g⟩
theorem of_below (h : Env w a E) (hb : Below w.heap.size w w') : EStep w w' a E a E := ⟨h.below hb, ⟨rfl, rfl, rfl, rfl⟩, Mod.of_below hb _, fun _ g => .inl g⟩
theorem trans (h : EStep w w' a E a' E') (k : EStep w' w'' a' E' a'' E'') : EStep w w'' a E a'' E'' :=
  ⟨k.env, ⟨k.same.1.trans h.same.1, k.same.2.1.trans h.same.2.1, k.same.2.2.1.trans h.same.2.2.1, k.same.2.2.2.trans h.same.2.2.2⟩, h.mod.trans k.mod fun i _ g => h.foot i g, fun i g => by
    rcases k.foot i g with q | q
    · exact h.foot i q
    · exact .inr (Nat.le_trans h.mod.size q)⟩
theorem below (h : EStep w w' a E a' E') (hb : Below w'.heap.size w' w'') : EStep w w'' a E a' E' := h.trans (of_below h.env hb)
theorem pre {W : World} (h : EStep w w' a E a' E') (hb : Below W.heap.size W w) : EStep W w' a E a' E' :=
  ⟨h.env, h.same, (Mod.of_below hb _).trans h.mod fun i _ g => .inl g, fun i g => (h.foot i g).imp id fun q => Nat.le_trans hb.size q⟩
theorem turn {F : Nat → Prop} (h : EStep w w' a E a' E') (hm : Mod F w' w'') (hF : ∀ k, F k → ¬ a'.foot E'.A k ∧ w.heap.size ≤ k) : EStep w w'' a E a' E' :=
  ⟨h.env.keep hm fun k hk g => (hF k g).1 hk, h.same, h.mod.trans hm fun i _ g => .inr (hF i g).2, h.foot⟩
theorem setState (h : Env w a E) (k c y : Int) : EStep w (((w.setCell ⟨a.eb, 4, none⟩ (.int .u8 k)).setCell ⟨a.eb, 5, none⟩ (.int .u32 c)).setCell ⟨a.eb, 6, none⟩ (.int .i64 y)) a E a { E with kind := k, code := c, why := y } := by
  have hm : Mod (fun i => i = a.eb) w (((w.setCell ⟨a.eb, 4, none⟩ (.int .u8 k)).setCell ⟨a.eb, 5, none⟩ (.int .u32 c)).setCell ⟨a.eb, 6, none⟩ (.int .i64 y)) := Mod.setCell (F := fun i => i = a.eb) (Mod.setCell (F := fun i => i = a.eb) (Mod.setCell (F := fun i => i = a.eb) (Mod.refl _ _) ⟨a.eb, 4, none⟩ (.inl rfl) _) ⟨a.eb, 5, none⟩ (.inl rfl) _) ⟨a.eb, 6, none⟩ (.inl rfl) _
  have b1 := heap_setCell_same w a.eb 4 _ _ (.int .u8 k) h.blk
  have b2 := heap_setCell_same _ a.eb 5 _ _ (.int .u32 c) b1
  have b3 := heap_setCell_same _ a.eb 6 _ _ (.int .i64 y) b2
  refine ⟨{ blk := b3, cp := h.cp.keep hm (fun g => h.ec g.symm), sp := h.sp.keep hm (fun i hi g => h.es (g ▸ hi)), ls := h.ls.keep hm (fun g hg => (h.le g hg).1) (fun g hg e => (h.le g hg).2.1 e), ec := h.ec, es := h.es, cs := h.cs, le := fun g hg => ⟨Nat.lt_of_lt_of_le (h.le g hg).1 hm.size, (h.le g hg).2⟩, ok := ⟨h.ok.up, h.ok.may, h.ok.has, h.ok.text⟩ }, ⟨rfl, rfl, rfl, rfl⟩, hm.mono fun i _ g => .inl g, fun i g => .inl g⟩
theorem setText (h : Env w a E) (s : ByteArray) (hs : s.size ≤ 4096) : EStep w (w.setCell ⟨a.eb, 7, none⟩ (.string s)) a E a { E with text := s } := by
  have hm : Mod (fun i => i = a.eb) w (w.setCell ⟨a.eb, 7, none⟩ (.string s)) := Mod.setCell (F := fun i => i = a.eb) (Mod.refl _ _) ⟨a.eb, 7, none⟩ (.inl rfl) _
  have b1 := heap_setCell_same w a.eb 7 _ _ (.string s) h.blk
  refine ⟨{ blk := b1, cp := h.cp.keep hm (fun g => h.ec g.symm), sp := h.sp.keep hm (fun i hi g => h.es (g ▸ hi)), ls := h.ls.keep hm (fun g hg => (h.le g hg).1) (fun g hg e => (h.le g hg).2.1 e), ec := h.ec, es := h.es, cs := h.cs, le := fun g hg => ⟨Nat.lt_of_lt_of_le (h.le g hg).1 hm.size, (h.le g hg).2⟩, ok := ⟨h.ok.up, h.ok.may, h.ok.has, hs⟩ }, ⟨rfl, rfl, rfl, rfl⟩, hm.mono fun i _ g => .inl g, fun i g => .inl g⟩
theorem cpu {r : List Int} {pc : Int} {A : List Pg} (h : Env w a E) (hc : Cpu 281 w' a.cb r pc) (hs : Spc w' a.sb a.mb A) (hk : Cp.blks A = Cp.blks E.A) (ha : A.map Pg.addr = E.A.map Pg.addr) (hm : Mod (fun k => k = a.cb ∨ Sp.pgBlk E.A k) w w') : EStep w w' a E a { E with A := A, r := r, pc := pc } := by
  have hf : ∀ {i}, Spc.foot a.sb a.mb A i ↔ Spc.foot a.sb a.mb E.A i := Cp.foot_iff hk
  have hsome : ∀ x, (atAddr A x).isSome = (atAddr E.A x).isSome := fun x => by
    have e : ∀ B : List Pg, (atAddr B x).isSome = true ↔ x ∈ B.map Pg.addr := fun B => by
      rw [List.mem_map]
      constructor
      · intro g
        obtain ⟨p, hp⟩ := Option.isSome_iff_exists.1 g
        exact ⟨p, (atAddr_mem hp).1, (atAddr_mem hp).2⟩
      · rintro ⟨p, hp, rfl⟩
        cases hq : atAddr B p.addr with
        | some _ => rfl
        | none => exact absurd rfl (atAddr_none hq p hp)
    rw [Bool.eq_iff_iff, e, e, ha]
  refine ⟨{ blk := (hm.block _ (lt_of_block h.blk) ?_).trans h.blk, cp := hc, sp := hs, ls := h.ls.keep hm (fun g hg => (h.le g hg).1) ?_, ec := h.ec, es := fun g => h.es (hf.1 g), cs := fun g => h.cs (hf.1 g), le := fun g hg => ⟨Nat.lt_of_lt_of_le (h.le g hg).1 hm.size, (h.le g hg).2.1, (h.le g hg).2.2.1, fun q => (h.le g hg).2.2.2 (hf.1 q)⟩, ok := ⟨h.ok.up, h.ok.may, fun x hx => (hsome x).trans (h.ok.has x hx), h.ok.text⟩ }, ⟨rfl, rfl, rfl, rfl⟩, hm.mono fun i _ g => ?_, fun i g => .inl ?_⟩
  · rintro (g | g)
    · exact h.ec g
    · exact h.es (.inr (.inr g))
  · rintro g hg (q | q)
    · exact (h.le g hg).2.2.1 q
    · exact (h.le g hg).2.2.2 (.inr (.inr q))
  · exact g.elim (fun q => .inr (.inl q)) fun q => .inr (.inr (.inl (.inr (.inr q))))
  · rcases g with q | q | q | q
    · exact .inl q
    · exact .inr (.inl q)
    · exact .inr (.inr (.inl (hf.1 q)))
    · exact .inr (.inr (.inr q))
theorem regs {r : List Int} (h : Env w a E) (hc : Cpu 281 w' a.cb r E.pc) (hm : Mod (fun k => k = a.cb) w w') : EStep w w' a E a { E with r := r } :=
  cpu (A := E.A) (pc := E.pc) h hc (h.sp.keep hm fun k hk g => h.cs (g ▸ hk)) rfl rfl (hm.mono fun _ _ g => .inl g)
theorem space {A : List Pg} (h : Env w a E) (s : SStep w w' a.sb a.mb E.A A) (hs : ∀ x, x ∈ E.own → (atAddr A x).isSome = true) : EStep w w' a E a { E with A := A } := by
  have hn : ∀ k, k < w.heap.size → ¬ Spc.foot a.sb a.mb E.A k → ¬ Spc.foot a.sb a.mb A k := fun k hk g q => (s.foot k q).elim g fun z => by omega
  refine ⟨{ blk := (s.mod.block _ (lt_of_block h.blk) h.es).trans h.blk, cp := h.cp.keep s.mod h.cs, sp := s.sp, ls := h.ls.keep s.mod (fun g hg => (h.le g hg).1) (fun g hg => (h.le g hg).2.2.2), ec := h.ec, es := hn _ (lt_of_block h.blk) h.es, cs := hn _ h.cp.lt h.cs, le := fun g hg => ⟨Nat.lt_of_lt_of_le (h.le g hg).1 s.mod.size, (h.le g hg).2.1, (h.le g hg).2.2.1, hn _ (h.le g hg).1 (h.le g hg).2.2.2⟩, ok := ⟨h.ok.up, h.ok.may, hs, h.ok.text⟩ }, ⟨rfl, rfl, rfl, rfl⟩, s.mod.mono fun i _ g => .inr (.inr (.inl g)), fun i g => ?_⟩
  rcases g with q | q | q | q
  · exact .inl (.inl q)
  · exact .inl (.inr (.inl q))
  · exact (s.foot i q).imp (fun z => .inr (.inr (.inl z))) id
  · exact .inl (.inr (.inr (.inr q)))
end EStep
end Go.Proofs.YtdmoohiepnbdaaaGreat
namespace Go.Proofs.YtdmoohiepnbdaaaGreat
open Go.RowKit Word
set_option linter.unusedVariables false
set_option linter.unusedSimpArgs false
namespace Ev
section
variable {w : World} {a : EAt} {E : En}
theorem cells (h : Env w a E) : w.cell? ⟨a.eb, 0, none⟩ = some (.pointer (some ⟨a.sb, 0, none⟩)) ∧ w.cell? ⟨a.eb, 1, none⟩ = some a.lv ∧ w.cell? ⟨a.eb, 2, none⟩ = some (.pointer (some ⟨a.cb, 0, none⟩)) ∧ w.cell? ⟨a.eb, 3, none⟩ = some (.int .i64 E.num) ∧ w.cell? ⟨a.eb, 4, none⟩ = some (.int .u8 E.kind) ∧ w.cell? ⟨a.eb, 5, none⟩ = some (.int .u32 E.code) ∧ w.cell? ⟨a.eb, 6, none⟩ = some (.int .i64 E.why) ∧ w.cell? ⟨a.eb, 7, none⟩ = some (.string E.text) :=
  ⟨h.cell 0 _ rfl, h.cell 1 _ rfl, h.cell 2 _ rfl, h.cell 3 _ rfl, h.cell 4 _ rfl, h.cell 5 _ rfl, h.cell 6 _ rfl, h.cell 7 _ rfl⟩
theorem ready (h : Env w a E) : Calls Tryz.prog 180 #[.pointer (some ⟨a.eb, 0, none⟩)] w fun e w' => e = .returned (.int .i64 E.redE) ∧ w = w' := by
  obtain ⟨_, _, _, _, c4, _, _, _⟩ := cells h
  clear h
  by_cases hk : E.kind = 2
  · have e : E.redE = 0 := by unfold En.redE; rw [if_neg (by omega)]
    rw [e]
    rw [hk] at c4
    clear e
    go_enter Tryz.func180, Tryz.ntmps180
    go_wp2
    go_ret
    exact ⟨rfl, rfl⟩
  · have e : E.redE = 3 := by unfold En.redE; rw [if_pos hk]
    rw [e]
    have hb : (E.kind != 2) = true := bne_iff_ne.2 hk
    go_enter Tryz.func180, Tryz.ntmps180
    go_wp2
    go_ret
    exact ⟨rfl, rfl⟩
theorem num (h : Env w a E) : Calls Tryz.prog 72 #[.pointer (some ⟨a.eb, 0, none⟩)] w fun e w' => e = .returned (.int .i64 E.num) ∧ w = w' := by
  obtain ⟨_, _, _, c3, _, _, _, _⟩ := cells h
  clear h
  go_enter Tryz.func72, Tryz.ntmps72
  go_wp2
  go_ret
  exact ⟨rfl, rfl⟩
theorem space (h : Env w a E) : Calls Tryz.prog 86 #[.pointer (some ⟨a.eb, 0, none⟩)] w fun e w' => e = .returned (.pointer (some ⟨a.sb, 0, none⟩)) ∧ w = w' := by
  obtain ⟨c0, _⟩ := cells h
  clear h
  go_enter Tryz.func86, Tryz.ntmps86
  go_wp2
  go_ret
  exact ⟨rfl, rfl⟩
theorem cpu (h : Env w a E) : Calls Tryz.prog 69 #[.pointer (some ⟨a.eb, 0, none⟩)] w fun e w' => e = .returned (.pointer (some ⟨a.cb, 0, none⟩)) ∧ w = w' := by
  obtain ⟨_, _, c2, _⟩ := cells h
  clear h
  go_enter Tryz.func69, Tryz.ntmps69
  go_wp2
  go_ret
  exact ⟨rfl, rfl⟩
theorem state (h : Env w a E) : Calls Tryz.prog 83 #[.pointer (some ⟨a.eb, 0, none⟩)] w fun e w' => e = .returned (.agg #[.int .u8 E.kind, .int .u32 E.code, .int .i64 E.why]) ∧ Below w.heap.size w w' := by
  have hb : Below w.heap.size w (w.alloc (.cells #[.int .u8 0, .int .u32 0, .int .i64 0] 95)) := (Below.refl _ _).alloc (Nat.le_refl _) _
  obtain ⟨_, _, _, _, c4, c5, c6, _⟩ := cells (h.below hb)
  have HF : Hid (Below w.heap.size w (w.alloc (.cells #[.int .u8 E.kind, .int .u32 E.code, .int .i64 E.why] 95))) := Lib.hid ((Below.refl _ _).alloc (Nat.le_refl _) _)
  clear h hb
  go_enter Tryz.func83, Tryz.ntmps83
  go_wp2
  refine bodyPost_ret (v := .agg #[.int .u8 E.kind, .int .u32 E.code, .int .i64 E.why]) (by simp [results, Tryz.results83, go_sem, *]) rfl ?_
  exact ⟨rfl, HF.out⟩
theorem exit (h : Env w a E) (c : Int) : Calls Tryz.prog 182 #[.pointer (some ⟨a.eb, 0, none⟩), .int .u32 c] w fun e w' => e = .returned (.int .i64 E.redE) ∧ EStep w w' a E a (E.exit c) := by
  have HR := Lib.hid (ready h)
  by_cases hk : E.kind = 2
  · have e : E.redE = 0 := by unfold En.redE; rw [if_neg (by omega)]
    have e2 : E.exit c = { E with kind := 3, code := c, why := 0 } := by unfold En.exit; rw [if_neg (by omega)]
    have HS := Lib.hid (EStep.setState h 3 c 0)
    obtain ⟨_, _, _, _, c4, c5, c6, _⟩ := cells h
    have f4 := h.free 4
    have f5 := h.free 5
    have f6 := h.free 6
    rw [e] at HR ⊢
    rw [e2]
    clear e e2 hk h
    go_enter Tryz.func182, Tryz.ntmps182
    go_wp2_with fail
    refine HR.out.mono ?_
    rintro e w2 ⟨rfl, rfl⟩
    go_wp2
    go_ret
    exact ⟨rfl, HS.out⟩
  · have e : E.redE = 3 := by unfold En.redE; rw [if_pos hk]
    have e2 : E.exit c = E := by unfold En.exit; rw [if_pos hk]
    have HS := Lib.hid (EStep.refl h)
    rw [e] at HR ⊢
    rw [e2]
    clear e e2 hk h
    go_enter Tryz.func182, Tryz.ntmps182
    go_wp2_with fail
    refine HR.out.mono ?_
    rintro e w2 ⟨rfl, rfl⟩
    go_wp2
    go_ret
    exact ⟨rfl, HS.out⟩
end
end Ev
end Go.Proofs.YtdmoohiepnbdaaaGreat
