/- Same, copied, heavy: at scripts. -/
import Derived.Test.YtohlgcdailconaaGreatDoorScrD
import Derived.Maps.AppendAt
import Derived.Deep.QuietTactic
import Derived.BigQuiet
namespace Go.Proofs.YtohlgcdailconaaGreatDoor.Scr
open Go.RowKit Lib
set_option linter.unusedVariables false
set_option linter.unusedSimpArgs false
theorem flat_inv {k : Nat} (hk0 : 0 < k) : ∀ (rows : List (List Value)), (∀ r, r ∈ rows → r.length = k) → ∀ (j : Nat) (v : Value), rows.flatten[j]? = some v → ∃ i r m, rows[i]? = some r ∧ r[m]? = some v ∧ j = i * k + m
  | [], _, j, v, h => by simp at h
  | x :: xs, hk, j, v, h => by
    have hx := hk x (by simp)
    rw [List.flatten_cons] at h
    by_cases hj : j < k
    · rw [List.getElem?_append_left (by omega)] at h
      exact ⟨0, x, j, rfl, h, by omega⟩
    · rw [List.getElem?_append_right (by omega), hx] at h
      obtain ⟨i, r, m, h1, h2, h3⟩ := flat_inv hk0 xs (fun r hr => hk r (by simp [hr])) (j - k) v h
      exact ⟨i + 1, r, m, by simpa using h1, h2, by rw [Nat.add_mul]; omega⟩
section
variable {P : Program} (w : World)
theorem run_app0 (t ty : TypeId) (e : TypeId) (i : TypeInfo) (ht : P.underlying t = some (.slice e)) (hi : P.info? e = some i) (a : Option Addr) (c : Nat) :
    (Builtin.append_ #[t, t] ty #[.slice none 0 0, .slice a 0 c]).run P w = .ok (.slice none 0 0) w := by
  cases a <;> simp [Builtin.append_, run_underlying ht, sizeOf, typeInfo, hi, Builtin.lenOf, Builtin.firstCells, loadCells, loadCellsFrom]
/-- append to nothing, of a row that came in. -/
theorem wpList_app_rd {ops : Array Oper} {rest : List Oper} {o : Oper} {a : Act} {Q : Exit → Act → World → Prop} (hgd : o.guard = none) (s x : Operand) (t : TypeId)
    (ho : o.op = .call { callee := .builtin .append, args := #[s, x], argTypes := #[t, t] })
    (e : TypeId) (i : TypeInfo) (z : Value) (size bytes : Nat) (ht : P.underlying t = some (.slice e)) (hi : P.info? e = some i) (hz : i.zero = some z)
    (hsize : i.size = size) (hby : i.bytes = bytes) (hzs : z.cells.size = size) (hsz : 0 < size)
    (hs : a.eval s = .slice none 0 0) (ad : Option Addr) (c : Nat) (rows : List (List Value)) (hx : a.eval x = .slice ad rows.length c) (hk : ∀ r, r ∈ rows → r.length = size) (hr : Rd w ad size rows) (h1 : ∀ r, r ∈ rows → ∀ u, u ∈ r → u.oneCell' = true)
    (h63 : rows.length ≤ maxLen) (hbytes : rows.length * bytes ≤ 140737488355328)
    (h : ∀ a' cap' w', Rd w' a' size rows → (∀ g o t, a' = some ⟨g, o, t⟩ → w.heap.size ≤ g) → Below w.heap.size w w' → wpList P ops Q rest (a.put o.dst (.slice a' rows.length cap')) w') : wpList P ops Q (o :: rest) a w := by
  cases rows with
  | nil =>
    refine wpList_plain hgd fun K hK => ?_
    have hr0 := run_app0 (P := P) w t o.type e i ht hi ad c
    unfold Oper.wp execOp
    simp only [ho, resolve, invoke, builtin, Sem.run_bind, Sem.run_pure, Result.andThen_ok, List.map_toArray, List.map_cons, List.map_nil, hs, hx, List.length_nil, hr0]
    exact hK _ _ (h none 0 w (Rd.nil _ _ _) (fun _ _ _ e => by cases e) (Below.refl _ _))
  | cons r0 rs =>
    obtain ⟨g, off, rfl, _, _⟩ := hr 0 r0 rfl
    refine wpList_append_own_at w hgd s x t ho w.heap.size e i z size bytes ht hi hz hsize hby hzs hsz (.slice none 0 0) 0 [] hs (World.ownsRow_nil _ _ _ _) ⟨g, off, none⟩ (r0 :: rs).length c (r0 :: rs).flatten hx (flat_len _ hk) ?_ ?_ (by omega) (by rw [Nat.zero_add]; exact hbytes) (Nat.le_refl _) fun v' w' hown hgro _ _ => ?_
    · intro j u hj
      obtain ⟨i, r, m, q1, q2, rfl⟩ := flat_inv hsz _ hk j u hj
      obtain ⟨g', off', e', _, hc⟩ := hr i r q1
      cases e'
      have := hc m u q2
      rw [Addr.add_lit, ← Nat.add_assoc]
      exact this
    · intro u hu
      obtain ⟨r, q1, q2⟩ := List.mem_flatten.1 hu
      exact h1 r q1 u q2
    · rw [Nat.zero_add, List.nil_append] at hown
      obtain ⟨a', c', rfl, hrd⟩ := own_Rd hk rfl hown
      refine h a' c' w' hrd (fun g o t e => ?_) ⟨hgro.os, hgro.tape, hgro.output, hgro.size, fun k hk => hgro.block k hk (by simp [Value.ownBlock])⟩
      subst e
      rcases hown.2 with ⟨e, _⟩ | ⟨g', cap, cur, e, hb, _⟩
      · cases e
      · simp only [Value.slice.injEq, Option.some.injEq, Addr.mk.injEq] at e
        omega
end
def saRel (W : World) (n : Nat) (vi : Value) (wr : World) : Prop := ∃ i : Nat, i ≤ n ∧ vi = .int .i64 i ∧ Below W.heap.size W wr
set_option maxRecDepth 100000 in
set_option maxHeartbeats 4000000 in
theorem same {w : World} {p q : SA} {s : Sc} (hp : ScR w p s) (hq : ScR w q s) (he : s.exts.length ≤ 2000000) (hi : s.imgs.length ≤ 2000000) (ha : s.acts.length ≤ 2000000) :
    Calls Tryz.prog 14 #[.agg (p.cells s), .agg (q.cells s)] w fun e w' => e = .returned (.bool true) ∧ Below w.heap.size w w' := by
  have HP := Lib.hid hp
  have HQ := Lib.hid hq
  have hB := ((Below.refl w.heap.size w).alloc (Nat.le_refl _) (.cells (p.cells s) 29)).alloc (by simp) (.cells (q.cells s) 29)
  have h0 := (Below.heap_alloc (w.alloc (.cells (p.cells s) 29)) (.cells (q.cells s) 29) _ (by simp)).trans (heap_alloc_new w (.cells (p.cells s) 29))
  have h1 := heap_alloc_new (w.alloc (.cells (p.cells s) 29)) (.cells (q.cells s) 29)
  have hsz : (w.alloc (.cells (p.cells s) 29)).heap.size = w.heap.size + 1 := by simp
  rw [hsz] at h1
  have HB := Lib.hid hB
  clear hB hp hq hsz
  have HC : Hid (∀ V, Below ((w.alloc (.cells (p.cells s) 29)).alloc (.cells (q.cells s) 29)).heap.size ((w.alloc (.cells (p.cells s) 29)).alloc (.cells (q.cells s) 29)) V → V.heap[w.heap.size]? = some (wrBlk p s) ∧ V.heap[w.heap.size + 1]? = some (wrBlk q s)) := Lib.hid fun V hV => ⟨(hV.block _ (by simp; omega)).trans h0, (hV.block _ (by simp)).trans h1⟩
  clear h0 h1
  go_enter Tryz.func14, Tryz.ntmps14
  obtain ⟨e0, e1⟩ := HC.out _ (Below.refl _ _)
  obtain ⟨c0, c1, c2, c3, c4⟩ := blk5 e0
  obtain ⟨d0, d1, d2, d3, d4⟩ := blk5 e1
  clear e0 e1
  unfold str at c2 d2
  generalize p.cells s = PC at *
  generalize q.cells s = QC at *
  go_wp2_with fail
  have hb2 : w.heap.size ≤ ((w.alloc (.cells PC 29)).alloc (.cells QC 29)).heap.size := by simp; omega
  have HA := Lib.hid fun V (hV : Below ((w.alloc (.cells PC 29)).alloc (.cells QC 29)).heap.size ((w.alloc (.cells PC 29)).alloc (.cells QC 29)) V) => HB.out.trans (hV.mono hb2)
  clear hb2 HB c0 c1 c2 c3 c4 d0 d1 d2 d3 d4
  generalize (w.alloc (.cells PC 29)).alloc (.cells QC 29) = w2 at *
  go_loopw [5] (fun vi wr => saRel w2 s.exts.length vi wr) (fun vi _ => s.exts.length - (RowKit.intOf vi).toNat)
  case atStart => exact ⟨0, by omega, rfl, Below.refl _ _⟩
  case round =>
    obtain ⟨i, hi, rfl, hbw⟩ := hrel
    have HBw := Lib.hid hbw
    obtain ⟨e0, e1⟩ := HC.out _ hbw
    obtain ⟨c0, c1, c2, c3, c4⟩ := blk5 e0
    obtain ⟨d0, d1, d2, d3, d4⟩ := blk5 e1
    have hz0 := lt_of_block e0
    have hz1 := lt_of_block e1
    unfold str at c2 d2
    by_cases hin : i < s.exts.length
    · obtain ⟨g, o, hg, hc⟩ := (HP.out.exts.below (HA.out _ hbw)).at hin
      obtain ⟨g', o', hg', hc'⟩ := (HQ.out.exts.below (HA.out _ hbw)).at hin
      rw [hg] at c1
      rw [hg'] at d1
      clear e0 e1 hbw hg hg'
      generalize s.exts[i] = x at *
      go_wp2
      go_quiet (fail)
      go_wp2
      exact ⟨⟨i + 1, by omega, by go_num, below_drewN HBw.out _⟩, by simp [RowKit.intOf]; omega⟩
    · have hin' : ¬ (i : Int) < s.exts.length := by omega
      clear e0 e1 hbw
      go_wp2_with fail
      clear c0 c1 c2 c3 c4 d0 d1 d2 d3 d4 hz0 hz1
      go_loopw [6] (fun vi wr => saRel w2 s.imgs.length vi wr) (fun vi _ => s.imgs.length - (RowKit.intOf vi).toNat)
      case atStart => exact ⟨0, by omega, rfl, HBw.out⟩
      case round =>
        clear HBw
        obtain ⟨i, hi, rfl, hbw⟩ := hrel
        have HBw := Lib.hid hbw
        obtain ⟨e0, e1⟩ := HC.out _ hbw
        obtain ⟨c0, c1, c2, c3, c4⟩ := blk5 e0
        obtain ⟨d0, d1, d2, d3, d4⟩ := blk5 e1
        have hz0 := lt_of_block e0
        have hz1 := lt_of_block e1
        unfold str at c2 d2
        by_cases hin : i < s.imgs.length
        · have HX : Hid (s.imgs[i]? = some s.imgs[i]) := Lib.hid (List.getElem?_eq_getElem hin)
          obtain ⟨g, o, hg, hc⟩ := (HP.out.imgs.below (HA.out _ hbw)).at HX.out
          obtain ⟨g', o', hg', hc'⟩ := (HQ.out.imgs.below (HA.out _ hbw)).at HX.out
          unfold str at hc hc'
          rw [hg] at c3
          rw [hg'] at d3
          clear e0 e1 hbw hg hg'
          generalize s.imgs[i] = x at *
          go_wp2
          go_quiet (fail)
          go_wp2
          exact ⟨⟨i + 1, by omega, by go_num, below_drewN HBw.out _⟩, by simp [RowKit.intOf]; omega⟩
        · have hin' : ¬ (i : Int) < s.imgs.length := by omega
          clear e0 e1 hbw
          go_wp2_with fail
          clear c0 c1 c2 c3 c4 d0 d1 d2 d3 d4 hz0 hz1
          go_loopw [7] (fun vi wr => saRel w2 s.acts.length vi wr) (fun vi _ => s.acts.length - (RowKit.intOf vi).toNat)
          case atStart => exact ⟨0, by omega, rfl, HBw.out⟩
          case round =>
            clear HBw
            obtain ⟨i, hi, rfl, hbw⟩ := hrel
            have HBw := Lib.hid hbw
            obtain ⟨e0, e1⟩ := HC.out _ hbw
            obtain ⟨c0, c1, c2, c3, c4⟩ := blk5 e0
            obtain ⟨d0, d1, d2, d3, d4⟩ := blk5 e1
            have hz0 := lt_of_block e0
            have hz1 := lt_of_block e1
            unfold str at c2 d2
            by_cases hin : i < s.acts.length
            · have HX : Hid (s.acts[i]? = some s.acts[i]) := Lib.hid (List.getElem?_eq_getElem hin)
              obtain ⟨g, o, hg, hc, hc1, hc2, hc3⟩ := (HP.out.acts.below (HA.out _ hbw)).at HX.out
              obtain ⟨g', o', hg', hc', hc1', hc2', hc3'⟩ := (HQ.out.acts.below (HA.out _ hbw)).at HX.out
              rw [hg] at c4
              rw [hg'] at d4
              clear e0 e1 hbw hg hg'
              generalize s.acts[i] = x at *
              go_wp2
              go_quiet (fail)
              go_wp2
              exact ⟨⟨i + 1, by omega, by go_num, below_drewN HBw.out _⟩, by simp [RowKit.intOf]; omega⟩
            · have hin' : ¬ (i : Int) < s.acts.length := by omega
              clear e0 e1 hbw
              go_wp2
              go_ret
              exact ⟨rfl, HA.out _ HBw.out⟩
theorem info_u32s : (Tryz.prog.info? 22).map (fun i => (i.zero, i.size, i.bytes)) = some (some (.int .u32 0), 1, 4) := by kernel_rfl
theorem info_strs : (Tryz.prog.info? 9).map (fun i => (i.zero, i.size, i.bytes)) = some (some (.string ByteArray.empty), 1, 16) := by kernel_rfl
def CopyP (w : World) (s : Sc) (e : Ending) (w' : World) : Prop := Below w.heap.size w w' ∧ ∃ q : SA, ScR w' q s ∧ e = .returned (.agg (q.cells s))
theorem free_all {w : World} {b : Nat} {cs : Array Value} {T : TypeId} (h : w.heap[b]? = some (.cells cs T (0, 0))) : ∀ i, w.frozen? ⟨b, i, none⟩ = false := fun i => by unfold World.frozen?; rw [h]; simp
theorem Rd.off {w : World} {a : Option Addr} {k B b : Nat} {rows : List (List Value)} (h : Rd w a k rows) (hf : ∀ g o t, a = some ⟨g, o, t⟩ → B ≤ g) (hb : b < B) (j : Nat) (v : Value) : Rd (w.setCell ⟨b, j, none⟩ v) a k rows :=
  h.keep (by simp [World.setCell]) fun g o e hg => Below.heap_setCell _ _ _ _ (by simp only; have := hf g o _ e; omega)
/-- The parameter's own block, and the result's, while the rows are copied. -/
structure Cpy (w V : World) (q : SA) (s : Sc) : Prop where
  box : V.heap[w.heap.size]? = some (wrBlk q s)
  res : V.heap[w.heap.size + 1]? = some (scBlk zeroA zeroS)
  bel : Below w.heap.size w V
theorem Cpy.step {w V V' : World} {q q' : SA} {s : Sc} (h : Cpy w V q s) (hb : Below V.heap.size V V') (j : Nat) (v : Value) (hq : (q.cells s).setIfInBounds j v = q'.cells s) : Cpy w (V'.setCell ⟨w.heap.size, j, none⟩ v) q' s :=
  ⟨by rw [heap_setCell_same _ _ _ _ _ v ((hb.block _ (lt_of_block h.box)).trans h.box), hq]; rfl, (Below.heap_setCell _ _ _ _ (by simp only; omega)).trans ((hb.block _ (lt_of_block h.res)).trans h.res), (below_th h.bel hb).setCell (Nat.le_refl _) _⟩
set_option maxRecDepth 100000 in
set_option maxHeartbeats 4000000 in
theorem copied {w : World} {p : SA} {s : Sc} (hp : ScR w p s) (he : s.exts.length ≤ 2000000) (hi : s.imgs.length ≤ 2000000) (ha : s.acts.length ≤ 2000000) :
    Calls Tryz.prog 7 #[.agg (p.cells s)] w (CopyP w s) := by
  have HFin := Lib.hid fun V (q : SA) (hb : Below w.heap.size w V) (hq : ScR V q s) => (show CopyP w s (.returned (.agg (q.cells s))) V from ⟨hb, q, hq, rfl⟩)
  generalize CopyP w s = PQ at *
  have HP := Lib.hid hp
  obtain ⟨i0, hi1, hz0, hz1, hz2⟩ := info_parts info_u32s
  obtain ⟨i3, hi4, hz3, hz4, hz5⟩ := info_parts info_strs
  obtain ⟨i6, hi7, hz6, hz7, hz8⟩ := info_parts info_act
  have Hi1 := Lib.hid hi1
  have Hz0 := Lib.hid hz0
  have Hz1 := Lib.hid hz1
  have Hz2 := Lib.hid hz2
  have Hi4 := Lib.hid hi4
  have Hz3 := Lib.hid hz3
  have Hz4 := Lib.hid hz4
  have Hz5 := Lib.hid hz5
  have Hi7 := Lib.hid hi7
  have Hz6 := Lib.hid hz6
  have Hz7 := Lib.hid hz7
  have Hz8 := Lib.hid hz8
  clear hp hi1 hz0 hz1 hz2 hi4 hz3 hz4 hz5 hi7 hz6 hz7 hz8
  have hx : p.cells s = #[.int .u32 s.pages, .slice p.ea s.exts.length p.ec, str s.key, .slice p.ia s.imgs.length p.ic, .slice p.aa s.acts.length p.ac] := rfl
  rw [hx]
  clear hx
  unfold str
  have HC1 : Hid (Cpy w ((w.alloc (.cells #[.int .u32 s.pages, .slice p.ea s.exts.length p.ec, .string ⟨s.key.toArray⟩, .slice p.ia s.imgs.length p.ic, .slice p.aa s.acts.length p.ac] 29)).alloc (.cells #[.int .u32 0, .slice none 0 0, .string ⟨#[]⟩, .slice none 0 0, .slice none 0 0] 29)) p s) := Lib.hid ⟨(Below.heap_alloc _ _ _ (by simp)).trans (heap_alloc_new w _), by
    have := heap_alloc_new (w.alloc (.cells #[.int .u32 s.pages, .slice p.ea s.exts.length p.ec, .string ⟨s.key.toArray⟩, .slice p.ia s.imgs.length p.ic, .slice p.aa s.acts.length p.ac] 29)) (.cells #[.int .u32 0, .slice none 0 0, .string ⟨#[]⟩, .slice none 0 0, .slice none 0 0] 29)
    simpa [scBlk, zeroA, zeroS, SA.cells, str] using this, ((Below.refl _ _).alloc (Nat.le_refl _) _).alloc (by simp) _⟩
  go_enter Tryz.func7, Tryz.ntmps7
  go_wp2_with (first
    | (at_builtin; refine wpList_app_rd _ rfl _ _ 23 rfl 22 i0 (.int .u32 0) 1 4 Tryz.underlying23 Hi1.out Hz0.out Hz1.out Hz2.out rfl (by decide) rfl p.ea p.ec (s.exts.map fun x => [Value.int .u32 x]) (by rw [List.length_map]; rfl) (by intro r hr; obtain ⟨x, _, rfl⟩ := List.mem_map.1 hr; rfl) (HP.out.exts.below HC1.out.bel) (by intro r hr; obtain ⟨x, _, rfl⟩ := List.mem_map.1 hr; intro u hu; simp at hu; subst hu; rfl) (by simp; unfold maxLen; omega) (by simp; omega) ?_; rw [List.length_map]; intro a1 n1 w2 hr hf hb;
        have HC2 : Hid (Cpy w (w2.setCell ⟨w.heap.size, 1, none⟩ (.slice a1 s.exts.length n1)) { p with ea := a1, ec := n1 } s) := Lib.hid (HC1.out.step hb 1 _ rfl);
        have HF1 : Hid (∀ g o t, a1 = some ⟨g, o, t⟩ → w.heap.size + 2 ≤ g) := Lib.hid (fun g o t e => by have := hf g o t e; simp at this; omega);
        have HR1 := Lib.hid (Rd.off hr HF1.out (b := w.heap.size) (by omega) 1 (.slice a1 s.exts.length n1));
        have hx := (hb.block _ (lt_of_block HC1.out.box)).trans HC1.out.box;
        obtain ⟨c0, c1, c2, c3, c4⟩ := blk5 hx;
        unfold str at c2;
        have cf := free_all hx;
        clear hr hb hf hx)
    | (at_builtin; refine wpList_app_rd _ rfl _ _ 26 rfl 9 i3 (.string ByteArray.empty) 1 16 Tryz.underlying26 Hi4.out Hz3.out Hz4.out Hz5.out rfl (by decide) rfl p.ia p.ic (s.imgs.map fun x => [str x]) (by rw [List.length_map]; rfl) (by intro r hr; obtain ⟨x, _, rfl⟩ := List.mem_map.1 hr; rfl) (HP.out.imgs.below HC2.out.bel) (by intro r hr; obtain ⟨x, _, rfl⟩ := List.mem_map.1 hr; intro u hu; simp at hu; subst hu; rfl) (by simp; unfold maxLen; omega) (by simp; omega) ?_; rw [List.length_map]; intro a2 n2 w3 hr hf hb;
        have HC3 : Hid (Cpy w (w3.setCell ⟨w.heap.size, 3, none⟩ (.slice a2 s.imgs.length n2)) { p with ea := a1, ec := n1, ia := a2, ic := n2 } s) := Lib.hid (HC2.out.step hb 3 _ rfl);
        have HF2 : Hid (∀ g o t, a2 = some ⟨g, o, t⟩ → w.heap.size + 2 ≤ g) := Lib.hid (fun g o t e => by have := hf g o t e; have := lt_of_block HC2.out.res; omega);
        have HR2 := Lib.hid (Rd.off hr HF2.out (b := w.heap.size) (by omega) 3 (.slice a2 s.imgs.length n2));
        have HR12 := Lib.hid (Rd.off (HR1.out.below hb) HF1.out (b := w.heap.size) (by omega) 3 (.slice a2 s.imgs.length n2));
        have hx := (hb.block _ (lt_of_block HC2.out.box)).trans HC2.out.box;
        clear c0 c1 c2 c3 c4 cf;
        obtain ⟨c0, c1, c2, c3, c4⟩ := blk5 hx;
        unfold str at c2;
        have cf := free_all hx;
        clear hr hb hf hx)
    | (at_builtin; refine wpList_app_rd _ rfl _ _ 27 rfl 44 i6 (.agg #[.int .u8 0, .int .i64 0, .int .i64 0, .string ByteArray.empty]) 4 40 Tryz.underlying27 Hi7.out Hz6.out Hz7.out Hz8.out rfl (by decide) rfl p.aa p.ac (s.acts.map acC) (by rw [List.length_map]; rfl) (by intro r hr; obtain ⟨x, _, rfl⟩ := List.mem_map.1 hr; rfl) (HP.out.acts.below HC3.out.bel) (by intro r hr; obtain ⟨x, _, rfl⟩ := List.mem_map.1 hr; intro u hu; simp [acC, str] at hu; rcases hu with rfl | rfl | rfl | rfl <;> rfl) (by simp; unfold maxLen; omega) (by simp; omega) ?_; rw [List.length_map]; intro a3 n3 w4 hr hf hb;
        have HC4 : Hid (Cpy w (w4.setCell ⟨w.heap.size, 4, none⟩ (.slice a3 s.acts.length n3)) ⟨a1, n1, a2, n2, a3, n3⟩ s) := Lib.hid (HC3.out.step hb 4 _ rfl);
        have HF3 : Hid (∀ g o t, a3 = some ⟨g, o, t⟩ → w.heap.size + 2 ≤ g) := Lib.hid (fun g o t e => by have := hf g o t e; have := lt_of_block HC3.out.res; omega);
        have HR3 := Lib.hid (Rd.off hr HF3.out (b := w.heap.size) (by omega) 4 (.slice a3 s.acts.length n3));
        have HR23 := Lib.hid (Rd.off (HR2.out.below hb) HF2.out (b := w.heap.size) (by omega) 4 (.slice a3 s.acts.length n3));
        have HR13 := Lib.hid (Rd.off (HR12.out.below hb) HF1.out (b := w.heap.size) (by omega) 4 (.slice a3 s.acts.length n3));
        have hx := (hb.block _ (lt_of_block HC3.out.box)).trans HC3.out.box;
        have hy := (hb.block _ (lt_of_block HC3.out.res)).trans HC3.out.res;
        clear c0 c1 c2 c3 c4 cf;
        obtain ⟨c0, c1, c2, c3, c4⟩ := blk5 hx;
        unfold str at c2;
        obtain ⟨z0, z1, z2, z3, z4⟩ := blk5 hy;
        have cf := free_all hx;
        have zf := free_all hy;
        simp only [zeroA, zeroS, str, List.length_nil] at z0 z1 z2 z3 z4;
        clear hr hb hf hx hy))
  have hfin := set5 HC4.out.res (.int .u32 s.pages) (.slice a1 s.exts.length n1) (.string ⟨s.key.toArray⟩) (.slice a2 s.imgs.length n2) (.slice a3 s.acts.length n3)
  obtain ⟨e0, e1, e2, e3, e4⟩ := blk5 (p := ⟨a1, n1, a2, n2, a3, n3⟩) (s := s) hfin
  unfold str at e2
  have hoff : ∀ {a : Option Addr} {k : Nat} {rows : List (List Value)}, Rd (w4.setCell ⟨w.heap.size, 4, none⟩ (.slice a3 s.acts.length n3)) a k rows → (∀ g o t, a = some ⟨g, o, t⟩ → w.heap.size + 2 ≤ g) → Rd ((((((w4.setCell ⟨w.heap.size, 4, none⟩ (.slice a3 s.acts.length n3)).setCell ⟨w.heap.size + 1, 0, none⟩ (.int .u32 s.pages)).setCell ⟨w.heap.size + 1, 1, none⟩ (.slice a1 s.exts.length n1)).setCell ⟨w.heap.size + 1, 2, none⟩ (.string ⟨s.key.toArray⟩)).setCell ⟨w.heap.size + 1, 3, none⟩ (.slice a2 s.imgs.length n2)).setCell ⟨w.heap.size + 1, 4, none⟩ (.slice a3 s.acts.length n3)) a k rows := fun h hf =>
    Rd.off (Rd.off (Rd.off (Rd.off (Rd.off h hf (by omega) _ _) hf (by omega) _ _) hf (by omega) _ _) hf (by omega) _ _) hf (by omega) _ _
  exact bodyPost_ret (v := .agg ((⟨a1, n1, a2, n2, a3, n3⟩ : SA).cells s)) (by simp [results, Tryz.results7, go_sem, e0, e1, e2, e3, e4, SA.cells, str]) rfl (HFin.out _ ⟨a1, n1, a2, n2, a3, n3⟩ (((((HC4.out.bel.setCell (by simp only; omega) _).setCell (by simp only; omega) _).setCell (by simp only; omega) _).setCell (by simp only; omega) _).setCell (by simp only; omega) _) ⟨hoff HR13.out HF1.out, hoff HR23.out HF2.out, hoff HR3.out HF3.out⟩)
end Go.Proofs.YtohlgcdailconaaGreatDoor.Scr
