/- ExoZ, RegU, ExoR, ExiP in one text. -/
import Derived.Test.YtdmoohiepnbdaaaGreatEnExoX
import Derived.Test.YtdmoohiepnbdaaaGreatEnMade06
namespace Go.Proofs.YtdmoohiepnbdaaaGreat
open Go.RowKit
set_option linter.unusedVariables false
set_option linter.unusedSimpArgs false
structure Eve where
  k : Int
  n : Int
  t : ByteArray
  c : Int
def Eve.cells (x : Eve) : List Value := [.int .u8 x.k, .int .i64 x.n, .string x.t, .int .u32 x.c]
def eveC (T : List Eve) : List Value := T.flatMap Eve.cells
theorem eveC_snoc (T : List Eve) (t : Eve) : eveC (T ++ [t]) = eveC T ++ t.cells := by unfold eveC; rw [List.flatMap_append]; simp
def ERow (w : World) (base : Nat) (v : Value) (T : List Eve) : Prop := w.ownsRow base 130 4 v T.length (eveC T)
theorem info_eve : (Tryz.prog.info? 130).map (fun i => (i.zero, i.size, i.bytes)) = some (some (.agg #[.int .u8 0, .int .i64 0, .string ByteArray.empty, .int .u32 0]), 4, 40) := by kernel_rfl
theorem wpList_app_eve {w : World} {ops : Array Oper} {rest : List Oper} {o : Oper} {a : Act} {Q : Exit → Act → World → Prop} (hgd : o.guard = none) (s x : Operand)
    (ho : o.op = .call { callee := .builtin .append, args := #[s, x], argTypes := #[103, 103] }) (base : Nat) (v : Value) (T : List Eve) (hs : a.eval s = v) (h : ERow w base v T) (b : Nat) (t : Eve)
    (hx : a.eval x = .slice (some ⟨b, 0, none⟩) 1 1) (hb : w.heap[b]? = some (.cells t.cells.toArray 130 (0, 0))) (hl : T.length ≤ 1000000) (hbase : base ≤ w.heap.size)
    (H : ∀ g cap w', ERow w' base (.slice (some ⟨g, 0, none⟩) (T.length + 1) cap) (T ++ [t]) → w.grownBy w' v.ownBlock → (v.ownBlock = some g ∨ g = w.heap.size) → wpList Tryz.prog ops Q rest (a.put o.dst (.slice (some ⟨g, 0, none⟩) (T.length + 1) cap)) w') : wpList Tryz.prog ops Q (o :: rest) a w := by
  obtain ⟨i0, hi, hz0, hz1, hz2⟩ := info_parts info_eve
  refine wpList_append_lies w hgd s x _ ho base 130 i0 (.agg #[.int .u8 0, .int .i64 0, .string ByteArray.empty, .int .u32 0]) 4 40 Tryz.underlying103 hi hz0 hz1 hz2 rfl (by omega) v T.length (eveC T) hs h ⟨b, 0, none⟩ 1 1 t.cells hx rfl (World.news_of_block hb) (fun x hx => by simp [Eve.cells] at hx; rcases hx with rfl | rfl | rfl | rfl <;> rfl) (by omega) (by unfold maxLen; omega) (by omega) hbase _ rfl fun g cap w' h2 h3 h4 h5 => H _ _ _ ?_ h3 h4
  unfold ERow
  rw [List.length_append, eveC_snoc]
  exact h2
namespace Cl
set_option maxRecDepth 100000 in
theorem info_evt : (Tryz.prog.info? 130).map (fun i => (i.zero, i.size, i.bytes)) = some (some (.agg #[.int .u8 0, .int .i64 0, .string ByteArray.empty, .int .u32 0]), 4, 40) := by kernel_rfl
set_option maxRecDepth 100000 in
set_option maxHeartbeats 4000000 in
theorem clone_evt {w : World} {a : Option Addr} {n cap : Nat} {xs : List Value} (hl : xs.length = n * 4) (hc : At w a xs) (hs : n ≤ 2000000) (h1 : ∀ u, u ∈ xs → u.oneCell' = true) :
    Calls Tryz.prog 123 #[.slice a n cap] w fun e w' => ∃ v', e = .returned v' ∧ SlV w' 130 4 v' n xs ∧ (∀ b, v'.ownBlock = some b → w.heap.size ≤ b ∧ b < w'.heap.size) ∧ Below w.heap.size w w' := by
  obtain ⟨i0, hi0, hz0, hz1, hz2⟩ := info_parts info_evt
  by_cases h0 : n = 0
  · subst h0
    obtain rfl : xs = [] := List.length_eq_zero_iff.1 (by omega)
    clear hc
    cases a with
    | none =>
      have hq := fun W => Lib.run_eql_slice_nil (P := Tryz.prog) W _ _ none 0 cap 0 0 Tryz.underlying103
      go_enter Tryz.func123, Tryz.ntmps123
      go_wp2
      first
        | (go_ret; exact ⟨_, rfl, SlV.nil _ _ _, fun b hb => (nomatch hb), Below.refl _ _⟩)
        | (refine bodyPost_ret (v := .slice none 0 0) (by simp [results, Tryz.results123, go_sem, *]) rfl ?_; exact ⟨_, rfl, SlV.nil _ _ _, fun b hb => (nomatch hb), Below.refl _ _⟩)
    | some p =>
      have hq := fun W => Lib.run_eql_slice_nil (P := Tryz.prog) W _ _ (some p) 0 cap 0 0 Tryz.underlying103
      have HB : Hid (Below w.heap.size w (w.alloc (.cells #[] 130))) := Lib.hid ((Below.refl _ _).alloc (Nat.le_refl _) _)
      have HL : Hid (SlV (w.alloc (.cells #[] 130)) 130 4 (.slice (some ⟨w.heap.size, 0, none⟩) 0 0) 0 []) := Lib.hid ⟨rfl, .inl ⟨rfl, _, rfl⟩⟩
      go_enter Tryz.func123, Tryz.ntmps123
      go_wp2
      go_ret
      exact ⟨_, rfl, HL.out, fun b hb => by injection hb with hb; exact ⟨Nat.le_of_eq hb, by rw [← hb]; simp⟩, HB.out⟩
  · obtain ⟨u, hu⟩ : ∃ u, xs[0]? = some u := ⟨_, List.getElem?_eq_getElem (by omega)⟩
    obtain ⟨g, off, rfl, _⟩ := hc 0 u hu
    have hcl : ∀ j u, xs[j]? = some u → (w.alloc (.cells #[] 130)).cell? ((⟨g, off, none⟩ : Addr).add j) = some u := fun j u hu => by
      obtain ⟨g', o', e, hcc⟩ := hc j u hu
      simp only [Option.some.injEq, Addr.mk.injEq, and_true] at e
      obtain ⟨rfl, rfl⟩ := e
      have hlt : g < w.heap.size := by
        unfold World.cell? at hcc
        cases hg : w.heap[g]? with
        | none => rw [hg] at hcc; cases hcc
        | some _ => exact lt_of_block hg
      rw [Addr.add_lit]
      exact (World.cell?_of_block (w := w) (Below.heap_alloc _ _ _ hlt)).trans hcc
    have hq := fun W => Lib.run_eql_slice_nil (P := Tryz.prog) W _ _ (some ⟨g, off, none⟩) n cap 0 0 Tryz.underlying103
    have HB : Hid (Below w.heap.size w (w.alloc (.cells #[] 130))) := Lib.hid ((Below.refl _ _).alloc (Nat.le_refl _) _)
    have HN : Hid (SlV (w.alloc (.cells #[] 130)) 130 4 (.slice (some ⟨w.heap.size, 0, none⟩) 0 0) 0 []) := Lib.hid ⟨rfl, .inl ⟨rfl, _, rfl⟩⟩
    have HC := Lib.hid hcl
    have HLn := Lib.hid hl
    have H1 := Lib.hid h1
    have hml : n ≤ maxLen := by unfold maxLen; omega
    clear hcl hc hl h1 hu
    go_enter Tryz.func123, Tryz.ntmps123
    go_wp2_with (at_builtin; refine wpList_append_slv _ rfl _ _ 103 rfl 130 i0 (.agg #[.int .u8 0, .int .i64 0, .string ByteArray.empty, .int .u32 0]) 4 40 Tryz.underlying103 hi0 hz0 hz1 hz2 rfl (by decide) _ 0 [] rfl HN.out ⟨g, off, none⟩ n cap xs rfl (by omega) HLn.out HC.out H1.out (by omega) (by omega) ?_; intro v2 w2 hl2 hm2 hb2)
    go_ret
    refine ⟨v2, rfl, ?_, ?_, ?_⟩
    · have := hl2
      rw [Nat.zero_add, List.nil_append] at this
      exact this
    · intro b hb
      refine ⟨?_, ?_⟩
      · have hb3 : v2.ownBlock = some w.heap.size ∨ ∃ k, v2.ownBlock = some k ∧ (w.alloc (.cells #[] 130)).heap.size ≤ k := hb2
        rcases hb3 with g2 | ⟨k, g2, g3⟩
        · rw [g2] at hb
          injection hb with hb
          exact Nat.le_of_eq hb
        · rw [g2] at hb
          injection hb with hb
          simp at g3
          omega
      · obtain ⟨g, q1, q2⟩ := SlV.lt hl2 (by omega)
        have hb' : v2.ownBlock = some b := hb
        rw [q1] at hb'
        injection hb' with hb'
        omega
    · refine Mod.below HB.out hm2 (by simp) fun i _ hi => ?_
      injection hi with hi
      exact Nat.le_of_eq hi
end Cl
namespace Ex
section
variable {w w' : World} {xb kb : Nat} {S : Nat → Slt} {tv : Value}
theorem cells_tv (kb : Nat) (S : Nat → Slt) (tv v : Value) : (cells kb S tv).setIfInBounds 28 v = cells kb S v := rfl
theorem tvc (h : Ex w xb kb S tv) : w.cell? ⟨xb, 28, none⟩ = some tv ∧ w.frozen? ⟨xb, 28, none⟩ = false := by
  refine ⟨?_, ?_⟩
  · unfold World.cell?; rw [h.blk]; rfl
  · unfold World.frozen?; rw [h.blk]; simp
def TellP (w : World) (xb kb base : Nat) (S : Nat → Slt) (tv : Value) (T : List Eve) (x : Eve) (e : Ending) (w' : World) : Prop :=
  e = .returned (.tuple #[]) ∧ ∃ tv', Ex w' xb kb S tv' ∧ ERow w' base tv' (T ++ [x]) ∧ Mod (fun k => k = xb ∨ tv.ownBlock = some k) w w' ∧ (tv'.ownBlock = tv.ownBlock ∨ tv'.ownBlock = some w.heap.size)
set_option maxRecDepth 100000 in
set_option maxHeartbeats 4000000 in
theorem tell {base lb : Nat} {T : List Eve} {x : Eve} (h : Ex w xb kb S tv) (hr : ERow w base tv T) (hx : w.heap[lb]? = some (.cells x.cells.toArray 130 (0, 0))) (hl : T.length ≤ 1000000) (hbase : base ≤ w.heap.size) (hxt : tv.ownBlock ≠ some xb) :
    Calls Tryz.prog 103 #[.pointer (some ⟨xb, 0, none⟩), .slice (some ⟨lb, 0, none⟩) 1 1] w (TellP w xb kb base S tv T x) := by
  generalize hPQ : TellP w xb kb base S tv T x = PQ
  have HPQ := Lib.hid hPQ
  obtain ⟨c0, c1⟩ := h.tvc
  have H := Lib.hid h
  have HR := Lib.hid hr
  have HX := Lib.hid hx
  have HL := Lib.hid hl
  have HBs := Lib.hid hbase
  have HXt := Lib.hid hxt
  clear h hr hx hl hbase hxt hPQ
  go_enter Tryz.func103, Tryz.ntmps103
  go_wp2_with (at_builtin; refine wpList_app_eve (by rfl) _ _ (by rfl) base _ _ (by rfl) HR.out _ x (by rfl) HX.out HL.out HBs.out ?_; intro g cap w5 hr5 hg5 ho5; have hx5 : Ex w5 xb kb S tv := ⟨(hg5.block xb (lt_of_block H.out.blk) fun e => HXt.out e.symm).trans H.out.blk⟩; obtain ⟨d0, d1⟩ := hx5.tvc; have HX5 := Lib.hid hx5; clear hx5)
  have hm6 : Mod (fun k => k = xb) w5 (w5.setCell ⟨xb, 28, none⟩ (.slice (some ⟨g, 0, none⟩) (T.length + 1) cap)) := Mod.setCell (F := fun k => k = xb) (Mod.refl _ _) ⟨xb, 28, none⟩ (.inl rfl) _
  have hgx : g ≠ xb := fun e => by
    rcases ho5 with q | q
    · exact HXt.out (e ▸ q)
    · have := lt_of_block H.out.blk; omega
  have hend : TellP w xb kb base S tv T x (.returned (.tuple #[])) (w5.setCell ⟨xb, 28, none⟩ (.slice (some ⟨g, 0, none⟩) (T.length + 1) cap)) := by
    refine ⟨rfl, _, ⟨?_⟩, row_keep hr5 fun k hk => hm6.block k (World.ownsRow.lt hr5 k hk).2 fun e => ?_, ?_, ?_⟩
    · rw [← cells_tv kb S tv]
      exact heap_setCell_same _ _ _ _ _ _ HX5.out.blk
    · cases hk
      exact hgx e
    · exact (Mod.trans (F := fun k => k = xb ∨ tv.ownBlock = some k) (G := fun k => k = xb ∨ tv.ownBlock = some k) ⟨hg5.os, hg5.tape, hg5.output, hg5.size, fun k hk hn => hg5.block k hk fun e => hn (.inr e.symm)⟩ (hm6.mono fun k _ e => .inl e) fun _ _ q => .inl q)
    · rcases ho5 with q | q
      · exact .inl q.symm
      · exact .inr (by rw [q]; rfl)
  rw [HPQ.out] at hend
  first
    | exact hend
    | (go_end0; exact hend)
def TraceP (w : World) (T : List Eve) (e : Ending) (w' : World) : Prop := ∃ v', e = .returned v' ∧ SlV w' 130 4 v' T.length (eveC T) ∧ Below w.heap.size w w'
theorem eve_len (T : List Eve) : (eveC T).length = T.length * 4 := by
  unfold eveC
  induction T with
  | nil => rfl
  | cons x T ih => rw [List.flatMap_cons, List.length_append, ih]; show 4 + _ = _; simp; omega
theorem eve_one (T : List Eve) : ∀ u, u ∈ eveC T → u.oneCell' = true := fun u hu => by
  obtain ⟨x, _, hx⟩ := List.mem_flatMap.1 hu
  simp [Eve.cells] at hx
  rcases hx with rfl | rfl | rfl | rfl <;> rfl
theorem trace {base : Nat} {T : List Eve} (h : Ex w xb kb S tv) (hr : ERow w base tv T) (hl : T.length ≤ 1000000) : Calls Tryz.prog 45 #[.pointer (some ⟨xb, 0, none⟩)] w (TraceP w T) := by
  have HFin := Lib.hid fun V v' (h1 : SlV V 130 4 v' T.length (eveC T)) (h2 : Below w.heap.size w V) => (show TraceP w T (.returned v') V from ⟨v', rfl, h1, h2⟩)
  generalize TraceP w T = PQ at *
  obtain ⟨c0, _⟩ := h.tvc
  obtain ⟨a, c, hv, hat⟩ : ∃ a c, tv = .slice a T.length c ∧ Cl.At w a (eveC T) := by
    rcases hr.2 with ⟨rfl, e⟩ | ⟨g, cap, cur, rfl, h0, hg, h1, h2, h3, h4⟩
    · refine ⟨none, 0, by rw [e], fun j u hu => ?_⟩
      have : T = [] := List.length_eq_zero_iff.1 e
      subst this
      simp [eveC] at hu
    · refine ⟨_, cap, rfl, fun j u hu => ⟨g, 0, rfl, ?_⟩⟩
      have hj := (List.getElem?_eq_some_iff.1 hu).1
      rw [eve_len] at hj
      unfold World.cell?
      rw [hg]
      show cur[0 + j]? = _
      rw [← hu, ← h4, Nat.zero_add, List.getElem?_take_of_lt (by omega)]
      simp
  subst hv
  have HC := Lib.hid (Cl.clone_evt (cap := c) (eve_len T) hat (by omega) (eve_one T))
  clear h hr hat hl
  go_enter Tryz.func45, Tryz.ntmps45
  go_wp2_with fail
  refine HC.out.mono ?_
  rintro e w2 ⟨v', rfl, h1, _, h2⟩
  have H1 := Lib.hid h1
  have H2 := Lib.hid h2
  clear h1 h2
  go_wp2
  exact HFin.out _ _ H1.out H2.out
def ReleaseP (w : World) (xb kb cb mb : Nat) (S : Nat → Slt) (tv : Value) (hp : Int) (e : Ending) (w' : World) : Prop :=
  e = .returned (.int .i64 0) ∧ Ex w' xb kb (upd S 1 ⟨false, 0, none⟩) tv ∧ Cz w' cb mb hp [] ∧ Mod (fun k => k = mb ∨ k = xb) w w'
set_option maxHeartbeats 1000000 in
theorem release {cb mb : Nat} {hp : Int} {g : Gz} (h : Ex w xb kb S tv) (hs : (S 1).is = true) (hk : KerC w kb cb) (hc : Cz w cb mb hp [g]) (hx : xb ≠ mb) (hxw : xb ≠ cb) : Calls Tryz.prog 32 #[.pointer (some ⟨xb, 0, none⟩), .int .i64 1] w (ReleaseP w xb kb cb mb S tv hp) := by
  generalize hPQ : ReleaseP w xb kb cb mb S tv hp = PQ
  have HPQ := Lib.hid hPQ
  have HH := Lib.hid (h.has 1 (by omega) (by omega))
  rw [hs] at HH
  have HC := Lib.hid hk.caps
  have HR := Lib.hid hc.release
  have H := Lib.hid h
  have HX := Lib.hid hx
  have HXw := Lib.hid hxw
  have c0 := h.ker
  clear h hs hk hc hx hxw hPQ
  go_enter Tryz.func32, Tryz.ntmps32
  go_wp2_with fail
  refine HH.out.mono ?_
  rintro e w1 ⟨rfl, rfl⟩
  go_wp2_with fail
  refine HC.out.mono ?_
  rintro e w1 ⟨rfl, rfl⟩
  go_wp2_with fail
  refine HR.out.mono ?_
  rintro e w2 ⟨rfl, hc2, hm2⟩
  have hx2 := H.out.mod hm2 HX.out
  obtain ⟨d0, d1, d2, df⟩ := hx2.at' 1 (by omega)
  have f0 := df 4
  have f1 := df 5
  have f2 := df 6
  have HX2 := Lib.hid hx2
  have HC2 := Lib.hid hc2
  have HM2 := Lib.hid hm2
  clear hx2 hc2 hm2 c0 df
  simp only [Nat.one_mul, Nat.reduceAdd] at d0 d1 d2
  go_wp2
  have hset : Ex (((w2.setCell ⟨xb, 4, none⟩ (.bool false)).setCell ⟨xb, 5, none⟩ (.int .i64 0)).setCell ⟨xb, 6, none⟩ (.pointer none)) xb kb (upd S 1 ⟨false, 0, none⟩) tv := HX2.out.set 1 ⟨false, 0, none⟩ (by omega)
  have hm9 : Mod (fun i => i = xb) w2 (((w2.setCell ⟨xb, 4, none⟩ (.bool false)).setCell ⟨xb, 5, none⟩ (.int .i64 0)).setCell ⟨xb, 6, none⟩ (.pointer none)) := Mod.setCell (F := fun i => i = xb) (Mod.setCell (F := fun i => i = xb) (Mod.setCell (F := fun i => i = xb) (Mod.refl _ _) ⟨xb, 4, none⟩ (.inl rfl) _) ⟨xb, 5, none⟩ (.inl rfl) _) ⟨xb, 6, none⟩ (.inl rfl) _
  have hend : ReleaseP w xb kb cb mb S tv hp (.returned (.int .i64 0)) _ := ⟨rfl, hset, HC2.out.mod hm9 fun i hi e => by
    subst e
    rcases hi with g | g | ⟨g, hg, e⟩
    · exact HXw.out g
    · exact HX.out g
    · simp at hg, (HM2.out.mono (G := fun k => k = mb ∨ k = xb) fun _ _ q => .inl q).trans hm9 fun _ _ q => .inl (.inr q)⟩
  rw [HPQ.out] at hend
  exact hend
end
end Ex
end Go.Proofs.YtdmoohiepnbdaaaGreat
namespace Go.Proofs.YtdmoohiepnbdaaaGreat
open Go.RowKit
set_option linter.unusedVariables false
section
variable {P : Program} {Q : Exit → Act → World → Prop} {md : Region.Mode} {S : World → Prop}
theorem U2 {l : List Oper} {o o' : Oper} {fuel : Nat} {listed : Array Bool} {a : Act} {w : World} (i j : Nat)
    (h : ∀ K' : Act → World → Prop, Shut (∀ a w, S w → (S w → wpAnyH P md l.toArray Q S fuel (listed.setIfInBounds i true) a w) → K' a w) → if Region.wanted o (yielded l.toArray a.tmps) = true then Oper.wp P o a w K' Q else K' (a.put o.dst undef) w)
    (h' : ∀ K' : Act → World → Prop, Shut (∀ a w, S w → (S w → wpAnyH P md l.toArray Q S fuel (listed.setIfInBounds j true) a w) → K' a w) → if Region.wanted o' (yielded l.toArray a.tmps) = true then Oper.wp P o' a w K' Q else K' (a.put o'.dst undef) w)
    (hr : Region.ready md l.toArray listed = [i, j] := by kernel_rfl) (ho : l[i]? = some o := by rfl) (ho' : l[j]? = some o' := by rfl) :
    wpAnyH P md l.toArray Q S (fuel + 1) listed a w :=
  wpAnyH_ready hr (by simp) (AllReadyH.cons (by rw [List.getElem?_toArray]; exact ho) h (AllReadyH.cons (by rw [List.getElem?_toArray]; exact ho') h' AllReadyH.nil))
end
end Go.Proofs.YtdmoohiepnbdaaaGreat
namespace Go.Proofs.YtdmoohiepnbdaaaGreat
open Go.RowKit
set_option linter.unusedVariables false
set_option linter.unusedSimpArgs false
namespace Ex
section
variable {w w' : World} {xb kb : Nat} {S : Nat → Slt} {tv : Value}
structure Exits (E : En) : Prop where
  k0 : E.kind = 2
  s0 : E.stop = (0, 0, 0)
  k1 : E.step.kind = 2
  s1 : E.step.stop = (1, 1, 0)
  k2 : E.step.step.kind = 2
  a1 : E.step.A = E.A
  a2 : E.step.step.A = E.A
def RunXP (w : World) (a : EAt) (E : En) (xb kb : Nat) (S : Nat → Slt) (e : Ending) (w' : World) : Prop :=
  e = .returned (.tuple #[.int .i64 2, .int .i64 0]) ∧ ∃ tv', Env w' a (E.step.step.exit (E.step.step.arg 1)) ∧ Ex w' xb kb S tv' ∧ ERow w' w.heap.size tv' [⟨3, E.num, ByteArray.empty, E.step.step.arg 1⟩] ∧ Mod (fun k => a.foot E.A k ∨ k = xb) w w'
set_option maxRecDepth 100000 in
set_option maxHeartbeats 8000000 in
theorem runExit {a : EAt} {E : En} (h : Ex w xb kb S (.slice none 0 0)) (n : Nat) (n1 : 1 ≤ n) (n8 : n ≤ 8) (hs : (S n).is = true) (hv : (S n).env = some a.eb) (he : Env w a E) (hx : Exits E) (hxf : ¬ a.foot E.A xb) :
    Calls Tryz.prog 26 #[.pointer (some ⟨xb, 0, none⟩), .int .i64 n, .int .i64 9] w (RunXP w a E xb kb S) := by
  generalize hPQ : RunXP w a E xb kb S = PQ
  have HPQ := Lib.hid hPQ
  have HO := Lib.hid (h.of n n1 n8 hs)
  rw [hv] at HO
  have H := Lib.hid h
  have HE := Lib.hid he
  have HX := Lib.hid hx
  have HXf := Lib.hid hxf
  have HKf := Lib.hid fun (c y : Int) => kind_field c y
  clear h hs hv he hx hxf hPQ
  go_enter Tryz.func26, Tryz.ntmps26
  go_wp2_with fail
  refine HO.out.mono ?_
  rintro e w1 ⟨rfl, rfl⟩
  go_wp2
  refine wp_loop_rounds 3 ?_
  -- the first step
  rw [rounds_succ]
  have HSt := Lib.hid (Ev.state HE.out)
  rw [HX.out.k0] at HSt
  go_wp2_with fail
  refine HSt.out.mono ?_
  rintro e w2 ⟨rfl, hb2⟩
  have HE2 := Lib.hid (HE.out.below hb2)
  have HB2 := Lib.hid hb2
  have hf2 := HKf.out E.code E.why w2
  have HStep := Lib.hid (Ev.step HE2.out)
  have hred : E.redE = 0 := if_neg fun q => q HX.out.k0
  rw [HX.out.s0, hred] at HStep
  clear hb2 hred HSt
  go_wp2_with fail
  refine HStep.out.mono ?_
  rintro e w3 ⟨rfl, hs3⟩
  have HS3 := Lib.hid hs3
  clear hs3 HStep hf2
  have hb4 : Below w3.heap.size w3 (w3.alloc (.cells #[.int .u8 0, .int .u32 0, .int .i64 0] 193)) := (Below.refl _ _).alloc (Nat.le_refl _) _
  have HE4 := Lib.hid (HS3.out.env.below hb4)
  have HM4 : Hid (Mod (a.foot E.A) w (w3.alloc (.cells #[.int .u8 0, .int .u32 0, .int .i64 0] 193))) := Lib.hid (((Mod.of_below HB2.out _).same HS3.out.mod).same (Mod.of_below hb4 _))
  clear hb4
  go_wp2
  -- the second
  generalize w3.alloc (.cells #[.int .u8 0, .int .u32 0, .int .i64 0] 193) = w4 at *
  rw [rounds_succ]
  have HSt := Lib.hid (Ev.state HE4.out)
  rw [HX.out.k1] at HSt
  go_wp2_with fail
  refine HSt.out.mono ?_
  rintro e w5 ⟨rfl, hb5⟩
  have HE5 := Lib.hid (HE4.out.below hb5)
  have HM5 : Hid (Mod (a.foot E.A) w w5) := Lib.hid (HM4.out.same (Mod.of_below hb5 _))
  have hf5 := HKf.out E.step.code E.step.why w5
  have HStep := Lib.hid (Ev.step HE5.out)
  have hred : E.step.redE = 0 := if_neg fun q => q HX.out.k1
  rw [HX.out.s1, hred] at HStep
  clear hb5 hred HSt
  go_wp2_with fail
  refine HStep.out.mono ?_
  rintro e w6 ⟨rfl, hs6⟩
  have HE6 := Lib.hid hs6.env
  have HM6 : Hid (Mod (a.foot E.A) w w6) := Lib.hid (HM5.out.same (by have := hs6.mod; rw [HX.out.a1] at this; exact this))
  clear hs6 HStep hf5
  have hb7 : Below w6.heap.size w6 (w6.alloc (.cells #[.int .u8 1, .int .u32 1, .int .i64 0] 193)) := (Below.refl _ _).alloc (Nat.le_refl _) _
  have hk7 := heap_alloc_new w6 (.cells #[.int .u8 1, .int .u32 1, .int .i64 0] 193)
  obtain ⟨g0, g1, g2, gf⟩ : (w6.alloc (.cells #[.int .u8 1, .int .u32 1, .int .i64 0] 193)).cell? ⟨w6.heap.size, 0, none⟩ = some (.int .u8 1) ∧ (w6.alloc (.cells #[.int .u8 1, .int .u32 1, .int .i64 0] 193)).cell? ⟨w6.heap.size, 1, none⟩ = some (.int .u32 1) ∧ (w6.alloc (.cells #[.int .u8 1, .int .u32 1, .int .i64 0] 193)).cell? ⟨w6.heap.size, 2, none⟩ = some (.int .i64 0) ∧ True := by
    refine ⟨?_, ?_, ?_, trivial⟩ <;> (unfold World.cell?; rw [hk7]; rfl)
  have HE7 := Lib.hid (HE6.out.below hb7)
  have HM7 : Hid (Mod (a.foot E.A) w (w6.alloc (.cells #[.int .u8 1, .int .u32 1, .int .i64 0] 193))) := Lib.hid (HM6.out.same (Mod.of_below hb7 _))
  have HX7 := Lib.hid (H.out.mod HM7.out HXf.out)
  have HSp : Hid (¬ a.foot E.A w6.heap.size) := Lib.hid fun q => by have := HE6.out.lt _ (by rw [HX.out.a2]; exact q); omega
  have HK7 := Lib.hid hk7
  clear hb7 hk7 gf
  go_wp2
  generalize w6.alloc (.cells #[.int .u8 1, .int .u32 1, .int .i64 0] 193) = w7 at *
  have hkb := HX7.out.ker
  have HDo := Lib.hid fun (V : World) (hV : Below w7.heap.size w7 V) => Kx.doExit ⟨kb, 0, none⟩ (HE7.out.below hV) HX.out.k2
  have HF : Hid (∀ k, a.foot E.step.step.A k → a.foot E.A k) := Lib.hid fun k hk => by rw [HX.out.a2] at hk; exact hk
  have HSz : Hid (w6.heap.size < w7.heap.size) := Lib.hid (lt_of_block HK7.out)
  have hg1 := g1
  clear g0 g1 g2
  refine B (fun V => V.cell? ⟨xb, 0, none⟩ = some (.pointer (some ⟨kb, 0, none⟩)) ∧ V.cell? ⟨w6.heap.size, 1, none⟩ = some (.int .u32 1)) ⟨hkb, hg1⟩ fun wd hwd hS => ?_
  have HBd := Lib.hid (by rw [hwd]; exact (Below.refl _ _).drew : Below w7.heap.size w7 wd)
  clear hwd hkb hg1
  refine T 0 hS ?_
  refine T 1 hS ?_
  refine T 2 hS ?_
  refine T 3 hS ?_
  refine T 4 hS ?_
  refine T 5 hS ?_
  refine T 6 hS ?_
  -- what a call leaves
  have HAft : Hid (∀ V V', Below w7.heap.size w7 V → Mod (a.foot E.step.step.A) V V' → (V'.cell? ⟨xb, 0, none⟩ = some (.pointer (some ⟨kb, 0, none⟩)) ∧ V'.cell? ⟨w6.heap.size, 1, none⟩ = some (.int .u32 1)) ∧ Ex V' xb kb S (.slice none 0 0) ∧ Mod (a.foot E.A) w V') := Lib.hid fun V V' hV hm => by
    have hx' := (HX7.out.below hV).mod hm fun q => HXf.out (HF.out _ q)
    refine ⟨⟨hx'.ker, cellM hm (keep ?_ hV) fun q => HSp.out (HF.out _ q)⟩, hx', (HM7.out.same (Mod.of_below hV _)).same (hm.mono fun k _ q => HF.out k q)⟩
    unfold World.cell?; rw [HK7.out]; rfl
  refine U2 7 12 (fun K hK => ?_) (fun K hK => ?_)
  go_simp
  go_at_call 104
  refine (HDo.out _ HBd.out).mono ?_
  rintro e w8 ⟨rfl, he8, hm8⟩
  obtain ⟨hS8, hx8, hmm8⟩ := HAft.out _ _ HBd.out hm8
  have hmz := hm8.size
  have H8 := Lib.hid (And.intro he8 (And.intro hx8 hmm8))
  clear he8 hm8 hx8 hmm8
  refine V hK hS8 ?_; clear hK K
  refine T 8 hS8 ?_
  refine T 9 hS8 ?_
  refine T 10 hS8 ?_
  refine T 11 hS8 ?_
  refine U 12 fun K hK => ?_
  go_simp
  have hb9 : Below w8.heap.size w8 (w8.alloc (.cells #[.int .u8 0, .int .i64 0, .string ByteArray.empty, .int .u32 0] 130)) := (Below.refl _ _).alloc (Nat.le_refl _) _
  have hk9 := heap_alloc_new w8 (.cells #[.int .u8 0, .int .i64 0, .string ByteArray.empty, .int .u32 0] 130)
  have hS9 := And.intro (keep hS8.1 hb9) (keep hS8.2 hb9)
  have H9 := Lib.hid (And.intro (H8.out.1.below hb9) (And.intro (H8.out.2.1.below hb9) (And.intro (H8.out.2.2.same (Mod.of_below hb9 _)) hk9)))
  have HT9 : Hid (∀ k, a.foot E.A k → k ≠ w8.heap.size) := Lib.hid fun k hk e => by
    have := H8.out.1.lt k (by
      have h1 : (E.step.step.exit (E.step.step.arg 1)).A = E.A := by unfold En.exit; split <;> exact HX.out.a2
      rw [h1]; exact hk)
    omega
  have HRb : Hid (w7.heap.size ≤ w8.heap.size) := Lib.hid (Nat.le_trans HBd.out.size hmz)
  change K _ (w8.alloc (.cells #[.int .u8 0, .int .i64 0, .string ByteArray.empty, .int .u32 0] 130))
  generalize w8.alloc (.cells #[.int .u8 0, .int .i64 0, .string ByteArray.empty, .int .u32 0] 130) = w9 at *
  clear hb9 hk9 hS8
  refine V hK hS9 ?_; clear hK K
  obtain ⟨r0, r1, r2, r3, rf⟩ := Kx.ev_cells (kd := 0) (en := 0) (c := 0) H9.out.2.2.2
  have rf0 := rf 0
  have rf1 := rf 1
  have rf2 := rf 2
  have rf3 := rf 3
  clear rf
  refine U 13 fun K hK => ?_
  go_simp
  have hk10 := heap_setCell_same _ _ 3 _ _ (.int .u32 (E.step.step.arg 1)) (heap_setCell_same _ _ 2 _ _ (.string ByteArray.empty) (heap_setCell_same _ _ 1 _ _ (.int .i64 E.step.step.num) (heap_setCell_same _ _ 0 _ _ (.int .u8 3) H9.out.2.2.2)))
  have hm10 : Mod (fun k => k = w8.heap.size) w9 ((((w9.setCell ⟨w8.heap.size, 0, none⟩ (.int .u8 3)).setCell ⟨w8.heap.size, 1, none⟩ (.int .i64 E.step.step.num)).setCell ⟨w8.heap.size, 2, none⟩ (.string ByteArray.empty)).setCell ⟨w8.heap.size, 3, none⟩ (.int .u32 (E.step.step.arg 1))) :=
    Mod.setCell (F := fun k => k = w8.heap.size) (Mod.setCell (F := fun k => k = w8.heap.size) (Mod.setCell (F := fun k => k = w8.heap.size) (Mod.setCell (F := fun k => k = w8.heap.size) (Mod.refl _ _) ⟨w8.heap.size, 0, none⟩ (.inl rfl) _) ⟨w8.heap.size, 1, none⟩ (.inl rfl) _) ⟨w8.heap.size, 2, none⟩ (.inl rfl) _) ⟨w8.heap.size, 3, none⟩ (.inl rfl) _
  clear r0 r1 r2 r3 rf0 rf1 rf2 rf3
  generalize (((w9.setCell ⟨w8.heap.size, 0, none⟩ (.int .u8 3)).setCell ⟨w8.heap.size, 1, none⟩ (.int .i64 E.step.step.num)).setCell ⟨w8.heap.size, 2, none⟩ (.string ByteArray.empty)).setCell ⟨w8.heap.size, 3, none⟩ (.int .u32 (E.step.step.arg 1)) = w10 at *
  have hA10 : (E.step.step.exit (E.step.step.arg 1)).A = E.A := by unfold En.exit; split <;> exact HX.out.a2
  have hrx : xb ≠ w8.heap.size := fun e => by have := lt_of_block HX7.out.blk; have := HRb.out; omega
  have hrs : w6.heap.size ≠ w8.heap.size := by have := HSz.out; have := HRb.out; omega
  have hS10 := And.intro (cellM hm10 hS9.1 hrx) (cellM hm10 hS9.2 hrs)
  have H10 := Lib.hid (And.intro (H9.out.1.keep hm10 fun k hk e => HT9.out k (by rw [hA10] at hk; exact hk) e) (And.intro (H9.out.2.1.mod hm10 hrx) (And.intro (H9.out.2.2.1.trans hm10 fun k _ e => .inr (by have := HRb.out; have := HM7.out.size; omega)) (And.intro hk10 hS10.2))))
  obtain ⟨rb, hrb⟩ : ∃ rb, w8.heap.size = rb := ⟨_, rfl⟩
  rw [hrb] at H10 ⊢
  clear hk10 hm10 hA10 hrx hrs hrb hS9
  refine V hK hS10 ?_; clear hK K
  refine T 14 hS10 ?_
  refine T 15 hS10 ?_
  refine wpAnyH_done (by kernel_rfl) ?_ _
  clear hS10 H9 HT9 HRb
  rotate_left
  go_simp
  have hb9 : Below wd.heap.size wd (wd.alloc (.cells #[.int .u8 0, .int .i64 0, .string ByteArray.empty, .int .u32 0] 130)) := (Below.refl _ _).alloc (Nat.le_refl _) _
  have hk9 := heap_alloc_new wd (.cells #[.int .u8 0, .int .i64 0, .string ByteArray.empty, .int .u32 0] 130)
  change K _ (wd.alloc (.cells #[.int .u8 0, .int .i64 0, .string ByteArray.empty, .int .u32 0] 130))
  generalize wd.alloc (.cells #[.int .u8 0, .int .i64 0, .string ByteArray.empty, .int .u32 0] 130) = w8 at *
  have hS8 := And.intro (keep hS.1 hb9) (keep hS.2 hb9)
  have HB8 := Lib.hid (below_th HBd.out hb9)
  have HK8 := Lib.hid hk9
  clear hb9 hk9
  refine V hK hS8 ?_; clear hK K
  refine U 7 fun K hK => ?_
  go_simp
  go_at_call 104
  refine (HDo.out _ HB8.out).mono ?_
  rintro e w9 ⟨rfl, he8, hm8⟩
  obtain ⟨hS9, hx8, hmm8⟩ := HAft.out _ _ HB8.out hm8
  have hlt7 : ∀ k, a.foot E.A k → k < w7.heap.size := fun k hk => HE7.out.lt k (by rw [HX.out.a2]; exact hk)
  have hrf : ¬ a.foot E.step.step.A wd.heap.size := fun q => by have := hlt7 _ (HF.out _ q); have := HBd.out.size; omega
  have hk9 := (hm8.block _ (lt_of_block HK8.out) hrf).trans HK8.out
  have H9 := Lib.hid (And.intro he8 (And.intro hx8 (And.intro hmm8 hk9)))
  have HT9 : Hid (∀ k, a.foot E.A k → k ≠ wd.heap.size) := Lib.hid fun k hk e => by have := hlt7 k hk; have := HBd.out.size; omega
  have HRb : Hid (w7.heap.size ≤ wd.heap.size) := Lib.hid HBd.out.size
  clear he8 hm8 hx8 hmm8 hlt7 hrf hk9 hS8
  refine V hK hS9 ?_; clear hK K
  refine T 8 hS9 ?_
  refine T 9 hS9 ?_
  refine T 10 hS9 ?_
  refine T 11 hS9 ?_
  obtain ⟨r0, r1, r2, r3, rf⟩ := Kx.ev_cells (kd := 0) (en := 0) (c := 0) H9.out.2.2.2
  have rf0 := rf 0
  have rf1 := rf 1
  have rf2 := rf 2
  have rf3 := rf 3
  clear rf
  refine U 13 fun K hK => ?_
  go_simp
  have hk10 := heap_setCell_same _ _ 3 _ _ (.int .u32 (E.step.step.arg 1)) (heap_setCell_same _ _ 2 _ _ (.string ByteArray.empty) (heap_setCell_same _ _ 1 _ _ (.int .i64 E.step.step.num) (heap_setCell_same _ _ 0 _ _ (.int .u8 3) H9.out.2.2.2)))
  have hm10 : Mod (fun k => k = wd.heap.size) w9 ((((w9.setCell ⟨wd.heap.size, 0, none⟩ (.int .u8 3)).setCell ⟨wd.heap.size, 1, none⟩ (.int .i64 E.step.step.num)).setCell ⟨wd.heap.size, 2, none⟩ (.string ByteArray.empty)).setCell ⟨wd.heap.size, 3, none⟩ (.int .u32 (E.step.step.arg 1))) :=
    Mod.setCell (F := fun k => k = wd.heap.size) (Mod.setCell (F := fun k => k = wd.heap.size) (Mod.setCell (F := fun k => k = wd.heap.size) (Mod.setCell (F := fun k => k = wd.heap.size) (Mod.refl _ _) ⟨wd.heap.size, 0, none⟩ (.inl rfl) _) ⟨wd.heap.size, 1, none⟩ (.inl rfl) _) ⟨wd.heap.size, 2, none⟩ (.inl rfl) _) ⟨wd.heap.size, 3, none⟩ (.inl rfl) _
  clear r0 r1 r2 r3 rf0 rf1 rf2 rf3
  generalize (((w9.setCell ⟨wd.heap.size, 0, none⟩ (.int .u8 3)).setCell ⟨wd.heap.size, 1, none⟩ (.int .i64 E.step.step.num)).setCell ⟨wd.heap.size, 2, none⟩ (.string ByteArray.empty)).setCell ⟨wd.heap.size, 3, none⟩ (.int .u32 (E.step.step.arg 1)) = w10 at *
  have hA10 : (E.step.step.exit (E.step.step.arg 1)).A = E.A := by unfold En.exit; split <;> exact HX.out.a2
  have hrx : xb ≠ wd.heap.size := fun e => by have := lt_of_block HX7.out.blk; have := HRb.out; omega
  have hrs : w6.heap.size ≠ wd.heap.size := by have := HSz.out; have := HRb.out; omega
  have hS10 := And.intro (cellM hm10 hS9.1 hrx) (cellM hm10 hS9.2 hrs)
  have H10 := Lib.hid (And.intro (H9.out.1.keep hm10 fun k hk e => HT9.out k (by rw [hA10] at hk; exact hk) e) (And.intro (H9.out.2.1.mod hm10 hrx) (And.intro (H9.out.2.2.1.trans hm10 fun k _ e => .inr (by have := HRb.out; have := HM7.out.size; omega)) (And.intro hk10 hS10.2))))
  obtain ⟨rb, hrb⟩ : ∃ rb, wd.heap.size = rb := ⟨_, rfl⟩
  rw [hrb] at H10 ⊢
  clear hk10 hm10 hA10 hrx hrs hrb hS9
  refine V hK hS10 ?_; clear hK K
  refine T 14 hS10 ?_
  refine T 15 hS10 ?_
  refine wpAnyH_done (by kernel_rfl) ?_ _
  clear hS10 H9 HT9 HRb
  all_goals
    obtain ⟨y0, y1, y2, y3, _⟩ := Kx.ev_cells (kd := 3) (en := E.step.step.num) (c := E.step.step.arg 1) H10.out.2.2.2.1
    go_wp2_with fail
    have hb11 : Below w10.heap.size w10 (w10.alloc (.cells #[.int .u8 3, .int .i64 E.step.step.num, .string ByteArray.empty, .int .u32 (E.step.step.arg 1)] 130)) := (Below.refl _ _).alloc (Nat.le_refl _) _
    have hk11 := heap_alloc_new w10 (.cells #[.int .u8 3, .int .i64 E.step.step.num, .string ByteArray.empty, .int .u32 (E.step.step.arg 1)] 130)
    have hzw : w.heap.size ≤ w10.heap.size := H10.out.2.2.1.size
    refine ((H10.out.2.1.below hb11).tell (base := w.heap.size) (T := []) (x := ⟨3, E.step.step.num, ByteArray.empty, E.step.step.arg 1⟩) (World.ownsRow_nil _ _ _ _) hk11 (by simp) (by have := hb11.size; omega) (by simp [Value.ownBlock])).mono ?_
    rintro e w12 ⟨rfl, tv', hx12, hr12, hm12, _⟩
    have hm12' : Mod (fun k => k = xb) w10 w12 := (Mod.of_below hb11 _).same (hm12.mono fun k _ q => q.elim id fun q => by cases q)
    have hc12 := cellM hm12' H10.out.2.2.2.2 (fun e => by
      have := lt_of_block H.out.blk
      have := HM6.out.size
      omega)
    have hE3A : (E.step.step.exit (E.step.step.arg 1)).A = E.A := by unfold En.exit; split <;> exact HX.out.a2
    have hE3k : (E.step.step.exit (E.step.step.arg 1)).kind = 3 := by unfold En.exit; rw [if_neg (fun q => q HX.out.k2)]
    have he12 := H10.out.1.keep hm12' fun k hk e => HXf.out (by rw [hE3A] at hk; rw [← e]; exact hk)
    have HSt3 := Lib.hid (Ev.state he12)
    rw [hE3k] at HSt3
    have hnum : E.step.step.num = E.num := (num_step _).trans (num_step _)
    have hend : ∀ V, Below w12.heap.size w12 V → RunXP w a E xb kb S (.returned (.tuple #[.int .i64 2, .int .i64 0])) V := fun V hV => by
      refine ⟨rfl, tv', he12.below hV, hx12.below hV, row_keep (hnum ▸ hr12) fun k hk => hV.block k (World.ownsRow.lt hr12 k hk).2, ?_⟩
      exact ((H10.out.2.2.1.mono (G := fun k => a.foot E.A k ∨ k = xb) fun _ _ q => .inl q).trans hm12' fun _ _ q => .inl (.inr q)).same (Mod.of_below hV _)
    rw [HPQ.out] at hend
    have HEnd := Lib.hid hend
    have hf12 := HKf.out
    clear hx12 hr12 hm12 hm12' hE3A hE3k he12 hnum hend hb11 hk11 hzw y0 y1 y2 y3
    go_wp2
    rw [rounds_succ]
    go_wp2_with fail
    refine HSt3.out.mono ?_
    rintro e w13 ⟨rfl, hb13⟩
    have hf13 : (Instr.field 95 (.agg #[.int .u8 3, .int .u32 (E.step.step.exit (E.step.step.arg 1)).code, .int .i64 (E.step.step.exit (E.step.step.arg 1)).why]) 0).run Tryz.prog w13 = .ok (.int .u8 3) w13 := by kernel_rfl
    have HB13 := Lib.hid hb13
    clear hb13 hf12
    go_wp2
    exact HEnd.out _ HB13.out
end
end Ex
end Go.Proofs.YtdmoohiepnbdaaaGreat
namespace Go.Proofs.YtdmoohiepnbdaaaGreat
open Go.RowKit Word
set_option linter.unusedVariables false
namespace Xt
def code (i : Nat) : Ins := if i = 0 then ⟨32, 1, 0, 0, 7⟩ else ⟨50, 0, 0, 0, 1⟩
def Pages (A : List Pg) : Prop := ∀ i : Nat, i < 2 → Sp.fitsB A (256 + 8 * (i : Int)) 8 4 = true ∧ Sp.getL A (256 + 8 * (i : Int)) 8 = Ins.encL (code i)
theorem Pages.of {A B : List Pg} (h : Pages A) (hc : cores B = cores A) : Pages B := fun i hi => by
  rw [Cor.fitsB hc, Cor.getL hc]
  exact h i hi
def laid : List Pg := Cp.madeA (fun i => if i = 0 then 8 else 4) 2 256 (strOfNums (Cp.textL code 2)) 0 ByteArray.empty
def pagesB (A : List Pg) : Bool := (List.range 2).all fun i : Nat => Sp.fitsB A (256 + 8 * (i : Int)) 8 4 && (Sp.getL A (256 + 8 * (i : Int)) 8 == Ins.encL (code i))
theorem pages_of {A : List Pg} (h : pagesB A = true) : Pages A := fun i hi => by
  have := List.all_eq_true.1 h i (List.mem_range.2 hi)
  simp only [Bool.and_eq_true, beq_iff_eq] at this
  exact this
theorem laid_pages : Pages laid := pages_of (by decide +kernel)
theorem code_dec (i : Nat) : Ins.decB (strOfNums (Ins.encL (code i))) = true ∧ Ins.decI (strOfNums (Ins.encL (code i))) = code i := by
  unfold code
  split <;> exact ⟨by decide +kernel, by kernel_rfl⟩
variable {A : List Pg} (h : Pages A)
include h
theorem stp (r : List Int) (i : Nat) (hi : i < 2) : Cp.stp A r (256 + 8 * (i : Int)) = Cp.exe A r (256 + 8 * (i : Int)) (code i) := by
  obtain ⟨h1, h2⟩ := h i hi
  obtain ⟨d1, d2⟩ := code_dec i
  unfold Cp.stp
  rw [if_pos h1, h2, if_pos d1, d2]
theorem step1 (num : Int) : (En.new num 256 A).step = { En.new num 256 A with r := Cp.putG (List.replicate 16 0) 1 7, pc := 264 } ∧ (En.new num 256 A).stop = (0, 0, 0) := by
  have ho : Cp.stp A (List.replicate 16 0) 256 = Cp.goes A (Cp.putG (List.replicate 16 0) 1 7) 264 := (stp h _ 0 (by omega)).trans rfl
  constructor
  · unfold En.step En.new
    rw [if_neg (fun q => q rfl)]
    simp only [ho]
    rfl
  · unfold En.stop En.new
    rw [if_neg (fun q => q rfl)]
    simp only [ho]
    rfl
theorem step2 (num : Int) : (En.new num 256 A).step.step = { En.new num 256 A with r := Cp.putG (List.replicate 16 0) 1 7, pc := 272 } ∧ (En.new num 256 A).step.stop = (1, 1, 0) := by
  have ho : Cp.stp A (Cp.putG (List.replicate 16 0) 1 7) 264 = ⟨1, 1, 0, Cp.putG (List.replicate 16 0) 1 7, 272, A⟩ := (stp h _ 1 (by omega)).trans rfl
  rw [(step1 h num).1]
  constructor
  · unfold En.step En.new
    rw [if_neg (fun q => q rfl)]
    simp only [ho]
    rfl
  · unfold En.stop En.new
    rw [if_neg (fun q => q rfl)]
    simp only [ho]
theorem exits (num : Int) : Ex.Exits (En.new num 256 A) := by
  refine ⟨rfl, (step1 h num).2, ?_, (step2 h num).2, ?_, ?_, ?_⟩
  · rw [(step1 h num).1]; rfl
  · rw [(step2 h num).1]; rfl
  · rw [(step1 h num).1]
  · rw [(step2 h num).1]
theorem code7 (num : Int) : (En.new num 256 A).step.step.arg 1 = 7 := by
  rw [(step2 h num).1]
  rfl
theorem done (num : Int) : (En.new num 256 A).step.step.exit 7 = { En.new num 256 A with r := Cp.putG (List.replicate 16 0) 1 7, pc := 272, kind := 3, code := 7, why := 0 } := by
  rw [(step2 h num).1]
  rfl
end Xt
end Go.Proofs.YtdmoohiepnbdaaaGreat
