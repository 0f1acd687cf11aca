/- SchS, SchT in one text. -/
import Derived.Test.YthgddpgifdhnjaaGreatSnExoX
import Derived.Test.YthgddpgifdhnjaaGreatSnMade06
namespace Go.Proofs.YthgddpgifdhnjaaGreat
open Go.RowKit
set_option linter.unusedVariables false
set_option linter.unusedSimpArgs false
def trC (T : List (Nat × Nat)) : List Value := T.flatMap fun t => [.int .i64 t.1, .int .i64 t.2]
theorem trC_snoc (T : List (Nat × Nat)) (t : Nat × Nat) : trC (T ++ [t]) = trC T ++ [.int .i64 t.1, .int .i64 t.2] := by unfold trC; rw [List.flatMap_append]; rfl
theorem trC_at : ∀ (T : List (Nat × Nat)) (i : Nat) (t : Nat × Nat), T[i]? = some t → (trC T)[i * 2]? = some (.int .i64 t.1) ∧ (trC T)[i * 2 + 1]? = some (.int .i64 t.2)
  | y :: T, 0, t, h => by
    simp at h
    subst h
    exact ⟨rfl, rfl⟩
  | y :: T, i + 1, t, h => by
    have := trC_at T i t (by simpa using h)
    have e : trC (y :: T) = .int .i64 y.1 :: .int .i64 y.2 :: trC T := rfl
    rw [e, show (i + 1) * 2 = i * 2 + 1 + 1 by omega, List.getElem?_cons_succ, List.getElem?_cons_succ, List.getElem?_cons_succ, List.getElem?_cons_succ]
    exact this
def TRow (w : World) (base : Nat) (v : Value) (T : List (Nat × Nat)) : Prop := w.ownsRow base 31 2 v T.length (trC T)
theorem info_turn : (Tryz.prog.info? 31).map (fun i => (i.zero, i.size, i.bytes)) = some (some (.agg #[.int .i64 0, .int .i64 0]), 2, 16) := by kernel_rfl
theorem wpList_app_turn {w : World} {ops : Array Oper} {rest : List Oper} {o : Oper} {a : Act} {Q : Exit → Act → World → Prop} (hgd : o.guard = none) (s x : Operand)
    (ho : o.op = .call { callee := .builtin .append, args := #[s, x], argTypes := #[37, 37] }) (base : Nat) (v : Value) (T : List (Nat × Nat)) (hs : a.eval s = v) (h : TRow w base v T) (b : Nat) (t : Nat × Nat)
    (hx : a.eval x = .slice (some ⟨b, 0, none⟩) 1 1) (hb : w.heap[b]? = some (.cells #[.int .i64 t.1, .int .i64 t.2] 31 (0, 0))) (hl : T.length ≤ 1000000) (hbase : base ≤ w.heap.size)
    (H : ∀ v' w', TRow w' base v' (T ++ [t]) → w.grownBy w' v.ownBlock → wpList Tryz.prog ops Q rest (a.put o.dst v') w') : wpList Tryz.prog ops Q (o :: rest) a w := by
  obtain ⟨i0, hi, hz0, hz1, hz2⟩ := info_parts info_turn
  refine wpList_append_lies w hgd s x _ ho base 31 i0 (.agg #[.int .i64 0, .int .i64 0]) 2 16 Tryz.underlying37 hi hz0 hz1 hz2 rfl (by omega) v T.length (trC T) hs h ⟨b, 0, none⟩ 1 1 [.int .i64 t.1, .int .i64 t.2] hx rfl (World.news_of_block hb) (fun x hx => by simp at hx; rcases hx with rfl | rfl <;> rfl) (by omega) (by unfold maxLen; omega) (by omega) hbase _ rfl fun g cap w' h2 h3 h4 h5 => H _ _ ?_ h3
  unfold TRow
  rw [List.length_append, trC_snoc]
  exact h2
namespace RgC
variable {w w' : World} {xb kb sb sl m : Nat} {wt : Nat → Nat} {S : Nat → Slt} {tv lv : Value} {A : Nat → EAt} {tag : Nat → Nat} {k : Nat}
def turns (m : Nat) (wt : Nat → Nat) (sl n : Nat) : List (Nat × Nat) := (List.range n).map fun k => (Sc.who m wt sl k + 1, sl)
theorem turns_succ (n : Nat) : turns m wt sl (n + 1) = turns m wt sl n ++ [(Sc.who m wt sl n + 1, sl)] := by unfold turns; rw [List.range_succ, List.map_append]; rfl
theorem turns_length (n : Nat) : (turns m wt sl n).length = n := by unfold turns; simp
def rnRel (w : World) (xb kb sb sl m : Nat) (wt : Nat → Nat) (S : Nat → Slt) (tv lv : Value) (A : Nat → EAt) (tag : Nat → Nat) (n : Nat) (vl vi : Value) (wr : World) : Prop :=
  ∃ i : Nat, i ≤ n ∧ vi = .int .i64 i ∧ RgC wr xb kb sb sl m wt S tv lv A tag i ∧ TRow wr w.heap.size vl (turns m wt sl i) ∧ Mod (fun k => tag k ≠ 0) w wr
def RunsP (w : World) (xb kb sb sl m : Nat) (wt : Nat → Nat) (S : Nat → Slt) (tv lv : Value) (A : Nat → EAt) (tag : Nat → Nat) (n : Nat) (e : Ending) (w' : World) : Prop :=
  ∃ v, e = .returned (.tuple #[v, .int .i64 0]) ∧ RgC w' xb kb sb sl m wt S tv lv A tag n ∧ TRow w' w.heap.size v (turns m wt sl n) ∧ Mod (fun k => tag k ≠ 0) w w'
set_option maxRecDepth 100000 in
set_option maxHeartbeats 4000000 in
theorem run (h : RgC w xb kb sb sl m wt S tv lv A tag 0) (h0 : 0 < m) (n : Nat) (hn : n ≤ 1000) : Calls Tryz.prog 12 #[.pointer (some ⟨sb, 0, none⟩), .int .i64 n] w (RunsP w xb kb sb sl m wt S tv lv A tag n) := by
  have HFin := Lib.hid fun V v (h1 : RgC V xb kb sb sl m wt S tv lv A tag n) (h2 : TRow V w.heap.size v (turns m wt sl n)) (h3 : Mod (fun k => tag k ≠ 0) w V) => (show RunsP w xb kb sb sl m wt S tv lv A tag n (.returned (.tuple #[v, .int .i64 0])) V from ⟨v, rfl, h1, h2, h3⟩)
  generalize RunsP w xb kb sb sl m wt S tv lv A tag n = PQ at *
  have HR0 : Hid (rnRel w xb kb sb sl m wt S tv lv A tag n (.slice none 0 0) (.int .i64 0) w) := Lib.hid ⟨0, by omega, rfl, h, World.ownsRow_nil _ _ _ _, Mod.refl _ _⟩
  have HT0 := Lib.hid fun b hb => h.tag0 (b := b) hb
  have H0 := Lib.hid h0
  have Hi := Lib.hid info_turn
  have a1 : ¬ (n : Int) < 0 := by omega
  have a2 : ¬ (n : Int) > 65536 := by omega
  clear h h0
  go_enter Tryz.func12, Tryz.ntmps12
  go_wp2
  go_loopw [4, 6, 7, 8, 20] (fun vl _ _ _ vi wr => rnRel w xb kb sb sl m wt S tv lv A tag n vl vi wr) (fun _ _ _ _ vi _ => n - (intOf vi).toNat)
  case atStart => exact HR0.out
  case round =>
    clear HR0
    obtain ⟨i, hi, rfl, hrg, hrow, hmo⟩ := hrel
    have HRg := Lib.hid hrg
    have HRow := Lib.hid hrow
    have HMo := Lib.hid hmo
    clear hrg hrow hmo
    by_cases hin : i < n
    · have hin' : (i : Int) < n := by omega
      have HT := Lib.hid (HRg.out.turn H0.out (by omega))
      go_wp2_with fail
      refine HT.out.mono ?_
      rintro e w2 ⟨rfl, hr2, hm2⟩
      have HB2 : Hid (Mod (fun k => tag k ≠ 0) w w2) := Lib.hid (HMo.out.same hm2)
      have HRow2 : Hid (TRow w2 w.heap.size u4 (turns m wt sl i)) := Lib.hid (row_keep HRow.out fun k hk => hm2.block k (World.ownsRow.lt HRow.out k hk).2 fun q => q (HT0.out k (World.ownsRow.lt HRow.out k hk).1))
      have HR2 := Lib.hid hr2
      clear hr2 hm2 HT
      obtain ⟨q, hq⟩ : ∃ q : Nat, Sc.who m wt sl i + 1 = q := ⟨_, rfl⟩
      have hqi : (Sc.who m wt sl i : Int) + 1 = (q : Int) := by omega
      have HQ := Lib.hid hq
      rw [hqi]
      clear hqi hq
      have hk0 := heap_alloc_new w2 (.cells #[.int .i64 q, .int .i64 sl] 31)
      have HB3 := Lib.hid ((Below.refl w2.heap.size w2).alloc (Nat.le_refl _) (.cells #[.int .i64 q, .int .i64 sl] 31))
      have hk1 := heap_alloc_new (w2.alloc (.cells #[.int .i64 q, .int .i64 sl] 31)) (.cells #[.int .i64 q, .int .i64 sl] 31)
      have hz1 : (w2.alloc (.cells #[.int .i64 q, .int .i64 sl] 31)).heap.size = w2.heap.size + 1 := by simp
      rw [hz1] at hk1
      have HK1 := Lib.hid hk1
      have HB4 := Lib.hid (HB3.out.alloc HB3.out.size (.cells #[.int .i64 q, .int .i64 sl] 31))
      have HZ := Lib.hid HB2.out.size
      clear hk0 hk1 hz1
      go_wp2_with (first
        | (at_builtin; refine wpList_app_turn (by rfl) _ _ (by rfl) w.heap.size _ _ (by rfl) (row_keep HRow2.out fun k hk => HB4.out.block k (World.ownsRow.lt HRow2.out k hk).2) _ (q, sl) (by rfl) HK1.out (by rw [turns_length]; omega) (Nat.le_trans HZ.out HB4.out.size) ?_; intro v' w5 hr5 hg5))
      have hm4 : Mod (fun k => u4.ownBlock = some k) w2 w5 := (Mod.of_below HB4.out _).same ⟨hg5.os, hg5.tape, hg5.output, hg5.size, fun k hk hn => hg5.block k hk fun e => hn e.symm⟩
      have hm5 : Mod (fun k => tag k = 0) w2 w5 := hm4.mono fun k _ q => HT0.out k (World.ownsRow.lt HRow2.out k q).1
      have hm6 : Mod (fun k => tag k ≠ 0) w w5 := HB2.out.trans hm4 fun k _ q => .inr (World.ownsRow.lt HRow2.out k q).1
      rw [← HQ.out, ← turns_succ] at hr5
      exact ⟨⟨i + 1, by omega, by go_num, HR2.out.keep0 hm5, hr5, hm6⟩, by simp [intOf]; omega⟩
    · obtain rfl : i = n := by omega
      have hin' : ¬ ((i : Int) < i) := by omega
      go_wp2
      exact HFin.out _ _ HRg.out HRow.out HMo.out
end RgC
end Go.Proofs.YthgddpgifdhnjaaGreat
namespace Go.Proofs.YthgddpgifdhnjaaGreat
open Go.RowKit
set_option linter.unusedVariables false
set_option linter.unusedSimpArgs false
def insC (l : List Ins) : List Value := l.flatMap fun x => [.int .u8 x.op, .int .u8 x.d, .int .u8 x.a, .int .u8 x.b, .int .u32 x.imm]
theorem insC_snoc (l : List Ins) (x : Ins) : insC (l ++ [x]) = insC l ++ [.int .u8 x.op, .int .u8 x.d, .int .u8 x.a, .int .u8 x.b, .int .u32 x.imm] := by unfold insC; rw [List.flatMap_append]; rfl
theorem insC_at : ∀ (T : List Ins) (i : Nat) (x : Ins), T[i]? = some x → (insC T)[i * 5]? = some (.int .u8 x.op) ∧ (insC T)[i * 5 + 1]? = some (.int .u8 x.d) ∧ (insC T)[i * 5 + 2]? = some (.int .u8 x.a) ∧ (insC T)[i * 5 + 3]? = some (.int .u8 x.b) ∧ (insC T)[i * 5 + 4]? = some (.int .u32 x.imm)
  | y :: T, 0, t, h => by
    simp at h
    subst h
    exact ⟨rfl, rfl, rfl, rfl, rfl⟩
  | y :: T, i + 1, t, h => by
    have := insC_at T i t (by simpa using h)
    have e : insC (y :: T) = [.int .u8 y.op, .int .u8 y.d, .int .u8 y.a, .int .u8 y.b, .int .u32 y.imm] ++ insC T := rfl
    rw [e]
    have q : ∀ j, ([Value.int .u8 y.op, .int .u8 y.d, .int .u8 y.a, .int .u8 y.b, .int .u32 y.imm] ++ insC T)[(i + 1) * 5 + j]? = (insC T)[i * 5 + j]? := fun j => by
      rw [List.getElem?_append_right (by simp; omega)]
      congr 1
      simp
      omega
    exact ⟨(q 0).trans this.1, (q 1).trans this.2.1, (q 2).trans this.2.2.1, (q 3).trans this.2.2.2.1, (q 4).trans this.2.2.2.2⟩
def CRow (w : World) (base : Nat) (v : Value) (l : List Ins) : Prop := w.ownsRow base 180 5 v l.length (insC l)
theorem info_insn : (Tryz.prog.info? 180).map (fun i => (i.zero, i.size, i.bytes)) = some (some (.agg #[.int .u8 0, .int .u8 0, .int .u8 0, .int .u8 0, .int .u32 0]), 5, 8) := by kernel_rfl
theorem wpList_app_ins {w : World} {ops : Array Oper} {rest : List Oper} {o : Oper} {a : Act} {Q : Exit → Act → World → Prop} (hgd : o.guard = none) (s x : Operand)
    (ho : o.op = .call { callee := .builtin .append, args := #[s, x], argTypes := #[81, 81] }) (base : Nat) (v : Value) (T : List Ins) (hs : a.eval s = v) (h : CRow w base v T) (b : Nat) (t : Ins)
    (hx : a.eval x = .slice (some ⟨b, 0, none⟩) 1 1) (hb : w.heap[b]? = some (.cells #[.int .u8 t.op, .int .u8 t.d, .int .u8 t.a, .int .u8 t.b, .int .u32 t.imm] 180 (0, 0))) (hl : T.length ≤ 1000000) (hbase : base ≤ w.heap.size)
    (H : ∀ g cap w', CRow w' base (.slice (some ⟨g, 0, none⟩) (T.length + 1) cap) (T ++ [t]) → w.grownBy w' v.ownBlock → wpList Tryz.prog ops Q rest (a.put o.dst (.slice (some ⟨g, 0, none⟩) (T.length + 1) cap)) w') : wpList Tryz.prog ops Q (o :: rest) a w := by
  obtain ⟨i0, hi, hz0, hz1, hz2⟩ := info_parts info_insn
  refine wpList_append_lies w hgd s x _ ho base 180 i0 (.agg #[.int .u8 0, .int .u8 0, .int .u8 0, .int .u8 0, .int .u32 0]) 5 8 Tryz.underlying81 hi hz0 hz1 hz2 rfl (by omega) v T.length (insC T) hs h ⟨b, 0, none⟩ 1 1 [.int .u8 t.op, .int .u8 t.d, .int .u8 t.a, .int .u8 t.b, .int .u32 t.imm] hx rfl (World.news_of_block hb) (fun x hx => by simp at hx; rcases hx with rfl | rfl | rfl | rfl | rfl <;> rfl) (by omega) (by unfold maxLen; omega) (by omega) hbase _ rfl fun g cap w' h2 h3 h4 h5 => H _ _ _ ?_ h3
  unfold CRow
  rw [List.length_append, insC_snoc]
  exact h2
theorem CRow.code {w : World} {base : Nat} {v : Value} {l : List Ins} (h : CRow w base v l) {f : Nat → Ins} (hf : ∀ i, i < l.length → l[i]? = some (f i)) : ∃ a c, v = .slice a l.length c ∧ Cp.Code w a l.length f := by
  rcases h.2 with ⟨rfl, h0⟩ | ⟨g, cap, cur, rfl, h0, hg, h1, h2, h3, h4⟩
  · exact ⟨none, 0, by rw [h0], fun q => by omega⟩
  · refine ⟨some ⟨g, 0, none⟩, cap, rfl, fun _ => ⟨g, 0, rfl, fun i hi => ?_⟩⟩
    obtain ⟨q0, q1, q2, q3, q4⟩ := insC_at l i (f i) (hf i hi)
    have key : ∀ j, j < 5 → w.cell? ⟨g, 0 + i * 5 + j, none⟩ = (insC l)[i * 5 + j]? := fun j hj => by
      unfold World.cell?
      rw [hg, h4.symm]
      show cur[0 + i * 5 + j]? = _
      rw [List.getElem?_take_of_lt (by omega), Nat.zero_add]
      simp
    exact ⟨(key 0 (by omega)).trans q0, (key 1 (by omega)).trans q1, (key 2 (by omega)).trans q2, (key 3 (by omega)).trans q3, (key 4 (by omega)).trans q4⟩
namespace Lp
def zC : Array Value := #[.slice none 0 0, .int .u32 0, .slice none 0 0, .int .u16 0, .slice none 0 0, .int .u16 0, .string ByteArray.empty]
theorem z_cells {w : World} {b : Nat} (h : w.heap[b]? = some (.cells zC 83 (0, 0))) : w.cell? ⟨b, 0, none⟩ = some (.slice none 0 0) ∧ w.cell? ⟨b, 1, none⟩ = some (.int .u32 0) ∧ w.cell? ⟨b, 2, none⟩ = some (.slice none 0 0) ∧ w.cell? ⟨b, 3, none⟩ = some (.int .u16 0) ∧ w.cell? ⟨b, 4, none⟩ = some (.slice none 0 0) ∧ w.cell? ⟨b, 5, none⟩ = some (.int .u16 0) ∧ w.cell? ⟨b, 6, none⟩ = some (.string ByteArray.empty) ∧ ∀ j, w.frozen? ⟨b, j, none⟩ = false := by
  refine ⟨?_, ?_, ?_, ?_, ?_, ?_, ?_, fun j => ?_⟩
  · unfold World.cell?; rw [h]; rfl
  · unfold World.cell?; rw [h]; rfl
  · unfold World.cell?; rw [h]; rfl
  · unfold World.cell?; rw [h]; rfl
  · unfold World.cell?; rw [h]; rfl
  · unfold World.cell?; rw [h]; rfl
  · unfold World.cell?; rw [h]; rfl
  · unfold World.frozen?; rw [h]; simp
def stC (r : Nat) (cv : Value) : Array Value := #[.slice none 0 0, .int .u32 256, .slice (some ⟨r + 1, 0, none⟩) 2 2, .int .u16 256, cv, .int .u16 0, .string ByteArray.empty]
def rdRel (w : World) (n : Nat) (vi : Value) (wr : World) : Prop :=
  ∃ (k : Nat) (cv : Value), k + 1 ≤ n ∧ vi = .int .i64 ((k : Int) + 1) ∧ CRow wr (w.heap.size + 3) cv (List.replicate k ⟨17, 1, 1, 0, 1⟩) ∧ wr.heap[w.heap.size + 1 + 1]? = some (.cells (stC w.heap.size cv) 83 (0, 0)) ∧ wr.heap[w.heap.size + 1]? = some (.cells #[.int .u8 8, .int .u8 4] 5 (0, 0)) ∧ wr.heap[w.heap.size]? = some (.cells zC 83 (0, 0)) ∧ Below w.heap.size w wr ∧ w.heap.size + 3 ≤ wr.heap.size
def RoundP (w : World) (n : Nat) (e : Ending) (w' : World) : Prop := ∃ x : Cp.St, e = .returned (.agg x.cells) ∧ x.ok w' ∧ x.pgs = laid n ∧ Below w.heap.size w w'
theorem st_cells {w : World} {b r : Nat} {cv : Value} (h : w.heap[b]? = some (.cells (stC r cv) 83 (0, 0))) : w.cell? ⟨b, 0, none⟩ = some (.slice none 0 0) ∧ w.cell? ⟨b, 1, none⟩ = some (.int .u32 256) ∧ w.cell? ⟨b, 2, none⟩ = some (.slice (some ⟨r + 1, 0, none⟩) 2 2) ∧ w.cell? ⟨b, 3, none⟩ = some (.int .u16 256) ∧ w.cell? ⟨b, 4, none⟩ = some cv ∧ w.cell? ⟨b, 5, none⟩ = some (.int .u16 0) ∧ w.cell? ⟨b, 6, none⟩ = some (.string ByteArray.empty) ∧ ∀ j, w.frozen? ⟨b, j, none⟩ = false := by
  refine ⟨?_, ?_, ?_, ?_, ?_, ?_, ?_, fun j => ?_⟩
  · unfold World.cell?; rw [h]; rfl
  · unfold World.cell?; rw [h]; rfl
  · unfold World.cell?; rw [h]; rfl
  · unfold World.cell?; rw [h]; rfl
  · unfold World.cell?; rw [h]; rfl
  · unfold World.cell?; rw [h]; rfl
  · unfold World.cell?; rw [h]; rfl
  · unfold World.frozen?; rw [h]; simp
set_option maxRecDepth 100000 in
set_option maxHeartbeats 4000000 in
theorem round (w : World) (n : Nat) (n1 : 1 ≤ n) (n8 : n ≤ 8) : Calls Tryz.prog 69 #[.int .i64 n] w (RoundP w n) := by
  generalize hPQ : RoundP w n = PQ
  have HPQ := Lib.hid hPQ
  clear hPQ
  have a0 := (Below.refl w.heap.size w).alloc (Nat.le_refl _) (.cells zC 83)
  have z0 : (w.alloc (.cells zC 83)).heap.size = w.heap.size + 1 := by simp
  have k0 := heap_alloc_new w (.cells zC 83)
  generalize hW0 : w.alloc (.cells zC 83) = W0 at *
  have a1 := a0.alloc a0.size (.cells #[.int .u8 8, .int .u8 4] 5)
  have z1 : (W0.alloc (.cells #[.int .u8 8, .int .u8 4] 5)).heap.size = w.heap.size + 2 := by simp [z0]
  have k1 := heap_alloc_new W0 (.cells #[.int .u8 8, .int .u8 4] 5)
  have k01 := (Below.heap_alloc W0 (.cells #[.int .u8 8, .int .u8 4] 5) _ (lt_of_block k0)).trans k0
  generalize hW1 : W0.alloc (.cells #[.int .u8 8, .int .u8 4] 5) = W1 at *
  have a2 := a1.alloc a1.size (.cells (stC w.heap.size (.slice none 0 0)) 83)
  have z2 : (W1.alloc (.cells (stC w.heap.size (.slice none 0 0)) 83)).heap.size = w.heap.size + 3 := by simp [z1]
  have k2 := heap_alloc_new W1 (.cells (stC w.heap.size (.slice none 0 0)) 83)
  have k02 := (Below.heap_alloc W1 (.cells (stC w.heap.size (.slice none 0 0)) 83) _ (lt_of_block k01)).trans k01
  have k12 := (Below.heap_alloc W1 (.cells (stC w.heap.size (.slice none 0 0)) 83) _ (lt_of_block k1)).trans k1
  rw [z0] at k12
  rw [z1] at k2
  have HR0 : Hid (rdRel w n (.int .i64 1) (W1.alloc (.cells (stC w.heap.size (.slice none 0 0)) 83))) := Lib.hid ⟨0, .slice none 0 0, by omega, rfl, World.ownsRow_nil _ _ _ _, k2, k12, k02, a2, by omega⟩
  subst hW1 hW0
  clear a0 a1 a2 z0 z1 z2 k0 k1 k2 k01 k02 k12
  go_enter Tryz.func69, Tryz.ntmps69
  go_wp2
  go_loopw [4] (fun vi wr => rdRel w n vi wr) (fun vi _ => n - (intOf vi).toNat)
  case atStart => exact HR0.out
  case round =>
    clear HR0
    obtain ⟨k, cv, hk, rfl, hrow, hst, hpm, hr0, hb, hz⟩ := hrel
    obtain ⟨s0, s1, s2, s3, s4, s5, s6, sf⟩ := st_cells hst
    have sf4 := sf 4
    have HH := Lib.hid (And.intro hrow (And.intro hst (And.intro hpm (And.intro hr0 (And.intro hb hz)))))
    obtain ⟨hsz⟩ : Nonempty (w.heap.size + 3 ≤ wr.heap.size) := ⟨hz⟩
    have HBa := Lib.hid fun (o : Obj) => (Below.refl wr.heap.size wr).alloc (Nat.le_refl _) o
    -- what a store into the box leaves
    have HSt : Hid (∀ (W : World) (cv' : Value) (l : List Ins), CRow W (w.heap.size + 3) cv' l → Mod (fun j => cv.ownBlock = some j) wr W → (∃ c, (W.setCell ⟨w.heap.size + 1 + 1, 4, none⟩ cv').heap[w.heap.size + 1 + 1]? = some (.cells (stC w.heap.size cv') 83 (0, 0)) ∧ c = 0) ∧ CRow (W.setCell ⟨w.heap.size + 1 + 1, 4, none⟩ cv') (w.heap.size + 3) cv' l ∧ (W.setCell ⟨w.heap.size + 1 + 1, 4, none⟩ cv').heap[w.heap.size + 1]? = some (.cells #[.int .u8 8, .int .u8 4] 5 (0, 0)) ∧ (W.setCell ⟨w.heap.size + 1 + 1, 4, none⟩ cv').heap[w.heap.size]? = some (.cells zC 83 (0, 0)) ∧ Below w.heap.size w (W.setCell ⟨w.heap.size + 1 + 1, 4, none⟩ cv') ∧ w.heap.size + 3 ≤ (W.setCell ⟨w.heap.size + 1 + 1, 4, none⟩ cv').heap.size ∧ W.cell? ⟨w.heap.size + 1 + 1, 4, none⟩ = some cv ∧ W.frozen? ⟨w.heap.size + 1 + 1, 4, none⟩ = false) := Lib.hid fun W cv' l h1 h2 => by
      have hown : ∀ j, cv.ownBlock = some j → w.heap.size + 3 ≤ j := fun j hj => (World.ownsRow.lt hrow j hj).1
      have hown' : ∀ j, cv'.ownBlock = some j → w.heap.size + 3 ≤ j := fun j hj => (World.ownsRow.lt h1 j hj).1
      have hm : Mod (fun j => j = w.heap.size + 1 + 1) W (W.setCell ⟨w.heap.size + 1 + 1, 4, none⟩ cv') := Mod.setCell (F := fun j => j = w.heap.size + 1 + 1) (Mod.refl _ _) ⟨w.heap.size + 1 + 1, 4, none⟩ (.inl rfl) _
      have hstW := (h2.block (w.heap.size + 1 + 1) (by omega) fun q => by have := hown _ q; omega).trans hst
      obtain ⟨_, _, _, _, g4, _, _, gf⟩ := st_cells hstW
      refine ⟨⟨0, heap_setCell_same _ _ _ _ _ _ hstW, rfl⟩, row_keep h1 fun j hj => hm.block j (World.ownsRow.lt h1 j hj).2 fun e => by have := hown' j hj; omega, ?_, ?_, ?_, ?_, g4, gf 4⟩
      · exact (hm.block _ (by have := h2.size; omega) (by omega)).trans ((h2.block _ (by omega) fun q => by have := hown _ q; omega).trans hpm)
      · exact (hm.block _ (by have := h2.size; omega) (by omega)).trans ((h2.block _ (by omega) fun q => by have := hown _ q; omega).trans hr0)
      · exact Mod.below (Mod.below hb h2 (by omega) fun j _ q => by have := hown j q; omega) hm (by have := h2.size; omega) fun j _ q => by omega
      · have := h2.size
        have := hm.size
        omega
    have HRow := Lib.hid hrow
    have HSz := Lib.hid hsz
    have HNew := Lib.hid fun (o : Obj) => heap_alloc_new wr o
    have HK : Hid (k ≤ 8) := Lib.hid (by omega)
    clear hrow hst hpm hr0 hb hz sf HH hsz
    by_cases hkn : k + 1 < n
    · have hkn' : (k : Int) + 1 < n := by omega
      go_wp2_with (first
        | (at_builtin; refine wpList_app_ins (by rfl) _ _ (by rfl) (w.heap.size + 3) _ _ (by rfl) (row_keep HRow.out fun j hj => (HBa.out _).block j (World.ownsRow.lt HRow.out j hj).2) _ ⟨17, 1, 1, 0, 1⟩ (by rfl) (HNew.out _) (by have := HK.out; simp; omega) (by have := HSz.out; simp; omega) ?_; intro g cap w5 hr5 hg5; simp only [List.length_replicate] at hr5; have hm5 : Mod (fun j => cv.ownBlock = some j) wr w5 := (Mod.of_below (HBa.out _) _).same ⟨hg5.os, hg5.tape, hg5.output, hg5.size, fun j hj hn => hg5.block j hj fun e => hn e.symm⟩; have HE := Lib.hid (HSt.out w5 _ _ hr5 hm5); obtain ⟨_, _, _, _, _, _, t4, tf⟩ := HE.out; clear hr5 hg5 hm5))
      obtain ⟨⟨_, q1, _⟩, q2, q3, q4, q5, q6, _, _⟩ := HE.out
      refine ⟨⟨k + 1, _, by omega, by go_num, ?_, q1, q3, q4, q5, q6⟩, by simp [intOf]; omega⟩
      rw [List.replicate_succ']
      exact q2
    · have hkn' : ¬ (k : Int) + 1 < n := by omega
      go_wp2_with (first
        | (at_builtin; refine wpList_app_ins (by rfl) _ _ (by rfl) (w.heap.size + 3) _ _ (by rfl) (row_keep HRow.out fun j hj => (HBa.out _).block j (World.ownsRow.lt HRow.out j hj).2) _ ⟨40, 0, 0, 0, 256⟩ (by rfl) (HNew.out _) (by have := HK.out; simp; omega) (by have := HSz.out; simp; omega) ?_; intro g cap w5 hr5 hg5; simp only [List.length_replicate] at hr5; have hm5 : Mod (fun j => cv.ownBlock = some j) wr w5 := (Mod.of_below (HBa.out _) _).same ⟨hg5.os, hg5.tape, hg5.output, hg5.size, fun j hj hn => hg5.block j hj fun e => hn e.symm⟩; have HE := Lib.hid (HSt.out w5 _ _ hr5 hm5); obtain ⟨⟨_, t0, _⟩, _, _, z0, _, _, t4, tf⟩ := HE.out; obtain ⟨p0, p1, p2, p3, p4, p5, p6, _⟩ := st_cells t0; obtain ⟨z0, z1, z2, z3, z4, z5, z6, zf⟩ := z_cells z0; have zf0 := zf 0; have zf1 := zf 1; have zf2 := zf 2; have zf3 := zf 3; have zf4 := zf 4; have zf5 := zf 5; have zf6 := zf 6; clear hr5 hg5 hm5 t0 zf))
      obtain ⟨_, e1, e2, e3, e4, e5, _, _⟩ := HE.out
      have hm9 : Mod (fun j => j = w.heap.size) (w5.setCell ⟨w.heap.size + 1 + 1, 4, none⟩ (.slice (some ⟨g, 0, none⟩) (k + 1) cap)) ((((((((w5.setCell ⟨w.heap.size + 1 + 1, 4, none⟩ (.slice (some ⟨g, 0, none⟩) (k + 1) cap)).setCell ⟨w.heap.size, 0, none⟩ (.slice none 0 0)).setCell ⟨w.heap.size, 1, none⟩ (.int .u32 256)).setCell ⟨w.heap.size, 2, none⟩ (.slice (some ⟨w.heap.size + 1, 0, none⟩) 2 2)).setCell ⟨w.heap.size, 3, none⟩ (.int .u16 256)).setCell ⟨w.heap.size, 4, none⟩ (.slice (some ⟨g, 0, none⟩) (k + 1) cap)).setCell ⟨w.heap.size, 5, none⟩ (.int .u16 0)).setCell ⟨w.heap.size, 6, none⟩ (.string ByteArray.empty)) :=
        Mod.setCell (F := fun j => j = w.heap.size) (Mod.setCell (F := fun j => j = w.heap.size) (Mod.setCell (F := fun j => j = w.heap.size) (Mod.setCell (F := fun j => j = w.heap.size) (Mod.setCell (F := fun j => j = w.heap.size) (Mod.setCell (F := fun j => j = w.heap.size) (Mod.setCell (F := fun j => j = w.heap.size) (Mod.refl _ _) ⟨w.heap.size, 0, none⟩ (.inl rfl) _) ⟨w.heap.size, 1, none⟩ (.inl rfl) _) ⟨w.heap.size, 2, none⟩ (.inl rfl) _) ⟨w.heap.size, 3, none⟩ (.inl rfl) _) ⟨w.heap.size, 4, none⟩ (.inl rfl) _) ⟨w.heap.size, 5, none⟩ (.inl rfl) _) ⟨w.heap.size, 6, none⟩ (.inl rfl) _
      have hk9 : ((((((((w5.setCell ⟨w.heap.size + 1 + 1, 4, none⟩ (.slice (some ⟨g, 0, none⟩) (k + 1) cap)).setCell ⟨w.heap.size, 0, none⟩ (.slice none 0 0)).setCell ⟨w.heap.size, 1, none⟩ (.int .u32 256)).setCell ⟨w.heap.size, 2, none⟩ (.slice (some ⟨w.heap.size + 1, 0, none⟩) 2 2)).setCell ⟨w.heap.size, 3, none⟩ (.int .u16 256)).setCell ⟨w.heap.size, 4, none⟩ (.slice (some ⟨g, 0, none⟩) (k + 1) cap)).setCell ⟨w.heap.size, 5, none⟩ (.int .u16 0)).setCell ⟨w.heap.size, 6, none⟩ (.string ByteArray.empty)).heap[w.heap.size]? = some (.cells (stC w.heap.size (.slice (some ⟨g, 0, none⟩) (k + 1) cap)) 83 (0, 0)) :=
        heap_setCell_same _ _ _ _ _ _ (heap_setCell_same _ _ _ _ _ _ (heap_setCell_same _ _ _ _ _ _ (heap_setCell_same _ _ _ _ _ _ (heap_setCell_same _ _ _ _ _ _ (heap_setCell_same _ _ _ _ _ _ (heap_setCell_same _ _ _ _ _ _ e3))))))
      clear p0 p1 p2 p3 p4 p5 p6 z0 z1 z2 z3 z4 z5 z6 zf0 zf1 zf2 zf3 zf4 zf5 zf6 t4 tf s0 s1 s2 s3 s4 s5 s6 sf4
      generalize (((((((w5.setCell ⟨w.heap.size + 1 + 1, 4, none⟩ (.slice (some ⟨g, 0, none⟩) (k + 1) cap)).setCell ⟨w.heap.size, 0, none⟩ (.slice none 0 0)).setCell ⟨w.heap.size, 1, none⟩ (.int .u32 256)).setCell ⟨w.heap.size, 2, none⟩ (.slice (some ⟨w.heap.size + 1, 0, none⟩) 2 2)).setCell ⟨w.heap.size, 3, none⟩ (.int .u16 256)).setCell ⟨w.heap.size, 4, none⟩ (.slice (some ⟨g, 0, none⟩) (k + 1) cap)).setCell ⟨w.heap.size, 5, none⟩ (.int .u16 0)).setCell ⟨w.heap.size, 6, none⟩ (.string ByteArray.empty) = w9 at *
      obtain ⟨p0, p1, p2, p3, p4, p5, p6, _⟩ := st_cells hk9
      have hpm := (hm9.block _ (lt_of_block e2) (by omega)).trans e2
      have hrow : CRow w9 (w.heap.size + 3) (.slice (some ⟨g, 0, none⟩) (k + 1) cap) (List.replicate k ⟨17, 1, 1, 0, 1⟩ ++ [⟨40, 0, 0, 0, 256⟩]) := row_keep e1 fun j hj => hm9.block j (World.ownsRow.lt e1 j hj).2 fun e => by have := (World.ownsRow.lt e1 j hj).1; omega
      have hbe := Mod.below e4 hm9 (by omega) fun j _ q => by omega
      obtain rfl : n = k + 1 := by omega
      obtain ⟨a, c, hac, hcode⟩ := hrow.code (f := code (k + 1)) fun i hi => by
        simp at hi
        unfold code
        by_cases q : i < k
        · rw [if_pos (by omega), List.getElem?_append_left (by simpa using q), List.getElem?_replicate, if_pos q]
        · obtain rfl : i = k := by omega
          rw [if_neg (by omega), List.getElem?_append_right (by simp)]
          simp
      have hac' : a = some ⟨g, 0, none⟩ := by
        simp only [Value.slice.injEq] at hac
        exact hac.1.symm
      subst hac'
      simp only [List.length_append, List.length_replicate, List.length_cons, List.length_nil, Nat.zero_add] at hcode
      have hp0 : w9.cell? ⟨w.heap.size + 1, 0, none⟩ = some (.int .u8 8) := by unfold World.cell?; rw [hpm]; rfl
      have hp1 : w9.cell? ⟨w.heap.size + 1, 1, none⟩ = some (.int .u8 4) := by unfold World.cell?; rw [hpm]; rfl
      have HE9 : Hid (RoundP w (k + 1) (.returned (.agg (stC w.heap.size (.slice (some ⟨g, 0, none⟩) (k + 1) cap)))) w9) := Lib.hid ⟨⟨none, 0, 0, fun _ => 0, 256, some ⟨w.heap.size + 1, 0, none⟩, 2, 2, fun i => if i = 0 then 8 else 4, 256, some ⟨g, 0, none⟩, k + 1, cap, code (k + 1), 0, ByteArray.empty⟩, rfl, ⟨fun h => absurd h (Nat.lt_irrefl 0), fun i hi => absurd hi (Nat.not_lt_zero i), (by decide : (0 : Nat) ≤ 9223372036854775807), (by decide : (0 : Int) ≤ 256), (by decide : (256 : Int) ≤ 4294967295), fun _ => ⟨w.heap.size + 1, 0, rfl, lt_of_block hpm, fun i hi => by
        have hi : i < 2 := hi
        have : i = 0 ∨ i = 1 := by omega
        rcases this with rfl | rfl
        · exact hp0
        · exact hp1⟩, fun i hi => by
        show 0 ≤ (if i = 0 then (8 : Int) else 4) ∧ (if i = 0 then (8 : Int) else 4) ≤ 255
        split <;> omega, (by decide : (2 : Nat) ≤ 16), (by decide : (0 : Int) ≤ 256), (by decide : (256 : Int) ≤ 65535), hcode, fun i hi => by
        show (code (k + 1) i).ok
        unfold code
        split <;> exact ⟨by decide, by decide, by decide, by decide, by decide, by decide, by decide, by decide, by decide, by decide⟩, by show k + 1 ≤ 1000; omega, (by decide : (0 : Int) ≤ 0), (by decide : (0 : Int) ≤ 65535), (by decide : ByteArray.empty.size ≤ 65536)⟩, rfl, hbe⟩
      rw [HPQ.out] at HE9
      clear hp0 hp1 hcode hac hbe hrow hpm hm9 e1 e2 e3 e4 e5 hk9
      refine bodyPost_ret (v := .agg (stC w.heap.size (.slice (some ⟨g, 0, none⟩) (k + 1) cap))) (by simp [results, Tryz.results69, go_sem, stC, *]) rfl ?_
      exact HE9.out
end Lp
end Go.Proofs.YthgddpgifdhnjaaGreat
