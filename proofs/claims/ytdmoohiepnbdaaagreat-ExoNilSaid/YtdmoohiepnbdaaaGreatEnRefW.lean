/- RefW, Text06 in one text. -/
import Derived.Test.YtdmoohiepnbdaaaGreatProg
import Derived.Test.YtdmoohiepnbdaaaGreatEnPair
import Derived.Test.YtdmoohiepnbdaaaGreatEnBase
import Derived.Test.YtdmoohiepnbdaaaGreatEnEnvX
import Derived.Deep.DeepCutAuto
import Derived.Test.YtdmoohiepnbdaaaGreatEnSpcW
set_option linter.unusedVariables false
set_option linter.unusedSimpArgs false
namespace Go.Proofs.YtdmoohiepnbdaaaGreat.Ins
open Go.RowKit Word
set_option linter.unusedVariables false
set_option linter.unusedSimpArgs false
def rowV (op : Int) : Value := if usesV op = 0 then .agg #[.bool true, .bool true, .bool true, .bool false] else .agg #[.bool (hasV op 1), .bool (hasV op 2), .bool (hasV op 4), .bool (hasV op 8)]
def isV (op : Int) : Bool := usesV op != 0
def UsesPost (op : Int) (w : World) (e : Ending) (w' : World) : Prop := e = .returned (.tuple #[rowV op, .bool (isV op)]) ∧ Below w.heap.size w w'
theorem uses_mk {op : Int} {w w' : World} {a b c d i : Bool} (h : Value.agg #[.bool a, .bool b, .bool c, .bool d] = rowV op) (hi : i = isV op) (hb : Below w.heap.size w w') : UsesPost op w (.returned (.tuple #[.agg #[.bool a, .bool b, .bool c, .bool d], .bool i])) w' := ⟨by rw [h, hi], hb⟩
theorem row_low {op : Int} (h : 1 ≤ op ∧ op ≤ 14) : rowV op = .agg #[.bool true, .bool true, .bool true, .bool false] ∧ isV op = true := by
  have : usesV op = 7 := by unfold usesV; rw [if_pos h]
  unfold rowV isV hasV
  rw [this]
  exact ⟨rfl, rfl⟩
set_option maxRecDepth 100000 in
set_option maxHeartbeats 4000000 in
theorem uses_at (op : Int) (h : op = 17 ∨ op = 19 ∨ op = 22 ∨ op = 23 ∨ op = 24 ∨ op = 25 ∨ op = 26 ∨ op = 29 ∨ op = 30 ∨ op = 33 ∨ op = 34 ∨ op = 32 ∨ op = 41 ∨ op = 35 ∨ op = 36 ∨ op = 43 ∨ op = 44 ∨ op = 45 ∨ op = 46 ∨ op = 40 ∨ op = 50 ∨ op = 42) (w : World) :
    Calls Tryz.prog 287 #[.int .u8 op] w (UsesPost op w) := by
  have HF : Hid (∀ (a b c d i : Bool) w', Value.agg #[.bool a, .bool b, .bool c, .bool d] = rowV op → i = isV op → Below w.heap.size w w' → UsesPost op w (.returned (.tuple #[.agg #[.bool a, .bool b, .bool c, .bool d], .bool i])) w') := Lib.hid fun a b c d i w' h1 h2 h3 => uses_mk h1 h2 h3
  generalize hP : UsesPost op w = PQ at *
  clear hP
  rcases h with rfl | rfl | rfl | rfl | rfl | rfl | rfl | rfl | rfl | rfl | rfl | rfl | rfl | rfl | rfl | rfl | rfl | rfl | rfl | rfl | rfl | rfl
  all_goals
    go_enter Tryz.func287, Tryz.ntmps287
    go_wp2
    first
      | exact bodyPost_ret (v := .tuple #[.agg #[.bool true, .bool true, .bool false, .bool true], .bool true]) (by simp [results, Tryz.results287, go_sem]; done) rfl (HF.out _ _ _ _ _ _ rfl rfl ((Below.refl _ _).alloc (Nat.le_refl _) _))
      | exact bodyPost_ret (v := .tuple #[.agg #[.bool true, .bool false, .bool false, .bool true], .bool true]) (by simp [results, Tryz.results287, go_sem]; done) rfl (HF.out _ _ _ _ _ _ rfl rfl ((Below.refl _ _).alloc (Nat.le_refl _) _))
      | exact bodyPost_ret (v := .tuple #[.agg #[.bool false, .bool true, .bool true, .bool true], .bool true]) (by simp [results, Tryz.results287, go_sem]; done) rfl (HF.out _ _ _ _ _ _ rfl rfl ((Below.refl _ _).alloc (Nat.le_refl _) _))
      | exact bodyPost_ret (v := .tuple #[.agg #[.bool false, .bool false, .bool false, .bool true], .bool true]) (by simp [results, Tryz.results287, go_sem]; done) rfl (HF.out _ _ _ _ _ _ rfl rfl ((Below.refl _ _).alloc (Nat.le_refl _) _))
      | exact bodyPost_ret (v := .tuple #[.agg #[.bool false, .bool true, .bool false, .bool false], .bool true]) (by simp [results, Tryz.results287, go_sem]; done) rfl (HF.out _ _ _ _ _ _ rfl rfl ((Below.refl _ _).alloc (Nat.le_refl _) _))
set_option maxRecDepth 100000 in
set_option maxHeartbeats 4000000 in
theorem uses_else (op : Int) (o0 : 0 ≤ op) (o1 : op ≤ 255) (h : ¬ (op = 17 ∨ op = 19 ∨ op = 22 ∨ op = 23 ∨ op = 24 ∨ op = 25 ∨ op = 26 ∨ op = 29 ∨ op = 30 ∨ op = 33 ∨ op = 34 ∨ op = 32 ∨ op = 41 ∨ op = 35 ∨ op = 36 ∨ op = 43 ∨ op = 44 ∨ op = 45 ∨ op = 46 ∨ op = 40 ∨ op = 50 ∨ op = 42)) (w : World) :
    Calls Tryz.prog 287 #[.int .u8 op] w (UsesPost op w) := by
  have HF : Hid (∀ (a b c d i : Bool) w', Value.agg #[.bool a, .bool b, .bool c, .bool d] = rowV op → i = isV op → Below w.heap.size w w' → UsesPost op w (.returned (.tuple #[.agg #[.bool a, .bool b, .bool c, .bool d], .bool i])) w') := Lib.hid fun a b c d i w' h1 h2 h3 => uses_mk h1 h2 h3
  generalize hP : UsesPost op w = PQ at *
  clear hP
  have f : ∀ k : Int, ¬ op = k → (op == k) = false := fun k hk => by simpa using hk
  have f17 := f 17 (by omega); have f19 := f 19 (by omega); have f22 := f 22 (by omega); have f23 := f 23 (by omega); have f24 := f 24 (by omega); have f25 := f 25 (by omega); have f26 := f 26 (by omega)
  have f29 := f 29 (by omega); have f30 := f 30 (by omega); have f33 := f 33 (by omega); have f34 := f 34 (by omega); have f32 := f 32 (by omega); have f41 := f 41 (by omega); have f35 := f 35 (by omega)
  have f36 := f 36 (by omega); have f43 := f 43 (by omega); have f44 := f 44 (by omega); have f45 := f 45 (by omega); have f46 := f 46 (by omega); have f40 := f 40 (by omega); have f50 := f 50 (by omega); have f42 := f 42 (by omega)
  have Hr : Hid (rowV op = .agg #[.bool true, .bool true, .bool true, .bool false] ∧ isV op = (decide (1 ≤ op) && decide (op ≤ 14))) := Lib.hid (by
    by_cases g : 1 ≤ op ∧ op ≤ 14
    · rw [(row_low g).1, (row_low g).2, decide_eq_true g.1, decide_eq_true g.2]; exact ⟨rfl, rfl⟩
    · have : usesV op = 0 := by unfold usesV; rw [if_neg g, if_neg (by omega), if_neg (by omega), if_neg (by omega), if_neg (by omega), if_neg (by omega)]
      unfold rowV isV
      rw [this, if_pos rfl]
      refine ⟨rfl, ?_⟩
      by_cases g1 : 1 ≤ op
      · rw [decide_eq_true g1, decide_eq_false (by omega)]; rfl
      · rw [decide_eq_false g1]; rfl)
  clear f h
  cases g1 : decide (1 ≤ op) with
  | false =>
    go_enter Tryz.func287, Tryz.ntmps287
    go_wp2
    exact bodyPost_ret (v := .tuple #[.agg #[.bool true, .bool true, .bool true, .bool false], .bool false]) (by simp [results, Tryz.results287, go_sem]; done) rfl (HF.out _ _ _ _ _ _ Hr.out.1.symm (by rw [Hr.out.2, g1]; rfl) ((Below.refl _ _).alloc (Nat.le_refl _) _))
  | true =>
    cases g2 : decide (op ≤ 14) with
    | false =>
      go_enter Tryz.func287, Tryz.ntmps287
      go_wp2
      exact bodyPost_ret (v := .tuple #[.agg #[.bool true, .bool true, .bool true, .bool false], .bool false]) (by simp [results, Tryz.results287, go_sem]; done) rfl (HF.out _ _ _ _ _ _ Hr.out.1.symm (by rw [Hr.out.2, g1, g2]; rfl) ((Below.refl _ _).alloc (Nat.le_refl _) _))
    | true =>
      go_enter Tryz.func287, Tryz.ntmps287
      go_wp2
      exact bodyPost_ret (v := .tuple #[.agg #[.bool true, .bool true, .bool true, .bool false], .bool true]) (by simp [results, Tryz.results287, go_sem]; done) rfl (HF.out _ _ _ _ _ _ Hr.out.1.symm (by rw [Hr.out.2, g1, g2]; rfl) ((Below.refl _ _).alloc (Nat.le_refl _) _))
theorem uses (op : Int) (o0 : 0 ≤ op) (o1 : op ≤ 255) (w : World) : Calls Tryz.prog 287 #[.int .u8 op] w (UsesPost op w) :=
  if h : _ then uses_at op h w else uses_else op o0 o1 h w
theorem register (n : Int) (u : Bool) (n0 : 0 ≤ n) (n1 : n ≤ 255) (w : World) : Calls Tryz.prog 288 #[.int .u8 n, .bool u] w fun e w' => e = .returned (.bool (fitV n u)) ∧ w = w' := by
  unfold fitV
  cases hn : (n == 0) <;> cases u
  all_goals
    go_enter Tryz.func288, Tryz.ntmps288
    go_wp2
    go_ret
    exact ⟨rfl, rfl⟩
end Go.Proofs.YtdmoohiepnbdaaaGreat.Ins
namespace Go.Proofs.YtdmoohiepnbdaaaGreat.Ins
open Go.RowKit Word
set_option linter.unusedVariables false
theorem cells5'' (w : World) (a b c d e : Value) (t : TypeId) (i : Nat) : (w.alloc (.cells #[a, b, c, d, e] t)).cell? ⟨w.heap.size, 0 + i, none⟩ = [a, b, c, d, e][i]? := by
  rw [World.cell?_alloc_mark]; simp
set_option maxRecDepth 100000 in
set_option maxHeartbeats 4000000 in
theorem may (x : Ins) (hx : x.ok) (w : World) : Calls Tryz.prog 244 #[x.val] w fun e w' => e = .returned (.bool (mayV x)) ∧ Below w.heap.size w w' := by
  obtain ⟨op, d, a, b, imm⟩ := x
  obtain ⟨o0, o1, d0, d1, a0, a1, b0, b1, i0, i1⟩ := hx
  simp only at o0 o1 d0 d1 a0 a1 b0 b1 i0 i1
  have hE : mayV ⟨op, d, a, b, imm⟩ = (isV op && fitV d (hasV op 1) && fitV a (hasV op 2) && fitV b (hasV op 4) && (hasV op 8 || imm == 0)) := rfl
  have hu := uses op o0 o1
  have hrow : isV op = true → rowV op = .agg #[.bool (hasV op 1), .bool (hasV op 2), .bool (hasV op 4), .bool (hasV op 8)] := fun h => by
    unfold rowV
    unfold isV at h
    rw [if_neg (by simpa using h)]
  have hrow0 : isV op = false → rowV op = .agg #[.bool true, .bool true, .bool true, .bool false] := fun h => by
    unfold rowV
    unfold isV at h
    rw [if_pos (by simpa using h)]
  generalize mayV ⟨op, d, a, b, imm⟩ = E at *
  have HE := Lib.hid hE
  have HU : Hid (∀ w0, Calls Tryz.prog 287 #[.int .u8 op] w0 fun e w' => e = .returned (.tuple #[rowV op, .bool (isV op)]) ∧ Below w0.heap.size w0 w') := Lib.hid fun w0 => hu w0
  generalize isV op = is at *
  generalize rowV op = row at *
  have H1 := Lib.hid (register d (hasV op 1) d0 d1)
  have H2 := Lib.hid (register a (hasV op 2) a0 a1)
  have H3 := Lib.hid (register b (hasV op 4) b0 b1)
  have hbW : Below w.heap.size w (w.alloc (.cells #[.int .u8 op, .int .u8 d, .int .u8 a, .int .u8 b, .int .u32 imm] 148)) := (Below.refl _ _).alloc (Nat.le_refl _) _
  have HB := Lib.hid hbW
  have HX : Hid (∀ w1, Below (w.heap.size + 1) (w.alloc (.cells #[.int .u8 op, .int .u8 d, .int .u8 a, .int .u8 b, .int .u32 imm] 148)) w1 → w1.cell? ⟨w.heap.size, 1, none⟩ = some (.int .u8 d) ∧ w1.cell? ⟨w.heap.size, 2, none⟩ = some (.int .u8 a) ∧ w1.cell? ⟨w.heap.size, 3, none⟩ = some (.int .u8 b) ∧ w1.cell? ⟨w.heap.size, 4, none⟩ = some (.int .u32 imm)) := Lib.hid fun w1 hb => by
    have hcs := cells5'' w (.int .u8 op) (.int .u8 d) (.int .u8 a) (.int .u8 b) (.int .u32 imm) 148
    have e : ∀ j, w1.cell? ⟨w.heap.size, j, none⟩ = (w.alloc (.cells #[.int .u8 op, .int .u8 d, .int .u8 a, .int .u8 b, .int .u32 imm] 148)).cell? ⟨w.heap.size, j, none⟩ := fun j => World.cell?_of_block (hb.block _ (by simp only; omega))
    exact ⟨(e 1).trans (hcs 1), (e 2).trans (hcs 2), (e 3).trans (hcs 3), (e 4).trans (hcs 4)⟩
  have hmf := hasV op 1
  generalize hasV op 1 = f1 at *
  generalize hasV op 2 = f2 at *
  generalize hasV op 4 = f4 at *
  generalize hasV op 8 = f8 at *
  generalize fitV d f1 = fd at *
  generalize fitV a f2 = fa at *
  generalize fitV b f4 = fb at *
  clear hu hE hbW hmf
  unfold val
  simp only
  go_enter Tryz.func244, Tryz.ntmps244
  go_wp2_with fail
  refine (HU.out _).mono ?_
  rintro e w1 ⟨rfl, hb1⟩
  have hq := HX.out w1 (by simpa using hb1)
  have HB1 := Lib.hid (below_th HB.out hb1)
  have hlt : w.heap.size < w1.heap.size := by have := hb1.size; simp at this; omega
  obtain ⟨k1, k2, k3, k4⟩ := hq
  clear hb1 HX HB HU
  have HF : Hid (∀ V, Below w1.heap.size w1 V → Below w.heap.size w V) := Lib.hid fun V hV => below_th HB1.out hV
  cases is with
  | false =>
    rw [hrow0 rfl]
    clear hrow hrow0
    go_wp2
    go_ret
    exact ⟨by rw [HE.out]; rfl, HF.out _ ((Below.refl _ _).alloc (Nat.le_refl _) _)⟩
  | true =>
    rw [hrow rfl]
    clear hrow hrow0
    cases fd <;> cases fa <;> cases fb <;> cases f8 <;> cases him : (imm == 0)
    all_goals
      go_wp2_with (go_at_call 288; first | ((with_reducible refine (H1.out _).mono ?_); rintro e w2 ⟨rfl, rfl⟩) | ((with_reducible refine (H2.out _).mono ?_); rintro e w2 ⟨rfl, rfl⟩) | ((with_reducible refine (H3.out _).mono ?_); rintro e w2 ⟨rfl, rfl⟩))
      go_ret
      exact ⟨by rw [HE.out]; first | rfl | (rw [him]; rfl), HF.out _ ((Below.refl _ _).alloc (Nat.le_refl _) _)⟩
end Go.Proofs.YtdmoohiepnbdaaaGreat.Ins
namespace Go.Proofs.YtdmoohiepnbdaaaGreat
section
open Go.RowKit
variable {P : Program} {ops : Array Oper} {Q : Exit → Act → World → Prop} {md : Region.Mode} {S : World → Prop} {last : Nat}
theorem E_two {i j : Nat} {oi oj : Oper} {fuel : Nat} {listed : Array Bool} {a : Act} {w : World} (hr : Region.ready md ops listed = [i, j]) (hoi : ops[i]? = some oi) (hoj : ops[j]? = some oj)
    (h : ∀ K' : Act → World → Prop, Shut (∀ a w, (i ≠ last → S w) → ((i ≠ last → S w) → AnyE P md ops Q S last fuel (listed.setIfInBounds i true) a w) → K' a w) → if Region.wanted oi (yielded ops a.tmps) = true then Oper.wp P oi a w K' Q else K' (a.put oi.dst undef) w)
    (h2 : ∀ K' : Act → World → Prop, Shut (∀ a w, (j ≠ last → S w) → ((j ≠ last → S w) → AnyE P md ops Q S last fuel (listed.setIfInBounds j true) a w) → K' a w) → if Region.wanted oj (yielded ops a.tmps) = true then Oper.wp P oj a w K' Q else K' (a.put oj.dst undef) w) :
    AnyE P md ops Q S last (fuel + 1) listed a w := by
  refine ⟨fun h0 => (by rw [h0] at hr; cases hr), fun k hk => ?_⟩
  rw [hr, List.mem_cons, List.mem_singleton] at hk
  rcases hk with rfl | rfl
  · exact wpOp_step hoi (fun K' hK => h K' (fun a w hS hW => hK a w ⟨hS, hW hS⟩))
  · exact wpOp_step hoj (fun K' hK => h2 K' (fun a w hS hW => hK a w ⟨hS, hW hS⟩))
end
namespace Ins
open Go.RowKit Word
set_option linter.unusedVariables false
theorem strOfNums_app (xs ys : List Int) : strOfNums (xs ++ ys) = strOfNums xs ++ strOfNums ys := by
  apply ByteArray.ext
  apply Array.toList_inj.1
  rw [ByteArray.data_append, Array.toList_append, strOfNums_data, strOfNums_data, strOfNums_data, List.map_append]
theorem u8str (W : World) (g : Nat) (a b c d : Int) (h : W.heap[g]? = some (.cells #[.int .u8 a, .int .u8 b, .int .u8 c, .int .u8 d] 5 (0, 0))) :
    (convert 60 9 (.slice (some ⟨g, 0, none⟩) 4 4)).run Tryz.prog W = .ok (.string (strOfNums [a, b, c, d])) W := by
  refine run_convert_bytes_arg W 60 5 Tryz.underlying60 Tryz.underlying5 g 0 4 4 [a, b, c, d] rfl (fun i hi => ?_) 9 Tryz.underlying9
  unfold World.cell?
  rw [h]
  have : i = 0 ∨ i = 1 ∨ i = 2 ∨ i = 3 := by omega
  rcases this with rfl | rfl | rfl | rfl <;> rfl
set_option maxRecDepth 100000 in
set_option maxHeartbeats 4000000 in
theorem encode_yes (x : Ins) (hx : x.ok) (hm : mayV x = true) (w : World) : Calls Tryz.prog 189 #[x.val] w fun e w' => e = .returned (.tuple #[.string (encS x), .int .i64 0]) ∧ Below w.heap.size w w' := by
  have hsm := may_small hm hx
  have hmay := may x hx
  have hS : encS x = strOfNums [x.op, x.d + 16 * x.a, x.b, 0] ++ putS x.imm 4 := by
    unfold encS
    rw [if_pos hm]
    unfold encL putS
    rw [strOfNums_app]
    rfl
  rw [hS]
  clear hS
  obtain ⟨op, d, a, b, imm⟩ := x
  obtain ⟨o0, o1, d0, d1, a0, a1, b0, b1, i0, i1⟩ := hx
  obtain ⟨s1, s2, s3, s4, s5, s6⟩ := hsm
  simp only at o0 o1 d0 d1 a0 a1 b0 b1 i0 i1 s1 s2 s3 s4 s5 s6
  have hw1 : IntKind.u8.wrap (16 * a) = 16 * a := by rw [IntKind.wrap_u8]; omega
  have hw2 : IntKind.u8.wrap (d + 16 * a) = d + 16 * a := by rw [IntKind.wrap_u8]; omega
  have hw3 : 16 * a % 256 = 16 * a := by omega
  have hw4 : (d + 16 * a) % 256 = d + 16 * a := by omega
  have hbW : Below w.heap.size w (w.alloc (.cells #[.int .u8 op, .int .u8 d, .int .u8 a, .int .u8 b, .int .u32 imm] 148)) := (Below.refl _ _).alloc (Nat.le_refl _) _
  have HB := Lib.hid hbW
  have hcs := cells5'' w (.int .u8 op) (.int .u8 d) (.int .u8 a) (.int .u8 b) (.int .u32 imm) 148
  have HX : Hid (∀ w1, Below (w.heap.size + 1) (w.alloc (.cells #[.int .u8 op, .int .u8 d, .int .u8 a, .int .u8 b, .int .u32 imm] 148)) w1 → w1.cell? ⟨w.heap.size, 0, none⟩ = some (.int .u8 op) ∧ w1.cell? ⟨w.heap.size, 1, none⟩ = some (.int .u8 d) ∧ w1.cell? ⟨w.heap.size, 2, none⟩ = some (.int .u8 a) ∧ w1.cell? ⟨w.heap.size, 3, none⟩ = some (.int .u8 b) ∧ w1.cell? ⟨w.heap.size, 4, none⟩ = some (.int .u32 imm)) := Lib.hid fun w1 hb => by
    have e : ∀ j, w1.cell? ⟨w.heap.size, j, none⟩ = (w.alloc (.cells #[.int .u8 op, .int .u8 d, .int .u8 a, .int .u8 b, .int .u32 imm] 148)).cell? ⟨w.heap.size, j, none⟩ := fun j => World.cell?_of_block (hb.block _ (by simp only; omega))
    exact ⟨(e 0).trans (hcs 0), (e 1).trans (hcs 1), (e 2).trans (hcs 2), (e 3).trans (hcs 3), (e 4).trans (hcs 4)⟩
  have HM : Hid (∀ W, Calls Tryz.prog 244 #[.agg #[.int .u8 op, .int .u8 d, .int .u8 a, .int .u8 b, .int .u32 imm]] W fun e w' => e = .returned (.bool true) ∧ Below W.heap.size W w') := Lib.hid fun W => by have h := hmay W; rw [hm] at h; exact h
  have HBy := Lib.hid (WordRef.Bytes imm 4 (by omega) i0 i1)
  have HFin : Hid (∀ w', Below w.heap.size w w' → (fun e w' => e = Ending.returned (.tuple #[.string (strOfNums [op, d + 16 * a, b, 0] ++ putS imm 4), .int .i64 0]) ∧ Below w.heap.size w w') (.returned (.tuple #[.string (strOfNums [op, d + 16 * a, b, 0] ++ putS imm 4), .int .i64 0])) w') := Lib.hid fun w' g => ⟨rfl, g⟩
  generalize (fun e w' => e = Ending.returned (.tuple #[.string (strOfNums [op, d + 16 * a, b, 0] ++ putS imm 4), .int .i64 0]) ∧ Below w.heap.size w w') = PQ at *
  clear hbW hcs hmay hm
  unfold val
  simp only
  go_enter Tryz.func189, Tryz.ntmps189
  go_wp2_with fail
  refine (HM.out _).mono ?_
  rintro e w1 ⟨rfl, hb1⟩
  have hk := HX.out w1 (by simpa using hb1)
  have HB1 := Lib.hid (below_th HB.out hb1)
  have hlt : w.heap.size < w1.heap.size := by have := hb1.size; simp at this; omega
  have HS : Hid (∀ V, Below w1.heap.size w1 V → V.cell? ⟨w.heap.size, 0, none⟩ = some (.int .u8 op) ∧ V.cell? ⟨w.heap.size, 1, none⟩ = some (.int .u8 d) ∧ V.cell? ⟨w.heap.size, 2, none⟩ = some (.int .u8 a) ∧ V.cell? ⟨w.heap.size, 3, none⟩ = some (.int .u8 b) ∧ V.cell? ⟨w.heap.size, 4, none⟩ = some (.int .u32 imm)) := Lib.hid fun V hV => by
    have e : ∀ j, V.cell? ⟨w.heap.size, j, none⟩ = w1.cell? ⟨w.heap.size, j, none⟩ := fun j => World.cell?_of_block (hV.block _ hlt)
    obtain ⟨k0, k1, k2, k3, k4⟩ := hk
    exact ⟨(e 0).trans k0, (e 1).trans k1, (e 2).trans k2, (e 3).trans k3, (e 4).trans k4⟩
  clear hb1 HX HB HM hk hlt
  go_wp2_with fail
  refine wp_region_E (fun w' => w'.cell? ⟨w.heap.size, 0, none⟩ = some (.int .u8 op) ∧ w'.cell? ⟨w.heap.size, 1, none⟩ = some (.int .u8 d) ∧ w'.cell? ⟨w.heap.size, 2, none⟩ = some (.int .u8 a) ∧ w'.cell? ⟨w.heap.size, 3, none⟩ = some (.int .u8 b) ∧ w'.cell? ⟨w.heap.size, 4, none⟩ = some (.int .u32 imm)) 17 (by kernel_rfl) ?_
  have hB0 : Below w1.heap.size w1 w1.drew := (Below.refl _ w1).drew
  have h0 := HS.out _ hB0
  refine E_take (i := 0) (v := ?_) rfl (by kernel_rfl) (by kernel_rfl) (by kernel_rfl) (by kernel_rfl) (fun _ _ _ h => h) (Or.inl ⟨by rfl, ?_⟩) h0 ?_
  rotate_left
  · intro W hW; obtain ⟨k0, k1, k2, k3, k4⟩ := hW; go_simp; try with_reducible rfl
  try simp only [Act.put, List.getElem_toArray, List.getElem_cons_succ, List.getElem_cons_zero, List.setIfInBounds_toArray, List.set_cons_zero, List.set_cons_succ]
  refine E_take (i := 1) (v := ?_) rfl (by kernel_rfl) (by kernel_rfl) (by kernel_rfl) (by kernel_rfl) (fun _ _ _ h => h) (Or.inl ⟨by rfl, ?_⟩) h0 ?_
  rotate_left
  · intro W hW; obtain ⟨k0, k1, k2, k3, k4⟩ := hW; go_simp; try with_reducible rfl
  try simp only [Act.put, List.getElem_toArray, List.getElem_cons_succ, List.getElem_cons_zero, List.setIfInBounds_toArray, List.set_cons_zero, List.set_cons_succ]
  refine E_take (i := 2) (v := ?_) rfl (by kernel_rfl) (by kernel_rfl) (by kernel_rfl) (by kernel_rfl) (fun _ _ _ h => h) (Or.inl ⟨by rfl, ?_⟩) h0 ?_
  rotate_left
  · intro W hW; obtain ⟨k0, k1, k2, k3, k4⟩ := hW; go_simp; try with_reducible rfl
  try simp only [Act.put, List.getElem_toArray, List.getElem_cons_succ, List.getElem_cons_zero, List.setIfInBounds_toArray, List.set_cons_zero, List.set_cons_succ]
  refine E_take (i := 3) (v := ?_) rfl (by kernel_rfl) (by kernel_rfl) (by kernel_rfl) (by kernel_rfl) (fun _ _ _ h => h) (Or.inl ⟨by rfl, ?_⟩) h0 ?_
  rotate_left
  · intro W hW; obtain ⟨k0, k1, k2, k3, k4⟩ := hW; go_simp; try with_reducible rfl
  try simp only [Act.put, List.getElem_toArray, List.getElem_cons_succ, List.getElem_cons_zero, List.setIfInBounds_toArray, List.set_cons_zero, List.set_cons_succ]
  refine E_take (i := 4) (v := ?_) rfl (by kernel_rfl) (by kernel_rfl) (by kernel_rfl) (by kernel_rfl) (fun _ _ _ h => h) (Or.inl ⟨by rfl, ?_⟩) h0 ?_
  rotate_left
  · intro W hW; obtain ⟨k0, k1, k2, k3, k4⟩ := hW; go_simp; try with_reducible rfl
  try simp only [Act.put, List.getElem_toArray, List.getElem_cons_succ, List.getElem_cons_zero, List.setIfInBounds_toArray, List.set_cons_zero, List.set_cons_succ]
  refine E_take (i := 5) (v := ?_) rfl (by kernel_rfl) (by kernel_rfl) (by kernel_rfl) (by kernel_rfl) (fun _ _ _ h => h) (Or.inl ⟨by rfl, ?_⟩) h0 ?_
  rotate_left
  · intro W hW; obtain ⟨k0, k1, k2, k3, k4⟩ := hW; go_simp; try with_reducible rfl
  try simp only [Act.put, List.getElem_toArray, List.getElem_cons_succ, List.getElem_cons_zero, List.setIfInBounds_toArray, List.set_cons_zero, List.set_cons_succ]
  refine E_take (i := 6) (v := ?_) rfl (by kernel_rfl) (by kernel_rfl) (by kernel_rfl) (by kernel_rfl) (fun _ _ _ h => h) (Or.inl ⟨by rfl, ?_⟩) h0 ?_
  rotate_left
  · intro W hW; obtain ⟨k0, k1, k2, k3, k4⟩ := hW; go_simp; try with_reducible rfl
  try simp only [Act.put, List.getElem_toArray, List.getElem_cons_succ, List.getElem_cons_zero, List.setIfInBounds_toArray, List.set_cons_zero, List.set_cons_succ]
  refine E_take (i := 7) (v := ?_) rfl (by kernel_rfl) (by kernel_rfl) (by kernel_rfl) (by kernel_rfl) (fun _ _ _ h => h) (Or.inl ⟨by rfl, ?_⟩) h0 ?_
  rotate_left
  · intro W hW; obtain ⟨k0, k1, k2, k3, k4⟩ := hW; go_simp; try with_reducible rfl
  try simp only [Act.put, List.getElem_toArray, List.getElem_cons_succ, List.getElem_cons_zero, List.setIfInBounds_toArray, List.set_cons_zero, List.set_cons_succ]
  refine E_take (i := 8) (v := ?_) rfl (by kernel_rfl) (by kernel_rfl) (by kernel_rfl) (by kernel_rfl) (fun _ _ _ h => h) (Or.inl ⟨by rfl, ?_⟩) h0 ?_
  rotate_left
  · intro W hW; obtain ⟨k0, k1, k2, k3, k4⟩ := hW; go_simp; try with_reducible rfl
  try simp only [Act.put, List.getElem_toArray, List.getElem_cons_succ, List.getElem_cons_zero, List.setIfInBounds_toArray, List.set_cons_zero, List.set_cons_succ]
  refine E_take (i := 9) (v := ?_) rfl (by kernel_rfl) (by kernel_rfl) (by kernel_rfl) (by kernel_rfl) (fun _ _ _ h => h) (Or.inl ⟨by rfl, ?_⟩) h0 ?_
  rotate_left
  · intro W hW; obtain ⟨k0, k1, k2, k3, k4⟩ := hW; go_simp; try with_reducible rfl
  try simp only [Act.put, List.getElem_toArray, List.getElem_cons_succ, List.getElem_cons_zero, List.setIfInBounds_toArray, List.set_cons_zero, List.set_cons_succ]
  refine E_take (i := 12) (v := ?_) rfl (by kernel_rfl) (by kernel_rfl) (by kernel_rfl) (by kernel_rfl) (fun _ _ _ h => h) (Or.inl ⟨by rfl, ?_⟩) h0 ?_
  rotate_left
  · intro W hW; obtain ⟨k0, k1, k2, k3, k4⟩ := hW; go_simp; try with_reducible rfl
  try simp only [Act.put, List.getElem_toArray, List.getElem_cons_succ, List.getElem_cons_zero, List.setIfInBounds_toArray, List.set_cons_zero, List.set_cons_succ]
  refine E_take (i := 13) (v := ?_) rfl (by kernel_rfl) (by kernel_rfl) (by kernel_rfl) (by kernel_rfl) (fun _ _ _ h => h) (Or.inl ⟨by rfl, ?_⟩) h0 ?_
  rotate_left
  · intro W hW; obtain ⟨k0, k1, k2, k3, k4⟩ := hW; go_simp; try with_reducible rfl
  try simp only [Act.put, List.getElem_toArray, List.getElem_cons_succ, List.getElem_cons_zero, List.setIfInBounds_toArray, List.set_cons_zero, List.set_cons_succ]
  refine E_two (i := 10) (j := 14) (by kernel_rfl) rfl rfl (fun K hK => ?_) (fun K hK => ?_)
  · go_simp
    have hB1 := ((Below.refl _ w1).alloc (Nat.le_refl _) (.cells #[.int .u8 op, .int .u8 (d + 16 * a), .int .u8 b, .int .u8 0] 5)).drew
    have h1 := HS.out _ hB1
    refine hK.out _ _ (fun _ => h1) (fun _ => ?_)
    clear hK K
    try simp only [Act.put, List.getElem_toArray, List.getElem_cons_succ, List.getElem_cons_zero, List.setIfInBounds_toArray, List.set_cons_zero, List.set_cons_succ]
    have hX : (w1.alloc (.cells #[.int .u8 op, .int .u8 (d + 16 * a), .int .u8 b, .int .u8 0] 5)).drew.heap[w1.heap.size]? = some (.cells #[.int .u8 op, .int .u8 (d + 16 * a), .int .u8 b, .int .u8 0] 5 (0, 0)) := heap_alloc_new w1 _
    refine E_two (i := 11) (j := 14) (by kernel_rfl) rfl rfl (fun K hK => ?_) (fun K hK => ?_)
    · have hcv := u8str (w1.alloc (.cells #[.int .u8 op, .int .u8 (d + 16 * a), .int .u8 b, .int .u8 0] 5)).drew w1.heap.size op (d + 16 * a) b 0 hX
      go_simp
      refine hK.out _ _ (fun _ => h1) (fun _ => ?_)
      clear hK K
      try simp only [Act.put, List.getElem_toArray, List.getElem_cons_succ, List.getElem_cons_zero, List.setIfInBounds_toArray, List.set_cons_zero, List.set_cons_succ]
      refine E_step (i := 14) (by kernel_rfl) rfl (fun K hK => ?_)
      go_simp
      go_at_call 245
      refine (HBy.out _).mono ?_
      rintro e w2 ⟨rfl, hq⟩
      have hB2 : Below w1.heap.size w1 w2 := hB1.trans (hq.mono (by have := hB1.size; first | exact this | simpa using this))
      have h2 := HS.out _ hB2
      refine hK.out _ _ (fun _ => h2) (fun _ => ?_)
      clear hK K
      try simp only [Act.put, List.getElem_toArray, List.getElem_cons_succ, List.getElem_cons_zero, List.setIfInBounds_toArray, List.set_cons_zero, List.set_cons_succ]
      refine E_step (i := 15) (by kernel_rfl) rfl (fun K hK => ?_)
      go_simp
      refine hK.out _ _ (fun _ => h2) (fun _ => ?_)
      clear hK K
      try simp only [Act.put, List.getElem_toArray, List.getElem_cons_succ, List.getElem_cons_zero, List.setIfInBounds_toArray, List.set_cons_zero, List.set_cons_succ]
      refine E_step (i := 16) (by kernel_rfl) rfl (fun K hK => ?_)
      go_simp
      refine hK.out _ _ (fun _ => h2) (fun _ => ?_)
      clear hK K
      try simp only [Act.put, List.getElem_toArray, List.getElem_cons_succ, List.getElem_cons_zero, List.setIfInBounds_toArray, List.set_cons_zero, List.set_cons_succ]
      refine E_step (i := 17) (by kernel_rfl) rfl (fun K hK => ?_)
      go_simp
      refine hK.out _ _ (fun _ => h2) (fun _ => ?_)
      clear hK K
      try simp only [Act.put, List.getElem_toArray, List.getElem_cons_succ, List.getElem_cons_zero, List.setIfInBounds_toArray, List.set_cons_zero, List.set_cons_succ]
      refine E_done (by kernel_rfl) ?_ _
      have HBz := Lib.hid (HB1.out.trans (hB2.mono HB1.out.size))
      go_wp2
      first | go_ret2 | skip
      exact HFin.out _ HBz.out
    · go_simp
      go_at_call 245
      refine (HBy.out _).mono ?_
      rintro e w2 ⟨rfl, hq⟩
      have hB2 : Below w1.heap.size w1 w2 := hB1.trans (hq.mono (by have := hB1.size; first | exact this | simpa using this))
      have h2 := HS.out _ hB2
      refine hK.out _ _ (fun _ => h2) (fun _ => ?_)
      clear hK K
      try simp only [Act.put, List.getElem_toArray, List.getElem_cons_succ, List.getElem_cons_zero, List.setIfInBounds_toArray, List.set_cons_zero, List.set_cons_succ]
      have hX2 := (hq.block w1.heap.size (by simp)).trans hX
      refine E_step (i := 11) (by kernel_rfl) rfl (fun K hK => ?_)
      have hcv := u8str w2 w1.heap.size op (d + 16 * a) b 0 hX2
      go_simp
      refine hK.out _ _ (fun _ => h2) (fun _ => ?_)
      clear hK K
      try simp only [Act.put, List.getElem_toArray, List.getElem_cons_succ, List.getElem_cons_zero, List.setIfInBounds_toArray, List.set_cons_zero, List.set_cons_succ]
      refine E_step (i := 15) (by kernel_rfl) rfl (fun K hK => ?_)
      go_simp
      refine hK.out _ _ (fun _ => h2) (fun _ => ?_)
      clear hK K
      try simp only [Act.put, List.getElem_toArray, List.getElem_cons_succ, List.getElem_cons_zero, List.setIfInBounds_toArray, List.set_cons_zero, List.set_cons_succ]
      refine E_step (i := 16) (by kernel_rfl) rfl (fun K hK => ?_)
      go_simp
      refine hK.out _ _ (fun _ => h2) (fun _ => ?_)
      clear hK K
      try simp only [Act.put, List.getElem_toArray, List.getElem_cons_succ, List.getElem_cons_zero, List.setIfInBounds_toArray, List.set_cons_zero, List.set_cons_succ]
      refine E_step (i := 17) (by kernel_rfl) rfl (fun K hK => ?_)
      go_simp
      refine hK.out _ _ (fun _ => h2) (fun _ => ?_)
      clear hK K
      try simp only [Act.put, List.getElem_toArray, List.getElem_cons_succ, List.getElem_cons_zero, List.setIfInBounds_toArray, List.set_cons_zero, List.set_cons_succ]
      refine E_done (by kernel_rfl) ?_ _
      have HBz := Lib.hid (HB1.out.trans (hB2.mono HB1.out.size))
      go_wp2
      first | go_ret2 | skip
      exact HFin.out _ HBz.out
  · go_simp
    go_at_call 245
    refine (HBy.out _).mono ?_
    rintro e w2 ⟨rfl, hq⟩
    have hB1 : Below w1.heap.size w1 w2 := hB0.trans (hq.mono (by have := hB0.size; first | exact this | simpa using this))
    have h1 := HS.out _ hB1
    refine hK.out _ _ (fun _ => h1) (fun _ => ?_)
    clear hK K
    try simp only [Act.put, List.getElem_toArray, List.getElem_cons_succ, List.getElem_cons_zero, List.setIfInBounds_toArray, List.set_cons_zero, List.set_cons_succ]
    refine E_step (i := 10) (by kernel_rfl) rfl (fun K hK => ?_)
    go_simp
    have hB2 := hB1.alloc (by have := hB1.size; first | exact this | simpa using this) (.cells #[.int .u8 op, .int .u8 (d + 16 * a), .int .u8 b, .int .u8 0] 5)
    have h2 := HS.out _ hB2
    refine hK.out _ _ (fun _ => h2) (fun _ => ?_)
    clear hK K
    try simp only [Act.put, List.getElem_toArray, List.getElem_cons_succ, List.getElem_cons_zero, List.setIfInBounds_toArray, List.set_cons_zero, List.set_cons_succ]
    have hX : (w2.alloc (.cells #[.int .u8 op, .int .u8 (d + 16 * a), .int .u8 b, .int .u8 0] 5)).heap[w2.heap.size]? = some (.cells #[.int .u8 op, .int .u8 (d + 16 * a), .int .u8 b, .int .u8 0] 5 (0, 0)) := heap_alloc_new w2 _
    refine E_step (i := 11) (by kernel_rfl) rfl (fun K hK => ?_)
    have hcv := u8str (w2.alloc (.cells #[.int .u8 op, .int .u8 (d + 16 * a), .int .u8 b, .int .u8 0] 5)) w2.heap.size op (d + 16 * a) b 0 hX
    go_simp
    refine hK.out _ _ (fun _ => h2) (fun _ => ?_)
    clear hK K
    try simp only [Act.put, List.getElem_toArray, List.getElem_cons_succ, List.getElem_cons_zero, List.setIfInBounds_toArray, List.set_cons_zero, List.set_cons_succ]
    refine E_step (i := 15) (by kernel_rfl) rfl (fun K hK => ?_)
    go_simp
    refine hK.out _ _ (fun _ => h2) (fun _ => ?_)
    clear hK K
    try simp only [Act.put, List.getElem_toArray, List.getElem_cons_succ, List.getElem_cons_zero, List.setIfInBounds_toArray, List.set_cons_zero, List.set_cons_succ]
    refine E_step (i := 16) (by kernel_rfl) rfl (fun K hK => ?_)
    go_simp
    refine hK.out _ _ (fun _ => h2) (fun _ => ?_)
    clear hK K
    try simp only [Act.put, List.getElem_toArray, List.getElem_cons_succ, List.getElem_cons_zero, List.setIfInBounds_toArray, List.set_cons_zero, List.set_cons_succ]
    refine E_step (i := 17) (by kernel_rfl) rfl (fun K hK => ?_)
    go_simp
    refine hK.out _ _ (fun _ => h2) (fun _ => ?_)
    clear hK K
    try simp only [Act.put, List.getElem_toArray, List.getElem_cons_succ, List.getElem_cons_zero, List.setIfInBounds_toArray, List.set_cons_zero, List.set_cons_succ]
    refine E_done (by kernel_rfl) ?_ _
    have HBz := Lib.hid (HB1.out.trans (hB2.mono HB1.out.size))
    go_wp2
    first | go_ret2 | skip
    exact HFin.out _ HBz.out
set_option maxRecDepth 100000 in
theorem encode_no (x : Ins) (hx : x.ok) (hm : mayV x = false) (w : World) : Calls Tryz.prog 189 #[x.val] w fun e w' => e = .returned (.tuple #[.string ByteArray.empty, .int .i64 2]) ∧ Below w.heap.size w w' := by
  have hmay := may x hx
  rw [hm] at hmay
  obtain ⟨op, d, a, b, imm⟩ := x
  have hbW : Below w.heap.size w (w.alloc (.cells #[.int .u8 op, .int .u8 d, .int .u8 a, .int .u8 b, .int .u32 imm] 148)) := (Below.refl _ _).alloc (Nat.le_refl _) _
  have HB := Lib.hid hbW
  have HM := Lib.hid hmay
  clear hmay hm hx hbW
  unfold val at HM ⊢
  simp only at HM ⊢
  go_enter Tryz.func189, Tryz.ntmps189
  go_wp2_with fail
  refine (HM.out _).mono ?_
  rintro e w1 ⟨rfl, hb1⟩
  have HB1 := Lib.hid (below_th HB.out hb1)
  clear hb1
  go_wp2
  go_ret2
  exact ⟨rfl, HB1.out⟩
theorem encode (x : Ins) (hx : x.ok) (w : World) : Calls Tryz.prog 189 #[x.val] w fun e w' => e = .returned (.tuple #[.string (encS x), .int .i64 (encE x)]) ∧ Below w.heap.size w w' := by
  cases hm : mayV x with
  | true =>
    have e : encE x = 0 := by unfold encE; rw [if_pos hm]
    rw [e]
    exact encode_yes x hx hm w
  | false =>
    have e : encE x = 2 := by unfold encE; rw [hm]; rfl
    have e2 : encS x = ByteArray.empty := by unfold encS; rw [hm]; rfl
    rw [e, e2]
    exact encode_no x hx hm w
end Ins
end Go.Proofs.YtdmoohiepnbdaaaGreat
namespace Go.Proofs.YtdmoohiepnbdaaaGreat
open Go.RowKit Word
set_option linter.unusedSimpArgs false
set_option linter.unusedVariables false
namespace Cp
def z8 : List Int := List.replicate 8 0
theorem z8_len : z8.length = 8 := rfl
def insB (x : Ins) : List Int := if Ins.mayV x then Ins.encL x else z8
def textL (f : Nat → Ins) : Nat → List Int
  | 0 => []
  | k + 1 => textL f k ++ insB (f k)
theorem textL_len (f : Nat → Ins) (k : Nat) : (textL f k).length = 8 * k := by
  induction k with
  | zero => rfl
  | succ k ih =>
    unfold textL
    rw [List.length_append, ih]
    unfold insB
    split
    · rw [Ins.encL_len]; omega
    · rw [z8_len]; omega
theorem szN (xs : List Int) : (strOfNums xs).size = xs.length := by
  show (strOfNums xs).data.size = _
  rw [← Array.length_toList, strOfNums_data, List.length_map]
structure InsAt (w : World) (b off i : Nat) (x : Ins) : Prop where
  c0 : w.cell? ⟨b, off + i * 5, none⟩ = some (.int .u8 x.op)
  c1 : w.cell? ⟨b, off + i * 5 + 1, none⟩ = some (.int .u8 x.d)
  c2 : w.cell? ⟨b, off + i * 5 + 2, none⟩ = some (.int .u8 x.a)
  c3 : w.cell? ⟨b, off + i * 5 + 3, none⟩ = some (.int .u8 x.b)
  c4 : w.cell? ⟨b, off + i * 5 + 4, none⟩ = some (.int .u32 x.imm)
theorem InsAt.below {w w' : World} {b off i : Nat} {x : Ins} {B : Nat} (h : InsAt w b off i x) (hb : Below B w w') (hB : b < B) : InsAt w' b off i x := by
  have e : ∀ j, w'.cell? ⟨b, j, none⟩ = w.cell? ⟨b, j, none⟩ := fun j => World.cell?_of_block (hb.block _ hB)
  exact ⟨(e _).trans h.c0, (e _).trans h.c1, (e _).trans h.c2, (e _).trans h.c3, (e _).trans h.c4⟩
theorem InsAt.lt {w : World} {b off i : Nat} {x : Ins} (h : InsAt w b off i x) : b < w.heap.size := by
  have := h.c0
  unfold World.cell? at this
  cases hg : w.heap[b]? with
  | none => rw [hg] at this; cases this
  | some _ => exact lt_of_block hg
def Code (w : World) (a : Option Addr) (n : Nat) (f : Nat → Ins) : Prop := 0 < n → ∃ b off, a = some ⟨b, off, none⟩ ∧ ∀ i, i < n → InsAt w b off i (f i)
theorem Code.below {w w' : World} {a : Option Addr} {n : Nat} {f : Nat → Ins} (h : Code w a n f) (hb : Below w.heap.size w w') : Code w' a n f := fun hn => by
  obtain ⟨b, off, e, hc⟩ := h hn
  exact ⟨b, off, e, fun i hi => (hc i hi).below hb (hc i hi).lt⟩
def txRel (w : World) (f : Nat → Ins) (n : Nat) (vs vi : Value) (wr : World) : Prop :=
  ∃ k : Nat, k ≤ n ∧ vi = .int .i64 k ∧ vs = .string (strOfNums (textL f k)) ∧ Below w.heap.size w wr
theorem zero8 (W : World) (b : Nat) (h : W.heap[b]? = some (.cells (Sp.fillL [] 8).toArray 5 (0, 0))) :
    (convert 60 9 (.slice (some ⟨b, 0, none⟩) 8 8)).run Tryz.prog W = .ok (.string (strOfNums (z8))) W := by
  refine run_convert_bytes_arg W 60 5 Tryz.underlying60 Tryz.underlying5 b 0 8 8 (z8) rfl (fun i hi => ?_) 9 Tryz.underlying9
  unfold World.cell?
  rw [h, Sp.fillL_zero]
  have : i = 0 ∨ i = 1 ∨ i = 2 ∨ i = 3 ∨ i = 4 ∨ i = 5 ∨ i = 6 ∨ i = 7 := by omega
  rcases this with rfl | rfl | rfl | rfl | rfl | rfl | rfl | rfl <;> rfl
set_option maxRecDepth 100000 in
set_option maxHeartbeats 1000000 in
theorem text (w : World) (a : Option Addr) (n cap : Nat) (f : Nat → Ins) (hc : Code w a n f) (hok : ∀ i, i < n → (f i).ok) (hn : n ≤ 1000) :
    Calls Tryz.prog 109 #[.slice a n cap] w fun e w' => e = .returned (.string (strOfNums (textL f n))) ∧ Below w.heap.size w w' := by
  have HC := Lib.hid hc
  have HO := Lib.hid hok
  clear hc hok
  go_enter Tryz.func109, Tryz.ntmps109
  go_wp2
  go_loopw [3, 4] (fun vs vi wr => txRel w f n vs vi wr) (fun _ vi _ => n - (intOf vi).toNat)
  case atStart => exact ⟨0, Nat.zero_le _, by go_num, rfl, Below.refl _ _⟩
  case round =>
    obtain ⟨k, hk, rfl, rfl, hb⟩ := hrel
    by_cases hk2 : k < n
    · obtain ⟨b, off, rfl, hcl⟩ := HC.out (by omega)
      have hia := (hcl k hk2).below hb (hcl k hk2).lt
      have hxo := HO.out k hk2
      have he := Ins.encode (f k) hxo wr
      have hT : textL f (k + 1) = textL f k ++ insB (f k) := rfl
      generalize f k = x at *
      obtain ⟨c0, c1, c2, c3, c4⟩ := hia
      have HE := Lib.hid he
      have HB := Lib.hid hb
      have HT := Lib.hid hT
      clear hcl he hb hT hxo
      obtain ⟨op, d, a, b', imm⟩ := x
      simp only at c0 c1 c2 c3 c4
      cases hm : Ins.mayV ⟨op, d, a, b', imm⟩ with
      | true =>
        have e1 : Ins.encE ⟨op, d, a, b', imm⟩ = 0 := by unfold Ins.encE; rw [hm]; rfl
        have e2 : Ins.encS ⟨op, d, a, b', imm⟩ = strOfNums (Ins.encL ⟨op, d, a, b', imm⟩) := by unfold Ins.encS; rw [if_pos hm]
        have e3 : insB ⟨op, d, a, b', imm⟩ = Ins.encL ⟨op, d, a, b', imm⟩ := by unfold insB; rw [if_pos hm]
        rw [e3] at HT
        rw [e1, e2] at HE
        clear e1 e2 e3 hm
        unfold Ins.val at HE
        simp only at HE
        go_wp2_with fail
        refine HE.out.mono ?_
        rintro e w1 ⟨rfl, hb1⟩
        have HB1 := Lib.hid (HB.out.trans (hb1.mono HB.out.size))
        clear hb1
        have hz1 : ((strOfNums (textL f k)).size : Int) ≤ 8388608 := by rw [szN, textL_len]; omega
        have hz2 : ((strOfNums (Ins.encL ⟨op, d, a, b', imm⟩)).size : Int) ≤ 8388608 := by rw [szN, Ins.encL_len]; omega
        go_wp2
        refine ⟨⟨k + 1, by omega, by go_num, ?_, HB1.out⟩, by simp [intOf]; omega⟩
        rw [HT.out, Ins.strOfNums_app]
      | false =>
        have e1 : Ins.encE ⟨op, d, a, b', imm⟩ = 2 := by unfold Ins.encE; rw [hm]; rfl
        have e3 : insB ⟨op, d, a, b', imm⟩ = z8 := by unfold insB; rw [hm]; rfl
        rw [e3] at HT
        rw [e1] at HE
        clear e1 e3 hm
        unfold Ins.val at HE
        simp only at HE
        go_wp2_with fail
        refine HE.out.mono ?_
        rintro e w1 ⟨rfl, hb1⟩
        have HB1 := Lib.hid (HB.out.trans (hb1.mono HB.out.size))
        clear hb1
        have hmk : (Instr.makeSlice 60 (.int .i64 8) (.int .i64 8)).run Tryz.prog w1 = .ok (.slice (some ⟨w1.heap.size, 0, none⟩) 8 8) (w1.alloc (.cells (Sp.fillL [] 8).toArray 5)) := Sp.run_made 8 (by omega) w1
        have hz1 : ((strOfNums (textL f k)).size : Int) ≤ 8388608 := by rw [szN, textL_len]; omega
        have hz2 : ((strOfNums (z8)).size : Int) ≤ 8388608 := by rw [szN, z8_len]; omega
        have hcv := zero8 (w1.alloc (.cells (Sp.fillL [] 8).toArray 5)) w1.heap.size (heap_alloc_new w1 _)
        go_wp2
        refine ⟨⟨k + 1, by omega, by go_num, ?_, HB1.out.alloc HB1.out.size _⟩, by simp [intOf]; omega⟩
        rw [HT.out, Ins.strOfNums_app]
    · obtain rfl : k = n := by omega
      have HB := Lib.hid hb
      clear hb
      go_wp2
      go_ret
      exact ⟨rfl, HB.out⟩
end Cp
end Go.Proofs.YtdmoohiepnbdaaaGreat
