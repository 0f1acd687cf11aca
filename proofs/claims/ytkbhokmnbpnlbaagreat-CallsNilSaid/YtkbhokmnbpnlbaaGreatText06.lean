/- The walk of aediculelaw06.text: the bytes of instructions. -/
import Derived.Test.YtkbhokmnbpnlbaaGreatRefW
import Derived.Test.YtkbhokmnbpnlbaaGreatSpcW
namespace Go.Proofs.YtkbhokmnbpnlbaaGreat
open Go.RowKit Word
set_option linter.unusedSimpArgs false
set_option linter.unusedVariables false
namespace Cp
def z8 : List Int := List.replicate 8 0
theorem z8_len : z8.length = 8 := rfl
def insB (x : Ins) : List Int := if Ins.mayV x then Ins.encL x else z8
def textL (f : Nat → Ins) : Nat → List Int
  | 0 => []
  | k + 1 => textL f k ++ insB (f k)
theorem textL_len (f : Nat → Ins) (k : Nat) : (textL f k).length = 8 * k := by
  induction k with
  | zero => rfl
  | succ k ih =>
    unfold textL
    rw [List.length_append, ih]
    unfold insB
    split
    · rw [Ins.encL_len]; omega
    · rw [z8_len]; omega
theorem szN (xs : List Int) : (strOfNums xs).size = xs.length := by
  show (strOfNums xs).data.size = _
  rw [← Array.length_toList, strOfNums_data, List.length_map]
theorem textL_bd (f : Nat → Ins) (k : Nat) (h : ∀ i, i < k → (f i).ok) : ∀ y, y ∈ textL f k → 0 ≤ y ∧ y < 256 := by
  induction k with
  | zero => intro y hy; cases hy
  | succ k ih =>
    intro y hy
    unfold textL at hy
    rcases List.mem_append.1 hy with g | g
    · exact ih (fun i hi => h i (by omega)) y g
    · unfold insB at g
      split at g
      · rename_i hm
        exact Ins.encL_bd (h k (by omega)) (Ins.may_small hm (h k (by omega))) y g
      · have : y = 0 := List.eq_of_mem_replicate g
        omega
/-- An instruction among the cells of a row. -/
structure InsAt (w : World) (b off i : Nat) (x : Ins) : Prop where
  c0 : w.cell? ⟨b, off + i * 5, none⟩ = some (.int .u8 x.op)
  c1 : w.cell? ⟨b, off + i * 5 + 1, none⟩ = some (.int .u8 x.d)
  c2 : w.cell? ⟨b, off + i * 5 + 2, none⟩ = some (.int .u8 x.a)
  c3 : w.cell? ⟨b, off + i * 5 + 3, none⟩ = some (.int .u8 x.b)
  c4 : w.cell? ⟨b, off + i * 5 + 4, none⟩ = some (.int .u32 x.imm)
theorem InsAt.below {w w' : World} {b off i : Nat} {x : Ins} {B : Nat} (h : InsAt w b off i x) (hb : Below B w w') (hB : b < B) : InsAt w' b off i x := by
  have e : ∀ j, w'.cell? ⟨b, j, none⟩ = w.cell? ⟨b, j, none⟩ := fun j => World.cell?_of_block (hb.block _ hB)
  exact ⟨(e _).trans h.c0, (e _).trans h.c1, (e _).trans h.c2, (e _).trans h.c3, (e _).trans h.c4⟩
theorem InsAt.lt {w : World} {b off i : Nat} {x : Ins} (h : InsAt w b off i x) : b < w.heap.size := by
  have := h.c0
  unfold World.cell? at this
  cases hg : w.heap[b]? with
  | none => rw [hg] at this; cases this
  | some _ => exact lt_of_block hg
def Code (w : World) (a : Option Addr) (n : Nat) (f : Nat → Ins) : Prop := 0 < n → ∃ b off, a = some ⟨b, off, none⟩ ∧ ∀ i, i < n → InsAt w b off i (f i)
theorem Code.below {w w' : World} {a : Option Addr} {n : Nat} {f : Nat → Ins} (h : Code w a n f) (hb : Below w.heap.size w w') : Code w' a n f := fun hn => by
  obtain ⟨b, off, e, hc⟩ := h hn
  exact ⟨b, off, e, fun i hi => (hc i hi).below hb (hc i hi).lt⟩
def txRel (w : World) (f : Nat → Ins) (n : Nat) (vs vi : Value) (wr : World) : Prop :=
  ∃ k : Nat, k ≤ n ∧ vi = .int .i64 k ∧ vs = .string (strOfNums (textL f k)) ∧ Below w.heap.size w wr
theorem zero8 (W : World) (b : Nat) (h : W.heap[b]? = some (.cells (Sp.fillL [] 8).toArray 5 (0, 0))) :
    (convert 33 9 (.slice (some ⟨b, 0, none⟩) 8 8)).run Tryz.prog W = .ok (.string (strOfNums (z8))) W := by
  refine run_convert_bytes_arg W 33 5 Tryz.underlying33 Tryz.underlying5 b 0 8 8 (z8) rfl (fun i hi => ?_) 9 Tryz.underlying9
  unfold World.cell?
  rw [h, Sp.fillL_zero]
  have : i = 0 ∨ i = 1 ∨ i = 2 ∨ i = 3 ∨ i = 4 ∨ i = 5 ∨ i = 6 ∨ i = 7 := by omega
  rcases this with rfl | rfl | rfl | rfl | rfl | rfl | rfl | rfl <;> rfl
set_option maxRecDepth 100000 in
set_option maxHeartbeats 1000000 in
theorem text (w : World) (a : Option Addr) (n cap : Nat) (f : Nat → Ins) (hc : Code w a n f) (hok : ∀ i, i < n → (f i).ok) (hn : n ≤ 1000) :
    Calls Tryz.prog 124 #[.slice a n cap] w fun e w' => e = .returned (.string (strOfNums (textL f n))) ∧ Below w.heap.size w w' := by
  have HC := Lib.hid hc
  have HO := Lib.hid hok
  clear hc hok
  go_enter Tryz.func124, Tryz.ntmps124
  go_wp2
  go_loopw [3, 4] (fun vs vi wr => txRel w f n vs vi wr) (fun _ vi _ => n - (intOf vi).toNat)
  case atStart => exact ⟨0, Nat.zero_le _, by go_num, rfl, Below.refl _ _⟩
  case round =>
    obtain ⟨k, hk, rfl, rfl, hb⟩ := hrel
    by_cases hk2 : k < n
    · obtain ⟨b, off, rfl, hcl⟩ := HC.out (by omega)
      have hia := (hcl k hk2).below hb (hcl k hk2).lt
      have hxo := HO.out k hk2
      have he := Ins.encode (f k) hxo wr
      have hT : textL f (k + 1) = textL f k ++ insB (f k) := rfl
      generalize f k = x at *
      obtain ⟨c0, c1, c2, c3, c4⟩ := hia
      have HE := Lib.hid he
      have HB := Lib.hid hb
      have HT := Lib.hid hT
      clear hcl he hb hT hxo
      obtain ⟨op, d, a, b', imm⟩ := x
      simp only at c0 c1 c2 c3 c4
      cases hm : Ins.mayV ⟨op, d, a, b', imm⟩ with
      | true =>
        have e1 : Ins.encE ⟨op, d, a, b', imm⟩ = 0 := by unfold Ins.encE; rw [hm]; rfl
        have e2 : Ins.encS ⟨op, d, a, b', imm⟩ = strOfNums (Ins.encL ⟨op, d, a, b', imm⟩) := by unfold Ins.encS; rw [if_pos hm]
        have e3 : insB ⟨op, d, a, b', imm⟩ = Ins.encL ⟨op, d, a, b', imm⟩ := by unfold insB; rw [if_pos hm]
        rw [e3] at HT
        rw [e1, e2] at HE
        clear e1 e2 e3 hm
        unfold Ins.val at HE
        simp only at HE
        go_wp2_with fail
        refine HE.out.mono ?_
        rintro e w1 ⟨rfl, hb1⟩
        have HB1 := Lib.hid (HB.out.trans (hb1.mono HB.out.size))
        clear hb1
        have hz1 : ((strOfNums (textL f k)).size : Int) ≤ 8388608 := by rw [szN, textL_len]; omega
        have hz2 : ((strOfNums (Ins.encL ⟨op, d, a, b', imm⟩)).size : Int) ≤ 8388608 := by rw [szN, Ins.encL_len]; omega
        go_wp2
        refine ⟨⟨k + 1, by omega, by go_num, ?_, HB1.out⟩, by simp [intOf]; omega⟩
        rw [HT.out, Ins.strOfNums_app]
      | false =>
        have e1 : Ins.encE ⟨op, d, a, b', imm⟩ = 2 := by unfold Ins.encE; rw [hm]; rfl
        have e3 : insB ⟨op, d, a, b', imm⟩ = z8 := by unfold insB; rw [hm]; rfl
        rw [e3] at HT
        rw [e1] at HE
        clear e1 e3 hm
        unfold Ins.val at HE
        simp only at HE
        go_wp2_with fail
        refine HE.out.mono ?_
        rintro e w1 ⟨rfl, hb1⟩
        have HB1 := Lib.hid (HB.out.trans (hb1.mono HB.out.size))
        clear hb1
        have hmk : (Instr.makeSlice 33 (.int .i64 8) (.int .i64 8)).run Tryz.prog w1 = .ok (.slice (some ⟨w1.heap.size, 0, none⟩) 8 8) (w1.alloc (.cells (Sp.fillL [] 8).toArray 5)) := Sp.run_made 8 (by omega) w1
        have hz1 : ((strOfNums (textL f k)).size : Int) ≤ 8388608 := by rw [szN, textL_len]; omega
        have hz2 : ((strOfNums (z8)).size : Int) ≤ 8388608 := by rw [szN, z8_len]; omega
        have hcv := zero8 (w1.alloc (.cells (Sp.fillL [] 8).toArray 5)) w1.heap.size (heap_alloc_new w1 _)
        go_wp2
        refine ⟨⟨k + 1, by omega, by go_num, ?_, HB1.out.alloc HB1.out.size _⟩, by simp [intOf]; omega⟩
        rw [HT.out, Ins.strOfNums_app]
    · obtain rfl : k = n := by omega
      have HB := Lib.hid hb
      clear hb
      go_wp2
      go_ret
      exact ⟨rfl, HB.out⟩
end Cp
end Go.Proofs.YtkbhokmnbpnlbaaGreat
