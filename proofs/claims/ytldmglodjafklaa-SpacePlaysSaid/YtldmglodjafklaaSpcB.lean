/- The walks of space's get and put. -/
import Derived.Test.YtldmglodjafklaaSpcA
import Derived.OwnWalk
namespace Go.Proofs.Ytldmglodjafklaa.Sp
open Go.RowKit
set_option linter.unusedVariables false
def byteAt (A : List Pg) (x : Int) : Int := match pageAt A x with | some p => p.bytes.getD (x % 256).toNat 0 | none => 0
def getL (A : List Pg) (addr : Int) (n : Nat) : List Int := (List.range n).map fun (k : Nat) => byteAt A (addr + (k : Int))
theorem getL_succ (A : List Pg) (addr : Int) (k : Nat) : getL A addr (k + 1) = getL A addr k ++ [byteAt A (addr + k)] := by
  unfold getL; rw [List.range_succ, List.map_append]; rfl
theorem getL_length (A : List Pg) (addr : Int) (n : Nat) : (getL A addr n).length = n := by unfold getL; rw [List.length_map, List.length_range]
/-- A row that is filled from the left. -/
def fillL (xs : List Int) (n : Nat) : List Value := xs.map (Value.int .u8) ++ List.replicate (n - xs.length) (.int .u8 0)
theorem fillL_length (xs : List Int) (n : Nat) (h : xs.length ≤ n) : (fillL xs n).length = n := by unfold fillL; rw [List.length_append, List.length_map, List.length_replicate]; omega
theorem fillL_at (xs : List Int) (n : Nat) (h : xs.length < n) : (fillL xs n)[xs.length]? = some (.int .u8 0) := by
  unfold fillL
  rw [List.getElem?_append_right (by simp), List.length_map, Nat.sub_self, List.getElem?_replicate, if_pos (by omega)]
theorem fillL_set (xs : List Int) (n : Nat) (x : Int) (h : xs.length < n) : (fillL xs n).set xs.length (.int .u8 x) = fillL (xs ++ [x]) n := by
  unfold fillL
  rw [List.set_append_right _ _ (by simp), List.length_map, Nat.sub_self, show n - xs.length = (n - (xs ++ [x]).length) + 1 by simp; omega, List.replicate_succ, List.set_cons_zero, List.map_append, List.append_assoc]
  rfl
theorem fillL_zero (n : Nat) : fillL [] n = List.replicate n (.int .u8 0) := by unfold fillL; simp
theorem fillL_full (xs : List Int) : fillL xs xs.length = xs.map (.int .u8) := by unfold fillL; simp
theorem infoU8 : (Try.prog.info? 5).map (fun i => (i.zero, i.size, i.bytes)) = some (some (.int .u8 0), 1, 1) := by kernel_rfl
theorem run_made (n : Nat) (hn : n ≤ 140737488355328) (w : World) : (Instr.makeSlice 32 (.int .i64 n) (.int .i64 n)).run Try.prog w = .ok (.slice (some ⟨w.heap.size, 0, none⟩) n n) (w.alloc (.cells (fillL [] n).toArray 5)) := by
  obtain ⟨i0, hi, hz0, hz1, hz2⟩ := info_parts infoU8
  have h := run_make (P := Try.prog) w 32 5 i0 (.int .u8 0) Try.underlying32 hi hz0 .i64 .i64 n n (by omega) (by omega) (by rw [hz2]; omega) (by omega)
  rw [h, hz1, fillL_zero]
  have e : madeCells (Value.int .u8 0).cells ((n : Int).toNat * 1) = (List.replicate n (Value.int .u8 0)).toArray := by
    apply Array.toList_inj.1
    rw [show (Value.int .u8 0).cells = #[.int .u8 0] from rfl, toList_madeCells_one]
    simp
  rw [e]
  simp
theorem get_arg {w : World} {sb mb : Nat} {A : List Pg} (h : Spc w sb mb A) (addr n need : Int) (hn : n < 0 ∨ 1048576 < n) :
    Calls Try.prog 38 #[.pointer (some ⟨sb, 0, none⟩), .int .u32 addr, .int .i64 n, .int .u8 need] w fun e w' => e = .returned (.tuple #[.string ByteArray.empty, .int .i64 2]) ∧ w = w' := by
  clear h
  rcases hn with hn | hn
  · go_enter Try.func38, Try.ntmps38
    go_wp2
    go_ret2
    exact ⟨rfl, rfl⟩
  · have h2 : decide (n < 0) = false := decide_eq_false (by omega)
    go_enter Try.func38, Try.ntmps38
    go_wp2
    go_ret2
    exact ⟨rfl, rfl⟩
theorem get_fault {w : World} {sb mb : Nat} {A : List Pg} (h : Spc w sb mb A) (addr need : Int) (n : Nat) (h0 : 0 ≤ addr) (h1 : addr ≤ 4294967295) (hn : n ≤ 1048576) (n0 : 0 ≤ need) (n1 : need ≤ 255) (hf : fitsB A addr n need = false) :
    Calls Try.prog 38 #[.pointer (some ⟨sb, 0, none⟩), .int .u32 addr, .int .i64 n, .int .u8 need] w fun e w' => e = .returned (.tuple #[.string ByteArray.empty, .int .i64 50]) ∧ w = w' := by
  have hE := fitsE_no hf
  have H := Lib.hid h
  clear h hf
  go_enter Try.func38, Try.ntmps38
  go_wp2_with (go_at_call 53; (with_reducible refine (fits H.out addr n need h0 h1 (by omega) n0 n1).mono ?_); rintro e w1 ⟨rfl, rfl⟩)
  go_ret2
  exact ⟨rfl, rfl⟩
def getRel (A : List Pg) (addr : Int) (n : Nat) (W : World) (si : Value) (wr : World) : Prop :=
  ∃ k : Nat, k ≤ n ∧ si = .int .i64 k ∧ wr.heap[W.heap.size]? = some (.cells (fillL (getL A addr k) n).toArray 5 (0, 0)) ∧ Mod (fun _ => False) W wr
theorem get_ok {w : World} {sb mb : Nat} {A : List Pg} (h : Spc w sb mb A) (addr need : Int) (n : Nat) (h0 : 0 ≤ addr) (h1 : addr ≤ 4294967295) (hn : n ≤ 1048576) (n0 : 0 ≤ need) (n1 : need ≤ 255) (hf : fitsB A addr n need = true) :
    Calls Try.prog 38 #[.pointer (some ⟨sb, 0, none⟩), .int .u32 addr, .int .i64 n, .int .u8 need] w fun e w' => e = .returned (.tuple #[.string (strOfNums (getL A addr n)), .int .i64 0]) ∧ Below w.heap.size w w' := by
  have hE := fitsE_yes hf
  have hmk := fun W => run_made n (by omega) W
  have H := Lib.hid h
  have Hf := Lib.hid hf
  clear h hf
  go_enter Try.func38, Try.ntmps38
  go_wp2_with (go_at_call 53; (with_reducible refine (fits H.out addr n need h0 h1 (by omega) n0 n1).mono ?_); rintro e w1 ⟨rfl, rfl⟩)
  clear hmk
  go_loopw [39, 13, 14] (fun si _ _ wr => getRel A addr n w si wr) (fun i _ _ _ => n - (intOf i).toNat)
  case atStart => exact ⟨0, by omega, rfl, heap_alloc_new _ _, (Mod.refl _ _).alloc _⟩
  case round =>
    obtain ⟨k, hk, rfl, hg, hm⟩ := hrel
    have Hg := Lib.hid hg
    have Hm := Lib.hid hm
    have hgl := lt_of_block hg
    have Hs : Hid (Spc wr sb mb A) := H.out.keep hm fun _ _ g => g
    clear hg hm
    by_cases hk2 : k < n
    · have hokk := fitsB_at hk2 Hf.out
      cases hp : pageAt A (addr + k) with
      | none => unfold okAt at hokk; rw [hp] at hokk; cases hokk
      | some p =>
        have hpm := atAddr_mem hp
        have hpo := Hs.out.ok p hpm.1
        have ha2 : addr + (k : Int) < 1048576 := by have := hpo.a1; have := hpo.a2; omega
        obtain ⟨j, hj⟩ : ∃ j : Nat, (addr + (k : Int)) % 256 = j := ⟨((addr + (k : Int)) % 256).toNat, by omega⟩
        have hcb := Hs.out.cellByte hpm.1 j (by omega)
        have hby : byteAt A (addr + k) = p.bytes.getD j 0 := by unfold byteAt; rw [hp, hj]; rfl
        have hck : wr.cell? ⟨w.heap.size, k, none⟩ = some (.int .u8 0) := by
          unfold World.cell?
          rw [Hg.out]
          have := fillL_at (getL A addr k) n (by rw [getL_length]; omega)
          rw [getL_length] at this
          simpa using this
        have hfr : wr.frozen? ⟨w.heap.size, k, none⟩ = false := by unfold World.frozen?; rw [Hg.out]; simp
        have Hp := Lib.hid hp
        have Hby := Lib.hid hby
        clear hp hby hpm hpo hokk
        generalize p.bytes.getD j 0 = x at *
        go_wp2_with (go_at_call 37; (with_reducible refine (at_some Hs.out _ (by omega) (by omega) Hp.out).mono ?_); rintro e w1 ⟨rfl, rfl⟩)
        refine ⟨⟨k + 1, by omega, by go_num, ?_, Hm.out.setCell _ (.inr (Nat.le_refl _)) _⟩, by simp [intOf]; omega⟩
        have hl := getL_length A addr k
        rw [heap_setCell_same wr w.heap.size k _ _ _ Hg.out, List.setIfInBounds_toArray, getL_succ, Hby.out]
        have := fillL_set (getL A addr k) n x (by rw [hl]; exact hk2)
        rw [hl] at this
        rw [this]
    · obtain rfl : k = n := by omega
      have hcv := run_convert_bytes_arg (P := Try.prog) wr 32 5 Try.underlying32 Try.underlying5 w.heap.size 0 k k (getL A addr k) (getL_length A addr k) (fun i hi => by
        unfold World.cell?
        rw [Hg.out]
        have hl := getL_length A addr k
        have hff := fillL_full (getL A addr k)
        rw [hl] at hff
        rw [hff]
        simp [List.getElem?_map, List.getD, List.getElem?_eq_getElem (show i < (getL A addr k).length by omega)]) 9 Try.underlying9
      go_wp2
      go_ret2
      exact ⟨rfl, Hm.out.toBelow⟩
end Go.Proofs.Ytldmglodjafklaa.Sp
