/- A state of layer 6 as an argument: how it reads. -/
import Derived.Test.YtldmglodjafklaaGreatRunsB
import Derived.Test.YtldmglodjafklaaGreatRead
import Derived.OpenShut
namespace Go.Proofs.YtldmglodjafklaaGreat.Cp
open Go.RowKit
set_option linter.unusedSimpArgs false
set_option linter.unusedVariables false
def insQ (g : Nat → Option Value) (x : Ins) : Prop := (g 0 = some (.int .u8 x.op) ∧ g 1 = some (.int .u8 x.d) ∧ g 2 = some (.int .u8 x.a) ∧ g 3 = some (.int .u8 x.b) ∧ g 4 = some (.int .u32 x.imm)) ∧ x.ok
theorem bounds_u8' {n : Int} (h : (Lit.int .u8 n).wf = true) : 0 ≤ n ∧ n ≤ 255 := by
  simp [Lit.wf, IntKind.min, IntKind.max, IntKind.signed, IntKind.bits] at h
  omega
theorem bounds_u16' {n : Int} (h : (Lit.int .u16 n).wf = true) : 0 ≤ n ∧ n ≤ 65535 := by
  simp [Lit.wf, IntKind.min, IntKind.max, IntKind.signed, IntKind.bits] at h
  omega
theorem ins_read {H : Type} {enc : TypeId × Value → H} {w : World} {base : Nat} {spare : Nat → Bool} {held : Bool} (cs : List Value) (n : Nat) (z : DataW H × List MemPlace) (g : Nat → Option Value)
    (h : DataW.trod enc Tryz.prog w base spare held n 91 cs = some z) (hw : Rd.Wt Tryz.prog 91 z.1) (hl : cs.length = 5) (hg : ∀ j, j < 5 → g j = cs[j]?) : ∃ x : Ins, insQ g x := by
  obtain ⟨_, hs⟩ := Rd.rd_struct Tryz.underlying91 (by kernel_rfl) (by kernel_rfl) h hw
  obtain ⟨v0, z0, n0, e0, t0, q0⟩ := hs 0 _ rfl
  obtain ⟨x0, rfl, w0⟩ := Rd.rd_int Tryz.underlying5 t0
  obtain ⟨v1, z1, n1, e1, t1, q1⟩ := hs 1 _ rfl
  obtain ⟨x1, rfl, w1⟩ := Rd.rd_int Tryz.underlying5 t1
  obtain ⟨v2, z2, n2, e2, t2, q2⟩ := hs 2 _ rfl
  obtain ⟨x2, rfl, w2⟩ := Rd.rd_int Tryz.underlying5 t2
  obtain ⟨v3, z3, n3, e3, t3, q3⟩ := hs 3 _ rfl
  obtain ⟨x3, rfl, w3⟩ := Rd.rd_int Tryz.underlying5 t3
  obtain ⟨v4, z4, n4, e4, t4, q4⟩ := hs 4 _ rfl
  obtain ⟨x4, rfl, w4⟩ := Rd.rd_int Tryz.underlying22 t4
  have b0 := bounds_u8' w0
  have b1 := bounds_u8' w1
  have b2 := bounds_u8' w2
  have b3 := bounds_u8' w3
  have b4 := bounds_u32 w4
  exact ⟨⟨x0, x1, x2, x3, x4⟩, ⟨(hg 0 (by omega)).trans e0, (hg 1 (by omega)).trans e1, (hg 2 (by omega)).trans e2, (hg 3 (by omega)).trans e3, (hg 4 (by omega)).trans e4⟩, ⟨b0.1, b0.2, b1.1, b1.2, b2.1, b2.2, b3.1, b3.2, b4.1, b4.2⟩⟩
def numQ (k : IntKind) (g : Nat → Option Value) (x : Int) : Prop := g 0 = some (.int k x) ∧ (Lit.int k x).wf = true
theorem num_read {H : Type} {enc : TypeId × Value → H} {w : World} {base : Nat} {spare : Nat → Bool} {held : Bool} {k : IntKind} {t : TypeId} (ht : Tryz.prog.underlying t = some (.int k)) (cs : List Value) (n : Nat) (z : DataW H × List MemPlace) (g : Nat → Option Value)
    (h : DataW.trod enc Tryz.prog w base spare held n t cs = some z) (hw : Rd.Wt Tryz.prog t z.1) (hl : cs.length = 1) (hg : ∀ j, j < 1 → g j = cs[j]?) : ∃ x : Int, numQ k g x := by
  match cs, hl with
  | [v], _ =>
    obtain ⟨x, rfl, wx⟩ := Rd.rd_int ht h
    exact ⟨x, hg 0 (by omega), wx⟩
theorem sl_num {k : IntKind} {w : World} {a : Option Addr} {cap : Nat} {xs : List Int} (h : Rd.Sl w 1 (numQ k) a cap xs) : RowN k w a xs.length (fun i => xs.getD i 0) ∧ ∀ i, i < xs.length → (Lit.int k (xs.getD i 0)).wf = true := by
  obtain ⟨_, _, h, _⟩ := h
  rcases h with rfl | ⟨b, off, rfl, h⟩
  · exact ⟨fun g => absurd g (by simp), fun i hi => absurd hi (by simp)⟩
  · have hg : ∀ i, i < xs.length → xs[i]? = some (xs.getD i 0) := fun i hi => by rw [List.getD, List.getElem?_eq_getElem hi]; rfl
    have hc : ∀ i, i < xs.length → w.cell? ⟨b, off + i, none⟩ = some (.int k (xs.getD i 0)) := fun i hi => by
      have := (h i _ (hg i hi)).1
      simpa using this
    refine ⟨fun hn => ⟨b, off, rfl, ?_, hc⟩, fun i hi => (h i _ (hg i hi)).2⟩
    have := hc 0 hn
    unfold World.cell? at this
    cases hq : w.heap[b]? with
    | none => rw [hq] at this; cases this
    | some _ => exact lt_of_block hq
theorem sl_ins {w : World} {a : Option Addr} {cap : Nat} {xs : List Ins} (h : Rd.Sl w 5 insQ a cap xs) : Code w a xs.length (fun i => xs.getD i Ins.nix) ∧ ∀ i, i < xs.length → (xs.getD i Ins.nix).ok := by
  obtain ⟨_, _, h, _⟩ := h
  rcases h with rfl | ⟨b, off, rfl, h⟩
  · exact ⟨fun g => absurd g (by simp), fun i hi => absurd hi (by simp)⟩
  · have hg : ∀ i, i < xs.length → xs[i]? = some (xs.getD i Ins.nix) := fun i hi => by rw [List.getD, List.getElem?_eq_getElem hi]; rfl
    refine ⟨fun _ => ⟨b, off, rfl, fun i hi => ?_⟩, fun i hi => (h i _ (hg i hi)).2⟩
    obtain ⟨⟨c0, c1, c2, c3, c4⟩, _⟩ := h i _ (hg i hi)
    exact ⟨c0, c1, c2, c3, c4⟩
theorem state_read {H : Type} {enc : TypeId × Value → H} {w : World} {base : Nat} {spare : Nat → Bool} {held : Bool} (cs : List Value) (n : Nat) (z : DataW H × List MemPlace)
    (h : DataW.trod enc Tryz.prog w base spare held n 55 cs = some z) (hw : Rd.Wt Tryz.prog 55 z.1) (hl : cs.length = 7) : ∃ x : St, cs = x.cells.toList ∧ x.pre w := by
  obtain ⟨_, hs⟩ := Rd.rd_struct Tryz.underlying55 (by kernel_rfl) (by kernel_rfl) h hw
  obtain ⟨v0, z0, n0, e0, t0, q0⟩ := hs 0 _ rfl
  obtain ⟨a0, cap0, x0, rfl, s0, l0⟩ := Rd.rd_slice Tryz.underlying43 1 (by kernel_rfl) (by omega) (numQ .u32) (fun cs n z g => num_read Tryz.underlying22 cs n z g) t0 q0
  obtain ⟨v1, z1, n1, e1, t1, q1⟩ := hs 1 _ rfl
  obtain ⟨x1, rfl, w1⟩ := Rd.rd_int Tryz.underlying22 t1
  obtain ⟨v2, z2, n2, e2, t2, q2⟩ := hs 2 _ rfl
  obtain ⟨a2, cap2, x2, rfl, s2, l2⟩ := Rd.rd_slice Tryz.underlying51 1 (by kernel_rfl) (by omega) (numQ .u8) (fun cs n z g => num_read Tryz.underlying5 cs n z g) t2 q2
  obtain ⟨v3, z3, n3, e3, t3, q3⟩ := hs 3 _ rfl
  obtain ⟨x3, rfl, w3⟩ := Rd.rd_int Tryz.underlying52 t3
  obtain ⟨v4, z4, n4, e4, t4, q4⟩ := hs 4 _ rfl
  obtain ⟨a4, cap4, x4, rfl, s4, l4⟩ := Rd.rd_slice Tryz.underlying53 5 (by kernel_rfl) (by omega) insQ (fun cs n z g => ins_read cs n z g) t4 q4
  obtain ⟨v5, z5, n5, e5, t5, q5⟩ := hs 5 _ rfl
  obtain ⟨x5, rfl, w5⟩ := Rd.rd_int Tryz.underlying52 t5
  obtain ⟨v6, z6, n6, e6, t6, q6⟩ := hs 6 _ rfl
  obtain ⟨x6, rfl, w6⟩ := Rd.rd_str Tryz.underlying9 t6 q6
  have r0 := sl_num s0
  have r2 := sl_num s2
  have r4 := sl_ins s4
  have b1 := bounds_u32 w1
  have b3 := bounds_u16' w3
  have b5 := bounds_u16' w5
  have hlen : x0.length ≤ 9223372036854775807 := by have h1 := s0.1; have h2 := s0.2.1; unfold maxLen at h2; omega
  refine ⟨⟨a0, x0.length, cap0, fun i => x0.getD i 0, x1, a2, x2.length, cap2, fun i => x2.getD i 0, x3, a4, x4.length, cap4, fun i => x4.getD i Ins.nix, x5, x6⟩, ?_, ⟨r0.1, fun i hi => bounds_u32 (r0.2 i hi), hlen, b1.1, b1.2, r2.1, fun i hi => bounds_u8' (r2.2 i hi), b3.1, b3.2, r4.1, r4.2, b5.1, b5.2⟩⟩
  refine List.ext_getElem? fun j => ?_
  match j with
  | 0 => exact e0
  | 1 => exact e1
  | 2 => exact e2
  | 3 => exact e3
  | 4 => exact e4
  | 5 => exact e5
  | 6 => exact e6
  | j + 7 => rw [List.getElem?_eq_none (by omega), List.getElem?_eq_none (by simp [St.cells])]
end Go.Proofs.YtldmglodjafklaaGreat.Cp
