/- Mem6: Ref6, Mem6, RefDec in one text. -/
import Derived.Test.YtkbhokmnbpnlbaaGreatWrkW
import Derived.Test.YtkbhokmnbpnlbaaGreatWordRef
import Derived.Test.YtkbhokmnbpnlbaaGreatWordBytes
import Derived.Test.YtkbhokmnbpnlbaaGreatRspW
import Derived.Test.YtkbhokmnbpnlbaaGreatRefW
/- The walks of aediculeref06: put, op, fault, branches, mem. -/
namespace Go.Proofs.YtkbhokmnbpnlbaaGreat
open Go.RowKit Word
set_option linter.unusedVariables false
namespace Cp
theorem putD {w : World} {cb : Nat} {r : List Int} {pc : Int} (h : Cpu 124 w cb r pc) (n : Nat) (hn : n < 16) (v : Int) (v0 : 0 ≤ v) (v1 : v ≤ 4294967295) :
    Calls Tryz.prog 217 #[.pointer (some ⟨cb, 0, none⟩), .int .u8 n, .int .u32 v] w (PutPost 124 w cb r pc n v) := by
  by_cases h0 : n = 0
  · subst h0
    have H := Lib.hid h
    clear h
    go_enter Tryz.func217, Tryz.ntmps217
    go_wp2
    go_end0
    exact ⟨rfl, H.out, Mod.refl _ _⟩
  · have g0 : ((n : Int) != 0) = true := by simpa using h0
    have g1 : (n : Int) < 16 := by omega
    have hc := h.cellReg n hn
    have hf := h.thaw n
    have HS := Lib.hid (h.setReg n hn v v0 v1)
    rw [← putG_nat r n v h0] at HS
    clear h
    go_enter Tryz.func217, Tryz.ntmps217
    go_wp2
    go_end0
    exact ⟨rfl, HS.out, Mod.setCell (F := fun k => k = cb) (Mod.refl _ _) _ (.inl rfl) _⟩
theorem opD (fn a b : Int) (f0 : 0 ≤ fn) (f1 : fn ≤ 255) (h0 : 0 ≤ a) (h1 : a ≤ 4294967295) (h2 : 0 ≤ b) (h3 : b ≤ 4294967295) (w : World) : Calls Tryz.prog 218 #[.int .u8 fn, .int .u32 a, .int .u32 b] w fun e w' => e = .returned (.int .u32 (opv fn a b)) ∧ w = w' := by
  go_enter Tryz.func218, Tryz.ntmps218
  go_wp2_with (go_at_call 256; (with_reducible refine (WordRef.Op fn a b f0 f1 h0 h1 h2 h3 _).mono ?_); rintro e w1 ⟨rfl, rfl⟩)
  go_ret
  exact ⟨rfl, rfl⟩
theorem faultD (y : Int) (w : World) : Calls Tryz.prog 215 #[.int .i64 y] w fun e w' => e = .returned (.agg #[.int .u8 2, .int .u32 0, .int .i64 y]) ∧ Below w.heap.size w w' := by
  go_enter Tryz.func215, Tryz.ntmps215
  go_wp2
  refine bodyPost_ret (v := .agg #[.int .u8 2, .int .u32 0, .int .i64 y]) (by simp [results, Tryz.results215, go_sem]) rfl ⟨rfl, (Below.refl _ _).alloc (Nat.le_refl _) _⟩
/-- Does an instruction go to its number? -/
def brV (r : List Int) (x : Ins) : Bool :=
  if x.op = 40 ∨ x.op = 41 then true else if x.op = 43 then rg r x.a == rg r x.b else if x.op = 44 then rg r x.a != rg r x.b else if x.op = 45 then decide (rg r x.a < rg r x.b) else if x.op = 46 then decide (rg r x.b ≤ rg r x.a) else false
set_option maxRecDepth 100000 in
set_option maxHeartbeats 1000000 in
theorem branches {w : World} {db : Nat} {r : List Int} {pc : Int} (h : Cpu 124 w db r pc) (op : Int) (d a b : Nat) (imm : Int) (ha : a < 16) (hb : b < 16) :
    Calls Tryz.prog 220 #[.pointer (some ⟨db, 0, none⟩), Ins.val ⟨op, d, a, b, imm⟩] w fun e w' => e = .returned (.bool (brV r ⟨op, d, a, b, imm⟩)) ∧ Below w.heap.size w w' := by
  have ha1 : (a : Int) < 16 := by omega
  have hb1 : (b : Int) < 16 := by omega
  have hbW : Below w.heap.size w (w.alloc (.cells #[.int .u8 op, .int .u8 d, .int .u8 a, .int .u8 b, .int .u32 imm] 144)) := (Below.refl _ _).alloc (Nat.le_refl _) _
  have HF : Hid (Below w.heap.size w (w.alloc (.cells #[.int .u8 op, .int .u8 d, .int .u8 a, .int .u8 b, .int .u32 imm] 144)).drew) := Lib.hid hbW.drew
  have hbx : InsBox (w.alloc (.cells #[.int .u8 op, .int .u8 d, .int .u8 a, .int .u8 b, .int .u32 imm] 144)) w.heap.size op d a b imm := ⟨heap_alloc_new w _⟩
  have k0 := hbx.cells.1
  have k2 := hbx.cells.2.2.1
  have k3 := hbx.cells.2.2.2.1
  have k5 := (h.below hbW).cellReg a ha
  have k6 := (h.below hbW).cellReg b hb
  have hE : brV r ⟨op, d, a, b, imm⟩ = if op = 40 ∨ op = 41 then true else if op = 43 then rg r a == rg r b else if op = 44 then rg r a != rg r b else if op = 45 then decide (rg r a < rg r b) else if op = 46 then decide (rg r b ≤ rg r a) else false := rfl
  generalize brV r ⟨op, d, a, b, imm⟩ = E at *
  have HE := Lib.hid hE
  clear hE hbW hbx h
  generalize rg r (a : Int) = va at *
  generalize rg r (b : Int) = vb at *
  unfold Ins.val
  simp only
  by_cases hop : op = 40 ∨ op = 41 ∨ op = 43 ∨ op = 44 ∨ op = 45 ∨ op = 46
  · rcases hop with rfl | rfl | rfl | rfl | rfl | rfl
    all_goals
      go_enter Tryz.func220, Tryz.ntmps220
      go_wp2_with fail
      go_region
      go_wp2
      go_ret
      exact ⟨by rw [HE.out]; rfl, HF.out⟩
  · have f40 : (op == 40) = false := by simp; omega
    have f41 : (op == 41) = false := by simp; omega
    have f43 : (op == 43) = false := by simp; omega
    have f44 : (op == 44) = false := by simp; omega
    have f45 : (op == 45) = false := by simp; omega
    have f46 : (op == 46) = false := by simp; omega
    have hEf : E = false := by rw [HE.out, if_neg (by omega), if_neg (by omega), if_neg (by omega), if_neg (by omega), if_neg (by omega)]
    have HEf := Lib.hid hEf
    clear hop hEf
    go_enter Tryz.func220, Tryz.ntmps220
    go_wp2_with fail
    go_region
    go_wp2
    go_ret
    exact ⟨by have e := HEf.out; subst e; rfl, HF.out⟩
end Cp
end Go.Proofs.YtkbhokmnbpnlbaaGreat
/- The walk of aediculeref06.mem. -/
namespace Go.Proofs.YtkbhokmnbpnlbaaGreat
open Go.RowKit Word
set_option linter.unusedVariables false
namespace Cp
def LdPost (w : World) (db : Nat) (r : List Int) (pc : Int) (rb : Nat) (lv : Value) (R : List Rp) (c : Int) (e : Ending) (w' : World) : Prop := e = .returned (.int .i64 c) ∧ Cpu 124 w' db r pc ∧ Rsp w' rb lv R ∧ Mod (fun k => k = db) w w'
def SdPost (w : World) (db : Nat) (r : List Int) (pc : Int) (rb : Nat) (lv : Value) (R : List Rp) (A : List Pg) (c : Int) (e : Ending) (w' : World) : Prop := ∃ R', e = .returned (.int .i64 c) ∧ Cpu 124 w' db r pc ∧ rpgs R' = A ∧ RStep w w' rb lv R lv R'
theorem putL_bdn {v : Int} (h0 : 0 ≤ v) (h1 : v ≤ 4294967295) (n : Nat) : ∀ x, x ∈ (putL v).take n → 0 ≤ x ∧ x < 256 := by
  intro x hx
  have := List.mem_of_mem_take hx
  unfold putL at this
  simp at this
  omega
section
variable {w : World} {db rb : Nat} {lv : Value} {R : List Rp} {r : List Int} {pc : Int}
set_option maxRecDepth 100000 in
set_option maxHeartbeats 1000000 in
theorem mem33_no (hc : Cpu 124 w db r pc) (hr : Rsp w rb lv R) (hn : ¬ Rsp.foot rb lv R db) (d a b : Nat) (imm : Int) (i0 : 0 ≤ imm) (i1 : imm ≤ 4294967295) (hd : d < 16) (ha : a < 16) (hb : b < 16) (hf : Sp.fitsB (rpgs R) ((rg r a + imm) % 4294967296) 1 1 = false) :
    Calls Tryz.prog 219 #[.pointer (some ⟨db, 0, none⟩), .pointer (some ⟨rb, 0, none⟩), Ins.val ⟨33, d, a, b, imm⟩] w (LdPost w db r pc rb lv R 50) := by
  have hva := rg_bd hc.regs a
  have hvb := rg_bd hc.regs b
  have ha1 : (a : Int) < 16 := by omega
  have hb1 : (b : Int) < 16 := by omega
  obtain ⟨AD, had⟩ : ∃ AD, IntKind.u32.wrap (rg r a + imm) = AD := ⟨_, rfl⟩
  have hax : (rg r a + imm) % 4294967296 = AD := by rw [← had, IntKind.wrap_u32']
  have hA0 : 0 ≤ AD := by omega
  have hA1 : AD ≤ 4294967295 := by omega
  have hok : ∀ p, p ∈ rpgs R → p.ok := fun p hp => by obtain ⟨q, hq, rfl⟩ := List.mem_map.1 hp; exact (hr.pages q hq).ok
  rw [hax] at hf
  have hE := getE_no (n := 1) (by omega) hf
  have hE1 : Sp.getE (rpgs R) AD 1 1 = 50 := hE
  have HFin : Hid (∀ w', Cpu 124 w' db r pc → Rsp w' rb lv R → Mod (fun k => k = db) w w' → LdPost w db r pc rb lv R 50 (.returned (.int .i64 50)) w') := Lib.hid fun w' g1 g2 g3 => ⟨rfl, g1, g2, g3⟩
  generalize LdPost w db r pc rb lv R 50 = PQ at *
  have hbW : Below w.heap.size w (w.alloc (.cells #[.int .u8 33, .int .u8 d, .int .u8 a, .int .u8 b, .int .u32 imm] 144)) := (Below.refl _ _).alloc (Nat.le_refl _) _
  have hbx : InsBox (w.alloc (.cells #[.int .u8 33, .int .u8 d, .int .u8 a, .int .u8 b, .int .u32 imm] 144)) w.heap.size 33 d a b imm := ⟨heap_alloc_new w _⟩
  have Hlt : Hid (w.heap.size ≠ db ∧ ∀ k, Rsp.foot rb lv R k → w.heap.size ≠ k) := Lib.hid ⟨by have := hc.lt; omega, fun k hk => by have := hr.lt hk; omega⟩
  have HN := Lib.hid hn
  have HS : Hid (∀ w1, Below (w.heap.size + 1) (w.alloc (.cells #[.int .u8 33, .int .u8 d, .int .u8 a, .int .u8 b, .int .u32 imm] 144)) w1 → Cpu 124 w1 db r pc ∧ Rsp w1 rb lv R ∧ InsBox w1 w.heap.size 33 d a b imm ∧ Below w.heap.size w w1) := Lib.hid fun w1 g => by
    have g' : Below (w.alloc (.cells #[.int .u8 33, .int .u8 d, .int .u8 a, .int .u8 b, .int .u32 imm] 144)).heap.size (w.alloc (.cells #[.int .u8 33, .int .u8 d, .int .u8 a, .int .u8 b, .int .u32 imm] 144)) w1 := by rw [show (w.alloc (.cells #[.int .u8 33, .int .u8 d, .int .u8 a, .int .u8 b, .int .u32 imm] 144)).heap.size = w.heap.size + 1 by simp]; exact g
    exact ⟨(hc.below hbW).below g', (hr.same hbW).same g', hbx.below g', hbW.trans (g'.mono (by simp))⟩
  have k0 := hbx.cells.1
  have k2 := hbx.cells.2.2.1
  have k8 := hbx.cells.2.2.2.2
  have k5 := (hc.below hbW).cellReg a ha
  have hw1 := HS.out _ (Below.refl _ _).drew
  have k0' := hw1.2.2.1.cells.1
  have k1' := hw1.2.2.1.cells.2.1
  have k3' := hw1.2.2.1.cells.2.2.2.1
  have k6' := hw1.1.cellReg b hb
  have HW := Lib.hid hw1
  clear hc hr hn hbW hbx hw1
  unfold Ins.val
  simp only
  go_enter Tryz.func219, Tryz.ntmps219
  go_wp2_with fail
  go_region
  go_wp2_with fail
  refine (Rs.get_any HW.out.2.1 AD 1 1 hA0 hA1 (by omega) (by omega)).mono ?_
  rintro e w2 ⟨rfl, hb2⟩
  have HQ := Lib.hid (HS.out w2 (((Below.refl _ _).drew).trans (hb2.mono (by simp))))
  clear hb2 k0 k2 k8 k5 k0' k1' k3' k6'
  rw [hE1]
  go_wp2
  try go_ret
  exact HFin.out _ HQ.out.1 HQ.out.2.1 (Mod.of_below HQ.out.2.2.2 _)
set_option maxRecDepth 100000 in
set_option maxHeartbeats 1000000 in
theorem mem33_yes (hc : Cpu 124 w db r pc) (hr : Rsp w rb lv R) (hn : ¬ Rsp.foot rb lv R db) (d a b : Nat) (imm : Int) (i0 : 0 ≤ imm) (i1 : imm ≤ 4294967295) (hd : d < 16) (ha : a < 16) (hb : b < 16) (hf : Sp.fitsB (rpgs R) ((rg r a + imm) % 4294967296) 1 1 = true) :
    Calls Tryz.prog 219 #[.pointer (some ⟨db, 0, none⟩), .pointer (some ⟨rb, 0, none⟩), Ins.val ⟨33, d, a, b, imm⟩] w (LdPost w db (putG r d (getV (Sp.getL (rpgs R) ((rg r a + imm) % 4294967296) 1))) pc rb lv R 0) := by
  have hva := rg_bd hc.regs a
  have hvb := rg_bd hc.regs b
  have ha1 : (a : Int) < 16 := by omega
  have hb1 : (b : Int) < 16 := by omega
  obtain ⟨AD, had⟩ : ∃ AD, IntKind.u32.wrap (rg r a + imm) = AD := ⟨_, rfl⟩
  have hax : (rg r a + imm) % 4294967296 = AD := by rw [← had, IntKind.wrap_u32']
  have hA0 : 0 ≤ AD := by omega
  have hA1 : AD ≤ 4294967295 := by omega
  have hok : ∀ p, p ∈ rpgs R → p.ok := fun p hp => by obtain ⟨q, hq, rfl⟩ := List.mem_map.1 hp; exact (hr.pages q hq).ok
  rw [hax] at hf ⊢
  have hE := getE_yes (n := 1) (by omega) hf
  have hVb := getV_small (getL_bd hok AD 1) (by rw [Sp.getL_length]; omega)
  have hL1 := Sp.getL_length (rpgs R) AD 1
  have hLb := getL_bd hok AD 1
  have hE1 : Sp.getE (rpgs R) AD 1 1 = 0 := hE.1
  have hE2 : Sp.getS (rpgs R) AD 1 1 = strOfNums (Sp.getL (rpgs R) AD 1) := hE.2
  have HFin : Hid (∀ w', Cpu 124 w' db (putG r d (getV (Sp.getL (rpgs R) AD 1))) pc → Rsp w' rb lv R → Mod (fun k => k = db) w w' → LdPost w db (putG r d (getV (Sp.getL (rpgs R) AD 1))) pc rb lv R 0 (.returned (.int .i64 0)) w') := Lib.hid fun w' g1 g2 g3 => ⟨rfl, g1, g2, g3⟩
  generalize LdPost w db (putG r d (getV (Sp.getL (rpgs R) AD 1))) pc rb lv R 0 = PQ at *
  have hbW : Below w.heap.size w (w.alloc (.cells #[.int .u8 33, .int .u8 d, .int .u8 a, .int .u8 b, .int .u32 imm] 144)) := (Below.refl _ _).alloc (Nat.le_refl _) _
  have hbx : InsBox (w.alloc (.cells #[.int .u8 33, .int .u8 d, .int .u8 a, .int .u8 b, .int .u32 imm] 144)) w.heap.size 33 d a b imm := ⟨heap_alloc_new w _⟩
  have Hlt : Hid (w.heap.size ≠ db ∧ ∀ k, Rsp.foot rb lv R k → w.heap.size ≠ k) := Lib.hid ⟨by have := hc.lt; omega, fun k hk => by have := hr.lt hk; omega⟩
  have HN := Lib.hid hn
  have HS : Hid (∀ w1, Below (w.heap.size + 1) (w.alloc (.cells #[.int .u8 33, .int .u8 d, .int .u8 a, .int .u8 b, .int .u32 imm] 144)) w1 → Cpu 124 w1 db r pc ∧ Rsp w1 rb lv R ∧ InsBox w1 w.heap.size 33 d a b imm ∧ Below w.heap.size w w1) := Lib.hid fun w1 g => by
    have g' : Below (w.alloc (.cells #[.int .u8 33, .int .u8 d, .int .u8 a, .int .u8 b, .int .u32 imm] 144)).heap.size (w.alloc (.cells #[.int .u8 33, .int .u8 d, .int .u8 a, .int .u8 b, .int .u32 imm] 144)) w1 := by rw [show (w.alloc (.cells #[.int .u8 33, .int .u8 d, .int .u8 a, .int .u8 b, .int .u32 imm] 144)).heap.size = w.heap.size + 1 by simp]; exact g
    exact ⟨(hc.below hbW).below g', (hr.same hbW).same g', hbx.below g', hbW.trans (g'.mono (by simp))⟩
  have k0 := hbx.cells.1
  have k2 := hbx.cells.2.2.1
  have k8 := hbx.cells.2.2.2.2
  have k5 := (hc.below hbW).cellReg a ha
  have hw1 := HS.out _ (Below.refl _ _).drew
  have k0' := hw1.2.2.1.cells.1
  have k1' := hw1.2.2.1.cells.2.1
  have k3' := hw1.2.2.1.cells.2.2.2.1
  have k6' := hw1.1.cellReg b hb
  have HW := Lib.hid hw1
  clear hc hr hn hbW hbx hw1
  unfold Ins.val
  simp only
  go_enter Tryz.func219, Tryz.ntmps219
  go_wp2_with fail
  go_region
  go_wp2_with fail
  refine (Rs.get_any HW.out.2.1 AD 1 1 hA0 hA1 (by omega) (by omega)).mono ?_
  rintro e w2 ⟨rfl, hb2⟩
  have hq := HS.out w2 (((Below.refl _ _).drew).trans (hb2.mono (by simp)))
  have q1 := hq.2.2.1.cells.2.1
  have HQ := Lib.hid hq
  clear hq hb2 k0 k2 k8 k5 k0' k1' k3' k6'
  rw [hE1, hE2]
  clear hE hE1 hE2
  generalize Sp.getL (rpgs R) AD 1 = L at *
  have hsz : (strOfNums L).size = 1 := by rw [size_strOfNums, hL1]
  have Hg := Lib.hid (WordRef.get_ok (strOfNums L) (by omega) (by omega))
  rw [nums_strOfNums L hLb] at Hg
  go_wp2_with (go_at_call 255; (with_reducible refine (Hg.out _).mono ?_); rintro e w3 ⟨rfl, rfl⟩)
  refine (putD HQ.out.1 d hd _ hVb.1 hVb.2).mono ?_
  rintro e w3 ⟨rfl, hc3, hm3⟩
  have HC3 := Lib.hid hc3
  have HR3 := Lib.hid (HQ.out.2.1.keep hm3 (fun k hk g => HN.out (g ▸ hk)))
  have HM3 := Lib.hid ((Mod.of_below HQ.out.2.2.2 (fun k => k = db)).same hm3)
  clear hc3 hm3 q1
  go_wp2
  try go_ret
  exact HFin.out _ HC3.out HR3.out HM3.out
set_option maxRecDepth 100000 in
set_option maxHeartbeats 1000000 in
theorem mem34_no (hc : Cpu 124 w db r pc) (hr : Rsp w rb lv R) (hn : ¬ Rsp.foot rb lv R db) (d a b : Nat) (imm : Int) (i0 : 0 ≤ imm) (i1 : imm ≤ 4294967295) (hd : d < 16) (ha : a < 16) (hb : b < 16) (hf : Sp.fitsB (rpgs R) ((rg r a + imm) % 4294967296) 4 1 = false) :
    Calls Tryz.prog 219 #[.pointer (some ⟨db, 0, none⟩), .pointer (some ⟨rb, 0, none⟩), Ins.val ⟨34, d, a, b, imm⟩] w (LdPost w db r pc rb lv R 50) := by
  have hva := rg_bd hc.regs a
  have hvb := rg_bd hc.regs b
  have ha1 : (a : Int) < 16 := by omega
  have hb1 : (b : Int) < 16 := by omega
  obtain ⟨AD, had⟩ : ∃ AD, IntKind.u32.wrap (rg r a + imm) = AD := ⟨_, rfl⟩
  have hax : (rg r a + imm) % 4294967296 = AD := by rw [← had, IntKind.wrap_u32']
  have hA0 : 0 ≤ AD := by omega
  have hA1 : AD ≤ 4294967295 := by omega
  have hok : ∀ p, p ∈ rpgs R → p.ok := fun p hp => by obtain ⟨q, hq, rfl⟩ := List.mem_map.1 hp; exact (hr.pages q hq).ok
  rw [hax] at hf
  have hE := getE_no (n := 4) (by omega) hf
  have hE1 : Sp.getE (rpgs R) AD 4 1 = 50 := hE
  have HFin : Hid (∀ w', Cpu 124 w' db r pc → Rsp w' rb lv R → Mod (fun k => k = db) w w' → LdPost w db r pc rb lv R 50 (.returned (.int .i64 50)) w') := Lib.hid fun w' g1 g2 g3 => ⟨rfl, g1, g2, g3⟩
  generalize LdPost w db r pc rb lv R 50 = PQ at *
  have hbW : Below w.heap.size w (w.alloc (.cells #[.int .u8 34, .int .u8 d, .int .u8 a, .int .u8 b, .int .u32 imm] 144)) := (Below.refl _ _).alloc (Nat.le_refl _) _
  have hbx : InsBox (w.alloc (.cells #[.int .u8 34, .int .u8 d, .int .u8 a, .int .u8 b, .int .u32 imm] 144)) w.heap.size 34 d a b imm := ⟨heap_alloc_new w _⟩
  have Hlt : Hid (w.heap.size ≠ db ∧ ∀ k, Rsp.foot rb lv R k → w.heap.size ≠ k) := Lib.hid ⟨by have := hc.lt; omega, fun k hk => by have := hr.lt hk; omega⟩
  have HN := Lib.hid hn
  have HS : Hid (∀ w1, Below (w.heap.size + 1) (w.alloc (.cells #[.int .u8 34, .int .u8 d, .int .u8 a, .int .u8 b, .int .u32 imm] 144)) w1 → Cpu 124 w1 db r pc ∧ Rsp w1 rb lv R ∧ InsBox w1 w.heap.size 34 d a b imm ∧ Below w.heap.size w w1) := Lib.hid fun w1 g => by
    have g' : Below (w.alloc (.cells #[.int .u8 34, .int .u8 d, .int .u8 a, .int .u8 b, .int .u32 imm] 144)).heap.size (w.alloc (.cells #[.int .u8 34, .int .u8 d, .int .u8 a, .int .u8 b, .int .u32 imm] 144)) w1 := by rw [show (w.alloc (.cells #[.int .u8 34, .int .u8 d, .int .u8 a, .int .u8 b, .int .u32 imm] 144)).heap.size = w.heap.size + 1 by simp]; exact g
    exact ⟨(hc.below hbW).below g', (hr.same hbW).same g', hbx.below g', hbW.trans (g'.mono (by simp))⟩
  have k0 := hbx.cells.1
  have k2 := hbx.cells.2.2.1
  have k8 := hbx.cells.2.2.2.2
  have k5 := (hc.below hbW).cellReg a ha
  have hw1 := HS.out _ (Below.refl _ _).drew
  have k0' := hw1.2.2.1.cells.1
  have k1' := hw1.2.2.1.cells.2.1
  have k3' := hw1.2.2.1.cells.2.2.2.1
  have k6' := hw1.1.cellReg b hb
  have HW := Lib.hid hw1
  clear hc hr hn hbW hbx hw1
  unfold Ins.val
  simp only
  go_enter Tryz.func219, Tryz.ntmps219
  go_wp2_with fail
  go_region
  go_wp2_with fail
  refine (Rs.get_any HW.out.2.1 AD 4 1 hA0 hA1 (by omega) (by omega)).mono ?_
  rintro e w2 ⟨rfl, hb2⟩
  have HQ := Lib.hid (HS.out w2 (((Below.refl _ _).drew).trans (hb2.mono (by simp))))
  clear hb2 k0 k2 k8 k5 k0' k1' k3' k6'
  rw [hE1]
  go_wp2
  try go_ret
  exact HFin.out _ HQ.out.1 HQ.out.2.1 (Mod.of_below HQ.out.2.2.2 _)
set_option maxRecDepth 100000 in
set_option maxHeartbeats 1000000 in
theorem mem34_yes (hc : Cpu 124 w db r pc) (hr : Rsp w rb lv R) (hn : ¬ Rsp.foot rb lv R db) (d a b : Nat) (imm : Int) (i0 : 0 ≤ imm) (i1 : imm ≤ 4294967295) (hd : d < 16) (ha : a < 16) (hb : b < 16) (hf : Sp.fitsB (rpgs R) ((rg r a + imm) % 4294967296) 4 1 = true) :
    Calls Tryz.prog 219 #[.pointer (some ⟨db, 0, none⟩), .pointer (some ⟨rb, 0, none⟩), Ins.val ⟨34, d, a, b, imm⟩] w (LdPost w db (putG r d (getV (Sp.getL (rpgs R) ((rg r a + imm) % 4294967296) 4))) pc rb lv R 0) := by
  have hva := rg_bd hc.regs a
  have hvb := rg_bd hc.regs b
  have ha1 : (a : Int) < 16 := by omega
  have hb1 : (b : Int) < 16 := by omega
  obtain ⟨AD, had⟩ : ∃ AD, IntKind.u32.wrap (rg r a + imm) = AD := ⟨_, rfl⟩
  have hax : (rg r a + imm) % 4294967296 = AD := by rw [← had, IntKind.wrap_u32']
  have hA0 : 0 ≤ AD := by omega
  have hA1 : AD ≤ 4294967295 := by omega
  have hok : ∀ p, p ∈ rpgs R → p.ok := fun p hp => by obtain ⟨q, hq, rfl⟩ := List.mem_map.1 hp; exact (hr.pages q hq).ok
  rw [hax] at hf ⊢
  have hE := getE_yes (n := 4) (by omega) hf
  have hVb := getV_small (getL_bd hok AD 4) (by rw [Sp.getL_length]; omega)
  have hL1 := Sp.getL_length (rpgs R) AD 4
  have hLb := getL_bd hok AD 4
  have hE1 : Sp.getE (rpgs R) AD 4 1 = 0 := hE.1
  have hE2 : Sp.getS (rpgs R) AD 4 1 = strOfNums (Sp.getL (rpgs R) AD 4) := hE.2
  have HFin : Hid (∀ w', Cpu 124 w' db (putG r d (getV (Sp.getL (rpgs R) AD 4))) pc → Rsp w' rb lv R → Mod (fun k => k = db) w w' → LdPost w db (putG r d (getV (Sp.getL (rpgs R) AD 4))) pc rb lv R 0 (.returned (.int .i64 0)) w') := Lib.hid fun w' g1 g2 g3 => ⟨rfl, g1, g2, g3⟩
  generalize LdPost w db (putG r d (getV (Sp.getL (rpgs R) AD 4))) pc rb lv R 0 = PQ at *
  have hbW : Below w.heap.size w (w.alloc (.cells #[.int .u8 34, .int .u8 d, .int .u8 a, .int .u8 b, .int .u32 imm] 144)) := (Below.refl _ _).alloc (Nat.le_refl _) _
  have hbx : InsBox (w.alloc (.cells #[.int .u8 34, .int .u8 d, .int .u8 a, .int .u8 b, .int .u32 imm] 144)) w.heap.size 34 d a b imm := ⟨heap_alloc_new w _⟩
  have Hlt : Hid (w.heap.size ≠ db ∧ ∀ k, Rsp.foot rb lv R k → w.heap.size ≠ k) := Lib.hid ⟨by have := hc.lt; omega, fun k hk => by have := hr.lt hk; omega⟩
  have HN := Lib.hid hn
  have HS : Hid (∀ w1, Below (w.heap.size + 1) (w.alloc (.cells #[.int .u8 34, .int .u8 d, .int .u8 a, .int .u8 b, .int .u32 imm] 144)) w1 → Cpu 124 w1 db r pc ∧ Rsp w1 rb lv R ∧ InsBox w1 w.heap.size 34 d a b imm ∧ Below w.heap.size w w1) := Lib.hid fun w1 g => by
    have g' : Below (w.alloc (.cells #[.int .u8 34, .int .u8 d, .int .u8 a, .int .u8 b, .int .u32 imm] 144)).heap.size (w.alloc (.cells #[.int .u8 34, .int .u8 d, .int .u8 a, .int .u8 b, .int .u32 imm] 144)) w1 := by rw [show (w.alloc (.cells #[.int .u8 34, .int .u8 d, .int .u8 a, .int .u8 b, .int .u32 imm] 144)).heap.size = w.heap.size + 1 by simp]; exact g
    exact ⟨(hc.below hbW).below g', (hr.same hbW).same g', hbx.below g', hbW.trans (g'.mono (by simp))⟩
  have k0 := hbx.cells.1
  have k2 := hbx.cells.2.2.1
  have k8 := hbx.cells.2.2.2.2
  have k5 := (hc.below hbW).cellReg a ha
  have hw1 := HS.out _ (Below.refl _ _).drew
  have k0' := hw1.2.2.1.cells.1
  have k1' := hw1.2.2.1.cells.2.1
  have k3' := hw1.2.2.1.cells.2.2.2.1
  have k6' := hw1.1.cellReg b hb
  have HW := Lib.hid hw1
  clear hc hr hn hbW hbx hw1
  unfold Ins.val
  simp only
  go_enter Tryz.func219, Tryz.ntmps219
  go_wp2_with fail
  go_region
  go_wp2_with fail
  refine (Rs.get_any HW.out.2.1 AD 4 1 hA0 hA1 (by omega) (by omega)).mono ?_
  rintro e w2 ⟨rfl, hb2⟩
  have hq := HS.out w2 (((Below.refl _ _).drew).trans (hb2.mono (by simp)))
  have q1 := hq.2.2.1.cells.2.1
  have HQ := Lib.hid hq
  clear hq hb2 k0 k2 k8 k5 k0' k1' k3' k6'
  rw [hE1, hE2]
  clear hE hE1 hE2
  generalize Sp.getL (rpgs R) AD 4 = L at *
  have hsz : (strOfNums L).size = 4 := by rw [size_strOfNums, hL1]
  have Hg := Lib.hid (WordRef.get_ok (strOfNums L) (by omega) (by omega))
  rw [nums_strOfNums L hLb] at Hg
  go_wp2_with (go_at_call 255; (with_reducible refine (Hg.out _).mono ?_); rintro e w3 ⟨rfl, rfl⟩)
  refine (putD HQ.out.1 d hd _ hVb.1 hVb.2).mono ?_
  rintro e w3 ⟨rfl, hc3, hm3⟩
  have HC3 := Lib.hid hc3
  have HR3 := Lib.hid (HQ.out.2.1.keep hm3 (fun k hk g => HN.out (g ▸ hk)))
  have HM3 := Lib.hid ((Mod.of_below HQ.out.2.2.2 (fun k => k = db)).same hm3)
  clear hc3 hm3 q1
  go_wp2
  try go_ret
  exact HFin.out _ HC3.out HR3.out HM3.out
set_option maxRecDepth 100000 in
set_option maxHeartbeats 1000000 in
theorem mem35_no (hc : Cpu 124 w db r pc) (hr : Rsp w rb lv R) (hn : ¬ Rsp.foot rb lv R db) (d a b : Nat) (imm : Int) (i0 : 0 ≤ imm) (i1 : imm ≤ 4294967295) (hd : d < 16) (ha : a < 16) (hb : b < 16) (hf : Sp.fitsB (rpgs R) ((rg r a + imm) % 4294967296) 1 2 = false) :
    Calls Tryz.prog 219 #[.pointer (some ⟨db, 0, none⟩), .pointer (some ⟨rb, 0, none⟩), Ins.val ⟨35, d, a, b, imm⟩] w (SdPost w db r pc rb lv R (rpgs R) 50) := by
  have hva := rg_bd hc.regs a
  have hvb := rg_bd hc.regs b
  have ha1 : (a : Int) < 16 := by omega
  have hb1 : (b : Int) < 16 := by omega
  obtain ⟨AD, had⟩ : ∃ AD, IntKind.u32.wrap (rg r a + imm) = AD := ⟨_, rfl⟩
  have hax : (rg r a + imm) % 4294967296 = AD := by rw [← had, IntKind.wrap_u32']
  have hA0 : 0 ≤ AD := by omega
  have hA1 : AD ≤ 4294967295 := by omega
  have hok : ∀ p, p ∈ rpgs R → p.ok := fun p hp => by obtain ⟨q, hq, rfl⟩ := List.mem_map.1 hp; exact (hr.pages q hq).ok
  rw [hax] at hf
  have hSn : (putS (rg r b) 1).size = 1 := by unfold putS; rw [size_strOfNums]; rfl
  have hSx : nums (putS (rg r b) 1) = (putL (rg r b)).take 1 := by unfold putS; exact nums_strOfNums _ (putL_bdn hvb.1 hvb.2 1)
  have hE : Sp.putA (rpgs R) AD 2 (putS (rg r b) 1) = (rpgs R) ∧ Sp.fitsE (rpgs R) AD (putS (rg r b) 1).size 2 = 50 := by
    rw [hSn]
    refine ⟨?_, Sp.fitsE_no hf⟩
    unfold Sp.putA
    rw [hSn, hf]
    rfl
  have HFin : Hid (∀ R' w', Cpu 124 w' db r pc → rpgs R' = (rpgs R) → RStep w w' rb lv R lv R' → SdPost w db r pc rb lv R (rpgs R) 50 (.returned (.int .i64 50)) w') := Lib.hid fun R' w' g1 g2 g3 => ⟨R', rfl, g1, g2, g3⟩
  generalize SdPost w db r pc rb lv R (rpgs R) 50 = PQ at *
  have HBy := Lib.hid (WordRef.Bytes (rg r b) 1 (by omega) hvb.1 hvb.2)
  have hbW : Below w.heap.size w (w.alloc (.cells #[.int .u8 35, .int .u8 d, .int .u8 a, .int .u8 b, .int .u32 imm] 144)) := (Below.refl _ _).alloc (Nat.le_refl _) _
  have hbx : InsBox (w.alloc (.cells #[.int .u8 35, .int .u8 d, .int .u8 a, .int .u8 b, .int .u32 imm] 144)) w.heap.size 35 d a b imm := ⟨heap_alloc_new w _⟩
  have Hlt : Hid (w.heap.size ≠ db ∧ ∀ k, Rsp.foot rb lv R k → w.heap.size ≠ k) := Lib.hid ⟨by have := hc.lt; omega, fun k hk => by have := hr.lt hk; omega⟩
  have HN := Lib.hid hn
  have HS : Hid (∀ w1, Below (w.heap.size + 1) (w.alloc (.cells #[.int .u8 35, .int .u8 d, .int .u8 a, .int .u8 b, .int .u32 imm] 144)) w1 → Cpu 124 w1 db r pc ∧ Rsp w1 rb lv R ∧ InsBox w1 w.heap.size 35 d a b imm ∧ Below w.heap.size w w1) := Lib.hid fun w1 g => by
    have g' : Below (w.alloc (.cells #[.int .u8 35, .int .u8 d, .int .u8 a, .int .u8 b, .int .u32 imm] 144)).heap.size (w.alloc (.cells #[.int .u8 35, .int .u8 d, .int .u8 a, .int .u8 b, .int .u32 imm] 144)) w1 := by rw [show (w.alloc (.cells #[.int .u8 35, .int .u8 d, .int .u8 a, .int .u8 b, .int .u32 imm] 144)).heap.size = w.heap.size + 1 by simp]; exact g
    exact ⟨(hc.below hbW).below g', (hr.same hbW).same g', hbx.below g', hbW.trans (g'.mono (by simp))⟩
  have k0 := hbx.cells.1
  have k2 := hbx.cells.2.2.1
  have k8 := hbx.cells.2.2.2.2
  have k5 := (hc.below hbW).cellReg a ha
  have hw1 := HS.out _ (Below.refl _ _).drew
  have k0' := hw1.2.2.1.cells.1
  have k1' := hw1.2.2.1.cells.2.1
  have k3' := hw1.2.2.1.cells.2.2.2.1
  have k6' := hw1.1.cellReg b hb
  have HW := Lib.hid hw1
  clear hc hr hn hbW hbx hw1
  unfold Ins.val
  simp only
  go_enter Tryz.func219, Tryz.ntmps219
  go_wp2_with fail
  go_region
  generalize putS (rg r b) 1 = S at *
  go_wp2_with fail
  have h0W : Below (w.heap.size + 1) (w.alloc (.cells #[.int .u8 35, .int .u8 d, .int .u8 a, .int .u8 b, .int .u32 imm] 144)) (w.alloc (.cells #[.int .u8 35, .int .u8 d, .int .u8 a, .int .u8 b, .int .u32 imm] 144)).drew := (Below.refl _ _).drew
  have h1W := HS.out _ h0W.drew
  have m3 := h1W.2.2.1.cells.2.2.2.1
  have m6 := h1W.1.cellReg b hb
  clear k0 k2 k8 k5
  go_region_held3 (fun w' => w'.cell? ⟨w.heap.size, 3, none⟩ = some (.int .u8 b) ∧ w'.cell? ⟨db, b, none⟩ = some (.int .u32 (rg r b)))
    (first
      | exact ⟨k3', k6'⟩
      | exact ⟨m3, m6⟩
      | exact ⟨q3, q6⟩
      | exact ⟨z3, z6⟩)
    (first
      | (go_at_call 236
         refine (HBy.out _).mono ?_
         rintro e w2 ⟨rfl, hq2⟩
         have hq := HS.out w2 (by first | exact h0W.drew.trans (hq2.mono (by simp)) | exact h0W.trans (hq2.mono (by simp)))
         have q3 := hq.2.2.1.cells.2.2.2.1
         have q6 := hq.1.cellReg b hb)
      | (go_at_call 126
         refine (Rs.put_in hq.2.1 AD 2 S hA0 hA1 (by rw [hSn]; omega) (by omega) (by omega)).mono ?_
         rintro e w3 ⟨R3, rfl, hR3, hs3⟩
         rw [hE.1] at hR3
         rw [hE.2]
         have hz1 := hq.1.keep hs3.mod HN.out
         have hz2 : InsBox w3 w.heap.size 35 d a b imm := ⟨(hs3.mod.block _ (lt_of_block hq.2.2.1.blk) (fun g => Hlt.out.2 _ g rfl)).trans hq.2.2.1.blk⟩
         have z3 := hz2.cells.2.2.2.1
         have z6 := hz1.cellReg b hb))
  all_goals
    have HC3 := Lib.hid hz1
    have HR3 := Lib.hid hR3
    have HS3 : Hid (RStep w w3 rb lv R lv R3) := Lib.hid ⟨hs3.sp, (Mod.of_below hq.2.2.2 _).same hs3.mod, fun k hk => (hs3.foot k hk).imp id fun g => Nat.le_trans hq.2.2.2.size g⟩
    clear hz1 hz2 hs3 hq hR3 q3 q6 z3 z6 m3 m6 h0W h1W
    go_wp2
    try go_ret
    exact HFin.out _ _ HC3.out HR3.out HS3.out
set_option maxRecDepth 100000 in
set_option maxHeartbeats 1000000 in
theorem mem35_yes (hc : Cpu 124 w db r pc) (hr : Rsp w rb lv R) (hn : ¬ Rsp.foot rb lv R db) (d a b : Nat) (imm : Int) (i0 : 0 ≤ imm) (i1 : imm ≤ 4294967295) (hd : d < 16) (ha : a < 16) (hb : b < 16) (hf : Sp.fitsB (rpgs R) ((rg r a + imm) % 4294967296) 1 2 = true) :
    Calls Tryz.prog 219 #[.pointer (some ⟨db, 0, none⟩), .pointer (some ⟨rb, 0, none⟩), Ins.val ⟨35, d, a, b, imm⟩] w (SdPost w db r pc rb lv R (putN (rpgs R) ((rg r a + imm) % 4294967296) ((putL (rg r b)).take 1) 1) 0) := by
  have hva := rg_bd hc.regs a
  have hvb := rg_bd hc.regs b
  have ha1 : (a : Int) < 16 := by omega
  have hb1 : (b : Int) < 16 := by omega
  obtain ⟨AD, had⟩ : ∃ AD, IntKind.u32.wrap (rg r a + imm) = AD := ⟨_, rfl⟩
  have hax : (rg r a + imm) % 4294967296 = AD := by rw [← had, IntKind.wrap_u32']
  have hA0 : 0 ≤ AD := by omega
  have hA1 : AD ≤ 4294967295 := by omega
  have hok : ∀ p, p ∈ rpgs R → p.ok := fun p hp => by obtain ⟨q, hq, rfl⟩ := List.mem_map.1 hp; exact (hr.pages q hq).ok
  rw [hax] at hf ⊢
  have hSn : (putS (rg r b) 1).size = 1 := by unfold putS; rw [size_strOfNums]; rfl
  have hSx : nums (putS (rg r b) 1) = (putL (rg r b)).take 1 := by unfold putS; exact nums_strOfNums _ (putL_bdn hvb.1 hvb.2 1)
  have hE : Sp.putA (rpgs R) AD 2 (putS (rg r b) 1) = (putN (rpgs R) AD ((putL (rg r b)).take 1) 1) ∧ Sp.fitsE (rpgs R) AD (putS (rg r b) 1).size 2 = 0 := by
    rw [hSn]
    refine ⟨?_, Sp.fitsE_yes hf⟩
    unfold Sp.putA
    rw [hSn, if_pos hf, hSx]

  have HFin : Hid (∀ R' w', Cpu 124 w' db r pc → rpgs R' = (putN (rpgs R) AD ((putL (rg r b)).take 1) 1) → RStep w w' rb lv R lv R' → SdPost w db r pc rb lv R (putN (rpgs R) AD ((putL (rg r b)).take 1) 1) 0 (.returned (.int .i64 0)) w') := Lib.hid fun R' w' g1 g2 g3 => ⟨R', rfl, g1, g2, g3⟩
  generalize SdPost w db r pc rb lv R (putN (rpgs R) AD ((putL (rg r b)).take 1) 1) 0 = PQ at *
  have HBy := Lib.hid (WordRef.Bytes (rg r b) 1 (by omega) hvb.1 hvb.2)
  have hbW : Below w.heap.size w (w.alloc (.cells #[.int .u8 35, .int .u8 d, .int .u8 a, .int .u8 b, .int .u32 imm] 144)) := (Below.refl _ _).alloc (Nat.le_refl _) _
  have hbx : InsBox (w.alloc (.cells #[.int .u8 35, .int .u8 d, .int .u8 a, .int .u8 b, .int .u32 imm] 144)) w.heap.size 35 d a b imm := ⟨heap_alloc_new w _⟩
  have Hlt : Hid (w.heap.size ≠ db ∧ ∀ k, Rsp.foot rb lv R k → w.heap.size ≠ k) := Lib.hid ⟨by have := hc.lt; omega, fun k hk => by have := hr.lt hk; omega⟩
  have HN := Lib.hid hn
  have HS : Hid (∀ w1, Below (w.heap.size + 1) (w.alloc (.cells #[.int .u8 35, .int .u8 d, .int .u8 a, .int .u8 b, .int .u32 imm] 144)) w1 → Cpu 124 w1 db r pc ∧ Rsp w1 rb lv R ∧ InsBox w1 w.heap.size 35 d a b imm ∧ Below w.heap.size w w1) := Lib.hid fun w1 g => by
    have g' : Below (w.alloc (.cells #[.int .u8 35, .int .u8 d, .int .u8 a, .int .u8 b, .int .u32 imm] 144)).heap.size (w.alloc (.cells #[.int .u8 35, .int .u8 d, .int .u8 a, .int .u8 b, .int .u32 imm] 144)) w1 := by rw [show (w.alloc (.cells #[.int .u8 35, .int .u8 d, .int .u8 a, .int .u8 b, .int .u32 imm] 144)).heap.size = w.heap.size + 1 by simp]; exact g
    exact ⟨(hc.below hbW).below g', (hr.same hbW).same g', hbx.below g', hbW.trans (g'.mono (by simp))⟩
  have k0 := hbx.cells.1
  have k2 := hbx.cells.2.2.1
  have k8 := hbx.cells.2.2.2.2
  have k5 := (hc.below hbW).cellReg a ha
  have hw1 := HS.out _ (Below.refl _ _).drew
  have k0' := hw1.2.2.1.cells.1
  have k1' := hw1.2.2.1.cells.2.1
  have k3' := hw1.2.2.1.cells.2.2.2.1
  have k6' := hw1.1.cellReg b hb
  have HW := Lib.hid hw1
  clear hc hr hn hbW hbx hw1
  unfold Ins.val
  simp only
  go_enter Tryz.func219, Tryz.ntmps219
  go_wp2_with fail
  go_region
  generalize putS (rg r b) 1 = S at *
  go_wp2_with fail
  have h0W : Below (w.heap.size + 1) (w.alloc (.cells #[.int .u8 35, .int .u8 d, .int .u8 a, .int .u8 b, .int .u32 imm] 144)) (w.alloc (.cells #[.int .u8 35, .int .u8 d, .int .u8 a, .int .u8 b, .int .u32 imm] 144)).drew := (Below.refl _ _).drew
  have h1W := HS.out _ h0W.drew
  have m3 := h1W.2.2.1.cells.2.2.2.1
  have m6 := h1W.1.cellReg b hb
  clear k0 k2 k8 k5
  go_region_held3 (fun w' => w'.cell? ⟨w.heap.size, 3, none⟩ = some (.int .u8 b) ∧ w'.cell? ⟨db, b, none⟩ = some (.int .u32 (rg r b)))
    (first
      | exact ⟨k3', k6'⟩
      | exact ⟨m3, m6⟩
      | exact ⟨q3, q6⟩
      | exact ⟨z3, z6⟩)
    (first
      | (go_at_call 236
         refine (HBy.out _).mono ?_
         rintro e w2 ⟨rfl, hq2⟩
         have hq := HS.out w2 (by first | exact h0W.drew.trans (hq2.mono (by simp)) | exact h0W.trans (hq2.mono (by simp)))
         have q3 := hq.2.2.1.cells.2.2.2.1
         have q6 := hq.1.cellReg b hb)
      | (go_at_call 126
         refine (Rs.put_in hq.2.1 AD 2 S hA0 hA1 (by rw [hSn]; omega) (by omega) (by omega)).mono ?_
         rintro e w3 ⟨R3, rfl, hR3, hs3⟩
         rw [hE.1] at hR3
         rw [hE.2]
         have hz1 := hq.1.keep hs3.mod HN.out
         have hz2 : InsBox w3 w.heap.size 35 d a b imm := ⟨(hs3.mod.block _ (lt_of_block hq.2.2.1.blk) (fun g => Hlt.out.2 _ g rfl)).trans hq.2.2.1.blk⟩
         have z3 := hz2.cells.2.2.2.1
         have z6 := hz1.cellReg b hb))
  all_goals
    have HC3 := Lib.hid hz1
    have HR3 := Lib.hid hR3
    have HS3 : Hid (RStep w w3 rb lv R lv R3) := Lib.hid ⟨hs3.sp, (Mod.of_below hq.2.2.2 _).same hs3.mod, fun k hk => (hs3.foot k hk).imp id fun g => Nat.le_trans hq.2.2.2.size g⟩
    clear hz1 hz2 hs3 hq hR3 q3 q6 z3 z6 m3 m6 h0W h1W
    go_wp2
    try go_ret
    exact HFin.out _ _ HC3.out HR3.out HS3.out
set_option maxRecDepth 100000 in
set_option maxHeartbeats 1000000 in
theorem mem36_no (hc : Cpu 124 w db r pc) (hr : Rsp w rb lv R) (hn : ¬ Rsp.foot rb lv R db) (d a b : Nat) (imm : Int) (i0 : 0 ≤ imm) (i1 : imm ≤ 4294967295) (hd : d < 16) (ha : a < 16) (hb : b < 16) (hf : Sp.fitsB (rpgs R) ((rg r a + imm) % 4294967296) 4 2 = false) :
    Calls Tryz.prog 219 #[.pointer (some ⟨db, 0, none⟩), .pointer (some ⟨rb, 0, none⟩), Ins.val ⟨36, d, a, b, imm⟩] w (SdPost w db r pc rb lv R (rpgs R) 50) := by
  have hva := rg_bd hc.regs a
  have hvb := rg_bd hc.regs b
  have ha1 : (a : Int) < 16 := by omega
  have hb1 : (b : Int) < 16 := by omega
  obtain ⟨AD, had⟩ : ∃ AD, IntKind.u32.wrap (rg r a + imm) = AD := ⟨_, rfl⟩
  have hax : (rg r a + imm) % 4294967296 = AD := by rw [← had, IntKind.wrap_u32']
  have hA0 : 0 ≤ AD := by omega
  have hA1 : AD ≤ 4294967295 := by omega
  have hok : ∀ p, p ∈ rpgs R → p.ok := fun p hp => by obtain ⟨q, hq, rfl⟩ := List.mem_map.1 hp; exact (hr.pages q hq).ok
  rw [hax] at hf
  have hSn : (putS (rg r b) 4).size = 4 := by unfold putS; rw [size_strOfNums]; rfl
  have hSx : nums (putS (rg r b) 4) = (putL (rg r b)).take 4 := by unfold putS; exact nums_strOfNums _ (putL_bdn hvb.1 hvb.2 4)
  have hE : Sp.putA (rpgs R) AD 2 (putS (rg r b) 4) = (rpgs R) ∧ Sp.fitsE (rpgs R) AD (putS (rg r b) 4).size 2 = 50 := by
    rw [hSn]
    refine ⟨?_, Sp.fitsE_no hf⟩
    unfold Sp.putA
    rw [hSn, hf]
    rfl
  have HFin : Hid (∀ R' w', Cpu 124 w' db r pc → rpgs R' = (rpgs R) → RStep w w' rb lv R lv R' → SdPost w db r pc rb lv R (rpgs R) 50 (.returned (.int .i64 50)) w') := Lib.hid fun R' w' g1 g2 g3 => ⟨R', rfl, g1, g2, g3⟩
  generalize SdPost w db r pc rb lv R (rpgs R) 50 = PQ at *
  have HBy := Lib.hid (WordRef.Bytes (rg r b) 4 (by omega) hvb.1 hvb.2)
  have hbW : Below w.heap.size w (w.alloc (.cells #[.int .u8 36, .int .u8 d, .int .u8 a, .int .u8 b, .int .u32 imm] 144)) := (Below.refl _ _).alloc (Nat.le_refl _) _
  have hbx : InsBox (w.alloc (.cells #[.int .u8 36, .int .u8 d, .int .u8 a, .int .u8 b, .int .u32 imm] 144)) w.heap.size 36 d a b imm := ⟨heap_alloc_new w _⟩
  have Hlt : Hid (w.heap.size ≠ db ∧ ∀ k, Rsp.foot rb lv R k → w.heap.size ≠ k) := Lib.hid ⟨by have := hc.lt; omega, fun k hk => by have := hr.lt hk; omega⟩
  have HN := Lib.hid hn
  have HS : Hid (∀ w1, Below (w.heap.size + 1) (w.alloc (.cells #[.int .u8 36, .int .u8 d, .int .u8 a, .int .u8 b, .int .u32 imm] 144)) w1 → Cpu 124 w1 db r pc ∧ Rsp w1 rb lv R ∧ InsBox w1 w.heap.size 36 d a b imm ∧ Below w.heap.size w w1) := Lib.hid fun w1 g => by
    have g' : Below (w.alloc (.cells #[.int .u8 36, .int .u8 d, .int .u8 a, .int .u8 b, .int .u32 imm] 144)).heap.size (w.alloc (.cells #[.int .u8 36, .int .u8 d, .int .u8 a, .int .u8 b, .int .u32 imm] 144)) w1 := by rw [show (w.alloc (.cells #[.int .u8 36, .int .u8 d, .int .u8 a, .int .u8 b, .int .u32 imm] 144)).heap.size = w.heap.size + 1 by simp]; exact g
    exact ⟨(hc.below hbW).below g', (hr.same hbW).same g', hbx.below g', hbW.trans (g'.mono (by simp))⟩
  have k0 := hbx.cells.1
  have k2 := hbx.cells.2.2.1
  have k8 := hbx.cells.2.2.2.2
  have k5 := (hc.below hbW).cellReg a ha
  have hw1 := HS.out _ (Below.refl _ _).drew
  have k0' := hw1.2.2.1.cells.1
  have k1' := hw1.2.2.1.cells.2.1
  have k3' := hw1.2.2.1.cells.2.2.2.1
  have k6' := hw1.1.cellReg b hb
  have HW := Lib.hid hw1
  clear hc hr hn hbW hbx hw1
  unfold Ins.val
  simp only
  go_enter Tryz.func219, Tryz.ntmps219
  go_wp2_with fail
  go_region
  generalize putS (rg r b) 4 = S at *
  go_wp2_with fail
  have h0W : Below (w.heap.size + 1) (w.alloc (.cells #[.int .u8 36, .int .u8 d, .int .u8 a, .int .u8 b, .int .u32 imm] 144)) (w.alloc (.cells #[.int .u8 36, .int .u8 d, .int .u8 a, .int .u8 b, .int .u32 imm] 144)).drew := (Below.refl _ _).drew
  have h1W := HS.out _ h0W.drew
  have m3 := h1W.2.2.1.cells.2.2.2.1
  have m6 := h1W.1.cellReg b hb
  clear k0 k2 k8 k5
  go_region_held3 (fun w' => w'.cell? ⟨w.heap.size, 3, none⟩ = some (.int .u8 b) ∧ w'.cell? ⟨db, b, none⟩ = some (.int .u32 (rg r b)))
    (first
      | exact ⟨k3', k6'⟩
      | exact ⟨m3, m6⟩
      | exact ⟨q3, q6⟩
      | exact ⟨z3, z6⟩)
    (first
      | (go_at_call 236
         refine (HBy.out _).mono ?_
         rintro e w2 ⟨rfl, hq2⟩
         have hq := HS.out w2 (by first | exact h0W.drew.trans (hq2.mono (by simp)) | exact h0W.trans (hq2.mono (by simp)))
         have q3 := hq.2.2.1.cells.2.2.2.1
         have q6 := hq.1.cellReg b hb)
      | (go_at_call 126
         refine (Rs.put_in hq.2.1 AD 2 S hA0 hA1 (by rw [hSn]; omega) (by omega) (by omega)).mono ?_
         rintro e w3 ⟨R3, rfl, hR3, hs3⟩
         rw [hE.1] at hR3
         rw [hE.2]
         have hz1 := hq.1.keep hs3.mod HN.out
         have hz2 : InsBox w3 w.heap.size 36 d a b imm := ⟨(hs3.mod.block _ (lt_of_block hq.2.2.1.blk) (fun g => Hlt.out.2 _ g rfl)).trans hq.2.2.1.blk⟩
         have z3 := hz2.cells.2.2.2.1
         have z6 := hz1.cellReg b hb))
  all_goals
    have HC3 := Lib.hid hz1
    have HR3 := Lib.hid hR3
    have HS3 : Hid (RStep w w3 rb lv R lv R3) := Lib.hid ⟨hs3.sp, (Mod.of_below hq.2.2.2 _).same hs3.mod, fun k hk => (hs3.foot k hk).imp id fun g => Nat.le_trans hq.2.2.2.size g⟩
    clear hz1 hz2 hs3 hq hR3 q3 q6 z3 z6 m3 m6 h0W h1W
    go_wp2
    try go_ret
    exact HFin.out _ _ HC3.out HR3.out HS3.out
set_option maxRecDepth 100000 in
set_option maxHeartbeats 1000000 in
theorem mem36_yes (hc : Cpu 124 w db r pc) (hr : Rsp w rb lv R) (hn : ¬ Rsp.foot rb lv R db) (d a b : Nat) (imm : Int) (i0 : 0 ≤ imm) (i1 : imm ≤ 4294967295) (hd : d < 16) (ha : a < 16) (hb : b < 16) (hf : Sp.fitsB (rpgs R) ((rg r a + imm) % 4294967296) 4 2 = true) :
    Calls Tryz.prog 219 #[.pointer (some ⟨db, 0, none⟩), .pointer (some ⟨rb, 0, none⟩), Ins.val ⟨36, d, a, b, imm⟩] w (SdPost w db r pc rb lv R (putN (rpgs R) ((rg r a + imm) % 4294967296) ((putL (rg r b)).take 4) 4) 0) := by
  have hva := rg_bd hc.regs a
  have hvb := rg_bd hc.regs b
  have ha1 : (a : Int) < 16 := by omega
  have hb1 : (b : Int) < 16 := by omega
  obtain ⟨AD, had⟩ : ∃ AD, IntKind.u32.wrap (rg r a + imm) = AD := ⟨_, rfl⟩
  have hax : (rg r a + imm) % 4294967296 = AD := by rw [← had, IntKind.wrap_u32']
  have hA0 : 0 ≤ AD := by omega
  have hA1 : AD ≤ 4294967295 := by omega
  have hok : ∀ p, p ∈ rpgs R → p.ok := fun p hp => by obtain ⟨q, hq, rfl⟩ := List.mem_map.1 hp; exact (hr.pages q hq).ok
  rw [hax] at hf ⊢
  have hSn : (putS (rg r b) 4).size = 4 := by unfold putS; rw [size_strOfNums]; rfl
  have hSx : nums (putS (rg r b) 4) = (putL (rg r b)).take 4 := by unfold putS; exact nums_strOfNums _ (putL_bdn hvb.1 hvb.2 4)
  have hE : Sp.putA (rpgs R) AD 2 (putS (rg r b) 4) = (putN (rpgs R) AD ((putL (rg r b)).take 4) 4) ∧ Sp.fitsE (rpgs R) AD (putS (rg r b) 4).size 2 = 0 := by
    rw [hSn]
    refine ⟨?_, Sp.fitsE_yes hf⟩
    unfold Sp.putA
    rw [hSn, if_pos hf, hSx]

  have HFin : Hid (∀ R' w', Cpu 124 w' db r pc → rpgs R' = (putN (rpgs R) AD ((putL (rg r b)).take 4) 4) → RStep w w' rb lv R lv R' → SdPost w db r pc rb lv R (putN (rpgs R) AD ((putL (rg r b)).take 4) 4) 0 (.returned (.int .i64 0)) w') := Lib.hid fun R' w' g1 g2 g3 => ⟨R', rfl, g1, g2, g3⟩
  generalize SdPost w db r pc rb lv R (putN (rpgs R) AD ((putL (rg r b)).take 4) 4) 0 = PQ at *
  have HBy := Lib.hid (WordRef.Bytes (rg r b) 4 (by omega) hvb.1 hvb.2)
  have hbW : Below w.heap.size w (w.alloc (.cells #[.int .u8 36, .int .u8 d, .int .u8 a, .int .u8 b, .int .u32 imm] 144)) := (Below.refl _ _).alloc (Nat.le_refl _) _
  have hbx : InsBox (w.alloc (.cells #[.int .u8 36, .int .u8 d, .int .u8 a, .int .u8 b, .int .u32 imm] 144)) w.heap.size 36 d a b imm := ⟨heap_alloc_new w _⟩
  have Hlt : Hid (w.heap.size ≠ db ∧ ∀ k, Rsp.foot rb lv R k → w.heap.size ≠ k) := Lib.hid ⟨by have := hc.lt; omega, fun k hk => by have := hr.lt hk; omega⟩
  have HN := Lib.hid hn
  have HS : Hid (∀ w1, Below (w.heap.size + 1) (w.alloc (.cells #[.int .u8 36, .int .u8 d, .int .u8 a, .int .u8 b, .int .u32 imm] 144)) w1 → Cpu 124 w1 db r pc ∧ Rsp w1 rb lv R ∧ InsBox w1 w.heap.size 36 d a b imm ∧ Below w.heap.size w w1) := Lib.hid fun w1 g => by
    have g' : Below (w.alloc (.cells #[.int .u8 36, .int .u8 d, .int .u8 a, .int .u8 b, .int .u32 imm] 144)).heap.size (w.alloc (.cells #[.int .u8 36, .int .u8 d, .int .u8 a, .int .u8 b, .int .u32 imm] 144)) w1 := by rw [show (w.alloc (.cells #[.int .u8 36, .int .u8 d, .int .u8 a, .int .u8 b, .int .u32 imm] 144)).heap.size = w.heap.size + 1 by simp]; exact g
    exact ⟨(hc.below hbW).below g', (hr.same hbW).same g', hbx.below g', hbW.trans (g'.mono (by simp))⟩
  have k0 := hbx.cells.1
  have k2 := hbx.cells.2.2.1
  have k8 := hbx.cells.2.2.2.2
  have k5 := (hc.below hbW).cellReg a ha
  have hw1 := HS.out _ (Below.refl _ _).drew
  have k0' := hw1.2.2.1.cells.1
  have k1' := hw1.2.2.1.cells.2.1
  have k3' := hw1.2.2.1.cells.2.2.2.1
  have k6' := hw1.1.cellReg b hb
  have HW := Lib.hid hw1
  clear hc hr hn hbW hbx hw1
  unfold Ins.val
  simp only
  go_enter Tryz.func219, Tryz.ntmps219
  go_wp2_with fail
  go_region
  generalize putS (rg r b) 4 = S at *
  go_wp2_with fail
  have h0W : Below (w.heap.size + 1) (w.alloc (.cells #[.int .u8 36, .int .u8 d, .int .u8 a, .int .u8 b, .int .u32 imm] 144)) (w.alloc (.cells #[.int .u8 36, .int .u8 d, .int .u8 a, .int .u8 b, .int .u32 imm] 144)).drew := (Below.refl _ _).drew
  have h1W := HS.out _ h0W.drew
  have m3 := h1W.2.2.1.cells.2.2.2.1
  have m6 := h1W.1.cellReg b hb
  clear k0 k2 k8 k5
  go_region_held3 (fun w' => w'.cell? ⟨w.heap.size, 3, none⟩ = some (.int .u8 b) ∧ w'.cell? ⟨db, b, none⟩ = some (.int .u32 (rg r b)))
    (first
      | exact ⟨k3', k6'⟩
      | exact ⟨m3, m6⟩
      | exact ⟨q3, q6⟩
      | exact ⟨z3, z6⟩)
    (first
      | (go_at_call 236
         refine (HBy.out _).mono ?_
         rintro e w2 ⟨rfl, hq2⟩
         have hq := HS.out w2 (by first | exact h0W.drew.trans (hq2.mono (by simp)) | exact h0W.trans (hq2.mono (by simp)))
         have q3 := hq.2.2.1.cells.2.2.2.1
         have q6 := hq.1.cellReg b hb)
      | (go_at_call 126
         refine (Rs.put_in hq.2.1 AD 2 S hA0 hA1 (by rw [hSn]; omega) (by omega) (by omega)).mono ?_
         rintro e w3 ⟨R3, rfl, hR3, hs3⟩
         rw [hE.1] at hR3
         rw [hE.2]
         have hz1 := hq.1.keep hs3.mod HN.out
         have hz2 : InsBox w3 w.heap.size 36 d a b imm := ⟨(hs3.mod.block _ (lt_of_block hq.2.2.1.blk) (fun g => Hlt.out.2 _ g rfl)).trans hq.2.2.1.blk⟩
         have z3 := hz2.cells.2.2.2.1
         have z6 := hz1.cellReg b hb))
  all_goals
    have HC3 := Lib.hid hz1
    have HR3 := Lib.hid hR3
    have HS3 : Hid (RStep w w3 rb lv R lv R3) := Lib.hid ⟨hs3.sp, (Mod.of_below hq.2.2.2 _).same hs3.mod, fun k hk => (hs3.foot k hk).imp id fun g => Nat.le_trans hq.2.2.2.size g⟩
    clear hz1 hz2 hs3 hq hR3 q3 q6 z3 z6 m3 m6 h0W h1W
    go_wp2
    try go_ret
    exact HFin.out _ _ HC3.out HR3.out HS3.out
end
end Cp
end Go.Proofs.YtkbhokmnbpnlbaaGreat
/- The walk of aediculeref04.Decode. -/
namespace Go.Proofs.YtkbhokmnbpnlbaaGreat.Ins
open Go.RowKit Word
set_option linter.unusedSimpArgs false
set_option linter.unusedVariables false
theorem boxcells {W : World} {b : Nat} {y0 y1 y2 y3 v : Value} {t : TypeId} (c : W.heap[b]? = some (.cells #[y0, y1, y2, y3, v] t (0, 0))) : W.cell? ⟨b, 0, none⟩ = some y0 ∧ W.cell? ⟨b, 1, none⟩ = some y1 ∧ W.cell? ⟨b, 2, none⟩ = some y2 ∧ W.cell? ⟨b, 3, none⟩ = some y3 ∧ W.cell? ⟨b, 4, none⟩ = some v ∧ W.frozen? ⟨b, 0, none⟩ = false ∧ W.frozen? ⟨b, 1, none⟩ = false ∧ W.frozen? ⟨b, 2, none⟩ = false ∧ W.frozen? ⟨b, 3, none⟩ = false ∧ W.frozen? ⟨b, 4, none⟩ = false := by
  unfold World.cell? World.frozen?
  rw [c]
  exact ⟨rfl, rfl, rfl, rfl, rfl, rfl, rfl, rfl, rfl, rfl⟩
set_option maxRecDepth 100000 in
set_option maxHeartbeats 1000000 in
theorem decodeR (s : ByteArray) (hm : s.size ≤ 1048576) (w : World) : Calls Tryz.prog 216 #[.string s] w fun e w' => e = .returned (.tuple #[(decX s).val, .int .i64 (decE s)]) ∧ Below w.heap.size w w' := by
  by_cases h8 : s.size = 8
  · obtain ⟨y0, y1, y2, y3, y4, y5, y6, y7, hn, b0, b1, b2, b3, b4, b5, b6, b7⟩ := eight h8
    have g0 : ((s[0]'(by omega)).toNat : Int) = y0 := by rw [nums_get, hn]; rfl
    have g1 : ((s[1]'(by omega)).toNat : Int) = y1 := by rw [nums_get, hn]; rfl
    have g2 : ((s[2]'(by omega)).toNat : Int) = y2 := by rw [nums_get, hn]; rfl
    have hd : decI s = ⟨y0, y1 % 16, y1 / 16, y2, getV [y4, y5, y6, y7]⟩ := by unfold decI; rw [hn]; rfl
    have hen : mayV (decI s) = true → (encS (decI s) = s ↔ y3 = 0) := fun hm => by
      have h := enc_eq h8 hm
      rw [hn] at h
      unfold encS
      rw [if_pos hm]
      exact h
    have hok := decI_ok h8
    have hg : nums (s.extract 4 8) = [y4, y5, y6, y7] := by
      have := nums_drop s 4
      rw [h8] at this
      rw [this, hn]
      rfl
    have hgs : (s.extract 4 8).size = 4 := by rw [← nums_length, hg]; rfl
    have Hg := Lib.hid (WordRef.get_ok (s.extract 4 8) (by omega) (by omega))
    rw [hg] at Hg
    have hB : decB s = ((y3 == 0) && mayV (decI s)) := by
      unfold decB
      rw [hn, h8]
      simp
    have hDX : decX s = (if decB s then decI s else nix) := rfl
    have hDE : decE s = (if decB s then 0 else 7) := rfl
    have hck := encode (decI s)
    rw [hd] at hen hck hB hDX hok
    generalize getV [y4, y5, y6, y7] = v at *
    have hr1 : y1.tmod 16 = y1 % 16 := Int.tmod_eq_emod_of_nonneg b1.1
    have hr2 : y1.tdiv 16 = y1 / 16 := Int.tdiv_eq_ediv_of_nonneg b1.1
    go_enter Tryz.func216, Tryz.ntmps216
    go_wp2_with (go_at_call 255; (with_reducible refine (Hg.out _).mono ?_); rintro e w2 ⟨rfl, rfl⟩)
    go_region
    go_wp2_with fail
    generalize hW1 : ((w.alloc (.cells #[Value.int .u8 0, .int .u8 0, .int .u8 0, .int .u8 0, .int .u32 0] 144)).alloc (.cells #[Value.int .u8 y0, .int .u8 (y1 % 16), .int .u8 (y1 / 16), .int .u8 y2, .int .u32 v] 144)).drew = W1 at *
    have hbl : Below w.heap.size w W1 := by rw [← hW1]; exact (((Below.refl _ _).alloc (Nat.le_refl _) _).alloc (by simp) _).drew
    have hsz : W1.heap.size = w.heap.size + 2 := by rw [← hW1]; simp
    have c1 : W1.heap[w.heap.size + 1]? = some (.cells #[Value.int .u8 y0, .int .u8 (y1 % 16), .int .u8 (y1 / 16), .int .u8 y2, .int .u32 v] 144 (0, 0)) := by
      rw [← hW1]
      have h := heap_alloc_new (w.alloc (.cells #[Value.int .u8 0, .int .u8 0, .int .u8 0, .int .u8 0, .int .u32 0] 144)) (.cells #[Value.int .u8 y0, .int .u8 (y1 % 16), .int .u8 (y1 / 16), .int .u8 y2, .int .u32 v] 144)
      rwa [show (w.alloc (.cells #[Value.int .u8 0, .int .u8 0, .int .u8 0, .int .u8 0, .int .u32 0] 144)).heap.size = w.heap.size + 1 by simp] at h
    have c0 : W1.heap[w.heap.size]? = some (.cells #[Value.int .u8 0, .int .u8 0, .int .u8 0, .int .u8 0, .int .u32 0] 144 (0, 0)) := by
      rw [← hW1]
      exact (Below.heap_alloc _ _ _ (by simp)).trans (heap_alloc_new w _)
    have hH : Hid (∀ w3, Below W1.heap.size W1 w3 → Below w.heap.size w w3 ∧ w3.heap[w.heap.size + 1]? = some (.cells #[Value.int .u8 y0, .int .u8 (y1 % 16), .int .u8 (y1 / 16), .int .u8 y2, .int .u32 v] 144 (0, 0)) ∧ w3.heap[w.heap.size]? = some (.cells #[Value.int .u8 0, .int .u8 0, .int .u8 0, .int .u8 0, .int .u32 0] 144 (0, 0))) := Lib.hid fun w3 hb => ⟨hbl.trans (hb.mono hbl.size), (hb.block _ (by omega)).trans c1, (hb.block _ (by omega)).trans c0⟩
    have hck1 : Calls Tryz.prog 196 #[.agg #[.int .u8 y0, .int .u8 (y1 % 16), .int .u8 (y1 / 16), .int .u8 y2, .int .u32 v]] W1 fun e w' => e = .returned (.tuple #[.string (encS ⟨y0, y1 % 16, y1 / 16, y2, v⟩), .int .i64 (encE ⟨y0, y1 % 16, y1 / 16, y2, v⟩)]) ∧ Below W1.heap.size W1 w' := hck hok W1
    generalize hX : (⟨y0, y1 % 16, y1 / 16, y2, v⟩ : Ins) = X at *
    refine hck1.mono ?_
    rintro e w3 ⟨rfl, hb3⟩
    obtain ⟨hb, d1, d0⟩ := hH.out w3 hb3
    have HB := Lib.hid hb
    obtain ⟨q0, q1, q2, q3, q4, _⟩ := boxcells d1
    obtain ⟨r0, r1, r2, r3, r4, t0, t1, t2, t3, t4⟩ := boxcells d0
    clear c1 c0 d1 d0 hb hb3 hck hck1 hH hbl hsz hn hg hgs Hg hok hW1
    have HBz : Hid (∀ a b c d e : Value, Below w.heap.size w (((((w3.setCell ⟨w.heap.size, 0, none⟩ a).setCell ⟨w.heap.size, 1, none⟩ b).setCell ⟨w.heap.size, 2, none⟩ c).setCell ⟨w.heap.size, 3, none⟩ d).setCell ⟨w.heap.size, 4, none⟩ e)) := Lib.hid fun a b c d e => ((((HB.out.setCell (Nat.le_refl _) _).setCell (Nat.le_refl _) _).setCell (Nat.le_refl _) _).setCell (Nat.le_refl _) _).setCell (Nat.le_refl _) _
    cases hmy : mayV X with
    | true =>
      have hen2 := hen hmy
      by_cases h3 : y3 = 0
      · have hBt : decB s = true := by rw [hB, h3, hmy]; rfl
        have HX : Hid (decX s = X ∧ decE s = 0) := Lib.hid ⟨by rw [hDX, if_pos hBt], by rw [hDE, if_pos hBt]⟩
        have hes : encS X = s := hen2.2 h3
        have hE0 : encE X = 0 := by unfold encE; rw [if_pos hmy]
        rw [hes, hE0]
        clear hBt hes hE0 hen2 hen hB hDX hDE h3 hd
        go_wp2_with fail
        refine bodyPost_ret (v := .tuple #[.agg #[.int .u8 y0, .int .u8 (y1 % 16), .int .u8 (y1 / 16), .int .u8 y2, .int .u32 v], .int .i64 0]) (by simp [results, Tryz.results216, go_sem, *]) rfl ⟨?_, HBz.out _ _ _ _ _⟩
        rw [HX.out.1, HX.out.2, ← hX]
        rfl
      · have hBt : decB s = false := by rw [hB, show (y3 == 0) = false by simpa using h3]; rfl
        have HX : Hid (decX s = nix ∧ decE s = 7) := Lib.hid ⟨by rw [hDX, hBt]; rfl, by rw [hDE, hBt]; rfl⟩
        have hes : encS X ≠ s := fun h => h3 (hen2.1 h)
        have hE0 : encE X = 0 := by unfold encE; rw [if_pos hmy]
        rw [hE0]
        clear hBt hE0 hen2 hen hB hDX hDE h3 hd
        generalize encS X = T at *
        have hss : (T.toList == s.toList) = false := by
          cases h : (T.toList == s.toList) with
          | false => rfl
          | true =>
            have e : T.toList = s.toList := by simpa using h
            rw [ByteArray.toList_eq, ByteArray.toList_eq] at e
            exact absurd (Go.WideShapes.bytes_inj e) hes
        go_wp2_with fail
        refine bodyPost_ret (v := .tuple #[nix.val, .int .i64 7]) (by simp [results, Tryz.results216, go_sem, val, nix, *]) rfl ⟨?_, HBz.out _ _ _ _ _⟩
        rw [HX.out.1, HX.out.2]
    | false =>
      have hBt : decB s = false := by rw [hB, hmy]; simp
      have HX : Hid (decX s = nix ∧ decE s = 7) := Lib.hid ⟨by rw [hDX, hBt]; rfl, by rw [hDE, hBt]; rfl⟩
      have hE0 : encE X = 2 := by unfold encE; rw [hmy]; rfl
      rw [hE0]
      clear hBt hE0 hen hB hDX hDE hd
      go_wp2_with fail
      refine bodyPost_ret (v := .tuple #[nix.val, .int .i64 7]) (by simp [results, Tryz.results216, go_sem, val, nix, *]) rfl ⟨?_, HBz.out _ _ _ _ _⟩
      rw [HX.out.1, HX.out.2]
  · have h8' : ((s.size : Int) != 8) = true := by simpa using (by omega : (s.size : Int) ≠ 8)
    have HX : Hid (decX s = nix ∧ decE s = 7) := Lib.hid (by
      have hB : decB s = false := by
        cases hB : decB s with
        | false => rfl
        | true => exact absurd (decB_size hB) h8
      unfold decX decE
      rw [hB]
      exact ⟨rfl, rfl⟩)
    go_enter Tryz.func216, Tryz.ntmps216
    go_wp2
    refine bodyPost_ret (v := .tuple #[nix.val, .int .i64 7]) (by simp [results, Tryz.results216, go_sem, val, nix]) rfl ⟨?_, (Below.refl _ _).alloc (Nat.le_refl _) _⟩
    rw [HX.out.1, HX.out.2]
end Go.Proofs.YtkbhokmnbpnlbaaGreat.Ins
