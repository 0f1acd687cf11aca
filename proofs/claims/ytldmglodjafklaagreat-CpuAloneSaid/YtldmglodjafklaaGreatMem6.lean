/- The walk of aediculeref06.mem. -/
import Derived.Test.YtldmglodjafklaaGreatRef6
namespace Go.Proofs.YtldmglodjafklaaGreat
open Go.RowKit Word
set_option linter.unusedVariables false
namespace Cp
def LdPost (w : World) (db : Nat) (r : List Int) (pc : Int) (rb : Nat) (lv : Value) (R : List Rp) (c : Int) (e : Ending) (w' : World) : Prop := e = .returned (.int .i64 c) ∧ Cpu 107 w' db r pc ∧ Rsp w' rb lv R ∧ Mod (fun k => k = db) w w'
def SdPost (w : World) (db : Nat) (r : List Int) (pc : Int) (rb : Nat) (lv : Value) (R : List Rp) (A : List Pg) (c : Int) (e : Ending) (w' : World) : Prop := ∃ R', e = .returned (.int .i64 c) ∧ Cpu 107 w' db r pc ∧ rpgs R' = A ∧ RStep w w' rb lv R lv R'
theorem putL_bdn {v : Int} (h0 : 0 ≤ v) (h1 : v ≤ 4294967295) (n : Nat) : ∀ x, x ∈ (putL v).take n → 0 ≤ x ∧ x < 256 := by
  intro x hx
  have := List.mem_of_mem_take hx
  unfold putL at this
  simp at this
  omega
section
variable {w : World} {db rb : Nat} {lv : Value} {R : List Rp} {r : List Int} {pc : Int}
set_option maxRecDepth 100000 in
set_option maxHeartbeats 1000000 in
theorem mem33_no (hc : Cpu 107 w db r pc) (hr : Rsp w rb lv R) (hn : ¬ Rsp.foot rb lv R db) (d a b : Nat) (imm : Int) (i0 : 0 ≤ imm) (i1 : imm ≤ 4294967295) (hd : d < 16) (ha : a < 16) (hb : b < 16) (hf : Sp.fitsB (rpgs R) ((rg r a + imm) % 4294967296) 1 1 = false) :
    Calls Tryz.prog 71 #[.pointer (some ⟨db, 0, none⟩), .pointer (some ⟨rb, 0, none⟩), Ins.val ⟨33, d, a, b, imm⟩] w (LdPost w db r pc rb lv R 50) := by
  have hva := rg_bd hc.regs a
  have hvb := rg_bd hc.regs b
  have ha1 : (a : Int) < 16 := by omega
  have hb1 : (b : Int) < 16 := by omega
  obtain ⟨AD, had⟩ : ∃ AD, IntKind.u32.wrap (rg r a + imm) = AD := ⟨_, rfl⟩
  have hax : (rg r a + imm) % 4294967296 = AD := by rw [← had, IntKind.wrap_u32']
  have hA0 : 0 ≤ AD := by omega
  have hA1 : AD ≤ 4294967295 := by omega
  have hok : ∀ p, p ∈ rpgs R → p.ok := fun p hp => by obtain ⟨q, hq, rfl⟩ := List.mem_map.1 hp; exact (hr.pages q hq).ok
  rw [hax] at hf
  have hE := getE_no (n := 1) (by omega) hf
  have hE1 : Sp.getE (rpgs R) AD 1 1 = 50 := hE
  have HFin : Hid (∀ w', Cpu 107 w' db r pc → Rsp w' rb lv R → Mod (fun k => k = db) w w' → LdPost w db r pc rb lv R 50 (.returned (.int .i64 50)) w') := Lib.hid fun w' g1 g2 g3 => ⟨rfl, g1, g2, g3⟩
  generalize LdPost w db r pc rb lv R 50 = PQ at *
  have hbW : Below w.heap.size w (w.alloc (.cells #[.int .u8 33, .int .u8 d, .int .u8 a, .int .u8 b, .int .u32 imm] 91)) := (Below.refl _ _).alloc (Nat.le_refl _) _
  have hbx : InsBox (w.alloc (.cells #[.int .u8 33, .int .u8 d, .int .u8 a, .int .u8 b, .int .u32 imm] 91)) w.heap.size 33 d a b imm := ⟨heap_alloc_new w _⟩
  have Hlt : Hid (w.heap.size ≠ db ∧ ∀ k, Rsp.foot rb lv R k → w.heap.size ≠ k) := Lib.hid ⟨by have := hc.lt; omega, fun k hk => by have := hr.lt hk; omega⟩
  have HN := Lib.hid hn
  have HS : Hid (∀ w1, Below (w.heap.size + 1) (w.alloc (.cells #[.int .u8 33, .int .u8 d, .int .u8 a, .int .u8 b, .int .u32 imm] 91)) w1 → Cpu 107 w1 db r pc ∧ Rsp w1 rb lv R ∧ InsBox w1 w.heap.size 33 d a b imm ∧ Below w.heap.size w w1) := Lib.hid fun w1 g => by
    have g' : Below (w.alloc (.cells #[.int .u8 33, .int .u8 d, .int .u8 a, .int .u8 b, .int .u32 imm] 91)).heap.size (w.alloc (.cells #[.int .u8 33, .int .u8 d, .int .u8 a, .int .u8 b, .int .u32 imm] 91)) w1 := by rw [show (w.alloc (.cells #[.int .u8 33, .int .u8 d, .int .u8 a, .int .u8 b, .int .u32 imm] 91)).heap.size = w.heap.size + 1 by simp]; exact g
    exact ⟨(hc.below hbW).below g', (hr.same hbW).same g', hbx.below g', hbW.trans (g'.mono (by simp))⟩
  have k0 := hbx.cells.1
  have k2 := hbx.cells.2.2.1
  have k8 := hbx.cells.2.2.2.2
  have k5 := (hc.below hbW).cellReg a ha
  have hw1 := HS.out _ (Below.refl _ _).drew
  have k0' := hw1.2.2.1.cells.1
  have k1' := hw1.2.2.1.cells.2.1
  have k3' := hw1.2.2.1.cells.2.2.2.1
  have k6' := hw1.1.cellReg b hb
  have HW := Lib.hid hw1
  clear hc hr hn hbW hbx hw1
  unfold Ins.val
  simp only
  go_enter Tryz.func71, Tryz.ntmps71
  go_wp2_with fail
  go_region
  go_wp2_with fail
  refine (Rs.get_any HW.out.2.1 AD 1 1 hA0 hA1 (by omega) (by omega)).mono ?_
  rintro e w2 ⟨rfl, hb2⟩
  have HQ := Lib.hid (HS.out w2 (((Below.refl _ _).drew).trans (hb2.mono (by simp))))
  clear hb2 k0 k2 k8 k5 k0' k1' k3' k6'
  rw [hE1]
  go_wp2
  try go_ret
  exact HFin.out _ HQ.out.1 HQ.out.2.1 (Mod.of_below HQ.out.2.2.2 _)
set_option maxRecDepth 100000 in
set_option maxHeartbeats 1000000 in
theorem mem33_yes (hc : Cpu 107 w db r pc) (hr : Rsp w rb lv R) (hn : ¬ Rsp.foot rb lv R db) (d a b : Nat) (imm : Int) (i0 : 0 ≤ imm) (i1 : imm ≤ 4294967295) (hd : d < 16) (ha : a < 16) (hb : b < 16) (hf : Sp.fitsB (rpgs R) ((rg r a + imm) % 4294967296) 1 1 = true) :
    Calls Tryz.prog 71 #[.pointer (some ⟨db, 0, none⟩), .pointer (some ⟨rb, 0, none⟩), Ins.val ⟨33, d, a, b, imm⟩] w (LdPost w db (putG r d (getV (Sp.getL (rpgs R) ((rg r a + imm) % 4294967296) 1))) pc rb lv R 0) := by
  have hva := rg_bd hc.regs a
  have hvb := rg_bd hc.regs b
  have ha1 : (a : Int) < 16 := by omega
  have hb1 : (b : Int) < 16 := by omega
  obtain ⟨AD, had⟩ : ∃ AD, IntKind.u32.wrap (rg r a + imm) = AD := ⟨_, rfl⟩
  have hax : (rg r a + imm) % 4294967296 = AD := by rw [← had, IntKind.wrap_u32']
  have hA0 : 0 ≤ AD := by omega
  have hA1 : AD ≤ 4294967295 := by omega
  have hok : ∀ p, p ∈ rpgs R → p.ok := fun p hp => by obtain ⟨q, hq, rfl⟩ := List.mem_map.1 hp; exact (hr.pages q hq).ok
  rw [hax] at hf ⊢
  have hE := getE_yes (n := 1) (by omega) hf
  have hVb := getV_small (getL_bd hok AD 1) (by rw [Sp.getL_length]; omega)
  have hL1 := Sp.getL_length (rpgs R) AD 1
  have hLb := getL_bd hok AD 1
  have hE1 : Sp.getE (rpgs R) AD 1 1 = 0 := hE.1
  have hE2 : Sp.getS (rpgs R) AD 1 1 = strOfNums (Sp.getL (rpgs R) AD 1) := hE.2
  have HFin : Hid (∀ w', Cpu 107 w' db (putG r d (getV (Sp.getL (rpgs R) AD 1))) pc → Rsp w' rb lv R → Mod (fun k => k = db) w w' → LdPost w db (putG r d (getV (Sp.getL (rpgs R) AD 1))) pc rb lv R 0 (.returned (.int .i64 0)) w') := Lib.hid fun w' g1 g2 g3 => ⟨rfl, g1, g2, g3⟩
  generalize LdPost w db (putG r d (getV (Sp.getL (rpgs R) AD 1))) pc rb lv R 0 = PQ at *
  have hbW : Below w.heap.size w (w.alloc (.cells #[.int .u8 33, .int .u8 d, .int .u8 a, .int .u8 b, .int .u32 imm] 91)) := (Below.refl _ _).alloc (Nat.le_refl _) _
  have hbx : InsBox (w.alloc (.cells #[.int .u8 33, .int .u8 d, .int .u8 a, .int .u8 b, .int .u32 imm] 91)) w.heap.size 33 d a b imm := ⟨heap_alloc_new w _⟩
  have Hlt : Hid (w.heap.size ≠ db ∧ ∀ k, Rsp.foot rb lv R k → w.heap.size ≠ k) := Lib.hid ⟨by have := hc.lt; omega, fun k hk => by have := hr.lt hk; omega⟩
  have HN := Lib.hid hn
  have HS : Hid (∀ w1, Below (w.heap.size + 1) (w.alloc (.cells #[.int .u8 33, .int .u8 d, .int .u8 a, .int .u8 b, .int .u32 imm] 91)) w1 → Cpu 107 w1 db r pc ∧ Rsp w1 rb lv R ∧ InsBox w1 w.heap.size 33 d a b imm ∧ Below w.heap.size w w1) := Lib.hid fun w1 g => by
    have g' : Below (w.alloc (.cells #[.int .u8 33, .int .u8 d, .int .u8 a, .int .u8 b, .int .u32 imm] 91)).heap.size (w.alloc (.cells #[.int .u8 33, .int .u8 d, .int .u8 a, .int .u8 b, .int .u32 imm] 91)) w1 := by rw [show (w.alloc (.cells #[.int .u8 33, .int .u8 d, .int .u8 a, .int .u8 b, .int .u32 imm] 91)).heap.size = w.heap.size + 1 by simp]; exact g
    exact ⟨(hc.below hbW).below g', (hr.same hbW).same g', hbx.below g', hbW.trans (g'.mono (by simp))⟩
  have k0 := hbx.cells.1
  have k2 := hbx.cells.2.2.1
  have k8 := hbx.cells.2.2.2.2
  have k5 := (hc.below hbW).cellReg a ha
  have hw1 := HS.out _ (Below.refl _ _).drew
  have k0' := hw1.2.2.1.cells.1
  have k1' := hw1.2.2.1.cells.2.1
  have k3' := hw1.2.2.1.cells.2.2.2.1
  have k6' := hw1.1.cellReg b hb
  have HW := Lib.hid hw1
  clear hc hr hn hbW hbx hw1
  unfold Ins.val
  simp only
  go_enter Tryz.func71, Tryz.ntmps71
  go_wp2_with fail
  go_region
  go_wp2_with fail
  refine (Rs.get_any HW.out.2.1 AD 1 1 hA0 hA1 (by omega) (by omega)).mono ?_
  rintro e w2 ⟨rfl, hb2⟩
  have hq := HS.out w2 (((Below.refl _ _).drew).trans (hb2.mono (by simp)))
  have q1 := hq.2.2.1.cells.2.1
  have HQ := Lib.hid hq
  clear hq hb2 k0 k2 k8 k5 k0' k1' k3' k6'
  rw [hE1, hE2]
  clear hE hE1 hE2
  generalize Sp.getL (rpgs R) AD 1 = L at *
  have hsz : (strOfNums L).size = 1 := by rw [size_strOfNums, hL1]
  have Hg := Lib.hid (WordRef.get_ok (strOfNums L) (by omega) (by omega))
  rw [nums_strOfNums L hLb] at Hg
  go_wp2_with (go_at_call 100; (with_reducible refine (Hg.out _).mono ?_); rintro e w3 ⟨rfl, rfl⟩)
  refine (putD HQ.out.1 d hd _ hVb.1 hVb.2).mono ?_
  rintro e w3 ⟨rfl, hc3, hm3⟩
  have HC3 := Lib.hid hc3
  have HR3 := Lib.hid (HQ.out.2.1.keep hm3 (fun k hk g => HN.out (g ▸ hk)))
  have HM3 := Lib.hid ((Mod.of_below HQ.out.2.2.2 (fun k => k = db)).same hm3)
  clear hc3 hm3 q1
  go_wp2
  try go_ret
  exact HFin.out _ HC3.out HR3.out HM3.out
set_option maxRecDepth 100000 in
set_option maxHeartbeats 1000000 in
theorem mem34_no (hc : Cpu 107 w db r pc) (hr : Rsp w rb lv R) (hn : ¬ Rsp.foot rb lv R db) (d a b : Nat) (imm : Int) (i0 : 0 ≤ imm) (i1 : imm ≤ 4294967295) (hd : d < 16) (ha : a < 16) (hb : b < 16) (hf : Sp.fitsB (rpgs R) ((rg r a + imm) % 4294967296) 4 1 = false) :
    Calls Tryz.prog 71 #[.pointer (some ⟨db, 0, none⟩), .pointer (some ⟨rb, 0, none⟩), Ins.val ⟨34, d, a, b, imm⟩] w (LdPost w db r pc rb lv R 50) := by
  have hva := rg_bd hc.regs a
  have hvb := rg_bd hc.regs b
  have ha1 : (a : Int) < 16 := by omega
  have hb1 : (b : Int) < 16 := by omega
  obtain ⟨AD, had⟩ : ∃ AD, IntKind.u32.wrap (rg r a + imm) = AD := ⟨_, rfl⟩
  have hax : (rg r a + imm) % 4294967296 = AD := by rw [← had, IntKind.wrap_u32']
  have hA0 : 0 ≤ AD := by omega
  have hA1 : AD ≤ 4294967295 := by omega
  have hok : ∀ p, p ∈ rpgs R → p.ok := fun p hp => by obtain ⟨q, hq, rfl⟩ := List.mem_map.1 hp; exact (hr.pages q hq).ok
  rw [hax] at hf
  have hE := getE_no (n := 4) (by omega) hf
  have hE1 : Sp.getE (rpgs R) AD 4 1 = 50 := hE
  have HFin : Hid (∀ w', Cpu 107 w' db r pc → Rsp w' rb lv R → Mod (fun k => k = db) w w' → LdPost w db r pc rb lv R 50 (.returned (.int .i64 50)) w') := Lib.hid fun w' g1 g2 g3 => ⟨rfl, g1, g2, g3⟩
  generalize LdPost w db r pc rb lv R 50 = PQ at *
  have hbW : Below w.heap.size w (w.alloc (.cells #[.int .u8 34, .int .u8 d, .int .u8 a, .int .u8 b, .int .u32 imm] 91)) := (Below.refl _ _).alloc (Nat.le_refl _) _
  have hbx : InsBox (w.alloc (.cells #[.int .u8 34, .int .u8 d, .int .u8 a, .int .u8 b, .int .u32 imm] 91)) w.heap.size 34 d a b imm := ⟨heap_alloc_new w _⟩
  have Hlt : Hid (w.heap.size ≠ db ∧ ∀ k, Rsp.foot rb lv R k → w.heap.size ≠ k) := Lib.hid ⟨by have := hc.lt; omega, fun k hk => by have := hr.lt hk; omega⟩
  have HN := Lib.hid hn
  have HS : Hid (∀ w1, Below (w.heap.size + 1) (w.alloc (.cells #[.int .u8 34, .int .u8 d, .int .u8 a, .int .u8 b, .int .u32 imm] 91)) w1 → Cpu 107 w1 db r pc ∧ Rsp w1 rb lv R ∧ InsBox w1 w.heap.size 34 d a b imm ∧ Below w.heap.size w w1) := Lib.hid fun w1 g => by
    have g' : Below (w.alloc (.cells #[.int .u8 34, .int .u8 d, .int .u8 a, .int .u8 b, .int .u32 imm] 91)).heap.size (w.alloc (.cells #[.int .u8 34, .int .u8 d, .int .u8 a, .int .u8 b, .int .u32 imm] 91)) w1 := by rw [show (w.alloc (.cells #[.int .u8 34, .int .u8 d, .int .u8 a, .int .u8 b, .int .u32 imm] 91)).heap.size = w.heap.size + 1 by simp]; exact g
    exact ⟨(hc.below hbW).below g', (hr.same hbW).same g', hbx.below g', hbW.trans (g'.mono (by simp))⟩
  have k0 := hbx.cells.1
  have k2 := hbx.cells.2.2.1
  have k8 := hbx.cells.2.2.2.2
  have k5 := (hc.below hbW).cellReg a ha
  have hw1 := HS.out _ (Below.refl _ _).drew
  have k0' := hw1.2.2.1.cells.1
  have k1' := hw1.2.2.1.cells.2.1
  have k3' := hw1.2.2.1.cells.2.2.2.1
  have k6' := hw1.1.cellReg b hb
  have HW := Lib.hid hw1
  clear hc hr hn hbW hbx hw1
  unfold Ins.val
  simp only
  go_enter Tryz.func71, Tryz.ntmps71
  go_wp2_with fail
  go_region
  go_wp2_with fail
  refine (Rs.get_any HW.out.2.1 AD 4 1 hA0 hA1 (by omega) (by omega)).mono ?_
  rintro e w2 ⟨rfl, hb2⟩
  have HQ := Lib.hid (HS.out w2 (((Below.refl _ _).drew).trans (hb2.mono (by simp))))
  clear hb2 k0 k2 k8 k5 k0' k1' k3' k6'
  rw [hE1]
  go_wp2
  try go_ret
  exact HFin.out _ HQ.out.1 HQ.out.2.1 (Mod.of_below HQ.out.2.2.2 _)
set_option maxRecDepth 100000 in
set_option maxHeartbeats 1000000 in
theorem mem34_yes (hc : Cpu 107 w db r pc) (hr : Rsp w rb lv R) (hn : ¬ Rsp.foot rb lv R db) (d a b : Nat) (imm : Int) (i0 : 0 ≤ imm) (i1 : imm ≤ 4294967295) (hd : d < 16) (ha : a < 16) (hb : b < 16) (hf : Sp.fitsB (rpgs R) ((rg r a + imm) % 4294967296) 4 1 = true) :
    Calls Tryz.prog 71 #[.pointer (some ⟨db, 0, none⟩), .pointer (some ⟨rb, 0, none⟩), Ins.val ⟨34, d, a, b, imm⟩] w (LdPost w db (putG r d (getV (Sp.getL (rpgs R) ((rg r a + imm) % 4294967296) 4))) pc rb lv R 0) := by
  have hva := rg_bd hc.regs a
  have hvb := rg_bd hc.regs b
  have ha1 : (a : Int) < 16 := by omega
  have hb1 : (b : Int) < 16 := by omega
  obtain ⟨AD, had⟩ : ∃ AD, IntKind.u32.wrap (rg r a + imm) = AD := ⟨_, rfl⟩
  have hax : (rg r a + imm) % 4294967296 = AD := by rw [← had, IntKind.wrap_u32']
  have hA0 : 0 ≤ AD := by omega
  have hA1 : AD ≤ 4294967295 := by omega
  have hok : ∀ p, p ∈ rpgs R → p.ok := fun p hp => by obtain ⟨q, hq, rfl⟩ := List.mem_map.1 hp; exact (hr.pages q hq).ok
  rw [hax] at hf ⊢
  have hE := getE_yes (n := 4) (by omega) hf
  have hVb := getV_small (getL_bd hok AD 4) (by rw [Sp.getL_length]; omega)
  have hL1 := Sp.getL_length (rpgs R) AD 4
  have hLb := getL_bd hok AD 4
  have hE1 : Sp.getE (rpgs R) AD 4 1 = 0 := hE.1
  have hE2 : Sp.getS (rpgs R) AD 4 1 = strOfNums (Sp.getL (rpgs R) AD 4) := hE.2
  have HFin : Hid (∀ w', Cpu 107 w' db (putG r d (getV (Sp.getL (rpgs R) AD 4))) pc → Rsp w' rb lv R → Mod (fun k => k = db) w w' → LdPost w db (putG r d (getV (Sp.getL (rpgs R) AD 4))) pc rb lv R 0 (.returned (.int .i64 0)) w') := Lib.hid fun w' g1 g2 g3 => ⟨rfl, g1, g2, g3⟩
  generalize LdPost w db (putG r d (getV (Sp.getL (rpgs R) AD 4))) pc rb lv R 0 = PQ at *
  have hbW : Below w.heap.size w (w.alloc (.cells #[.int .u8 34, .int .u8 d, .int .u8 a, .int .u8 b, .int .u32 imm] 91)) := (Below.refl _ _).alloc (Nat.le_refl _) _
  have hbx : InsBox (w.alloc (.cells #[.int .u8 34, .int .u8 d, .int .u8 a, .int .u8 b, .int .u32 imm] 91)) w.heap.size 34 d a b imm := ⟨heap_alloc_new w _⟩
  have Hlt : Hid (w.heap.size ≠ db ∧ ∀ k, Rsp.foot rb lv R k → w.heap.size ≠ k) := Lib.hid ⟨by have := hc.lt; omega, fun k hk => by have := hr.lt hk; omega⟩
  have HN := Lib.hid hn
  have HS : Hid (∀ w1, Below (w.heap.size + 1) (w.alloc (.cells #[.int .u8 34, .int .u8 d, .int .u8 a, .int .u8 b, .int .u32 imm] 91)) w1 → Cpu 107 w1 db r pc ∧ Rsp w1 rb lv R ∧ InsBox w1 w.heap.size 34 d a b imm ∧ Below w.heap.size w w1) := Lib.hid fun w1 g => by
    have g' : Below (w.alloc (.cells #[.int .u8 34, .int .u8 d, .int .u8 a, .int .u8 b, .int .u32 imm] 91)).heap.size (w.alloc (.cells #[.int .u8 34, .int .u8 d, .int .u8 a, .int .u8 b, .int .u32 imm] 91)) w1 := by rw [show (w.alloc (.cells #[.int .u8 34, .int .u8 d, .int .u8 a, .int .u8 b, .int .u32 imm] 91)).heap.size = w.heap.size + 1 by simp]; exact g
    exact ⟨(hc.below hbW).below g', (hr.same hbW).same g', hbx.below g', hbW.trans (g'.mono (by simp))⟩
  have k0 := hbx.cells.1
  have k2 := hbx.cells.2.2.1
  have k8 := hbx.cells.2.2.2.2
  have k5 := (hc.below hbW).cellReg a ha
  have hw1 := HS.out _ (Below.refl _ _).drew
  have k0' := hw1.2.2.1.cells.1
  have k1' := hw1.2.2.1.cells.2.1
  have k3' := hw1.2.2.1.cells.2.2.2.1
  have k6' := hw1.1.cellReg b hb
  have HW := Lib.hid hw1
  clear hc hr hn hbW hbx hw1
  unfold Ins.val
  simp only
  go_enter Tryz.func71, Tryz.ntmps71
  go_wp2_with fail
  go_region
  go_wp2_with fail
  refine (Rs.get_any HW.out.2.1 AD 4 1 hA0 hA1 (by omega) (by omega)).mono ?_
  rintro e w2 ⟨rfl, hb2⟩
  have hq := HS.out w2 (((Below.refl _ _).drew).trans (hb2.mono (by simp)))
  have q1 := hq.2.2.1.cells.2.1
  have HQ := Lib.hid hq
  clear hq hb2 k0 k2 k8 k5 k0' k1' k3' k6'
  rw [hE1, hE2]
  clear hE hE1 hE2
  generalize Sp.getL (rpgs R) AD 4 = L at *
  have hsz : (strOfNums L).size = 4 := by rw [size_strOfNums, hL1]
  have Hg := Lib.hid (WordRef.get_ok (strOfNums L) (by omega) (by omega))
  rw [nums_strOfNums L hLb] at Hg
  go_wp2_with (go_at_call 100; (with_reducible refine (Hg.out _).mono ?_); rintro e w3 ⟨rfl, rfl⟩)
  refine (putD HQ.out.1 d hd _ hVb.1 hVb.2).mono ?_
  rintro e w3 ⟨rfl, hc3, hm3⟩
  have HC3 := Lib.hid hc3
  have HR3 := Lib.hid (HQ.out.2.1.keep hm3 (fun k hk g => HN.out (g ▸ hk)))
  have HM3 := Lib.hid ((Mod.of_below HQ.out.2.2.2 (fun k => k = db)).same hm3)
  clear hc3 hm3 q1
  go_wp2
  try go_ret
  exact HFin.out _ HC3.out HR3.out HM3.out
set_option maxRecDepth 100000 in
set_option maxHeartbeats 1000000 in
theorem mem35_no (hc : Cpu 107 w db r pc) (hr : Rsp w rb lv R) (hn : ¬ Rsp.foot rb lv R db) (d a b : Nat) (imm : Int) (i0 : 0 ≤ imm) (i1 : imm ≤ 4294967295) (hd : d < 16) (ha : a < 16) (hb : b < 16) (hf : Sp.fitsB (rpgs R) ((rg r a + imm) % 4294967296) 1 2 = false) :
    Calls Tryz.prog 71 #[.pointer (some ⟨db, 0, none⟩), .pointer (some ⟨rb, 0, none⟩), Ins.val ⟨35, d, a, b, imm⟩] w (SdPost w db r pc rb lv R (rpgs R) 50) := by
  have hva := rg_bd hc.regs a
  have hvb := rg_bd hc.regs b
  have ha1 : (a : Int) < 16 := by omega
  have hb1 : (b : Int) < 16 := by omega
  obtain ⟨AD, had⟩ : ∃ AD, IntKind.u32.wrap (rg r a + imm) = AD := ⟨_, rfl⟩
  have hax : (rg r a + imm) % 4294967296 = AD := by rw [← had, IntKind.wrap_u32']
  have hA0 : 0 ≤ AD := by omega
  have hA1 : AD ≤ 4294967295 := by omega
  have hok : ∀ p, p ∈ rpgs R → p.ok := fun p hp => by obtain ⟨q, hq, rfl⟩ := List.mem_map.1 hp; exact (hr.pages q hq).ok
  rw [hax] at hf
  have hSn : (putS (rg r b) 1).size = 1 := by unfold putS; rw [size_strOfNums]; rfl
  have hSx : nums (putS (rg r b) 1) = (putL (rg r b)).take 1 := by unfold putS; exact nums_strOfNums _ (putL_bdn hvb.1 hvb.2 1)
  have hE : Sp.putA (rpgs R) AD 2 (putS (rg r b) 1) = (rpgs R) ∧ Sp.fitsE (rpgs R) AD (putS (rg r b) 1).size 2 = 50 := by
    rw [hSn]
    refine ⟨?_, Sp.fitsE_no hf⟩
    unfold Sp.putA
    rw [hSn, hf]
    rfl
  have HFin : Hid (∀ R' w', Cpu 107 w' db r pc → rpgs R' = (rpgs R) → RStep w w' rb lv R lv R' → SdPost w db r pc rb lv R (rpgs R) 50 (.returned (.int .i64 50)) w') := Lib.hid fun R' w' g1 g2 g3 => ⟨R', rfl, g1, g2, g3⟩
  generalize SdPost w db r pc rb lv R (rpgs R) 50 = PQ at *
  have HBy := Lib.hid (WordRef.Bytes (rg r b) 1 (by omega) hvb.1 hvb.2)
  have hbW : Below w.heap.size w (w.alloc (.cells #[.int .u8 35, .int .u8 d, .int .u8 a, .int .u8 b, .int .u32 imm] 91)) := (Below.refl _ _).alloc (Nat.le_refl _) _
  have hbx : InsBox (w.alloc (.cells #[.int .u8 35, .int .u8 d, .int .u8 a, .int .u8 b, .int .u32 imm] 91)) w.heap.size 35 d a b imm := ⟨heap_alloc_new w _⟩
  have Hlt : Hid (w.heap.size ≠ db ∧ ∀ k, Rsp.foot rb lv R k → w.heap.size ≠ k) := Lib.hid ⟨by have := hc.lt; omega, fun k hk => by have := hr.lt hk; omega⟩
  have HN := Lib.hid hn
  have HS : Hid (∀ w1, Below (w.heap.size + 1) (w.alloc (.cells #[.int .u8 35, .int .u8 d, .int .u8 a, .int .u8 b, .int .u32 imm] 91)) w1 → Cpu 107 w1 db r pc ∧ Rsp w1 rb lv R ∧ InsBox w1 w.heap.size 35 d a b imm ∧ Below w.heap.size w w1) := Lib.hid fun w1 g => by
    have g' : Below (w.alloc (.cells #[.int .u8 35, .int .u8 d, .int .u8 a, .int .u8 b, .int .u32 imm] 91)).heap.size (w.alloc (.cells #[.int .u8 35, .int .u8 d, .int .u8 a, .int .u8 b, .int .u32 imm] 91)) w1 := by rw [show (w.alloc (.cells #[.int .u8 35, .int .u8 d, .int .u8 a, .int .u8 b, .int .u32 imm] 91)).heap.size = w.heap.size + 1 by simp]; exact g
    exact ⟨(hc.below hbW).below g', (hr.same hbW).same g', hbx.below g', hbW.trans (g'.mono (by simp))⟩
  have k0 := hbx.cells.1
  have k2 := hbx.cells.2.2.1
  have k8 := hbx.cells.2.2.2.2
  have k5 := (hc.below hbW).cellReg a ha
  have hw1 := HS.out _ (Below.refl _ _).drew
  have k0' := hw1.2.2.1.cells.1
  have k1' := hw1.2.2.1.cells.2.1
  have k3' := hw1.2.2.1.cells.2.2.2.1
  have k6' := hw1.1.cellReg b hb
  have HW := Lib.hid hw1
  clear hc hr hn hbW hbx hw1
  unfold Ins.val
  simp only
  go_enter Tryz.func71, Tryz.ntmps71
  go_wp2_with fail
  go_region
  generalize putS (rg r b) 1 = S at *
  go_wp2_with fail
  have h0W : Below (w.heap.size + 1) (w.alloc (.cells #[.int .u8 35, .int .u8 d, .int .u8 a, .int .u8 b, .int .u32 imm] 91)) (w.alloc (.cells #[.int .u8 35, .int .u8 d, .int .u8 a, .int .u8 b, .int .u32 imm] 91)).drew := (Below.refl _ _).drew
  have h1W := HS.out _ h0W.drew
  have m3 := h1W.2.2.1.cells.2.2.2.1
  have m6 := h1W.1.cellReg b hb
  clear k0 k2 k8 k5
  go_region_held3 (fun w' => w'.cell? ⟨w.heap.size, 3, none⟩ = some (.int .u8 b) ∧ w'.cell? ⟨db, b, none⟩ = some (.int .u32 (rg r b)))
    (first
      | exact ⟨k3', k6'⟩
      | exact ⟨m3, m6⟩
      | exact ⟨q3, q6⟩
      | exact ⟨z3, z6⟩)
    (first
      | (go_at_call 102
         refine (HBy.out _).mono ?_
         rintro e w2 ⟨rfl, hq2⟩
         have hq := HS.out w2 (by first | exact h0W.drew.trans (hq2.mono (by simp)) | exact h0W.trans (hq2.mono (by simp)))
         have q3 := hq.2.2.1.cells.2.2.2.1
         have q6 := hq.1.cellReg b hb)
      | (go_at_call 62
         refine (Rs.put_in hq.2.1 AD 2 S hA0 hA1 (by rw [hSn]; omega) (by omega) (by omega)).mono ?_
         rintro e w3 ⟨R3, rfl, hR3, hs3⟩
         rw [hE.1] at hR3
         rw [hE.2]
         have hz1 := hq.1.keep hs3.mod HN.out
         have hz2 : InsBox w3 w.heap.size 35 d a b imm := ⟨(hs3.mod.block _ (lt_of_block hq.2.2.1.blk) (fun g => Hlt.out.2 _ g rfl)).trans hq.2.2.1.blk⟩
         have z3 := hz2.cells.2.2.2.1
         have z6 := hz1.cellReg b hb))
  all_goals
    have HC3 := Lib.hid hz1
    have HR3 := Lib.hid hR3
    have HS3 : Hid (RStep w w3 rb lv R lv R3) := Lib.hid ⟨hs3.sp, (Mod.of_below hq.2.2.2 _).same hs3.mod, fun k hk => (hs3.foot k hk).imp id fun g => Nat.le_trans hq.2.2.2.size g⟩
    clear hz1 hz2 hs3 hq hR3 q3 q6 z3 z6 m3 m6 h0W h1W
    go_wp2
    try go_ret
    exact HFin.out _ _ HC3.out HR3.out HS3.out
set_option maxRecDepth 100000 in
set_option maxHeartbeats 1000000 in
theorem mem35_yes (hc : Cpu 107 w db r pc) (hr : Rsp w rb lv R) (hn : ¬ Rsp.foot rb lv R db) (d a b : Nat) (imm : Int) (i0 : 0 ≤ imm) (i1 : imm ≤ 4294967295) (hd : d < 16) (ha : a < 16) (hb : b < 16) (hf : Sp.fitsB (rpgs R) ((rg r a + imm) % 4294967296) 1 2 = true) :
    Calls Tryz.prog 71 #[.pointer (some ⟨db, 0, none⟩), .pointer (some ⟨rb, 0, none⟩), Ins.val ⟨35, d, a, b, imm⟩] w (SdPost w db r pc rb lv R (putN (rpgs R) ((rg r a + imm) % 4294967296) ((putL (rg r b)).take 1) 1) 0) := by
  have hva := rg_bd hc.regs a
  have hvb := rg_bd hc.regs b
  have ha1 : (a : Int) < 16 := by omega
  have hb1 : (b : Int) < 16 := by omega
  obtain ⟨AD, had⟩ : ∃ AD, IntKind.u32.wrap (rg r a + imm) = AD := ⟨_, rfl⟩
  have hax : (rg r a + imm) % 4294967296 = AD := by rw [← had, IntKind.wrap_u32']
  have hA0 : 0 ≤ AD := by omega
  have hA1 : AD ≤ 4294967295 := by omega
  have hok : ∀ p, p ∈ rpgs R → p.ok := fun p hp => by obtain ⟨q, hq, rfl⟩ := List.mem_map.1 hp; exact (hr.pages q hq).ok
  rw [hax] at hf ⊢
  have hSn : (putS (rg r b) 1).size = 1 := by unfold putS; rw [size_strOfNums]; rfl
  have hSx : nums (putS (rg r b) 1) = (putL (rg r b)).take 1 := by unfold putS; exact nums_strOfNums _ (putL_bdn hvb.1 hvb.2 1)
  have hE : Sp.putA (rpgs R) AD 2 (putS (rg r b) 1) = (putN (rpgs R) AD ((putL (rg r b)).take 1) 1) ∧ Sp.fitsE (rpgs R) AD (putS (rg r b) 1).size 2 = 0 := by
    rw [hSn]
    refine ⟨?_, Sp.fitsE_yes hf⟩
    unfold Sp.putA
    rw [hSn, if_pos hf, hSx]

  have HFin : Hid (∀ R' w', Cpu 107 w' db r pc → rpgs R' = (putN (rpgs R) AD ((putL (rg r b)).take 1) 1) → RStep w w' rb lv R lv R' → SdPost w db r pc rb lv R (putN (rpgs R) AD ((putL (rg r b)).take 1) 1) 0 (.returned (.int .i64 0)) w') := Lib.hid fun R' w' g1 g2 g3 => ⟨R', rfl, g1, g2, g3⟩
  generalize SdPost w db r pc rb lv R (putN (rpgs R) AD ((putL (rg r b)).take 1) 1) 0 = PQ at *
  have HBy := Lib.hid (WordRef.Bytes (rg r b) 1 (by omega) hvb.1 hvb.2)
  have hbW : Below w.heap.size w (w.alloc (.cells #[.int .u8 35, .int .u8 d, .int .u8 a, .int .u8 b, .int .u32 imm] 91)) := (Below.refl _ _).alloc (Nat.le_refl _) _
  have hbx : InsBox (w.alloc (.cells #[.int .u8 35, .int .u8 d, .int .u8 a, .int .u8 b, .int .u32 imm] 91)) w.heap.size 35 d a b imm := ⟨heap_alloc_new w _⟩
  have Hlt : Hid (w.heap.size ≠ db ∧ ∀ k, Rsp.foot rb lv R k → w.heap.size ≠ k) := Lib.hid ⟨by have := hc.lt; omega, fun k hk => by have := hr.lt hk; omega⟩
  have HN := Lib.hid hn
  have HS : Hid (∀ w1, Below (w.heap.size + 1) (w.alloc (.cells #[.int .u8 35, .int .u8 d, .int .u8 a, .int .u8 b, .int .u32 imm] 91)) w1 → Cpu 107 w1 db r pc ∧ Rsp w1 rb lv R ∧ InsBox w1 w.heap.size 35 d a b imm ∧ Below w.heap.size w w1) := Lib.hid fun w1 g => by
    have g' : Below (w.alloc (.cells #[.int .u8 35, .int .u8 d, .int .u8 a, .int .u8 b, .int .u32 imm] 91)).heap.size (w.alloc (.cells #[.int .u8 35, .int .u8 d, .int .u8 a, .int .u8 b, .int .u32 imm] 91)) w1 := by rw [show (w.alloc (.cells #[.int .u8 35, .int .u8 d, .int .u8 a, .int .u8 b, .int .u32 imm] 91)).heap.size = w.heap.size + 1 by simp]; exact g
    exact ⟨(hc.below hbW).below g', (hr.same hbW).same g', hbx.below g', hbW.trans (g'.mono (by simp))⟩
  have k0 := hbx.cells.1
  have k2 := hbx.cells.2.2.1
  have k8 := hbx.cells.2.2.2.2
  have k5 := (hc.below hbW).cellReg a ha
  have hw1 := HS.out _ (Below.refl _ _).drew
  have k0' := hw1.2.2.1.cells.1
  have k1' := hw1.2.2.1.cells.2.1
  have k3' := hw1.2.2.1.cells.2.2.2.1
  have k6' := hw1.1.cellReg b hb
  have HW := Lib.hid hw1
  clear hc hr hn hbW hbx hw1
  unfold Ins.val
  simp only
  go_enter Tryz.func71, Tryz.ntmps71
  go_wp2_with fail
  go_region
  generalize putS (rg r b) 1 = S at *
  go_wp2_with fail
  have h0W : Below (w.heap.size + 1) (w.alloc (.cells #[.int .u8 35, .int .u8 d, .int .u8 a, .int .u8 b, .int .u32 imm] 91)) (w.alloc (.cells #[.int .u8 35, .int .u8 d, .int .u8 a, .int .u8 b, .int .u32 imm] 91)).drew := (Below.refl _ _).drew
  have h1W := HS.out _ h0W.drew
  have m3 := h1W.2.2.1.cells.2.2.2.1
  have m6 := h1W.1.cellReg b hb
  clear k0 k2 k8 k5
  go_region_held3 (fun w' => w'.cell? ⟨w.heap.size, 3, none⟩ = some (.int .u8 b) ∧ w'.cell? ⟨db, b, none⟩ = some (.int .u32 (rg r b)))
    (first
      | exact ⟨k3', k6'⟩
      | exact ⟨m3, m6⟩
      | exact ⟨q3, q6⟩
      | exact ⟨z3, z6⟩)
    (first
      | (go_at_call 102
         refine (HBy.out _).mono ?_
         rintro e w2 ⟨rfl, hq2⟩
         have hq := HS.out w2 (by first | exact h0W.drew.trans (hq2.mono (by simp)) | exact h0W.trans (hq2.mono (by simp)))
         have q3 := hq.2.2.1.cells.2.2.2.1
         have q6 := hq.1.cellReg b hb)
      | (go_at_call 62
         refine (Rs.put_in hq.2.1 AD 2 S hA0 hA1 (by rw [hSn]; omega) (by omega) (by omega)).mono ?_
         rintro e w3 ⟨R3, rfl, hR3, hs3⟩
         rw [hE.1] at hR3
         rw [hE.2]
         have hz1 := hq.1.keep hs3.mod HN.out
         have hz2 : InsBox w3 w.heap.size 35 d a b imm := ⟨(hs3.mod.block _ (lt_of_block hq.2.2.1.blk) (fun g => Hlt.out.2 _ g rfl)).trans hq.2.2.1.blk⟩
         have z3 := hz2.cells.2.2.2.1
         have z6 := hz1.cellReg b hb))
  all_goals
    have HC3 := Lib.hid hz1
    have HR3 := Lib.hid hR3
    have HS3 : Hid (RStep w w3 rb lv R lv R3) := Lib.hid ⟨hs3.sp, (Mod.of_below hq.2.2.2 _).same hs3.mod, fun k hk => (hs3.foot k hk).imp id fun g => Nat.le_trans hq.2.2.2.size g⟩
    clear hz1 hz2 hs3 hq hR3 q3 q6 z3 z6 m3 m6 h0W h1W
    go_wp2
    try go_ret
    exact HFin.out _ _ HC3.out HR3.out HS3.out
set_option maxRecDepth 100000 in
set_option maxHeartbeats 1000000 in
theorem mem36_no (hc : Cpu 107 w db r pc) (hr : Rsp w rb lv R) (hn : ¬ Rsp.foot rb lv R db) (d a b : Nat) (imm : Int) (i0 : 0 ≤ imm) (i1 : imm ≤ 4294967295) (hd : d < 16) (ha : a < 16) (hb : b < 16) (hf : Sp.fitsB (rpgs R) ((rg r a + imm) % 4294967296) 4 2 = false) :
    Calls Tryz.prog 71 #[.pointer (some ⟨db, 0, none⟩), .pointer (some ⟨rb, 0, none⟩), Ins.val ⟨36, d, a, b, imm⟩] w (SdPost w db r pc rb lv R (rpgs R) 50) := by
  have hva := rg_bd hc.regs a
  have hvb := rg_bd hc.regs b
  have ha1 : (a : Int) < 16 := by omega
  have hb1 : (b : Int) < 16 := by omega
  obtain ⟨AD, had⟩ : ∃ AD, IntKind.u32.wrap (rg r a + imm) = AD := ⟨_, rfl⟩
  have hax : (rg r a + imm) % 4294967296 = AD := by rw [← had, IntKind.wrap_u32']
  have hA0 : 0 ≤ AD := by omega
  have hA1 : AD ≤ 4294967295 := by omega
  have hok : ∀ p, p ∈ rpgs R → p.ok := fun p hp => by obtain ⟨q, hq, rfl⟩ := List.mem_map.1 hp; exact (hr.pages q hq).ok
  rw [hax] at hf
  have hSn : (putS (rg r b) 4).size = 4 := by unfold putS; rw [size_strOfNums]; rfl
  have hSx : nums (putS (rg r b) 4) = (putL (rg r b)).take 4 := by unfold putS; exact nums_strOfNums _ (putL_bdn hvb.1 hvb.2 4)
  have hE : Sp.putA (rpgs R) AD 2 (putS (rg r b) 4) = (rpgs R) ∧ Sp.fitsE (rpgs R) AD (putS (rg r b) 4).size 2 = 50 := by
    rw [hSn]
    refine ⟨?_, Sp.fitsE_no hf⟩
    unfold Sp.putA
    rw [hSn, hf]
    rfl
  have HFin : Hid (∀ R' w', Cpu 107 w' db r pc → rpgs R' = (rpgs R) → RStep w w' rb lv R lv R' → SdPost w db r pc rb lv R (rpgs R) 50 (.returned (.int .i64 50)) w') := Lib.hid fun R' w' g1 g2 g3 => ⟨R', rfl, g1, g2, g3⟩
  generalize SdPost w db r pc rb lv R (rpgs R) 50 = PQ at *
  have HBy := Lib.hid (WordRef.Bytes (rg r b) 4 (by omega) hvb.1 hvb.2)
  have hbW : Below w.heap.size w (w.alloc (.cells #[.int .u8 36, .int .u8 d, .int .u8 a, .int .u8 b, .int .u32 imm] 91)) := (Below.refl _ _).alloc (Nat.le_refl _) _
  have hbx : InsBox (w.alloc (.cells #[.int .u8 36, .int .u8 d, .int .u8 a, .int .u8 b, .int .u32 imm] 91)) w.heap.size 36 d a b imm := ⟨heap_alloc_new w _⟩
  have Hlt : Hid (w.heap.size ≠ db ∧ ∀ k, Rsp.foot rb lv R k → w.heap.size ≠ k) := Lib.hid ⟨by have := hc.lt; omega, fun k hk => by have := hr.lt hk; omega⟩
  have HN := Lib.hid hn
  have HS : Hid (∀ w1, Below (w.heap.size + 1) (w.alloc (.cells #[.int .u8 36, .int .u8 d, .int .u8 a, .int .u8 b, .int .u32 imm] 91)) w1 → Cpu 107 w1 db r pc ∧ Rsp w1 rb lv R ∧ InsBox w1 w.heap.size 36 d a b imm ∧ Below w.heap.size w w1) := Lib.hid fun w1 g => by
    have g' : Below (w.alloc (.cells #[.int .u8 36, .int .u8 d, .int .u8 a, .int .u8 b, .int .u32 imm] 91)).heap.size (w.alloc (.cells #[.int .u8 36, .int .u8 d, .int .u8 a, .int .u8 b, .int .u32 imm] 91)) w1 := by rw [show (w.alloc (.cells #[.int .u8 36, .int .u8 d, .int .u8 a, .int .u8 b, .int .u32 imm] 91)).heap.size = w.heap.size + 1 by simp]; exact g
    exact ⟨(hc.below hbW).below g', (hr.same hbW).same g', hbx.below g', hbW.trans (g'.mono (by simp))⟩
  have k0 := hbx.cells.1
  have k2 := hbx.cells.2.2.1
  have k8 := hbx.cells.2.2.2.2
  have k5 := (hc.below hbW).cellReg a ha
  have hw1 := HS.out _ (Below.refl _ _).drew
  have k0' := hw1.2.2.1.cells.1
  have k1' := hw1.2.2.1.cells.2.1
  have k3' := hw1.2.2.1.cells.2.2.2.1
  have k6' := hw1.1.cellReg b hb
  have HW := Lib.hid hw1
  clear hc hr hn hbW hbx hw1
  unfold Ins.val
  simp only
  go_enter Tryz.func71, Tryz.ntmps71
  go_wp2_with fail
  go_region
  generalize putS (rg r b) 4 = S at *
  go_wp2_with fail
  have h0W : Below (w.heap.size + 1) (w.alloc (.cells #[.int .u8 36, .int .u8 d, .int .u8 a, .int .u8 b, .int .u32 imm] 91)) (w.alloc (.cells #[.int .u8 36, .int .u8 d, .int .u8 a, .int .u8 b, .int .u32 imm] 91)).drew := (Below.refl _ _).drew
  have h1W := HS.out _ h0W.drew
  have m3 := h1W.2.2.1.cells.2.2.2.1
  have m6 := h1W.1.cellReg b hb
  clear k0 k2 k8 k5
  go_region_held3 (fun w' => w'.cell? ⟨w.heap.size, 3, none⟩ = some (.int .u8 b) ∧ w'.cell? ⟨db, b, none⟩ = some (.int .u32 (rg r b)))
    (first
      | exact ⟨k3', k6'⟩
      | exact ⟨m3, m6⟩
      | exact ⟨q3, q6⟩
      | exact ⟨z3, z6⟩)
    (first
      | (go_at_call 102
         refine (HBy.out _).mono ?_
         rintro e w2 ⟨rfl, hq2⟩
         have hq := HS.out w2 (by first | exact h0W.drew.trans (hq2.mono (by simp)) | exact h0W.trans (hq2.mono (by simp)))
         have q3 := hq.2.2.1.cells.2.2.2.1
         have q6 := hq.1.cellReg b hb)
      | (go_at_call 62
         refine (Rs.put_in hq.2.1 AD 2 S hA0 hA1 (by rw [hSn]; omega) (by omega) (by omega)).mono ?_
         rintro e w3 ⟨R3, rfl, hR3, hs3⟩
         rw [hE.1] at hR3
         rw [hE.2]
         have hz1 := hq.1.keep hs3.mod HN.out
         have hz2 : InsBox w3 w.heap.size 36 d a b imm := ⟨(hs3.mod.block _ (lt_of_block hq.2.2.1.blk) (fun g => Hlt.out.2 _ g rfl)).trans hq.2.2.1.blk⟩
         have z3 := hz2.cells.2.2.2.1
         have z6 := hz1.cellReg b hb))
  all_goals
    have HC3 := Lib.hid hz1
    have HR3 := Lib.hid hR3
    have HS3 : Hid (RStep w w3 rb lv R lv R3) := Lib.hid ⟨hs3.sp, (Mod.of_below hq.2.2.2 _).same hs3.mod, fun k hk => (hs3.foot k hk).imp id fun g => Nat.le_trans hq.2.2.2.size g⟩
    clear hz1 hz2 hs3 hq hR3 q3 q6 z3 z6 m3 m6 h0W h1W
    go_wp2
    try go_ret
    exact HFin.out _ _ HC3.out HR3.out HS3.out
set_option maxRecDepth 100000 in
set_option maxHeartbeats 1000000 in
theorem mem36_yes (hc : Cpu 107 w db r pc) (hr : Rsp w rb lv R) (hn : ¬ Rsp.foot rb lv R db) (d a b : Nat) (imm : Int) (i0 : 0 ≤ imm) (i1 : imm ≤ 4294967295) (hd : d < 16) (ha : a < 16) (hb : b < 16) (hf : Sp.fitsB (rpgs R) ((rg r a + imm) % 4294967296) 4 2 = true) :
    Calls Tryz.prog 71 #[.pointer (some ⟨db, 0, none⟩), .pointer (some ⟨rb, 0, none⟩), Ins.val ⟨36, d, a, b, imm⟩] w (SdPost w db r pc rb lv R (putN (rpgs R) ((rg r a + imm) % 4294967296) ((putL (rg r b)).take 4) 4) 0) := by
  have hva := rg_bd hc.regs a
  have hvb := rg_bd hc.regs b
  have ha1 : (a : Int) < 16 := by omega
  have hb1 : (b : Int) < 16 := by omega
  obtain ⟨AD, had⟩ : ∃ AD, IntKind.u32.wrap (rg r a + imm) = AD := ⟨_, rfl⟩
  have hax : (rg r a + imm) % 4294967296 = AD := by rw [← had, IntKind.wrap_u32']
  have hA0 : 0 ≤ AD := by omega
  have hA1 : AD ≤ 4294967295 := by omega
  have hok : ∀ p, p ∈ rpgs R → p.ok := fun p hp => by obtain ⟨q, hq, rfl⟩ := List.mem_map.1 hp; exact (hr.pages q hq).ok
  rw [hax] at hf ⊢
  have hSn : (putS (rg r b) 4).size = 4 := by unfold putS; rw [size_strOfNums]; rfl
  have hSx : nums (putS (rg r b) 4) = (putL (rg r b)).take 4 := by unfold putS; exact nums_strOfNums _ (putL_bdn hvb.1 hvb.2 4)
  have hE : Sp.putA (rpgs R) AD 2 (putS (rg r b) 4) = (putN (rpgs R) AD ((putL (rg r b)).take 4) 4) ∧ Sp.fitsE (rpgs R) AD (putS (rg r b) 4).size 2 = 0 := by
    rw [hSn]
    refine ⟨?_, Sp.fitsE_yes hf⟩
    unfold Sp.putA
    rw [hSn, if_pos hf, hSx]

  have HFin : Hid (∀ R' w', Cpu 107 w' db r pc → rpgs R' = (putN (rpgs R) AD ((putL (rg r b)).take 4) 4) → RStep w w' rb lv R lv R' → SdPost w db r pc rb lv R (putN (rpgs R) AD ((putL (rg r b)).take 4) 4) 0 (.returned (.int .i64 0)) w') := Lib.hid fun R' w' g1 g2 g3 => ⟨R', rfl, g1, g2, g3⟩
  generalize SdPost w db r pc rb lv R (putN (rpgs R) AD ((putL (rg r b)).take 4) 4) 0 = PQ at *
  have HBy := Lib.hid (WordRef.Bytes (rg r b) 4 (by omega) hvb.1 hvb.2)
  have hbW : Below w.heap.size w (w.alloc (.cells #[.int .u8 36, .int .u8 d, .int .u8 a, .int .u8 b, .int .u32 imm] 91)) := (Below.refl _ _).alloc (Nat.le_refl _) _
  have hbx : InsBox (w.alloc (.cells #[.int .u8 36, .int .u8 d, .int .u8 a, .int .u8 b, .int .u32 imm] 91)) w.heap.size 36 d a b imm := ⟨heap_alloc_new w _⟩
  have Hlt : Hid (w.heap.size ≠ db ∧ ∀ k, Rsp.foot rb lv R k → w.heap.size ≠ k) := Lib.hid ⟨by have := hc.lt; omega, fun k hk => by have := hr.lt hk; omega⟩
  have HN := Lib.hid hn
  have HS : Hid (∀ w1, Below (w.heap.size + 1) (w.alloc (.cells #[.int .u8 36, .int .u8 d, .int .u8 a, .int .u8 b, .int .u32 imm] 91)) w1 → Cpu 107 w1 db r pc ∧ Rsp w1 rb lv R ∧ InsBox w1 w.heap.size 36 d a b imm ∧ Below w.heap.size w w1) := Lib.hid fun w1 g => by
    have g' : Below (w.alloc (.cells #[.int .u8 36, .int .u8 d, .int .u8 a, .int .u8 b, .int .u32 imm] 91)).heap.size (w.alloc (.cells #[.int .u8 36, .int .u8 d, .int .u8 a, .int .u8 b, .int .u32 imm] 91)) w1 := by rw [show (w.alloc (.cells #[.int .u8 36, .int .u8 d, .int .u8 a, .int .u8 b, .int .u32 imm] 91)).heap.size = w.heap.size + 1 by simp]; exact g
    exact ⟨(hc.below hbW).below g', (hr.same hbW).same g', hbx.below g', hbW.trans (g'.mono (by simp))⟩
  have k0 := hbx.cells.1
  have k2 := hbx.cells.2.2.1
  have k8 := hbx.cells.2.2.2.2
  have k5 := (hc.below hbW).cellReg a ha
  have hw1 := HS.out _ (Below.refl _ _).drew
  have k0' := hw1.2.2.1.cells.1
  have k1' := hw1.2.2.1.cells.2.1
  have k3' := hw1.2.2.1.cells.2.2.2.1
  have k6' := hw1.1.cellReg b hb
  have HW := Lib.hid hw1
  clear hc hr hn hbW hbx hw1
  unfold Ins.val
  simp only
  go_enter Tryz.func71, Tryz.ntmps71
  go_wp2_with fail
  go_region
  generalize putS (rg r b) 4 = S at *
  go_wp2_with fail
  have h0W : Below (w.heap.size + 1) (w.alloc (.cells #[.int .u8 36, .int .u8 d, .int .u8 a, .int .u8 b, .int .u32 imm] 91)) (w.alloc (.cells #[.int .u8 36, .int .u8 d, .int .u8 a, .int .u8 b, .int .u32 imm] 91)).drew := (Below.refl _ _).drew
  have h1W := HS.out _ h0W.drew
  have m3 := h1W.2.2.1.cells.2.2.2.1
  have m6 := h1W.1.cellReg b hb
  clear k0 k2 k8 k5
  go_region_held3 (fun w' => w'.cell? ⟨w.heap.size, 3, none⟩ = some (.int .u8 b) ∧ w'.cell? ⟨db, b, none⟩ = some (.int .u32 (rg r b)))
    (first
      | exact ⟨k3', k6'⟩
      | exact ⟨m3, m6⟩
      | exact ⟨q3, q6⟩
      | exact ⟨z3, z6⟩)
    (first
      | (go_at_call 102
         refine (HBy.out _).mono ?_
         rintro e w2 ⟨rfl, hq2⟩
         have hq := HS.out w2 (by first | exact h0W.drew.trans (hq2.mono (by simp)) | exact h0W.trans (hq2.mono (by simp)))
         have q3 := hq.2.2.1.cells.2.2.2.1
         have q6 := hq.1.cellReg b hb)
      | (go_at_call 62
         refine (Rs.put_in hq.2.1 AD 2 S hA0 hA1 (by rw [hSn]; omega) (by omega) (by omega)).mono ?_
         rintro e w3 ⟨R3, rfl, hR3, hs3⟩
         rw [hE.1] at hR3
         rw [hE.2]
         have hz1 := hq.1.keep hs3.mod HN.out
         have hz2 : InsBox w3 w.heap.size 36 d a b imm := ⟨(hs3.mod.block _ (lt_of_block hq.2.2.1.blk) (fun g => Hlt.out.2 _ g rfl)).trans hq.2.2.1.blk⟩
         have z3 := hz2.cells.2.2.2.1
         have z6 := hz1.cellReg b hb))
  all_goals
    have HC3 := Lib.hid hz1
    have HR3 := Lib.hid hR3
    have HS3 : Hid (RStep w w3 rb lv R lv R3) := Lib.hid ⟨hs3.sp, (Mod.of_below hq.2.2.2 _).same hs3.mod, fun k hk => (hs3.foot k hk).imp id fun g => Nat.le_trans hq.2.2.2.size g⟩
    clear hz1 hz2 hs3 hq hR3 q3 q6 z3 z6 m3 m6 h0W h1W
    go_wp2
    try go_ret
    exact HFin.out _ _ HC3.out HR3.out HS3.out
end
end Cp
end Go.Proofs.YtldmglodjafklaaGreat

