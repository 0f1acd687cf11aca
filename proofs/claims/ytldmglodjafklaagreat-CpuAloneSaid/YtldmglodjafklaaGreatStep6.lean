/- The walk of aediculeref06.Step: what fails, and the world in which an instruction is done. -/
import Derived.Test.YtldmglodjafklaaGreatMem6
import Derived.Test.YtldmglodjafklaaGreatRefDec
import Derived.Test.YtldmglodjafklaaGreatCpuW
import Derived.StillTailTactics
namespace Go.Proofs.YtldmglodjafklaaGreat
open Go.RowKit Word
set_option linter.unusedSimpArgs false
set_option linter.unusedVariables false
namespace Cp
/-- What a step of the document leaves. -/
def SdStPost (w : World) (db rb : Nat) (lv : Value) (R : List Rp) (o : Out) (e : Ending) (w' : World) : Prop :=
  ∃ R', e = .returned o.stop ∧ Cpu 107 w' db o.r o.pc ∧ rpgs R' = o.A ∧ Rsp w' rb lv R' ∧ Mod (fun k => k = db ∨ Rsp.foot rb lv R k) w w' ∧ ∀ k, Rsp.foot rb lv R' k → Rsp.foot rb lv R k ∨ w.heap.size ≤ k
section
variable {w : World} {db rb : Nat} {lv : Value} {R : List Rp} {r : List Int} {pc : Int}
set_option maxRecDepth 100000 in
theorem stepD_fault (hc : Cpu 107 w db r pc) (hr : Rsp w rb lv R) (hf : Sp.fitsB (rpgs R) pc 8 4 = false) :
    Calls Tryz.prog 29 #[.pointer (some ⟨db, 0, none⟩), .pointer (some ⟨rb, 0, none⟩)] w fun e w' => e = .returned (stopV 2 0 50) ∧ Below w.heap.size w w' := by
  have hE := fetch_no hf
  have hbW : Below w.heap.size w (w.alloc (.cells #[.int .u8 0, .int .u32 0, .int .i64 0] 29)) := (Below.refl _ _).alloc (Nat.le_refl _) _
  have hcp := (hc.below hbW).cellPc
  have hF := Rs.get_any (hr.same hbW) pc 8 4 hc.p0 hc.p1 (by omega) (by omega)
  rw [hE] at hF
  have HF := Lib.hid hF
  have HB := Lib.hid hbW
  have HR := Lib.hid (⟨heap_alloc_new w _⟩ : RsBox (w.alloc (.cells #[.int .u8 0, .int .u32 0, .int .i64 0] 29)) w.heap.size)
  clear hc hr hbW hE hf hF
  go_enter Tryz.func29, Tryz.ntmps29
  go_wp2_with fail
  refine HF.out.mono ?_
  rintro e w1 ⟨rfl, hb1⟩
  have HR1 := Lib.hid (HR.out.frame (hb1.block _ (by simp)))
  have HB1 := Lib.hid (below_th HB.out hb1)
  clear hb1
  go_wp2_with fail
  refine (faultD 50 _).mono ?_
  rintro e w2 ⟨rfl, hb2⟩
  obtain ⟨c0, c1, c2, f0, f1, f2⟩ := (HR1.out.frame (hb2.block _ (lt_of_block HR1.out.blk))).cells
  have HB2 := Lib.hid (below_th HB1.out hb2)
  clear hb2
  go_wp2
  refine bodyPost_ret (v := stopV 2 0 50) (by simp [results, Tryz.results29, go_sem, stopV, *]) rfl ⟨rfl, below_set3 HB2.out (Nat.le_refl _) _ _ _⟩
set_option maxRecDepth 100000 in
theorem stepD_form (hc : Cpu 107 w db r pc) (hr : Rsp w rb lv R) (hf : Sp.fitsB (rpgs R) pc 8 4 = true) (hd : Ins.decB (strOfNums (Sp.getL (rpgs R) pc 8)) = false) :
    Calls Tryz.prog 29 #[.pointer (some ⟨db, 0, none⟩), .pointer (some ⟨rb, 0, none⟩)] w fun e w' => e = .returned (stopV 2 0 7) ∧ Below w.heap.size w w' := by
  have hE := fetch_yes hf
  have hbW : Below w.heap.size w (w.alloc (.cells #[.int .u8 0, .int .u32 0, .int .i64 0] 29)) := (Below.refl _ _).alloc (Nat.le_refl _) _
  have hcp := (hc.below hbW).cellPc
  have hF := Rs.get_any (hr.same hbW) pc 8 4 hc.p0 hc.p1 (by omega) (by omega)
  rw [hE.1, hE.2] at hF
  have HF := Lib.hid hF
  have HB := Lib.hid hbW
  have HR := Lib.hid (⟨heap_alloc_new w _⟩ : RsBox (w.alloc (.cells #[.int .u8 0, .int .u32 0, .int .i64 0] 29)) w.heap.size)
  have HD : Hid (∀ W, Calls Tryz.prog 68 #[.string (strOfNums (Sp.getL (rpgs R) pc 8))] W fun e w' => e = .returned (.tuple #[Ins.nix.val, .int .i64 7]) ∧ Below W.heap.size W w') := Lib.hid fun W => by
    have h := Ins.decodeR (strOfNums (Sp.getL (rpgs R) pc 8)) (by rw [size_strOfNums, Sp.getL_length]; omega) W
    unfold Ins.decX Ins.decE at h
    rw [hd] at h
    exact h
  generalize strOfNums (Sp.getL (rpgs R) pc 8) = S at *
  clear hc hr hbW hE hf hF hd
  go_enter Tryz.func29, Tryz.ntmps29
  go_wp2_with fail
  refine HF.out.mono ?_
  rintro e w1 ⟨rfl, hb1⟩
  have HR1 := Lib.hid (HR.out.frame (hb1.block _ (by simp)))
  have HB1 := Lib.hid (below_th HB.out hb1)
  clear hb1
  go_wp2_with fail
  refine (HD.out _).mono ?_
  rintro e w2 ⟨rfl, hb2⟩
  have hs1 := HR1.out.blk
  have HR2 := Lib.hid (HR1.out.frame (hb2.block _ (lt_of_block hs1)))
  have HB2 := Lib.hid (below_th HB1.out hb2)
  clear hb2 hs1
  unfold Ins.nix Ins.val
  simp only
  go_wp2_with fail
  refine (faultD 7 _).mono ?_
  rintro e w3 ⟨rfl, hb3⟩
  have hlt := lt_of_block HR2.out.blk
  obtain ⟨c0, c1, c2, f0, f1, f2⟩ := (HR2.out.frame ((hb3.block _ (by simp; omega)).trans (Below.heap_alloc _ _ _ hlt))).cells
  have HB3 := Lib.hid (below_th (HB2.out.alloc HB2.out.size _) hb3)
  clear hb3
  go_wp2
  refine bodyPost_ret (v := stopV 2 0 7) (by simp [results, Tryz.results29, go_sem, stopV, *]) rfl ⟨rfl, below_set3 HB3.out (Nat.le_refl _) _ _ _⟩
end
end Cp
end Go.Proofs.YtldmglodjafklaaGreat
