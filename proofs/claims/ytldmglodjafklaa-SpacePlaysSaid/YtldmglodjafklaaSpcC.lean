/- The walk of space's put; Look, Read, Fetch, Set, Write, Perm. -/
import Derived.Test.YtldmglodjafklaaSpcB
import Derived.Test.YtldmglodjafklaaSpcP
import Derived.Laws.IdiomStrings
namespace Go.Proofs.Ytldmglodjafklaa.Sp
open Go.RowKit
set_option linter.unusedVariables false
theorem put_fault {w : World} {sb mb : Nat} {A : List Pg} (h : Spc w sb mb A) (addr need : Int) (s : ByteArray) (h0 : 0 ≤ addr) (h1 : addr ≤ 4294967295) (hn : s.size ≤ 140737488355328) (n0 : 0 ≤ need) (n1 : need ≤ 255) (hf : fitsB A addr s.size need = false) :
    Calls Try.prog 39 #[.pointer (some ⟨sb, 0, none⟩), .int .u32 addr, .string s, .int .u8 need] w fun e w' => e = .returned (.int .i64 50) ∧ w = w' := by
  have hE := fitsE_no hf
  have H := Lib.hid h
  clear h hf
  go_enter Try.func39, Try.ntmps39
  go_wp2_with (go_at_call 53; (with_reducible refine (fits H.out addr s.size need h0 h1 (by omega) n0 n1).mono ?_); rintro e w1 ⟨rfl, rfl⟩)
  go_ret
  exact ⟨rfl, rfl⟩
/-- The blocks of pages. -/
def pgBlk (A : List Pg) (k : Nat) : Prop := ∃ p, p ∈ A ∧ k = p.blk
def putRel (sb mb : Nat) (A : List Pg) (addr : Int) (s : ByteArray) (W : World) (si : Value) (wr : World) : Prop :=
  ∃ k : Nat, k ≤ s.size ∧ si = .int .i64 k ∧ Spc wr sb mb (putN A addr (nums s) k) ∧ Mod (pgBlk A) W wr
theorem put_ok {w : World} {sb mb : Nat} {A : List Pg} (h : Spc w sb mb A) (addr need : Int) (s : ByteArray) (h0 : 0 ≤ addr) (h1 : addr ≤ 4294967295) (hn : s.size ≤ 140737488355328) (n0 : 0 ≤ need) (n1 : need ≤ 255) (hf : fitsB A addr s.size need = true) :
    Calls Try.prog 39 #[.pointer (some ⟨sb, 0, none⟩), .int .u32 addr, .string s, .int .u8 need] w fun e w' => e = .returned (.int .i64 0) ∧ Spc w' sb mb (putN A addr (nums s) s.size) ∧ Mod (pgBlk A) w w' := by
  have hE := fitsE_yes hf
  have hcv := fun (w : World) => run_bytes_of_string (P := Try.prog) w 9 32 5 s Try.underlying9 Try.underlying32 Try.underlying5
  have H := Lib.hid h
  have Hf := Lib.hid hf
  clear h hf
  go_enter Try.func39, Try.ntmps39
  go_wp2_with (go_at_call 53; (with_reducible refine (fits H.out addr s.size need h0 h1 (by omega) n0 n1).mono ?_); rintro e w1 ⟨rfl, rfl⟩)
  generalize hW : (w.alloc (.cells (bytesRow s (grownCap w s.size 0 5)) 5 ((bytesRow s (grownCap w s.size 0 5)).size, (bytesRow s (grownCap w s.size 0 5)).size + 1))).drew = W
  generalize grownCap w s.size 0 5 = cap at *
  have HW := Lib.hid hW
  have Hm0 : Hid (Mod (pgBlk A) w W) := by rw [← hW]; exact ((Mod.refl _ _).alloc _).drew
  have Hs0 : Hid (Spc W sb mb A) := H.out.keep (F := fun _ => False) (by rw [← hW]; exact ((Mod.refl _ _).alloc _).drew) fun _ _ g => g
  clear hW hcv
  go_loopw [26, 10, 11, 12, 13] (fun si _ _ _ _ wr => putRel sb mb A addr s W si wr) (fun i _ _ _ _ _ => s.size - (intOf i).toNat)
  case atStart => exact ⟨0, by omega, rfl, Hs0.out, Mod.refl _ _⟩
  case round =>
    obtain ⟨k, hk, rfl, hsp, hm⟩ := hrel
    have Hm := Lib.hid hm
    have Hs := Lib.hid hsp
    by_cases hk2 : k < s.size
    · have hokk := fitsB_at hk2 Hf.out
      cases hp0 : pageAt A (addr + k) with
      | none => unfold okAt at hokk; rw [hp0] at hokk; cases hokk
      | some p0 =>
        obtain ⟨p, hp, hpb, _, _⟩ := pageAt_putN_some hp0 addr (nums s) k
        have hpm := atAddr_mem hp
        have hpo := hsp.ok p hpm.1
        have ha2 : addr + (k : Int) < 1048576 := by have := hpo.a1; have := hpo.a2; omega
        obtain ⟨j, hj⟩ : ∃ j : Nat, (addr + (k : Int)) % 256 = j := ⟨((addr + (k : Int)) % 256).toNat, by omega⟩
        have hcb := hsp.cellByte hpm.1 j (by omega)
        have hpf : pgBlk A p.blk := ⟨p0, (atAddr_mem hp0).1, hpb⟩
        have hrow : wr.cell? ⟨w.heap.size, k, none⟩ = some (.int .u8 ((nums s).getD k 0)) := by
          have hb : wr.heap[w.heap.size]? = W.heap[w.heap.size]? := hm.block _ (by rw [← HW.out]; simp) (by
            rintro ⟨q, hq, e⟩
            have := H.out.lt (.inr (.inr ⟨q, hq, rfl⟩))
            omega)
          rw [World.cell?_of_block (w := W) hb, ← HW.out]
          exact fresh_bytes _ _ _ _ _ _ hk2
        have hfr : wr.frozen? ⟨p.blk, 1 + j, none⟩ = false := by unfold World.frozen?; rw [hsp.page p hpm.1]; simp
        have hxb := byte_bd (s[k]'hk2)
        rw [nums_get s k hk2] at hxb
        have hstep := hsp.setByte hp hj hxb.1 hxb.2
        have Hst : Hid (Spc (wr.setCell ⟨p.blk, 1 + j, none⟩ (.int .u8 ((nums s).getD k 0))) sb mb (putN A addr (nums s) (k + 1))) := hstep
        have Hp := Lib.hid hp
        have Hpf := Lib.hid hpf
        clear hp hpm hpo hokk hsp hm hp0 hpb hpf hstep
        generalize (nums s).getD k 0 = x at *
        go_wp2_with (go_at_call 37; (with_reducible refine (at_some Hs.out _ (by omega) (by omega) Hp.out).mono ?_); rintro e w1 ⟨rfl, rfl⟩)
        exact ⟨⟨k + 1, by omega, by go_num, Hst.out, Hm.out.setCell _ (.inl Hpf.out) _⟩, by simp [intOf]; omega⟩
    · obtain rfl : k = s.size := by omega
      clear hsp hm
      go_wp2
      go_ret
      exact ⟨rfl, Hs.out, Hm0.out.same Hm.out⟩
def putA (A : List Pg) (addr need : Int) (s : ByteArray) : List Pg := if fitsB A addr s.size need then putN A addr (nums s) s.size else A
theorem put_any {w : World} {sb mb : Nat} {A : List Pg} (h : Spc w sb mb A) (addr need : Int) (s : ByteArray) (h0 : 0 ≤ addr) (h1 : addr ≤ 4294967295) (hn : s.size ≤ 140737488355328) (n0 : 0 ≤ need) (n1 : need ≤ 255) :
    Calls Try.prog 39 #[.pointer (some ⟨sb, 0, none⟩), .int .u32 addr, .string s, .int .u8 need] w fun e w' => e = .returned (.int .i64 (fitsE A addr s.size need)) ∧ Spc w' sb mb (putA A addr need s) ∧ Mod (pgBlk A) w w' := by
  cases hf : fitsB A addr s.size need with
  | true => exact (put_ok h addr need s h0 h1 hn n0 n1 hf).mono fun e w' ⟨g1, g2, g3⟩ => ⟨by rw [g1, fitsE_yes hf], by unfold putA; rw [if_pos hf]; exact g2, g3⟩
  | false => exact (put_fault h addr need s h0 h1 hn n0 n1 hf).mono fun e w' ⟨g1, g2⟩ => ⟨by rw [g1, fitsE_no hf], by unfold putA; rw [hf]; exact g2 ▸ h, g2 ▸ Mod.refl _ _⟩
def getE (A : List Pg) (addr n need : Int) : Int := if n < 0 ∨ 1048576 < n then 2 else fitsE A addr n.toNat need
def getS (A : List Pg) (addr n need : Int) : ByteArray := if n < 0 ∨ 1048576 < n then ByteArray.empty else if fitsB A addr n.toNat need then strOfNums (getL A addr n.toNat) else ByteArray.empty
theorem get_any {w : World} {sb mb : Nat} {A : List Pg} (h : Spc w sb mb A) (addr n need : Int) (h0 : 0 ≤ addr) (h1 : addr ≤ 4294967295) (n0 : 0 ≤ need) (n1 : need ≤ 255) :
    Calls Try.prog 38 #[.pointer (some ⟨sb, 0, none⟩), .int .u32 addr, .int .i64 n, .int .u8 need] w fun e w' => e = .returned (.tuple #[.string (getS A addr n need), .int .i64 (getE A addr n need)]) ∧ Below w.heap.size w w' := by
  by_cases hn : n < 0 ∨ 1048576 < n
  · exact (get_arg h addr n need hn).mono fun e w' ⟨g1, g2⟩ => ⟨by rw [g1]; unfold getS getE; rw [if_pos hn, if_pos hn], g2 ▸ Below.refl _ _⟩
  · obtain ⟨m, rfl⟩ := Int.eq_ofNat_of_zero_le (show 0 ≤ n by omega)
    cases hf : fitsB A addr m need with
    | true => exact (get_ok h addr need m h0 h1 (by omega) n0 n1 hf).mono fun e w' ⟨g1, g2⟩ => ⟨by rw [g1]; unfold getS getE; rw [if_neg hn, if_neg hn, Int.toNat_natCast, if_pos hf, fitsE_yes hf], g2⟩
    | false => exact (get_fault h addr need m h0 h1 (by omega) n0 n1 hf).mono fun e w' ⟨g1, g2⟩ => ⟨by rw [g1]; unfold getS getE; rw [if_neg hn, if_neg hn, Int.toNat_natCast, hf, fitsE_no hf]; rfl, g2 ▸ Below.refl _ _⟩
theorem look {w : World} {sb mb : Nat} {A : List Pg} (h : Spc w sb mb A) (addr n : Int) (h0 : 0 ≤ addr) (h1 : addr ≤ 4294967295) :
    Calls Try.prog 11 #[.pointer (some ⟨sb, 0, none⟩), .int .u32 addr, .int .i64 n] w fun e w' => e = .returned (.tuple #[.string (getS A addr n 0), .int .i64 (getE A addr n 0)]) ∧ Below w.heap.size w w' := by
  have H := Lib.hid h
  clear h
  go_enter Try.func11, Try.ntmps11
  go_wp2_with (go_at_call 38; (with_reducible refine (get_any H.out addr n 0 h0 h1 (by omega) (by omega)).mono ?_); rintro e w1 ⟨rfl, hb⟩)
  go_ret2
  exact ⟨rfl, by assumption⟩
theorem read {w : World} {sb mb : Nat} {A : List Pg} (h : Spc w sb mb A) (addr n : Int) (h0 : 0 ≤ addr) (h1 : addr ≤ 4294967295) :
    Calls Try.prog 10 #[.pointer (some ⟨sb, 0, none⟩), .int .u32 addr, .int .i64 n] w fun e w' => e = .returned (.tuple #[.string (getS A addr n 1), .int .i64 (getE A addr n 1)]) ∧ Below w.heap.size w w' := by
  have H := Lib.hid h
  clear h
  go_enter Try.func10, Try.ntmps10
  go_wp2_with (go_at_call 38; (with_reducible refine (get_any H.out addr n 1 h0 h1 (by omega) (by omega)).mono ?_); rintro e w1 ⟨rfl, hb⟩)
  go_ret2
  exact ⟨rfl, by assumption⟩
theorem fetch {w : World} {sb mb : Nat} {A : List Pg} (h : Spc w sb mb A) (addr : Int) (h0 : 0 ≤ addr) (h1 : addr ≤ 4294967295) :
    Calls Try.prog 12 #[.pointer (some ⟨sb, 0, none⟩), .int .u32 addr] w fun e w' => e = .returned (.tuple #[.string (getS A addr 8 4), .int .i64 (getE A addr 8 4)]) ∧ Below w.heap.size w w' := by
  have H := Lib.hid h
  clear h
  go_enter Try.func12, Try.ntmps12
  go_wp2_with (go_at_call 38; (with_reducible refine (get_any H.out addr 8 4 h0 h1 (by omega) (by omega)).mono ?_); rintro e w1 ⟨rfl, hb⟩)
  go_ret2
  exact ⟨rfl, by assumption⟩
theorem write {w : World} {sb mb : Nat} {A : List Pg} (h : Spc w sb mb A) (addr : Int) (s : ByteArray) (h0 : 0 ≤ addr) (h1 : addr ≤ 4294967295) (hn : s.size ≤ 140737488355328) :
    Calls Try.prog 13 #[.pointer (some ⟨sb, 0, none⟩), .int .u32 addr, .string s] w fun e w' => e = .returned (.int .i64 (fitsE A addr s.size 2)) ∧ Spc w' sb mb (putA A addr 2 s) ∧ Mod (pgBlk A) w w' := by
  have H := Lib.hid h
  clear h
  go_enter Try.func13, Try.ntmps13
  go_wp2_with (go_at_call 39; (with_reducible refine (put_any H.out addr 2 s h0 h1 hn (by omega) (by omega)).mono ?_); rintro e w1 ⟨rfl, hb⟩)
  go_ret
  exact ⟨rfl, by assumption⟩
end Go.Proofs.Ytldmglodjafklaa.Sp
