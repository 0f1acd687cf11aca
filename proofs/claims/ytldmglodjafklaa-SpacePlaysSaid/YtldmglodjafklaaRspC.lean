/- The walks of the document's space: Get. -/
import Derived.Test.YtldmglodjafklaaRspB
import Derived.Test.YtldmglodjafklaaSpcC
import Derived.Deep.AppendLies
import Derived.Deep.RegionLaw
import Derived.Deep.QuietTactic
import Derived.BigQuiet
import Derived.Laws.IdiomStrings
namespace Go.Proofs.Ytldmglodjafklaa.Rs
open Go.RowKit
set_option linter.unusedVariables false
theorem page_of {w : World} {rb : Nat} {lv : Value} {R : List Rp} (h : Rsp w rb lv R) {x : Int} {p : Pg} (hp : pageAt (rpgs R) x = some p) : ∃ q, q ∈ R ∧ q.pg = p ∧ p.addr = x - x % 256 := by
  have hm := atAddr_mem hp
  obtain ⟨q, hq, rfl⟩ := List.mem_map.1 hm.1
  exact ⟨q, hq, rfl, hm.2⟩
theorem _root_.Go.Proofs.Ytldmglodjafklaa.Sp.wrap64 {x : Int} (h0 : 0 ≤ x) (h1 : x < 18446744073709551616) : IntKind.u64.wrap x = x := by rw [IntKind.wrap_u64]; omega
def gtRel (w : World) (A : List Pg) (addr : Int) (n : Nat) (need : Int) (vb vi : Value) (wr : World) : Prop :=
  ∃ k : Nat, k ≤ n ∧ vi = .int .i64 k ∧ Sp.fitsB A addr k need = true ∧ Buf wr w.heap.size 5 vb (Sp.getL A addr k) ∧ Below w.heap.size w wr
theorem get_arg {w : World} {rb : Nat} (addr n need : Int) (hn : n < 0 ∨ 1048576 < n) :
    Calls Try.prog 47 #[.pointer (some ⟨rb, 0, none⟩), .int .u32 addr, .int .i64 n, .int .u8 need] w fun e w' => e = .returned (.tuple #[.string ByteArray.empty, .int .i64 2]) ∧ w = w' := by
  rcases hn with hn | hn
  · go_enter Try.func47, Try.ntmps47
    go_wp2
    go_ret2
    exact ⟨rfl, rfl⟩
  · have h2 : decide (n < 0) = false := decide_eq_false (by omega)
    go_enter Try.func47, Try.ntmps47
    go_wp2
    go_ret2
    exact ⟨rfl, rfl⟩
set_option maxRecDepth 100000 in
set_option maxHeartbeats 4000000 in
theorem get_in {w : World} {rb : Nat} {lv : Value} {R : List Rp} (h : Rsp w rb lv R) (addr need : Int) (n : Nat) (h0 : 0 ≤ addr) (h1 : addr ≤ 4294967295) (hn : n ≤ 1048576) (n0 : 0 ≤ need) (n1 : need ≤ 255) :
    Calls Try.prog 47 #[.pointer (some ⟨rb, 0, none⟩), .int .u32 addr, .int .i64 n, .int .u8 need] w fun e w' => e = .returned (.tuple #[.string (if Sp.fitsB (rpgs R) addr n need then strOfNums (Sp.getL (rpgs R) addr n) else ByteArray.empty), .int .i64 (Sp.fitsE (rpgs R) addr n need)]) ∧ Below w.heap.size w w' := by
  obtain ⟨i0, hi0, hz0, hz1, hz2⟩ := info_parts Sp.infoU8
  have Hi := Lib.hid hi0
  have Hz0 := Lib.hid hz0
  have Hz1 := Lib.hid hz1
  have Hz2 := Lib.hid hz2
  have H := Lib.hid h
  have Hn := Lib.hid hn
  have hN : Sp.fitsB (rpgs R) addr n need = false → (if Sp.fitsB (rpgs R) addr n need then strOfNums (Sp.getL (rpgs R) addr n) else ByteArray.empty) = ByteArray.empty ∧ Sp.fitsE (rpgs R) addr n need = 50 := fun g => ⟨by rw [g]; rfl, Sp.fitsE_no g⟩
  have hY : Sp.fitsB (rpgs R) addr n need = true → (if Sp.fitsB (rpgs R) addr n need then strOfNums (Sp.getL (rpgs R) addr n) else ByteArray.empty) = strOfNums (Sp.getL (rpgs R) addr n) ∧ Sp.fitsE (rpgs R) addr n need = 0 := fun g => ⟨by rw [if_pos g], Sp.fitsE_yes g⟩
  have HN := Lib.hid hN
  have HY := Lib.hid hY
  clear h hi0 hz0 hz1 hz2 hN hY
  generalize (if Sp.fitsB (rpgs R) addr n need then strOfNums (Sp.getL (rpgs R) addr n) else ByteArray.empty) = gS at *
  generalize Sp.fitsE (rpgs R) addr n need = gE at *
  go_enter Try.func47, Try.ntmps47
  go_wp2
  go_loopw [10, 11, 12] (fun vb vi _ wr => gtRel w (rpgs R) addr n need vb vi wr) (fun _ vi _ _ => n - (intOf vi).toNat)
  case atStart => exact ⟨0, by omega, rfl, rfl, Buf.nil _ _ _, Below.refl _ _⟩
  case round =>
    obtain ⟨k, hk, rfl, hfit, hown, hbel⟩ := hrel
    have hbase := hbel.size
    have HS := Lib.hid (H.out.below hbel fun k hk => H.out.lt hk)
    have Hf := Lib.hid hfit
    have Ho := Lib.hid hown
    have HB := Lib.hid hbel
    have Hl := Lib.hid (Sp.getL_length (rpgs R) addr k)
    clear hfit hown hbel
    by_cases hk2 : k < n
    · cases hp : pageAt (rpgs R) (addr + k) with
      | none =>
        have hfb := Sp.fitsB_false (A := rpgs R) (need := need) hk2 (by unfold Sp.okAt; rw [hp])
        have Hno := Lib.hid (HN.out hfb)
        have Hof := Lib.hid (of_none HS.out (addr + k) (by omega) (by omega) hp)
        clear hp hfb
        go_wp2_with (go_at_call 49; (with_reducible refine Hof.out.mono ?_); rintro e w1 ⟨rfl, rfl⟩)
        all_goals
          go_ret2
          exact ⟨by rw [Hno.out.1, Hno.out.2]; rfl, HB.out⟩
      | some p =>
        obtain ⟨q, hq, rfl, hpa⟩ := page_of HS.out hp
        have hpg := HS.out.pages q hq
        have hok := hpg.ok
        have b0 := hok.a0
        have b1 := hok.a1
        obtain ⟨c0, c1, c2⟩ := hpg.cells
        have Hof := Lib.hid (of_some HS.out (addr + k) (by omega) (by omega) hp)
        obtain ⟨j, hj⟩ : ∃ j : Nat, addr + (k : Int) - q.pg.addr = j := ⟨(addr + (k : Int) - q.pg.addr).toNat, by omega⟩
        have hcb := hpg.byte j (by omega)
        have hby : Sp.byteAt (rpgs R) (addr + k) = q.pg.bytes.getD j 0 := by unfold Sp.byteAt; rw [hp, show (addr + (k : Int)) % 256 = j by omega]; rfl
        have Hby := Lib.hid hby
        by_cases hb : (bits .and .u8 q.pg.perm need == need) = true
        · have Hs := Lib.hid (show Sp.fitsB (rpgs R) addr (k + 1) need = true by rw [Sp.fitsB_succ, Hf.out]; unfold Sp.okAt; rw [hp]; simpa using hb)
          have hb2 : (bits .and .u8 q.pg.perm need != need) = false := by rw [bne, hb]; rfl
          have c16 := hpg.cap2
          have c15 := hpg.cap1
          unfold maxLen at c16
          clear hp hb hby hpg hok
          generalize q.pg.bytes.getD j 0 = x at *
          generalize q.pg.perm = qp at *
          generalize q.pg.addr = qa at *
          generalize hqb : q.pg.blk = qb at *
          clear hqb
          go_wp2_with (go_at_call 49; (with_reducible refine Hof.out.mono ?_); rintro e w1 ⟨rfl, rfl⟩)
          clear Hn
          have x1 : IntKind.u64.wrap addr = addr := Sp.wrap64 (by omega) (by omega)
          have x2 : IntKind.u64.wrap (k : Int) = k := Sp.wrap64 (by omega) (by omega)
          have x3 : IntKind.u64.wrap (addr + (k : Int)) = addr + k := Sp.wrap64 (by omega) (by omega)
          have x4 : IntKind.u64.wrap qa = qa := Sp.wrap64 (by omega) (by omega)
          have x5 : IntKind.u64.wrap (addr + (k : Int) - qa) = j := by rw [hj]; exact Sp.wrap64 (by omega) (by omega)
          have x6 : (j : Int) < 256 := by omega
          have Hpa := Lib.hid hpa
          have Hj := Lib.hid hj
          clear hpa hj
          go_region_law (refine step_append_lies _ (by rfl) _ _ _ (by rfl) (w.heap.size) 5 i0 (.int .u8 0) 1 1 Try.underlying32 Hi.out Hz0.out Hz1.out Hz2.out rfl (by omega) u10 _ _ (by rfl) (World.ownsRow.drew (World.ownsRow.alloc Ho.out _)) ⟨wr.heap.size, 0, none⟩ 1 1 [.int .u8 x] (by rfl) (by rfl) (World.news_of_block (cs := #[.int .u8 x]) (t := 5) (fr := (0, 0)) (heap_alloc_new _ _)) (fun x hx => by simp at hx; rcases hx with rfl; rfl) (by omega) (by rw [Hl.out]; unfold maxLen; omega) (by rw [Hl.out]; omega) (by simp; omega) (wr.heap.size + 1) (by simp) ?_; intro gg cap' w' hown' hgro hat hlt)
          go_wp2
          all_goals
            refine ⟨⟨k + 1, by omega, by go_num, Hs.out, ?_, ?_⟩, by simp [intOf]; omega⟩
            · rw [Sp.getL_succ, Hby.out]; exact Buf.app hown'
            · exact ((HB.out.alloc hbase _).drew).grown hgro (by simp; omega) (fun k hk => Buf.lt Ho.out k hk)
        · have hb' : (bits .and .u8 q.pg.perm need == need) = false := by simpa using hb
          have hfb := Sp.fitsB_false (A := rpgs R) (need := need) hk2 (by unfold Sp.okAt; rw [hp]; exact hb')
          have Hno := Lib.hid (HN.out hfb)
          have hb2 : (bits .and .u8 q.pg.perm need != need) = true := by rw [bne, hb']; rfl
          clear hp hb hb' hby hpg hok hfb
          generalize q.pg.perm = qp at *
          generalize q.pg.blk = qb at *
          go_wp2_with (go_at_call 49; (with_reducible refine Hof.out.mono ?_); rintro e w1 ⟨rfl, rfl⟩)
          all_goals
            go_ret2
            exact ⟨by rw [Hno.out.1, Hno.out.2]; rfl, HB.out⟩
    · obtain rfl : k = n := by omega
      have hcs := Buf.string (P := Try.prog) Ho.out 32 9 Try.underlying32 Try.underlying5 Try.underlying9
      have He := Lib.hid (HY.out Hf.out)
      go_wp2
      go_ret2
      exact ⟨by rw [He.out.1, He.out.2]; rfl, HB.out⟩
theorem get_any {w : World} {rb : Nat} {lv : Value} {R : List Rp} (h : Rsp w rb lv R) (addr n need : Int) (h0 : 0 ≤ addr) (h1 : addr ≤ 4294967295) (n0 : 0 ≤ need) (n1 : need ≤ 255) :
    Calls Try.prog 47 #[.pointer (some ⟨rb, 0, none⟩), .int .u32 addr, .int .i64 n, .int .u8 need] w fun e w' => e = .returned (.tuple #[.string (Sp.getS (rpgs R) addr n need), .int .i64 (Sp.getE (rpgs R) addr n need)]) ∧ Below w.heap.size w w' := by
  by_cases hn : n < 0 ∨ 1048576 < n
  · exact (get_arg addr n need hn).mono fun e w' ⟨g1, g2⟩ => ⟨by rw [g1]; unfold Sp.getS Sp.getE; rw [if_pos hn, if_pos hn], g2 ▸ Below.refl _ _⟩
  · obtain ⟨m, rfl⟩ := Int.eq_ofNat_of_zero_le (show 0 ≤ n by omega)
    exact (get_in h addr need m h0 h1 (by omega) n0 n1).mono fun e w' ⟨g1, g2⟩ => ⟨by rw [g1]; unfold Sp.getS Sp.getE; rw [if_neg hn, if_neg hn, Int.toNat_natCast], g2⟩
end Go.Proofs.Ytldmglodjafklaa.Rs
