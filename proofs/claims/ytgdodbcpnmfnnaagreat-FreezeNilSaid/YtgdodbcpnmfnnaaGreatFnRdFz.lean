/- RdFz, FzL, FzNil in one text. -/
import Derived.Test.YtgdodbcpnmfnnaaGreatFnKnewG
import Derived.Test.YtgdodbcpnmfnnaaGreatFnRd22
import Derived.LoopTactic
import Derived.Test.YtgdodbcpnmfnnaaGreatFnFzT
namespace Go.Proofs.YtgdodbcpnmfnnaaGreat.Rd
open Go.ChangeShapes Go.WideShapes Go.Deep
section
variable {H : Type} {enc : TypeId × Value → H} {P : Program} {w : World} {base : Nat} {spare : Nat → Bool} {held : Bool}
variable {t : TypeId} {fuel : Nat} {v : Value} {y : DataW H × List MemPlace}
theorem rd_nums {e : TypeId} {k : IntKind} {N : Nat} (ht : P.underlying t = some (.array N e)) (he : P.underlying e = some (.int k)) (hC : P.cellsOf e = 1) (hCN : P.cellsOf t = N) {cs : List Value} (h : DataW.trod enc P w base spare held fuel t cs = some y) :
    ∃ c : Nat → Int, cs = (List.range N).map (fun i => .int k (c i)) ∧ ∀ i, i < N → (Lit.int k (c i)).wf = true := by
  obtain ⟨xs, m, _, _, hlen, hxl, hf⟩ := DataW.trod_array ht h
  rw [hCN] at hlen
  have hone : ∀ i, ∃ x, i < N → cs[i]? = some (.int k x) ∧ (Lit.int k x).wf = true := fun i => by
    by_cases hi : i < N
    · have h1 := hf i hi
      rw [hC, Nat.mul_one] at h1
      have h2 : (cs.drop i).take 1 = [cs[i]'(by omega)] := by
        rw [List.drop_eq_getElem_cons (by omega)]
        rfl
      rw [h2, List.getElem?_eq_getElem (by omega)] at h1
      obtain ⟨x, hx, hw⟩ := rd_int he h1
      exact ⟨x, fun _ => ⟨by rw [List.getElem?_eq_getElem (by omega), hx], hw⟩⟩
    · exact ⟨0, fun g => absurd g hi⟩
  obtain ⟨c, hc⟩ := Classical.axiomOfChoice hone
  refine ⟨c, List.ext_getElem? fun i => ?_, fun i hi => (hc i hi).2⟩
  by_cases hi : i < N
  · rw [(hc i hi).1, List.getElem?_map, List.getElem?_range hi]; rfl
  · rw [List.getElem?_eq_none (by omega), List.getElem?_eq_none (by rw [List.length_map, List.length_range]; omega)]
end
end Go.Proofs.YtgdodbcpnmfnnaaGreat.Rd
namespace Go.Proofs.YtgdodbcpnmfnnaaGreat.Fz
open Go.RowKit In
set_option linter.unusedSimpArgs false
set_option linter.unusedVariables false
def pgQ (g : Nat → Option Value) (p : Fp) : Prop := (∀ j, j < 4 → g j = p.cells[j]?) ∧ (0 ≤ p.addr ∧ p.addr ≤ 4294967295) ∧ (0 ≤ p.perm ∧ p.perm ≤ 255) ∧ p.text.size < 140737488355328
theorem page_read {H : Type} {enc : TypeId × Value → H} {w : World} {base : Nat} {spare : Nat → Bool} {held : Bool} (cs : List Value) (n : Nat) (z : DataW H × List MemPlace) (g : Nat → Option Value)
    (h : DataW.trod enc Tryz.prog w base spare held n 159 cs = some z) (hw : Rd.Wt Tryz.prog 159 z.1) (hl : cs.length = 4) (hg : ∀ j, j < 4 → g j = cs[j]?) : ∃ x : Fp, pgQ g x := by
  obtain ⟨_, hs⟩ := Rd.rd_struct Tryz.underlying159 (by kernel_rfl) (by kernel_rfl) h hw
  obtain ⟨v0, z0, n0, e0, t0, q0⟩ := hs 0 _ rfl
  obtain ⟨x0, rfl, w0⟩ := Rd.rd_int Tryz.underlying41 t0
  obtain ⟨v1, z1, n1, e1, t1, q1⟩ := hs 1 _ rfl
  obtain ⟨x1, rfl, w1⟩ := Rd.rd_int Tryz.underlying5 t1
  obtain ⟨v2, z2, n2, e2, t2, q2⟩ := hs 2 _ rfl
  obtain ⟨x2, rfl⟩ := Rd.rd_bool Tryz.underlying4 t2
  obtain ⟨v3, z3, n3, e3, t3, q3⟩ := hs 3 _ rfl
  obtain ⟨x3, rfl, w3⟩ := Rd.rd_str Tryz.underlying9 t3 q3
  refine ⟨⟨x0, x1, x2, x3⟩, fun j hj => (hg j hj).trans ?_, bounds_u32 w0, (by have := Cp.bounds_u8' w1; omega), w3⟩
  match j, hj with
  | 0, _ => exact e0
  | 1, _ => exact e1
  | 2, _ => exact e2
  | 3, _ => exact e3
structure FrI where
  x : Fr
  ea : Option Addr
  ecap : Nat
  pa : Option Addr
  pcap : Nat
  sa : Option Addr
  scap : Nat
def FrI.mi (d : FrI) : MnI := ⟨d.x.m, d.ea, d.ecap, d.pa, d.pcap⟩
def FrI.sv (d : FrI) : Value := .slice d.sa d.x.sp.length d.scap
def FrI.cells (d : FrI) : Array Value := d.x.arr d.mi.ev d.mi.pv d.sv
structure Pgs (w : World) (a : Option Addr) (l : List Fp) : Prop where
  cell : ∀ i (h : i < l.length), ∃ g o, a = some ⟨g, o, none⟩ ∧ ∀ j, j < 4 → w.cell? ⟨g, o + i * 4 + j, none⟩ = l[i].cells[j]?
  bd : ∀ p, p ∈ l → (0 ≤ p.addr ∧ p.addr ≤ 4294967295) ∧ (0 ≤ p.perm ∧ p.perm ≤ 255) ∧ p.text.size < 140737488355328
  len : l.length ≤ 9223372036854775807
theorem Pgs.below {w w' : World} {a : Option Addr} {l : List Fp} (h : Pgs w a l) (hb : Below w.heap.size w w') : Pgs w' a l :=
  ⟨fun i hi => by
    obtain ⟨g, o, e, hc⟩ := h.cell i hi
    have hl : g < w.heap.size := by
      have := hc 0 (by omega)
      unfold World.cell? at this
      cases hg : w.heap[g]? with
      | none => rw [hg] at this; cases this
      | some _ => exact lt_of_block hg
    exact ⟨g, o, e, fun j hj => (World.cell?_of_block (w := w) (hb.block g hl)).trans (hc j hj)⟩, h.bd, h.len⟩
structure FrI.pre (w : World) (d : FrI) : Prop where
  m : d.mi.pre w
  ok : d.x.ok
  s : Pgs w d.sa d.x.sp
  t : d.x.text.size < 140737488355328
theorem sl_pgs {w : World} {a : Option Addr} {cap : Nat} {xs : List Fp} (h : Rd.Sl w 4 pgQ a cap xs) : Pgs w a xs := by
  refine ⟨fun i hi => ?_, fun p hp => ?_, by have h1 := h.1; have h2 := h.2.1; unfold maxLen at h2; omega⟩
  · rcases h.2.2.1 with rfl | ⟨b, off, rfl, hq⟩
    · exact absurd hi (by simp)
    · exact ⟨b, off, rfl, (hq i _ (List.getElem?_eq_getElem hi)).1⟩
  · obtain ⟨i, hi⟩ := List.getElem?_of_mem hp
    rcases h.2.2.1 with rfl | ⟨b, off, _, hq⟩
    · cases hp
    · exact (hq i p hi).2
theorem range16 {α : Type} (f : Nat → α) : (List.range 16).map f = [f 0, f 1, f 2, f 3, f 4, f 5, f 6, f 7, f 8, f 9, f 10, f 11, f 12, f 13, f 14, f 15] := rfl
theorem fz_read {H : Type} {enc : TypeId × Value → H} {w : World} {base : Nat} {spare : Nat → Bool} {held : Bool} (cs : List Value) (n : Nat) (z : DataW H × List MemPlace)
    (h : DataW.trod enc Tryz.prog w base spare held n 49 cs = some z) (hw : Rd.Wt Tryz.prog 49 z.1) (hl : cs.length = 23) : ∃ d : FrI, cs = d.cells.toList ∧ d.pre w := by
  match cs, hl with
  | [c0, c1, c2, c3, r0, r1, r2, r3, r4, r5, r6, r7, r8, r9, r10, r11, r12, r13, r14, r15, c4, c5, c6], _ =>
    have hs := Rd.rd_part Tryz.underlying49 h hw
    obtain ⟨z0, n0, t0, q0⟩ := hs 0 _ rfl
    obtain ⟨z1, n1, t1, q1⟩ := hs 1 _ rfl
    obtain ⟨z2, n2, t2, q2⟩ := hs 2 _ rfl
    obtain ⟨z3, n3, t3, q3⟩ := hs 3 _ rfl
    obtain ⟨z4, n4, t4, q4⟩ := hs 4 _ rfl
    have t0 : DataW.trod enc Tryz.prog w base spare held n0 45 (([c0, c1, c2, c3, r0, r1, r2, r3, r4, r5, r6, r7, r8, r9, r10, r11, r12, r13, r14, r15, c4, c5, c6].drop 0).take (Tryz.prog.cellsOf 45)) = some z0 := t0
    rw [show Tryz.prog.cellsOf 45 = 4 from by kernel_rfl] at t0
    have q0 : Rd.Wt Tryz.prog 45 z0.1 := q0
    have t1 : DataW.trod enc Tryz.prog w base spare held n1 46 (([c0, c1, c2, c3, r0, r1, r2, r3, r4, r5, r6, r7, r8, r9, r10, r11, r12, r13, r14, r15, c4, c5, c6].drop 4).take (Tryz.prog.cellsOf 46)) = some z1 := t1
    rw [show Tryz.prog.cellsOf 46 = 16 from by kernel_rfl] at t1
    have t2 : DataW.trod enc Tryz.prog w base spare held n2 41 (([c0, c1, c2, c3, r0, r1, r2, r3, r4, r5, r6, r7, r8, r9, r10, r11, r12, r13, r14, r15, c4, c5, c6].drop 20).take (Tryz.prog.cellsOf 41)) = some z2 := t2
    rw [show Tryz.prog.cellsOf 41 = 1 from by kernel_rfl] at t2
    have t3 : DataW.trod enc Tryz.prog w base spare held n3 47 (([c0, c1, c2, c3, r0, r1, r2, r3, r4, r5, r6, r7, r8, r9, r10, r11, r12, r13, r14, r15, c4, c5, c6].drop 21).take (Tryz.prog.cellsOf 47)) = some z3 := t3
    rw [show Tryz.prog.cellsOf 47 = 1 from by kernel_rfl] at t3
    have q3 : Rd.Wt Tryz.prog 47 z3.1 := q3
    have t4 : DataW.trod enc Tryz.prog w base spare held n4 9 (([c0, c1, c2, c3, r0, r1, r2, r3, r4, r5, r6, r7, r8, r9, r10, r11, r12, r13, r14, r15, c4, c5, c6].drop 22).take (Tryz.prog.cellsOf 9)) = some z4 := t4
    rw [show Tryz.prog.cellsOf 9 = 1 from by kernel_rfl] at t4
    have q4 : Rd.Wt Tryz.prog 9 z4.1 := q4
    obtain ⟨m, hm, pm⟩ := man_read [c0, c1, c2, c3] n0 z0 t0 q0 rfl
    obtain ⟨c, hc, wc⟩ := Rd.rd_nums (cs := [r0, r1, r2, r3, r4, r5, r6, r7, r8, r9, r10, r11, r12, r13, r14, r15]) Tryz.underlying46 Tryz.underlying41 (by kernel_rfl) (by kernel_rfl) t1
    obtain ⟨pc, rfl, wp⟩ := Rd.rd_int Tryz.underlying41 (v := c4) t2
    obtain ⟨sa, scap, sp, rfl, ss, sl⟩ := Rd.rd_slice (v := c5) Tryz.underlying47 4 (by kernel_rfl) (by omega) pgQ (fun cs n z g => page_read cs n z g) t3 q3
    obtain ⟨tx, rfl, wt⟩ := Rd.rd_str Tryz.underlying9 (v := c6) t4 q4
    rw [range16] at hc
    simp only [List.cons.injEq, and_true] at hc
    obtain ⟨rfl, rfl, rfl, rfl, rfl, rfl, rfl, rfl, rfl, rfl, rfl, rfl, rfl, rfl, rfl, rfl⟩ := hc
    have hm : [c0, c1, c2, c3] = [.int .u32 m.m.pages, m.ev, m.pv, .bool m.m.con] := hm
    simp only [List.cons.injEq, and_true] at hm
    obtain ⟨rfl, rfl, rfl, rfl⟩ := hm
    have hs := sl_pgs ss
    refine ⟨⟨⟨m.m, fun i => if i < 16 then c i else 0, pc, sp, tx⟩, m.ea, m.ecap, m.pa, m.pcap, sa, scap⟩, rfl, ⟨pm, ⟨pm.ok, fun i => ?_, bounds_u32 wp, fun p hp => ⟨(hs.bd p hp).1, (hs.bd p hp).2.1.1, (hs.bd p hp).2.1.2⟩⟩, hs, wt⟩⟩
    show 0 ≤ (if i < 16 then c i else 0) ∧ (if i < 16 then c i else 0) ≤ 4294967295
    split
    · rename_i q
      exact bounds_u32 (wc i q)
    · omega
end Go.Proofs.YtgdodbcpnmfnnaaGreat.Fz
namespace Go.Proofs.YtgdodbcpnmfnnaaGreat.Fz
open Go.RowKit In
set_option linter.unusedVariables false
set_option linter.unusedSimpArgs false
def lgRel (w1 : World) (l : List Fp) (vn vi : Value) (wr : World) : Prop := ∃ (i : Nat) (n : Int), i ≤ l.length ∧ i ≤ 40 ∧ vi = .int .i64 i ∧ vn = .int .i64 n ∧ wr = w1
set_option maxRecDepth 100000 in
set_option maxHeartbeats 4000000 in
theorem large (w : World) (d : FrI) (hd : d.pre w) : Calls Tryz.prog 19 #[.agg d.cells] w fun e w' => ∃ b, e = .returned (.bool b) ∧ (b = false → d.x.sp.length ≤ 30) ∧ Below w.heap.size w w' := by
  have hb : Below w.heap.size w (w.alloc (.cells d.cells 49)) := (Below.refl _ _).alloc (Nat.le_refl _) _
  have hx : FBox (w.alloc (.cells d.cells 49)) w.heap.size d.x d.mi.ev d.mi.pv d.sv := heap_alloc_new w _
  obtain ⟨w1, hw1⟩ : ∃ y, w.alloc (.cells d.cells 49) = y := ⟨_, rfl⟩
  obtain ⟨xb, hxb⟩ : ∃ y, w.heap.size = y := ⟨_, rfl⟩
  have HS := Lib.hid (hd.s.below hb)
  have HPost : Hid (∀ b, (b = false → d.x.sp.length ≤ 30) → ∃ b', Ending.returned (.bool b) = .returned (.bool b') ∧ (b' = false → d.x.sp.length ≤ 30) ∧ Below w.heap.size w w1) := Lib.hid fun b h => ⟨b, rfl, h, by rw [← hw1]; exact hb⟩
  rw [hw1] at hx HS
  rw [hxb] at hx
  have e0 : IntKind.i64.wrap (d.x.text.size + d.x.m.ext.length) = d.x.text.size + d.x.m.ext.length ∨ True := .inr trivial
  clear e0
  have c1 : w1.cell? ⟨xb, 1, none⟩ = some (.slice d.ea d.x.m.ext.length d.ecap) := hx.cell 1 _ rfl
  have c2 : w1.cell? ⟨xb, 2, none⟩ = some (.slice d.pa d.x.m.ports.length d.pcap) := hx.cell 2 _ rfl
  have c21 : w1.cell? ⟨xb, 21, none⟩ = some (.slice d.sa d.x.sp.length d.scap) := hx.cell 21 _ rfl
  have c22 : w1.cell? ⟨xb, 22, none⟩ = some (.string d.x.text) := hx.cell 22 _ rfl
  clear hb hx hd
  generalize hPQ : (fun (e : Ending) (w' : World) => ∃ b, e = .returned (.bool b) ∧ (b = false → d.x.sp.length ≤ 30) ∧ Below w.heap.size w w') = PQ
  have HEnd : Hid (∀ b, (b = false → d.x.sp.length ≤ 30) → PQ (.returned (.bool b)) w1) := Lib.hid fun b h => by rw [← hPQ]; exact HPost.out b h
  clear hPQ HPost
  unfold FrI.cells Fr.arr FrI.mi MnI.ev MnI.pv FrI.sv at hw1 ⊢
  simp only at hw1 ⊢
  go_enter Tryz.func19, Tryz.ntmps19
  go_wp2
  try rw [hw1]
  try rw [hxb]
  clear hw1 hxb
  go_loopw [3, 4] (fun vn vi wr => lgRel w1 d.x.sp vn vi wr) (fun _ vi _ => d.x.sp.length - (intOf vi).toNat)
  case atStart => exact ⟨0, _, Nat.zero_le _, by omega, rfl, rfl, rfl⟩
  case round =>
    obtain ⟨i, n, hi, h40, rfl, rfl, rfl⟩ := hrel
    by_cases hin : i < d.x.sp.length ∧ i < 40
    · have ii : (i : Int) < d.x.sp.length := by omega
      have i4 : (i : Int) < 40 := by omega
      obtain ⟨g, o, ea, hc⟩ := HS.out.cell i hin.1
      have p3 := hc 3 (by omega)
      have p3' : wr.cell? ⟨g, o + i * 4 + 3, none⟩ = some (.string (d.x.sp[i]'hin.1).text) := p3
      clear p3 hc
      generalize d.x.sp[i]'hin.1 = p at *
      clear hin
      obtain ⟨pa, pp, po, pt⟩ := p
      simp only at p3'
      rw [ea] at c21
      go_wp2
      exact ⟨⟨i + 1, _, by omega, by omega, by go_num, rfl, rfl⟩, by simp [intOf]; omega⟩
    · have hgt : (decide ((d.x.sp.length : Int) > 30) = false) ∨ (decide ((d.x.sp.length : Int) > 30) = true) := by cases decide ((d.x.sp.length : Int) > 30) <;> simp
      have HS2 := HS
      by_cases h30 : d.x.sp.length ≤ 30
      · have ii : ¬ (i : Int) < d.x.sp.length := by omega
        have g1 : ¬ (30 : Int) < d.x.sp.length := by omega
        have HE := Lib.hid fun b => HEnd.out b (fun _ => h30)
        clear hin hgt h30 HEnd HS HS2
        go_wp2
        first | exact HE.out _ | (go_ret; exact HE.out _)
      · have g1 : (30 : Int) < d.x.sp.length := by omega
        have HE := Lib.hid (HEnd.out true (fun h => nomatch h))
        by_cases hil : i < d.x.sp.length
        · have ii : (i : Int) < d.x.sp.length := by omega
          have i4 : ¬ (i : Int) < 40 := by omega
          clear hin hgt h30 HEnd HS HS2
          go_wp2
          first | exact HE.out | (go_ret; exact HE.out)
        · have ii : ¬ (i : Int) < d.x.sp.length := by omega
          clear hin hgt h30 HEnd HS HS2
          go_wp2
          first | exact HE.out | (go_ret; exact HE.out)
end Go.Proofs.YtgdodbcpnmfnnaaGreat.Fz
namespace Go.Proofs.YtgdodbcpnmfnnaaGreat.Fz
open Go.RowKit Word L22 In
set_option linter.unusedVariables false
set_option linter.unusedSimpArgs false
def stz : Cp.St := ⟨none, 0, 0, fun _ => 0, 0, none, 0, 0, fun _ => 0, 0, none, 0, 0, cd42, 0, ByteArray.empty⟩
def wz : WdI := ⟨⟨40, none, 0, []⟩, ⟨⟨0, [], [], false⟩, none, 0, none, 0⟩, stz, none, 0, []⟩
theorem stz_pre (w : World) : stz.pre w :=
  ⟨fun h => absurd h (Nat.not_lt_zero _), fun i hi => absurd hi (Nat.not_lt_zero _), by decide, by decide, by decide, fun h => absurd h (Nat.not_lt_zero _), fun i hi => absurd hi (Nat.not_lt_zero _), by decide, by decide, fun h => absurd h (Nat.not_lt_zero _), fun i hi => absurd hi (Nat.not_lt_zero _), by decide, by decide⟩
theorem stz_ok (w : World) : stz.ok w := by
  have h := stz_pre w
  exact ⟨h.rrow, h.rbd, h.rlen, h.p0, h.p1, h.prow, h.pbd, by decide, h.a0, h.a1, h.crow, h.cbd, by decide, h.w0, h.w1, (by decide : ByteArray.empty.size ≤ 65536)⟩
theorem wz_pre (w : World) : wz.pre w :=
  ⟨⟨by decide, by decide, ⟨fun i hi => absurd hi (Nat.not_lt_zero _), by simp [wz]⟩, fun x hx => nomatch hx⟩, ⟨⟨⟨rfl, ⟨none, 0, rfl, fun j u hu => by simp [wz, extC] at hu⟩, Nat.zero_le _⟩, ⟨rfl, ⟨none, 0, rfl, fun j u hu => by simp [wz] at hu⟩, Nat.zero_le _⟩⟩, ⟨by decide, by decide, fun x hx => (nomatch hx), fun x hx => (nomatch hx)⟩⟩, stz_pre w, ⟨fun i hi => absurd hi (Nat.not_lt_zero _), fun s hs => (nomatch hs), by simp [wz]⟩⟩
set_option maxRecDepth 100000 in
set_option maxHeartbeats 8000000 in
theorem freezeNil (w : World) (d : FrI) (hd : d.pre w) (num : Int) (n0 : -9223372036854775808 ≤ num) (n1 : num ≤ 9223372036854775807) : Calls Tryz.prog 4 #[.agg d.cells, .int .i64 num] w fun r w' => r = .returned (.bool true) ∧ Below w.heap.size w w' := by
  have hb : Below w.heap.size w (w.alloc (.cells d.cells 49)) := (Below.refl _ _).alloc (Nat.le_refl _) _
  have hx : FBox (w.alloc (.cells d.cells 49)) w.heap.size d.x d.mi.ev d.mi.pv d.sv := heap_alloc_new w _
  obtain ⟨w1, hw1⟩ : ∃ y, w.alloc (.cells d.cells 49) = y := ⟨_, rfl⟩
  obtain ⟨xb, hxb⟩ : ∃ y, w.heap.size = y := ⟨_, rfl⟩
  generalize hPQ : (fun (r : Ending) (w' : World) => r = .returned (.bool true) ∧ Below w.heap.size w w') = PQ
  have HPQ : Hid (∀ V, Below w1.heap.size w1 V → PQ (.returned (.bool true)) V) := Lib.hid fun V h => by rw [← hPQ]; exact ⟨rfl, below_th (by rw [← hw1]; exact hb) h⟩
  clear hPQ
  rw [hw1] at hb hx
  rw [hxb] at hx
  have HX := Lib.hid hx
  have HLg := Lib.hid (large w1 d (by
    refine ⟨⟨?_, hd.m.ok⟩, hd.ok, hd.s.below hb, hd.t⟩
    exact hd.m.i.below hb))
  have HSi : Hid ((Tryz.prog.info? 49).map (·.size) = some d.cells.toList.length) := Lib.hid (fz_sizeL d.x d.mi.ev d.mi.pv d.sv)
  have HRa : Hid (w1.rangeAt xb 0 d.cells.toList) := Lib.hid hx.range
  clear hb hx hd n0 n1
  obtain ⟨C, hC⟩ : ∃ C, d.cells = C := ⟨_, rfl⟩
  have HC := Lib.hid hC
  rw [hC] at hw1 HLg HSi HRa ⊢
  unfold FrI.cells Fr.arr FrI.mi MnI.ev MnI.pv FrI.sv at hC
  simp only at hC
  subst hC
  go_enter Tryz.func4, Tryz.ntmps4
  go_wp2_with (refine wpList_load_mid rfl 49 _ rfl xb 0 rfl _ _ HRa.out Tryz.underlying49 rfl HSi.out ?_; rw [Array.toArray_toList])
  refine HLg.out.mono ?_
  rintro r w2 ⟨bl, rfl, _, hb2⟩
  have HB2 := Lib.hid hb2
  clear hb2 HLg HRa hw1 hxb
  cases bl with
  | true =>
    go_wp2_with fail
    refine (alive42 w2).mono ?_
    rintro r w3 ⟨rfl, hb3⟩
    have HEnd := Lib.hid (HPQ.out w3 (below_th HB2.out hb3))
    clear hb3 HPQ
    go_wp2
    first | exact HEnd.out | (go_ret; exact HEnd.out)
  | false =>
    have HMd := Lib.hid (made w2 wz (wz_pre w2) (fun V _ => stz_ok V) (show (0 : Nat) ≤ 40 by decide) (show (0 : Nat) ≤ 40 by decide))
    go_wp2_with fail
    refine HMd.out.mono ?_
    rintro r w3 (⟨g1, _⟩ | ⟨_, a, e, E, b, f, rfl, hke, _⟩)
    · have := n42
      simp only [Prod.mk.injEq] at this
      rw [show wz.h.p = 40 from rfl, show wz.h.l = [] from rfl, this.1] at g1
      cases g1
    have HB3 := Lib.hid (below_th HB2.out hke.bel)
    have HT1 := Lib.hid fun V => take_nil none (some ⟨e.eb, 0, none⟩) (.inl rfl) V
    have HT2 := Lib.hid fun V => take_nil (some ⟨a.kb, 0, none⟩) none (.inr rfl) V
    clear hke HMd HB2
    go_wp2_with fail
    refine (HT1.out _).mono ?_
    rintro r w4 ⟨rfl, hb4⟩
    have HB4 := Lib.hid (below_th HB3.out hb4)
    have hz : FBox (w4.alloc (.cells (zeroFr.arr nl nl nl) 49)) w4.heap.size zeroFr nl nl nl := heap_alloc_new w4 _
    have HTh := Lib.hid hz.there
    have HSt := Lib.hid (hz.sets zeroFr nl nl nl)
    clear hb4 hz HT1 HB3
    dsimp only
    iterate 13 go_step
    refine wpList_store_mid rfl 49 (.tmp 9) (.tmp 31) rfl w4.heap.size 0 (zeroFr.arr nl nl nl) rfl rfl HTh.out (fz_size _ _ _ _) (by kernel_rfl) ?_
    refine (fun (F : ∀ V, Mod (fun k => k = w4.heap.size) (w4.alloc (.cells (zeroFr.arr nl nl nl) 49)) V → wpList Tryz.prog _ _ _ _ V) => F _ HSt.out.2) ?_
    intro w5 hm5
    have hb5 : Below w4.heap.size w4 w5 := Mod.below ((Below.refl w4.heap.size w4).alloc (Nat.le_refl _) _) hm5 (by simp) fun i _ e => by omega
    have HB5 := Lib.hid (below_th HB4.out hb5)
    clear hm5 hb5 HSt HTh HB4
    go_wp2_with fail
    refine (HT2.out _).mono ?_
    rintro r w6 ⟨rfl, hb6⟩
    have HB6 := Lib.hid (below_th HB5.out hb6)
    have hz : FBox (w6.alloc (.cells (zeroFr.arr nl nl nl) 49)) w6.heap.size zeroFr nl nl nl := heap_alloc_new w6 _
    have HTh := Lib.hid hz.there
    have HSt := Lib.hid (hz.sets zeroFr nl nl nl)
    clear hb6 hz HT2 HB5
    dsimp only
    iterate 13 go_step
    refine wpList_store_mid rfl 49 (.tmp 11) (.tmp 36) rfl w6.heap.size 0 (zeroFr.arr nl nl nl) rfl rfl HTh.out (fz_size _ _ _ _) (by kernel_rfl) ?_
    refine (fun (F : ∀ V, Mod (fun k => k = w6.heap.size) (w6.alloc (.cells (zeroFr.arr nl nl nl) 49)) V → wpList Tryz.prog _ _ _ _ V) => F _ HSt.out.2) ?_
    intro w7 hm7
    have hb7 : Below w6.heap.size w6 w7 := Mod.below ((Below.refl w6.heap.size w6).alloc (Nat.le_refl _) _) hm7 (by simp) fun i _ e => by omega
    have HB7 := Lib.hid (below_th HB6.out hb7)
    have HRa : Hid (w7.rangeAt xb 0 _) := Lib.hid (HX.out.keep (Mod.of_below HB7.out fun _ => False) id).range
    have HTw := Lib.hid (thaw_nil num d.x d.mi.ev d.mi.pv d.sv w7)
    clear hm7 hb7 HSt HTh HB6 HX
    unfold Fr.arr FrI.mi MnI.ev MnI.pv FrI.sv at HRa HTw
    simp only at HRa HTw
    go_wp2_with (refine wpList_load_mid rfl 49 _ rfl xb 0 rfl _ _ HRa.out Tryz.underlying49 rfl HSi.out ?_)
    refine HTw.out.mono ?_
    rintro r w8 ⟨rfl, hb8⟩
    have HB8 := Lib.hid (below_th HB7.out hb8)
    clear hb8 HTw HRa HB7
    go_wp2_with fail
    refine (alive42 w8).mono ?_
    rintro r w9 ⟨rfl, hb9⟩
    have HEnd := Lib.hid (HPQ.out w9 (below_th HB8.out hb9))
    clear hb9 HPQ
    go_wp2
    first | exact HEnd.out | (go_ret; exact HEnd.out)
end Go.Proofs.YtgdodbcpnmfnnaaGreat.Fz
