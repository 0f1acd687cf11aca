/- TskG, R22B, Duo, WordBytes, RefW, Text06, Made06, Made21, TskGW, KdoG, EnvX, Quad, Made in one text. -/
import Derived.Test.YtgdodbcpnmfnnaaGreatFnKnG
import Derived.Test.YtgdodbcpnmfnnaaGreatFnEnvN
import Derived.Deep.RegionHeld3
import Derived.Test.YtgdodbcpnmfnnaaGreatFnRow
import Derived.Test.YtgdodbcpnmfnnaaGreatFnFind
import Derived.Test.YtgdodbcpnmfnnaaGreatFnPag
import Derived.Test.YtgdodbcpnmfnnaaGreatProg
import Derived.LoopTactic
import Derived.Deep.RegionLaw
import Derived.Deep.AppendLies
import Derived.WalkSpells
import Derived.WalkLawsBesides
import Derived.OwnWalk
import Derived.Outline
import Derived.Test.YtgdodbcpnmfnnaaGreatFnBase
import Derived.Deep.DeepCutAuto
import Derived.Test.YtgdodbcpnmfnnaaGreatFnRspW
import Derived.StillTailTactics
import Derived.Maps.OwnSet
import Derived.Deep.QuietTactic
import Derived.BigQuiet
import Derived.Test.YtgdodbcpnmfnnaaGreatFnGraG
namespace Go.Proofs.YtgdodbcpnmfnnaaGreat
open Go.RowKit Word
set_option linter.unusedVariables false
set_option linter.unusedSimpArgs false
section
variable {P : Program} {ops : Array Oper} {Q : Exit → Act → World → Prop} {md : Region.Mode} {S T : World → Prop}
theorem H_one {l : List Oper} {i : Nat} {o : Oper} {fuel : Nat} {listed : Array Bool} {a : Act} {w : World} (hr : Region.ready md l.toArray listed = [i]) (ho : l[i]? = some o)
    (h : ∀ K' : Act → World → Prop, Shut (∀ a w, S w → (S w → wpAnyH P md l.toArray Q S fuel (listed.setIfInBounds i true) a w) → K' a w) → if Region.wanted o (yielded l.toArray a.tmps) = true then Oper.wp P o a w K' Q else K' (a.put o.dst undef) w) :
    wpAnyH P md l.toArray Q S (fuel + 1) listed a w :=
  wpAnyH_ready hr (by simp) (AllReadyH.cons (by rw [List.getElem?_toArray]; exact ho) h AllReadyH.nil)
end
structure KE (w : World) (a : KAt) (K : Kn) (e : EAt) (E : En) : Prop where
  kn : Knl w a K
  en : Env w e E
  apart : ∀ x, e.foot E.A x → a.tag x = 0
structure JStep (W w : World) (a0 : KAt) (e0 : EAt) (A0 : List Pg) (a : KAt) (K : Kn) (e : EAt) (E : En) : Prop where
  j : KE w a K e E
  same : (a.kb = a0.kb ∧ a.c.cb = a0.c.cb ∧ a.nb = a0.nb) ∧ e.eb = e0.eb ∧ e.sb = e0.sb ∧ e.mb = e0.mb ∧ e.cb = e0.cb
  mod : Mod (fun x => a0.wf x ∨ e0.foot A0 x) W w
  tag : ∀ k, k < W.heap.size → a.tag k = a0.tag k
  foot : ∀ k, e.foot E.A k → e0.foot A0 k ∨ W.heap.size ≤ k
theorem KEn.ke {w0 w : World} {a : KAt} {K : Kn} {e : EAt} {E : En} (h : KEn w0 w a K e E) : KE w a K e E := ⟨h.kn, h.en, h.apart⟩
theorem KEn.step {w0 w w' : World} {a a' : KAt} {K K' : Kn} {e e' : EAt} {E E' : En} (h : KEn w0 w a K e E) (s : JStep w w' a e E.A a' K' e' E') (hn : E'.num = E.num) : KEn w0 w' a' K' e' E' where
  kn := s.j.kn
  en := s.j.en
  apart := s.j.apart
  bel := Mod.below h.bel s.mod h.bel.size fun i _ g => g.elim (fun q => h.k0 i q.1) (h.e0 i)
  k0 := fun x hx => by
    rcases Nat.lt_or_ge x w.heap.size with q | q
    · exact h.k0 x (by rw [← s.tag x q]; exact hx)
    · exact Nat.le_trans h.bel.size q
  e0 := fun x hx => (s.foot x hx).elim (h.e0 x) fun g => Nat.le_trans h.bel.size g
  num := by rw [hn]; exact h.num
end Go.Proofs.YtgdodbcpnmfnnaaGreat
namespace Go.Proofs.YtgdodbcpnmfnnaaGreat
open Go.RowKit
set_option linter.unusedVariables false
set_option linter.unusedSimpArgs false
namespace Kl
section
variable {w : World} {a : KAt} {K : Kn}
theorem caps (h : Knl w a K) : Calls Tryz.prog 27 #[.pointer (some ⟨a.kb, 0, none⟩)] w fun e w' => e = .returned (.pointer (some ⟨a.c.cb, 0, none⟩)) ∧ w = w' := by
  obtain ⟨_, _, c2, _, _, _⟩ := h.cells
  clear h
  go_enter Tryz.func27, Tryz.ntmps27
  go_wp2
  go_ret
  exact ⟨rfl, rfl⟩
end
end Kl
end Go.Proofs.YtgdodbcpnmfnnaaGreat
namespace Go.Proofs.YtgdodbcpnmfnnaaGreat
open Go.RowKit
set_option linter.unusedVariables false
set_option linter.unusedSimpArgs false
namespace Rk
theorem info_strs : (Tryz.prog.info? 64).map (fun i => (i.zero, i.size, i.bytes)) = some (some (.slice none 0 0), 1, 24) := by kernel_rfl
end Rk
end Go.Proofs.YtgdodbcpnmfnnaaGreat
namespace Go.Proofs.YtgdodbcpnmfnnaaGreat
open Go.RowKit Word
set_option linter.unusedVariables false
structure Duo (w0 w : World) (cb sb mb : Nat) (A : List Pg) (rc : List Int) (pcc : Int) (db rb : Nat) (lv : Value) (R : List Rp) (rd : List Int) (pcd : Int) : Prop where
  cp : Cpu 327 w cb rc pcc
  dp : Cpu 174 w db rd pcd
  pair : Pair w sb mb A rb lv R
  bel : Below w0.heap.size w0 w
  c0 : w0.heap.size ≤ cb
  d0 : w0.heap.size ≤ db
  a0 : ∀ k, Spc.foot sb mb A k → w0.heap.size ≤ k
  r0 : ∀ k, Rsp.foot rb lv R k → w0.heap.size ≤ k
  cd : cb ≠ db
  ca : ¬ Spc.foot sb mb A cb
  cr : ¬ Rsp.foot rb lv R cb
  da : ¬ Spc.foot sb mb A db
  dr : ¬ Rsp.foot rb lv R db
namespace Duo
variable {w0 w w' : World} {cb sb mb : Nat} {A A' : List Pg} {rc rc' : List Int} {pcc pcc' : Int} {db rb : Nat} {lv lv' : Value} {R R' : List Rp} {rd rd' : List Int} {pcd pcd' : Int}
theorem below (h : Duo w0 w cb sb mb A rc pcc db rb lv R rd pcd) (hb : Below w.heap.size w w') : Duo w0 w' cb sb mb A rc pcc db rb lv R rd pcd :=
  { h with cp := h.cp.below hb, dp := h.dp.below hb, pair := h.pair.below hb, bel := h.bel.trans (hb.mono h.bel.size) }
theorem setC (h : Duo w0 w cb sb mb A rc pcc db rb lv R rd pcd) (hc : Cpu 327 w' cb rc' pcc') (hm : Mod (fun k => k = cb) w w') : Duo w0 w' cb sb mb A rc' pcc' db rb lv R rd pcd :=
  { h with cp := hc, dp := h.dp.keep hm (fun g => h.cd g.symm), pair := ⟨h.pair.sp.keep hm (fun k hk g => h.ca (g ▸ hk)), h.pair.rp.keep hm (fun k hk g => h.cr (g ▸ hk)), h.pair.apart⟩,
           bel := hm.below h.bel h.bel.size (fun i _ hi => hi ▸ h.c0) }
theorem setD (h : Duo w0 w cb sb mb A rc pcc db rb lv R rd pcd) (hd : Cpu 174 w' db rd' pcd') (hm : Mod (fun k => k = db) w w') : Duo w0 w' cb sb mb A rc pcc db rb lv R rd' pcd' :=
  { h with cp := h.cp.keep hm h.cd, dp := hd, pair := ⟨h.pair.sp.keep hm (fun k hk g => h.da (g ▸ hk)), h.pair.rp.keep hm (fun k hk g => h.dr (g ▸ hk)), h.pair.apart⟩,
           bel := hm.below h.bel h.bel.size (fun i _ hi => hi ▸ h.d0) }
theorem left (h : Duo w0 w cb sb mb A rc pcc db rb lv R rd pcd) (s : SStep w w' sb mb A A') : Duo w0 w' cb sb mb A' rc pcc db rb lv R rd pcd :=
  { h with cp := h.cp.keep s.mod h.ca, dp := h.dp.keep s.mod h.da, pair := h.pair.left s, bel := s.mod.below h.bel h.bel.size (fun i _ hi => h.a0 i hi),
           a0 := fun k hk => (s.foot k hk).elim (h.a0 k) fun g => Nat.le_trans h.bel.size g,
           ca := fun g => (s.foot _ g).elim h.ca fun g => by have := h.cp.lt; omega,
           da := fun g => (s.foot _ g).elim h.da fun g => by have := h.dp.lt; omega }
theorem right (h : Duo w0 w cb sb mb A rc pcc db rb lv R rd pcd) (s : RStep w w' rb lv R lv' R') : Duo w0 w' cb sb mb A rc pcc db rb lv' R' rd pcd :=
  { h with cp := h.cp.keep s.mod h.cr, dp := h.dp.keep s.mod h.dr, pair := h.pair.right s, bel := s.mod.below h.bel h.bel.size (fun i _ hi => h.r0 i hi),
           r0 := fun k hk => (s.foot k hk).elim (h.r0 k) fun g => Nat.le_trans h.bel.size g,
           cr := fun g => (s.foot _ g).elim h.cr fun g => by have := h.cp.lt; omega,
           dr := fun g => (s.foot _ g).elim h.dr fun g => by have := h.dp.lt; omega }
theorem weaken {w00 : World} (h : Duo w0 w cb sb mb A rc pcc db rb lv R rd pcd) (hb : Below w00.heap.size w00 w0) : Duo w00 w cb sb mb A rc pcc db rb lv R rd pcd :=
  { h with bel := hb.trans (h.bel.mono hb.size), c0 := Nat.le_trans hb.size h.c0, d0 := Nat.le_trans hb.size h.d0, a0 := fun k hk => Nat.le_trans hb.size (h.a0 k hk), r0 := fun k hk => Nat.le_trans hb.size (h.r0 k hk) }
end Duo
namespace Cp
def regsK (xs : Nat → Int) (k : Nat) : List Int := (List.range 16).map fun i => if 0 < i ∧ i < k then xs i else 0
theorem regsK_zero (xs : Nat → Int) : regsK xs 0 = List.replicate 16 0 := rfl
theorem regsK_succ (xs : Nat → Int) (k : Nat) (hk : k < 16) : putG (regsK xs k) k (xs k) = regsK xs (k + 1) := by
  by_cases h0 : k = 0
  · subst h0
    rfl
  · rw [putG_nat _ _ _ h0]
    apply List.ext_getElem?
    intro n
    unfold regsK
    by_cases hn : n < 16
    · rw [List.getElem?_set]
      simp only [List.length_map, List.length_range, List.getElem?_map, List.getElem?_range hn, Option.map_some]
      by_cases e : k = n
      · subst e
        rw [if_pos rfl, if_pos hk, if_pos (by omega)]
      · rw [if_neg e]
        by_cases g : 0 < n ∧ n < k
        · rw [if_pos g, if_pos (by omega)]
        · rw [if_neg g, if_neg (by omega)]
    · rw [List.getElem?_eq_none (by simp; omega), List.getElem?_eq_none (by simp; omega)]
def pgsK (ps : Nat → Int) : Nat → List Pg
  | 0 => []
  | k + 1 => if ps k < 8 then Sp.mapA (pgsK ps k) (k * 256) 0 (ps k) else pgsK ps k
theorem pgsK_addr (ps : Nat → Int) : ∀ (k : Nat) (p : Pg), p ∈ pgsK ps k → p.addr < k * 256 ∧ p.addr % 256 = 0
  | 0, p, h => by cases h
  | k + 1, p, h => by
    unfold pgsK at h
    split at h
    · unfold Sp.mapA at h
      split at h
      · rcases mem_insPg.1 h with rfl | g
        · show ((k : Int) * 256) < ((k + 1 : Nat) : Int) * 256 ∧ ((k : Int) * 256) % 256 = 0
          omega
        · have := pgsK_addr ps k p g
          omega
      · have := pgsK_addr ps k p h
        omega
    · have := pgsK_addr ps k p h
      omega
theorem pgsK_free (ps : Nat → Int) (k : Nat) (hk : k ≤ 16) (h0 : 0 ≤ ps k) (h8 : ps k < 8) : Sp.mapE (pgsK ps k) (k * 256) (ps k) = 0 := by
  have hm : Sp.mayB ((k : Int) * 256) = true := by unfold Sp.mayB; rw [Bool.and_eq_true]; exact ⟨beq_iff_eq.2 (by omega), decide_eq_true (by omega)⟩
  have hn : pageAt (pgsK ps k) ((k : Int) * 256) = none := by
    unfold pageAt
    rw [show ((k : Int) * 256) - (k : Int) * 256 % 256 = (k : Int) * 256 by omega]
    refine atAddr_eq_none fun q hq => ?_
    have := pgsK_addr ps k q hq
    omega
  unfold Sp.mapE
  rw [if_neg (by rw [hm]; rintro (g | g); cases g; omega), hn]
  rfl
def madeA (ps : Nat → Int) (np : Nat) (at' : Int) (s : ByteArray) (wh : Int) (t : ByteArray) : List Pg := Sp.putA (Sp.putA (pgsK ps np) (at' % 4096) 0 s) (wh % 4096) 0 t
end Cp
end Go.Proofs.YtgdodbcpnmfnnaaGreat
namespace Go.Proofs.YtgdodbcpnmfnnaaGreat.WordRef
open Go.RowKit Word
set_option linter.unusedVariables false
theorem info_u8 : (Tryz.prog.info? 5).map (fun i => (i.zero, i.size, i.bytes)) = some (some (.int .u8 0), 1, 1) := by kernel_rfl
theorem putL_next (v : Int) (k : Nat) (h0 : 0 ≤ v) (h1 : v ≤ 4294967295) (hk : k < 4) : (putL v).take (k + 1) = (putL v).take k ++ [v / 256 ^ k % 256] := by
  have : k = 0 ∨ k = 1 ∨ k = 2 ∨ k = 3 := by omega
  rcases this with rfl | rfl | rfl | rfl
  · simp [putL]
  · simp [putL]
  · simp [putL]
  · simp [putL]; omega
theorem div256 (v : Int) (k : Nat) : v / 256 ^ k / 256 = v / 256 ^ (k + 1) := by
  rw [Int.ediv_ediv_of_nonneg (Int.le_of_lt (Int.pow_pos (by omega))), Int.pow_succ]
theorem putL_len (v : Int) (k : Nat) (hk : k ≤ 4) : ((putL v).take k).length = k := by rw [List.length_take]; simp [putL]; omega
def bytesRel (v : Int) (n : Nat) (W : World) (sv sb si : Value) (wr : World) : Prop :=
  ∃ (k : Nat) (x : Int), k ≤ n ∧ si = .int .i64 k ∧ sv = .int .u32 x ∧ 0 ≤ x ∧ x ≤ 4294967295 ∧ x = v / 256 ^ k ∧ Buf wr W.heap.size 5 sb ((putL v).take k) ∧ Below W.heap.size W wr
theorem Bytes (v : Int) (n : Nat) (hn : n ≤ 4) (h0 : 0 ≤ v) (h1 : v ≤ 4294967295) (w : World) :
    Calls Tryz.prog 309 #[.int .u32 v, .int .i64 n] w fun e w' => e = .returned (.string (putS v n)) ∧ Below w.heap.size w w' := by
  obtain ⟨i0, hi, hz0, hz1, hz2⟩ := info_parts info_u8
  have Hi := Lib.hid hi
  have Hz0 := Lib.hid hz0
  have Hz1 := Lib.hid hz1
  have Hz2 := Lib.hid hz2
  clear hi hz0 hz1 hz2
  go_enter Tryz.func309, Tryz.ntmps309
  go_wp2
  go_loopw [0, 5, 6] (fun sv sb si wr => bytesRel v n w sv sb si wr) (fun _ _ i _ => n - (intOf i).toNat)
  case atStart => exact ⟨0, v, by omega, rfl, rfl, h0, h1, by simp, Buf.nil _ _ _, Below.refl _ _⟩
  case round =>
    obtain ⟨k, x, hk, rfl, rfl, x0, x1, hx, hbuf, hbel⟩ := hrel
    obtain ⟨L, hL⟩ : ∃ L, (putL v).take k = L := ⟨_, rfl⟩
    rw [hL] at hbuf
    have Ho := Lib.hid hbuf
    have Hb := Lib.hid hbel
    have hbase := hbel.size
    by_cases hk2 : k < n
    · have Hx := Lib.hid hx
      have Hn := Lib.hid (putL_next v k h0 h1 (by omega))
      have Hl := Lib.hid (show L.length = k by rw [← hL]; exact putL_len v k (by omega))
      have HL := Lib.hid hL
      clear hx hbuf hbel hL
      go_wp2_with (at_builtin; refine wpList_append_lies _ (by rfl) _ _ _ (by rfl) (w.heap.size) 5 i0 (.int .u8 0) 1 1 Tryz.underlying60 Hi.out Hz0.out Hz1.out Hz2.out rfl (by omega) u5 _ _ (by rfl) (World.ownsRow.alloc Ho.out _) ⟨wr.heap.size, 0, none⟩ 1 1 [.int .u8 (x % 256)] (by rfl) (by rfl) (World.news_of_block (cs := #[.int .u8 (x % 256)]) (t := 5) (fr := (0, 0)) (heap_alloc_new wr _)) (fun x hx => by simp at hx; subst hx; rfl) (by omega) (by rw [Hl.out]; unfold maxLen; omega) (by rw [Hl.out]; omega) (by simp; omega) (wr.heap.size + 1) (by simp) ?_; intro gg cap' w' hown' hgro hat hlt)
      refine ⟨⟨k + 1, x / 256, by omega, by go_num, rfl, by omega, by omega, by rw [Hx.out]; exact div256 v k, ?_, ?_⟩, by simp [intOf]; omega⟩
      · rw [Hn.out, ← Hx.out, HL.out]; exact Buf.app hown'
      · exact (Hb.out.alloc hbase _).grown hgro (by simp; omega) (fun k hk => Buf.lt Ho.out k hk)
    · obtain rfl : k = n := by omega
      have hcs := Buf.string (P := Tryz.prog) Ho.out 60 9 Tryz.underlying60 Tryz.underlying5 Tryz.underlying9
      have HL := Lib.hid hL
      clear hx hbuf hbel hL
      go_wp2
      go_ret
      exact ⟨ret_str (by rw [← HL.out]; rfl), Hb.out⟩
end Go.Proofs.YtgdodbcpnmfnnaaGreat.WordRef
set_option linter.unusedVariables false
set_option linter.unusedSimpArgs false
namespace Go.Proofs.YtgdodbcpnmfnnaaGreat.Ins
open Go.RowKit Word
set_option linter.unusedVariables false
set_option linter.unusedSimpArgs false
def rowV (op : Int) : Value := if usesV op = 0 then .agg #[.bool true, .bool true, .bool true, .bool false] else .agg #[.bool (hasV op 1), .bool (hasV op 2), .bool (hasV op 4), .bool (hasV op 8)]
def isV (op : Int) : Bool := usesV op != 0
def UsesPost (op : Int) (w : World) (e : Ending) (w' : World) : Prop := e = .returned (.tuple #[rowV op, .bool (isV op)]) ∧ Below w.heap.size w w'
theorem uses_mk {op : Int} {w w' : World} {a b c d i : Bool} (h : Value.agg #[.bool a, .bool b, .bool c, .bool d] = rowV op) (hi : i = isV op) (hb : Below w.heap.size w w') : UsesPost op w (.returned (.tuple #[.agg #[.bool a, .bool b, .bool c, .bool d], .bool i])) w' := ⟨by rw [h, hi], hb⟩
theorem row_low {op : Int} (h : 1 ≤ op ∧ op ≤ 14) : rowV op = .agg #[.bool true, .bool true, .bool true, .bool false] ∧ isV op = true := by
  have : usesV op = 7 := by unfold usesV; rw [if_pos h]
  unfold rowV isV hasV
  rw [this]
  exact ⟨rfl, rfl⟩
set_option maxRecDepth 100000 in
set_option maxHeartbeats 4000000 in
theorem uses_at (op : Int) (h : op = 17 ∨ op = 19 ∨ op = 22 ∨ op = 23 ∨ op = 24 ∨ op = 25 ∨ op = 26 ∨ op = 29 ∨ op = 30 ∨ op = 33 ∨ op = 34 ∨ op = 32 ∨ op = 41 ∨ op = 35 ∨ op = 36 ∨ op = 43 ∨ op = 44 ∨ op = 45 ∨ op = 46 ∨ op = 40 ∨ op = 50 ∨ op = 42) (w : World) :
    Calls Tryz.prog 363 #[.int .u8 op] w (UsesPost op w) := by
  have HF : Hid (∀ (a b c d i : Bool) w', Value.agg #[.bool a, .bool b, .bool c, .bool d] = rowV op → i = isV op → Below w.heap.size w w' → UsesPost op w (.returned (.tuple #[.agg #[.bool a, .bool b, .bool c, .bool d], .bool i])) w') := Lib.hid fun a b c d i w' h1 h2 h3 => uses_mk h1 h2 h3
  generalize hP : UsesPost op w = PQ at *
  clear hP
  rcases h with rfl | rfl | rfl | rfl | rfl | rfl | rfl | rfl | rfl | rfl | rfl | rfl | rfl | rfl | rfl | rfl | rfl | rfl | rfl | rfl | rfl | rfl
  all_goals
    go_enter Tryz.func363, Tryz.ntmps363
    go_wp2
    first
      | exact bodyPost_ret (v := .tuple #[.agg #[.bool true, .bool true, .bool false, .bool true], .bool true]) (by simp [results, Tryz.results363, go_sem]; done) rfl (HF.out _ _ _ _ _ _ rfl rfl ((Below.refl _ _).alloc (Nat.le_refl _) _))
      | exact bodyPost_ret (v := .tuple #[.agg #[.bool true, .bool false, .bool false, .bool true], .bool true]) (by simp [results, Tryz.results363, go_sem]; done) rfl (HF.out _ _ _ _ _ _ rfl rfl ((Below.refl _ _).alloc (Nat.le_refl _) _))
      | exact bodyPost_ret (v := .tuple #[.agg #[.bool false, .bool true, .bool true, .bool true], .bool true]) (by simp [results, Tryz.results363, go_sem]; done) rfl (HF.out _ _ _ _ _ _ rfl rfl ((Below.refl _ _).alloc (Nat.le_refl _) _))
      | exact bodyPost_ret (v := .tuple #[.agg #[.bool false, .bool false, .bool false, .bool true], .bool true]) (by simp [results, Tryz.results363, go_sem]; done) rfl (HF.out _ _ _ _ _ _ rfl rfl ((Below.refl _ _).alloc (Nat.le_refl _) _))
      | exact bodyPost_ret (v := .tuple #[.agg #[.bool false, .bool true, .bool false, .bool false], .bool true]) (by simp [results, Tryz.results363, go_sem]; done) rfl (HF.out _ _ _ _ _ _ rfl rfl ((Below.refl _ _).alloc (Nat.le_refl _) _))
set_option maxRecDepth 100000 in
set_option maxHeartbeats 4000000 in
theorem uses_else (op : Int) (o0 : 0 ≤ op) (o1 : op ≤ 255) (h : ¬ (op = 17 ∨ op = 19 ∨ op = 22 ∨ op = 23 ∨ op = 24 ∨ op = 25 ∨ op = 26 ∨ op = 29 ∨ op = 30 ∨ op = 33 ∨ op = 34 ∨ op = 32 ∨ op = 41 ∨ op = 35 ∨ op = 36 ∨ op = 43 ∨ op = 44 ∨ op = 45 ∨ op = 46 ∨ op = 40 ∨ op = 50 ∨ op = 42)) (w : World) :
    Calls Tryz.prog 363 #[.int .u8 op] w (UsesPost op w) := by
  have HF : Hid (∀ (a b c d i : Bool) w', Value.agg #[.bool a, .bool b, .bool c, .bool d] = rowV op → i = isV op → Below w.heap.size w w' → UsesPost op w (.returned (.tuple #[.agg #[.bool a, .bool b, .bool c, .bool d], .bool i])) w') := Lib.hid fun a b c d i w' h1 h2 h3 => uses_mk h1 h2 h3
  generalize hP : UsesPost op w = PQ at *
  clear hP
  have f : ∀ k : Int, ¬ op = k → (op == k) = false := fun k hk => by simpa using hk
  have f17 := f 17 (by omega); have f19 := f 19 (by omega); have f22 := f 22 (by omega); have f23 := f 23 (by omega); have f24 := f 24 (by omega); have f25 := f 25 (by omega); have f26 := f 26 (by omega)
  have f29 := f 29 (by omega); have f30 := f 30 (by omega); have f33 := f 33 (by omega); have f34 := f 34 (by omega); have f32 := f 32 (by omega); have f41 := f 41 (by omega); have f35 := f 35 (by omega)
  have f36 := f 36 (by omega); have f43 := f 43 (by omega); have f44 := f 44 (by omega); have f45 := f 45 (by omega); have f46 := f 46 (by omega); have f40 := f 40 (by omega); have f50 := f 50 (by omega); have f42 := f 42 (by omega)
  have Hr : Hid (rowV op = .agg #[.bool true, .bool true, .bool true, .bool false] ∧ isV op = (decide (1 ≤ op) && decide (op ≤ 14))) := Lib.hid (by
    by_cases g : 1 ≤ op ∧ op ≤ 14
    · rw [(row_low g).1, (row_low g).2, decide_eq_true g.1, decide_eq_true g.2]; exact ⟨rfl, rfl⟩
    · have : usesV op = 0 := by unfold usesV; rw [if_neg g, if_neg (by omega), if_neg (by omega), if_neg (by omega), if_neg (by omega), if_neg (by omega)]
      unfold rowV isV
      rw [this, if_pos rfl]
      refine ⟨rfl, ?_⟩
      by_cases g1 : 1 ≤ op
      · rw [decide_eq_true g1, decide_eq_false (by omega)]; rfl
      · rw [decide_eq_false g1]; rfl)
  clear f h
  cases g1 : decide (1 ≤ op) with
  | false =>
    go_enter Tryz.func363, Tryz.ntmps363
    go_wp2
    exact bodyPost_ret (v := .tuple #[.agg #[.bool true, .bool true, .bool true, .bool false], .bool false]) (by simp [results, Tryz.results363, go_sem]; done) rfl (HF.out _ _ _ _ _ _ Hr.out.1.symm (by rw [Hr.out.2, g1]; rfl) ((Below.refl _ _).alloc (Nat.le_refl _) _))
  | true =>
    cases g2 : decide (op ≤ 14) with
    | false =>
      go_enter Tryz.func363, Tryz.ntmps363
      go_wp2
      exact bodyPost_ret (v := .tuple #[.agg #[.bool true, .bool true, .bool true, .bool false], .bool false]) (by simp [results, Tryz.results363, go_sem]; done) rfl (HF.out _ _ _ _ _ _ Hr.out.1.symm (by rw [Hr.out.2, g1, g2]; rfl) ((Below.refl _ _).alloc (Nat.le_refl _) _))
    | true =>
      go_enter Tryz.func363, Tryz.ntmps363
      go_wp2
      exact bodyPost_ret (v := .tuple #[.agg #[.bool true, .bool true, .bool true, .bool false], .bool true]) (by simp [results, Tryz.results363, go_sem]; done) rfl (HF.out _ _ _ _ _ _ Hr.out.1.symm (by rw [Hr.out.2, g1, g2]; rfl) ((Below.refl _ _).alloc (Nat.le_refl _) _))
theorem uses (op : Int) (o0 : 0 ≤ op) (o1 : op ≤ 255) (w : World) : Calls Tryz.prog 363 #[.int .u8 op] w (UsesPost op w) :=
  if h : _ then uses_at op h w else uses_else op o0 o1 h w
theorem register (n : Int) (u : Bool) (n0 : 0 ≤ n) (n1 : n ≤ 255) (w : World) : Calls Tryz.prog 364 #[.int .u8 n, .bool u] w fun e w' => e = .returned (.bool (fitV n u)) ∧ w = w' := by
  unfold fitV
  cases hn : (n == 0) <;> cases u
  all_goals
    go_enter Tryz.func364, Tryz.ntmps364
    go_wp2
    go_ret
    exact ⟨rfl, rfl⟩
end Go.Proofs.YtgdodbcpnmfnnaaGreat.Ins
namespace Go.Proofs.YtgdodbcpnmfnnaaGreat.Ins
open Go.RowKit Word
set_option linter.unusedVariables false
theorem cells5'' (w : World) (a b c d e : Value) (t : TypeId) (i : Nat) : (w.alloc (.cells #[a, b, c, d, e] t)).cell? ⟨w.heap.size, 0 + i, none⟩ = [a, b, c, d, e][i]? := by
  rw [World.cell?_alloc_mark]; simp
set_option maxRecDepth 100000 in
set_option maxHeartbeats 4000000 in
theorem may (x : Ins) (hx : x.ok) (w : World) : Calls Tryz.prog 308 #[x.val] w fun e w' => e = .returned (.bool (mayV x)) ∧ Below w.heap.size w w' := by
  obtain ⟨op, d, a, b, imm⟩ := x
  obtain ⟨o0, o1, d0, d1, a0, a1, b0, b1, i0, i1⟩ := hx
  simp only at o0 o1 d0 d1 a0 a1 b0 b1 i0 i1
  have hE : mayV ⟨op, d, a, b, imm⟩ = (isV op && fitV d (hasV op 1) && fitV a (hasV op 2) && fitV b (hasV op 4) && (hasV op 8 || imm == 0)) := rfl
  have hu := uses op o0 o1
  have hrow : isV op = true → rowV op = .agg #[.bool (hasV op 1), .bool (hasV op 2), .bool (hasV op 4), .bool (hasV op 8)] := fun h => by
    unfold rowV
    unfold isV at h
    rw [if_neg (by simpa using h)]
  have hrow0 : isV op = false → rowV op = .agg #[.bool true, .bool true, .bool true, .bool false] := fun h => by
    unfold rowV
    unfold isV at h
    rw [if_pos (by simpa using h)]
  generalize mayV ⟨op, d, a, b, imm⟩ = E at *
  have HE := Lib.hid hE
  have HU : Hid (∀ w0, Calls Tryz.prog 363 #[.int .u8 op] w0 fun e w' => e = .returned (.tuple #[rowV op, .bool (isV op)]) ∧ Below w0.heap.size w0 w') := Lib.hid fun w0 => hu w0
  generalize isV op = is at *
  generalize rowV op = row at *
  have H1 := Lib.hid (register d (hasV op 1) d0 d1)
  have H2 := Lib.hid (register a (hasV op 2) a0 a1)
  have H3 := Lib.hid (register b (hasV op 4) b0 b1)
  have hbW : Below w.heap.size w (w.alloc (.cells #[.int .u8 op, .int .u8 d, .int .u8 a, .int .u8 b, .int .u32 imm] 161)) := (Below.refl _ _).alloc (Nat.le_refl _) _
  have HB := Lib.hid hbW
  have HX : Hid (∀ w1, Below (w.heap.size + 1) (w.alloc (.cells #[.int .u8 op, .int .u8 d, .int .u8 a, .int .u8 b, .int .u32 imm] 161)) w1 → w1.cell? ⟨w.heap.size, 1, none⟩ = some (.int .u8 d) ∧ w1.cell? ⟨w.heap.size, 2, none⟩ = some (.int .u8 a) ∧ w1.cell? ⟨w.heap.size, 3, none⟩ = some (.int .u8 b) ∧ w1.cell? ⟨w.heap.size, 4, none⟩ = some (.int .u32 imm)) := Lib.hid fun w1 hb => by
    have hcs := cells5'' w (.int .u8 op) (.int .u8 d) (.int .u8 a) (.int .u8 b) (.int .u32 imm) 161
    have e : ∀ j, w1.cell? ⟨w.heap.size, j, none⟩ = (w.alloc (.cells #[.int .u8 op, .int .u8 d, .int .u8 a, .int .u8 b, .int .u32 imm] 161)).cell? ⟨w.heap.size, j, none⟩ := fun j => World.cell?_of_block (hb.block _ (by simp only; omega))
    exact ⟨(e 1).trans (hcs 1), (e 2).trans (hcs 2), (e 3).trans (hcs 3), (e 4).trans (hcs 4)⟩
  have hmf := hasV op 1
  generalize hasV op 1 = f1 at *
  generalize hasV op 2 = f2 at *
  generalize hasV op 4 = f4 at *
  generalize hasV op 8 = f8 at *
  generalize fitV d f1 = fd at *
  generalize fitV a f2 = fa at *
  generalize fitV b f4 = fb at *
  clear hu hE hbW hmf
  unfold val
  simp only
  go_enter Tryz.func308, Tryz.ntmps308
  go_wp2_with fail
  refine (HU.out _).mono ?_
  rintro e w1 ⟨rfl, hb1⟩
  have hq := HX.out w1 (by simpa using hb1)
  have HB1 := Lib.hid (below_th HB.out hb1)
  have hlt : w.heap.size < w1.heap.size := by have := hb1.size; simp at this; omega
  obtain ⟨k1, k2, k3, k4⟩ := hq
  clear hb1 HX HB HU
  have HF : Hid (∀ V, Below w1.heap.size w1 V → Below w.heap.size w V) := Lib.hid fun V hV => below_th HB1.out hV
  cases is with
  | false =>
    rw [hrow0 rfl]
    clear hrow hrow0
    go_wp2
    go_ret
    exact ⟨by rw [HE.out]; rfl, HF.out _ ((Below.refl _ _).alloc (Nat.le_refl _) _)⟩
  | true =>
    rw [hrow rfl]
    clear hrow hrow0
    cases fd <;> cases fa <;> cases fb <;> cases f8 <;> cases him : (imm == 0)
    all_goals
      go_wp2_with (go_at_call 364; first | ((with_reducible refine (H1.out _).mono ?_); rintro e w2 ⟨rfl, rfl⟩) | ((with_reducible refine (H2.out _).mono ?_); rintro e w2 ⟨rfl, rfl⟩) | ((with_reducible refine (H3.out _).mono ?_); rintro e w2 ⟨rfl, rfl⟩))
      go_ret
      exact ⟨by rw [HE.out]; first | rfl | (rw [him]; rfl), HF.out _ ((Below.refl _ _).alloc (Nat.le_refl _) _)⟩
end Go.Proofs.YtgdodbcpnmfnnaaGreat.Ins
namespace Go.Proofs.YtgdodbcpnmfnnaaGreat
section
open Go.RowKit
variable {P : Program} {ops : Array Oper} {Q : Exit → Act → World → Prop} {md : Region.Mode} {S : World → Prop} {last : Nat}
theorem E_two {i j : Nat} {oi oj : Oper} {fuel : Nat} {listed : Array Bool} {a : Act} {w : World} (hr : Region.ready md ops listed = [i, j]) (hoi : ops[i]? = some oi) (hoj : ops[j]? = some oj)
    (h : ∀ K' : Act → World → Prop, Shut (∀ a w, (i ≠ last → S w) → ((i ≠ last → S w) → AnyE P md ops Q S last fuel (listed.setIfInBounds i true) a w) → K' a w) → if Region.wanted oi (yielded ops a.tmps) = true then Oper.wp P oi a w K' Q else K' (a.put oi.dst undef) w)
    (h2 : ∀ K' : Act → World → Prop, Shut (∀ a w, (j ≠ last → S w) → ((j ≠ last → S w) → AnyE P md ops Q S last fuel (listed.setIfInBounds j true) a w) → K' a w) → if Region.wanted oj (yielded ops a.tmps) = true then Oper.wp P oj a w K' Q else K' (a.put oj.dst undef) w) :
    AnyE P md ops Q S last (fuel + 1) listed a w := by
  refine ⟨fun h0 => (by rw [h0] at hr; cases hr), fun k hk => ?_⟩
  rw [hr, List.mem_cons, List.mem_singleton] at hk
  rcases hk with rfl | rfl
  · exact wpOp_step hoi (fun K' hK => h K' (fun a w hS hW => hK a w ⟨hS, hW hS⟩))
  · exact wpOp_step hoj (fun K' hK => h2 K' (fun a w hS hW => hK a w ⟨hS, hW hS⟩))
end
namespace Ins
open Go.RowKit Word
set_option linter.unusedVariables false
theorem strOfNums_app (xs ys : List Int) : strOfNums (xs ++ ys) = strOfNums xs ++ strOfNums ys := by
  apply ByteArray.ext
  apply Array.toList_inj.1
  rw [ByteArray.data_append, Array.toList_append, strOfNums_data, strOfNums_data, strOfNums_data, List.map_append]
theorem u8str (W : World) (g : Nat) (a b c d : Int) (h : W.heap[g]? = some (.cells #[.int .u8 a, .int .u8 b, .int .u8 c, .int .u8 d] 5 (0, 0))) :
    (convert 60 9 (.slice (some ⟨g, 0, none⟩) 4 4)).run Tryz.prog W = .ok (.string (strOfNums [a, b, c, d])) W := by
  refine run_convert_bytes_arg W 60 5 Tryz.underlying60 Tryz.underlying5 g 0 4 4 [a, b, c, d] rfl (fun i hi => ?_) 9 Tryz.underlying9
  unfold World.cell?
  rw [h]
  have : i = 0 ∨ i = 1 ∨ i = 2 ∨ i = 3 := by omega
  rcases this with rfl | rfl | rfl | rfl <;> rfl
set_option maxRecDepth 100000 in
set_option maxHeartbeats 4000000 in
theorem encode_yes (x : Ins) (hx : x.ok) (hm : mayV x = true) (w : World) : Calls Tryz.prog 247 #[x.val] w fun e w' => e = .returned (.tuple #[.string (encS x), .int .i64 0]) ∧ Below w.heap.size w w' := by
  have hsm := may_small hm hx
  have hmay := may x hx
  have hS : encS x = strOfNums [x.op, x.d + 16 * x.a, x.b, 0] ++ putS x.imm 4 := by
    unfold encS
    rw [if_pos hm]
    unfold encL putS
    rw [strOfNums_app]
    rfl
  rw [hS]
  clear hS
  obtain ⟨op, d, a, b, imm⟩ := x
  obtain ⟨o0, o1, d0, d1, a0, a1, b0, b1, i0, i1⟩ := hx
  obtain ⟨s1, s2, s3, s4, s5, s6⟩ := hsm
  simp only at o0 o1 d0 d1 a0 a1 b0 b1 i0 i1 s1 s2 s3 s4 s5 s6
  have hw1 : IntKind.u8.wrap (16 * a) = 16 * a := by rw [IntKind.wrap_u8]; omega
  have hw2 : IntKind.u8.wrap (d + 16 * a) = d + 16 * a := by rw [IntKind.wrap_u8]; omega
  have hw3 : 16 * a % 256 = 16 * a := by omega
  have hw4 : (d + 16 * a) % 256 = d + 16 * a := by omega
  have hbW : Below w.heap.size w (w.alloc (.cells #[.int .u8 op, .int .u8 d, .int .u8 a, .int .u8 b, .int .u32 imm] 161)) := (Below.refl _ _).alloc (Nat.le_refl _) _
  have HB := Lib.hid hbW
  have hcs := cells5'' w (.int .u8 op) (.int .u8 d) (.int .u8 a) (.int .u8 b) (.int .u32 imm) 161
  have HX : Hid (∀ w1, Below (w.heap.size + 1) (w.alloc (.cells #[.int .u8 op, .int .u8 d, .int .u8 a, .int .u8 b, .int .u32 imm] 161)) w1 → w1.cell? ⟨w.heap.size, 0, none⟩ = some (.int .u8 op) ∧ w1.cell? ⟨w.heap.size, 1, none⟩ = some (.int .u8 d) ∧ w1.cell? ⟨w.heap.size, 2, none⟩ = some (.int .u8 a) ∧ w1.cell? ⟨w.heap.size, 3, none⟩ = some (.int .u8 b) ∧ w1.cell? ⟨w.heap.size, 4, none⟩ = some (.int .u32 imm)) := Lib.hid fun w1 hb => by
    have e : ∀ j, w1.cell? ⟨w.heap.size, j, none⟩ = (w.alloc (.cells #[.int .u8 op, .int .u8 d, .int .u8 a, .int .u8 b, .int .u32 imm] 161)).cell? ⟨w.heap.size, j, none⟩ := fun j => World.cell?_of_block (hb.block _ (by simp only; omega))
    exact ⟨(e 0).trans (hcs 0), (e 1).trans (hcs 1), (e 2).trans (hcs 2), (e 3).trans (hcs 3), (e 4).trans (hcs 4)⟩
  have HM : Hid (∀ W, Calls Tryz.prog 308 #[.agg #[.int .u8 op, .int .u8 d, .int .u8 a, .int .u8 b, .int .u32 imm]] W fun e w' => e = .returned (.bool true) ∧ Below W.heap.size W w') := Lib.hid fun W => by have h := hmay W; rw [hm] at h; exact h
  have HBy := Lib.hid (WordRef.Bytes imm 4 (by omega) i0 i1)
  have HFin : Hid (∀ w', Below w.heap.size w w' → (fun e w' => e = Ending.returned (.tuple #[.string (strOfNums [op, d + 16 * a, b, 0] ++ putS imm 4), .int .i64 0]) ∧ Below w.heap.size w w') (.returned (.tuple #[.string (strOfNums [op, d + 16 * a, b, 0] ++ putS imm 4), .int .i64 0])) w') := Lib.hid fun w' g => ⟨rfl, g⟩
  generalize (fun e w' => e = Ending.returned (.tuple #[.string (strOfNums [op, d + 16 * a, b, 0] ++ putS imm 4), .int .i64 0]) ∧ Below w.heap.size w w') = PQ at *
  clear hbW hcs hmay hm
  unfold val
  simp only
  go_enter Tryz.func247, Tryz.ntmps247
  go_wp2_with fail
  refine (HM.out _).mono ?_
  rintro e w1 ⟨rfl, hb1⟩
  have hk := HX.out w1 (by simpa using hb1)
  have HB1 := Lib.hid (below_th HB.out hb1)
  have hlt : w.heap.size < w1.heap.size := by have := hb1.size; simp at this; omega
  have HS : Hid (∀ V, Below w1.heap.size w1 V → V.cell? ⟨w.heap.size, 0, none⟩ = some (.int .u8 op) ∧ V.cell? ⟨w.heap.size, 1, none⟩ = some (.int .u8 d) ∧ V.cell? ⟨w.heap.size, 2, none⟩ = some (.int .u8 a) ∧ V.cell? ⟨w.heap.size, 3, none⟩ = some (.int .u8 b) ∧ V.cell? ⟨w.heap.size, 4, none⟩ = some (.int .u32 imm)) := Lib.hid fun V hV => by
    have e : ∀ j, V.cell? ⟨w.heap.size, j, none⟩ = w1.cell? ⟨w.heap.size, j, none⟩ := fun j => World.cell?_of_block (hV.block _ hlt)
    obtain ⟨k0, k1, k2, k3, k4⟩ := hk
    exact ⟨(e 0).trans k0, (e 1).trans k1, (e 2).trans k2, (e 3).trans k3, (e 4).trans k4⟩
  clear hb1 HX HB HM hk hlt
  go_wp2_with fail
  refine wp_region_E (fun w' => w'.cell? ⟨w.heap.size, 0, none⟩ = some (.int .u8 op) ∧ w'.cell? ⟨w.heap.size, 1, none⟩ = some (.int .u8 d) ∧ w'.cell? ⟨w.heap.size, 2, none⟩ = some (.int .u8 a) ∧ w'.cell? ⟨w.heap.size, 3, none⟩ = some (.int .u8 b) ∧ w'.cell? ⟨w.heap.size, 4, none⟩ = some (.int .u32 imm)) 17 (by kernel_rfl) ?_
  have hB0 : Below w1.heap.size w1 w1.drew := (Below.refl _ w1).drew
  have h0 := HS.out _ hB0
  refine LT 0 h0 ?_
  refine LT 1 h0 ?_
  refine LT 2 h0 ?_
  refine LT 3 h0 ?_
  refine LT 4 h0 ?_
  refine LT 5 h0 ?_
  refine LT 6 h0 ?_
  refine LT 7 h0 ?_
  refine LT 8 h0 ?_
  refine LT 9 h0 ?_
  refine LT 12 h0 ?_
  refine LT 13 h0 ?_
  refine E_two (i := 10) (j := 14) (by kernel_rfl) rfl rfl (fun K hK => ?_) (fun K hK => ?_)
  · go_simp
    have hB1 := ((Below.refl _ w1).alloc (Nat.le_refl _) (.cells #[.int .u8 op, .int .u8 (d + 16 * a), .int .u8 b, .int .u8 0] 5)).drew
    have h1 := HS.out _ hB1
    refine LV hK (fun _ => h1) ?_; clear hK K
    have hX : (w1.alloc (.cells #[.int .u8 op, .int .u8 (d + 16 * a), .int .u8 b, .int .u8 0] 5)).drew.heap[w1.heap.size]? = some (.cells #[.int .u8 op, .int .u8 (d + 16 * a), .int .u8 b, .int .u8 0] 5 (0, 0)) := heap_alloc_new w1 _
    refine E_two (i := 11) (j := 14) (by kernel_rfl) rfl rfl (fun K hK => ?_) (fun K hK => ?_)
    · have hcv := u8str (w1.alloc (.cells #[.int .u8 op, .int .u8 (d + 16 * a), .int .u8 b, .int .u8 0] 5)).drew w1.heap.size op (d + 16 * a) b 0 hX
      go_simp
      refine LV hK (fun _ => h1) ?_; clear hK K
      refine LU 14 fun K hK => ?_
      go_simp
      go_at_call 309
      refine (HBy.out _).mono ?_
      rintro e w2 ⟨rfl, hq⟩
      have hB2 : Below w1.heap.size w1 w2 := hB1.trans (hq.mono (by have := hB1.size; first | exact this | simpa using this))
      have h2 := HS.out _ hB2
      refine LV hK (fun _ => h2) ?_; clear hK K
      refine LU 15 fun K hK => ?_
      go_simp
      refine LV hK (fun _ => h2) ?_; clear hK K
      refine LU 16 fun K hK => ?_
      go_simp
      refine LV hK (fun _ => h2) ?_; clear hK K
      refine LU 17 fun K hK => ?_
      go_simp
      refine LV hK (fun _ => h2) ?_; clear hK K
      refine E_done (by kernel_rfl) ?_ _
      have HBz := Lib.hid (HB1.out.trans (hB2.mono HB1.out.size))
      go_wp2
      first | go_ret2 | skip
      exact HFin.out _ HBz.out
    · go_simp
      go_at_call 309
      refine (HBy.out _).mono ?_
      rintro e w2 ⟨rfl, hq⟩
      have hB2 : Below w1.heap.size w1 w2 := hB1.trans (hq.mono (by have := hB1.size; first | exact this | simpa using this))
      have h2 := HS.out _ hB2
      refine LV hK (fun _ => h2) ?_; clear hK K
      have hX2 := (hq.block w1.heap.size (by simp)).trans hX
      refine LU 11 fun K hK => ?_
      have hcv := u8str w2 w1.heap.size op (d + 16 * a) b 0 hX2
      go_simp
      refine LV hK (fun _ => h2) ?_; clear hK K
      refine LU 15 fun K hK => ?_
      go_simp
      refine LV hK (fun _ => h2) ?_; clear hK K
      refine LU 16 fun K hK => ?_
      go_simp
      refine LV hK (fun _ => h2) ?_; clear hK K
      refine LU 17 fun K hK => ?_
      go_simp
      refine LV hK (fun _ => h2) ?_; clear hK K
      refine E_done (by kernel_rfl) ?_ _
      have HBz := Lib.hid (HB1.out.trans (hB2.mono HB1.out.size))
      go_wp2
      first | go_ret2 | skip
      exact HFin.out _ HBz.out
  · go_simp
    go_at_call 309
    refine (HBy.out _).mono ?_
    rintro e w2 ⟨rfl, hq⟩
    have hB1 : Below w1.heap.size w1 w2 := hB0.trans (hq.mono (by have := hB0.size; first | exact this | simpa using this))
    have h1 := HS.out _ hB1
    refine LV hK (fun _ => h1) ?_; clear hK K
    refine LU 10 fun K hK => ?_
    go_simp
    have hB2 := hB1.alloc (by have := hB1.size; first | exact this | simpa using this) (.cells #[.int .u8 op, .int .u8 (d + 16 * a), .int .u8 b, .int .u8 0] 5)
    have h2 := HS.out _ hB2
    refine LV hK (fun _ => h2) ?_; clear hK K
    have hX : (w2.alloc (.cells #[.int .u8 op, .int .u8 (d + 16 * a), .int .u8 b, .int .u8 0] 5)).heap[w2.heap.size]? = some (.cells #[.int .u8 op, .int .u8 (d + 16 * a), .int .u8 b, .int .u8 0] 5 (0, 0)) := heap_alloc_new w2 _
    refine LU 11 fun K hK => ?_
    have hcv := u8str (w2.alloc (.cells #[.int .u8 op, .int .u8 (d + 16 * a), .int .u8 b, .int .u8 0] 5)) w2.heap.size op (d + 16 * a) b 0 hX
    go_simp
    refine LV hK (fun _ => h2) ?_; clear hK K
    refine LU 15 fun K hK => ?_
    go_simp
    refine LV hK (fun _ => h2) ?_; clear hK K
    refine LU 16 fun K hK => ?_
    go_simp
    refine LV hK (fun _ => h2) ?_; clear hK K
    refine LU 17 fun K hK => ?_
    go_simp
    refine LV hK (fun _ => h2) ?_; clear hK K
    refine E_done (by kernel_rfl) ?_ _
    have HBz := Lib.hid (HB1.out.trans (hB2.mono HB1.out.size))
    go_wp2
    first | go_ret2 | skip
    exact HFin.out _ HBz.out
set_option maxRecDepth 100000 in
theorem encode_no (x : Ins) (hx : x.ok) (hm : mayV x = false) (w : World) : Calls Tryz.prog 247 #[x.val] w fun e w' => e = .returned (.tuple #[.string ByteArray.empty, .int .i64 2]) ∧ Below w.heap.size w w' := by
  have hmay := may x hx
  rw [hm] at hmay
  obtain ⟨op, d, a, b, imm⟩ := x
  have hbW : Below w.heap.size w (w.alloc (.cells #[.int .u8 op, .int .u8 d, .int .u8 a, .int .u8 b, .int .u32 imm] 161)) := (Below.refl _ _).alloc (Nat.le_refl _) _
  have HB := Lib.hid hbW
  have HM := Lib.hid hmay
  clear hmay hm hx hbW
  unfold val at HM ⊢
  simp only at HM ⊢
  go_enter Tryz.func247, Tryz.ntmps247
  go_wp2_with fail
  refine (HM.out _).mono ?_
  rintro e w1 ⟨rfl, hb1⟩
  have HB1 := Lib.hid (below_th HB.out hb1)
  clear hb1
  go_wp2
  go_ret2
  exact ⟨rfl, HB1.out⟩
theorem encode (x : Ins) (hx : x.ok) (w : World) : Calls Tryz.prog 247 #[x.val] w fun e w' => e = .returned (.tuple #[.string (encS x), .int .i64 (encE x)]) ∧ Below w.heap.size w w' := by
  cases hm : mayV x with
  | true =>
    have e : encE x = 0 := by unfold encE; rw [if_pos hm]
    rw [e]
    exact encode_yes x hx hm w
  | false =>
    have e : encE x = 2 := by unfold encE; rw [hm]; rfl
    have e2 : encS x = ByteArray.empty := by unfold encS; rw [hm]; rfl
    rw [e, e2]
    exact encode_no x hx hm w
end Ins
end Go.Proofs.YtgdodbcpnmfnnaaGreat
namespace Go.Proofs.YtgdodbcpnmfnnaaGreat
open Go.RowKit Word
set_option linter.unusedSimpArgs false
set_option linter.unusedVariables false
namespace Cp
def z8 : List Int := List.replicate 8 0
theorem z8_len : z8.length = 8 := rfl
def insB (x : Ins) : List Int := if Ins.mayV x then Ins.encL x else z8
def textL (f : Nat → Ins) : Nat → List Int
  | 0 => []
  | k + 1 => textL f k ++ insB (f k)
theorem textL_len (f : Nat → Ins) (k : Nat) : (textL f k).length = 8 * k := by
  induction k with
  | zero => rfl
  | succ k ih =>
    unfold textL
    rw [List.length_append, ih]
    unfold insB
    split
    · rw [Ins.encL_len]; omega
    · rw [z8_len]; omega
theorem szN (xs : List Int) : (strOfNums xs).size = xs.length := by
  show (strOfNums xs).data.size = _
  rw [← Array.length_toList, strOfNums_data, List.length_map]
structure InsAt (w : World) (b off i : Nat) (x : Ins) : Prop where
  c0 : w.cell? ⟨b, off + i * 5, none⟩ = some (.int .u8 x.op)
  c1 : w.cell? ⟨b, off + i * 5 + 1, none⟩ = some (.int .u8 x.d)
  c2 : w.cell? ⟨b, off + i * 5 + 2, none⟩ = some (.int .u8 x.a)
  c3 : w.cell? ⟨b, off + i * 5 + 3, none⟩ = some (.int .u8 x.b)
  c4 : w.cell? ⟨b, off + i * 5 + 4, none⟩ = some (.int .u32 x.imm)
theorem InsAt.below {w w' : World} {b off i : Nat} {x : Ins} {B : Nat} (h : InsAt w b off i x) (hb : Below B w w') (hB : b < B) : InsAt w' b off i x := by
  have e : ∀ j, w'.cell? ⟨b, j, none⟩ = w.cell? ⟨b, j, none⟩ := fun j => World.cell?_of_block (hb.block _ hB)
  exact ⟨(e _).trans h.c0, (e _).trans h.c1, (e _).trans h.c2, (e _).trans h.c3, (e _).trans h.c4⟩
theorem InsAt.lt {w : World} {b off i : Nat} {x : Ins} (h : InsAt w b off i x) : b < w.heap.size := by
  have := h.c0
  unfold World.cell? at this
  cases hg : w.heap[b]? with
  | none => rw [hg] at this; cases this
  | some _ => exact lt_of_block hg
def Code (w : World) (a : Option Addr) (n : Nat) (f : Nat → Ins) : Prop := 0 < n → ∃ b off, a = some ⟨b, off, none⟩ ∧ ∀ i, i < n → InsAt w b off i (f i)
theorem Code.below {w w' : World} {a : Option Addr} {n : Nat} {f : Nat → Ins} (h : Code w a n f) (hb : Below w.heap.size w w') : Code w' a n f := fun hn => by
  obtain ⟨b, off, e, hc⟩ := h hn
  exact ⟨b, off, e, fun i hi => (hc i hi).below hb (hc i hi).lt⟩
def txRel (w : World) (f : Nat → Ins) (n : Nat) (vs vi : Value) (wr : World) : Prop :=
  ∃ k : Nat, k ≤ n ∧ vi = .int .i64 k ∧ vs = .string (strOfNums (textL f k)) ∧ Below w.heap.size w wr
theorem zero8 (W : World) (b : Nat) (h : W.heap[b]? = some (.cells (Sp.fillL [] 8).toArray 5 (0, 0))) :
    (convert 60 9 (.slice (some ⟨b, 0, none⟩) 8 8)).run Tryz.prog W = .ok (.string (strOfNums (z8))) W := by
  refine run_convert_bytes_arg W 60 5 Tryz.underlying60 Tryz.underlying5 b 0 8 8 (z8) rfl (fun i hi => ?_) 9 Tryz.underlying9
  unfold World.cell?
  rw [h, Sp.fillL_zero]
  have : i = 0 ∨ i = 1 ∨ i = 2 ∨ i = 3 ∨ i = 4 ∨ i = 5 ∨ i = 6 ∨ i = 7 := by omega
  rcases this with rfl | rfl | rfl | rfl | rfl | rfl | rfl | rfl <;> rfl
set_option maxRecDepth 100000 in
set_option maxHeartbeats 1000000 in
theorem text (w : World) (a : Option Addr) (n cap : Nat) (f : Nat → Ins) (hc : Code w a n f) (hok : ∀ i, i < n → (f i).ok) (hn : n ≤ 1000) :
    Calls Tryz.prog 169 #[.slice a n cap] w fun e w' => e = .returned (.string (strOfNums (textL f n))) ∧ Below w.heap.size w w' := by
  have HC := Lib.hid hc
  have HO := Lib.hid hok
  clear hc hok
  go_enter Tryz.func169, Tryz.ntmps169
  go_wp2
  go_loopw [3, 4] (fun vs vi wr => txRel w f n vs vi wr) (fun _ vi _ => n - (intOf vi).toNat)
  case atStart => exact ⟨0, Nat.zero_le _, by go_num, rfl, Below.refl _ _⟩
  case round =>
    obtain ⟨k, hk, rfl, rfl, hb⟩ := hrel
    by_cases hk2 : k < n
    · obtain ⟨b, off, rfl, hcl⟩ := HC.out (by omega)
      have hia := (hcl k hk2).below hb (hcl k hk2).lt
      have hxo := HO.out k hk2
      have he := Ins.encode (f k) hxo wr
      have hT : textL f (k + 1) = textL f k ++ insB (f k) := rfl
      generalize f k = x at *
      obtain ⟨c0, c1, c2, c3, c4⟩ := hia
      have HE := Lib.hid he
      have HB := Lib.hid hb
      have HT := Lib.hid hT
      clear hcl he hb hT hxo
      obtain ⟨op, d, a, b', imm⟩ := x
      simp only at c0 c1 c2 c3 c4
      cases hm : Ins.mayV ⟨op, d, a, b', imm⟩ with
      | true =>
        have e1 : Ins.encE ⟨op, d, a, b', imm⟩ = 0 := by unfold Ins.encE; rw [hm]; rfl
        have e2 : Ins.encS ⟨op, d, a, b', imm⟩ = strOfNums (Ins.encL ⟨op, d, a, b', imm⟩) := by unfold Ins.encS; rw [if_pos hm]
        have e3 : insB ⟨op, d, a, b', imm⟩ = Ins.encL ⟨op, d, a, b', imm⟩ := by unfold insB; rw [if_pos hm]
        rw [e3] at HT
        rw [e1, e2] at HE
        clear e1 e2 e3 hm
        unfold Ins.val at HE
        simp only at HE
        go_wp2_with fail
        refine HE.out.mono ?_
        rintro e w1 ⟨rfl, hb1⟩
        have HB1 := Lib.hid (HB.out.trans (hb1.mono HB.out.size))
        clear hb1
        have hz1 : ((strOfNums (textL f k)).size : Int) ≤ 8388608 := by rw [szN, textL_len]; omega
        have hz2 : ((strOfNums (Ins.encL ⟨op, d, a, b', imm⟩)).size : Int) ≤ 8388608 := by rw [szN, Ins.encL_len]; omega
        go_wp2
        refine ⟨⟨k + 1, by omega, by go_num, ?_, HB1.out⟩, by simp [intOf]; omega⟩
        rw [HT.out, Ins.strOfNums_app]
      | false =>
        have e1 : Ins.encE ⟨op, d, a, b', imm⟩ = 2 := by unfold Ins.encE; rw [hm]; rfl
        have e3 : insB ⟨op, d, a, b', imm⟩ = z8 := by unfold insB; rw [hm]; rfl
        rw [e3] at HT
        rw [e1] at HE
        clear e1 e3 hm
        unfold Ins.val at HE
        simp only at HE
        go_wp2_with fail
        refine HE.out.mono ?_
        rintro e w1 ⟨rfl, hb1⟩
        have HB1 := Lib.hid (HB.out.trans (hb1.mono HB.out.size))
        clear hb1
        have hmk : (Instr.makeSlice 60 (.int .i64 8) (.int .i64 8)).run Tryz.prog w1 = .ok (.slice (some ⟨w1.heap.size, 0, none⟩) 8 8) (w1.alloc (.cells (Sp.fillL [] 8).toArray 5)) := Sp.run_made 8 (by omega) w1
        have hz1 : ((strOfNums (textL f k)).size : Int) ≤ 8388608 := by rw [szN, textL_len]; omega
        have hz2 : ((strOfNums (z8)).size : Int) ≤ 8388608 := by rw [szN, z8_len]; omega
        have hcv := zero8 (w1.alloc (.cells (Sp.fillL [] 8).toArray 5)) w1.heap.size (heap_alloc_new w1 _)
        go_wp2
        refine ⟨⟨k + 1, by omega, by go_num, ?_, HB1.out.alloc HB1.out.size _⟩, by simp [intOf]; omega⟩
        rw [HT.out, Ins.strOfNums_app]
    · obtain rfl : k = n := by omega
      have HB := Lib.hid hb
      clear hb
      go_wp2
      go_ret
      exact ⟨rfl, HB.out⟩
end Cp
end Go.Proofs.YtgdodbcpnmfnnaaGreat
namespace Go.Proofs.YtgdodbcpnmfnnaaGreat
open Go.RowKit Word
set_option linter.unusedSimpArgs false
set_option linter.unusedVariables false
namespace Cp
def RowN (k : IntKind) (w : World) (a : Option Addr) (n : Nat) (f : Nat → Int) : Prop := 0 < n → ∃ b off, a = some ⟨b, off, none⟩ ∧ b < w.heap.size ∧ ∀ i, i < n → w.cell? ⟨b, off + i, none⟩ = some (.int k (f i))
structure St where
  ra : Option Addr
  rn : Nat
  rcap : Nat
  rf : Nat → Int
  pc : Int
  pa : Option Addr
  pn : Nat
  pcap : Nat
  pf : Nat → Int
  at' : Int
  ca : Option Addr
  cn : Nat
  ccap : Nat
  cf : Nat → Ins
  wh : Int
  text : ByteArray
def St.cells (x : St) : Array Value := #[.slice x.ra x.rn x.rcap, .int .u32 x.pc, .slice x.pa x.pn x.pcap, .int .u16 x.at', .slice x.ca x.cn x.ccap, .int .u16 x.wh, .string x.text]
structure St.ok (w : World) (x : St) : Prop where
  rrow : RowN .u32 w x.ra x.rn x.rf
  rbd : ∀ i, i < x.rn → 0 ≤ x.rf i ∧ x.rf i ≤ 4294967295
  rlen : x.rn ≤ 9223372036854775807
  p0 : 0 ≤ x.pc
  p1 : x.pc ≤ 4294967295
  prow : RowN .u8 w x.pa x.pn x.pf
  pbd : ∀ i, i < x.pn → 0 ≤ x.pf i ∧ x.pf i ≤ 255
  plen : x.pn ≤ 16
  a0 : 0 ≤ x.at'
  a1 : x.at' ≤ 65535
  crow : Code w x.ca x.cn x.cf
  cbd : ∀ i, i < x.cn → (x.cf i).ok
  clen : x.cn ≤ 1000
  w0 : 0 ≤ x.wh
  w1 : x.wh ≤ 65535
  tlen : x.text.size ≤ 65536
def St.regs (x : St) : List Int := regsK x.rf (min x.rn 16)
def St.pgs (x : St) : List Pg := madeA x.pf x.pn x.at' (strOfNums (textL x.cf x.cn)) x.wh x.text
def MadePost (w : World) (x : St) (e : Ending) (w' : World) : Prop :=
  ∃ (cb sb mb : Nat) (A : List Pg) (db rb : Nat) (lv : Value) (R : List Rp), e = .returned (.tuple #[.pointer (some ⟨cb, 0, none⟩), .pointer (some ⟨sb, 0, none⟩), .pointer (some ⟨db, 0, none⟩), .pointer (some ⟨rb, 0, none⟩), .bool true]) ∧
    Duo w w' cb sb mb A x.regs x.pc db rb lv R x.regs x.pc ∧ cores A = cores (rpgs R) ∧ cores A = cores x.pgs
structure StBox (w : World) (b : Nat) (x : St) : Prop where
  blk : w.heap[b]? = some (.cells x.cells 63 (0, 0))
theorem StBox.cells {w : World} {b : Nat} {x : St} (h : StBox w b x) : w.cell? ⟨b, 0, none⟩ = some (.slice x.ra x.rn x.rcap) ∧ w.cell? ⟨b, 1, none⟩ = some (.int .u32 x.pc) ∧ w.cell? ⟨b, 2, none⟩ = some (.slice x.pa x.pn x.pcap) ∧ w.cell? ⟨b, 3, none⟩ = some (.int .u16 x.at') ∧ w.cell? ⟨b, 4, none⟩ = some (.slice x.ca x.cn x.ccap) ∧ w.cell? ⟨b, 5, none⟩ = some (.int .u16 x.wh) ∧ w.cell? ⟨b, 6, none⟩ = some (.string x.text) := by
  unfold World.cell?
  rw [h.blk]
  exact ⟨rfl, rfl, rfl, rfl, rfl, rfl, rfl⟩
theorem StBox.below {w w' : World} {b : Nat} {x : St} {B : Nat} (h : StBox w b x) (hb : Below B w w') (hB : b < B) : StBox w' b x := ⟨(hb.block _ hB).trans h.blk⟩
def m1Rel (w0 : World) (x : St) (cb sb mb db rb : Nat) (vi : Value) (wr : World) : Prop :=
  ∃ k : Nat, k ≤ x.rn ∧ k ≤ 16 ∧ vi = .int .i64 k ∧ Duo w0 wr cb sb mb [] (regsK x.rf k) x.pc db rb (.slice none 0 0) [] (regsK x.rf k) x.pc
def m2Rel (w0 : World) (x : St) (cb sb mb db rb : Nat) (vi : Value) (wr : World) : Prop :=
  ∃ (k : Nat) (A : List Pg) (lv : Value) (R : List Rp), k ≤ x.pn ∧ vi = .int .i64 k ∧ Duo w0 wr cb sb mb A x.regs x.pc db rb lv R x.regs x.pc ∧ cores A = cores (rpgs R) ∧ cores A = cores (pgsK x.pf k)
set_option maxRecDepth 100000 in
set_option maxHeartbeats 4000000 in
theorem made (w : World) (x : St) (hx : x.ok w) : Calls Tryz.prog 67 #[.agg x.cells] w (MadePost w x) := by
  have HFin : Hid (∀ (cb sb mb : Nat) (A : List Pg) (db rb : Nat) (lv : Value) (R : List Rp) w', Duo w w' cb sb mb A x.regs x.pc db rb lv R x.regs x.pc → cores A = cores (rpgs R) → cores A = cores x.pgs → MadePost w x (.returned (.tuple #[.pointer (some ⟨cb, 0, none⟩), .pointer (some ⟨sb, 0, none⟩), .pointer (some ⟨db, 0, none⟩), .pointer (some ⟨rb, 0, none⟩), .bool true])) w') :=
    Lib.hid fun cb sb mb A db rb lv R w' h1 h2 h3 => ⟨cb, sb, mb, A, db, rb, lv, R, rfl, h1, h2, h3⟩
  generalize MadePost w x = PQ at *
  have HX := Lib.hid hx
  have hp0 := hx.p0
  have hp1 := hx.p1
  generalize hW : w.alloc (.cells x.cells 63) = W
  have hb : Below w.heap.size w W := by rw [← hW]; exact (Below.refl _ _).alloc (Nat.le_refl _) _
  have hbx : StBox W w.heap.size x := by rw [← hW]; exact ⟨heap_alloc_new w _⟩
  have hsz : W.heap.size = w.heap.size + 1 := by rw [← hW]; simp
  have HB := Lib.hid hb
  have HBx := Lib.hid hbx
  obtain ⟨b0, b1, b2, b3, b4, b5, b6⟩ := hbx.cells
  clear hb hbx hx
  unfold St.cells at hW ⊢
  go_enter Tryz.func67, Tryz.ntmps67
  go_wp2_with fail
  refine (new x.pc hp0 hp1 W).mono ?_
  rintro e w1 ⟨rfl, hc1, hb1⟩
  have hz1 := hb1.size
  have HC1 := Lib.hid hc1
  have hlt1 := hc1.lt
  have HB1 := Lib.hid hb1
  have HBx1 := Lib.hid (HBx.out.below hb1 (by omega))
  clear hc1 hb1 b0 b1 b2 b3 b4 b5 b6
  go_wp2_with fail
  refine (Sp.new w1).mono ?_
  rintro e w2 ⟨rfl, hs2, hb2, hz2⟩
  have hz2' := hb2.size
  have HS2 := Lib.hid hs2
  have HB2 := Lib.hid (HB1.out.trans (hb2.mono HB1.out.size))
  have HC2 := Lib.hid (HC1.out.below hb2)
  have hbx2 := HBx1.out.below hb2 (by omega)
  obtain ⟨b0, b1, b2, b3, b4, b5, b6⟩ := hbx2.cells
  have HBx2 := Lib.hid hbx2
  clear hs2 hb2 hbx2 HBx1 HC1 HB1
  go_wp2
  have hD : Duo W ((w2.alloc (.cells #[.int .u32 0, .int .u32 0, .int .u32 0, .int .u32 0, .int .u32 0, .int .u32 0, .int .u32 0, .int .u32 0, .int .u32 0, .int .u32 0, .int .u32 0, .int .u32 0, .int .u32 0, .int .u32 0, .int .u32 0, .int .u32 0, .int .u32 x.pc] 174)).alloc (.cells #[.slice none 0 0] 207))
      (w.heap.size + 1) (w1.heap.size + 1) w1.heap.size [] (List.replicate 16 0) x.pc (w1.heap.size + 2) (w1.heap.size + 2 + 1) (.slice none 0 0) [] (List.replicate 16 0) x.pc := by
    have hb4 : Below w2.heap.size w2 ((w2.alloc (.cells #[.int .u32 0, .int .u32 0, .int .u32 0, .int .u32 0, .int .u32 0, .int .u32 0, .int .u32 0, .int .u32 0, .int .u32 0, .int .u32 0, .int .u32 0, .int .u32 0, .int .u32 0, .int .u32 0, .int .u32 0, .int .u32 0, .int .u32 x.pc] 174)).alloc (.cells #[.slice none 0 0] 207)) := ((Below.refl _ _).alloc (Nat.le_refl _) _).alloc (by simp) _
    have hl := HS2.out.lt (.inl rfl)
    have hc1 := HC2.out.lt
    have hd : Cpu 174 ((w2.alloc (.cells #[.int .u32 0, .int .u32 0, .int .u32 0, .int .u32 0, .int .u32 0, .int .u32 0, .int .u32 0, .int .u32 0, .int .u32 0, .int .u32 0, .int .u32 0, .int .u32 0, .int .u32 0, .int .u32 0, .int .u32 0, .int .u32 0, .int .u32 x.pc] 174)).alloc (.cells #[.slice none 0 0] 207)) (w1.heap.size + 2) (List.replicate 16 0) x.pc := by
      refine ⟨?_, ⟨rfl, fun x hx => ?_⟩, hp0, hp1⟩
      · rw [← hz2, Below.heap_alloc _ _ _ (by simp)]
        exact heap_alloc_new w2 _
      · have := List.eq_of_mem_replicate hx
        omega
    have hr := heap_alloc_new (w2.alloc (.cells #[.int .u32 0, .int .u32 0, .int .u32 0, .int .u32 0, .int .u32 0, .int .u32 0, .int .u32 0, .int .u32 0, .int .u32 0, .int .u32 0, .int .u32 0, .int .u32 0, .int .u32 0, .int .u32 0, .int .u32 0, .int .u32 0, .int .u32 x.pc] 174)) (.cells #[.slice none 0 0] 207)
    rw [show (w2.alloc (.cells #[.int .u32 0, .int .u32 0, .int .u32 0, .int .u32 0, .int .u32 0, .int .u32 0, .int .u32 0, .int .u32 0, .int .u32 0, .int .u32 0, .int .u32 0, .int .u32 0, .int .u32 0, .int .u32 0, .int .u32 0, .int .u32 0, .int .u32 x.pc] 174)).heap.size = w1.heap.size + 2 + 1 by simp [hz2]] at hr
    have fa : ∀ k, Spc.foot (w1.heap.size + 1) w1.heap.size [] k → k = w1.heap.size + 1 ∨ k = w1.heap.size := fun k hk => by
      rcases hk with g | g | ⟨p, g, _⟩
      · exact .inl g
      · exact .inr g
      · cases g
    have fr : ∀ k, Rsp.foot (w1.heap.size + 2 + 1) (.slice none 0 0) [] k → k = w1.heap.size + 2 + 1 := fun k hk => by
      rcases hk with g | g | ⟨q, g, _⟩
      · exact g
      · cases g
      · cases g
    have hcp := HC2.out.below hb4
    rw [hsz] at hcp
    refine ⟨hcp, hd, ⟨HS2.out.below hb4 fun _ hk => HS2.out.lt hk, rsp_nil hr, fun k hk g => ?_⟩, HB2.out.trans (hb4.mono HB2.out.size), by omega, by omega, fun k hk => ?_, fun k hk => ?_, by omega, fun g => ?_, fun g => ?_, fun g => ?_, fun g => ?_⟩
    · have := fa k hk; have := fr k g; omega
    · have := fa k hk; omega
    · have := fr k hk; omega
    · have := fa _ g; omega
    · have := fr _ g; omega
    · have := fa _ g; omega
    · have := fr _ g; omega
  rw [← regsK_zero x.rf] at hD
  have HD := Lib.hid hD
  have hwl : w.heap.size < W.heap.size := by omega
  clear hD b0 b1 b2 b3 b4 b5 b6 HBx2 HC2 HB2 HS2 hz2 hz2' hz1 hlt1 hsz hW
  have HRow : Hid (∀ wr, Below W.heap.size W wr → RowN .u32 wr x.ra x.rn x.rf ∧ RowN .u8 wr x.pa x.pn x.pf ∧ Code wr x.ca x.cn x.cf ∧ StBox wr w.heap.size x) := Lib.hid fun wr hb => by
    have hbw := HB.out.trans (hb.mono HB.out.size)
    refine ⟨fun hn => ?_, fun hn => ?_, HX.out.crow.below hbw, HBx.out.below hb hwl⟩
    · obtain ⟨b, off, e, hbl, hc⟩ := HX.out.rrow hn
      exact ⟨b, off, e, Nat.lt_of_lt_of_le hbl hbw.size, fun i hi => (World.cell?_of_block (w := w) (hbw.block b hbl)).trans (hc i hi)⟩
    · obtain ⟨b, off, e, hbl, hc⟩ := HX.out.prow hn
      exact ⟨b, off, e, Nat.lt_of_lt_of_le hbl hbw.size, fun i hi => (World.cell?_of_block (w := w) (hbw.block b hbl)).trans (hc i hi)⟩
  generalize w.heap.size + 1 = cb at *
  generalize w1.heap.size + 1 = sb at *
  generalize w1.heap.size + 2 + 1 = rb at *
  generalize w1.heap.size + 2 = db at *
  generalize w1.heap.size = mb at *
  go_loopw [11] (fun vi wr => m1Rel W x cb sb mb db rb vi wr) (fun vi _ => 16 - (intOf vi).toNat)
  case atStart => exact ⟨0, Nat.zero_le _, by omega, by go_num, HD.out⟩
  case round =>
    clear HD
    obtain ⟨k, hk1, hk2, rfl, hd⟩ := hrel
    obtain ⟨hrr, _, _, hbx⟩ := HRow.out wr hd.bel
    obtain ⟨b0, b1, b2, b3, b4, b5, b6⟩ := hbx.cells
    have hrl := HX.out.rlen
    have HDk := Lib.hid hd
    by_cases hk34 : k < x.rn ∧ k < 16
    · obtain ⟨hk3, hk4⟩ := hk34
      · have hv := HX.out.rbd k hk3
        obtain ⟨b, off, hra, hbl, hcl⟩ := hrr (by omega)
        have hcv := hcl k hk3
        rw [hra] at b0
        have hks := regsK_succ x.rf k hk4
        have HR2 : Hid (∀ w4, Duo W w4 cb sb mb [] (regsK x.rf (k + 1)) x.pc db rb (.slice none 0 0) [] (regsK x.rf k) x.pc → w4.cell? ⟨w.heap.size, 0, none⟩ = some (.slice (some ⟨b, off, none⟩) x.rn x.rcap) ∧ w4.cell? ⟨b, off + k, none⟩ = some (.int .u32 (x.rf k))) := Lib.hid fun w4 h4 => by
          obtain ⟨hrr4, _, _, hbx4⟩ := HRow.out w4 h4.bel
          obtain ⟨b', off', hra', _, hcl'⟩ := hrr4 (by omega)
          rw [hra] at hra'
          cases hra'
          exact ⟨hra ▸ hbx4.cells.1, hcl' k hk3⟩
        have Hks := Lib.hid hks
        have Hv := Lib.hid hv
        clear hd hrr hbx hcl hks hv hra
        generalize x.rf k = v at *
        go_wp2_with fail
        refine (setReg_ok HDk.out.cp k hk4 v Hv.out.1 Hv.out.2).mono ?_
        rintro e w4 ⟨rfl, hc4, hm4⟩
        rw [Hks.out] at hc4
        have hd4 := HDk.out.setC hc4 hm4
        obtain ⟨e0, e1⟩ := HR2.out w4 hd4
        have HD4 := Lib.hid hd4
        clear hc4 hm4 hd4 HDk b0 b1 b2 b3 b4 b5 b6 hcv
        by_cases hk0 : k = 0
        · subst hk0
          go_wp2
          refine ⟨⟨1, by omega, by omega, by go_num, ?_⟩, by simp [intOf]⟩
          exact HD4.out
        · have hk5 : decide (0 < (k : Int)) = true := decide_eq_true (by omega)
          have hk6 : (k : Int) < 16 := by omega
          have g1 := HD4.out.dp.cellReg k hk4
          have g2 := HD4.out.dp.thaw k
          have HS4 := Lib.hid (HD4.out.dp.setReg k hk4 v Hv.out.1 Hv.out.2)
          rw [← putG_nat _ _ _ hk0, Hks.out] at HS4
          go_wp2_with fail
          go_region
          all_goals
            go_wp2
            refine ⟨⟨k + 1, by omega, by omega, by go_num, ?_⟩, by simp [intOf]; omega⟩
            exact (HD4.out.setD HS4.out (Mod.setCell (F := fun j => j = db) (Mod.refl _ _) _ (.inl rfl) _)).below ((Below.refl _ _).drew)
    · have hkm : k = min x.rn 16 := by omega
      have hreg : regsK x.rf k = x.regs := by unfold St.regs; rw [hkm]
      have hor : ¬ (k < x.rn) ∨ ((k : Int) < x.rn ∧ ¬ ((k : Int) < 16)) := by omega
      rw [hreg] at hd
      have HD := Lib.hid hd
      clear hd hrr hbx HDk hreg hkm hk34 hk1 hk2
      rcases hor with hg | ⟨hg, hg2⟩
      all_goals
        go_wp2_with fail
        go_loopw [12] (fun vi wr => m2Rel W x cb sb mb db rb vi wr) (fun vi _ => x.pn - (intOf vi).toNat)
        case atStart => exact ⟨0, [], _, [], Nat.zero_le _, by go_num, HD.out, rfl, rfl⟩
        case round =>
          clear HD b0 b1 b2 b3 b4 b5 b6
          obtain ⟨j, A, lv, R, hj, rfl, hd, he, hk⟩ := hrel
          obtain ⟨_, hpr, hcr, hbx⟩ := HRow.out _ hd.bel
          obtain ⟨b0, b1, b2, b3, b4, b5, b6⟩ := hbx.cells
          have HDk := Lib.hid hd
          have HCr := Lib.hid hcr
          have HE := Lib.hid he
          have HK := Lib.hid hk
          have hpn := HX.out.plen
          clear hd he hk hbx hcr
          by_cases hj2 : j < x.pn
          · have hv := HX.out.pbd j hj2
            obtain ⟨b, off, hpa, hbl, hcl⟩ := hpr (by omega)
            have hcv := hcl j hj2
            rw [hpa] at b2
            have HR2 : Hid (∀ w4 A4 lv4 R4, Duo W w4 cb sb mb A4 x.regs x.pc db rb lv4 R4 x.regs x.pc → w4.cell? ⟨w.heap.size, 2, none⟩ = some (.slice (some ⟨b, off, none⟩) x.pn x.pcap) ∧ w4.cell? ⟨b, off + j, none⟩ = some (.int .u8 (x.pf j))) := Lib.hid fun w4 A4 lv4 R4 h4 => by
              obtain ⟨_, hpr4, _, hbx4⟩ := HRow.out w4 h4.bel
              obtain ⟨b', off', hpa', _, hcl'⟩ := hpr4 (by omega)
              rw [hpa] at hpa'
              cases hpa'
              exact ⟨hpa ▸ hbx4.cells.2.2.1, hcl' j hj2⟩
            have hw1 : IntKind.u32.wrap (j : Int) = j := by rw [IntKind.wrap_u32']; omega
            have hw2 : IntKind.u32.wrap ((j : Int) * 256) = j * 256 := by rw [IntKind.wrap_u32']; omega
            have hw3 : (j : Int) % 4294967296 = j := by omega
            have hw4 : (j : Int) * 256 % 4294967296 = j * 256 := by omega
            have HPs : Hid (pgsK x.pf (j + 1) = if x.pf j < 8 then Sp.mapA (pgsK x.pf j) (j * 256) 0 (x.pf j) else pgsK x.pf j) := Lib.hid rfl
            have HFree : Hid (x.pf j < 8 → Sp.mapE (pgsK x.pf j) (j * 256) (x.pf j) = 0) := Lib.hid fun h8 => pgsK_free x.pf j (by omega) hv.1 h8
            have Hv := Lib.hid hv
            clear hcl hv hpa hpr
            generalize x.pf j = v at *
            by_cases hv8 : v < 8
            · have hE1 : Sp.mapE A (j * 256) v = 0 := by rw [Cor.mapE HK.out]; exact HFree.out hv8
              have hE2 : Sp.mapE (rpgs R) (j * 256) v = 0 := by rw [← Cor.mapE HE.out]; exact hE1
              go_wp2_with fail
              refine (Sp.s_map HDk.out.pair.sp (j * 256) v (by omega) (by omega) Hv.out.1 Hv.out.2).mono ?_
              rintro e w4 ⟨blk, rfl, hs4⟩
              rw [hE1]
              have hd4 := HDk.out.left hs4
              obtain ⟨e0, e1⟩ := HR2.out w4 _ _ _ hd4
              have HD4 := Lib.hid hd4
              clear hs4 hd4 HDk b0 b1 b2 b3 b4 b5 b6 hcv
              go_wp2_with fail
              refine (Rs.map_any HD4.out.pair.rp (j * 256) v (by omega) (by omega) Hv.out.1 Hv.out.2).mono ?_
              rintro e w5 ⟨lv5, R5, blk5, rfl, hR5, hs5⟩
              rw [hE2]
              have HD5 := Lib.hid (HD4.out.right hs5)
              have HR5 := Lib.hid hR5
              clear hs5 HD4 e0 e1 hR5
              go_wp2
              refine ⟨⟨j + 1, _, lv5, R5, by omega, by go_num, HD5.out, ?_, ?_⟩, by simp [intOf]; omega⟩
              · rw [HR5.out]
                exact Cor.mapA HE.out _ _ _ _
              · rw [HPs.out, if_pos hv8]
                exact Cor.mapA HK.out _ _ _ _
            · have hv9 : decide (v < 8) = false := decide_eq_false hv8
              go_wp2
              refine ⟨⟨j + 1, A, lv, R, by omega, by go_num, HDk.out, HE.out, ?_⟩, by simp [intOf]; omega⟩
              rw [HPs.out, if_neg hv8]
              exact HK.out
          · obtain rfl : j = x.pn := by omega
            have ha0 := HX.out.a0
            have ha1 := HX.out.a1
            have hw0 := HX.out.w0
            have hw1 := HX.out.w1
            have hm1 : (x.at').tmod 4096 = x.at' % 4096 := Int.tmod_eq_emod_of_nonneg ha0
            have hm2 : (x.wh).tmod 4096 = x.wh % 4096 := Int.tmod_eq_emod_of_nonneg hw0
            have hm3 : x.at' % 4294967296 = x.at' := by omega
            have hm4 : x.wh % 4294967296 = x.wh := by omega
            go_wp2_with fail
            go_region
            go_wp2_with fail
            have HT : Hid (∀ V A5 lv5 R5, Duo W V cb sb mb A5 x.regs x.pc db rb lv5 R5 x.regs x.pc → V.cell? ⟨w.heap.size, 6, none⟩ = some (.string x.text)) := Lib.hid fun V A5 lv5 R5 h5 => by
              obtain ⟨_, _, _, hbx5⟩ := HRow.out V h5.bel
              exact hbx5.cells.2.2.2.2.2.2
            refine (text _ x.ca x.cn x.ccap x.cf (HCr.out.below (Below.refl _ _).drew) HX.out.cbd HX.out.clen).mono ?_
            rintro e w5 ⟨rfl, hb5⟩
            have hSsz : (strOfNums (textL x.cf x.cn)).size ≤ 140737488355328 := by rw [szN, textL_len]; have := HX.out.clen; omega
            have hTsz : x.text.size ≤ 140737488355328 := by have := HX.out.tlen; omega
            have HPg : Hid (x.pgs = Sp.putA (Sp.putA (pgsK x.pf x.pn) (x.at' % 4096) 0 (strOfNums (textL x.cf x.cn))) (x.wh % 4096) 0 x.text) := Lib.hid rfl
            have hA0 : 0 ≤ x.at' % 4096 := by omega
            have hA1 : x.at' % 4096 ≤ 4294967295 := by omega
            have hA2 : 0 ≤ x.wh % 4096 := by omega
            have hA3 : x.wh % 4096 ≤ 4294967295 := by omega
            have hd5 := (HDk.out.below (Below.refl _ _).drew).below hb5
            have HD5 := Lib.hid hd5
            have hd6 := hd5.below (Below.refl _ _).drew
            have HD6 := Lib.hid hd6
            have t5 := HT.out _ _ _ _ hd5
            have t6 := HT.out _ _ _ _ hd6
            clear hd5 hd6 hb5 HDk b0 b1 b2 b3 b4 b5 b6 HCr hm1 hm2 hm3 hm4
            generalize strOfNums (textL x.cf x.cn) = S at *
            generalize x.at' % 4096 = AT at *
            generalize x.wh % 4096 = WH at *
            go_wp2_with fail
            go_region_held3 (fun w' => w'.cell? ⟨w.heap.size, 6, none⟩ = some (.string x.text))
              (first
                | exact t5
                | exact t6
                | exact t7
                | exact t8
                | exact t9
                | exact t10)
              (first
                | (go_at_call 99
                   (with_reducible refine (Sp.s_set HD6.out.pair.sp AT S hA0 hA1 hSsz).mono ?_)
                   rintro e w7 ⟨rfl, hs7⟩
                   have hd7 := HD6.out.left hs7
                   have t7 := HT.out _ _ _ _ hd7)
                | (go_at_call 109
                   (with_reducible refine (Rs.put_in hd7.pair.rp AT 0 S hA0 hA1 hSsz (by omega) (by omega)).mono ?_)
                   rintro e w8 ⟨R8, rfl, hR8, hs8⟩
                   rw [← Cor.fitsE HE.out]
                   have he8 := Cor.putA HE.out AT 0 S
                   rw [← hR8] at he8
                   have hk8 := Cor.putA HK.out AT 0 S
                   have hd8 := hd7.right hs8
                   have t8 := HT.out _ _ _ _ hd8)
                | (go_at_call 99
                   (with_reducible refine (Sp.s_set hd8.pair.sp WH x.text hA2 hA3 hTsz).mono ?_)
                   rintro e w9 ⟨rfl, hs9⟩
                   have hd9 := hd8.left hs9
                   have t9 := HT.out _ _ _ _ hd9)
                | (go_at_call 109
                   (with_reducible refine (Rs.put_in hd9.pair.rp WH 0 x.text hA2 hA3 hTsz (by omega) (by omega)).mono ?_)
                   rintro e w10 ⟨R10, rfl, hR10, hs10⟩
                   rw [← Cor.fitsE he8]
                   have he10 := Cor.putA he8 WH 0 x.text
                   rw [← hR10] at he10
                   have hk10 := Cor.putA hk8 WH 0 x.text
                   have hd10 := hd9.right hs10
                   have t10 := HT.out _ _ _ _ hd10))
            all_goals
              have HD10 := Lib.hid (hd10.weaken HB.out)
              have HE10 := Lib.hid he10
              rw [← HPg.out] at hk10
              have HK10 := Lib.hid hk10
              clear hd10 he10 hk10 hd9 hd8 hd7 t5 t6 t7 t8 t9 t10 he8 hk8 hR8 hR10 hs7 hs8 hs9 hs10
              go_wp2
              refine bodyPost_ret (v := .tuple #[.pointer (some ⟨cb, 0, none⟩), .pointer (some ⟨sb, 0, none⟩), .pointer (some ⟨db, 0, none⟩), .pointer (some ⟨rb, 0, none⟩), .bool true]) (by simp [results, Tryz.results67]) rfl ?_
              exact HFin.out cb sb mb _ db rb _ R10 _ HD10.out HE10.out HK10.out
end Cp
end Go.Proofs.YtgdodbcpnmfnnaaGreat
namespace Go.Proofs.YtgdodbcpnmfnnaaGreat
open Go.RowKit Word
set_option linter.unusedVariables false
set_option linter.unusedSimpArgs false
namespace Cp
theorem regsK_regs (r : List Int) (hl : r.length = 16) (h0 : rg r 0 = 0) : regsK (fun i => rg r i) 16 = r := by
  apply List.ext_getElem?
  intro n
  unfold regsK
  by_cases hn : n < 16
  · simp only [List.getElem?_map, List.getElem?_range hn, Option.map_some]
    have hr : r[n]? = some (rg r n) := by
      unfold rg
      rw [Int.toNat_natCast, List.getD, List.getElem?_eq_getElem (by omega)]
      rfl
    rw [hr]
    by_cases g : 0 < n
    · rw [if_pos ⟨g, hn⟩]
    · obtain rfl : n = 0 := by omega
      rw [if_neg (by omega)]
      exact congrArg some h0.symm
  · rw [List.getElem?_eq_none (by simp; omega), List.getElem?_eq_none (by omega)]
def St.env (num : Int) (x : St) : En := ⟨num, 2, 0, 0, ByteArray.empty, [], x.pgs, x.regs, x.pc⟩
end Cp
end Go.Proofs.YtgdodbcpnmfnnaaGreat
namespace Go.Proofs.YtgdodbcpnmfnnaaGreat
open Go.RowKit Word
set_option linter.unusedVariables false
set_option linter.unusedSimpArgs false
section
variable {α : Type} {a x : α} {l : List α} {i : Nat}
theorem Za (h : i < l.toArray.size) : l.toArray[i] = l[i]'(by simpa using h) := List.getElem_toArray h
theorem Zb (h : i + 1 < (a :: l).length) : (a :: l)[i + 1] = l[i]'(Nat.lt_of_succ_lt_succ h) := List.getElem_cons_succ ..
theorem Zc (h : 0 < (a :: l).length) : (a :: l)[0] = a := rfl
theorem Zd : l.toArray.setIfInBounds i x = (l.set i x).toArray := List.setIfInBounds_toArray ..
theorem Ze : (a :: l).set 0 x = x :: l := rfl
theorem Zf : (a :: l).set (i + 1) x = a :: l.set i x := rfl
end
end Go.Proofs.YtgdodbcpnmfnnaaGreat
namespace Go.Proofs.YtgdodbcpnmfnnaaGreat
open Go.RowKit Word
set_option linter.unusedVariables false
set_option linter.unusedSimpArgs false
theorem kindOf (k c y : Int) (V : World) : (Instr.field 176 (.agg #[.int .u8 k, .int .u32 c, .int .i64 y]) 0).run Tryz.prog V = .ok (.int .u8 k) V := by kernel_rfl
end Go.Proofs.YtgdodbcpnmfnnaaGreat
namespace Go.Proofs.YtgdodbcpnmfnnaaGreat
open Go.RowKit Word
set_option linter.unusedVariables false
set_option linter.unusedSimpArgs false
end Go.Proofs.YtgdodbcpnmfnnaaGreat
namespace Go.Proofs.YtgdodbcpnmfnnaaGreat
open Go.RowKit Word
set_option linter.unusedVariables false
namespace Cp
open Kp (Ok)
inductive Chg (A : List Pg) (r : List Int) (pc : Int) (o : Out) : Prop
  | none (hA : o.A = A) (hr : o.r = r) (hp : o.kind = 2 → o.pc = pc)
  | reg (hk : o.kind ≠ 2) (hA : o.A = A) (d : Nat) (hd : d < 16) (v : Int) (hr : o.r = putG r d v)
  | mem (hk : o.kind ≠ 2) (hr : o.r = r) (at' : Int) (a0 : 0 ≤ at') (s : ByteArray) (hs : s.size ≤ 4) (hf : Sp.fitsB A at' s.size 2 = true) (hA : o.A = putN A at' (nums s) s.size)
theorem putL_bd (v : Int) (h0 : 0 ≤ v) (h1 : v ≤ 4294967295) : ∀ x, x ∈ putL v → 0 ≤ x ∧ x < 256 := by
  intro x hx
  simp only [putL, List.mem_cons, List.not_mem_nil, or_false] at hx
  rcases hx with rfl | rfl | rfl | rfl <;> omega
theorem chg_stores {A : List Pg} {r : List Int} (hr : Regs r) (pc : Int) (x : Ins) (n : Nat) (hn : n ≤ 4) : Chg A r pc (stores A r pc x n) := by
  unfold stores
  split
  · rename_i h
    have hb := rg_bd hr x.b
    have hl : ((putL (rg r x.b)).take n).length = n := by rw [List.length_take]; simp [putL]; omega
    have hbd : ∀ y, y ∈ (putL (rg r x.b)).take n → 0 ≤ y ∧ y < 256 := fun y hy => putL_bd _ hb.1 hb.2 y (List.mem_of_mem_take hy)
    refine .mem (by simp [goes]) rfl (addr r x) (Int.emod_nonneg _ (by omega)) (strOfNums ((putL (rg r x.b)).take n)) (by rw [size_strOfNums, hl]; exact hn) (by rw [size_strOfNums, hl]; exact h) ?_
    rw [size_strOfNums, hl, nums_strOfNums _ hbd]
    rfl
  · exact .none rfl rfl fun _ => rfl
theorem chg_loads {A : List Pg} {r : List Int} (pc : Int) (x : Ins) (n : Nat) (hd : ∃ d : Nat, d < 16 ∧ x.d = d) : Chg A r pc (loads A r pc x n) := by
  obtain ⟨d, hd, e⟩ := hd
  unfold loads
  split
  · exact .reg (by simp [goes]) rfl d hd _ (by rw [← e]; rfl)
  · exact .none rfl rfl fun _ => rfl
theorem chg_exe {A : List Pg} {r : List Int} (hr : Regs r) (pc : Int) (x : Ins) (hd : ∃ d : Nat, d < 16 ∧ x.d = d) : Chg A r pc (exe A r pc x) := by
  obtain ⟨d, hd16, e⟩ := hd
  unfold exe
  by_cases c0 : x.op ≤ 14
  · rw [if_pos c0]; exact .reg (by simp [goes]) rfl d hd16 _ (by rw [← e]; rfl)
  rw [if_neg c0]
  by_cases c1 : x.op ≤ 30
  · rw [if_pos c1]; exact .reg (by simp [goes]) rfl d hd16 _ (by rw [← e]; rfl)
  rw [if_neg c1]
  by_cases c2 : x.op = 32
  · rw [if_pos c2]; exact .reg (by simp [goes]) rfl d hd16 _ (by rw [← e]; rfl)
  rw [if_neg c2]
  by_cases c3 : x.op = 33
  · rw [if_pos c3]; exact chg_loads _ _ _ ⟨d, hd16, e⟩
  rw [if_neg c3]
  by_cases c4 : x.op = 34
  · rw [if_pos c4]; exact chg_loads _ _ _ ⟨d, hd16, e⟩
  rw [if_neg c4]
  by_cases c5 : x.op = 35
  · rw [if_pos c5]; exact chg_stores hr _ _ _ (by omega)
  rw [if_neg c5]
  by_cases c6 : x.op = 36
  · rw [if_pos c6]; exact chg_stores hr _ _ _ (by omega)
  rw [if_neg c6]
  by_cases c7 : x.op = 40
  · rw [if_pos c7]; exact .none rfl rfl fun g => absurd g (by simp [goes])
  rw [if_neg c7]
  by_cases c8 : x.op = 41
  · rw [if_pos c8]; exact .reg (by simp [goes]) rfl d hd16 _ (by rw [← e]; rfl)
  rw [if_neg c8]
  by_cases c9 : x.op = 42
  · rw [if_pos c9]; exact .none rfl rfl fun g => absurd g (by simp [goes])
  rw [if_neg c9]
  by_cases c10 : x.op = 43
  · rw [if_pos c10]; exact .none rfl rfl fun g => absurd g (by simp [goes])
  rw [if_neg c10]
  by_cases c11 : x.op = 44
  · rw [if_pos c11]; exact .none rfl rfl fun g => absurd g (by simp [goes])
  rw [if_neg c11]
  by_cases c12 : x.op = 45
  · rw [if_pos c12]; exact .none rfl rfl fun g => absurd g (by simp [goes])
  rw [if_neg c12]
  by_cases c13 : x.op = 46
  · rw [if_pos c13]; exact .none rfl rfl fun g => absurd g (by simp [goes])
  rw [if_neg c13]
  exact .none rfl rfl fun g => absurd g (by simp)
theorem chg_stp {A : List Pg} {r : List Int} (hr : Regs r) (pc : Int) : Chg A r pc (stp A r pc) := by
  unfold stp
  split
  · split
    · rename_i hd
      have hm := Ins.decB_may hd
      have hok := Ins.decI_ok (Ins.decB_size hd)
      have hsm := Ins.may_small hm hok
      generalize Ins.decI (strOfNums (Sp.getL A pc 8)) = x at *
      obtain ⟨d0, d1, _⟩ := hsm
      obtain ⟨d, hd⟩ := Int.eq_ofNat_of_zero_le d0
      exact chg_exe hr pc x ⟨d, by omega, hd⟩
    · exact .none rfl rfl fun _ => rfl
  · exact .none rfl rfl fun _ => rfl
end Cp
end Go.Proofs.YtgdodbcpnmfnnaaGreat
namespace Go.Proofs.YtgdodbcpnmfnnaaGreat
open Go.RowKit Word
set_option linter.unusedVariables false
set_option linter.unusedSimpArgs false
namespace Ev
section
variable {w : World} {a : EAt} {E : En}
theorem addrs_set (A : List Pg) (x v : Int) : (setByte A x v).map Pg.addr = A.map Pg.addr := by
  unfold setByte
  rw [List.map_map]
  exact List.map_congr_left fun p _ => setPg_addr x v p
theorem addrs_putN (A : List Pg) (addr : Int) (xs : List Int) : ∀ k, (putN A addr xs k).map Pg.addr = A.map Pg.addr
  | 0 => rfl
  | k + 1 => (addrs_set _ _ _).trans (addrs_putN A addr xs k)
theorem addrs_stp {A : List Pg} {r : List Int} (hr : Cp.Regs r) (pc : Int) : (Cp.stp A r pc).A.map Pg.addr = A.map Pg.addr := by
  cases Cp.chg_stp (A := A) hr pc with
  | none hA => rw [hA]
  | reg _ hA => rw [hA]
  | mem _ _ at' _ s _ _ hA => rw [hA]; exact addrs_putN _ _ _ _
set_option maxRecDepth 100000 in
set_option maxHeartbeats 4000000 in
theorem step (h : Env w a E) : Calls Tryz.prog 123 #[.pointer (some ⟨a.eb, 0, none⟩)] w fun e w' => e = .returned (.tuple #[.agg #[.int .u8 E.stop.1, .int .u32 E.stop.2.1, .int .i64 E.stop.2.2], .int .i64 E.redE]) ∧ EStep w w' a E a E.step := by
  have hbx : Below w.heap.size w (w.alloc (.cells #[.int .u8 0, .int .u32 0, .int .i64 0] 236)) := (Below.refl _ _).alloc (Nat.le_refl _) _
  have HR := Lib.hid (ready (h.below hbx))
  by_cases hk : E.kind = 2
  · have e : E.redE = 0 := by unfold En.redE; rw [if_neg (by omega)]
    rw [e] at HR ⊢
    have e1 : E.stop = ((Cp.stp E.A E.r E.pc).kind, (Cp.stp E.A E.r E.pc).num, (Cp.stp E.A E.r E.pc).why) := by unfold En.stop; rw [if_neg (by omega)]
    have hrs : Hid ((w.alloc (.cells #[.int .u8 0, .int .u32 0, .int .i64 0] 236)).heap[w.heap.size]? = some (.cells #[.int .u8 0, .int .u32 0, .int .i64 0] 236 (0, 0))) := Lib.hid (heap_alloc_new w _)
    have HW := Lib.hid (h.below hbx)
    have HWs := Lib.hid (EStep.of_below h hbx)
    have Hsz : Hid ((w.alloc (.cells #[.int .u8 0, .int .u32 0, .int .i64 0] 236)).heap.size = w.heap.size + 1) := Lib.hid (by simp)
    have HL : Hid (∀ k, a.foot E.A k → k < w.heap.size) := Lib.hid h.lt
    have ea := addrs_stp (A := E.A) h.cp.regs E.pc
    have eb := Cp.blks_stp E.A E.r E.pc
    have e2 : E.step = if (Cp.stp E.A E.r E.pc).kind = 2 then { E with A := (Cp.stp E.A E.r E.pc).A, r := (Cp.stp E.A E.r E.pc).r, pc := (Cp.stp E.A E.r E.pc).pc, kind := 4, code := 0, why := (Cp.stp E.A E.r E.pc).why } else { E with A := (Cp.stp E.A E.r E.pc).A, r := (Cp.stp E.A E.r E.pc).r, pc := (Cp.stp E.A E.r E.pc).pc } := by unfold En.step; rw [if_neg (by omega)]
    have hst : ∀ V, Env V a E → Calls Tryz.prog 218 #[.pointer (some ⟨a.cb, 0, none⟩), .pointer (some ⟨a.sb, 0, none⟩)] V (fun e w' => e = .returned (.agg #[.int .u8 (Cp.stp E.A E.r E.pc).kind, .int .u32 (Cp.stp E.A E.r E.pc).num, .int .i64 (Cp.stp E.A E.r E.pc).why]) ∧ Cpu 327 w' a.cb (Cp.stp E.A E.r E.pc).r (Cp.stp E.A E.r E.pc).pc ∧ Spc w' a.sb a.mb (Cp.stp E.A E.r E.pc).A ∧ Mod (fun k => k = a.cb ∨ Sp.pgBlk E.A k) V w') := fun V hV => Cp.step hV.cp hV.sp hV.cs
    rw [e1, e2]
    clear e e1 e2
    generalize Cp.stp E.A E.r E.pc = o at *
    obtain ⟨kind, num, why, r2, pc2, A2⟩ := o
    simp only at ea eb hst ⊢
    have HSt := Lib.hid hst
    have HEa := Lib.hid ea
    have HEb := Lib.hid eb
    clear hst ea eb hbx hk h
    go_enter Tryz.func123, Tryz.ntmps123
    go_wp2_with fail
    refine HR.out.mono ?_
    rintro e w2 ⟨rfl, rfl⟩
    clear HR
    generalize hWW : w.alloc (.cells #[.int .u8 0, .int .u32 0, .int .i64 0] 236) = W at *
    have HHW := Lib.hid hWW
    clear hWW
    obtain ⟨c0, _, c2, _, _, _, _, _⟩ := cells HW.out
    have cA := fun o => cells (HW.out.below ((Below.refl _ W).alloc (Nat.le_refl _) o))
    have cA0 := fun o => (cA o).1
    have cA2 := fun o => (cA o).2.2.1
    have HBd : Hid (∀ o, Below W.heap.size W (W.alloc o)) := Lib.hid fun o => (Below.refl _ _).alloc (Nat.le_refl _) o
    have HBx : Hid (∀ V V' : World, V.heap[W.heap.size]? = some (.cells #[.int .u8 0, .int .u32 0, .int .i64 0] 236 (0, 0)) → Mod (fun k => k = a.cb ∨ Sp.pgBlk E.A k) V V' → StpBox V' W.heap.size 0 0 0) := Lib.hid fun V V' hV hm => StpBox.mod ⟨hV⟩ hm (by
      rintro (g | g)
      · have := HW.out.cp.lt; omega
      · have := HW.out.sp.lt (.inr (.inr g)); omega)
    have HN : Hid (∀ A', Cp.blks A' = Cp.blks E.A → ¬ a.foot A' W.heap.size) := Lib.hid fun A' e g => by
      have hlt := HL.out
      have : a.foot E.A W.heap.size := by
        rcases g with q | q | q | q
        · exact .inl q
        · exact .inr (.inl q)
        · exact .inr (.inr (.inl ((Cp.foot_iff e).1 q)))
        · exact .inr (.inr (.inr q))
      have := hlt _ this
      have := Hsz.out
      omega
    clear cA
    go_upto_region 4 with fail
    go_cut [5] (fun s5 wx => ∃ B : Nat, s5 = .pointer (some ⟨B, 0, none⟩) ∧ StpBox wx B kind num why ∧ W.heap.size ≤ B ∧ EStep W wx a E a { E with A := A2, r := r2, pc := pc2 })
    case first =>
      go_region_with (go_at_call 218
                      first
                        | (have hbV := Below.refl W.heap.size W
                           (with_reducible refine (HSt.out _ (HW.out.below hbV)).mono ?_)
                           rintro e w3 ⟨rfl, hc3, hs3, hm3⟩
                           have HS3 := Lib.hid ((EStep.cpu (HW.out.below hbV) hc3 hs3 HEb.out HEa.out hm3).pre hbV))
                        | (have hbV := (Below.refl W.heap.size W).drew
                           (with_reducible refine (HSt.out _ (HW.out.below hbV)).mono ?_)
                           rintro e w3 ⟨rfl, hc3, hs3, hm3⟩
                           have HS3 := Lib.hid ((EStep.cpu (HW.out.below hbV) hc3 hs3 HEb.out HEa.out hm3).pre hbV))
                        | (have hbV := HBd.out (.cells #[.int .u8 0, .int .u32 0, .int .i64 0] 236)
                           (with_reducible refine (HSt.out _ (HW.out.below hbV)).mono ?_)
                           rintro e w3 ⟨rfl, hc3, hs3, hm3⟩
                           have HS3 := Lib.hid ((EStep.cpu (HW.out.below hbV) hc3 hs3 HEb.out HEa.out hm3).pre hbV)
                           have HB3 := Lib.hid (HBx.out _ _ (by exact heap_alloc_new W _) hm3)
                           obtain ⟨t0, t1, t2, f0, f1, f2⟩ := HB3.out.cells)
                        | (have hbV := (HBd.out (.cells #[.int .u8 0, .int .u32 0, .int .i64 0] 236)).drew
                           (with_reducible refine (HSt.out _ (HW.out.below hbV)).mono ?_)
                           rintro e w3 ⟨rfl, hc3, hs3, hm3⟩
                           have HS3 := Lib.hid ((EStep.cpu (HW.out.below hbV) hc3 hs3 HEb.out HEa.out hm3).pre hbV)
                           have HB3 := Lib.hid (HBx.out _ _ (by exact heap_alloc_new W _) hm3)
                           obtain ⟨t0, t1, t2, f0, f1, f2⟩ := HB3.out.cells))
      all_goals go_wp2_with fail
      all_goals go_meet
      all_goals first
        | exact ⟨_, rfl, ⟨heap_alloc_new w3 _⟩, HS3.out.mod.size, HS3.out.below ((Below.refl _ _).alloc (Nat.le_refl _) _)⟩
        | exact ⟨_, rfl, HB3.out.set _ _ _, Nat.le_refl _, HS3.out.turn (stp_mod _ _ _ _ _) (fun k hk => by subst hk; exact ⟨HN.out _ HEb.out, Nat.le_refl _⟩)⟩
    case rest =>
      obtain ⟨B, rfl, hbx, hB, hes⟩ := hcut
      have hnf : ¬ a.foot A2 w.heap.size := fun g => by
        rcases hes.foot _ g with q | q
        · have hh := HL.out
          have := hh _ q
          omega
        · have := Hsz.out
          omega
      have hr : StpBox wc w.heap.size 0 0 0 := ⟨(hes.mod.block _ (by have := Hsz.out; omega) (fun g => by have hh := HL.out; have := hh _ g; omega)).trans hrs.out⟩
      have hBe : B ≠ a.eb := fun e => by have hh := HL.out; have := hh _ (.inl rfl : a.foot E.A a.eb); have := Hsz.out; omega
      have hBw : B ≠ w.heap.size := fun e => by have := Hsz.out; omega
      have hwe : w.heap.size ≠ a.eb := fun e => by have hh := HL.out; have := hh _ (.inl rfl : a.foot E.A a.eb); omega
      have HE := Lib.hid (HWs.out.trans hes)
      have HNf := Lib.hid hnf
      have HLw : Hid (w.heap.size ≤ w.heap.size) := Lib.hid (Nat.le_refl _)
      clear c0 c2 cA0 cA2 HN HBx HBd HW HWs HHW hes hB hnf hrs HL HSt HEa HEb Hsz
      by_cases h2 : kind = 2
      · subst h2
        obtain ⟨_, _, _, _, k4, k5, k6, _⟩ := cells HE.out.env
        have f4 := HE.out.env.free 4
        have f5 := HE.out.env.free 5
        have f6 := HE.out.env.free 6
        have hm : Mod (fun i => i = a.eb) wc (((wc.setCell ⟨a.eb, 4, none⟩ (.int .u8 4)).setCell ⟨a.eb, 5, none⟩ (.int .u32 0)).setCell ⟨a.eb, 6, none⟩ (.int .i64 why)) := Mod.setCell (F := fun i => i = a.eb) (Mod.setCell (F := fun i => i = a.eb) (Mod.setCell (F := fun i => i = a.eb) (Mod.refl _ _) ⟨a.eb, 4, none⟩ (.inl rfl) _) ⟨a.eb, 5, none⟩ (.inl rfl) _) ⟨a.eb, 6, none⟩ (.inl rfl) _
        obtain ⟨t0, t1, t2, _, _, _⟩ := hbx.cells
        obtain ⟨y0, y1, y2, _, _, _⟩ := (hbx.mod hm hBe).cells
        obtain ⟨r0, r1, r2', g0, g1, g2⟩ := (hr.mod hm hwe).cells
        have HF := Lib.hid ((HE.out.trans (EStep.setState HE.out.env 4 0 why)).turn (stp_mod _ w.heap.size (.int .u8 2) (.int .u32 num) (.int .i64 why)) (fun k hk => by subst hk; exact ⟨HNf.out, HLw.out⟩))
        have HR2 := Lib.hid (hr.mod hm hwe)
        clear hm hbx hr HE
        go_wp2
        obtain ⟨v0, v1, v2, _, _, _⟩ := (HR2.out.set 2 num why).cells
        refine bodyPost_ret (v := .tuple #[.agg #[.int .u8 2, .int .u32 num, .int .i64 why], .int .i64 0]) (by simp [results, Tryz.results123, go_sem, *]) rfl ?_
        exact ⟨rfl, HF.out⟩
      · have H2 := Lib.hid h2
        have hkb : (kind == 2) = false := beq_eq_false_iff_ne.2 h2
        obtain ⟨t0, t1, t2, _, _, _⟩ := hbx.cells
        obtain ⟨r0, r1, r2', g0, g1, g2⟩ := hr.cells
        have HF := Lib.hid (HE.out.turn (stp_mod _ w.heap.size (.int .u8 kind) (.int .u32 num) (.int .i64 why)) (fun k hk => by subst hk; exact ⟨HNf.out, HLw.out⟩))
        have HR2 := Lib.hid hr
        clear hbx hr HE
        go_wp2
        obtain ⟨v0, v1, v2, _, _, _⟩ := (HR2.out.set kind num why).cells
        refine bodyPost_ret (v := .tuple #[.agg #[.int .u8 kind, .int .u32 num, .int .i64 why], .int .i64 0]) (by simp [results, Tryz.results123, go_sem, *]) rfl ?_
        exact ⟨rfl, HF.out⟩
  · have e : E.redE = 3 := by unfold En.redE; rw [if_pos hk]
    have e2 : E.stop = (0, 0, 0) := by unfold En.stop; rw [if_pos hk]
    have e3 : E.step = E := by unfold En.step; rw [if_pos hk]
    have HS := Lib.hid (EStep.of_below h hbx)
    rw [e] at HR ⊢
    rw [e2, e3]
    clear e e2 e3 hk h hbx
    go_enter Tryz.func123, Tryz.ntmps123
    go_wp2_with fail
    refine HR.out.mono ?_
    rintro e w2 ⟨rfl, rfl⟩
    go_wp2
    refine bodyPost_ret (v := .tuple #[.agg #[.int .u8 0, .int .u32 0, .int .i64 0], .int .i64 3]) (by simp [results, Tryz.results123, go_sem, *]) rfl ?_
    exact ⟨rfl, HS.out⟩
end
end Ev
end Go.Proofs.YtgdodbcpnmfnnaaGreat
namespace Go.Proofs.YtgdodbcpnmfnnaaGreat
open Go.RowKit
set_option linter.unusedVariables false
set_option linter.unusedSimpArgs false
structure KPair (w0 w : World) (a : KAt) (K : Kn) (b : RkAt) (L : Kn) : Prop where
  p : Knl w a K
  d : Rkl w b L
  ap : ∀ k, a.tag k ≠ 0 → b.tag k = 0
  bel : Below w0.heap.size w0 w
  k0 : ∀ k, a.tag k ≠ 0 → w0.heap.size ≤ k
  d0 : ∀ k, b.wf k → w0.heap.size ≤ k
namespace KPair
variable {w0 w w' : World} {a a' : KAt} {K K' : Kn} {b b' : RkAt} {L L' : Kn}
theorem below (h : KPair w0 w a K b L) (hb : Below w.heap.size w w') : KPair w0 w' a K b L := ⟨h.p.below hb, h.d.below hb, h.ap, h.bel.trans (hb.mono h.bel.size), h.k0, h.d0⟩
theorem prog (h : KPair w0 w a K b L) (s : KStep w w' a K a' K') : KPair w0 w' a' K' b L :=
  ⟨s.k, h.d.keep s.mod fun k hk g => hk (h.ap k g.1), fun k hk => by
    rcases s.foot k hk with q | q
    · exact h.ap k q
    · exact Decidable.byContradiction fun z => absurd (h.d.lt k z) (by omega), Mod.below h.bel s.mod h.bel.size fun i _ g => h.k0 i g.1, fun k hk => (s.foot k hk).elim (h.k0 k) fun g => Nat.le_trans h.bel.size g, h.d0⟩
theorem doc (h : KPair w0 w a K b L) (s : RkStep w w' b L b' L') : KPair w0 w' a K b' L' :=
  ⟨h.p.keep s.mod fun k hk g => g.1 (h.ap k hk), s.k, fun k hk => by
    rcases Nat.lt_or_ge k w.heap.size with q | q
    · rw [s.tag k q]; exact h.ap k hk
    · exact absurd (h.p.lt k hk) (by omega), Mod.below h.bel s.mod h.bel.size fun i _ g => h.d0 i g, h.k0, fun k hk => (s.wfoot k hk).elim (h.d0 k) fun g => Nat.le_trans h.bel.size g⟩
end KPair
end Go.Proofs.YtgdodbcpnmfnnaaGreat
namespace Go.Proofs.YtgdodbcpnmfnnaaGreat
open Go.RowKit
theorem infoByte : (Tryz.prog.info? 5).map (fun i => (i.zero, i.size, i.bytes)) = some (some (.int .u8 0), 1, 1) := by kernel_rfl
theorem run_makeBytes (n : Nat) (hn : n ≤ 140737488355328) (w : World) : (Instr.makeSlice 60 (.int .i64 n) (.int .i64 n)).run Tryz.prog w = .ok (.slice (some ⟨w.heap.size, 0, none⟩) n n) (w.alloc (.cells (List.replicate n (Value.int .u8 0)).toArray 5)) := by
  obtain ⟨i0, hi, hz0, hz1, hz2⟩ := info_parts infoByte
  have h := run_make (P := Tryz.prog) w 60 5 i0 (.int .u8 0) Tryz.underlying60 hi hz0 .i64 .i64 n n (by omega) (by omega) (by rw [hz2]; omega) (by omega)
  rw [h, hz1]
  have e : madeCells (Value.int .u8 0).cells ((n : Int).toNat * 1) = (List.replicate n (Value.int .u8 0)).toArray := by
    apply Array.toList_inj.1
    rw [show (Value.int .u8 0).cells = #[.int .u8 0] from rfl, toList_madeCells_one]
    simp
  rw [e]
  rfl
theorem made_str (n : Nat) (w : World) : (convert 60 9 (.slice (some ⟨w.heap.size, 0, none⟩) n n)).run Tryz.prog (w.alloc (.cells (List.replicate n (Value.int .u8 0)).toArray 5)) = .ok (.string (strOfNums (List.replicate n 0))) (w.alloc (.cells (List.replicate n (Value.int .u8 0)).toArray 5)) := by
  refine run_convert_bytes_arg (P := Tryz.prog) _ 60 5 Tryz.underlying60 Tryz.underlying5 w.heap.size 0 n n (List.replicate n 0) List.length_replicate (fun i hi => ?_) 9 Tryz.underlying9
  rw [Nat.zero_add, World.cell?_alloc_mark]
  simp [hi]
end Go.Proofs.YtgdodbcpnmfnnaaGreat
