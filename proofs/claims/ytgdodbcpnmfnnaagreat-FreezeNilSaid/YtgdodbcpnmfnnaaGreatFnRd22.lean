/- Rd22, Law22, Both22, FzB, FzN, FzR, FzM, FzP, FzG, FzK, FzW in one text. -/
import Derived.Test.YtgdodbcpnmfnnaaGreatFnKnewG
import Derived.Test.YtgdodbcpnmfnnaaGreatFnTskG
import Derived.Test.YtgdodbcpnmfnnaaGreatFnGrantG
import Derived.BigQuiet
import Derived.Test.YtgdodbcpnmfnnaaGreatFnGraG
import Derived.OwnWalk
import Derived.Shelf.Strings.Builder1
import Derived.Shelf.Strings.OnBuilder
import Derived.Shelf.Small.Wraps
import Derived.Shelf.Strings.BuilderF
import Derived.Shelf.Strings.BuilderK
import Derived.Shelf.LaysM
import Derived.Test.YtgdodbcpnmfnnaaGreatProg
import Derived.Test.YtgdodbcpnmfnnaaGreatFnBase
import Derived.Test.YtgdodbcpnmfnnaaGreatFnPag
import Derived.Test.YtgdodbcpnmfnnaaGreatFnWordOp
import Derived.Test.YtgdodbcpnmfnnaaGreatFnEnvN
import Derived.LoopTactic
namespace Go.Proofs.YtgdodbcpnmfnnaaGreat.In
open Go.RowKit
set_option linter.unusedSimpArgs false
set_option linter.unusedVariables false
structure Txs (w : World) (a : Option Addr) (l : List ByteArray) : Prop where
  cell : ∀ i (h : i < l.length), ∃ g o, a = some ⟨g, o, none⟩ ∧ w.cell? ⟨g, o + i, none⟩ = some (.string l[i])
  sz : ∀ s, s ∈ l → s.size < 140737488355328
  len : l.length ≤ 9223372036854775807
theorem cell_lt {w : World} {b i : Nat} {v : Value} (h : w.cell? ⟨b, i, none⟩ = some v) : b < w.heap.size := by
  unfold World.cell? at h
  cases hg : w.heap[b]? with
  | none => rw [hg] at h; cases h
  | some _ => exact lt_of_block hg
structure ClI where
  dn : Int
  nm : Int
  c : Nat → Int
  fr : ByteArray
structure ClI.ok (x : ClI) : Prop where
  d : -9223372036854775808 ≤ x.dn ∧ x.dn ≤ 9223372036854775807
  n : 0 ≤ x.nm ∧ x.nm ≤ 4294967295
  c : ∀ i, i < 4 → 0 ≤ x.c i ∧ x.c i ≤ 4294967295
  f : x.fr.size < 140737488355328
structure WdI where
  h : HdI
  m : MnI
  x : Cp.St
  ba : Option Addr
  bcap : Nat
  bl : List ByteArray
def WdI.cells (d : WdI) : Array Value := #[.int .u32 d.h.p, d.h.v, .int .u32 d.m.m.pages, d.m.ev, d.m.pv, .bool d.m.m.con, .slice d.x.ra d.x.rn d.x.rcap, .int .u32 d.x.pc, .slice d.x.pa d.x.pn d.x.pcap, .int .u16 d.x.at', .slice d.x.ca d.x.cn d.x.ccap, .int .u16 d.x.wh, .string d.x.text, .slice d.ba d.bl.length d.bcap]
structure WdI.pre (w : World) (d : WdI) : Prop where
  h : d.h.pre w
  m : d.m.pre w
  x : d.x.pre w
  b : Txs w d.ba d.bl
end Go.Proofs.YtgdodbcpnmfnnaaGreat.In
namespace Go.Proofs.YtgdodbcpnmfnnaaGreat
open Go.RowKit
set_option linter.unusedVariables false
set_option linter.unusedSimpArgs false
namespace Rk
theorem grant {w : World} {b : RkAt} {K : Kn} (h : Rkl w b K) (hl : K.hx.length ≤ 16) {n pg : Int} (p0 : 0 ≤ pg) {m : Mn} {ev pv : Value} (hm : MnIn w ev pv m) (hok : m.ok) :
    Calls Tryz.prog 85 #[.pointer (some ⟨b.c.rb, 0, none⟩), .int .i64 n, .agg (m.cells ev pv), .int .u32 pg] w fun e w' =>
      (Ca.grantE K.hp K.hx K.g n m pg ≠ 0 ∧ e = .returned (.int .i64 (Ca.grantE K.hp K.hx K.g n m pg)) ∧ Below w.heap.size w w') ∨
      (Ca.grantE K.hp K.hx K.g n m pg = 0 ∧ e = .returned (.int .i64 0) ∧ ∃ b', RkStep w w' b K b' { K with g := Gp.upd K.g n (some ⟨m, pg, 0⟩) }) := by
  refine (Rc.grant h.caps h.hx hl p0 hm hok).mono ?_
  rintro e w' (g | ⟨g1, g2, c, g3, g4, g5, g6, g7, g8⟩)
  · exact .inl g
  · refine .inr ⟨g1, g2, _, RkStep.setCaps h g3 g4 g5 (fun k hk => ?_) (g8.mono fun k _ e => .inl (.inl e))⟩
    rcases hk with (z | z) | z
    · exact .inl (.inl (.inl (by rw [z, g4])))
    · exact .inr (g7 k z)
    · exact (g6 k z).imp .inr id
end Rk
namespace L22
open In
structure WBox (w : World) (b : Nat) (d : WdI) : Prop where
  blk : w.heap[b]? = some (.cells d.cells 66 (0, 0))
theorem WBox.below {w w' : World} {b : Nat} {d : WdI} (h : WBox w b d) (hb : Below w.heap.size w w') : WBox w' b d := ⟨(hb.block _ (lt_of_block h.blk)).trans h.blk⟩
theorem WBox.cell {w : World} {b : Nat} {d : WdI} (h : WBox w b d) (i : Nat) (v : Value) (hi : d.cells[i]? = some v) : w.cell? ⟨b, i, none⟩ = some v := by
  unfold World.cell?
  rw [h.blk]
  exact hi
end L22
end Go.Proofs.YtgdodbcpnmfnnaaGreat
namespace Go.Proofs.YtgdodbcpnmfnnaaGreat
open Go.RowKit
set_option linter.unusedVariables false
set_option linter.unusedSimpArgs false
namespace L22
open In
theorem pair {w1 w2 w3 w4 : World} {a : KAt} {b : RkAt} {K : Kn} {la : Option Addr} {cap : Nat} {xs : List Int} (hwd : Rs.Words w1 la xs) (hk : Knl w2 a K) (ha : ∀ k, a.tag k ≠ 0 → w1.heap.size ≤ k) (b12 : Below w1.heap.size w1 w2) (b23 : Below w2.heap.size w2 w3)
    (hb : Rkl w4 b K) (ht : ∀ k, b.tag k ≠ 0 → w3.heap.size ≤ k ∨ b.tag k = 5 ∧ xs.length ≠ 0 ∧ (Value.slice la xs.length cap).ownBlock = some k) (b34 : Below w3.heap.size w3 w4) : KPair w1 w4 a K b K := by
  have z1 := b12.size
  have z2 := b23.size
  refine ⟨hk.below (below_th b23 b34), hb, fun k hk' => ?_, below_th (below_th b12 b23) b34, ha, fun k hk' => ?_⟩
  · refine Decidable.byContradiction fun z => ?_
    have h1 := ha k hk'
    have h2 := hk.lt k hk'
    rcases ht k z with g | ⟨_, g1, g2⟩
    · omega
    · obtain ⟨g, o, e, hc⟩ := hwd.cell 0 (by omega)
      subst e
      have g2 : some g = some k := g2
      cases g2
      have := cell_lt hc
      omega
  · rcases ht k hk'.1 with g | g
    · omega
    · exact absurd g.1 hk'.2
end L22
end Go.Proofs.YtgdodbcpnmfnnaaGreat
namespace Go.Proofs.YtgdodbcpnmfnnaaGreat.Fz
open Go.RowKit Go.Shelf
set_option linter.unusedVariables false
def wRen : Go.Shelf.Ren := ⟨fun | 166 => 172 | 240 => 249 | 276 => 310 | n => n, fun | 0 => 0 | 3 => 3 | 4 => 4 | 5 => 5 | 9 => 9 | 20 => 20 | 37 => 60 | 70 => 299 | 72 => 301 | 75 => 303 | 80 => 182 | 164 => 448 | n => n, fun | n => n⟩
theorem wLays : Go.Proofs.Lays.n166 Tryz.prog wRen := {
  mixed := by kernel_rfl
  f166 := Tryz.func172.trans (congrArg some (by kernel_rfl))
  f240 := Tryz.func249.trans (congrArg some (by kernel_rfl))
  f276 := Tryz.func310.trans (congrArg some (by kernel_rfl))
  t0 := Tryz.underlying0
  a0 := Tryz.isAgg0
  z0 := Tryz.sizeOf0
  v0 := Tryz.zeroValue0
  t3 := Tryz.underlying3
  a3 := Tryz.isAgg3
  z3 := Tryz.sizeOf3
  v3 := Tryz.zeroValue3
  t4 := Tryz.underlying4
  a4 := Tryz.isAgg4
  z4 := Tryz.sizeOf4
  v4 := Tryz.zeroValue4
  t9 := Tryz.underlying9
  a9 := Tryz.isAgg9
  z9 := Tryz.sizeOf9
  v9 := Tryz.zeroValue9
  t20 := Tryz.underlying20
  a20 := Tryz.isAgg20
  z20 := Tryz.sizeOf20
  v20 := Tryz.zeroValue20
  t37 := Tryz.underlying60
  a37 := Tryz.isAgg60
  z37 := Tryz.sizeOf60
  v37 := Tryz.zeroValue60
  t70 := Tryz.underlying299
  a70 := Tryz.isAgg299
  z70 := Tryz.sizeOf299
  v70 := Tryz.zeroValue299
  t72 := Tryz.underlying301
  a72 := Tryz.isAgg301
  z72 := Tryz.sizeOf301
  v72 := Tryz.zeroValue301
  t75 := Tryz.underlying303
  a75 := Tryz.isAgg303
  z75 := Tryz.sizeOf303
  v75 := Tryz.zeroValue303
  t164 := Tryz.underlying448
  a164 := Tryz.isAgg448
  z164 := Tryz.sizeOf448
  v164 := Tryz.zeroValue448 }
theorem wExtra : Builder.Extra Tryz.prog wRen := {
  sizeBuilder := by kernel_rfl
  liesBuilder := by kernel_rfl
  t5 := Tryz.underlying5
  a5 := Tryz.isAgg5
  z5 := Tryz.sizeOf5
  v5 := Tryz.zeroValue5
  infoByte := by kernel_rfl
  cellsByte := by kernel_rfl
  sizeByte := by kernel_rfl
  neB5 := by decide }
def sRen : Go.Shelf.Ren := ⟨fun | 169 => 177 | n => n, fun | 70 => 299 | 9 => 9 | 0 => 0 | 72 => 301 | 37 => 60 | 127 => 399 | 3 => 3 | 5 => 5 | n => n, fun | n => n⟩
theorem sLays : Go.Proofs.Lays.n169 Tryz.prog sRen := {
  mixed := by kernel_rfl
  f169 := Tryz.func177.trans (congrArg some (by kernel_rfl))
  t0 := Tryz.underlying0
  a0 := Tryz.isAgg0
  z0 := Tryz.sizeOf0
  v0 := Tryz.zeroValue0
  t3 := Tryz.underlying3
  a3 := Tryz.isAgg3
  z3 := Tryz.sizeOf3
  v3 := Tryz.zeroValue3
  t9 := Tryz.underlying9
  a9 := Tryz.isAgg9
  z9 := Tryz.sizeOf9
  v9 := Tryz.zeroValue9
  t37 := Tryz.underlying60
  a37 := Tryz.isAgg60
  z37 := Tryz.sizeOf60
  v37 := Tryz.zeroValue60
  t70 := Tryz.underlying299
  a70 := Tryz.isAgg299
  z70 := Tryz.sizeOf299
  v70 := Tryz.zeroValue299
  t72 := Tryz.underlying301
  a72 := Tryz.isAgg301
  z72 := Tryz.sizeOf301
  v72 := Tryz.zeroValue301
  t127 := Tryz.underlying399
  a127 := Tryz.isAgg399
  z127 := Tryz.sizeOf399
  v127 := Tryz.zeroValue399 }
theorem sExtra : Builder.Extra Tryz.prog sRen := {
  sizeBuilder := by kernel_rfl
  liesBuilder := by kernel_rfl
  t5 := Tryz.underlying5
  a5 := Tryz.isAgg5
  z5 := Tryz.sizeOf5
  v5 := Tryz.zeroValue5
  infoByte := by kernel_rfl
  cellsByte := by kernel_rfl
  sizeByte := by kernel_rfl
  neB5 := by decide }
def Bld (w : World) (B b : Nat) (s : ByteArray) : Prop := Lib.IsBuilderF 301 5 B b (Lib.byteCells s.data.toList) w
theorem Bld.keep {w w' : World} {B b : Nat} {t : ByteArray} (h : Bld w B b t) (hb : Below w.heap.size w w') : Bld w' B b t := by
  have k : ∀ p, Lib.BuilderAtF 301 5 B b p (Lib.byteCells t.data.toList) w → Lib.BuilderAtF 301 5 B b p (Lib.byteCells t.data.toList) w' := fun p ⟨hB, v, hv, ho, hn⟩ =>
    ⟨hB, v, (hb.block _ (lt_of_block hv)).trans hv, World.ownsRowF.kept (row := none) ho ⟨hb.os, hb.tape, hb.output, hb.size, fun k hk _ => hb.block k hk⟩ (by
      cases hv : v.ownBlock with
      | none => exact .inl rfl
      | some g => exact .inr (by simp)), hn⟩
  exact h.imp (k _) (k _)
theorem Bld.new {w : World} {B b : Nat} (h : w.heap[b]? = some (.cells #[.pointer none, .slice none 0 0] 301 (0, 0))) (hB : B ≤ b) : Bld w B b ByteArray.empty :=
  .inl ⟨hB, _, h, World.ownsRowF_nil _ _ _ _, by simp [Value.ownBlock]⟩
theorem writeB {w : World} {B b : Nat} {t : ByteArray} (h : Bld w B b t) (u : ByteArray) (hl : t.size + u.size ≤ 140737488355328) (hB : B ≤ w.heap.size) :
    Calls Tryz.prog 172 #[.pointer (some ⟨b, 0, none⟩), .string u] w fun e w' => e = .returned (.tuple #[.int .i64 u.size, .nilIface]) ∧ Bld w' B b (t ++ u) ∧ Below B w w' ∧ Lib.OthersKept 5 (some b) w w' := by
  refine (Any.Builder_WriteString_k wLays wExtra B b (Lib.byteCells t.data.toList) u w h (by rw [Lib.byteCells_length]; exact hl) hB).mono fun e w' ⟨he, h1, h2, h3⟩ => ⟨he, .inr ?_, h2, h3⟩
  have : Lib.byteCells (t ++ u).data.toList = Lib.byteCells t.data.toList ++ Lib.strCells u := by
    unfold Lib.byteCells Lib.strCells
    rw [ByteArray.data_append, Array.toList_append, List.map_append]
  rw [this]
  exact h1
theorem stringB {w : World} {B b : Nat} {t : ByteArray} (h : Bld w B b t) (hB : B ≤ w.heap.size) :
    Calls Tryz.prog 177 #[.pointer (some ⟨b, 0, none⟩)] w fun e w' => e = .returned (.string t) ∧ Below B w w' :=
  (Any.Builder_String_any_k sLays sExtra B b t.data.toList w h hB).mono fun e w' ⟨he, _, h2, _⟩ => ⟨he, h2⟩
end Go.Proofs.YtgdodbcpnmfnnaaGreat.Fz
namespace Go.Proofs.YtgdodbcpnmfnnaaGreat.Fz
open Go.RowKit Word
set_option linter.unusedVariables false
set_option linter.unusedSimpArgs false
def tl (s : ByteArray) : List UInt8 := s.data.toList
theorem tl_app (a b : ByteArray) : tl (a ++ b) = tl a ++ tl b := by unfold tl; rw [ByteArray.data_append, Array.toList_append]
theorem tl_len (s : ByteArray) : (tl s).length = s.size := by unfold tl; rfl
theorem tl_inj {a b : ByteArray} (h : tl a = tl b) : a = b := by
  cases a; cases b
  unfold tl at h
  simp only at h
  congr 1
  exact Array.toList_inj.1 h
def pL (v : Int) (n : Nat) : List UInt8 := tl (putS v n)
def fitN (v : Int) (n : Nat) : Prop := 0 ≤ v ∧ v < 256 ^ n
theorem putS_nums (v : Int) (n : Nat) (h0 : 0 ≤ v) (h1 : v ≤ 4294967295) : nums (putS v n) = (putL v).take n := by
  unfold putS
  rw [nums_strOfNums]
  intro x hx
  have := List.mem_of_mem_take hx
  simp [putL] at this
  omega
theorem pL_len (v : Int) (n : Nat) (h : n ≤ 4) : (pL v n).length = n := by
  unfold pL
  rw [tl_len]
  unfold putS
  rw [strOfNums_size, List.length_take]
  show min n 4 = n
  omega
theorem get_putL (v : Int) (n : Nat) (h : n = 1 ∨ n = 2 ∨ n = 4) (hf : fitN v n) : getV ((putL v).take n) = v := by
  obtain ⟨h0, h1⟩ := hf
  rcases h with rfl | rfl | rfl
  all_goals
    simp [putL, getV] at h1 ⊢
    omega
theorem get_pL {s : ByteArray} {v : Int} {n : Nat} (h : n = 1 ∨ n = 2 ∨ n = 4) (hf : fitN v n) (hs : tl s = pL v n) : getV (nums s) = v := by
  have e : s = putS v n := tl_inj hs
  have hb : v ≤ 4294967295 := by
    obtain ⟨h0, h1⟩ := hf
    rcases h with rfl | rfl | rfl <;> simp at h1 <;> omega
  rw [e, putS_nums v n hf.1 hb]
  exact get_putL v n h hf
theorem num_ok (v : Int) (n : Nat) (h : n = 1 ∨ n = 2 ∨ n = 4) (hf : fitN v n) (w : World) :
    Calls Tryz.prog 250 #[.int .u32 v, .int .i64 n] w fun e w' => e = .returned (.tuple #[.string (putS v n), .int .i64 0]) ∧ Below w.heap.size w w' := by
  obtain ⟨h0, h1⟩ := hf
  rcases h with rfl | rfl | rfl
  · simp at h1
    have e1 : (v / 256 != 0) = false := by simp; omega
    have H := Lib.hid (put1_ok v h0 (by omega) e1 w)
    have e2 : (v / 2 ^ 8 != 0) = false := e1
    clear h1
    go_enter Tryz.func250, Tryz.ntmps250
    go_wp2_with fail
    refine H.out.mono ?_
    rintro e w1 ⟨rfl, hb⟩
    have HB := Lib.hid hb
    clear hb
    go_wp2
    go_ret2
    exact ⟨rfl, HB.out⟩
  · simp at h1
    have e1 : (v / 65536 != 0) = false := by simp; omega
    have H := Lib.hid (put2_ok v h0 (by omega) e1 w)
    have e2 : (v / 2 ^ 16 != 0) = false := e1
    clear h1
    go_enter Tryz.func250, Tryz.ntmps250
    go_wp2_with fail
    refine H.out.mono ?_
    rintro e w1 ⟨rfl, hb⟩
    have HB := Lib.hid hb
    clear hb
    go_wp2
    go_ret2
    exact ⟨rfl, HB.out⟩
  · simp at h1
    have H := Lib.hid (put4_ok v h0 (by omega) w)
    clear h1
    go_enter Tryz.func250, Tryz.ntmps250
    go_wp2_with fail
    refine H.out.mono ?_
    rintro e w1 ⟨rfl, hb⟩
    have HB := Lib.hid hb
    clear hb
    go_wp2
    go_ret2
    exact ⟨rfl, HB.out⟩
theorem bit (b : Bool) (w : World) : Calls Tryz.prog 175 #[.bool b] w fun e w' => e = .returned (.int .u32 (if b then 1 else 0)) ∧ w = w' := by
  cases b
  all_goals
    go_enter Tryz.func175, Tryz.ntmps175
    go_wp2
    go_ret
    exact ⟨rfl, rfl⟩
def bytesL (n : Nat) (l : List Int) : List UInt8 := l.flatMap fun v => pL v n
theorem bytesL_len (n : Nat) (h : n ≤ 4) (l : List Int) : (bytesL n l).length = n * l.length := by
  induction l with
  | nil => rfl
  | cons x l ih =>
    unfold bytesL at ih ⊢
    rw [List.flatMap_cons, List.length_append, ih, pL_len _ _ h, List.length_cons, Nat.mul_succ]
    omega
theorem bytesL_take (n : Nat) (l : List Int) (i : Nat) (hi : i < l.length) : bytesL n (l.take (i + 1)) = bytesL n (l.take i) ++ pL l[i] n := by
  unfold bytesL
  rw [List.take_succ_eq_append_getElem hi, List.flatMap_append, List.flatMap_singleton]
theorem cellK {w w' : World} (hb : Below w.heap.size w w') {b i : Nat} {v : Value} (h : w.cell? ⟨b, i, none⟩ = some v) : w'.cell? ⟨b, i, none⟩ = some v := by
  have hl : b < w.heap.size := by
    unfold World.cell? at h
    cases hg : w.heap[b]? with
    | none => rw [hg] at h; cases h
    | some o => exact lt_of_block hg
  exact (World.cell?_of_block (w := w) (hb.block b hl)).trans h
def byRel (w0 : World) (b : Nat) (n : Nat) (l : List Int) (vi : Value) (wr : World) : Prop := ∃ (i : Nat) (s : ByteArray), i ≤ l.length ∧ vi = .int .i64 i ∧ Bld wr b b s ∧ tl s = bytesL n (l.take i) ∧ Below b w0 wr
set_option maxRecDepth 100000 in
set_option maxHeartbeats 4000000 in
theorem bytes {w : World} (n : Nat) (h : n = 1 ∨ n = 2 ∨ n = 4) (l : List Int) (hl : l.length ≤ 1000000) (hf : ∀ x, x ∈ l → fitN x n) {a : Option Addr} {c : Nat}
    (hc : ∀ i (hi : i < l.length), ∃ g off, a = some ⟨g, off, none⟩ ∧ w.cell? ⟨g, off + i, none⟩ = some (.int .u32 l[i])) :
    Calls Tryz.prog 173 #[.int .i64 n, .slice a l.length c] w fun e w' => ∃ s, e = .returned (.string s) ∧ tl s = bytesL n l ∧ Below w.heap.size w w' := by
  have hb : Below w.heap.size w (w.alloc (.cells #[.pointer none, .slice none 0 0] 301)) := (Below.refl _ _).alloc (Nat.le_refl _) _
  have hx := heap_alloc_new w (.cells #[.pointer none, .slice none 0 0] 301)
  have HR0 : Hid (byRel w w.heap.size n l (.int .i64 0) (w.alloc (.cells #[.pointer none, .slice none 0 0] 301))) := Lib.hid ⟨0, ByteArray.empty, Nat.zero_le _, rfl, Bld.new hx (Nat.le_refl _), rfl, hb⟩
  have HC := Lib.hid hc
  have HF := Lib.hid hf
  have HL := Lib.hid hl
  have HN := Lib.hid h
  obtain ⟨b, hbe⟩ : ∃ b, w.heap.size = b := ⟨_, rfl⟩
  rw [hbe] at HR0
  have HBe := Lib.hid hbe
  have HPost : Hid (∀ s W, tl s = bytesL n l → Below b w W → ∃ s', Ending.returned (.string s) = .returned (.string s') ∧ tl s' = bytesL n l ∧ Below w.heap.size w W) := Lib.hid fun s W h1 h2 => ⟨s, rfl, h1, by rw [hbe]; exact h2⟩
  have hn4 : n ≤ 4 := by omega
  have HN4 := Lib.hid hn4
  generalize hPQ : (fun (e : Ending) (w' : World) => ∃ s, e = .returned (.string s) ∧ tl s = bytesL n l ∧ Below w.heap.size w w') = PQ
  have HEnd : Hid (∀ s W, tl s = bytesL n l → Below b w W → PQ (.returned (.string s)) W) := Lib.hid fun s W h1 h2 => by rw [← hPQ]; exact HPost.out s W h1 h2
  clear hb hx hc hf hl h hPQ HPost hn4
  go_enter Tryz.func173, Tryz.ntmps173
  go_wp2
  try rw [hbe]
  clear hbe
  go_loopw [12] (fun vi wr => byRel w b n l vi wr) (fun vi _ => l.length - (intOf vi).toNat)
  case atStart => exact HR0.out
  case round =>
    clear HR0
    obtain ⟨i, s, hi, rfl, hs, ht, hbw⟩ := hrel
    by_cases hin : i < l.length
    · have ii : (i : Int) < l.length := by omega
      obtain ⟨g, off, ea, hcc⟩ := HC.out i hin
      have HBw := Lib.hid hbw
      have hcw : wr.cell? ⟨g, off + i, none⟩ = some (.int .u32 l[i]) := cellK (by rw [HBe.out]; exact hbw) hcc
      have HNm := Lib.hid (num_ok l[i] n HN.out (HF.out _ (List.getElem_mem hin)) wr)
      have iw : IntKind.i64.wrap ((i : Int) + 1) = (i : Int) + 1 := by have := HL.out; rw [IntKind.wrap_i64]; omega
      have HT := Lib.hid ht
      have HS := Lib.hid hs
      have hlt : (l.take i).length = i := by rw [List.length_take]; omega
      have HLt := Lib.hid hlt
      subst ea
      clear hcc hbw ht hs hlt
      generalize hv : l[i] = v at *
      have HV := Lib.hid hv
      clear hv
      go_wp2_with fail
      refine HNm.out.mono ?_
      rintro e w1 ⟨rfl, hb1⟩
      have hsz : s.size + (putS v n).size ≤ 140737488355328 := by
        have h1 := congrArg List.length HT.out
        have h2 := pL_len v n HN4.out
        unfold pL at h2
        rw [tl_len] at h1 h2
        rw [bytesL_len n HN4.out, HLt.out] at h1
        have := HL.out
        have := HN4.out
        have : n * i ≤ 4 * 1000000 := Nat.mul_le_mul this (by omega)
        omega
      have HB1 := Lib.hid (HBw.out.trans (hb1.mono (by rw [← HBe.out]; exact HBw.out.size)))
      have hwr := writeB (HS.out.keep hb1) (putS v n) hsz (by have := HB1.out.size; rw [HBe.out] at this; exact this)
      have HWr := Lib.hid hwr
      clear hb1 hsz hwr HNm
      go_wp2_with fail
      refine HWr.out.mono ?_
      rintro e w2 ⟨rfl, hs2, hb2, _⟩
      have fin : byRel w b n l (.int .i64 ((i : Int) + 1)) w2 := ⟨i + 1, _, hin, by simp, hs2, by rw [tl_app, bytesL_take n l i hin, HT.out, HV.out]; rfl, HB1.out.trans hb2⟩
      have Fin := Lib.hid fin
      clear fin hs2 hb2 HWr HS
      go_wp2
      exact ⟨Fin.out, by simp [intOf]; omega⟩
    · obtain rfl : i = l.length := by omega
      rw [List.take_length] at ht
      have ii : ¬ (l.length : Int) < l.length := by omega
      have HT := Lib.hid ht
      have HSt := Lib.hid (stringB hs (by have := hbw.size; rw [HBe.out] at this; exact this))
      have HBw := Lib.hid hbw
      clear ht hs hbw
      go_wp2_with fail
      refine HSt.out.mono ?_
      rintro e w1 ⟨rfl, hb1⟩
      have HX := Lib.hid (HEnd.out s w1 HT.out (HBw.out.trans hb1))
      clear hb1
      go_wp2
      first | exact HX.out | (go_ret; exact HX.out)
end Go.Proofs.YtgdodbcpnmfnnaaGreat.Fz
namespace Go.Proofs.YtgdodbcpnmfnnaaGreat.Fz
open Go.RowKit Word
set_option linter.unusedVariables false
set_option linter.unusedSimpArgs false
def RdrAt (w : World) (pb : Nat) (s : ByteArray) (j : Nat) : Prop := w.heap[pb]? = some (.cells #[.string s, .int .i64 j, .int .i64 0] 403 (0, 0))
theorem RdrAt.cells {w : World} {pb : Nat} {s : ByteArray} {j : Nat} (h : RdrAt w pb s j) : w.cell? ⟨pb, 0, none⟩ = some (.string s) ∧ w.cell? ⟨pb, 1, none⟩ = some (.int .i64 j) ∧ w.cell? ⟨pb, 2, none⟩ = some (.int .i64 0) ∧ True := by
  unfold RdrAt at h
  refine ⟨?_, ?_, ?_, trivial⟩ <;> (unfold World.cell?; rw [h]; rfl)
theorem RdrAt.thaw {w : World} {pb : Nat} {s : ByteArray} {j : Nat} (h : RdrAt w pb s j) (i : Nat) : w.frozen? ⟨pb, i, none⟩ = false := by
  unfold RdrAt at h
  unfold World.frozen?; rw [h]; simp
theorem RdrAt.keep {F : Nat → Prop} {w w' : World} {pb : Nat} {s : ByteArray} {j : Nat} (h : RdrAt w pb s j) (hm : Mod F w w') (hf : ¬ F pb) : RdrAt w' pb s j := (hm.block _ (lt_of_block h) hf).trans h
theorem fault {w : World} {pb : Nat} {s : ByteArray} {j : Nat} (h : RdrAt w pb s j) : Calls Tryz.prog 251 #[.pointer (some ⟨pb, 0, none⟩)] w fun e w' => e = .returned (.int .i64 0) ∧ w = w' := by
  obtain ⟨c0, c1, c2, _⟩ := h.cells
  clear h
  go_enter Tryz.func251, Tryz.ntmps251
  go_wp2
  go_ret
  exact ⟨rfl, rfl⟩
theorem left {w : World} {pb : Nat} {s : ByteArray} {j : Nat} (h : RdrAt w pb s j) (hs : s.size ≤ maxLen) (hj : j ≤ s.size) : Calls Tryz.prog 312 #[.pointer (some ⟨pb, 0, none⟩)] w fun e w' => e = .returned (.int .i64 ((s.size : Int) - j)) ∧ Below w.heap.size w w' := by
  have hc := h.cells
  have iw : IntKind.i64.wrap ((s.size : Int) - j) = (s.size : Int) - j := by unfold maxLen at hs; rw [IntKind.wrap_i64]; omega
  have h0 : w.drew.cell? ⟨pb, 0, none⟩ = some (.string s) ∧ w.drew.cell? ⟨pb, 1, none⟩ = some (.int .i64 j) ∧ w.drew.cell? ⟨pb, 2, none⟩ = some (.int .i64 0) ∧ True := hc
  have H0 := Lib.hid h0
  clear h hc hs hj h0
  go_enter Tryz.func312, Tryz.ntmps312
  go_wp2_with fail
  refine B (fun V => V.cell? ⟨pb, 0, none⟩ = some (.string s) ∧ V.cell? ⟨pb, 1, none⟩ = some (.int .i64 j) ∧ V.cell? ⟨pb, 2, none⟩ = some (.int .i64 0) ∧ True) H0.out ?_
  intro wd hwd hS
  have HBd : Hid (Below w.heap.size w wd) := Lib.hid (by subst hwd; exact (Below.refl _ _).drew)
  clear hwd
  refine T 0 hS ?_
  refine T 1 hS ?_
  refine T 2 hS ?_
  refine T 3 hS ?_
  refine T 5 hS ?_
  refine T 6 hS ?_
  refine T 7 hS ?_
  refine T 8 hS ?_
  refine U 4 fun K hK => ?_
  go_simp
  refine V hK hS ?_; clear hK K
  refine T 9 hS ?_
  refine T 10 hS ?_
  refine wpAnyH_done (by kernel_rfl) ?_ _
  clear hS
  go_wp2
  first | exact ⟨rfl, HBd.out⟩ | (go_ret; exact ⟨rfl, HBd.out⟩)
set_option maxRecDepth 100000 in
theorem take {w : World} {pb : Nat} {s : ByteArray} {j : Nat} (h : RdrAt w pb s j) (hs : s.size ≤ maxLen) (n : Nat) (hn : j + n ≤ s.size) :
    Calls Tryz.prog 253 #[.pointer (some ⟨pb, 0, none⟩), .int .i64 n] w fun e w' => e = .returned (.tuple #[.string (s.extract j (j + n)), .int .i64 0]) ∧ RdrAt w' pb s (j + n) ∧ Mod (fun k => k = pb) w w' := by
  have HL := Lib.hid (left h hs (by omega))
  have HS := Lib.hid hs
  have HH := Lib.hid h
  have HN := Lib.hid hn
  have hg : ¬ ((s.size : Int) - j < n) := by omega
  have iw : IntKind.i64.wrap ((j : Int) + n) = (j : Int) + n := by unfold maxLen at hs; rw [IntKind.wrap_i64]; omega
  have iw2 : IntKind.i64.wrap (j : Int) = (j : Int) := by unfold maxLen at hs; rw [IntKind.wrap_i64]; omega
  clear h hs hn
  go_enter Tryz.func253, Tryz.ntmps253
  go_wp2_with fail
  refine HL.out.mono ?_
  rintro e w1 ⟨rfl, hb1⟩
  have h1 : RdrAt w1 pb s j := (hb1.block _ (lt_of_block HH.out)).trans HH.out
  have HM := Lib.hid (Mod.of_below hb1 fun k => k = pb)
  obtain ⟨c0, c1, c2, _⟩ := h1.cells
  have f1 := h1.thaw 1
  have HR := Lib.hid h1
  clear hb1 h1 HL
  go_wp2_with fail
  have h2 : RdrAt (w1.setCell ⟨pb, 1, none⟩ (.int .i64 ((j : Int) + n))) pb s (j + n) := by
    have := heap_setCell_same w1 pb 1 _ _ (.int .i64 ((j : Int) + n)) HR.out
    exact this
  have hm2 : Mod (fun k => k = pb) w (w1.setCell ⟨pb, 1, none⟩ (.int .i64 ((j : Int) + n))) := HM.out.setCell _ (.inl rfl) _
  generalize (w1.setCell ⟨pb, 1, none⟩ (.int .i64 ((j : Int) + n))) = w2 at *
  have hc2 := h2.cells
  have H2 := Lib.hid h2
  have HM2 := Lib.hid hm2
  have hcd : w2.drew.cell? ⟨pb, 0, none⟩ = some (.string s) ∧ w2.drew.cell? ⟨pb, 1, none⟩ = some (.int .i64 ((j : Int) + n)) ∧ w2.drew.cell? ⟨pb, 2, none⟩ = some (.int .i64 0) ∧ True := by
    have := hc2
    simp only [Int.natCast_add] at this
    exact this
  have HCd := Lib.hid hcd
  have b1 : (0 : Int) ≤ (j : Int) + n := by omega
  have b0 : (0 : Int) ≤ (j : Int) := by omega
  have b2 : (j : Int) ≤ (j : Int) + n := by omega
  have b3 : (j : Int) + n ≤ s.size := by have := HN.out; omega
  have e2 : ((j : Int) + n).toNat = j + n := by omega
  clear h2 hm2 hc2 hcd c0 c1 c2 f1
  refine B (fun V => V.cell? ⟨pb, 0, none⟩ = some (.string s) ∧ V.cell? ⟨pb, 1, none⟩ = some (.int .i64 ((j : Int) + n)) ∧ V.cell? ⟨pb, 2, none⟩ = some (.int .i64 0) ∧ True) HCd.out ?_
  intro wd hwd hS
  have HX : Hid (RdrAt wd pb s (j + n) ∧ Mod (fun k => k = pb) w wd) := Lib.hid (by subst hwd; exact ⟨H2.out, HM2.out.drew⟩)
  clear hwd
  refine T 0 hS ?_
  refine T 1 hS ?_
  refine T 2 hS ?_
  refine T 3 hS ?_
  refine T 4 hS ?_
  refine T 5 hS ?_
  refine T 6 hS ?_
  refine T 7 hS ?_
  refine T 8 hS ?_
  refine T 9 hS ?_
  refine T 10 hS ?_
  refine T 11 hS ?_
  refine T 12 hS ?_
  refine T 13 hS ?_
  refine T 14 hS ?_
  refine T 15 hS ?_
  refine T 16 hS ?_
  refine wpAnyH_done (by kernel_rfl) ?_ _
  clear hS
  go_wp2
  go_ret2
  exact ⟨rfl, HX.out⟩
theorem takeR {w : World} {pb : Nat} {s : ByteArray} {j : Nat} (h : RdrAt w pb s j) (hs : s.size ≤ maxLen) (n : Nat) (hn : j + n ≤ s.size) :
    Calls Tryz.prog 179 #[.pointer (some ⟨pb, 0, none⟩), .int .i64 n] w fun e w' => e = .returned (.tuple #[.string (s.extract j (j + n)), .int .i64 0]) ∧ RdrAt w' pb s (j + n) ∧ Mod (fun k => k = pb) w w' := by
  have HF := Lib.hid (fault h)
  have HT := Lib.hid (take h hs n hn)
  have hg : ¬ ((n : Int) < 0) := by omega
  clear h hs hn
  go_enter Tryz.func179, Tryz.ntmps179
  go_wp2_with fail
  refine HF.out.mono ?_
  rintro e w1 ⟨rfl, rfl⟩
  go_wp2_with fail
  refine HT.out.mono ?_
  rintro e w1 ⟨rfl, hx⟩
  have HX := Lib.hid hx
  clear hx
  go_wp2
  go_ret2
  exact ⟨rfl, HX.out⟩
theorem numR {w : World} {pb : Nat} {s : ByteArray} {j : Nat} (h : RdrAt w pb s j) (hs : s.size ≤ maxLen) (n : Nat) (n1 : 1 ≤ n) (n4 : n ≤ 4) (hn : j + n ≤ s.size) :
    Calls Tryz.prog 254 #[.pointer (some ⟨pb, 0, none⟩), .int .i64 n] w fun e w' => e = .returned (.tuple #[.int .u32 (getV (nums (s.extract j (j + n)))), .int .i64 0]) ∧ RdrAt w' pb s (j + n) ∧ Mod (fun k => k = pb) w w' := by
  have HF := Lib.hid (fault h)
  have HT := Lib.hid (take h hs n hn)
  have hz : (s.extract j (j + n)).size = n := by rw [ByteArray.size_extract]; omega
  have HG := Lib.hid fun V => get_ok (s.extract j (j + n)) (by omega) (by omega) V
  have hg : ¬ ((n : Int) < 1) := by omega
  have hg2 : ¬ ((4 : Int) < n) := by omega
  clear h hs hn n1 n4 hz
  generalize s.extract j (j + n) = u at *
  go_enter Tryz.func254, Tryz.ntmps254
  go_wp2_with fail
  refine HF.out.mono ?_
  rintro e w1 ⟨rfl, rfl⟩
  go_wp2_with fail
  refine HT.out.mono ?_
  rintro e w1 ⟨rfl, hx⟩
  have HX := Lib.hid hx
  clear hx
  go_wp2_with fail
  refine (HG.out _).mono ?_
  rintro e w2 ⟨rfl, rfl⟩
  go_wp2
  go_ret2
  exact ⟨rfl, HX.out⟩
structure FrR (w : World) (rb pb : Nat) (s : ByteArray) (j : Nat) : Prop where
  r : RdrAt w pb s j
  h : w.heap[rb]? = some (.cells #[.pointer (some ⟨pb, 0, none⟩), .bool false] 314 (0, 0))
theorem FrR.ne {w : World} {rb pb : Nat} {s : ByteArray} {j : Nat} (h : FrR w rb pb s j) : rb ≠ pb := fun e => by
  have h1 := h.r
  have h2 := h.h
  unfold RdrAt at h1
  rw [e, h1] at h2
  simp at h2
theorem FrR.keep {F : Nat → Prop} {w w' : World} {rb pb : Nat} {s : ByteArray} {j : Nat} (h : FrR w rb pb s j) (hm : Mod F w w') (h1 : ¬ F pb) (h2 : ¬ F rb) : FrR w' rb pb s j := ⟨h.r.keep hm h1, (hm.block _ (lt_of_block h.h) h2).trans h.h⟩
set_option maxRecDepth 100000 in
theorem num {w : World} {rb pb : Nat} {s : ByteArray} {j : Nat} (h : FrR w rb pb s j) (hs : s.size ≤ maxLen) (n : Nat) (n1 : 1 ≤ n) (n4 : n ≤ 4) (hn : j + n ≤ s.size) :
    Calls Tryz.prog 180 #[.pointer (some ⟨rb, 0, none⟩), .int .i64 n] w fun e w' => e = .returned (.int .u32 (getV (nums (s.extract j (j + n))))) ∧ FrR w' rb pb s (j + n) ∧ Mod (fun k => k = pb) w w' := by
  have HN := Lib.hid (numR h.r hs n n1 n4 hn)
  have HNe := Lib.hid h.ne
  have HB := Lib.hid h.h
  have c0 : w.cell? ⟨rb, 0, none⟩ = some (.pointer (some ⟨pb, 0, none⟩)) := by unfold World.cell?; rw [h.h]; rfl
  clear h hs n1 n4 hn
  go_enter Tryz.func180, Tryz.ntmps180
  go_wp2_with fail
  refine HN.out.mono ?_
  rintro e w1 ⟨rfl, h1, hm⟩
  have hb1 := (hm.block _ (lt_of_block HB.out) HNe.out).trans HB.out
  have c1 : w1.cell? ⟨rb, 1, none⟩ = some (.bool false) := by unfold World.cell?; rw [hb1]; rfl
  have f1 : w1.frozen? ⟨rb, 1, none⟩ = false := by unfold World.frozen?; rw [hb1]; simp
  have e1 := setCell_same (i := 1) (v := .bool false) hb1 rfl
  have HX : Hid (FrR w1 rb pb s (j + n) ∧ Mod (fun k => k = pb) w w1) := Lib.hid ⟨⟨h1, hb1⟩, hm⟩
  clear h1 hm hb1 HN HB c0
  go_wp2
  first | exact ⟨rfl, HX.out⟩ | (go_ret; exact ⟨rfl, HX.out⟩)
end Go.Proofs.YtgdodbcpnmfnnaaGreat.Fz
namespace Go.Proofs.YtgdodbcpnmfnnaaGreat.Fz
open Go.RowKit Word
set_option linter.unusedVariables false
set_option linter.unusedSimpArgs false
theorem tail_take {s : ByteArray} {j n : Nat} {L r : List UInt8} (h : (tl s).drop j = L ++ r) (hl : L.length = n) (hj : j ≤ s.size) : j + n ≤ s.size ∧ tl (s.extract j (j + n)) = L ∧ (tl s).drop (j + n) = r := by
  have h1 := congrArg List.length h
  rw [List.length_drop, List.length_append, tl_len] at h1
  have hn : j + n ≤ s.size := by omega
  refine ⟨hn, ?_, ?_⟩
  · unfold tl at h ⊢
    rw [ByteArray.data_extract, Array.toList_extract, List.extract_eq_take_drop, h, show j + n - j = L.length by omega, List.take_left]
  · rw [← List.drop_drop, h, ← hl, List.drop_left]
theorem numV {w : World} {rb pb : Nat} {s : ByteArray} {j : Nat} (h : FrR w rb pb s j) (hs : s.size ≤ maxLen) (hj : j ≤ s.size) {n : Nat} (hn : n = 1 ∨ n = 2 ∨ n = 4) {v : Int} (hf : fitN v n) {r : List UInt8} (ht : (tl s).drop j = pL v n ++ r) :
    Calls Tryz.prog 180 #[.pointer (some ⟨rb, 0, none⟩), .int .i64 n] w fun e w' => e = .returned (.int .u32 v) ∧ FrR w' rb pb s (j + n) ∧ Mod (fun k => k = pb) w w' ∧ j + n ≤ s.size ∧ (tl s).drop (j + n) = r := by
  obtain ⟨h1, h2, h3⟩ := tail_take ht (pL_len v n (by omega)) hj
  refine (num h hs n (by omega) (by omega) h1).mono ?_
  rintro e w' ⟨rfl, k1, k2⟩
  exact ⟨by rw [get_pL hn hf h2], k1, k2, h1, h3⟩
theorem numV' {w : World} {rb pb : Nat} {s : ByteArray} {j : Nat} (h : RdrAt w pb s j) (hs : s.size ≤ maxLen) (hj : j ≤ s.size) {n : Nat} (hn : n = 1 ∨ n = 2 ∨ n = 4) {v : Int} (hf : fitN v n) {r : List UInt8} (ht : (tl s).drop j = pL v n ++ r) :
    Calls Tryz.prog 254 #[.pointer (some ⟨pb, 0, none⟩), .int .i64 n] w fun e w' => e = .returned (.tuple #[.int .u32 v, .int .i64 0]) ∧ RdrAt w' pb s (j + n) ∧ Mod (fun k => k = pb) w w' ∧ j + n ≤ s.size ∧ (tl s).drop (j + n) = r := by
  obtain ⟨h1, h2, h3⟩ := tail_take ht (pL_len v n (by omega)) hj
  refine (numR h hs n (by omega) (by omega) h1).mono ?_
  rintro e w' ⟨rfl, k1, k2⟩
  exact ⟨by rw [get_pL hn hf h2], k1, k2, h1, h3⟩
theorem takeV {w : World} {pb : Nat} {s : ByteArray} {j : Nat} (h : RdrAt w pb s j) (hs : s.size ≤ maxLen) (hj : j ≤ s.size) {t : ByteArray} {n : Nat} (hn : t.size = n) {r : List UInt8} (ht : (tl s).drop j = tl t ++ r) :
    Calls Tryz.prog 179 #[.pointer (some ⟨pb, 0, none⟩), .int .i64 n] w fun e w' => e = .returned (.tuple #[.string t, .int .i64 0]) ∧ RdrAt w' pb s (j + n) ∧ Mod (fun k => k = pb) w w' ∧ j + n ≤ s.size ∧ (tl s).drop (j + n) = r := by
  obtain ⟨h1, h2, h3⟩ := tail_take ht ((tl_len t).trans hn) hj
  refine (takeR h hs n h1).mono ?_
  rintro e w' ⟨rfl, k1, k2⟩
  exact ⟨by rw [tl_inj h2], k1, k2, h1, h3⟩
theorem takeP {w : World} {pb : Nat} {s : ByteArray} {j : Nat} (h : RdrAt w pb s j) (hs : s.size ≤ maxLen) (hj : j ≤ s.size) {t : ByteArray} {n : Nat} (hn : t.size = n) {r : List UInt8} (ht : (tl s).drop j = tl t ++ r) :
    Calls Tryz.prog 253 #[.pointer (some ⟨pb, 0, none⟩), .int .i64 n] w fun e w' => e = .returned (.tuple #[.string t, .int .i64 0]) ∧ RdrAt w' pb s (j + n) ∧ Mod (fun k => k = pb) w w' ∧ j + n ≤ s.size ∧ (tl s).drop (j + n) = r := by
  obtain ⟨h1, h2, h3⟩ := tail_take ht ((tl_len t).trans hn) hj
  refine (take h hs n h1).mono ?_
  rintro e w' ⟨rfl, k1, k2⟩
  exact ⟨by rw [tl_inj h2], k1, k2, h1, h3⟩
set_option maxRecDepth 100000 in
theorem textV {w : World} {pb : Nat} {s : ByteArray} {j : Nat} (h : RdrAt w pb s j) (hs : s.size ≤ maxLen) (hj : j ≤ s.size) {t : ByteArray} (hn : t.size < 65536) {r : List UInt8} (ht : (tl s).drop j = pL t.size 2 ++ (tl t ++ r)) :
    Calls Tryz.prog 185 #[.pointer (some ⟨pb, 0, none⟩)] w fun e w' => e = .returned (.tuple #[.string t, .int .i64 0]) ∧ RdrAt w' pb s (j + 2 + t.size) ∧ Mod (fun k => k = pb) w w' ∧ j + 2 + t.size ≤ s.size ∧ (tl s).drop (j + 2 + t.size) = r := by
  have HN := Lib.hid (numV' (rb := 0) h hs hj (n := 2) (.inr (.inl rfl)) (v := t.size) ⟨by omega, by show (t.size : Int) < 256 ^ 2; omega⟩ ht)
  have HT := Lib.hid fun V (hv : RdrAt V pb s (j + 2)) (hj2 : j + 2 ≤ s.size) (h2 : (tl s).drop (j + 2) = tl t ++ r) => takeP hv hs hj2 (n := t.size) rfl h2
  have iw : IntKind.i64.wrap (t.size : Int) = t.size := by rw [IntKind.wrap_i64]; omega
  clear h hs hj hn ht
  go_enter Tryz.func185, Tryz.ntmps185
  go_wp2_with fail
  refine HN.out.mono ?_
  rintro e w1 ⟨rfl, h1, hm1, hj1, hd1⟩
  have HT1 := Lib.hid (HT.out w1 h1 hj1 hd1)
  have HM1 := Lib.hid hm1
  clear h1 hm1 hj1 hd1 HN HT
  go_wp2_with fail
  refine HT1.out.mono ?_
  rintro e w2 ⟨rfl, h2, hm2, hj2, hd2⟩
  have HX : Hid (RdrAt w2 pb s (j + 2 + t.size) ∧ Mod (fun k => k = pb) w w2 ∧ j + 2 + t.size ≤ s.size ∧ (tl s).drop (j + 2 + t.size) = r) := Lib.hid ⟨h2, HM1.out.same hm2, hj2, hd2⟩
  clear h2 hm2 hj2 hd2
  go_wp2
  go_ret2
  exact ⟨rfl, HX.out⟩
def manyRel (cnt : Nat) (I : Nat → World → Prop) (vi : Value) (wr : World) : Prop := ∃ i : Nat, i ≤ cnt ∧ vi = .int .u32 ((cnt - i : Nat) : Int) ∧ I i wr
set_option maxRecDepth 100000 in
theorem many {w : World} {rb pb : Nat} {s : ByteArray} {j : Nat} (h : FrR w rb pb s j) (hs : s.size ≤ maxLen) (hj : j ≤ s.size) {n : Nat} (hn : n = 1 ∨ n = 2 ∨ n = 4) {cnt : Nat} (hf : fitN cnt n) {r : List UInt8} (ht : (tl s).drop j = pL cnt n ++ r)
    (f : Nat) (cap : Array Value) (eg : ∀ args V, (callFunc f args).run Tryz.prog V = .ok (.enter f args) V) (I : Nat → World → Prop)
    (h0 : ∀ V, FrR V rb pb s (j + n) → Mod (fun k => k = pb) w V → (tl s).drop (j + n) = r → j + n ≤ s.size → I 0 V)
    (hr : ∀ i V, I i V → ∃ k, FrR V rb pb s k) (hst : ∀ i V, i < cnt → I i V → Calls Tryz.prog f cap V fun e V' => e = .returned (.tuple #[]) ∧ I (i + 1) V') :
    Calls Tryz.prog 181 #[.pointer (some ⟨rb, 0, none⟩), .int .i64 n, .func (.func f) #[] cap] w fun e w' => e = .returned (.tuple #[]) ∧ I cnt w' := by
  have HN := Lib.hid (numV h hs hj hn hf ht)
  have hcu : (cnt : Int) ≤ 4294967295 := by
    obtain ⟨_, h1⟩ := hf
    rcases hn with rfl | rfl | rfl <;> simp at h1 <;> omega
  have HC := Lib.hid hcu
  have H0 := Lib.hid h0
  have HR := Lib.hid hr
  have HS := Lib.hid hst
  clear h hs hj hn hf ht h0 hr hst hcu
  go_enter Tryz.func181, Tryz.ntmps181
  go_wp2_with fail
  refine HN.out.mono ?_
  rintro e w1 ⟨rfl, h1, hm1, hj1, hd1⟩
  have HR0 : Hid (manyRel cnt I (.int .u32 cnt) w1) := Lib.hid ⟨0, Nat.zero_le _, rfl, H0.out w1 h1 hm1 hd1 hj1⟩
  clear h1 hm1 hj1 hd1 HN H0
  go_wp2
  go_loopw [6] (fun vi wr => manyRel cnt I vi wr) (fun vi _ => (intOf vi).toNat)
  case atStart => exact HR0.out
  case round =>
    clear HR0
    obtain ⟨i, hi, rfl, hI⟩ := hrel
    obtain ⟨k, hk⟩ := HR.out i wr hI
    have hk2 := hk.h
    have c1 : wr.cell? ⟨rb, 1, none⟩ = some (.bool false) := by unfold World.cell?; rw [hk2]; rfl
    by_cases hin : i < cnt
    · have ii : (0 : Int) < ((cnt - i : Nat) : Int) := by omega
      have HSt := Lib.hid (HS.out i wr hin hI)
      have iw : IntKind.u32.wrap (((cnt - i : Nat) : Int) - 1) = ((cnt - (i + 1) : Nat) : Int) := by have := HC.out; rw [IntKind.wrap_u32]; omega
      clear hI hk hk2
      go_wp2_with fail
      refine HSt.out.mono ?_
      rintro e w2 ⟨rfl, hI2⟩
      have fin : manyRel cnt I (.int .u32 ((cnt - (i + 1) : Nat) : Int)) w2 := ⟨i + 1, hin, rfl, hI2⟩
      have Fin := Lib.hid fin
      clear fin hI2 HSt
      go_wp2
      first | exact ⟨Fin.out, by simp [intOf]; omega⟩
    · obtain rfl : i = cnt := by omega
      have HI := Lib.hid hI
      have e0 : ((i - i : Nat) : Int) = 0 := by omega
      rw [e0]
      clear hI hk hk2 e0
      go_wp2
      first | exact ⟨rfl, HI.out⟩ | (go_end0; exact ⟨rfl, HI.out⟩)
end Go.Proofs.YtgdodbcpnmfnnaaGreat.Fz
namespace Go.Proofs.YtgdodbcpnmfnnaaGreat.Fz
open Go.RowKit Word
set_option linter.unusedVariables false
set_option linter.unusedSimpArgs false
structure Fp where
  addr : Int
  perm : Int
  own : Bool
  text : ByteArray
def Fp.cells (p : Fp) : List Value := [.int .u32 p.addr, .int .u8 p.perm, .bool p.own, .string p.text]
def pgC (l : List Fp) : List Value := l.flatMap Fp.cells
theorem pgC_app (a b : List Fp) : pgC (a ++ b) = pgC a ++ pgC b := List.flatMap_append
theorem pgC_at : ∀ (l : List Fp) (i : Nat) (x : Fp), l[i]? = some x → ∀ j, j < 4 → (pgC l)[i * 4 + j]? = x.cells[j]?
  | [], i, x, h, j, hj => by simp at h
  | y :: l, 0, x, h, j, hj => by
    simp at h
    subst h
    have e : pgC (y :: l) = y.cells ++ pgC l := rfl
    rw [e, Nat.zero_mul, Nat.zero_add, List.getElem?_append_left (by simpa [Fp.cells] using hj)]
  | y :: l, i + 1, x, h, j, hj => by
    have := pgC_at l i x (by simpa using h) j hj
    have e : pgC (y :: l) = y.cells ++ pgC l := rfl
    rw [e, List.getElem?_append_right (by simp [Fp.cells]; omega), ← this]
    congr 1
    simp [Fp.cells]
    omega
structure Fr where
  m : Mn
  r : Nat → Int
  pc : Int
  sp : List Fp
  text : ByteArray
def Fr.arr (x : Fr) (ev pv sv : Value) : Array Value := #[.int .u32 x.m.pages, ev, pv, .bool x.m.con, .int .u32 (x.r 0), .int .u32 (x.r 1), .int .u32 (x.r 2), .int .u32 (x.r 3), .int .u32 (x.r 4), .int .u32 (x.r 5), .int .u32 (x.r 6), .int .u32 (x.r 7), .int .u32 (x.r 8), .int .u32 (x.r 9), .int .u32 (x.r 10), .int .u32 (x.r 11), .int .u32 (x.r 12), .int .u32 (x.r 13), .int .u32 (x.r 14), .int .u32 (x.r 15), .int .u32 x.pc, sv, .string x.text]
def upd (r : Nat → Int) (i : Nat) (v : Int) : Nat → Int := fun k => if k = i then v else r k
theorem arr_reg (x : Fr) (ev pv sv : Value) (i : Nat) (hi : i < 16) (v : Int) : (x.arr ev pv sv).setIfInBounds (4 + i) (.int .u32 v) = ({ x with r := upd x.r i v } : Fr).arr ev pv sv := by
  have : i = 0 ∨ i = 1 ∨ i = 2 ∨ i = 3 ∨ i = 4 ∨ i = 5 ∨ i = 6 ∨ i = 7 ∨ i = 8 ∨ i = 9 ∨ i = 10 ∨ i = 11 ∨ i = 12 ∨ i = 13 ∨ i = 14 ∨ i = 15 := by omega
  rcases this with rfl | rfl | rfl | rfl | rfl | rfl | rfl | rfl | rfl | rfl | rfl | rfl | rfl | rfl | rfl | rfl <;> rfl
theorem arr_getr (x : Fr) (ev pv sv : Value) (i : Nat) (hi : i < 16) : (x.arr ev pv sv)[4 + i]? = some (.int .u32 (x.r i)) := by
  have : i = 0 ∨ i = 1 ∨ i = 2 ∨ i = 3 ∨ i = 4 ∨ i = 5 ∨ i = 6 ∨ i = 7 ∨ i = 8 ∨ i = 9 ∨ i = 10 ∨ i = 11 ∨ i = 12 ∨ i = 13 ∨ i = 14 ∨ i = 15 := by omega
  rcases this with rfl | rfl | rfl | rfl | rfl | rfl | rfl | rfl | rfl | rfl | rfl | rfl | rfl | rfl | rfl | rfl <;> rfl
def FBox (w : World) (xb : Nat) (x : Fr) (ev pv sv : Value) : Prop := w.heap[xb]? = some (.cells (x.arr ev pv sv) 49 (0, 0))
theorem FBox.cell {w : World} {xb : Nat} {x : Fr} {ev pv sv : Value} (h : FBox w xb x ev pv sv) (j : Nat) (v : Value) (hv : (x.arr ev pv sv)[j]? = some v) : w.cell? ⟨xb, j, none⟩ = some v := by
  unfold FBox at h
  unfold World.cell?; rw [h]; exact hv
theorem FBox.thaw {w : World} {xb : Nat} {x : Fr} {ev pv sv : Value} (h : FBox w xb x ev pv sv) (j : Nat) : w.frozen? ⟨xb, j, none⟩ = false := by
  unfold FBox at h
  unfold World.frozen?; rw [h]; simp
theorem FBox.keep {F : Nat → Prop} {w w' : World} {xb : Nat} {x : Fr} {ev pv sv : Value} (h : FBox w xb x ev pv sv) (hm : Mod F w w') (hf : ¬ F xb) : FBox w' xb x ev pv sv := (hm.block _ (lt_of_block h) hf).trans h
theorem FBox.set {w : World} {xb : Nat} {x y : Fr} {ev pv sv ev' pv' sv' : Value} (h : FBox w xb x ev pv sv) (j : Nat) (v : Value) (he : (x.arr ev pv sv).setIfInBounds j v = y.arr ev' pv' sv') : FBox (w.setCell ⟨xb, j, none⟩ v) xb y ev' pv' sv' := by
  have := heap_setCell_same w xb j _ _ v h
  rw [he] at this
  exact this
structure FrIn (w : World) (x : Fr) (ev pv sv : Value) : Prop where
  m : MnAt w ev pv x.m
  s : SlV w 159 4 sv x.sp.length (pgC x.sp)
theorem FrIn.below {w w' : World} {x : Fr} {ev pv sv : Value} (h : FrIn w x ev pv sv) (hb : Below w.heap.size w w') : FrIn w' x ev pv sv := ⟨h.m.below hb, h.s.below hb⟩
def Fp.may (p : Fp) : Prop := p.addr % 256 = 0 ∧ p.addr < 1048576 ∧ p.perm ≤ 7 ∧ p.text.size = 256 ∧ (p.own = false ∨ p.perm = 3 ∧ 256 ≤ p.addr)
structure Fr.ok (x : Fr) : Prop where
  m : x.m.ok
  r : ∀ i, 0 ≤ x.r i ∧ x.r i ≤ 4294967295
  c : 0 ≤ x.pc ∧ x.pc ≤ 4294967295
  s : ∀ p, p ∈ x.sp → (0 ≤ p.addr ∧ p.addr ≤ 4294967295) ∧ 0 ≤ p.perm ∧ p.perm ≤ 255
def owns (l : List Fp) : Nat := (l.filter fun p => p.own).length
structure Fr.may (x : Fr) : Prop where
  pg : ∀ p, p ∈ x.sp → p.may
  up : x.sp.Pairwise fun p q => p.addr < q.addr
  m : Gp.checkE x.m = 0
  r0 : x.r 0 = 0
  own : (owns x.sp : Int) ≤ x.m.pages
  tx : x.text.size ≤ 4096
  con : x.m.con = true ∨ x.text.size = 0
def bit01 (b : Bool) : Int := if b then 1 else 0
def pageL (p : Fp) : List UInt8 := pL p.addr 4 ++ (pL p.perm 1 ++ (pL (bit01 p.own) 1 ++ tl p.text))
def manL (m : Mn) : List UInt8 := pL m.pages 4 ++ (pL m.ext.length 1 ++ ((m.ext.flatMap fun x => pL x.1 1 ++ pL x.2 2) ++ (pL m.ports.length 1 ++ ((m.ports.flatMap fun p => pL p 2) ++ pL (bit01 m.con) 1))))
def regL (r : Nat → Int) : List Int := [r 1, r 2, r 3, r 4, r 5, r 6, r 7, r 8, r 9, r 10, r 11, r 12, r 13, r 14, r 15]
def putL' (x : Fr) : List UInt8 := [65, 70, 90, 49] ++ (pL x.pc 4 ++ (bytesL 4 (regL x.r) ++ (manL x.m ++ (pL x.sp.length 2 ++ (x.sp.flatMap pageL ++ (pL x.text.size 2 ++ tl x.text))))))
end Go.Proofs.YtgdodbcpnmfnnaaGreat.Fz
namespace Go.Proofs.YtgdodbcpnmfnnaaGreat.Fz
open Go.RowKit Word
set_option linter.unusedVariables false
set_option linter.unusedSimpArgs false
structure GS (B rc rb pb xb : Nat) (s : ByteArray) (x : Fr) (ev pv : Value) (w : World) (k : Nat) (sv : Value) (r : List UInt8) : Prop where
  fr : FrR w rb pb s k
  kle : k ≤ s.size
  drp : (tl s).drop k = r
  cel : w.heap[rc]? = some (.cells #[.pointer (some ⟨rb, 0, none⟩)] 310 (0, 0))
  box : FBox w xb x ev pv sv
  row : SlV w 159 4 sv x.sp.length (pgC x.sp)
  own : ∀ g, sv.ownBlock = some g → B ≤ g ∧ g < w.heap.size
  lt : rc < B ∧ rb < B ∧ pb < B ∧ xb < B
  ne : xb ≠ rc ∧ xb ≠ rb ∧ xb ≠ pb ∧ rc ≠ rb ∧ rc ≠ pb
  bb : B ≤ w.heap.size
section
variable {B rc rb pb xb : Nat} {s : ByteArray} {x : Fr} {ev pv : Value} {w w' : World} {k k' : Nat} {sv : Value} {r r' : List UInt8}
theorem GS.c0 (h : GS B rc rb pb xb s x ev pv w k sv r) : w.cell? ⟨rc, 0, none⟩ = some (.pointer (some ⟨rb, 0, none⟩)) := by unfold World.cell?; rw [h.cel]; rfl
theorem GS.read (h : GS B rc rb pb xb s x ev pv w k sv r) (hf : FrR w' rb pb s k') (hk : k' ≤ s.size) (hd : (tl s).drop k' = r') (hm : Mod (fun i => i = pb) w w') : GS B rc rb pb xb s x ev pv w' k' sv r' :=
  ⟨hf, hk, hd, (hm.block _ (lt_of_block h.cel) h.ne.2.2.2.2).trans h.cel, h.box.keep hm h.ne.2.2.1, h.row.keep fun g hg => by
    have h1 := h.own g hg
    have h2 := h.lt.2.2.1
    exact hm.block g h1.2 (by omega), fun g hg => ⟨(h.own g hg).1, Nat.lt_of_lt_of_le (h.own g hg).2 hm.size⟩, h.lt, h.ne, Nat.le_trans h.bb hm.size⟩
theorem GS.below (h : GS B rc rb pb xb s x ev pv w k sv r) (hb : Below w.heap.size w w') : GS B rc rb pb xb s x ev pv w' k sv r :=
  ⟨h.fr.keep (Mod.of_below hb fun _ => False) id id, h.kle, h.drp, (hb.block _ (lt_of_block h.cel)).trans h.cel, h.box.keep (Mod.of_below hb fun _ => False) id, h.row.keep fun g hg => hb.block g (h.own g hg).2, fun g hg => ⟨(h.own g hg).1, Nat.lt_of_lt_of_le (h.own g hg).2 hb.size⟩, h.lt, h.ne, Nat.le_trans h.bb hb.size⟩
theorem GS.off (h : GS B rc rb pb xb s x ev pv w k sv r) {q : Nat} (hq : B ≤ q) (hn : ∀ g, sv.ownBlock = some g → g ≠ q) (i : Nat) (v : Value) : GS B rc rb pb xb s x ev pv (w.setCell ⟨q, i, none⟩ v) k sv r := by
  have hm : Mod (fun j => j = q) w (w.setCell ⟨q, i, none⟩ v) := Mod.setCell (F := fun j => j = q) (Mod.refl _ _) ⟨q, i, none⟩ (.inl rfl) _
  obtain ⟨l1, l2, l3, l4⟩ := h.lt
  exact ⟨h.fr.keep hm (by omega) (by omega), h.kle, h.drp, (hm.block _ (lt_of_block h.cel) (by omega)).trans h.cel, h.box.keep hm (by omega), h.row.keep fun g hg => hm.block g (h.own g hg).2 (hn g hg), fun g hg => ⟨(h.own g hg).1, Nat.lt_of_lt_of_le (h.own g hg).2 hm.size⟩, h.lt, h.ne, Nat.le_trans h.bb hm.size⟩
theorem GS.pages (h : GS B rc rb pb xb s x ev pv w k sv r) {n : Nat} (hn : n = 1 ∨ n = 2 ∨ n = 4) (hs : s.size ≤ maxLen) {v : Int} (hf : fitN v n) (hr : r = pL v n ++ r') :
    Calls Tryz.prog 180 #[.pointer (some ⟨rb, 0, none⟩), .int .i64 n] w fun e w' => e = .returned (.int .u32 v) ∧ GS B rc rb pb xb s x ev pv w' (k + n) sv r' ∧ Mod (fun i => i = pb) w w' :=
  (numV h.fr hs h.kle hn hf (h.drp.trans hr)).mono fun e w' ⟨he, h1, h2, h3, h4⟩ => ⟨he, h.read h1 h3 h4 h2, h2⟩
theorem info_page : (Tryz.prog.info? 159).map (fun i => (i.zero, i.size, i.bytes)) = some (some (.agg #[.int .u32 0, .int .u8 0, .bool false, .string ByteArray.empty]), 4, 24) := by kernel_rfl
set_option maxRecDepth 100000 in
set_option maxHeartbeats 1000000 in
theorem get3 (h : GS B rc rb pb xb s x ev pv w k sv r) (hs : s.size ≤ maxLen) {p : Fp} (ha : 0 ≤ p.addr ∧ p.addr ≤ 4294967295) (hp : 0 ≤ p.perm ∧ p.perm < 256) (ht : p.text.size = 256) (hr : r = pageL p ++ r') (hl : x.sp.length ≤ 70000) :
    Calls Tryz.prog 184 #[.pointer (some ⟨rc, 0, none⟩), .pointer (some ⟨xb, 0, none⟩)] w fun e w' => e = .returned (.tuple #[]) ∧ ∃ k' sv', GS B rc rb pb xb s { x with sp := x.sp ++ [p] } ev pv w' k' sv' r' ∧ Mod (fun i => i = pb ∨ i = xb ∨ sv.ownBlock = some i) w w' := by
  obtain ⟨so, sc, rfl⟩ := h.row.form
  obtain ⟨pa, pp, po, pt⟩ := p
  simp only at ha hp ht
  unfold pageL at hr
  simp only [List.append_assoc] at hr
  have HN := Lib.hid (h.pages (.inr (.inr rfl)) hs (v := pa) ⟨ha.1, by show pa < 256 ^ 4; omega⟩ hr)
  have HS := Lib.hid hs
  have HL := Lib.hid hl
  have HT := Lib.hid ht
  have HP := Lib.hid hp
  have iw : IntKind.u8.wrap pp = pp := by rw [IntKind.wrap_u8]; omega
  have c0 := h.c0
  clear h hs hl ht hp ha hr
  go_enter Tryz.func184, Tryz.ntmps184
  go_wp2_with fail
  refine HN.out.mono ?_
  rintro e w1 ⟨rfl, h1, m1⟩
  have hb1 : Below w1.heap.size w1 (w1.alloc (.cells #[.int .u32 pa, .int .u8 0, .bool false, .string { data := #[] }] 159)) := (Below.refl _ _).alloc (Nat.le_refl _) _
  have hx1 := heap_alloc_new w1 (.cells #[.int .u32 pa, .int .u8 0, .bool false, .string { data := #[] }] 159)
  have h2 := h1.below hb1
  have m2 := m1.same (Mod.of_below hb1 _)
  have hB1 := h1.bb
  have hs1 : w.heap.size ≤ w1.heap.size := m1.size
  have c2 := h2.c0
  obtain ⟨w2, hw2⟩ : ∃ w2, w1.alloc (.cells #[.int .u32 pa, .int .u8 0, .bool false, .string { data := #[] }] 159) = w2 := ⟨_, rfl⟩
  obtain ⟨qb, hqb⟩ : ∃ qb, w1.heap.size = qb := ⟨_, rfl⟩
  rw [hw2] at hb1 hx1 h2 m2
  rw [hqb] at hx1 hB1 hs1
  have H2 := Lib.hid h2
  have M2 := Lib.hid m2
  have X2 := Lib.hid hx1
  have HB := Lib.hid (And.intro hB1 hs1)
  have ho : ∀ g, (Value.slice so x.sp.length sc).ownBlock = some g → g ≠ qb := fun g hg e => by
    have := (h1.own g hg).2
    omega
  have HO := Lib.hid ho
  clear ho
  have HW2 := Lib.hid hw2
  have HQb := Lib.hid hqb
  clear h1 m1 HN hb1 hx1 h2 m2 hB1 hs1 hw2 hqb
  have HN2 := Lib.hid (H2.out.pages (.inl rfl) HS.out (v := pp) ⟨HP.out.1, by have := HP.out.2; show pp < 256 ^ 1; omega⟩ rfl)
  go_wp2_with fail
  rw [HW2.out]
  rw [HQb.out]
  refine HN2.out.mono ?_
  rintro e w3 ⟨rfl, h3, m3⟩
  have x3 := (m3.block _ (lt_of_block X2.out) (by have := HB.out.1; have := H2.out.lt.2.2.1; omega)).trans X2.out
  have f3 : ∀ i, w3.frozen? ⟨qb, i, none⟩ = false := fun i => by unfold World.frozen?; rw [x3]; simp
  have f3' := f3 1
  have e3 : w3.cell? ⟨qb, 1, none⟩ = some (.int .u8 0) := by unfold World.cell?; rw [x3]; rfl
  have H3 := Lib.hid h3
  have M3 := Lib.hid (M2.out.same m3)
  have X3 := Lib.hid x3
  clear h3 m3 x3 f3 HN2 H2 M2 X2 c2
  have x4 := heap_setCell_same w3 qb 1 _ _ (.int .u8 pp) X3.out
  have h4 : GS B rc rb pb xb s x ev pv (w3.setCell ⟨qb, 1, none⟩ (.int .u8 pp)) _ (.slice so x.sp.length sc) _ := H3.out.off HB.out.1 HO.out _ _
  have m4 : Mod (fun i => i = pb) w (w3.setCell ⟨qb, 1, none⟩ (.int .u8 pp)) := M3.out.setCell _ (.inr HB.out.2) _
  have c3 := H3.out.c0
  have n1 : ¬ (rc = qb) := by have := HB.out.1; have := H3.out.lt.1; omega
  have n2 : ¬ (qb = rc) := fun e => n1 e.symm
  have n3 : ¬ (rb = qb) := by have := HB.out.1; have := H3.out.lt.2.1; omega
  have n4 : ¬ (qb = rb) := fun e => n3 e.symm
  have n5 : ¬ (xb = qb) := by have := HB.out.1; have := H3.out.lt.2.2.2; omega
  have n6 : ¬ (qb = xb) := fun e => n5 e.symm
  have c4 := h4.c0
  have HN4 := Lib.hid (h4.pages (.inl rfl) HS.out (v := bit01 po) (by cases po <;> exact ⟨by decide, by decide⟩) rfl)
  have X4 := Lib.hid x4
  have M4 := Lib.hid m4
  have hlt4 : pb < B := h4.lt.2.2.1
  clear x4 h4 m4 c0 H3 M3
  go_wp2_with fail
  refine HN4.out.mono ?_
  rintro e w5 ⟨rfl, h5, m5⟩
  have x5 := (m5.block _ (lt_of_block X4.out) (by have := HB.out.1; omega)).trans X4.out
  have f5 : w5.frozen? ⟨qb, 2, none⟩ = false := by unfold World.frozen?; rw [x5]; simp
  have e5 : w5.cell? ⟨qb, 2, none⟩ = some (.bool false) := by unfold World.cell?; rw [x5]; rfl
  have hb5 : (bit01 po == 1) = po := by cases po <;> rfl
  have m5 := M4.out.same m5
  have x6 := heap_setCell_same w5 qb 2 _ _ (.bool po) x5
  have h6 : GS B rc rb pb xb s x ev pv (w5.setCell ⟨qb, 2, none⟩ (.bool po)) _ (.slice so x.sp.length sc) _ := h5.off HB.out.1 HO.out _ _
  have m6 : Mod (fun i => i = pb) w (w5.setCell ⟨qb, 2, none⟩ (.bool po)) := m5.setCell _ (.inr HB.out.2) _
  have c5 := h5.c0
  have d5 : w5.cell? ⟨rb, 0, none⟩ = some (.pointer (some ⟨pb, 0, none⟩)) := by unfold World.cell?; rw [h5.fr.h]; rfl
  have c6 := h6.c0
  have d6 : (w5.setCell ⟨qb, 2, none⟩ (.bool po)).cell? ⟨rb, 0, none⟩ = some (.pointer (some ⟨pb, 0, none⟩)) := by unfold World.cell?; rw [h6.fr.h]; rfl
  have HT6 := Lib.hid (takeV h6.fr.r HS.out h6.kle HT.out h6.drp)
  have H6 := Lib.hid h6
  have X6 := Lib.hid x6
  have M6 := Lib.hid m6
  clear h5 x5 m5 x6 h6 m6 HN4 X4 M4 c4 c3
  go_wp2_with fail
  refine HT6.out.mono ?_
  rintro e w7 ⟨rfl, h7, m7, k7, d7⟩
  have x7 := (m7.block _ (lt_of_block X6.out) (by have := HB.out.1; omega)).trans X6.out
  have f7 : w7.frozen? ⟨qb, 3, none⟩ = false := by unfold World.frozen?; rw [x7]; simp
  have e7 : w7.cell? ⟨qb, 3, none⟩ = some (.string { data := #[] }) := by unfold World.cell?; rw [x7]; rfl
  have g7 : GS B rc rb pb xb s x ev pv w7 _ (.slice so x.sp.length sc) r' := H6.out.read ⟨h7, (m7.block _ (lt_of_block H6.out.fr.h) H6.out.fr.ne).trans H6.out.fr.h⟩ k7 d7 m7
  have m7 := M6.out.same m7
  have x8 := heap_setCell_same w7 qb 3 _ _ (.string pt) x7
  have h8 : GS B rc rb pb xb s x ev pv (w7.setCell ⟨qb, 3, none⟩ (.string pt)) _ (.slice so x.sp.length sc) _ := g7.off HB.out.1 HO.out _ _
  have m8 : Mod (fun i => i = pb) w (w7.setCell ⟨qb, 3, none⟩ (.string pt)) := m7.setCell _ (.inr HB.out.2) _
  have x8 : (w7.setCell ⟨qb, 3, none⟩ (.string pt)).heap[qb]? = some (.cells #[.int .u32 pa, .int .u8 pp, .bool po, .string pt] 159 (0, 0)) := x8
  have q0 : (w7.setCell ⟨qb, 3, none⟩ (.string pt)).cell? ⟨qb, 0, none⟩ = some (.int .u32 pa) := by unfold World.cell?; rw [x8]; rfl
  have q1 : (w7.setCell ⟨qb, 3, none⟩ (.string pt)).cell? ⟨qb, 1, none⟩ = some (.int .u8 pp) := by unfold World.cell?; rw [x8]; rfl
  have q2 : (w7.setCell ⟨qb, 3, none⟩ (.string pt)).cell? ⟨qb, 2, none⟩ = some (.bool po) := by unfold World.cell?; rw [x8]; rfl
  have q3 : (w7.setCell ⟨qb, 3, none⟩ (.string pt)).cell? ⟨qb, 3, none⟩ = some (.string pt) := by unfold World.cell?; rw [x8]; rfl
  have b8 : (w7.setCell ⟨qb, 3, none⟩ (.string pt)).cell? ⟨xb, 21, none⟩ = some (.slice so x.sp.length sc) := h8.box.cell 21 _ rfl
  have r0 : w7.cell? ⟨qb, 0, none⟩ = some (.int .u32 pa) := by unfold World.cell?; rw [x7]; rfl
  have r1 : w7.cell? ⟨qb, 1, none⟩ = some (.int .u8 pp) := by unfold World.cell?; rw [x7]; rfl
  have r2 : w7.cell? ⟨qb, 2, none⟩ = some (.bool po) := by unfold World.cell?; rw [x7]; rfl
  have r3 : w7.cell? ⟨xb, 21, none⟩ = some (.slice so x.sp.length sc) := g7.box.cell 21 _ rfl
  have hb9 : Below (w7.setCell ⟨qb, 3, none⟩ (.string pt)).heap.size (w7.setCell ⟨qb, 3, none⟩ (.string pt)) ((w7.setCell ⟨qb, 3, none⟩ (.string pt)).alloc (.cells #[.int .u32 pa, .int .u8 pp, .bool po, .string pt] 159)) := (Below.refl _ _).alloc (Nat.le_refl _) _
  have n9 := heap_alloc_new (w7.setCell ⟨qb, 3, none⟩ (.string pt)) (.cells #[.int .u32 pa, .int .u8 pp, .bool po, .string pt] 159)
  have hzs : (w7.setCell ⟨qb, 3, none⟩ (.string pt)).heap.size = w7.heap.size := by simp [World.setCell]
  rw [hzs] at n9
  have H9 := Lib.hid (h8.below hb9)
  have M9 := Lib.hid (m8.same (Mod.of_below hb9 _))
  have N9 := Lib.hid n9
  have hsz : w.heap.size ≤ (w7.setCell ⟨qb, 3, none⟩ (.string pt)).heap.size := m8.size
  have HSz := Lib.hid hsz
  clear hzs h7 k7 d7 x7 g7 m7 x8 h8 m8 hb9 n9 HT6 H6 X6 M6 c6 d6 hsz c5 d5
  obtain ⟨i0, hi0, hz0, hz1, hz2⟩ := info_parts info_page
  have hll := HL.out
  obtain ⟨v10, w10, hrun, r10, m10, o10⟩ := H9.out.row.append (P := Tryz.prog) (t := 47) (bytes := 24) 47 i0 _ Tryz.underlying47 hi0 hz0 hz1 hz2 rfl (by decide) ⟨w7.heap.size, 0, none⟩ 1 1 [.int .u32 pa, .int .u8 pp, .bool po, .string pt] (by decide) rfl (fun j u hu => by rw [Addr.add_lit]; unfold World.cell?; simp only [Nat.zero_add]; rw [N9.out]; simpa using hu) (fun u hu => by simp at hu; rcases hu with rfl | rfl | rfl | rfl <;> rfl) (by unfold maxLen; omega) (by omega)
  obtain ⟨s10, k10, rfl⟩ := r10.form
  have HX := Lib.hid H9.out.ne
  have HLt := Lib.hid H9.out.lt
  have hno : ∀ g, (Value.slice so x.sp.length sc).ownBlock = some g → B ≤ g := fun g hg => (H9.out.own g hg).1
  have h10 : FBox w10 xb x ev pv (.slice so x.sp.length sc) := H9.out.box.keep m10 fun e => by have := hno _ e; have := HLt.out.2.2.2; omega
  have q10 : w10.cell? ⟨xb, 21, none⟩ = some (.slice so x.sp.length sc) := h10.cell 21 _ rfl
  have f10 : w10.frozen? ⟨xb, 21, none⟩ = false := h10.thaw 21
  have hg10 : GS B rc rb pb xb s { x with sp := x.sp ++ [⟨pa, pp, po, pt⟩] } ev pv (w10.setCell ⟨xb, 21, none⟩ (.slice s10 (x.sp.length + 1) k10)) (k + 4 + 1 + 1 + 256) (.slice s10 (x.sp.length + 1) k10) r' := by
    have hm : Mod (fun j => j = xb) w10 (w10.setCell ⟨xb, 21, none⟩ (.slice s10 (x.sp.length + 1) k10)) := Mod.setCell (F := fun j => j = xb) (Mod.refl _ _) ⟨xb, 21, none⟩ (.inl rfl) _
    obtain ⟨l1, l2, l3, l4⟩ := HLt.out
    obtain ⟨n1, n2, n3, n4, n5⟩ := HX.out
    have hsz := m10.size
    have hbb := H9.out.bb
    have ho : ∀ g, (Value.slice s10 (x.sp.length + 1) k10).ownBlock = some g → B ≤ g ∧ g < w10.heap.size := fun g hg => by
      obtain ⟨g', e1, e2⟩ := r10.lt (by omega)
      rw [hg] at e1
      cases e1
      refine ⟨?_, e2⟩
      rcases o10 with q | ⟨z, q, qz⟩
      · rw [q] at hg; exact hno _ hg
      · rw [q] at hg; cases hg; omega
    have lo : ∀ z, z < B → ¬ (Value.slice so x.sp.length sc).ownBlock = some z := fun z hz e => by have := hno _ e; omega
    exact ⟨(H9.out.fr.keep m10 (lo _ l3) (lo _ l2)).keep hm (fun e => n3 e.symm) (fun e => n2 e.symm), H9.out.kle, H9.out.drp, (hm.block _ (by omega) fun e => n1 e.symm).trans ((m10.block _ (by omega) (lo _ l1)).trans H9.out.cel), h10.set 21 _ rfl, by
      have : (x.sp ++ [(⟨pa, pp, po, pt⟩ : Fp)]).length = x.sp.length + 1 := by simp
      show SlV _ _ 4 _ (x.sp ++ [(⟨pa, pp, po, pt⟩ : Fp)]).length (pgC (x.sp ++ [⟨pa, pp, po, pt⟩]))
      rw [this, pgC_app]
      exact r10.keep fun g hg => hm.block g (ho g hg).2 (by have := (ho g hg).1; omega), fun g hg => ⟨(ho g hg).1, Nat.lt_of_lt_of_le (ho g hg).2 hm.size⟩, H9.out.lt, H9.out.ne, by have := hm.size; omega⟩
  have hm10 : Mod (fun i => i = pb ∨ i = xb ∨ (Value.slice so x.sp.length sc).ownBlock = some i) w (w10.setCell ⟨xb, 21, none⟩ (.slice s10 (x.sp.length + 1) k10)) :=
    ((M9.out.mono fun i _ e => .inl e).same (m10.mono fun i _ e => .inr (.inr e))).setCell ⟨xb, 21, none⟩ (.inl (.inr (.inl rfl))) _
  have HG := Lib.hid (And.intro hg10 hm10)
  have HRun := Lib.hid hrun
  clear hrun r10 m10 o10 hno h10 hg10 hm10 H9 M9 N9 HX HLt HSz i0 hi0 hz0 hz1 hz2
  go_wp2_with (at_builtin; refine R11.wpList_append_run rfl _ _ _ rfl rfl rfl HRun.out ?_)
  first | exact ⟨rfl, _, _, HG.out.1, HG.out.2⟩ | (go_end0; exact ⟨rfl, _, _, HG.out.1, HG.out.2⟩)
end
end Go.Proofs.YtgdodbcpnmfnnaaGreat.Fz
namespace Go.Proofs.YtgdodbcpnmfnnaaGreat.Fz
open Go.RowKit Word
set_option linter.unusedVariables false
set_option linter.unusedSimpArgs false
section
variable {P : Program} {Q : Exit → Act → World → Prop} {md : Region.Mode} {S : World → Prop}
theorem TN {l : List Oper} {oi : Oper} {fuel : Nat} {listed : Array Bool} {a a' : Act} {w : World} (i : Nat) (hS : S w)
    (h : wpAnyH P md l.toArray Q S fuel (listed.setIfInBounds i true) a' w)
    (hi : l[i]? = some oi := by rfl) (hs : Region.noSelect l.toArray = true := by kernel_rfl) (hf : Region.free md l.toArray listed i = true := by kernel_rfl) (hr : (Region.ready md l.toArray listed).contains i = true := by kernel_rfl)
    (hw : Region.wanted oi (yielded l.toArray a.tmps) = false := by rfl)
    (hQ : ∀ c a w, Q (.panic c) (a.put oi.dst undef) w → Q (.panic c) a w := by exact fun _ _ _ h => h)
    (ha : a.put oi.dst undef = a' := by simp only [Act.put, List.getElem_toArray, List.getElem_cons_succ, List.getElem_cons_zero, List.setIfInBounds_toArray, List.set_cons_zero, List.set_cons_succ]; rfl) : wpAnyH P md l.toArray Q S (fuel + 1) listed a w := by
  subst ha
  exact wpAnyH_take (by rw [List.getElem?_toArray]; exact hi) hs hf hr hQ (Or.inr ⟨hw, rfl⟩) hS h
end
theorem page {p : Fp} (h : p.may) (a0 : 0 ≤ p.addr) (w : World) : Calls Tryz.prog 201 #[.agg #[.int .u32 p.addr, .int .u8 p.perm, .bool p.own, .string p.text]] w fun e w' => e = .returned (.bool true) ∧ Below w.heap.size w w' := by
  obtain ⟨pa, pp, po, pt⟩ := p
  obtain ⟨h1, h2, h3, h4, h5⟩ := h
  simp only at h1 h2 h3 h4 h5 a0
  have HB := Lib.hid ((Below.refl w.heap.size w).alloc (Nat.le_refl _) (.cells #[.int .u32 pa, .int .u8 pp, .bool po, .string pt] 159))
  have g1 : (pa % 256 != 0) = false := by rw [h1]; rfl
  have g2 : ¬ (1048576 : Int) ≤ pa := by omega
  have g3 : ¬ (7 : Int) < pp := by omega
  have g4 : ((pt.size : Int) != 256) = false := by rw [h4]; rfl
  clear h4
  cases po with
  | false =>
    clear h5
    go_enter Tryz.func201, Tryz.ntmps201
    go_wp2
    first | exact ⟨rfl, HB.out⟩ | (go_ret; exact ⟨rfl, HB.out⟩)
  | true =>
    have h5 := h5.resolve_left (by decide)
    have g5 : (pp == 3) = true := by rw [h5.1]; rfl
    have g6 : (256 : Int) ≤ pa := h5.2
    clear h5
    go_enter Tryz.func201, Tryz.ntmps201
    go_wp2
    first | exact ⟨rfl, HB.out⟩ | (go_ret; exact ⟨rfl, HB.out⟩)
theorem owns_take (l : List Fp) (i : Nat) (hi : i < l.length) : owns (l.take (i + 1)) = owns (l.take i) + (if l[i].own = true then 1 else 0) := by
  unfold owns
  rw [List.take_succ_eq_append_getElem hi, List.filter_append, List.length_append]
  congr 1
  by_cases h : l[i].own = true
  · rw [if_pos h, List.filter_cons_of_pos h]; rfl
  · rw [if_neg h, List.filter_cons_of_neg h]; rfl
theorem owns_le (l : List Fp) : owns l ≤ l.length := List.length_filter_le ..
theorem pg_cells {w : World} {so : Option Addr} {sc : Nat} {l : List Fp} (h : SlV w 159 4 (.slice so l.length sc) l.length (pgC l)) {i : Nat} (hi : i < l.length) :
    ∃ g off, so = some ⟨g, off, none⟩ ∧ g < w.heap.size ∧ w.cell? ⟨g, off + i * 4, none⟩ = some (.int .u32 l[i].addr) ∧ w.cell? ⟨g, off + i * 4 + 1, none⟩ = some (.int .u8 l[i].perm) ∧ w.cell? ⟨g, off + i * 4 + 2, none⟩ = some (.bool l[i].own) ∧ w.cell? ⟨g, off + i * 4 + 3, none⟩ = some (.string l[i].text) := by
  have hx : l[i]? = some l[i] := List.getElem?_eq_getElem hi
  have h0 := pgC_at l i _ hx
  rcases h.2 with ⟨e, _⟩ | ⟨g, off, cap, cur, hv, hg, _⟩
  · omega
  · simp only [Value.slice.injEq, true_and] at hv
    obtain ⟨rfl, rfl⟩ := hv
    have hc := fun j (hj : j < 4) => h.cell (i * 4 + j) (by have : (i + 1) * 4 ≤ l.length * 4 := Nat.mul_le_mul_right _ hi; omega)
    refine ⟨g, off, rfl, lt_of_block hg, ?_, ?_, ?_, ?_⟩
    · exact (hc 0 (by omega)).trans ((h0 0 (by omega)).trans rfl)
    · rw [Nat.add_assoc]; exact (hc 1 (by omega)).trans ((h0 1 (by omega)).trans rfl)
    · rw [Nat.add_assoc]; exact (hc 2 (by omega)).trans ((h0 2 (by omega)).trans rfl)
    · rw [Nat.add_assoc]; exact (hc 3 (by omega)).trans ((h0 3 (by omega)).trans rfl)
def ckRel (w1 : World) (l : List Fp) (vo vi : Value) (wr : World) : Prop := ∃ i : Nat, i ≤ l.length ∧ vi = .int .i64 i ∧ vo = .int .u32 (owns (l.take i)) ∧ Below w1.heap.size w1 wr
set_option maxRecDepth 100000 in
set_option maxHeartbeats 4000000 in
theorem check {w : World} {x : Fr} {ev pv sv : Value} (h : FrIn w x ev pv sv) (ho : x.ok) (hm : x.may) (hl : x.sp.length ≤ 70000) :
    Calls Tryz.prog 96 #[.agg (x.arr ev pv sv)] w fun e w' => e = .returned (.int .i64 0) ∧ Below w.heap.size w w' := by
  obtain ⟨so, sc, rfl⟩ := h.s.form
  have hb : Below w.heap.size w (w.alloc (.cells (x.arr ev pv (.slice so x.sp.length sc)) 49)) := (Below.refl _ _).alloc (Nat.le_refl _) _
  have hx : FBox (w.alloc (.cells (x.arr ev pv (.slice so x.sp.length sc)) 49)) w.heap.size x ev pv (.slice so x.sp.length sc) := heap_alloc_new w _
  have h1 := h.below hb
  obtain ⟨w1, hw1⟩ : ∃ w1, w.alloc (.cells (x.arr ev pv (.slice so x.sp.length sc)) 49) = w1 := ⟨_, rfl⟩
  obtain ⟨xb, hxb⟩ : ∃ b, w.heap.size = b := ⟨_, rfl⟩
  rw [hw1] at hb hx h1
  rw [hxb] at hx
  have HB := Lib.hid hb
  have HX := Lib.hid hx
  have HI := Lib.hid fun V (hV : Below w1.heap.size w1 V) => h1.below hV
  have HC : Hid (∀ V, Below w1.heap.size w1 V → V.cell? ⟨xb, 0, none⟩ = some (.int .u32 x.m.pages) ∧ V.cell? ⟨xb, 1, none⟩ = some ev ∧ V.cell? ⟨xb, 2, none⟩ = some pv ∧ V.cell? ⟨xb, 3, none⟩ = some (.bool x.m.con) ∧ V.cell? ⟨xb, 4, none⟩ = some (.int .u32 (x.r 0)) ∧ V.cell? ⟨xb, 21, none⟩ = some (.slice so x.sp.length sc) ∧ V.cell? ⟨xb, 22, none⟩ = some (.string x.text) ∧ True) := Lib.hid fun V hV => by
    have q := HX.out.keep (Mod.of_below hV fun _ => False) id
    exact ⟨q.cell 0 _ rfl, q.cell 1 _ rfl, q.cell 2 _ rfl, q.cell 3 _ rfl, q.cell 4 _ rfl, q.cell 21 _ rfl, q.cell 22 _ rfl, trivial⟩
  have HM := Lib.hid hm
  have HO := Lib.hid ho
  have HL := Lib.hid hl
  have HDm := Lib.hid fun V (hV : Below w1.heap.size w1 V) => Dm.check (h1.below hV).m
  obtain ⟨c0, c1, c2, c3, c4, c21, c22, _⟩ := HC.out w1 (Below.refl _ _)
  have HR0 : Hid (ckRel w1 x.sp (.int .u32 0) (.int .i64 0) w1) := Lib.hid ⟨0, Nat.zero_le _, rfl, rfl, Below.refl _ _⟩
  clear h ho hm hl hb hx h1
  unfold Fr.arr at hw1 ⊢
  go_enter Tryz.func96, Tryz.ntmps96
  go_wp2
  try rw [hw1]
  try rw [hxb]
  clear hw1 hxb
  go_loopw [3, 10] (fun vo vi wr => ckRel w1 x.sp vo vi wr) (fun _ vi _ => x.sp.length - (intOf vi).toNat)
  case atStart => exact HR0.out
  case round =>
    clear HR0 c0 c1 c2 c3 c4 c21 c22
    obtain ⟨i, hi, rfl, rfl, hbw⟩ := hrel
    obtain ⟨c0, c1, c2, c3, c4, c21, c22, _⟩ := HC.out wr hbw
    have HBw := Lib.hid hbw
    clear hbw
    by_cases hin : i < x.sp.length
    · have ii : (i : Int) < x.sp.length := by omega
      have hr := (HI.out wr HBw.out).s
      obtain ⟨g, off, rfl, hgl, p0, p1, p2, p3⟩ := pg_cells hr hin
      obtain ⟨hs1, hs2, hs3⟩ := HO.out.s _ (List.getElem_mem hin)
      have hpg := HM.out.pg _ (List.getElem_mem hin)
      have hot := owns_take x.sp i hin
      have hle := owns_le (x.sp.take i)
      rw [List.length_take] at hle
      have hprev : ∀ k, i = k + 1 → ∃ b, wr.cell? ⟨g, off + k * 4, none⟩ = some (.int .u32 b) ∧ ¬ x.sp[i].addr ≤ b := fun k hk => by
        have hk' : k < x.sp.length := by omega
        obtain ⟨g', off', e1, _, q0, _⟩ := pg_cells hr hk'
        simp only [Option.some.injEq, Addr.mk.injEq, and_true] at e1
        obtain ⟨rfl, rfl⟩ := e1
        refine ⟨_, q0, ?_⟩
        have := List.pairwise_iff_getElem.1 HM.out.up k i hk' hin (by omega)
        omega
      generalize hp : x.sp[i] = p at *
      obtain ⟨pa, pp, po, pt⟩ := p
      simp only at p0 p1 p2 p3 hs1 hot
      have hb2 : Below wr.heap.size wr (wr.alloc (.cells #[.int .u32 pa, .int .u8 pp, .bool po, .string pt] 159)) := (Below.refl _ _).alloc (Nat.le_refl _) _
      have hx2 := heap_alloc_new wr (.cells #[.int .u32 pa, .int .u8 pp, .bool po, .string pt] 159)
      have HPg := Lib.hid fun V => page hpg hs1.1 V
      have HB2 := Lib.hid (below_th HBw.out hb2)
      have HHb2 := Lib.hid hb2
      have HX2 := Lib.hid hx2
      have HOt := Lib.hid hot
      have HLe := Lib.hid hle
      have HC2 : Hid (∀ V, Below (wr.alloc (.cells #[.int .u32 pa, .int .u8 pp, .bool po, .string pt] 159)).heap.size (wr.alloc (.cells #[.int .u32 pa, .int .u8 pp, .bool po, .string pt] 159)) V → V.cell? ⟨wr.heap.size, 0, none⟩ = some (.int .u32 pa) ∧ V.cell? ⟨wr.heap.size, 1, none⟩ = some (.int .u8 pp) ∧ V.cell? ⟨wr.heap.size, 2, none⟩ = some (.bool po) ∧ V.cell? ⟨wr.heap.size, 3, none⟩ = some (.string pt) ∧ V.cell? ⟨xb, 21, none⟩ = some (.slice (some ⟨g, off, none⟩) x.sp.length sc) ∧ V.cell? ⟨g, off + i * 4, none⟩ = some (.int .u32 pa) ∧ (∀ k b, wr.cell? ⟨g, off + k * 4, none⟩ = some (.int .u32 b) → V.cell? ⟨g, off + k * 4, none⟩ = some (.int .u32 b))) := Lib.hid fun V hV => by
        have q := (hV.block _ (lt_of_block hx2)).trans hx2
        have hv2 := below_th hb2 hV
        refine ⟨?_, ?_, ?_, ?_, (HC.out V (below_th HBw.out hv2)).2.2.2.2.2.1, cellK hv2 p0, fun k b hkb => cellK hv2 hkb⟩ <;> (unfold World.cell?; rw [q]; rfl)
      have hiw : (i : Int) ≤ 70000 := by have := HL.out; omega
      have iw1 : IntKind.i64.wrap ((i : Int) + 1) = (i : Int) + 1 := by rw [IntKind.wrap_i64]; omega
      have iw2 : IntKind.u32.wrap ((owns (x.sp.take i) : Int) + 1) = (owns (x.sp.take i) : Int) + 1 := by have := HL.out; rw [IntKind.wrap_u32]; omega
      clear hr hs2 hs3 hpg hot hle hb2 hx2 hs1 hiw
      obtain ⟨w2, hw2⟩ : ∃ w2, wr.alloc (.cells #[.int .u32 pa, .int .u8 pp, .bool po, .string pt] 159) = w2 := ⟨_, rfl⟩
      obtain ⟨qb, hqb⟩ : ∃ b, wr.heap.size = b := ⟨_, rfl⟩
      rw [hw2] at HB2 HHb2 HX2 HC2
      rw [hqb] at HX2 HC2
      by_cases h0 : i = 0
      · subst h0
        rw [Nat.zero_mul, Nat.add_zero] at p0 p1 p2 p3
        have HS : Hid (∀ V, Below w2.heap.size w2 V → (fun V => V.cell? ⟨qb, 0, none⟩ = some (.int .u32 pa) ∧ V.cell? ⟨qb, 1, none⟩ = some (.int .u8 pp) ∧ V.cell? ⟨qb, 2, none⟩ = some (.bool po) ∧ V.cell? ⟨qb, 3, none⟩ = some (.string pt) ∧ V.cell? ⟨xb, 21, none⟩ = some (.slice (some ⟨g, off, none⟩) x.sp.length sc) ∧ True) V) := Lib.hid fun V hV => by
          obtain ⟨q0, q1, q2, q3, q4, q5, q6⟩ := HC2.out V hV
          exact ⟨q0, q1, q2, q3, q4, trivial⟩
        clear HC2
        go_wp2_with fail
        try rw [hw2]
        try rw [hqb]
        clear hw2 hqb c0 c1 c2 c3 c4 c21 c22 p0 p1 p2 p3
        refine B (fun V => V.cell? ⟨qb, 0, none⟩ = some (.int .u32 pa) ∧ V.cell? ⟨qb, 1, none⟩ = some (.int .u8 pp) ∧ V.cell? ⟨qb, 2, none⟩ = some (.bool po) ∧ V.cell? ⟨qb, 3, none⟩ = some (.string pt) ∧ V.cell? ⟨xb, 21, none⟩ = some (.slice (some ⟨g, off, none⟩) x.sp.length sc) ∧ True) (HS.out _ (Below.refl _ _).drew) ?_
        intro wd hwd hS
        have HBd : Hid (Below w2.heap.size w2 wd) := Lib.hid (by subst hwd; exact (Below.refl _ _).drew)
        clear hwd
        refine T 0 hS ?_
        refine U 1 fun K' hK => ?_
        go_simp
        go_at_call 201
        refine (HPg.out _).mono ?_
        rintro e w3 ⟨rfl, hb3⟩
        have HB3 := Lib.hid (below_th HBd.out hb3)
        have hS3 := HS.out w3 HB3.out
        clear hb3 hS
        refine V hK hS3 ?_; clear hK K'
        refine T 2 hS3 ?_
        refine T 3 hS3 ?_
        refine T 4 hS3 ?_
        refine T 5 hS3 ?_
        refine T 6 hS3 ?_
        refine TN 7 hS3 ?_
        refine TN 8 hS3 ?_
        refine TN 9 hS3 ?_
        refine TN 10 hS3 ?_
        refine TN 11 hS3 ?_
        refine TN 12 hS3 ?_
        refine TN 13 hS3 ?_
        refine TN 14 hS3 ?_
        refine TN 15 hS3 ?_
        refine TN 16 hS3 ?_
        refine TN 17 hS3 ?_
        refine TN 18 hS3 ?_
        refine TN 19 hS3 ?_
        refine TN 20 hS3 ?_
        refine T 21 hS3 ?_
        refine T 22 hS3 ?_
        refine wpAnyH_done (by kernel_rfl) ?_ _
        obtain ⟨_, _, d2, _⟩ := hS3
        have HB4 := Lib.hid (below_th HB2.out HB3.out)
        clear HS HPg HX2 HHb2
        cases po with
        | true =>
          have fin : ckRel w1 x.sp (.int .u32 ((owns (x.sp.take 0) : Int) + 1)) (.int .i64 ((0 : Int) + 1)) w3 := ⟨0 + 1, hin, by simp, by rw [HOt.out]; simp, HB4.out⟩
          have Fin := Lib.hid fin
          clear fin
          go_wp2
          exact ⟨Fin.out, by simp [intOf]; omega⟩
        | false =>
          have fin : ckRel w1 x.sp (.int .u32 (owns (x.sp.take 0))) (.int .i64 ((0 : Int) + 1)) w3 := ⟨0 + 1, hin, by simp, by rw [HOt.out]; simp, HB4.out⟩
          have Fin := Lib.hid fin
          clear fin
          go_wp2
          exact ⟨Fin.out, by simp [intOf]; omega⟩
      · obtain ⟨k, rfl⟩ : ∃ k, i = k + 1 := ⟨i - 1, by omega⟩
        obtain ⟨b, hb, hlt⟩ := hprev k rfl
        clear hprev
        have k0 : (0 : Int) < (k : Int) + 1 := by omega
        have k1 : (0 : Int) ≤ (k : Int) + 1 := by omega
        have k2 : (0 : Int) ≤ (k : Int) := by omega
        have iwk : IntKind.i64.wrap (k : Int) = k := by have := HL.out; rw [IntKind.wrap_i64]; omega
        have iw3 : IntKind.i64.wrap ((k : Int) + 1 + 1) = (k : Int) + 1 + 1 := by have := HL.out; rw [IntKind.wrap_i64]; omega
        have kl : (k : Int) < x.sp.length := by omega
        have HS : Hid (∀ V, Below w2.heap.size w2 V → (fun V => V.cell? ⟨qb, 0, none⟩ = some (.int .u32 pa) ∧ V.cell? ⟨qb, 1, none⟩ = some (.int .u8 pp) ∧ V.cell? ⟨qb, 2, none⟩ = some (.bool po) ∧ V.cell? ⟨qb, 3, none⟩ = some (.string pt) ∧ V.cell? ⟨xb, 21, none⟩ = some (.slice (some ⟨g, off, none⟩) x.sp.length sc) ∧ V.cell? ⟨g, off + (k + 1) * 4, none⟩ = some (.int .u32 pa) ∧ V.cell? ⟨g, off + k * 4, none⟩ = some (.int .u32 b) ∧ True) V) := Lib.hid fun V hV => by
          obtain ⟨q0, q1, q2, q3, q4, q5, q6⟩ := HC2.out V hV
          exact ⟨q0, q1, q2, q3, q4, q5, q6 _ _ hb, trivial⟩
        clear HC2
        go_wp2_with fail
        try rw [hw2]
        try rw [hqb]
        clear hw2 hqb c0 c1 c2 c3 c4 c21 c22 p0 p1 p2 p3
        refine B (fun V => V.cell? ⟨qb, 0, none⟩ = some (.int .u32 pa) ∧ V.cell? ⟨qb, 1, none⟩ = some (.int .u8 pp) ∧ V.cell? ⟨qb, 2, none⟩ = some (.bool po) ∧ V.cell? ⟨qb, 3, none⟩ = some (.string pt) ∧ V.cell? ⟨xb, 21, none⟩ = some (.slice (some ⟨g, off, none⟩) x.sp.length sc) ∧ V.cell? ⟨g, off + (k + 1) * 4, none⟩ = some (.int .u32 pa) ∧ V.cell? ⟨g, off + k * 4, none⟩ = some (.int .u32 b) ∧ True) (HS.out _ (Below.refl _ _).drew) ?_
        intro wd hwd hS
        have HBd : Hid (Below w2.heap.size w2 wd) := Lib.hid (by subst hwd; exact (Below.refl _ _).drew)
        clear hwd
        refine T 0 hS ?_
        refine U 1 fun K' hK => ?_
        go_simp
        go_at_call 201
        refine (HPg.out _).mono ?_
        rintro e w3 ⟨rfl, hb3⟩
        have HB3 := Lib.hid (below_th HBd.out hb3)
        have hS3 := HS.out w3 HB3.out
        clear hb3 hS
        refine V hK hS3 ?_; clear hK K'
        refine T 2 hS3 ?_
        refine T 3 hS3 ?_
        refine T 4 hS3 ?_
        refine T 5 hS3 ?_
        refine T 6 hS3 ?_
        refine T 7 hS3 ?_
        refine T 8 hS3 ?_
        refine T 9 hS3 ?_
        refine T 10 hS3 ?_
        refine T 11 hS3 ?_
        refine T 12 hS3 ?_
        refine T 13 hS3 ?_
        refine T 14 hS3 ?_
        refine T 15 hS3 ?_
        refine T 16 hS3 ?_
        refine T 17 hS3 ?_
        refine T 18 hS3 ?_
        refine T 19 hS3 ?_
        refine T 20 hS3 ?_
        refine T 21 hS3 ?_
        refine T 22 hS3 ?_
        refine wpAnyH_done (by kernel_rfl) ?_ _
        obtain ⟨_, _, d2, _⟩ := hS3
        have HB4 := Lib.hid (below_th HB2.out HB3.out)
        clear HS HPg HX2 HHb2
        cases po with
        | true =>
          have fin : ckRel w1 x.sp (.int .u32 ((owns (x.sp.take (k + 1)) : Int) + 1)) (.int .i64 ((k : Int) + 1 + 1)) w3 := ⟨(k + 1) + 1, hin, by simp, by rw [HOt.out]; simp, HB4.out⟩
          have Fin := Lib.hid fin
          clear fin
          go_wp2
          exact ⟨Fin.out, by simp [intOf]; omega⟩
        | false =>
          have fin : ckRel w1 x.sp (.int .u32 (owns (x.sp.take (k + 1)))) (.int .i64 ((k : Int) + 1 + 1)) w3 := ⟨(k + 1) + 1, hin, by simp, by rw [HOt.out]; simp, HB4.out⟩
          have Fin := Lib.hid fin
          clear fin
          go_wp2
          exact ⟨Fin.out, by simp [intOf]; omega⟩
    · obtain rfl : i = x.sp.length := by omega
      have ii : ¬ (x.sp.length : Int) < x.sp.length := by omega
      have hdm := HDm.out wr HBw.out
      rw [HM.out.m] at hdm
      unfold Mn.cells at hdm
      have HD := Lib.hid hdm
      have HBw' := Lib.hid HBw.out
      have g0 : (x.r 0 != 0) = false := by rw [HM.out.r0]; rfl
      have g1 : ¬ x.m.pages < (owns x.sp : Int) := by have := HM.out.own; omega
      have g2 : ¬ (4096 : Int) < x.text.size := by have := HM.out.tx; omega
      have hcn := HM.out.con
      clear hdm
      go_wp2_with fail
      refine HD.out.mono ?_
      rintro e w3 ⟨rfl, hb3⟩
      obtain ⟨c0, c1, c2, c3, c4, c21, c22, _⟩ := HC.out w3 (below_th HBw.out hb3)
      have HE := Lib.hid (below_th HB.out (below_th HBw.out hb3))
      clear hb3 HD
      generalize x.m.con = cn at *
      cases cn with
      | true =>
        clear hcn
        go_wp2
        first | exact ⟨rfl, HE.out⟩ | (go_ret; exact ⟨rfl, HE.out⟩)
      | false =>
        have hte : x.text = { data := #[] } := by
          have h0 := hcn.resolve_left (by decide)
          exact tl_inj (List.length_eq_zero_iff.1 ((tl_len _).trans h0))
        generalize x.text = tt at *
        subst hte
        clear hcn
        go_wp2
        first | exact ⟨rfl, HE.out⟩ | (go_ret; exact ⟨rfl, HE.out⟩)
end Go.Proofs.YtgdodbcpnmfnnaaGreat.Fz
namespace Go.Proofs.YtgdodbcpnmfnnaaGreat.Fz
open Go.RowKit Word
set_option linter.unusedVariables false
set_option linter.unusedSimpArgs false
theorem one_cell {V : World} {b : Nat} {v : Int} (h : V.heap[b]? = some (.cells #[.int .u32 v] 41 (0, 0))) : ∀ i (hi : i < [v].length), ∃ g off, (some ⟨b, 0, none⟩ : Option Addr) = some ⟨g, off, none⟩ ∧ V.cell? ⟨g, off + i, none⟩ = some (.int .u32 [v][i]) := fun i hi => by
  obtain rfl : i = 0 := by simp at hi; omega
  exact ⟨b, 0, rfl, by unfold World.cell?; rw [h]; rfl⟩
theorem bytesAt (n : Nat) (hn : n = 1 ∨ n = 2 ∨ n = 4) {v : Int} (hf : fitN v n) {V : World} {b : Nat} (h : V.heap[b]? = some (.cells #[.int .u32 v] 41 (0, 0))) :
    Calls Tryz.prog 173 #[.int .i64 n, .slice (some ⟨b, 0, none⟩) 1 1] V fun e w' => ∃ s, e = .returned (.string s) ∧ tl s = pL v n ∧ Below V.heap.size V w' := by
  refine (bytes n hn [v] (by simp) (fun x hx => by rw [List.mem_singleton.1 hx]; exact hf) (c := 1) (one_cell h)).mono ?_
  rintro e w' ⟨s, rfl, h1, h2⟩
  refine ⟨s, rfl, ?_, h2⟩
  rw [h1]
  unfold bytesL
  rw [List.flatMap_singleton]
set_option maxRecDepth 100000 in
set_option maxHeartbeats 4000000 in
theorem manifest0 {w : World} {m : Mn} {ea pa : Option Addr} {ec pc : Nat} (hp : fitN m.pages 4) :
    Calls Tryz.prog 174 #[.agg #[.int .u32 m.pages, .slice ea 0 ec, .slice pa 0 pc, .bool m.con]] w fun e w' => ∃ s, e = .returned (.string s) ∧ tl s = pL m.pages 4 ++ (pL 0 1 ++ (pL 0 1 ++ pL (bit01 m.con) 1)) ∧ Below w.heap.size w w' := by
  have hb : Below w.heap.size w (w.alloc (.cells #[.int .u32 m.pages, .slice ea 0 ec, .slice pa 0 pc, .bool m.con] 45)) := (Below.refl _ _).alloc (Nat.le_refl _) _
  have hx := heap_alloc_new w (.cells #[.int .u32 m.pages, .slice ea 0 ec, .slice pa 0 pc, .bool m.con] 45)
  obtain ⟨w1, hw1⟩ : ∃ w1, w.alloc (.cells #[.int .u32 m.pages, .slice ea 0 ec, .slice pa 0 pc, .bool m.con] 45) = w1 := ⟨_, rfl⟩
  obtain ⟨mb, hmb⟩ : ∃ b, w.heap.size = b := ⟨_, rfl⟩
  rw [hw1] at hb hx
  rw [hmb] at hx
  have HB := Lib.hid hb
  have HS : Hid (∀ V, Below w1.heap.size w1 V → V.cell? ⟨mb, 0, none⟩ = some (.int .u32 m.pages) ∧ V.cell? ⟨mb, 1, none⟩ = some (.slice ea 0 ec) ∧ V.cell? ⟨mb, 2, none⟩ = some (.slice pa 0 pc) ∧ V.cell? ⟨mb, 3, none⟩ = some (.bool m.con) ∧ True) := Lib.hid fun V hV => by
    have q := (hV.block _ (lt_of_block hx)).trans hx
    refine ⟨?_, ?_, ?_, ?_, trivial⟩ <;> (unfold World.cell?; rw [q]; rfl)
  have HF := Lib.hid hp
  have f01 : fitN 0 1 := ⟨by decide, by decide⟩
  have fbt : fitN (bit01 m.con) 1 := by cases m.con <;> exact ⟨by decide, by decide⟩
  have HF1 := Lib.hid f01
  have HFb := Lib.hid fbt
  have iw : IntKind.u32.wrap 0 = 0 := rfl
  clear hp hb hx f01 fbt
  generalize hPQ : (fun (e : Ending) (w' : World) => ∃ s, e = .returned (.string s) ∧ tl s = pL m.pages 4 ++ (pL 0 1 ++ (pL 0 1 ++ pL (bit01 m.con) 1)) ∧ Below w.heap.size w w') = PQ
  have HPQ : Hid (∀ s V, tl s = pL m.pages 4 ++ (pL 0 1 ++ (pL 0 1 ++ pL (bit01 m.con) 1)) → Below w1.heap.size w1 V → PQ (.returned (.string s)) V) := Lib.hid fun s V h1 h2 => by rw [← hPQ]; exact ⟨s, rfl, h1, below_th HB.out h2⟩
  clear hPQ
  go_enter Tryz.func174, Tryz.ntmps174
  go_wp2_with fail
  try rw [hw1]
  try rw [hmb]
  clear hw1 hmb
  refine B (fun V => V.cell? ⟨mb, 0, none⟩ = some (.int .u32 m.pages) ∧ V.cell? ⟨mb, 1, none⟩ = some (.slice ea 0 ec) ∧ V.cell? ⟨mb, 2, none⟩ = some (.slice pa 0 pc) ∧ V.cell? ⟨mb, 3, none⟩ = some (.bool m.con) ∧ True) (HS.out _ (Below.refl _ _).drew) ?_
  intro wd hwd hS
  have HBd : Hid (Below w1.heap.size w1 wd) := Lib.hid (by subst hwd; exact (Below.refl _ _).drew)
  clear hwd
  refine T 0 hS ?_
  refine T 1 hS ?_
  refine T 4 hS ?_
  refine T 5 hS ?_
  refine T 6 hS ?_
  refine T 7 hS ?_
  refine U2 2 8 (fun K' hK => ?b1) (fun K' hK => ?b2)
  case' b1 =>
    go_simp
    have hb2 := below_th HBd.out ((Below.refl _ _).alloc (Nat.le_refl _) (.cells #[.int .u32 m.pages] 41))
    have hx2 := heap_alloc_new wd (.cells #[.int .u32 m.pages] 41)
    obtain ⟨q2, hq2⟩ : ∃ q, wd.heap.size = q := ⟨_, rfl⟩
    obtain ⟨wa, hwa⟩ : ∃ x, wd.alloc (.cells #[.int .u32 m.pages] 41) = x := ⟨_, rfl⟩
    rw [hwa] at hb2 hx2 ⊢
    rw [hq2] at hx2 ⊢
    have HB2 := Lib.hid hb2
    have HX2 := Lib.hid hx2
    have hS2 := HS.out _ hb2
    clear hb2 hx2 hwa hq2
    refine V hK hS2 ?_; clear hK K'
    refine U2 3 8 (fun K' hK => ?b3) (fun K' hK => ?b4)
  case' b3 =>
    go_simp
    go_at_call 173
    refine (bytesAt 4 (.inr (.inr rfl)) HF.out HX2.out).mono ?_
    rintro e wb ⟨s1, rfl, hs1, hb3⟩
    have HS1 := Lib.hid hs1
    have HB3 := Lib.hid (below_th HB2.out hb3)
    have hS3 := HS.out _ HB3.out
    clear hs1 hb3
    refine V hK hS3 ?_; clear hK K'
    refine U 8 fun K' hK => ?_
    go_simp
    have hb8 := below_th HB3.out ((Below.refl _ _).alloc (Nat.le_refl _) (.cells #[.int .u32 0] 41))
    have hx8 := heap_alloc_new wb (.cells #[.int .u32 0] 41)
    obtain ⟨q8, hq8⟩ : ∃ q, wb.heap.size = q := ⟨_, rfl⟩
    obtain ⟨wc, hwc⟩ : ∃ x, wb.alloc (.cells #[.int .u32 0] 41) = x := ⟨_, rfl⟩
    rw [hwc] at hb8 hx8 ⊢
    rw [hq8] at hx8 ⊢
    have HB8 := Lib.hid hb8
    have HX8 := Lib.hid hx8
    have hS8 := HS.out _ hb8
    clear hb8 hx8 hwc hq8
    refine V hK hS8 ?_; clear hK K'
    have HX9 := Lib.hid HX8.out
    have HB9 := Lib.hid HB8.out
    have hS9 := hS8
    clear HX8 HB8 hS8 hS3 HB3 HB2 HX2 hS2
  case' b4 =>
    go_simp
    have hb8 := below_th HB2.out ((Below.refl _ _).alloc (Nat.le_refl _) (.cells #[.int .u32 0] 41))
    have hx8 := heap_alloc_new wa (.cells #[.int .u32 0] 41)
    obtain ⟨q8, hq8⟩ : ∃ q, wa.heap.size = q := ⟨_, rfl⟩
    obtain ⟨wc, hwc⟩ : ∃ x, wa.alloc (.cells #[.int .u32 0] 41) = x := ⟨_, rfl⟩
    rw [hwc] at hb8 hx8 ⊢
    rw [hq8] at hx8 ⊢
    have HB8 := Lib.hid hb8
    have HX8 := Lib.hid hx8
    have hS8 := HS.out _ hb8
    have HX2k : Hid (wc.heap[q2]? = some (.cells #[.int .u32 m.pages] 41 (0, 0))) := Lib.hid (by rw [← hwc]; exact (Below.heap_alloc _ _ _ (lt_of_block HX2.out)).trans HX2.out)
    clear hb8 hx8 hwc hq8
    refine V hK hS8 ?_; clear hK K'
    refine U 3 fun K' hK => ?_
    go_simp
    go_at_call 173
    refine (bytesAt 4 (.inr (.inr rfl)) HF.out HX2k.out).mono ?_
    rintro e wb ⟨s1, rfl, hs1, hb3⟩
    have HS1 := Lib.hid hs1
    have HB3 := Lib.hid (below_th HB8.out hb3)
    have hS3 := HS.out _ HB3.out
    have hx9 := (hb3.block _ (lt_of_block HX8.out)).trans HX8.out
    have HX9 := Lib.hid hx9
    have HB9 := Lib.hid HB3.out
    have hS9 := hS3
    clear hx9
    clear hs1 hb3
    refine V hK hS3 ?_; clear hK K'
    clear HX8 HB8 hS8 HB3 HB2 HX2 hS2 hS3 HX2k
  case' b2 =>
    go_simp
    have hb8 := below_th HBd.out ((Below.refl _ _).alloc (Nat.le_refl _) (.cells #[.int .u32 0] 41))
    have hx8 := heap_alloc_new wd (.cells #[.int .u32 0] 41)
    obtain ⟨q8, hq8⟩ : ∃ q, wd.heap.size = q := ⟨_, rfl⟩
    obtain ⟨wc, hwc⟩ : ∃ x, wd.alloc (.cells #[.int .u32 0] 41) = x := ⟨_, rfl⟩
    rw [hwc] at hb8 hx8 ⊢
    rw [hq8] at hx8 ⊢
    have HB8 := Lib.hid hb8
    have HX8 := Lib.hid hx8
    have hS8 := HS.out _ hb8
    clear hb8 hx8 hwc hq8
    refine V hK hS8 ?_; clear hK K'
    refine U 2 fun K' hK => ?_
    go_simp
    have hb2 := below_th HB8.out ((Below.refl _ _).alloc (Nat.le_refl _) (.cells #[.int .u32 m.pages] 41))
    have hx2 := heap_alloc_new wc (.cells #[.int .u32 m.pages] 41)
    obtain ⟨q2, hq2⟩ : ∃ q, wc.heap.size = q := ⟨_, rfl⟩
    obtain ⟨wa, hwa⟩ : ∃ x, wc.alloc (.cells #[.int .u32 m.pages] 41) = x := ⟨_, rfl⟩
    rw [hwa] at hb2 hx2 ⊢
    rw [hq2] at hx2 ⊢
    have HB2 := Lib.hid hb2
    have HX2 := Lib.hid hx2
    have hS2 := HS.out _ hb2
    have HB2k : Hid (Below wc.heap.size wc wa) := Lib.hid (by rw [← hwa]; exact (Below.refl _ _).alloc (Nat.le_refl _) _)
    clear hb2 hx2 hwa hq2
    refine V hK hS2 ?_; clear hK K'
    have HX8k := Lib.hid (((HB2k.out.block _ (lt_of_block HX8.out))).trans HX8.out)
    refine U 3 fun K' hK => ?_
    go_simp
    go_at_call 173
    refine (bytesAt 4 (.inr (.inr rfl)) HF.out HX2.out).mono ?_
    rintro e wb ⟨s1, rfl, hs1, hb3⟩
    have HS1 := Lib.hid hs1
    have HB3 := Lib.hid (below_th HB2.out hb3)
    have hS3 := HS.out _ HB3.out
    have hx9 := (hb3.block _ (lt_of_block HX8k.out)).trans HX8k.out
    have HX9 := Lib.hid hx9
    have HB9 := Lib.hid HB3.out
    have hS9 := hS3
    clear hx9
    clear hs1 hb3
    refine V hK hS3 ?_; clear hK K'
    clear HX8 HB8 hS8 HB3 HB2 HX2 hS2 hS3 HX8k HB2k
  all_goals
    refine U 9 fun K' hK => ?_
    go_simp
    go_at_call 173
    refine (bytesAt 1 (.inl rfl) HF1.out HX9.out).mono ?_
    rintro e w5 ⟨s2, rfl, hs2, hb5⟩
    have HS2 := Lib.hid hs2
    have HB5 := Lib.hid (below_th HB9.out hb5)
    have hS5 := HS.out _ HB5.out
    clear hs2 hb5 hS9 HX9 HB9
    refine V hK hS5 ?_; clear hK K'
    have z1 : s1.size = 4 := by rw [← tl_len, HS1.out]; exact pL_len _ _ (by decide)
    have z2 : s2.size = 1 := by rw [← tl_len, HS2.out]; exact pL_len _ _ (by decide)
    have ov : ¬ (9223372036854775807 < s1.size + s2.size) := by omega
    refine T 10 hS5 ?_
    refine T 11 hS5 ?_
    refine wpAnyH_done (by kernel_rfl) ?_ _
    obtain ⟨_, d1, d2, d3, _⟩ := hS5
    have Z12 : Hid (tl (s1 ++ s2) = pL m.pages 4 ++ pL 0 1 ∧ (s1 ++ s2).size = 5) := Lib.hid ⟨by rw [tl_app, HS1.out, HS2.out], by rw [ByteArray.size_append]; omega⟩
    clear z1 z2 ov HS1 HS2
    generalize s1 ++ s2 = s12 at *
    go_wp2
    go_loopw [3, 22] (fun v3 vi wr => v3 = .string s12 ∧ vi = .int .i64 0 ∧ wr = w5) (fun _ _ _ => 0)
    case atStart => exact ⟨rfl, rfl, rfl⟩
    case round =>
      obtain ⟨rfl, rfl, rfl⟩ := hrel
      have hbr := (Below.refl wr.heap.size wr).alloc (Nat.le_refl _) (.cells #[.int .u32 0] 41)
      go_wp2_with fail
      refine (bytesAt 1 (.inl rfl) HF1.out (heap_alloc_new wr _)).mono ?_
      rintro e w6 ⟨s3, rfl, hs3, hb6⟩
      have HB6 := Lib.hid (below_th (below_th HB5.out hbr) hb6)
      obtain ⟨_, _, d2, d3, _⟩ := HS.out w6 HB6.out
      have z3 : s3.size = 1 := by rw [← tl_len, hs3]; exact pL_len _ _ (by decide)
      have ov : ¬ (9223372036854775807 < s12.size + s3.size) := by have := Z12.out.2; omega
      have Z13 : Hid (tl (s12 ++ s3) = pL m.pages 4 ++ (pL 0 1 ++ pL 0 1) ∧ (s12 ++ s3).size = 6) := Lib.hid ⟨by rw [tl_app, Z12.out.1, hs3, List.append_assoc], by rw [ByteArray.size_append, Z12.out.2, z3]⟩
      clear hs3 hb6 hbr z3
      go_wp2
      clear ov
      generalize s12 ++ s3 = s13 at *
      go_loopw [3, 49] (fun v3 vi wr => v3 = .string s13 ∧ vi = .int .i64 0 ∧ wr = w6) (fun _ _ _ => 0)
      case atStart => exact ⟨rfl, rfl, rfl⟩
      case round =>
        obtain ⟨rfl, rfl, hwr⟩ := hrel
        subst hwr
        have hbt : ∀ W, Calls Tryz.prog 175 #[.bool m.con] W fun e w' => e = .returned (.int .u32 (bit01 m.con)) ∧ W = w' := fun W => bit m.con W
        have HBt := Lib.hid hbt
        clear hbt
        generalize bit01 m.con = bv at *
        go_wp2_with fail
        refine (HBt.out _).mono ?_
        rintro e w7 ⟨rfl, rfl⟩
        have hbr := (Below.refl wr.heap.size wr).alloc (Nat.le_refl _) (.cells #[.int .u32 bv] 41)
        go_wp2_with fail
        refine (bytesAt 1 (.inl rfl) HFb.out (heap_alloc_new wr _)).mono ?_
        rintro e w8 ⟨s4, rfl, hs4, hb8⟩
        have z4 : s4.size = 1 := by rw [← tl_len, hs4]; exact pL_len _ _ (by decide)
        have ov : ¬ (9223372036854775807 < s13.size + s4.size) := by have := Z13.out.2; omega
        have HE := Lib.hid (HPQ.out (s13 ++ s4) w8 (by rw [tl_app, Z13.out.1, hs4, List.append_assoc, List.append_assoc]) (below_th (below_th HB6.out hbr) hb8))
        clear hs4 hb8 hbr z4
        go_wp2
        first | exact HE.out | (go_ret; exact HE.out)
theorem ptext (s : ByteArray) (hs : s.size < 65536) (w : World) : Calls Tryz.prog 176 #[.string s] w fun e w' => ∃ t, e = .returned (.tuple #[.string t, .int .i64 0]) ∧ tl t = pL s.size 2 ++ tl s ∧ Below w.heap.size w w' := by
  have hf : fitN s.size 2 := ⟨by omega, by show (s.size : Int) < 256 ^ 2; omega⟩
  have HN := Lib.hid (num_ok s.size 2 (.inr (.inl rfl)) hf w)
  have z := pL_len s.size 2 (by decide)
  have ov : ¬ (9223372036854775807 < (putS s.size 2).size + s.size) := by unfold pL at z; rw [tl_len] at z; omega
  have m1 : ¬ ((65536 : Int) < s.size) := by omega
  have m2 : ¬ ((65536 : Int) ≤ s.size) := by omega
  have m3 : (s.size : Int) ≤ 65536 := by omega
  have m4 : min (s.size : Int) 65536 = s.size := by omega
  have iw : IntKind.u32.wrap (s.size : Int) = s.size := by rw [IntKind.wrap_u32]; omega
  have HE : Hid (tl (putS s.size 2 ++ s) = pL s.size 2 ++ tl s) := Lib.hid (tl_app _ _)
  clear hf z hs
  go_enter Tryz.func176, Tryz.ntmps176
  go_wp2_with fail
  refine HN.out.mono ?_
  rintro e w1 ⟨rfl, hb⟩
  have HB := Lib.hid hb
  clear hb
  go_wp2
  go_ret2
  exact ⟨_, rfl, HE.out, HB.out⟩
end Go.Proofs.YtgdodbcpnmfnnaaGreat.Fz
