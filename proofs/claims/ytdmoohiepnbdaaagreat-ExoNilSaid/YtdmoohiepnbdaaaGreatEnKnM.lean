/- KnM: Cap, Kn, KnM, CapW, CapX, Dem in one text. -/
import Derived.Test.YtdmoohiepnbdaaaGreatEnBase
import Derived.Test.YtdmoohiepnbdaaaGreatEnSlv
import Derived.LoopTactic
import Derived.WalkSpells
import Derived.WalkLawsBesides
import Derived.Outline
import Derived.Deep.RegionHeld3
import Derived.Test.YtdmoohiepnbdaaaGreatEnMade06
import Derived.Test.YtdmoohiepnbdaaaGreatEnPag
import Derived.Test.YtdmoohiepnbdaaaGreatEnEnvX
import Derived.Test.YtdmoohiepnbdaaaGreatEnNicD
import Derived.Maps.RangeWalk
namespace Go.Proofs.YtdmoohiepnbdaaaGreat
open Go.RowKit
set_option linter.unusedVariables false
set_option linter.unusedSimpArgs false
structure Mn where
  pages : Int
  ext : List (Int × Int)
  ports : List Int
  con : Bool
structure Mn.ok (m : Mn) : Prop where
  p0 : 0 ≤ m.pages
  p1 : m.pages ≤ 4294967295
  e : ∀ x, x ∈ m.ext → 0 ≤ x.1 ∧ x.1 ≤ 4294967295 ∧ 0 ≤ x.2 ∧ x.2 ≤ 4294967295
  q : ∀ x, x ∈ m.ports → 0 ≤ x ∧ x < 65536
structure Gr where
  m : Mn
  took : Int
structure Gr.ok (g : Gr) : Prop where
  m : g.m.ok
  t0 : 0 ≤ g.took
  t1 : g.took ≤ g.m.pages
namespace Gp
def blocksOf (l : List (Int × Int)) (id : Int) : Option Int := (l.find? fun x => x.1 == id).map (·.2)
def hasBlock (g : Option Gr) (id n : Int) : Bool := match g with | none => false | some G => match blocksOf G.m.ext id with | none => false | some k => decide (n < k)
def hasPort (g : Option Gr) (p : Int) : Bool := match g with | none => false | some G => decide (p ∈ G.m.ports)
def con (g : Option Gr) : Bool := match g with | none => false | some G => G.m.con
def takeE (g : Option Gr) : Int := match g with | none => 3 | some G => if G.m.pages ≤ G.took then 4 else 0
def take (g : Option Gr) : Option Gr := match g with | none => none | some G => if G.m.pages ≤ G.took then some G else some { G with took := G.took + 1 }
def give (g : Option Gr) : Option Gr := match g with | none => none | some G => if G.took = 0 then some G else some { G with took := G.took - 1 }
def gok (g : Option Gr) : Prop := ∀ G, g = some G → G.ok
end Gp
def extC (l : List (Int × Int)) : List Value := l.flatMap fun x => [.int .u32 x.1, .int .u32 x.2]
theorem extC_at : ∀ (l : List (Int × Int)) (i : Nat) (x : Int × Int), l[i]? = some x → (extC l)[i * 2]? = some (.int .u32 x.1) ∧ (extC l)[i * 2 + 1]? = some (.int .u32 x.2)
  | y :: l, 0, x, h => by
    simp at h
    subst h
    exact ⟨rfl, rfl⟩
  | y :: l, i + 1, x, h => by
    have := extC_at l i x (by simpa using h)
    have e : extC (y :: l) = .int .u32 y.1 :: .int .u32 y.2 :: extC l := rfl
    rw [e, show (i + 1) * 2 = i * 2 + 1 + 1 by omega, List.getElem?_cons_succ, List.getElem?_cons_succ, List.getElem?_cons_succ, List.getElem?_cons_succ]
    exact this
structure MnAt (w : World) (ev pv : Value) (m : Mn) : Prop where
  e : SlV w 272 2 ev m.ext.length (extC m.ext)
  p : SlV w 22 1 pv m.ports.length (m.ports.map (Value.int .u16))
def Mn.cells (m : Mn) (ev pv : Value) : Array Value := #[.int .u32 m.pages, ev, pv, .bool m.con]
theorem MnAt.frame {w w' : World} {ev pv : Value} {m : Mn} (h : MnAt w ev pv m) (h1 : ∀ k, ev.ownBlock = some k → w'.heap[k]? = w.heap[k]?) (h2 : ∀ k, pv.ownBlock = some k → w'.heap[k]? = w.heap[k]?) : MnAt w' ev pv m := ⟨h.e.keep h1, h.p.keep h2⟩
theorem SlV.below {w w' : World} {e : TypeId} {s n : Nat} {v : Value} {xs : List Value} (h : SlV w e s v n xs) (hb : Below w.heap.size w w') : SlV w' e s v n xs := by
  refine ⟨h.1, ?_⟩
  rcases h.2 with g | ⟨g, off, cap, cur, rfl, hg, rest⟩
  · exact .inl g
  · exact .inr ⟨g, off, cap, cur, rfl, (hb.block _ (lt_of_block hg)).trans hg, rest⟩
theorem SlV.mod {F : Nat → Prop} {w w' : World} {e : TypeId} {s n : Nat} {v : Value} {xs : List Value} (h : SlV w e s v n xs) (hm : Mod F w w') (hF : ∀ k, v.ownBlock = some k → ¬ F k) : SlV w' e s v n xs := by
  refine ⟨h.1, ?_⟩
  rcases h.2 with g | ⟨g, off, cap, cur, rfl, hg, rest⟩
  · exact .inl g
  · exact .inr ⟨g, off, cap, cur, rfl, (hm.block _ (lt_of_block hg) (hF g rfl)).trans hg, rest⟩
theorem SlV.ne {w : World} {e e' : TypeId} {s n : Nat} {v : Value} {xs : List Value} (h : SlV w e s v n xs) {k : Nat} {c : Array Value} {f : Nat × Nat} (hk : w.heap[k]? = some (.cells c e' f)) (he : e' ≠ e) (hn : 0 < n) : v.ownBlock ≠ some k := by
  rcases h.2 with ⟨h0, _⟩ | ⟨g, off, cap, cur, rfl, hg, _⟩
  · omega
  · intro q
    cases q
    rw [hk] at hg
    cases hg
    exact he rfl
theorem MnAt.mod {F : Nat → Prop} {w w' : World} {ev pv : Value} {m : Mn} (h : MnAt w ev pv m) (hm : Mod F w w') (h1 : ∀ k, ev.ownBlock = some k → ¬ F k) (h2 : ∀ k, pv.ownBlock = some k → ¬ F k) : MnAt w' ev pv m := ⟨h.e.mod hm h1, h.p.mod hm h2⟩
theorem MnAt.below {w w' : World} {ev pv : Value} {m : Mn} (h : MnAt w ev pv m) (hb : Below w.heap.size w w') : MnAt w' ev pv m := ⟨h.e.below hb, h.p.below hb⟩
structure CAt where
  cb : Nat
  mb : Nat
  hv : Value
  gb : Nat
  ev : Value
  pv : Value
def CAt.wf (a : CAt) (k : Nat) : Prop := k = a.cb ∨ k = a.mb ∨ k = a.gb
def CAt.rf (a : CAt) (k : Nat) : Prop := a.ev.ownBlock = some k ∨ a.pv.ownBlock = some k
def grC (m : Mn) (took : Int) (ev pv : Value) : Array Value := #[.int .u32 m.pages, ev, pv, .bool m.con, .int .u32 0, .int .u32 took]
structure Cps (w : World) (a : CAt) (hp : Int) (g : Option Gr) : Prop where
  head : w.heap[a.cb]? = some (.cells #[.int .u32 hp, a.hv, .map (some a.mb)] 298 (0, 0))
  map : ∃ D n, w.ownsMap Tryz.prog 3 ptrElem a.mb n D ∧ (∀ x zd, D.atKey (.int .i64 x) zd = if x = 1 ∧ g.isSome = true then .lit (.int .i64 a.gb) else zd) ∧ Maps.size D = if g.isSome = true then 1 else 0
  grant : ∀ G, g = some G → w.heap[a.gb]? = some (.cells (grC G.m G.took a.ev a.pv) 304 (0, 0)) ∧ MnAt w a.ev a.pv G.m
  ok : Gp.gok g
  gl : a.gb < w.heap.size
namespace Cps
variable {w w' : World} {a : CAt} {hp : Int} {g : Option Gr}
theorem lt (h : Cps w a hp g) {k : Nat} (hk : a.wf k) : k < w.heap.size := by
  rcases hk with rfl | rfl | rfl
  · exact lt_of_block h.head
  · obtain ⟨D, n, ho, _⟩ := h.map; exact ho.lt
  · exact h.gl
theorem mod {F : Nat → Prop} (h : Cps w a hp g) (hm : Mod F w w') (hF : ∀ k, a.wf k ∨ a.rf k → ¬ F k) : Cps w' a hp g := by
  obtain ⟨D, n, ho, hv, hs⟩ := h.map
  refine ⟨(hm.block _ (h.lt (.inl rfl)) (hF _ (.inl (.inl rfl)))).trans h.head, ⟨D, n, own_of_block ho (hm.block _ (h.lt (.inr (.inl rfl))) (hF _ (.inl (.inr (.inl rfl))))), hv, hs⟩, fun G hG => ?_, h.ok, Nat.lt_of_lt_of_le h.gl hm.size⟩
  obtain ⟨g1, g2⟩ := h.grant G hG
  exact ⟨(hm.block _ h.gl (hF _ (.inl (.inr (.inr rfl))))).trans g1, g2.mod hm (fun k hk => hF k (.inr (.inl hk))) fun k hk => hF k (.inr (.inr hk))⟩
theorem below (h : Cps w a hp g) (hb : Below w.heap.size w w') : Cps w' a hp g := h.mod (Mod.of_below hb (fun _ => False)) fun _ _ q => q
theorem cells (h : Cps w a hp g) : w.cell? ⟨a.cb, 0, none⟩ = some (.int .u32 hp) ∧ w.cell? ⟨a.cb, 1, none⟩ = some a.hv ∧ w.cell? ⟨a.cb, 2, none⟩ = some (.map (some a.mb)) := by
  refine ⟨?_, ?_, ?_⟩ <;> (unfold World.cell?; rw [h.head]; rfl)
end Cps
theorem zeroGr (w : World) : (zeroValue 295).run Tryz.prog w = .ok (.pointer none) w := by kernel_rfl
theorem Cps.look {w : World} {a : CAt} {hp : Int} {g : Option Gr} (h : Cps w a hp g) :
    (Instr.lookup 296 (.map (some a.mb)) (.int .i64 1) false).run Tryz.prog w = .ok (.pointer (if g.isSome = true then some ⟨a.gb, 0, none⟩ else none)) w := by
  obtain ⟨D, n, ho, hv, _⟩ := h.map
  obtain ⟨v, ps, hrun, hR⟩ := ho.lookup (Maps.int_keyed Tryz.underlying3) Tryz.underlying296 (zeroGr w) (z := .pointer none) (zd := .lit (.int .i64 (-1))) (zp := []) rfl (Maps.keyOf_int_mk Tryz.underlying3 (by decide : (Lit.int .i64 1).wf = true))
  rw [hrun]
  rw [hv] at hR
  cases g with
  | none =>
    rw [if_neg (by simp)] at hR
    rcases ptrElem_inv hR with ⟨rfl, _⟩ | ⟨b, _, hb⟩
    · rfl
    · omega
  | some G =>
    rw [if_pos ⟨rfl, rfl⟩] at hR
    rcases ptrElem_inv hR with ⟨_, hb⟩ | ⟨b, rfl, hb⟩
    · omega
    · have : b = a.gb := by omega
      subst this
      rfl
def gOf (g : Option Gr) : Gr := g.getD ⟨⟨0, [], [], false⟩, 0⟩
def OfPost (w : World) (g : Option Gr) (e : Ending) (w' : World) : Prop :=
  ∃ gb ev pv, e = .returned (.tuple #[.pointer (some ⟨gb, 0, none⟩), .bool g.isSome]) ∧ Below w.heap.size w w' ∧ w'.heap[gb]? = some (.cells (grC (gOf g).m (gOf g).took ev pv) 304 (0, 0)) ∧ MnAt w' ev pv (gOf g).m
namespace Ca
section
variable {w : World} {a : CAt} {hp : Int} {g : Option Gr}
theorem of_some {G : Gr} (h : Cps w a hp (some G)) : Calls Tryz.prog 169 #[.pointer (some ⟨a.cb, 0, none⟩), .int .i64 1] w fun e w' => e = .returned (.tuple #[.pointer (some ⟨a.gb, 0, none⟩), .bool true]) ∧ w = w' := by
  have hlk := h.look
  rw [if_pos (show (some G).isSome = true from rfl)] at hlk
  obtain ⟨c0, c1, c2⟩ := h.cells
  clear h
  go_enter Tryz.func169, Tryz.ntmps169
  go_wp2
  go_ret2
  exact ⟨rfl, rfl⟩
theorem of_none (h : Cps w a hp none) : Calls Tryz.prog 169 #[.pointer (some ⟨a.cb, 0, none⟩), .int .i64 1] w fun e w' => e = .returned (.tuple #[.pointer (some ⟨w.heap.size, 0, none⟩), .bool false]) ∧ w' = w.alloc (.cells #[.int .u32 0, .slice none 0 0, .slice none 0 0, .bool false, .int .u32 0, .int .u32 0] 304) := by
  have hlk := h.look
  rw [if_neg (by simp)] at hlk
  obtain ⟨c0, c1, c2⟩ := h.cells
  clear h
  go_enter Tryz.func169, Tryz.ntmps169
  go_wp2
  go_ret2
  exact ⟨rfl, rfl⟩
theorem of (h : Cps w a hp g) : Calls Tryz.prog 169 #[.pointer (some ⟨a.cb, 0, none⟩), .int .i64 1] w (OfPost w g) := by
  cases g with
  | none => exact (of_none h).mono fun e w' ⟨g1, g2⟩ => ⟨w.heap.size, .slice none 0 0, .slice none 0 0, g1, by rw [g2]; exact (Below.refl _ _).alloc (Nat.le_refl _) _, by rw [g2]; exact heap_alloc_new w _, ⟨SlV.nil _ _ _, SlV.nil _ _ _⟩⟩
  | some G => exact (of_some h).mono fun e w' ⟨g1, g2⟩ => ⟨a.gb, a.ev, a.pv, g1, g2 ▸ Below.refl _ _, g2 ▸ (h.grant G rfl).1, g2 ▸ (h.grant G rfl).2⟩
end
end Ca
end Go.Proofs.YtdmoohiepnbdaaaGreat
namespace Go.Proofs.YtdmoohiepnbdaaaGreat
open Go.RowKit Word
set_option linter.unusedVariables false
set_option linter.unusedSimpArgs false
structure Kn where
  hp : Int
  hx : List Int
  g : Option Gr
  N : Ni.NicS
  B : List (List ByteArray)
  now : Int
namespace Kn
def block (B : List (List ByteArray)) (id n : Int) : Option ByteArray := if 0 ≤ id ∧ 0 ≤ n then (B[id.toNat]?).bind fun l => l[n.toNat]? else none
def setB (B : List (List ByteArray)) (id n : Int) (s : ByteArray) : List (List ByteArray) := B.modify id.toNat fun l => l.set n.toNat s
def setE (B : List (List ByteArray)) (id n : Int) (s : ByteArray) : Int := if (block B id n).isNone ∨ s.size ≠ 64 then 2 else 0
def setBlock (K : Kn) (id n : Int) (s : ByteArray) : Kn := if setE K.B id n s = 0 then { K with B := setB K.B id n s } else K
def bytes (E : En) (addr n : Int) : Option ByteArray := if Sp.getE E.A addr n 1 = 0 then some (Sp.getS E.A addr n 1) else none
end Kn
structure Co where
  v : Int
  y : Int
  K : Kn
  E : En
  ev : Int
  s : ByteArray
namespace Co
def no (K : Kn) (E : En) (y : Int) : Co := ⟨0, y, K, E, 0, ByteArray.empty⟩
def page (K : Kn) (E : En) (blk : Nat) (x : Int) : Co :=
  if Sp.permB E.A x = true ∨ En.mayP x = false then no K E 2 else if Gp.takeE K.g ≠ 0 then no K E 4 else no { K with g := Gp.take K.g } (E.page x blk) 0
def drop (K : Kn) (E : En) (x : Int) : Co :=
  if E.dropE x = 2 then no K E 2 else if E.dropE x = 0 then no { K with g := Gp.give K.g } (E.drop x) 0 else no K E 3
def read (K : Kn) (E : En) (id n x : Int) : Co :=
  if Gp.hasBlock K.g id n = false then no K E 1 else
    let s := (Kn.block K.B id n).getD ByteArray.empty
    if Sp.fitsE E.A x s.size 2 ≠ 0 then no K E 2 else no K { E with A := Sp.putA E.A x 2 s } 0
def write (K : Kn) (E : En) (id n x : Int) : Co :=
  if Gp.hasBlock K.g id n = false then no K E 1 else match Kn.bytes E x 64 with | none => no K E 2 | some s => no (K.setBlock id n s) E 0
def send (K : Kn) (E : En) (x n : Int) : Co :=
  if 128 < n then no K E 5 else if n = 0 then no K E 2 else match Kn.bytes E x n with
    | none => no K E 2
    | some s => if Ni.portB s = false ∨ Gp.hasPort K.g (Ni.portV s 20) = false then no K E 1 else ⟨n, 0, { K with N := Ni.sendS K.N s }, E, 2, s⟩
def recv (K : Kn) (E : En) (p x m : Int) : Co :=
  if 65535 < p ∨ Gp.hasPort K.g p = false then no K E 1 else match K.N.q p with
    | [] => no K E 3
    | s :: _ => if m < s.size then no K E 5 else if Sp.fitsE E.A x s.size 2 ≠ 0 then no K E 2 else ⟨s.size, 0, { K with N := Ni.popS K.N p }, { E with A := Sp.putA E.A x 2 s }, 0, ByteArray.empty⟩
def put (K : Kn) (E : En) (x n : Int) : Co :=
  if Gp.con K.g = false then no K E 1 else if 256 < n then no K E 5 else match Kn.bytes E x n with
    | none => no K E 2
    | some s => if E.putE s ≠ 0 then no K E 4 else ⟨n, 0, K, E.put s, if n = 0 then 0 else 1, s⟩
def call (K : Kn) (E : En) (blk : Nat) (num : Int) : Co :=
  if num = 2 then no K E 0 else if num = 3 then page K E blk (E.arg 1) else if num = 4 then drop K E (E.arg 1)
  else if num = 5 then read K E (E.arg 1) (E.arg 2) (E.arg 3) else if num = 6 then write K E (E.arg 1) (E.arg 2) (E.arg 3)
  else if num = 7 then send K E (E.arg 1) (E.arg 2) else if num = 8 then recv K E (E.arg 1) (E.arg 2) (E.arg 3)
  else if num = 9 then put K E (E.arg 1) (E.arg 2) else if num = 10 then ⟨K.now, 0, K, E, 0, ByteArray.empty⟩ else no K E 6
def seen (K : Kn) (E : En) (blk : Nat) (num : Int) : Int × Int × ByteArray :=
  if num = 1 then (3, E.arg 1, ByteArray.empty) else if (call K E blk num).ev = 0 then (0, 0, ByteArray.empty) else ((call K E blk num).ev, 0, (call K E blk num).s)
end Co
end Go.Proofs.YtdmoohiepnbdaaaGreat
namespace Go.Proofs.YtdmoohiepnbdaaaGreat
open Go.RowKit
set_option linter.unusedVariables false
set_option linter.unusedSimpArgs false
structure Kn.Ok (K : Kn) : Prop where
  n0 : 0 ≤ K.now
  n1 : K.now ≤ 4294967295
  bs : ∀ (i : Nat) (l : List ByteArray), K.B[i]? = some l → ∀ s, s ∈ l → s.size = 64
  q : ∀ x s, s ∈ K.N.q x → s.size ≤ 128
  hl : K.hx.length ≤ 2000000
  g0 : 0 ≤ K.N.gone
structure KAt where
  kb : Nat
  c : CAt
  nb : Nat
  hv : Value
  bv : Value
  rows : List Value
  tag : Nat → Nat
def KAt.cells (a : KAt) (K : Kn) : Array Value := #[.int .u32 K.hp, a.hv, .pointer (some ⟨a.c.cb, 0, none⟩), .pointer (some ⟨a.nb, 0, none⟩), a.bv, .int .u32 K.now]
def KAt.wf (a : KAt) (k : Nat) : Prop := a.tag k ≠ 0 ∧ a.tag k ≠ 5
structure Knl (w : World) (a : KAt) (K : Kn) : Prop where
  head : w.heap[a.kb]? = some (.cells (a.cells K) 285 (0, 0))
  hx : Sl.Lst w a.hv K.hx
  chx : Sl.Lst w a.c.hv K.hx
  caps : Cps w a.c K.hp K.g
  nic : Ni.NicO w (fun k => a.tag k = 3) a.nb K.N
  len : a.rows.length = K.B.length
  outer : SlV w 64 1 a.bv a.rows.length a.rows
  inner : ∀ (i : Nat) (v : Value) (l : List ByteArray), a.rows[i]? = some v → K.B[i]? = some l → SlV w 9 1 v l.length (l.map .string)
  ok : K.Ok
  t1 : a.tag a.kb = 1
  t2 : ∀ k, a.c.wf k → a.tag k = 2
  t4 : ∀ k, a.bv.ownBlock = some k → a.tag k = 4
  t5 : ∀ k, a.hv.ownBlock = some k ∨ a.c.hv.ownBlock = some k ∨ a.c.rf k → a.tag k = 5
  t6 : ∀ (i : Nat) (v : Value) (k : Nat), a.rows[i]? = some v → v.ownBlock = some k → a.tag k = 6 + i
  lt : ∀ k, a.tag k ≠ 0 → k < w.heap.size
namespace Knl
variable {w w' w'' : World} {a a' a'' : KAt} {K K' K'' : Kn}
theorem keep {F : Nat → Prop} (h : Knl w a K) (hm : Mod F w w') (hF : ∀ k, a.tag k ≠ 0 → ¬ F k) : Knl w' a K :=
  { h with
    head := (hm.block _ (lt_of_block h.head) (hF _ (by rw [h.t1]; decide))).trans h.head
    hx := SlV.mod h.hx hm fun k hk => hF k (by rw [h.t5 k (.inl hk)]; decide)
    chx := SlV.mod h.chx hm fun k hk => hF k (by rw [h.t5 k (.inr (.inl hk))]; decide)
    caps := h.caps.mod hm fun k hk => hF k (by
      rcases hk with g | g
      · rw [h.t2 k g]; decide
      · rw [h.t5 k (.inr (.inr g))]; decide)
    nic := h.nic.keep hm fun k (hk : a.tag k = 3) => hF k (by rw [hk]; decide)
    outer := h.outer.mod hm fun k hk => hF k (by rw [h.t4 k hk]; decide)
    inner := fun i v l hv hl => (h.inner i v l hv hl).mod hm fun k hk => hF k (by rw [h.t6 i v k hv hk]; omega)
    lt := fun k hk => Nat.lt_of_lt_of_le (h.lt k hk) hm.size }
theorem below (h : Knl w a K) (hb : Below w.heap.size w w') : Knl w' a K := h.keep (Mod.of_below hb (fun _ => False)) fun _ _ q => q
theorem cell (h : Knl w a K) (i : Nat) (v : Value) (hi : (a.cells K)[i]? = some v) : w.cell? ⟨a.kb, i, none⟩ = some v := by
  unfold World.cell?
  rw [h.head]
  exact hi
theorem cells (h : Knl w a K) : w.cell? ⟨a.kb, 0, none⟩ = some (.int .u32 K.hp) ∧ w.cell? ⟨a.kb, 1, none⟩ = some a.hv ∧ w.cell? ⟨a.kb, 2, none⟩ = some (.pointer (some ⟨a.c.cb, 0, none⟩)) ∧ w.cell? ⟨a.kb, 3, none⟩ = some (.pointer (some ⟨a.nb, 0, none⟩)) ∧ w.cell? ⟨a.kb, 4, none⟩ = some a.bv ∧ w.cell? ⟨a.kb, 5, none⟩ = some (.int .u32 K.now) :=
  ⟨h.cell 0 _ rfl, h.cell 1 _ rfl, h.cell 2 _ rfl, h.cell 3 _ rfl, h.cell 4 _ rfl, h.cell 5 _ rfl⟩
theorem free (h : Knl w a K) (i : Nat) : w.frozen? ⟨a.kb, i, none⟩ = false := by
  unfold World.frozen?
  rw [h.head]
  simp
end Knl
structure KStep (w w' : World) (a : KAt) (K : Kn) (a' : KAt) (K' : Kn) : Prop where
  k : Knl w' a' K'
  same : a'.kb = a.kb ∧ a'.c.cb = a.c.cb ∧ a'.nb = a.nb
  mod : Mod a.wf w w'
  tag : ∀ k, k < w.heap.size → a'.tag k = a.tag k
namespace KStep
variable {w w' w'' : World} {a a' a'' : KAt} {K K' K'' : Kn}
theorem refl (h : Knl w a K) : KStep w w a K a K := ⟨h, ⟨rfl, rfl, rfl⟩, Mod.refl _ _, fun _ _ => rfl⟩
theorem of_below (h : Knl w a K) (hb : Below w.heap.size w w') : KStep w w' a K a K := ⟨h.below hb, ⟨rfl, rfl, rfl⟩, Mod.of_below hb _, fun _ _ => rfl⟩
theorem foot (s : KStep w w' a K a' K') (k : Nat) (hk : a'.tag k ≠ 0) : a.tag k ≠ 0 ∨ w.heap.size ≤ k := by
  rcases Nat.lt_or_ge k w.heap.size with g | g
  · exact .inl (by rw [← s.tag k g]; exact hk)
  · exact .inr g
theorem wfoot (s : KStep w w' a K a' K') (k : Nat) (hk : a'.wf k) : a.wf k ∨ w.heap.size ≤ k := by
  rcases Nat.lt_or_ge k w.heap.size with g | g
  · exact .inl (by unfold KAt.wf; rw [← s.tag k g]; exact hk)
  · exact .inr g
theorem trans (s : KStep w w' a K a' K') (t : KStep w' w'' a' K' a'' K'') : KStep w w'' a K a'' K'' :=
  ⟨t.k, ⟨t.same.1.trans s.same.1, t.same.2.1.trans s.same.2.1, t.same.2.2.trans s.same.2.2⟩, s.mod.trans t.mod fun i _ g => s.wfoot i g, fun k hk => (t.tag k (Nat.lt_of_lt_of_le hk s.mod.size)).trans (s.tag k hk)⟩
theorem pre {W : World} (s : KStep w w' a K a' K') (hb : Below W.heap.size W w) : KStep W w' a K a' K' :=
  ⟨s.k, s.same, (Mod.of_below hb _).trans s.mod fun i _ g => .inl g, fun k hk => s.tag k (Nat.lt_of_lt_of_le hk hb.size)⟩
theorem nic_fit {w : World} {F G : Nat → Prop} {nb : Nat} {S : Ni.NicS} (h : Ni.NicO w F nb S) (hf : ∀ k, F k → k < w.heap.size → G k) : Ni.NicO w G nb S := by
  obtain ⟨mb, V, sv, hn, g⟩ := h
  exact ⟨mb, V, sv, hn, fun k hk => hf k (g k hk) (hn.lt k hk)⟩
end KStep
end Go.Proofs.YtdmoohiepnbdaaaGreat
namespace Go.Proofs.YtdmoohiepnbdaaaGreat
open Go.RowKit
set_option linter.unusedVariables false
set_option linter.unusedSimpArgs false
theorem con_gOf (g : Option Gr) : Gp.con g = (gOf g).m.con := by cases g <;> rfl
theorem block_gOf (g : Option Gr) (id n : Int) : Gp.hasBlock g id n = match Gp.blocksOf (gOf g).m.ext id with | none => false | some k => decide (n < k) := by cases g <;> rfl
theorem gr_cells {w : World} {gb : Nat} {m : Mn} {took : Int} {ev pv : Value} (h : w.heap[gb]? = some (.cells (grC m took ev pv) 304 (0, 0))) : w.cell? ⟨gb, 0, none⟩ = some (.int .u32 m.pages) ∧ w.cell? ⟨gb, 1, none⟩ = some ev ∧ w.cell? ⟨gb, 2, none⟩ = some pv ∧ w.cell? ⟨gb, 3, none⟩ = some (.bool m.con) ∧ w.cell? ⟨gb, 4, none⟩ = some (.int .u32 0) ∧ w.cell? ⟨gb, 5, none⟩ = some (.int .u32 took) ∧ ∀ i, w.frozen? ⟨gb, i, none⟩ = false := by
  refine ⟨?_, ?_, ?_, ?_, ?_, ?_, fun i => ?_⟩
  · unfold World.cell?; rw [h]; rfl
  · unfold World.cell?; rw [h]; rfl
  · unfold World.cell?; rw [h]; rfl
  · unfold World.cell?; rw [h]; rfl
  · unfold World.cell?; rw [h]; rfl
  · unfold World.cell?; rw [h]; rfl
  · unfold World.frozen?; rw [h]; simp
theorem cells_ty {c c' : Array Value} {t t' : TypeId} {f f' : Nat × Nat} (h : (some (Obj.cells c t f) : Option Obj) = some (.cells c' t' f')) : t = t' := by injection h with h; injection h
theorem wrap32 {x : Int} (h0 : 0 ≤ x) (h1 : x ≤ 4294967295) : IntKind.u32.wrap x = x := by rw [IntKind.wrap_u32]; omega
namespace Ca
section
variable {w : World} {a : CAt} {hp : Int} {g : Option Gr}
theorem console (h : Cps w a hp g) : Calls Tryz.prog 286 #[.pointer (some ⟨a.cb, 0, none⟩), .int .i64 1] w fun e w' => e = .returned (.bool (Gp.con g)) ∧ Below w.heap.size w w' := by
  have HC := Lib.hid (con_gOf g)
  have H := Lib.hid (of h)
  clear h
  go_enter Tryz.func286, Tryz.ntmps286
  go_wp2_with fail
  refine H.out.mono ?_
  rintro e w1 ⟨gb, ev, pv, rfl, hb, hg, _⟩
  have HB := Lib.hid hb
  obtain ⟨g0, g1, g2, g3, g4, g5, _⟩ := gr_cells hg
  clear hb hg
  go_wp2
  go_ret
  exact ⟨by rw [HC.out]; rfl, HB.out⟩
def ixRel (w : World) (xs : List Int) (p : Int) (vi : Value) (wr : World) : Prop := ∃ i : Nat, i ≤ xs.length ∧ vi = .int .i64 i ∧ (∀ k : Nat, k < i → xs[k]? ≠ some p) ∧ wr = w
theorem contains {pv : Value} {xs : List Int} (h : SlV w 22 1 pv xs.length (xs.map (Value.int .u16))) (p : Int) :
    Calls Tryz.prog 219 #[pv, .int .u16 p] w fun e w' => e = .returned (.bool (decide (p ∈ xs))) ∧ w = w' := by
  have hix : Calls Tryz.prog 268 #[pv, .int .u16 p] w fun e w' => (∃ i : Int, e = .returned (.int .i64 i) ∧ -1 ≤ i ∧ i ≤ 9223372036854775807 ∧ decide (i ≥ 0) = decide (p ∈ xs)) ∧ w = w' := by
    have hcap : xs.length ≤ 9223372036854775807 := by
      rcases h.2 with ⟨h0, _⟩ | ⟨g, off, cap, cur, _, _, h1, h2, _⟩
      · omega
      · unfold maxLen at h2; omega
    obtain ⟨ao, ac, rfl⟩ := h.form
    have hcell : ∀ i : Nat, i < xs.length → ∃ g off v, ao = some ⟨g, off, none⟩ ∧ xs[i]? = some v ∧ w.cell? ⟨g, off + i, none⟩ = some (.int .u16 v) := fun i hi => by
      rcases h.2 with ⟨h0, _⟩ | ⟨g, off, cap, cur, hv, hg, _⟩
      · omega
      · simp only [Value.slice.injEq] at hv
        obtain ⟨rfl, _, rfl⟩ := hv
        refine ⟨g, off, _, rfl, List.getElem?_eq_getElem hi, ?_⟩
        rw [h.cell i (by omega), List.getElem?_map, List.getElem?_eq_getElem hi]
        rfl
    have HC := Lib.hid hcell
    have HN : Hid (∀ i : Int, xs.length ≤ i → i ≤ 9223372036854775807 → True) := Lib.hid fun _ _ _ => trivial
    clear h hcell
    go_enter Tryz.func268, Tryz.ntmps268
    go_wp2
    go_loopw [5, 8] (fun _ vi wr => ixRel w xs p vi wr) (fun _ vi _ => xs.length - (intOf vi).toNat)
    case atStart => exact ⟨0, by omega, by go_num, fun k hk => absurd hk (Nat.not_lt_zero _), rfl⟩
    case round =>
      obtain ⟨i, hi, rfl, hno, rfl⟩ := hrel
      have HNo := Lib.hid hno
      clear hno
      by_cases hin : i < xs.length
      · obtain ⟨g, off, v, rfl, hv, hc⟩ := HC.out i hin
        have HV := Lib.hid hv
        clear hv
        by_cases hx : p = v
        · have hxe : (p == v) = true := beq_iff_eq.2 hx
          have HM : Hid (decide ((i : Int) ≥ 0) = decide (p ∈ xs)) := Lib.hid (by
            rw [decide_eq_true (by omega), decide_eq_true]
            rw [hx]
            exact List.mem_of_getElem? HV.out)
          clear hx
          go_wp2
          go_ret
          exact ⟨⟨i, rfl, by omega, by omega, HM.out⟩, rfl⟩
        · have hxe : (p == v) = false := beq_eq_false_iff_ne.2 hx
          have HX := Lib.hid hx
          clear hx
          go_wp2
          refine ⟨⟨i + 1, by omega, by go_num, fun k hk => ?_, rfl⟩, by simp [intOf]; omega⟩
          rcases Nat.lt_or_ge k i with q | q
          · exact HNo.out k q
          · obtain rfl : k = i := by omega
            intro e
            rw [HV.out] at e
            exact HX.out (Option.some.inj e).symm
      · have HM : Hid (decide ((-1 : Int) ≥ 0) = decide (p ∈ xs)) := Lib.hid (by
          rw [decide_eq_false (by omega), decide_eq_false]
          intro hm
          obtain ⟨k, hk⟩ := List.getElem?_of_mem hm
          exact HNo.out k (by have := (List.getElem?_eq_some_iff.1 hk).1; omega) hk)
        go_wp2
        go_ret
        exact ⟨⟨-1, rfl, by omega, by omega, HM.out⟩, rfl⟩
  have H := Lib.hid hix
  clear hix h
  go_enter Tryz.func219, Tryz.ntmps219
  go_wp2_with fail
  refine H.out.mono ?_
  rintro e w1 ⟨⟨i, rfl, i0, i1, hd⟩, rfl⟩
  have HD := Lib.hid hd
  clear hd
  go_wp2
  go_ret
  exact ⟨by rw [HD.out]; rfl, rfl⟩
end
end Ca
end Go.Proofs.YtdmoohiepnbdaaaGreat
namespace Go.Proofs.YtdmoohiepnbdaaaGreat
open Go.RowKit
set_option linter.unusedVariables false
set_option linter.unusedSimpArgs false
theorem two_of {w : World} {b : Nat} {t : TypeId} {x y : Value} (h : w.heap[b]? = some (.cells #[x, y] t (0, 0))) : w.cell? ⟨b, 0, none⟩ = some x ∧ w.cell? ⟨b, 1, none⟩ = some y ∧ ∀ i, w.frozen? ⟨b, i, none⟩ = false := by
  refine ⟨?_, ?_, fun i => ?_⟩
  · unfold World.cell?; rw [h]; rfl
  · unfold World.cell?; rw [h]; rfl
  · unfold World.frozen?; rw [h]; simp
theorem set2_blk {V : World} {b : Nat} {t : TypeId} {a0 a1 : Value} (h0 : V.heap[b]? = some (.cells #[a0, a1] t (0, 0))) (x y : Value) : ((V.setCell ⟨b, 0, none⟩ x).setCell ⟨b, 1, none⟩ y).heap[b]? = some (.cells #[x, y] t (0, 0)) := by
  have b1 := heap_setCell_same V b 0 _ _ x h0
  exact heap_setCell_same _ b 1 _ _ y b1
theorem set2_mod (V : World) (b : Nat) (x y : Value) : Mod (fun k => k = b) V ((V.setCell ⟨b, 0, none⟩ x).setCell ⟨b, 1, none⟩ y) :=
  Mod.setCell (F := fun i => i = b) (Mod.setCell (F := fun i => i = b) (Mod.refl _ _) ⟨b, 0, none⟩ (.inl rfl) _) ⟨b, 1, none⟩ (.inl rfl) _
namespace Ca
section
variable {w : World} {a : CAt} {hp : Int} {g : Option Gr}
def exRel (w : World) (rb : Nat) (l : List (Int × Int)) (id : Int) (vi : Value) (wr : World) : Prop :=
  ∃ i : Nat, i ≤ l.length ∧ vi = .int .i64 i ∧ (∀ (k : Nat) (x : Int × Int), k < i → l[k]? = some x → x.1 ≠ id) ∧ Below w.heap.size w wr ∧ wr.heap[rb]? = some (.cells #[.int .u32 0, .int .u32 0] 272 (0, 0))
def ExtPost (w : World) (l : List (Int × Int)) (id : Int) (e : Ending) (w' : World) : Prop :=
  (∃ i n : Int, e = .returned (.tuple #[.agg #[.int .u32 i, .int .u32 n], .bool (Gp.blocksOf l id).isSome]) ∧ ∀ k, Gp.blocksOf l id = some k → n = k) ∧ Below w.heap.size w w'
theorem blocksOf_at {l : List (Int × Int)} {id : Int} {i : Nat} {x : Int × Int} (hx : l[i]? = some x) (he : x.1 = id) (hno : ∀ (k : Nat) (x : Int × Int), k < i → l[k]? = some x → x.1 ≠ id) : Gp.blocksOf l id = some x.2 := by
  unfold Gp.blocksOf
  have : l.find? (fun x => x.1 == id) = some x := by
    rw [List.find?_eq_some_iff_getElem]
    obtain ⟨hi, hxx⟩ := List.getElem?_eq_some_iff.1 hx
    refine ⟨by simp [he], i, hi, hxx, fun j hj => ?_⟩
    have := hno j _ hj (List.getElem?_eq_getElem (by omega))
    simp [this]
  rw [this]
  rfl
theorem blocksOf_none {l : List (Int × Int)} {id : Int} (hno : ∀ (k : Nat) (x : Int × Int), k < l.length → l[k]? = some x → x.1 ≠ id) : Gp.blocksOf l id = none := by
  unfold Gp.blocksOf
  rw [List.find?_eq_none.2]
  · rfl
  · intro x hx
    obtain ⟨k, hk⟩ := List.getElem?_of_mem hx
    simp [hno k x (List.getElem?_eq_some_iff.1 hk).1 hk]
set_option maxRecDepth 100000 in
set_option maxHeartbeats 4000000 in
theorem extent {m : Mn} {ev pv : Value} (h : MnAt w ev pv m) (id : Int) : Calls Tryz.prog 271 #[.agg (m.cells ev pv), .int .u32 id] w (ExtPost w m.ext id) := by
  have HFin : Hid (∀ (i n : Int) (b : Bool) w', b = (Gp.blocksOf m.ext id).isSome → (∀ k, Gp.blocksOf m.ext id = some k → n = k) → Below w.heap.size w w' → ExtPost w m.ext id (.returned (.tuple #[.agg #[.int .u32 i, .int .u32 n], .bool b])) w') := Lib.hid fun i n b w' hb hk hw => ⟨⟨i, n, by rw [hb], hk⟩, hw⟩
  generalize ExtPost w m.ext id = PQ at *
  obtain ⟨ao, ac, hev⟩ := h.e.form
  have hcap : m.ext.length ≤ 9223372036854775807 := by
    rcases h.e.2 with ⟨h0, _⟩ | ⟨g, off, cap, cur, _, _, h1, h2, _⟩
    · omega
    · unfold maxLen at h2; omega
  rw [hev] at h
  have hcell : ∀ V, Below w.heap.size w V → ∀ i : Nat, i < m.ext.length → ∃ g off x, ao = some ⟨g, off, none⟩ ∧ m.ext[i]? = some x ∧ V.cell? ⟨g, off + i * 2, none⟩ = some (.int .u32 x.1) ∧ V.cell? ⟨g, off + i * 2 + 1, none⟩ = some (.int .u32 x.2) := fun V hV i hi => by
    have hE := h.e.below hV
    rcases hE.2 with ⟨h0, _⟩ | ⟨g, off, cap, cur, hv, hg, _⟩
    · omega
    · simp only [Value.slice.injEq] at hv
      obtain ⟨rfl, _, rfl⟩ := hv
      have hx := extC_at m.ext i _ (List.getElem?_eq_getElem hi)
      refine ⟨g, off, _, rfl, List.getElem?_eq_getElem hi, ?_, ?_⟩
      · rw [hE.cell (i * 2) (by omega)]; exact hx.1
      · rw [Nat.add_assoc, hE.cell (i * 2 + 1) (by omega)]; exact hx.2
  have HC := Lib.hid hcell
  unfold Mn.cells
  rw [hev]
  clear h hcell hev
  have hb1 : Below w.heap.size w ((w.alloc (.cells #[.int .u32 m.pages, .slice ao m.ext.length ac, pv, .bool m.con] 45)).alloc (.cells #[.int .u32 0, .int .u32 0] 272)) := ((Below.refl _ _).alloc (Nat.le_refl _) _).alloc (by simp) _
  have hrb := heap_alloc_new (w.alloc (.cells #[.int .u32 m.pages, .slice ao m.ext.length ac, pv, .bool m.con] 45)) (.cells #[.int .u32 0, .int .u32 0] 272)
  have HSt : Hid (exRel w (w.alloc (.cells #[.int .u32 m.pages, .slice ao m.ext.length ac, pv, .bool m.con] 45)).heap.size m.ext id (.int .i64 0) ((w.alloc (.cells #[.int .u32 m.pages, .slice ao m.ext.length ac, pv, .bool m.con] 45)).alloc (.cells #[.int .u32 0, .int .u32 0] 272))) := Lib.hid ⟨0, Nat.zero_le _, rfl, fun k x hk => absurd hk (Nat.not_lt_zero _), hb1, hrb⟩
  have hrz : (w.alloc (.cells #[.int .u32 m.pages, .slice ao m.ext.length ac, pv, .bool m.con] 45)).heap.size = w.heap.size + 1 := by simp
  have hrw : w.heap.size ≤ w.heap.size + 1 := by omega
  rw [hrz] at HSt
  clear hb1 hrb hrz
  go_enter Tryz.func271, Tryz.ntmps271
  go_wp2
  obtain ⟨rb, hrbe⟩ : ∃ r, w.heap.size + 1 = r := ⟨_, rfl⟩
  rw [hrbe] at HSt hrw ⊢
  clear hrbe
  go_loopw [7, 11] (fun _ vi wr => exRel w rb m.ext id vi wr) (fun _ vi _ => m.ext.length - (intOf vi).toNat)
  case atStart => exact HSt.out
  case round =>
    clear HSt
    obtain ⟨i, hi, rfl, hno, hbw, hrb⟩ := hrel
    have HNo := Lib.hid hno
    have HB := Lib.hid hbw
    have HR := Lib.hid hrb
    have Hz : Hid (w.heap.size ≤ rb) := Lib.hid hrw
    by_cases hin : i < m.ext.length
    · obtain ⟨g, off, x, rfl, hx, hc0, hc1⟩ := HC.out wr hbw i hin
      have HX := Lib.hid hx
      clear hno hbw hrb hx HC
      have hrl : rb < wr.heap.size := lt_of_block HR.out
      have hra : ∀ o, (wr.alloc o).heap[rb]? = some (.cells #[.int .u32 0, .int .u32 0] 272 (0, 0)) := fun o => (Below.heap_alloc _ _ _ hrl).trans HR.out
      have hal : ∀ o, Below w.heap.size w (wr.alloc o) := fun o => HB.out.alloc HB.out.size _
      have HAl := Lib.hid hal
      have HRa := Lib.hid hra
      have r0 := fun o => (two_of (hra o)).1
      have r1 := fun o => (two_of (hra o)).2.1
      have rf := fun o => (two_of (hra o)).2.2
      clear hra hal hrl
      by_cases hxe : x.1 = id
      · have hd : (x.1 == id) = true := beq_iff_eq.2 hxe
        have HBl := Lib.hid (blocksOf_at HX.out hxe HNo.out)
        have HF1 : Hid (∀ o, PQ (.returned (.tuple #[.agg #[.int .u32 id, .int .u32 x.2], .bool true])) (((wr.alloc o).setCell ⟨rb, 0, none⟩ (.int .u32 id)).setCell ⟨rb, 1, none⟩ (.int .u32 x.2))) := Lib.hid fun o => HFin.out id x.2 true _ (by rw [HBl.out]; rfl) (fun k hk => by rw [HBl.out] at hk; exact Option.some.inj hk) (Mod.below (F := fun k => k = rb) (HAl.out o) (set2_mod _ _ _ _) (HAl.out o).size fun k _ e => by rw [e]; exact Hz.out)
        have HT := Lib.hid fun o => two_of (set2_blk (HRa.out o) (.int .u32 id) (.int .u32 x.2))
        go_wp2
        have t0 := fun o => (HT.out o).1
        have t1 := fun o => (HT.out o).2.1
        refine bodyPost_ret (v := .tuple #[.agg #[.int .u32 id, .int .u32 x.2], .bool true]) (by simp [results, Tryz.results271, go_sem, *]) rfl ?_
        exact HF1.out _
      · have hd : (x.1 == id) = false := beq_eq_false_iff_ne.2 hxe
        have HXe := Lib.hid hxe
        go_wp2
        refine ⟨⟨i + 1, by omega, by go_num, fun k y hk hy => ?_, HAl.out _, HRa.out _⟩, by simp [intOf]; omega⟩
        rcases Nat.lt_or_ge k i with q | q
        · exact HNo.out k y q hy
        · obtain rfl : k = i := by omega
          rw [HX.out] at hy
          cases hy
          exact HXe.out
    · have HBl := Lib.hid (blocksOf_none (l := m.ext) (id := id) fun k x hk hx => HNo.out k x (by omega) hx)
      obtain ⟨r0, r1, rf⟩ := two_of HR.out
      have HF1 : Hid (PQ (.returned (.tuple #[.agg #[.int .u32 0, .int .u32 0], .bool false])) ((wr.setCell ⟨rb, 0, none⟩ (.int .u32 0)).setCell ⟨rb, 1, none⟩ (.int .u32 0))) := Lib.hid (HFin.out 0 0 false _ (by rw [HBl.out]; rfl) (fun k hk => by rw [HBl.out] at hk; cases hk) (Mod.below (F := fun k => k = rb) HB.out (set2_mod _ _ _ _) HB.out.size fun k _ e => by rw [e]; exact Hz.out))
      have HT := Lib.hid (two_of (set2_blk HR.out (.int .u32 0) (.int .u32 0)))
      clear hno hbw hrb HC
      go_wp2
      have t0 := HT.out.1
      have t1 := HT.out.2.1
      refine bodyPost_ret (v := .tuple #[.agg #[.int .u32 0, .int .u32 0], .bool false]) (by simp [results, Tryz.results271, go_sem, *]) rfl ?_
      exact HF1.out
theorem block (h : Cps w a hp g) (id n : Int) : Calls Tryz.prog 280 #[.pointer (some ⟨a.cb, 0, none⟩), .int .i64 1, .int .u32 id, .int .u32 n] w fun e w' => e = .returned (.bool (Gp.hasBlock g id n)) ∧ Below w.heap.size w w' := by
  have HC := Lib.hid (block_gOf g id n)
  have H := Lib.hid (of h)
  clear h
  go_enter Tryz.func280, Tryz.ntmps280
  go_wp2_with fail
  refine H.out.mono ?_
  rintro e w1 ⟨gb, ev, pv, rfl, hb, hg, hm⟩
  have HB := Lib.hid hb
  obtain ⟨g0, g1, g2, g3, g4, g5, _⟩ := gr_cells hg
  have HX := Lib.hid (extent hm id)
  unfold Mn.cells at HX
  clear hb hg hm
  go_wp2_with fail
  refine HX.out.mono ?_
  rintro e w2 ⟨⟨i, k, rfl, hk⟩, hb2⟩
  have HB2 := Lib.hid (below_th HB.out hb2)
  have HAl : Hid (∀ o, Below w.heap.size w (w2.alloc o)) := Lib.hid fun o => HB2.out.alloc HB2.out.size _
  cases hbo : Gp.blocksOf (gOf g).m.ext id with
  | none =>
    have HV : Hid (Gp.hasBlock g id n = false) := Lib.hid (by rw [HC.out, hbo])
    clear hk hb2 hbo HX HC H
    go_wp2
    go_ret
    exact ⟨by rw [HV.out]; rfl, HAl.out _⟩
  | some z =>
    obtain rfl := hk z hbo
    have HV : Hid (Gp.hasBlock g id n = decide (n < k)) := Lib.hid (by rw [HC.out, hbo])
    clear hk hb2 hbo HX HC H
    go_wp2
    go_ret
    exact ⟨by rw [HV.out]; rfl, HAl.out _⟩
end
end Ca
end Go.Proofs.YtdmoohiepnbdaaaGreat
namespace Go.Proofs.YtdmoohiepnbdaaaGreat
open Go.RowKit
set_option linter.unusedVariables false
set_option linter.unusedSimpArgs false
namespace Gp
def badX (x : Int × Int) : Bool := decide (16 ≤ x.1) || decide (x.2 < 1) || decide (1024 < x.2)
def risesB {X : Type} (f : X → X → Bool) : List X → Bool
  | a :: b :: l => f a b && risesB f (b :: l)
  | _ => true
theorem risesB_iff {X : Type} (f : X → X → Bool) : ∀ l : List X, risesB f l = true ↔ ∀ (k : Nat) (x y : X), l[k]? = some x → l[k + 1]? = some y → f x y = true
  | [] => ⟨fun _ k x y h => by simp at h, fun _ => rfl⟩
  | [a] => ⟨fun _ k x y _ h => by simp at h, fun _ => rfl⟩
  | a :: b :: l => by
    unfold risesB
    rw [Bool.and_eq_true, risesB_iff f (b :: l)]
    constructor
    · rintro ⟨h1, h2⟩ k x y hx hy
      cases k with
      | zero => simp at hx hy; subst hx; subst hy; exact h1
      | succ k => exact h2 k x y (by simpa using hx) (by simpa using hy)
    · intro h
      exact ⟨h 0 a b rfl rfl, fun k x y hx hy => h (k + 1) x y (by simpa using hx) (by simpa using hy)⟩
def mayM (m : Mn) : Bool := !(m.ext.any badX) && risesB (fun a b => decide (a.1 < b.1)) m.ext && risesB (fun a b => decide (a < b)) m.ports && !decide ((0 : Int) ∈ m.ports) && decide (m.ports.length ≤ 16) && decide (m.pages ≤ 1024)
end Gp
theorem ext_cells {w : World} {ao : Option Addr} {ac : Nat} {l : List (Int × Int)} (h : SlV w 272 2 (.slice ao l.length ac) l.length (extC l)) {i : Nat} {x : Int × Int} (hx : l[i]? = some x) : ∃ g off, ao = some ⟨g, off, none⟩ ∧ w.cell? ⟨g, off + i * 2, none⟩ = some (.int .u32 x.1) ∧ w.cell? ⟨g, off + i * 2 + 1, none⟩ = some (.int .u32 x.2) := by
  have hi := (List.getElem?_eq_some_iff.1 hx).1
  rcases h.2 with ⟨h0, _⟩ | ⟨g, off, cap, cur, hv, hg, _⟩
  · omega
  · simp only [Value.slice.injEq] at hv
    obtain ⟨rfl, _, rfl⟩ := hv
    have hx := extC_at l i _ hx
    refine ⟨g, off, rfl, ?_, ?_⟩
    · rw [h.cell (i * 2) (by omega)]; exact hx.1
    · rw [Nat.add_assoc, h.cell (i * 2 + 1) (by omega)]; exact hx.2
theorem u16_cell {w : World} {ao : Option Addr} {ac : Nat} {l : List Int} (h : SlV w 22 1 (.slice ao l.length ac) l.length (l.map (Value.int .u16))) {i : Nat} {x : Int} (hx : l[i]? = some x) : ∃ g off, ao = some ⟨g, off, none⟩ ∧ w.cell? ⟨g, off + i, none⟩ = some (.int .u16 x) := by
  have hi := (List.getElem?_eq_some_iff.1 hx).1
  rcases h.2 with ⟨h0, _⟩ | ⟨g, off, cap, cur, hv, hg, _⟩
  · omega
  · simp only [Value.slice.injEq] at hv
    obtain ⟨rfl, _, rfl⟩ := hv
    refine ⟨g, off, rfl, ?_⟩
    rw [h.cell i (by omega), List.getElem?_map, hx]
    rfl
theorem cell_below {w w' : World} (hb : Below w.heap.size w w') {b i : Nat} {v : Value} (h : w.cell? ⟨b, i, none⟩ = some v) : w'.cell? ⟨b, i, none⟩ = some v := by
  have hl : b < w.heap.size := by
    unfold World.cell? at h
    cases hg : w.heap[b]? with
    | none => rw [hg] at h; cases h
    | some _ => exact lt_of_block hg
  exact (World.cell?_of_block (w := w) (hb.block _ hl)).trans h
theorem slv_len {w : World} {e : TypeId} {s n : Nat} {v : Value} {xs : List Value} (h : SlV w e s v n xs) : n ≤ maxLen := by
  rcases h.2 with ⟨h0, _⟩ | ⟨g, off, cap, cur, _, _, h1, h2, _⟩
  · unfold maxLen; omega
  · omega
namespace Dm
section
variable {w : World}
theorem c1 (x : Int × Int) (w : World) : Calls Tryz.prog 214 #[.agg #[.int .u32 x.1, .int .u32 x.2]] w fun e w' => e = .returned (.bool (Gp.badX x)) ∧ Below w.heap.size w w' := by
  have HB : Hid (∀ o, Below w.heap.size w (w.alloc o)) := Lib.hid fun o => (Below.refl _ _).alloc (Nat.le_refl _) _
  have HX : Hid (Gp.badX x = (decide (16 ≤ x.1) || decide (x.2 < 1) || decide (1024 < x.2))) := Lib.hid rfl
  by_cases a : 16 ≤ x.1
  · go_enter Tryz.func214, Tryz.ntmps214
    go_wp2
    go_ret
    exact ⟨by rw [HX.out]; simp [a], HB.out _⟩
  by_cases b : x.2 < 1
  · go_enter Tryz.func214, Tryz.ntmps214
    go_wp2
    go_ret
    exact ⟨by rw [HX.out]; simp [a, b] <;> omega, HB.out _⟩
  · go_enter Tryz.func214, Tryz.ntmps214
    go_wp2
    go_ret
    exact ⟨by rw [HX.out]; simp [a, b] <;> omega, HB.out _⟩
theorem c2 (x y : Int × Int) (w : World) : Calls Tryz.prog 216 #[.agg #[.int .u32 x.1, .int .u32 x.2], .agg #[.int .u32 y.1, .int .u32 y.2]] w fun e w' => e = .returned (.bool (decide (x.1 < y.1))) ∧ Below w.heap.size w w' := by
  have HB : Hid (∀ o p, Below w.heap.size w ((w.alloc o).alloc p)) := Lib.hid fun o p => ((Below.refl _ _).alloc (Nat.le_refl _) _).alloc (by simp) _
  go_enter Tryz.func216, Tryz.ntmps216
  go_wp2
  go_ret
  exact ⟨rfl, HB.out _ _⟩
theorem c3 (x y : Int) (w : World) : Calls Tryz.prog 218 #[.int .u16 x, .int .u16 y] w fun e w' => e = .returned (.bool (decide (x < y))) ∧ w = w' := by
  go_enter Tryz.func218, Tryz.ntmps218
  go_wp2
  go_ret
  exact ⟨rfl, rfl⟩
def cfRel (w : World) (l : List (Int × Int)) (vi : Value) (wr : World) : Prop := ∃ i : Nat, i ≤ l.length ∧ vi = .int .i64 i ∧ (∀ (k : Nat) (x : Int × Int), k < i → l[k]? = some x → Gp.badX x = false) ∧ Below w.heap.size w wr
theorem anyBad {ev : Value} {l : List (Int × Int)} (h : SlV w 272 2 ev l.length (extC l)) : Calls Tryz.prog 213 #[ev, .func (.func 214) #[] #[]] w fun e w' => e = .returned (.bool (l.any Gp.badX)) ∧ Below w.heap.size w w' := by
  have hix : Calls Tryz.prog 267 #[ev, .func (.func 214) #[] #[]] w fun e w' => (∃ i : Int, e = .returned (.int .i64 i) ∧ -1 ≤ i ∧ i ≤ 9223372036854775807 ∧ decide (i ≥ 0) = l.any Gp.badX) ∧ Below w.heap.size w w' := by
    have hcap := slv_len h
    unfold maxLen at hcap
    obtain ⟨ao, ac, rfl⟩ := h.form
    have HC := Lib.hid fun V (hV : Below w.heap.size w V) => h.below hV
    have HB0 := Lib.hid (Below.refl w.heap.size w)
    clear h
    go_enter Tryz.func267, Tryz.ntmps267
    go_wp2
    go_loopw [5, 8] (fun _ vi wr => cfRel w l vi wr) (fun _ vi _ => l.length - (intOf vi).toNat)
    case atStart => exact ⟨0, by omega, by go_num, fun k _ hk => absurd hk (Nat.not_lt_zero _), HB0.out⟩
    case round =>
      obtain ⟨i, hi, rfl, hno, hbw⟩ := hrel
      have HNo := Lib.hid hno
      have HB := Lib.hid hbw
      clear hno
      by_cases hin : i < l.length
      · obtain ⟨g, off, rfl, hc0, hc1⟩ := ext_cells (HC.out wr hbw) (List.getElem?_eq_getElem hin)
        obtain ⟨x, hx⟩ : ∃ x, l[i] = x := ⟨_, rfl⟩
        rw [hx] at hc0 hc1
        have HX : Hid (l[i]? = some x) := Lib.hid (by rw [List.getElem?_eq_getElem hin, hx])
        clear HC hbw hx
        cases hbx : Gp.badX x with
        | true =>
          have HM : Hid (decide ((i : Int) ≥ 0) = l.any Gp.badX) := Lib.hid (by
            rw [decide_eq_true (by omega), List.any_eq_true.2]
            exact ⟨x, List.mem_of_getElem? HX.out, hbx⟩)
          have HQ := Lib.hid (c1 x wr)
          rw [hbx] at HQ
          clear hbx
          go_wp2_with fail
          refine HQ.out.mono ?_
          rintro e w2 ⟨rfl, hb2⟩
          have HB2 := Lib.hid (below_th HB.out hb2)
          clear hb2
          go_wp2
          go_ret
          exact ⟨⟨i, rfl, by omega, by omega, HM.out⟩, HB2.out⟩
        | false =>
          have HQ := Lib.hid (c1 x wr)
          rw [hbx] at HQ
          have HBx := Lib.hid hbx
          clear hbx
          go_wp2_with fail
          refine HQ.out.mono ?_
          rintro e w2 ⟨rfl, hb2⟩
          have HB2 := Lib.hid (below_th HB.out hb2)
          clear hb2
          go_wp2
          refine ⟨⟨i + 1, by omega, by go_num, fun k y hk hy => ?_, HB2.out⟩, by simp [intOf]; omega⟩
          rcases Nat.lt_or_ge k i with q | q
          · exact HNo.out k y q hy
          · obtain rfl : k = i := by omega
            rw [HX.out] at hy
            cases hy
            exact HBx.out
      · have HM : Hid (decide ((-1 : Int) ≥ 0) = l.any Gp.badX) := Lib.hid (by
          rw [decide_eq_false (by omega)]
          symm
          rw [List.any_eq_false]
          intro x hx
          obtain ⟨k, hk⟩ := List.getElem?_of_mem hx
          rw [HNo.out k x (by have := (List.getElem?_eq_some_iff.1 hk).1; omega) hk]
          simp)
        clear HC hbw
        go_wp2
        go_ret
        exact ⟨⟨-1, rfl, by omega, by omega, HM.out⟩, HB.out⟩
  have H := Lib.hid hix
  clear hix h
  go_enter Tryz.func213, Tryz.ntmps213
  go_wp2_with fail
  refine H.out.mono ?_
  rintro e w1 ⟨⟨i, rfl, i0, i1, hd⟩, hb⟩
  have HD := Lib.hid hd
  have HB := Lib.hid hb
  clear hd hb
  go_wp2
  go_ret
  exact ⟨by rw [HD.out]; rfl, HB.out⟩
def rsRel {X : Type} (w : World) (l : List X) (f : X → X → Bool) (vi : Value) (wr : World) : Prop := ∃ i : Nat, i ≤ l.length - 1 ∧ vi = .int .i64 i ∧ (∀ (k : Nat) (x y : X), k < i → l[k]? = some x → l[k + 1]? = some y → f x y = true) ∧ Below w.heap.size w wr
theorem rises_true {X : Type} {l : List X} {f : X → X → Bool} {i : Nat} (hi : l.length - 1 ≤ i) (h : ∀ (k : Nat) (x y : X), k < i → l[k]? = some x → l[k + 1]? = some y → f x y = true) : Gp.risesB f l = true :=
  (Gp.risesB_iff f l).2 fun k x y hx hy => h k x y (by have := (List.getElem?_eq_some_iff.1 hy).1; omega) hx hy
theorem rises_false {X : Type} {l : List X} {f : X → X → Bool} {i : Nat} {x y : X} (hx : l[i]? = some x) (hy : l[i + 1]? = some y) (h : f x y = false) : Gp.risesB f l = false := by
  rw [Bool.eq_false_iff]
  intro g
  have := (Gp.risesB_iff f l).1 g i x y hx hy
  rw [h] at this
  cases this
set_option maxRecDepth 100000 in
set_option maxHeartbeats 4000000 in
theorem rises16 {pv : Value} {l : List Int} (h : SlV w 22 1 pv l.length (l.map (Value.int .u16))) : Calls Tryz.prog 217 #[pv, .func (.func 218) #[] #[]] w fun e w' => e = .returned (.bool (Gp.risesB (fun a b => decide (a < b)) l)) ∧ Below w.heap.size w w' := by
  have hcap := slv_len h
  unfold maxLen at hcap
  obtain ⟨ao, ac, rfl⟩ := h.form
  have HC := Lib.hid fun V (hV : Below w.heap.size w V) => h.below hV
  have HB0 := Lib.hid (Below.refl w.heap.size w)
  clear h
  go_enter Tryz.func217, Tryz.ntmps217
  go_wp2
  go_loopw [5, 9] (fun _ vi wr => rsRel w l (fun a b => decide (a < b)) vi wr) (fun _ vi _ => l.length - (intOf vi).toNat)
  case atStart => exact ⟨0, by omega, by go_num, fun k _ _ hk => absurd hk (Nat.not_lt_zero _), HB0.out⟩
  case round =>
    obtain ⟨i, hi, rfl, hno, hbw⟩ := hrel
    have HNo := Lib.hid hno
    have HB := Lib.hid hbw
    clear hno
    by_cases hin : i + 1 < l.length
    · obtain ⟨g, off, rfl, hc0⟩ := u16_cell (HC.out wr hbw) (List.getElem?_eq_getElem (show i < l.length by omega))
      obtain ⟨g', off', he, hc1⟩ := u16_cell (HC.out wr hbw) (List.getElem?_eq_getElem hin)
      simp only [Option.some.injEq, Addr.mk.injEq, and_true] at he
      obtain ⟨rfl, rfl⟩ := he
      obtain ⟨x, hx⟩ : ∃ x, l[i] = x := ⟨_, rfl⟩
      obtain ⟨y, hy⟩ : ∃ y, l[i + 1] = y := ⟨_, rfl⟩
      rw [hx] at hc0
      rw [hy] at hc1
      have HX : Hid (l[i]? = some x ∧ l[i + 1]? = some y) := Lib.hid ⟨by rw [List.getElem?_eq_getElem (show i < l.length by omega), hx], by rw [List.getElem?_eq_getElem hin, hy]⟩
      have HQ := Lib.hid (c3 x y)
      have i0 : (0 : Int) ≤ i := by omega
      have i1 : (i : Int) ≤ l.length := by omega
      have i2 : (i : Int) < l.length := by omega
      have iw : IntKind.i64.wrap ((i : Int) + 1) = (i : Int) + 1 := by rw [IntKind.wrap_i64]; omega
      have j0 : (0 : Int) ≤ (i : Int) + 1 := by omega
      have j2 : (i : Int) + 1 < l.length := by omega
      have jn : ((i : Int) + 1).toNat = i + 1 := by omega
      clear HC hbw hx hy
      obtain ⟨b, hb⟩ : ∃ b, decide (x < y) = b := ⟨_, rfl⟩
      have HD := Lib.hid hb
      rw [hb] at HQ
      clear hb
      go_wp2
      go_region_held3 (fun w' => w'.cell? ⟨g, off + i, none⟩ = some (.int .u16 x) ∧ w'.cell? ⟨g, off + (i + 1), none⟩ = some (.int .u16 y))
        (first | exact ⟨hc0, hc1⟩)
        (first
          | (go_at_call 218
             refine (HQ.out _).mono ?_
             rintro e x1 ⟨rfl, rfl⟩))
      all_goals
        cases b with
        | true =>
          go_wp2
          refine ⟨⟨i + 1, by omega, by go_num, fun k a c hk ha hc => ?_, by first | exact HB.out | exact HB.out.drew⟩, by simp [intOf]; omega⟩
          rcases Nat.lt_or_ge k i with q | q
          · exact HNo.out k a c q ha hc
          · obtain rfl : k = i := by omega
            rw [HX.out.1] at ha
            rw [HX.out.2] at hc
            cases ha
            cases hc
            exact HD.out
        | false =>
          have HM := Lib.hid (rises_false (f := fun a b => decide (a < b)) HX.out.1 HX.out.2 HD.out)
          go_wp2
          go_ret
          exact ⟨by rw [HM.out]; rfl, by first | exact HB.out | exact HB.out.drew⟩
    · have HM := Lib.hid (rises_true (l := l) (f := fun a b => decide (a < b)) (i := i) (by omega) HNo.out)
      have i2 : ¬ (i : Int) < (l.length : Int) - 1 := by omega
      clear HC hbw
      go_wp2
      go_ret
      exact ⟨by rw [HM.out]; rfl, HB.out⟩
set_option maxRecDepth 100000 in
set_option maxHeartbeats 4000000 in
theorem risesX {pv : Value} {l : List (Int × Int)} (h : SlV w 272 2 pv l.length (extC l)) : Calls Tryz.prog 215 #[pv, .func (.func 216) #[] #[]] w fun e w' => e = .returned (.bool (Gp.risesB (fun a b : Int × Int => decide (a.1 < b.1)) l)) ∧ Below w.heap.size w w' := by
  have hcap := slv_len h
  unfold maxLen at hcap
  obtain ⟨ao, ac, rfl⟩ := h.form
  have HC := Lib.hid fun V (hV : Below w.heap.size w V) => h.below hV
  have HB0 := Lib.hid (Below.refl w.heap.size w)
  clear h
  go_enter Tryz.func215, Tryz.ntmps215
  go_wp2
  go_loopw [5, 9] (fun _ vi wr => rsRel w l (fun a b : Int × Int => decide (a.1 < b.1)) vi wr) (fun _ vi _ => l.length - (intOf vi).toNat)
  case atStart => exact ⟨0, by omega, by go_num, fun k _ _ hk => absurd hk (Nat.not_lt_zero _), HB0.out⟩
  case round =>
    obtain ⟨i, hi, rfl, hno, hbw⟩ := hrel
    have HNo := Lib.hid hno
    have HB := Lib.hid hbw
    clear hno
    by_cases hin : i + 1 < l.length
    · obtain ⟨g, off, rfl, hc0, hd0⟩ := ext_cells (HC.out wr hbw) (List.getElem?_eq_getElem (show i < l.length by omega))
      obtain ⟨g', off', he, hc1, hd1⟩ := ext_cells (HC.out wr hbw) (List.getElem?_eq_getElem hin)
      simp only [Option.some.injEq, Addr.mk.injEq, and_true] at he
      obtain ⟨rfl, rfl⟩ := he
      obtain ⟨x, hx⟩ : ∃ x, l[i] = x := ⟨_, rfl⟩
      obtain ⟨y, hy⟩ : ∃ y, l[i + 1] = y := ⟨_, rfl⟩
      rw [hx] at hc0 hd0
      rw [hy] at hc1 hd1
      have HX : Hid (l[i]? = some x ∧ l[i + 1]? = some y) := Lib.hid ⟨by rw [List.getElem?_eq_getElem (show i < l.length by omega), hx], by rw [List.getElem?_eq_getElem hin, hy]⟩
      have HQ := Lib.hid (c2 x y)
      have i0 : (0 : Int) ≤ i := by omega
      have i1 : (i : Int) ≤ l.length := by omega
      have i2 : (i : Int) < l.length := by omega
      have iw : IntKind.i64.wrap ((i : Int) + 1) = (i : Int) + 1 := by rw [IntKind.wrap_i64]; omega
      have j0 : (0 : Int) ≤ (i : Int) + 1 := by omega
      have j2 : (i : Int) + 1 < l.length := by omega
      have jn : ((i : Int) + 1).toNat = i + 1 := by omega
      clear HC hbw hx hy
      obtain ⟨b, hb⟩ : ∃ b, decide (x.1 < y.1) = b := ⟨_, rfl⟩
      have HD := Lib.hid hb
      rw [hb] at HQ
      clear hb
      go_wp2
      go_region_held3 (fun w' => w'.cell? ⟨g, off + i * 2, none⟩ = some (.int .u32 x.1) ∧ w'.cell? ⟨g, off + i * 2 + 1, none⟩ = some (.int .u32 x.2) ∧ w'.cell? ⟨g, off + (i + 1) * 2, none⟩ = some (.int .u32 y.1) ∧ w'.cell? ⟨g, off + (i + 1) * 2 + 1, none⟩ = some (.int .u32 y.2))
        (first | exact ⟨hc0, hd0, hc1, hd1⟩ | exact ⟨cell_below hx1 hc0, cell_below hx1 hd0, cell_below hx1 hc1, cell_below hx1 hd1⟩)
        (first
          | (go_at_call 216
             refine (HQ.out _).mono ?_
             rintro e x1 ⟨rfl, hx1⟩
             have hb1 : Below w.heap.size w x1 := by first | exact below_th HB.out hx1 | exact below_th HB.out.drew hx1))
      all_goals
        cases b with
        | true =>
          go_wp2
          refine ⟨⟨i + 1, by omega, by go_num, fun k a c hk ha hc => ?_, by first | exact hb1 | exact hb1.drew⟩, by simp [intOf]; omega⟩
          rcases Nat.lt_or_ge k i with q | q
          · exact HNo.out k a c q ha hc
          · obtain rfl : k = i := by omega
            rw [HX.out.1] at ha
            rw [HX.out.2] at hc
            cases ha
            cases hc
            exact HD.out
        | false =>
          have HM := Lib.hid (rises_false (f := fun a b : Int × Int => decide (a.1 < b.1)) HX.out.1 HX.out.2 HD.out)
          go_wp2
          go_ret
          exact ⟨by rw [HM.out]; rfl, by first | exact hb1 | exact hb1.drew⟩
    · have HM := Lib.hid (rises_true (l := l) (f := fun a b : Int × Int => decide (a.1 < b.1)) (i := i) (by omega) HNo.out)
      have i2 : ¬ (i : Int) < (l.length : Int) - 1 := by omega
      clear HC hbw
      go_wp2
      go_ret
      exact ⟨by rw [HM.out]; rfl, HB.out⟩
end
end Dm
end Go.Proofs.YtdmoohiepnbdaaaGreat
