/- NicD: Nic, NicA, NicB, NicC, NicD in one text. -/
import Derived.Test.YtdmoohiepnbdaaaGreatProg
import Derived.Test.YtdmoohiepnbdaaaGreatEnSlv
import Derived.Test.YtdmoohiepnbdaaaGreatEnBase
import Derived.WalkSpells
import Derived.WalkLawsBesides
import Derived.RegionTactic
import Derived.ChangeAlike
import Derived.BigRegion
import Derived.WalkSmall
import Derived.Test.YtdmoohiepnbdaaaGreatEnPair
import Derived.LoopTactic
import Derived.Outline
import Derived.Deep.RegionHeld3
namespace Go.Proofs.YtdmoohiepnbdaaaGreat
open Go.RowKit
set_option linter.unusedVariables false
theorem SlV.setCell {w : World} {e : TypeId} {s : Nat} {g off n cap : Nat} {xs : List Value} (h : SlV w e s (.slice (some ⟨g, off, none⟩) n cap) n xs) (j : Nat) (hj : j < n * s) (u : Value) : SlV (w.setCell ⟨g, off + j, none⟩ u) e s (.slice (some ⟨g, off, none⟩) n cap) n (xs.set j u) := by
  obtain ⟨hl, h⟩ := h
  refine ⟨by rw [List.length_set]; exact hl, ?_⟩
  rcases h with ⟨rfl, _⟩ | ⟨g', off', cap', cur, hv, hg, hc, hm, hs, ht⟩
  · omega
  · simp only [Value.slice.injEq, Option.some.injEq, Addr.mk.injEq, and_true, true_and] at hv
    obtain ⟨⟨rfl, rfl⟩, rfl⟩ := hv
    refine .inr ⟨g, off, cap, _, rfl, heap_setCell_same w g (off + j) cur e u hg, hc, hm, by simpa using hs, fun i hi => ?_⟩
    have hsz : off + j < cur.size := by
      have : n * s ≤ cap * s := Nat.mul_le_mul_right _ hc
      omega
    rw [Array.getElem?_setIfInBounds, List.getElem?_set]
    by_cases hij : j = i
    · subst hij
      rw [if_pos rfl, if_pos rfl, if_pos hsz, if_pos (by omega)]
    · rw [if_neg (by omega), if_neg hij, ht i hi]
namespace Ni
structure NicS where
  ports : List Int
  q : Int → List ByteArray
  sent : List ByteArray
  gone : Int
def slcElem (v : Value) : Option (DataW Unit × List MemPlace) :=
  match v with
  | .slice none n cap => some (.agg [.lit (.int .i64 (-1)), .lit (.int .i64 0), .lit (.int .i64 n), .lit (.int .i64 cap)], [])
  | .slice (some ⟨b, off, none⟩) n cap => some (.agg [.lit (.int .i64 b), .lit (.int .i64 off), .lit (.int .i64 n), .lit (.int .i64 cap)], [])
  | _ => none
theorem slcElem_inj {v v' : Value} {d : DataW Unit} {p p' : List MemPlace} (h : slcElem v = some (d, p)) (h' : slcElem v' = some (d, p')) : v = v' := by
  unfold slcElem at h h'
  split at h <;> split at h' <;> simp at h h' <;> obtain ⟨rfl, rfl⟩ := h <;> simp at h' <;> simp <;> omega
def nilD : DataW Unit := .agg [.lit (.int .i64 (-1)), .lit (.int .i64 0), .lit (.int .i64 (0 : Nat)), .lit (.int .i64 (0 : Nat))]
def foot (nb mb : Nat) (V : Int → Value) (sv : Value) (k : Nat) : Prop := k = nb ∨ k = mb ∨ sv.ownBlock = some k ∨ ∃ x, (V x).ownBlock = some k
structure Nc (w : World) (nb mb : Nat) (V : Int → Value) (sv : Value) (S : NicS) : Prop where
  head : w.heap[nb]? = some (.cells #[.map (some mb), sv, .int .i64 S.gone] 347 (0, 0))
  map : ∃ D n, w.ownsMap Tryz.prog 22 slcElem mb n D ∧ (∀ x, slcElem (V x) = some (D.atKey (.int .u16 x) nilD, [])) ∧ Maps.size D = S.ports.length ∧ ∀ x, Maps.has D (.int .u16 x) = decide (x ∈ S.ports)
  rows : ∀ x, SlV w 9 1 (V x) (S.q x).length ((S.q x).map .string)
  sent : SlV w 9 1 sv S.sent.length (S.sent.map .string)
  nodup : S.ports.Nodup
  range : ∀ x, x ∈ S.ports → 0 ≤ x ∧ x < 65536
  apart : ∀ x y k, x ≠ y → (V x).ownBlock = some k → (V y).ownBlock ≠ some k
  sapart : ∀ x k, (V x).ownBlock = some k → sv.ownBlock ≠ some k
  rapart : ∀ x, (V x).ownBlock ≠ some nb ∧ (V x).ownBlock ≠ some mb
  tapart : sv.ownBlock ≠ some nb ∧ sv.ownBlock ≠ some mb
  small : ∀ x, (S.q x).length ≤ 8
  lt : ∀ k, foot nb mb V sv k → k < w.heap.size
theorem Nc.frame {w w' : World} {nb mb : Nat} {V : Int → Value} {sv : Value} {S : NicS} (h : Nc w nb mb V sv S) (hs : w.heap.size ≤ w'.heap.size) (hf : ∀ k, foot nb mb V sv k → w'.heap[k]? = w.heap[k]?) : Nc w' nb mb V sv S := by
  refine ⟨(hf nb (.inl rfl)).trans h.head, ?_, fun x => (h.rows x).keep fun g hg => hf g (.inr (.inr (.inr ⟨x, hg⟩))), h.sent.keep fun g hg => hf g (.inr (.inr (.inl hg))), h.nodup, h.range, h.apart, h.sapart, h.rapart, h.tapart, h.small, fun k hk => Nat.lt_of_lt_of_le (h.lt k hk) hs⟩
  obtain ⟨D, n, ho, hv, hz, hh⟩ := h.map
  obtain ⟨es, clock, hb, rest⟩ := ho
  exact ⟨D, n, ⟨es, clock, (hf mb (.inr (.inl rfl))).trans hb, rest⟩, hv, hz, hh⟩
theorem Nc.keep {w w' : World} {nb mb : Nat} {V : Int → Value} {sv : Value} {S : NicS} {G : Nat → Prop} (h : Nc w nb mb V sv S) (hm : Mod G w w') (hf : ∀ k, foot nb mb V sv k → ¬ G k) : Nc w' nb mb V sv S :=
  h.frame hm.size fun k hk => hm.block k (h.lt k hk) (hf k hk)
theorem zeroSlice (w : World) : (zeroValue 64).run Tryz.prog w = .ok (.slice none 0 0) w := by kernel_rfl
theorem wf_u16 {x : Int} (h0 : 0 ≤ x) (h1 : x < 65536) : (Lit.int .u16 x).wf = true := by simp [Lit.wf, IntKind.min, IntKind.max, IntKind.signed, IntKind.bits]; omega
theorem Nc.look {w : World} {nb mb : Nat} {V : Int → Value} {sv : Value} {S : NicS} (h : Nc w nb mb V sv S) (x : Int) (h0 : 0 ≤ x) (h1 : x < 65536) :
    (Instr.lookup 345 (.map (some mb)) (.int .u16 x) false).run Tryz.prog w = .ok (V x) w := by
  obtain ⟨D, n, ho, hv, _⟩ := h.map
  obtain ⟨v, ps, hrun, hR⟩ := ho.lookup (Maps.int_keyed Tryz.underlying22) Tryz.underlying345 (zeroSlice w) (z := .slice none 0 0) (zd := nilD) (zp := []) rfl (Maps.keyOf_int_mk Tryz.underlying22 (wf_u16 h0 h1))
  rw [hrun, slcElem_inj hR (hv x)]
theorem Nc.free {w : World} {nb mb : Nat} {V : Int → Value} {sv : Value} {S : NicS} (h : Nc w nb mb V sv S) (j : Nat) : w.frozen? ⟨nb, j, none⟩ = false := by
  unfold World.frozen?; rw [h.head]; simp
theorem nodup_bd : ∀ (n : Nat) (l : List Int), l.Nodup → (∀ x, x ∈ l → 0 ≤ x ∧ x < n) → l.length ≤ n
  | 0, l, _, h => by
    cases l with
    | nil => simp
    | cons a r => have := h a (by simp); omega
  | n + 1, l, hn, h => by
    have := nodup_bd n (l.erase n) (hn.erase _) fun x hx => by
      have h1 := h x (List.mem_of_mem_erase hx)
      have h2 : x ≠ n := ((List.Nodup.mem_erase_iff hn).1 hx).1
      omega
    rw [List.length_erase] at this
    split at this <;> omega
def updQ {X : Type} (f : Int → X) (x : Int) (y : X) (z : Int) : X := if z = x then y else f z
theorem updQ_same {X : Type} (f : Int → X) (x : Int) (y : X) : updQ f x y x = y := if_pos rfl
theorem updQ_other {X : Type} (f : Int → X) (x : Int) (y : X) {z : Int} (h : z ≠ x) : updQ f x y z = f z := if_neg h
def putPort (l : List Int) (x : Int) : List Int := if x ∈ l then l else x :: l
theorem mem_putPort (l : List Int) (x y : Int) : y ∈ putPort l x ↔ y = x ∨ y ∈ l := by
  unfold putPort
  split
  · rename_i h
    exact ⟨.inr, fun g => by rcases g with rfl | g; exact h; exact g⟩
  · simp
def qSet (S : NicS) (x : Int) (l : List ByteArray) : NicS := { S with ports := putPort S.ports x, q := updQ S.q x l }
theorem own_tight {w : World} {P : Program} {k : TypeId} {R : Value → Option (DataW Unit × List MemPlace)} {b n : Nat} {D : DataW Unit} (h : w.ownsMap P k R b n D) : w.ownsMap P k R b (Maps.size D) D := by
  obtain ⟨es, clock, hb, F, hs, rfl⟩ := h
  exact ⟨es, clock, hb, F, by simp [Maps.size, length_sorted], rfl⟩
theorem Nc.store {w w1 : World} {nb mb : Nat} {V : Int → Value} {sv : Value} {S : NicS} (h : Nc w nb mb V sv S) (x : Int) (h0 : 0 ≤ x) (h1 : x < 65536) (hm : Mod (fun k => (V x).ownBlock = some k) w w1) (v : Value) (l : List ByteArray)
    (hv : SlV w1 9 1 v l.length (l.map .string)) (hel : ∃ d, slcElem v = some (d, [])) (hb : v.ownBlock = (V x).ownBlock ∨ ∃ k, v.ownBlock = some k ∧ w.heap.size ≤ k) (hk : ∀ k, v.ownBlock = some k → k < w1.heap.size) (hl : l.length ≤ 8) :
    ∃ w', (Instr.mapUpdate 345 (.map (some mb)) (.int .u16 x) v).run Tryz.prog w1 = .ok () w' ∧ Nc w' nb mb (updQ V x v) sv (qSet S x l) ∧ Mod (fun k => k = mb) w1 w' := by
  obtain ⟨D, n, ho, hV, hs, hh⟩ := h.map
  have hnb := h.lt nb (.inl rfl)
  have hmb := h.lt mb (.inr (.inl rfl))
  have ho1 : w1.ownsMap Tryz.prog 22 slcElem mb n D := by
    obtain ⟨es, clock, hbk, rest⟩ := ho
    exact ⟨es, clock, (hm.block mb hmb (h.rapart x).2).trans hbk, rest⟩
  have ht := own_tight ho1
  have hln : S.ports.length ≤ 65536 := nodup_bd 65536 _ h.nodup fun y hy => h.range y hy
  obtain ⟨d, hd⟩ := hel
  have K := Maps.int_keyed (P := Tryz.prog) Tryz.underlying22
  have hkey := Maps.keyOf_int_mk (P := Tryz.prog) Tryz.underlying22 (wf_u16 h0 h1)
  obtain ⟨w', hrun, how, htu⟩ := ht.store K Tryz.underlying345 (by rw [hs]; unfold maxLen; omega) (val := v) (d := d) (ps := []) hkey hd
  have hg := htu.grown
  have hne : ∀ k, k < w1.heap.size → k ≠ mb → w'.heap[k]? = w1.heap[k]? := fun k hk hkm => hg.block k hk (by simpa using hkm)
  have hfresh : ∀ k, v.ownBlock = some k → (V x).ownBlock = some k ∨ w.heap.size ≤ k := by
    intro k hk'
    rcases hb with g | ⟨k', g, hge⟩
    · exact .inl (g ▸ hk')
    · rw [hk'] at g; cases g; exact .inr hge
  have hvm : ∀ k, v.ownBlock = some k → k ≠ mb ∧ k ≠ nb := by
    intro k hk'
    rcases hfresh k hk' with g | g
    · exact ⟨fun e => (h.rapart x).2 (e ▸ g), fun e => (h.rapart x).1 (e ▸ g)⟩
    · omega
  have hnx : nb ≠ mb := by
    intro e
    have := h.head
    obtain ⟨es, clock, hbk, _⟩ := ho
    rw [e, hbk] at this
    cases this
  refine ⟨w', hrun, ⟨?_, ⟨_, _, how, ?_, ?_, ?_⟩, ?_, ?_, ?_, ?_, ?_, ?_, ?_, h.tapart, ?_, ?_⟩, ⟨hg.os, hg.tape, hg.output, hg.size, fun k hk hkm => hne k hk hkm⟩⟩
  · exact (hne nb (by have := hm.size; omega) hnx).trans ((hm.block nb hnb (h.rapart x).1).trans h.head)
  · intro y
    by_cases e : y = x
    · subst e
      rw [updQ_same, Maps.atKey_put_same ht.isMap (K.key hkey)]
      exact hd
    · rw [updQ_other _ _ _ e, Maps.atKey_put_other (by intro g; simp at g; exact e g)]
      exact hV y
  · rw [Maps.size_put (ht.tidy K), hs, hh]
    show _ = (putPort S.ports x).length
    unfold putPort
    by_cases e : x ∈ S.ports <;> simp [e]
  · intro y
    rw [show (qSet S x l).ports = putPort S.ports x from rfl]
    by_cases e : y = x
    · subst e
      rw [Maps.has_put_same ht.isMap (K.key hkey)]
      simp [mem_putPort]
    · rw [Maps.has_put_other (by intro g; simp at g; exact e g), hh]
      simp [mem_putPort, e]
  · intro y
    show SlV w' _ 1 (updQ V x v y) (updQ S.q x l y).length ((updQ S.q x l y).map .string)
    by_cases e : y = x
    · subst e
      rw [updQ_same, updQ_same]
      exact hv.keep fun g hg' => hne g (hk g hg') (hvm g hg').1
    · rw [updQ_other _ _ _ e, updQ_other _ _ _ e]
      refine (h.rows y).keep fun g hg' => (hne g ?_ ?_).trans (hm.block g (h.lt g (.inr (.inr (.inr ⟨y, hg'⟩)))) fun hx => h.apart x y g (Ne.symm e) hx hg')
      · have := h.lt g (.inr (.inr (.inr ⟨y, hg'⟩)))
        have := hm.size
        omega
      · rintro rfl; exact (h.rapart y).2 hg'
  · refine h.sent.keep fun g hg' => (hne g ?_ ?_).trans (hm.block g (h.lt g (.inr (.inr (.inl hg')))) fun hx => h.sapart x g hx hg')
    · have := h.lt g (.inr (.inr (.inl hg')))
      have := hm.size
      omega
    · rintro rfl; exact h.tapart.2 hg'
  · show (putPort S.ports x).Nodup
    unfold putPort
    split
    · exact h.nodup
    · rename_i hx
      exact List.nodup_cons.2 ⟨hx, h.nodup⟩
  · intro y hy
    rcases (mem_putPort _ _ _).1 hy with rfl | hy
    · exact ⟨h0, h1⟩
    · exact h.range y hy
  · intro y z k hyz hy hz
    by_cases e : y = x
    · subst e
      rw [updQ_same] at hy
      rw [updQ_other _ _ _ (Ne.symm hyz)] at hz
      rcases hfresh k hy with g | g
      · exact h.apart y z k hyz g hz
      · have := h.lt k (.inr (.inr (.inr ⟨z, hz⟩))); omega
    · rw [updQ_other _ _ _ e] at hy
      by_cases e2 : z = x
      · subst e2
        rw [updQ_same] at hz
        rcases hfresh k hz with g | g
        · exact h.apart y z k hyz hy g
        · have := h.lt k (.inr (.inr (.inr ⟨y, hy⟩))); omega
      · rw [updQ_other _ _ _ e2] at hz
        exact h.apart y z k hyz hy hz
  · intro y k hy hs'
    by_cases e : y = x
    · subst e
      rw [updQ_same] at hy
      rcases hfresh k hy with g | g
      · exact h.sapart y k g hs'
      · have := h.lt k (.inr (.inr (.inl hs'))); omega
    · rw [updQ_other _ _ _ e] at hy
      exact h.sapart y k hy hs'
  · intro y
    by_cases e : y = x
    · subst e
      rw [updQ_same]
      exact ⟨fun g => (hvm nb g).2 rfl, fun g => (hvm mb g).1 rfl⟩
    · rw [updQ_other _ _ _ e]
      exact h.rapart y
  · intro y
    show (updQ S.q x l y).length ≤ 8
    by_cases e : y = x
    · subst e; rw [updQ_same]; exact hl
    · rw [updQ_other _ _ _ e]; exact h.small y
  · intro k hk'
    have hs1 := hm.size
    have hs2 := hg.size
    rcases hk' with rfl | rfl | g | ⟨y, g⟩
    · omega
    · omega
    · have := h.lt k (.inr (.inr (.inl g))); omega
    · by_cases e : y = x
      · subst e
        rw [updQ_same] at g
        have := hk k g
        omega
      · rw [updQ_other _ _ _ e] at g
        have := h.lt k (.inr (.inr (.inr ⟨y, g⟩)))
        omega
def NicO (w : World) (F : Nat → Prop) (nb : Nat) (S : NicS) : Prop := ∃ mb V sv, Nc w nb mb V sv S ∧ ∀ k, foot nb mb V sv k → F k
theorem NicO.mono {w : World} {F G : Nat → Prop} {nb : Nat} {S : NicS} (h : NicO w F nb S) (hf : ∀ k, F k → G k) : NicO w G nb S := by
  obtain ⟨mb, V, sv, hn, g⟩ := h
  exact ⟨mb, V, sv, hn, fun k hk => hf k (g k hk)⟩
theorem NicO.keep {w w' : World} {F G : Nat → Prop} {nb : Nat} {S : NicS} (h : NicO w F nb S) (hm : Mod G w w') (hf : ∀ k, F k → ¬ G k) : NicO w' F nb S := by
  obtain ⟨mb, V, sv, hn, g⟩ := h
  exact ⟨mb, V, sv, hn.keep hm fun k hk => hf k (g k hk), g⟩
theorem NicO.same {w w' : World} {F : Nat → Prop} {nb : Nat} {S : NicS} (h : NicO w F nb S) (hm : Below w.heap.size w w') : NicO w' F nb S := h.keep (G := fun _ => False) (Mod.of_below hm _) fun _ _ g => g
end Ni
end Go.Proofs.YtdmoohiepnbdaaaGreat
namespace Go.Proofs.YtdmoohiepnbdaaaGreat.Ni
open Go.RowKit
set_option linter.unusedVariables false
def newS : NicS := ⟨[], fun _ => [], [], 0⟩
theorem new (w : World) : Calls Tryz.prog 155 #[] w fun e w' => e = .returned (.pointer (some ⟨w.heap.size + 1, 0, none⟩)) ∧ Nc w' (w.heap.size + 1) w.heap.size (fun _ => .slice none 0 0) (.slice none 0 0) newS ∧ Below w.heap.size w w' ∧ w'.heap.size = w.heap.size + 2 := by
  have hmm := @run_makeMap Tryz.prog
  go_enter Tryz.func155, Tryz.ntmps155
  go_wp2
  go_ret
  refine ⟨rfl, ⟨?_, ?_, fun x => SlV.nil _ _ _, SlV.nil _ _ _, List.nodup_nil, fun x hx => by simp [newS] at hx, fun x y k _ h => by simp [Value.ownBlock] at h, fun x k h => by simp [Value.ownBlock] at h, fun x => by simp [Value.ownBlock], by simp [Value.ownBlock], fun x => by simp [newS], fun k hk => ?_⟩, by repeat (first | exact Below.refl _ _ | refine Below.alloc ?_ (by simp) _), by simp⟩
  · have := heap_alloc_new (w.alloc (.map #[] 0)) (.cells #[.map (some w.heap.size), .slice none 0 0, .int .i64 0] 347)
    simpa [newS] using this
  · exact ⟨.map [], 0, (World.ownsMap_made w _ _ _).alloc _, fun x => rfl, rfl, fun x => by simp [newS, Maps.has]⟩
  · simp
    rcases hk with rfl | rfl | g | ⟨x, g⟩
    · omega
    · omega
    · simp [Value.ownBlock] at g
    · simp [Value.ownBlock] at g
def mayB (f : ByteArray) : Bool := decide (1 ≤ f.size) && decide (f.size ≤ 128)
def portV (f : ByteArray) (j : Nat) : Int := if f.size < 24 then 0 else Word.getV (nums (f.extract j (j + 2))).reverse
def portB (f : ByteArray) : Bool := decide (24 ≤ f.size)
variable {w : World} {nb mb : Nat} {V : Int → Value} {sv : Value} {S : NicS}
end Go.Proofs.YtdmoohiepnbdaaaGreat.Ni
namespace Go.Proofs.YtdmoohiepnbdaaaGreat.Ni
open Go.RowKit
set_option linter.unusedVariables false
set_option maxRecDepth 100000 in
theorem Nc.nm {w : World} {nb mb : Nat} {V : Int → Value} {sv : Value} {S : NicS} (h : Nc w nb mb V sv S) : nb ≠ mb := by
  intro e
  have := h.head
  obtain ⟨D, n, ⟨es, clock, hbk, _⟩, _⟩ := h.map
  rw [e, hbk] at this
  cases this
end Go.Proofs.YtdmoohiepnbdaaaGreat.Ni
namespace Go.Proofs.YtdmoohiepnbdaaaGreat.Ni
open Go.RowKit
set_option linter.unusedVariables false
set_option linter.unusedSimpArgs false
def popS (S : NicS) (x : Int) : NicS := match S.q x with | [] => S | _ :: r => qSet S x r
end Go.Proofs.YtdmoohiepnbdaaaGreat.Ni
namespace Go.Proofs.YtdmoohiepnbdaaaGreat.Ni
open Go.RowKit
set_option linter.unusedVariables false
set_option linter.unusedSimpArgs false
def sendS (S : NicS) (f : ByteArray) : NicS := if mayB f = true then { S with sent := S.sent ++ [f] } else S
end Go.Proofs.YtdmoohiepnbdaaaGreat.Ni
