/- The walks of nic.Swap, Send, Sent, and of slices.Clone at strings. -/
import Derived.Test.YtkjpffihmcjjpaaNicC
namespace Go.Proofs.Ytkjpffihmcjjpaa.Ni
open Go.RowKit
set_option linter.unusedVariables false
set_option linter.unusedSimpArgs false
/-! ### Swap -/
def swapL : List ByteArray → List ByteArray
  | a :: b :: r => b :: a :: r
  | l => l
def swS (S : NicS) (x : Int) (l : List ByteArray) : NicS := { S with q := updQ S.q x l }
def swapS (S : NicS) (x : Int) : NicS := if 2 ≤ (S.q x).length then swS S x (swapL (S.q x)) else S
def swapE (S : NicS) (x : Int) : Int := if 2 ≤ (S.q x).length then 0 else 3
theorem Nc.setRow {w w1 : World} {nb mb : Nat} {V : Int → Value} {sv : Value} {S : NicS} (h : Nc w nb mb V sv S) (x : Int) (hm : Mod (fun k => (V x).ownBlock = some k) w w1) (l : List ByteArray) (hl : l.length = (S.q x).length)
    (hv : SlV w1 9 1 (V x) l.length (l.map .string)) : Nc w1 nb mb V sv (swS S x l) := by
  refine ⟨(hm.block nb (h.lt nb (.inl rfl)) (h.rapart x).1).trans h.head, ?_, fun y => ?_, h.sent.keep fun g hg => hm.block g (h.lt g (.inr (.inr (.inl hg)))) fun hx => h.sapart x g hx hg, h.nodup, h.range, h.apart, h.sapart, h.rapart, h.tapart, fun y => ?_, fun k hk => Nat.lt_of_lt_of_le (h.lt k hk) hm.size⟩
  · obtain ⟨D, n, ⟨es, clock, hb, rest⟩, hv, hz, hh⟩ := h.map
    exact ⟨D, n, ⟨es, clock, (hm.block mb (h.lt mb (.inr (.inl rfl))) (h.rapart x).2).trans hb, rest⟩, hv, hz, hh⟩
  · show SlV w1 _ 1 (V y) (updQ S.q x l y).length ((updQ S.q x l y).map .string)
    by_cases e : y = x
    · subst e; rw [updQ_same]; exact hv
    · rw [updQ_other _ _ _ e]
      exact (h.rows y).keep fun g hg => hm.block g (h.lt g (.inr (.inr (.inr ⟨y, hg⟩)))) fun hx => h.apart x y g (Ne.symm e) hx hg
  · show (updQ S.q x l y).length ≤ 8
    by_cases e : y = x
    · subst e; rw [updQ_same, hl]; exact h.small y
    · rw [updQ_other _ _ _ e]; exact h.small y
theorem swap_none {w : World} {nb mb : Nat} {V : Int → Value} {sv : Value} {S : NicS} (h : Nc w nb mb V sv S) (x : Int) (h0 : 0 ≤ x) (h1 : x < 65536) (hq : (S.q x).length < 2) :
    Calls Try.prog 12 #[.pointer (some ⟨nb, 0, none⟩), .int .u16 x] w fun e w' => e = .returned (.int .i64 3) ∧ w = w' := by
  have hl := h.look x h0 h1
  have hc := h.cellMap
  obtain ⟨a, cap, hv⟩ := (h.rows x).form
  rw [hv] at hl
  clear h hv
  generalize (S.q x).length = n at *
  go_enter Try.func12, Try.ntmps12
  go_wp2
  go_ret
  exact ⟨rfl, rfl⟩
set_option maxRecDepth 100000 in
theorem swap_two {w : World} {nb mb : Nat} {V : Int → Value} {sv : Value} {S : NicS} (h : Nc w nb mb V sv S) (x : Int) (h0 : 0 ≤ x) (h1 : x < 65536) {f g : ByteArray} {r : List ByteArray} (hq : S.q x = f :: g :: r) :
    Calls Try.prog 12 #[.pointer (some ⟨nb, 0, none⟩), .int .u16 x] w fun e w' => e = .returned (.int .i64 0) ∧ Nc w' nb mb V sv (swS S x (g :: f :: r)) ∧ Mod (fun k => (V x).ownBlock = some k) w w' := by
  have hl := h.look x h0 h1
  have hc := h.cellMap
  have hr := h.rows x
  have hsm := h.small x
  obtain ⟨b, off, cap, hv, hcap⟩ := rows_cap h hq
  rw [hq, hv] at hr
  rw [hv] at hl
  rw [hq] at hsm
  have hb : (V x).ownBlock = some b := by rw [hv]; rfl
  have c0 := hr.cell 0 (by simp)
  have c1 := hr.cell 1 (by simp)
  have f0 := hr.free (by simp) off
  have f1 := hr.free (by simp) (off + 1)
  simp only [List.map_cons, List.getElem?_cons_zero, List.getElem?_cons_succ, Nat.add_zero] at c0 c1
  have Hfin : Hid (∀ w1, w1 = (w.drew.setCell ⟨b, off, none⟩ (.string g)).setCell ⟨b, off + 1, none⟩ (.string f) → Nc w1 nb mb V sv (swS S x (g :: f :: r)) ∧ Mod (fun k => (V x).ownBlock = some k) w w1) := by
    rintro w1 rfl
    have hm : Mod (fun k => (V x).ownBlock = some k) w ((w.drew.setCell ⟨b, off, none⟩ (.string g)).setCell ⟨b, off + 1, none⟩ (.string f)) := ((Mod.refl _ _).drew.setCell _ (.inl hb) _).setCell _ (.inl hb) _
    refine ⟨h.setRow x hm _ (by rw [hq]; rfl) ?_, hm⟩
    rw [hv]
    have hd : SlV w.drew 9 1 (.slice (some ⟨b, off, none⟩) (r.length + 1 + 1) cap) (r.length + 1 + 1) ((f :: g :: r).map .string) := hr.keep fun _ _ => rfl
    have s1 := hd.setCell 0 (by omega) (.string g)
    have s2 := s1.setCell 1 (by omega) (.string f)
    simpa using s2
  simp only [List.length_cons] at hsm hcap hl
  generalize r.length = m at *
  clear h hv hr hq
  go_enter Try.func12, Try.ntmps12
  go_wp2
  go_region
  all_goals go_wp2
  all_goals go_ret
  all_goals exact ⟨rfl, Hfin.out _ rfl⟩
theorem swap {w : World} {F : Nat → Prop} {nb : Nat} {S : NicS} (h : NicO w F nb S) (x : Int) (h0 : 0 ≤ x) (h1 : x < 65536) :
    Calls Try.prog 12 #[.pointer (some ⟨nb, 0, none⟩), .int .u16 x] w fun e w' => e = .returned (.int .i64 (swapE S x)) ∧ NicO w' F nb (swapS S x) ∧ Mod F w w' := by
  obtain ⟨mb, V, sv, hn, hF⟩ := h
  unfold swapE swapS
  match hq : S.q x with
  | [] => exact (swap_none hn x h0 h1 (by rw [hq]; simp)).mono fun e w' ⟨g, g'⟩ => ⟨g, g' ▸ ⟨mb, V, sv, hn, hF⟩, g' ▸ Mod.refl _ _⟩
  | [_] => exact (swap_none hn x h0 h1 (by rw [hq]; simp)).mono fun e w' ⟨g, g'⟩ => ⟨g, g' ▸ ⟨mb, V, sv, hn, hF⟩, g' ▸ Mod.refl _ _⟩
  | f :: g :: r => exact (swap_two hn x h0 h1 hq).mono fun e w' ⟨g, g', gm⟩ => ⟨g, ⟨mb, V, sv, g', hF⟩, gm.mono fun k _ e => hF k (.inr (.inr (.inr ⟨x, e⟩)))⟩
/-! ### Send -/
def sendS (S : NicS) (f : ByteArray) : NicS := if mayB f = true then { S with sent := S.sent ++ [f] } else S
def sendE (f : ByteArray) : Int := if mayB f = true then 0 else 2
theorem Nc.setSent {w w1 : World} {nb mb : Nat} {V : Int → Value} {sv : Value} {S : NicS} (h : Nc w nb mb V sv S) (hm : Mod (fun k => sv.ownBlock = some k) w w1) (v : Value) (l : List ByteArray)
    (hv : SlV w1 9 1 v l.length (l.map .string)) (hb : v.ownBlock = sv.ownBlock ∨ ∃ k, v.ownBlock = some k ∧ w.heap.size ≤ k) (hk : ∀ k, v.ownBlock = some k → k < w1.heap.size) :
    Nc (w1.setCell ⟨nb, 1, none⟩ v) nb mb V v { S with sent := l } := by
  have hne : ∀ k, k ≠ nb → (w1.setCell ⟨nb, 1, none⟩ v).heap[k]? = w1.heap[k]? := fun k hk => Below.heap_setCell _ _ _ _ hk
  have hz : (w1.setCell ⟨nb, 1, none⟩ v).heap.size = w1.heap.size := by simp [World.setCell]
  have hfr : ∀ k, v.ownBlock = some k → sv.ownBlock = some k ∨ w.heap.size ≤ k := by
    intro k hk'
    rcases hb with g | ⟨k', g, hge⟩
    · exact .inl (g ▸ hk')
    · rw [hk'] at g; cases g; exact .inr hge
  have hnb := h.lt nb (.inl rfl)
  have hmb := h.lt mb (.inr (.inl rfl))
  have hvm : ∀ k, v.ownBlock = some k → k ≠ mb ∧ k ≠ nb := by
    intro k hk'
    rcases hfr k hk' with g | g
    · exact ⟨fun e => h.tapart.2 (e ▸ g), fun e => h.tapart.1 (e ▸ g)⟩
    · omega
  have hs := hm.size
  refine ⟨?_, ?_, fun y => (h.rows y).keep fun g hg => (hne g fun e => (h.rapart y).1 (e ▸ hg)).trans (hm.block g (h.lt g (.inr (.inr (.inr ⟨y, hg⟩)))) fun hx => h.sapart y g hg hx), hv.keep fun g hg => hne g (hvm g hg).2, h.nodup, h.range, h.apart, fun y k hy hs' => ?_, h.rapart, ⟨fun e => (hvm nb e).2 rfl, fun e => (hvm mb e).1 rfl⟩, h.small, fun k hk' => ?_⟩
  · have := heap_setCell_same w1 nb 1 _ _ v ((hm.block nb hnb h.tapart.1).trans h.head)
    simpa using this
  · obtain ⟨D, n, ⟨es, clock, hbk, rest⟩, hv⟩ := h.map
    exact ⟨D, n, ⟨es, clock, ((hne mb h.nm.symm).trans (hm.block mb hmb h.tapart.2)).trans hbk, rest⟩, hv⟩
  · rcases hfr k hs' with g | g
    · exact h.sapart y k hy g
    · have := h.lt k (.inr (.inr (.inr ⟨y, hy⟩))); omega
  · rw [hz]
    rcases hk' with rfl | rfl | g | ⟨y, g⟩
    · omega
    · omega
    · exact hk k g
    · have := h.lt k (.inr (.inr (.inr ⟨y, g⟩))); omega
theorem send_arg {w : World} (nb : Nat) (f : ByteArray) (hf : f.size < 140737488355328) (hm : mayB f = false) :
    Calls Try.prog 14 #[.pointer (some ⟨nb, 0, none⟩), .string f] w fun e w' => e = .returned (.int .i64 2) ∧ w = w' := by
  have Hm := Lib.hid hm
  clear hm
  go_enter Try.func14, Try.ntmps14
  go_wp2_with (go_at_call 19; (with_reducible refine (may f hf _).mono ?_); rw [Hm.out]; rintro e w1 ⟨rfl, rfl⟩)
  go_ret
  exact ⟨rfl, rfl⟩
theorem sent_stored {w w2 : World} {nb mb : Nat} {V : Int → Value} {sv : Value} {S : NicS} (h : Nc w nb mb V sv S) (f : ByteArray) {n : Nat} {v1 : Value} {o : Obj} (q1 : SlV w2 9 1 v1 (n + 1) (S.sent.map .string ++ [.string f])) (q2 : Mod (fun k => sv.ownBlock = some k) (w.alloc o) w2) (q3 : v1.ownBlock = sv.ownBlock ∨ ∃ k, v1.ownBlock = some k ∧ (w.alloc o).heap.size ≤ k) :
    w2.cell? ⟨nb, 1, none⟩ = some sv ∧ w2.frozen? ⟨nb, 1, none⟩ = false ∧ Nc (w2.setCell ⟨nb, 1, none⟩ v1) nb mb V v1 { S with sent := S.sent ++ [f] } ∧ (v1.ownBlock = sv.ownBlock ∨ ∃ k, v1.ownBlock = some k ∧ w.heap.size ≤ k) ∧ Mod (fun k => k = nb ∨ sv.ownBlock = some k) w (w2.setCell ⟨nb, 1, none⟩ v1) := by
  have hn : n = S.sent.length := by have := q1.1; simp at this; omega
  subst hn
  have hm : Mod (fun k => sv.ownBlock = some k) w w2 := ((Mod.refl _ _).alloc o).same q2
  have q3' : v1.ownBlock = sv.ownBlock ∨ ∃ k, v1.ownBlock = some k ∧ w.heap.size ≤ k := by
    rcases q3 with g | ⟨k, g, hk⟩
    · exact .inl g
    · exact .inr ⟨k, g, Nat.le_trans (by simp) hk⟩
  have hb := hm.block nb (h.lt nb (.inl rfl)) h.tapart.1
  refine ⟨by rw [World.cell?_of_block (w := w) hb]; exact h.cellSent, ?_, h.setSent hm v1 (S.sent ++ [f]) (by simpa using q1) q3' (fun k hk => by obtain ⟨g, hg, hlt⟩ := q1.lt (by omega); rw [hk] at hg; cases hg; exact hlt), q3', Mod.setCell (F := fun k => k = nb ∨ sv.ownBlock = some k) (hm.mono fun k _ g => Or.inr g) ⟨nb, 1, none⟩ (.inl (.inl rfl)) _⟩
  unfold World.frozen?
  rw [hb, h.head]
  simp
set_option maxRecDepth 100000 in
theorem send_ok {w : World} {nb mb : Nat} {V : Int → Value} {sv : Value} {S : NicS} (h : Nc w nb mb V sv S) (f : ByteArray) (hf : f.size < 140737488355328) (hm : mayB f = true) (hs : S.sent.length < 4398046511104) :
    Calls Try.prog 14 #[.pointer (some ⟨nb, 0, none⟩), .string f] w fun e w' => e = .returned (.int .i64 0) ∧ ∃ v, Nc w' nb mb V v { S with sent := S.sent ++ [f] } ∧ (v.ownBlock = sv.ownBlock ∨ ∃ k, v.ownBlock = some k ∧ w.heap.size ≤ k) ∧ Mod (fun k => k = nb ∨ sv.ownBlock = some k) w w' := by
  obtain ⟨i0, hi0, hz0, hz1, hz2⟩ := info_parts infoStr
  have Hi := Lib.hid hi0
  have Hz0 := Lib.hid hz0
  have Hz1 := Lib.hid hz1
  have Hz2 := Lib.hid hz2
  clear hi0 hz0 hz1 hz2
  have Hm := Lib.hid hm
  have H := Lib.hid h
  have hcs := h.cellSent
  have Hsl := Lib.hid h.sent
  have hnb := h.lt nb (.inl rfl)
  have Hgl : Hid (∀ g, sv.ownBlock = some g → g < w.heap.size) := fun g hg => h.lt g (.inr (.inr (.inl hg)))
  clear h hm
  generalize hlen : S.sent.length = n at *
  have Hlen := Lib.hid hlen
  clear hlen
  go_enter Try.func14, Try.ntmps14
  go_wp2_with (first | (go_at_call 19; (with_reducible refine (may f hf _).mono ?_); rw [Hm.out]; rintro e w1 ⟨rfl, rfl⟩) | (at_builtin; refine wpList_append_slv _ (by rfl) _ _ _ (by rfl) 9 i0 (.string ByteArray.empty) 1 16 Try.underlying28 Hi.out Hz0.out Hz1.out Hz2.out rfl (by omega) sv n (S.sent.map .string) (by rfl) (Hsl.out.keep fun g hg => Below.heap_alloc _ _ _ (Hgl.out g hg)) ⟨w.heap.size, 0, none⟩ 1 1 [.string f] (by rfl) (by omega) (by rfl) (World.news_of_block (cs := #[.string f]) (t := 9) (fr := (0, 0)) (heap_alloc_new w _)) (fun x hx => by simp at hx; subst hx; rfl) (by unfold maxLen; omega) (by omega) ?_; intro v1 w2 q1 q2 q3; obtain ⟨r1, r2, r3⟩ := sent_stored H.out f q1 q2 q3; obtain ⟨a1, cap1, hv1⟩ := q1.form; have R3 := Lib.hid r3; rw [hv1] at R3; subst hv1; clear r3 q1 q2 q3))
  go_ret
  exact ⟨rfl, _, R3.out.1, R3.out.2⟩
theorem send {w : World} {F : Nat → Prop} {nb : Nat} {S : NicS} (h : NicO w F nb S) (f : ByteArray) (hf : f.size < 140737488355328) (hs : S.sent.length < 4398046511104) :
    Calls Try.prog 14 #[.pointer (some ⟨nb, 0, none⟩), .string f] w fun e w' => e = .returned (.int .i64 (sendE f)) ∧ NicO w' (Fr F w) nb (sendS S f) ∧ Mod F w w' := by
  obtain ⟨mb, V, sv, hn, hF⟩ := h
  unfold sendE sendS
  cases hm : mayB f with
  | false => exact (send_arg nb f hf hm).mono fun e w' ⟨g, g'⟩ => ⟨g, g' ▸ ⟨mb, V, sv, hn, fun k hk => .inl (hF k hk)⟩, g' ▸ Mod.refl _ _⟩
  | true =>
    exact (send_ok hn f hf hm hs).mono fun e w' ⟨g, v, g1, g2, g3⟩ => ⟨g, ⟨mb, V, v, g1, fun k hk => by
      rcases hk with rfl | rfl | e | ⟨y, e⟩
      · exact .inl (hF _ (.inl rfl))
      · exact .inl (hF _ (.inr (.inl rfl)))
      · rcases g2 with g | ⟨k', g, hk'⟩
        · exact .inl (hF _ (.inr (.inr (.inl (g ▸ e)))))
        · rw [e] at g; cases g; exact .inr hk'
      · exact .inl (hF _ (.inr (.inr (.inr ⟨y, e⟩))))⟩, g3.mono fun k _ e => hF k (e.elim (fun e => .inl e) fun e => .inr (.inr (.inl e)))⟩
/-! ### Clone, Sent -/
theorem infoStr' : ∃ i, Try.prog.info? 9 = some i ∧ i.zero = some (.string ByteArray.empty) ∧ i.size = 1 ∧ i.bytes = 16 := info_parts infoStr
theorem eqlNil (w : World) (a : Option Addr) (n c : Nat) : (binOp .eql 28 (.slice a n c) (.slice none 0 0)).run Try.prog w = .ok (.bool a.isNone) w := Lib.run_eql_slice_nil w _ _ a n c 0 0 Try.underlying28
theorem clone_nil (w : World) : Calls Try.prog 21 #[.slice none 0 0] w fun e w' => e = .returned (.slice none 0 0) ∧ w = w' := by
  have he := eqlNil
  go_enter Try.func21, Try.ntmps21
  go_wp2
  go_ret
  exact ⟨rfl, rfl⟩
set_option maxRecDepth 100000 in
theorem clone_some {w : World} {g off n cap : Nat} {xs : List Value} (h : SlV w 9 1 (.slice (some ⟨g, off, none⟩) n cap) n xs) (hn : 0 < n) (hm : n < 4398046511104) (h1 : ∀ u ∈ xs, u.oneCell' = true) :
    Calls Try.prog 21 #[.slice (some ⟨g, off, none⟩) n cap] w fun e w' => ∃ v, e = .returned v ∧ SlV w' 9 1 v n xs ∧ Below w.heap.size w w' ∧ ∀ k, v.ownBlock = some k → w.heap.size ≤ k := by
  obtain ⟨i0, hi0, hz0, hz1, hz2⟩ := info_parts infoStr
  have Hi := Lib.hid hi0
  have Hz0 := Lib.hid hz0
  have Hz1 := Lib.hid hz1
  have Hz2 := Lib.hid hz2
  clear hi0 hz0 hz1 hz2
  have Hnews : Hid (∀ (o : Obj) j u, xs[j]? = some u → (w.alloc o).cell? ((⟨g, off, none⟩ : Addr).add j) = some u) := fun o j u hj => by
    have hjl : j < n := by have := (List.getElem?_eq_some_iff.1 hj).1; have := h.1; omega
    have hadd : (⟨g, off, none⟩ : Addr).add j = ⟨g, off + j, none⟩ := by unfold Addr.add; split <;> simp_all
    obtain ⟨g', hg', hlt⟩ := h.lt hn
    cases hg'
    rw [hadd, World.cell?_of_block (a := ⟨g, off + j, none⟩) (w := w) (Below.heap_alloc _ _ _ hlt), h.cell j (by omega), hj]
  have Hl : Hid (xs.length = n * 1) := h.1
  have H1 := Lib.hid h1
  clear h h1
  have he := eqlNil
  go_enter Try.func21, Try.ntmps21
  go_wp2_with (at_builtin; refine wpList_append_slv _ (by rfl) _ _ _ (by rfl) 9 i0 (.string ByteArray.empty) 1 16 Try.underlying28 Hi.out Hz0.out Hz1.out Hz2.out rfl (by omega) (.slice (some ⟨w.heap.size, 0, none⟩) 0 0) 0 [] (by rfl) ⟨by simp, .inl ⟨rfl, _, rfl⟩⟩ ⟨g, off, none⟩ n cap xs (by rfl) hn Hl.out (Hnews.out _) H1.out (by unfold maxLen; omega) (by omega) ?_; intro v1 w2 q1 q2 q3)
  go_ret
  rw [Nat.zero_add, List.nil_append] at q1
  refine ⟨_, rfl, q1, ?_, fun k hk => ?_⟩
  · exact (Mod.below ((Below.refl _ _).alloc (Nat.le_refl _) _) q2 (by simp) fun i _ hi => by simp [Value.ownBlock] at hi; omega)
  · have hk2 : v1.ownBlock = some k := hk
    rcases q3 with g | ⟨k', g, hk'⟩
    · rw [hk2] at g; simp [Value.ownBlock] at g; omega
    · rw [hk2] at g; cases g; simp at hk'; omega
theorem sent {w : World} {nb mb : Nat} {V : Int → Value} {sv : Value} {S : NicS} (h : Nc w nb mb V sv S) (hs : S.sent.length < 4398046511104) (hne : S.sent ≠ []) :
    Calls Try.prog 16 #[.pointer (some ⟨nb, 0, none⟩)] w fun e w' => ∃ a cap, e = .returned (.slice a S.sent.length cap) ∧ SlV w' 9 1 (.slice a S.sent.length cap) S.sent.length (S.sent.map .string) ∧ Below w.heap.size w w' ∧ ∀ k, (Value.slice a S.sent.length cap).ownBlock = some k → w.heap.size ≤ k := by
  have hcs := h.cellSent
  have hsl := h.sent
  have hn : 0 < S.sent.length := List.length_pos_iff.2 hne
  rcases hsl.2 with ⟨h0, _⟩ | ⟨g, off, cap, cur, hv, _⟩
  · omega
  · rw [hv] at hcs hsl
    have Hc := Lib.hid (fun w (h : SlV w 9 1 (.slice (some ⟨g, off, none⟩) S.sent.length cap) S.sent.length (S.sent.map .string)) => clone_some h hn hs (fun u hu => by obtain ⟨f, _, rfl⟩ := List.mem_map.1 hu; rfl))
    have Hs := Lib.hid hsl
    clear hsl hv h
    go_enter Try.func16, Try.ntmps16
    go_wp2_with (go_at_call 21; (with_reducible refine (Hc.out _ Hs.out).mono ?_); rintro e w1 ⟨v, rfl, q1, q2⟩)
    go_ret
    obtain ⟨a, c, rfl⟩ := q1.form
    exact ⟨a, c, rfl, q1, q2⟩
end Go.Proofs.Ytkjpffihmcjjpaa.Ni
