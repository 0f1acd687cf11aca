/- The walks of nic.Pop, Swap, Lose. -/
import Derived.Test.YtkjpffihmcjjpaaNicB
namespace Go.Proofs.Ytkjpffihmcjjpaa.Ni
open Go.RowKit
set_option linter.unusedVariables false
set_option linter.unusedSimpArgs false
theorem foot_upd {w : World} {nb mb : Nat} {V : Int → Value} {sv v : Value} {x : Int} (hb : v.ownBlock = (V x).ownBlock ∨ ∃ k, v.ownBlock = some k ∧ w.heap.size ≤ k) {k : Nat} (h : foot nb mb (updQ V x v) sv k) : foot nb mb V sv k ∨ w.heap.size ≤ k := by
  rcases h with rfl | rfl | h | ⟨y, h⟩
  · exact .inl (.inl rfl)
  · exact .inl (.inr (.inl rfl))
  · exact .inl (.inr (.inr (.inl h)))
  · by_cases e : y = x
    · subst e
      rw [updQ_same] at h
      rcases hb with g | ⟨k', g, hk⟩
      · exact .inl (.inr (.inr (.inr ⟨y, g ▸ h⟩)))
      · rw [h] at g; cases g; exact .inr hk
    · rw [updQ_other _ _ _ e] at h
      exact .inl (.inr (.inr (.inr ⟨y, h⟩)))
theorem arrive {w : World} {F : Nat → Prop} {nb : Nat} {S : NicS} (h : NicO w F nb S) (f : ByteArray) (hf : f.size < 140737488355328) (g0 : 0 ≤ S.gone) (g1 : S.gone < 9223372036854775807) :
    Calls Try.prog 8 #[.pointer (some ⟨nb, 0, none⟩), .string f] w fun e w' => e = .returned (.tuple #[.int .u16 (arriveP f), .bool (arriveB S f), .int .i64 (arriveE f)]) ∧ NicO w' (Fr F w) nb (arriveS S f) ∧ Mod F w w' := by
  obtain ⟨mb, V, sv, hn, hF⟩ := h
  unfold arriveP arriveB arriveE arriveS
  cases hm : mayB f with
  | false => exact (arrive_arg nb f hf hm).mono fun e w' ⟨g, g'⟩ => ⟨g, g' ▸ ⟨mb, V, sv, hn, fun k hk => .inl (hF k hk)⟩, g' ▸ Mod.refl _ _⟩
  | true =>
    rw [if_pos rfl, if_pos rfl, if_pos rfl, Bool.true_and]
    cases hp : portB f with
    | false =>
      rw [if_neg (by simp)]
      exact (arrive_short hn f hf hm hp g0 g1).mono fun e w' ⟨g, g', g''⟩ => ⟨g, ⟨mb, V, sv, g', fun k hk => .inl (hF k hk)⟩, g''.mono fun k _ e => hF k (.inl e)⟩
    | true =>
      by_cases hl : (S.q (portV f 22)).length < 8
      · rw [if_pos ⟨rfl, hl⟩, decide_eq_true hl, Bool.true_and]
        exact (arrive_kept hn f hf hm hp hl).mono fun e w' ⟨g, v, g', gb, g''⟩ => ⟨g, ⟨mb, _, sv, g', fun k hk => (foot_upd gb hk).imp (hF k) id⟩, g''.mono fun k _ e => hF k (e.elim (fun e => .inr (.inl e)) fun e => .inr (.inr (.inr ⟨_, e⟩)))⟩
      · rw [if_neg (fun g => hl g.2), decide_eq_false hl, Bool.and_false]
        exact (arrive_full hn f hf hm hp (by omega) g0 g1).mono fun e w' ⟨g, g', g''⟩ => ⟨g, ⟨mb, V, sv, g', fun k hk => .inl (hF k hk)⟩, g''.mono fun k _ e => hF k (.inl e)⟩
/-! ### Pop -/
def popS (S : NicS) (x : Int) : NicS := match S.q x with | [] => S | _ :: r => qSet S x r
/-- What is left of a queue is stored. -/
theorem popped {w : World} {nb mb : Nat} {V : Int → Value} {sv : Value} {S : NicS} (h : Nc w nb mb V sv S) (x : Int) (h0 : 0 ≤ x) (h1 : x < 65536) {f : ByteArray} {r : List ByteArray} (hq : S.q x = f :: r) (a : Option Addr) (cap : Nat) (hv : V x = .slice a (r.length + 1) cap) :
    ∃ w', (Instr.mapUpdate 46 (.map (some mb)) (.int .u16 x) (sliced a 1 (r.length + 1) (r.length + 1) 1)).run Try.prog w.drew = .ok () w' ∧ Nc w' nb mb (updQ V x (sliced a 1 (r.length + 1) (r.length + 1) 1)) sv (qSet S x r) ∧ Mod (fun k => k = mb) w w' := by
  have hr := h.rows x
  rw [hq, hv] at hr
  obtain ⟨p1, p2⟩ := SlV.pop hr
  have hsm := h.small x
  rw [hq, List.length_cons] at hsm
  have hel : ∃ d, slcElem (sliced a 1 (r.length + 1) (r.length + 1) 1) = some (d, []) := by
    rcases hr.2 with ⟨h0, _⟩ | ⟨g, off, cap, cur, hv', _⟩
    · simp at h0
    · simp only [Value.slice.injEq] at hv'
      obtain ⟨rfl, _, _⟩ := hv'
      unfold sliced
      split
      · exact ⟨_, rfl⟩
      · exact ⟨_, rfl⟩
  obtain ⟨w', hrun, hn, hm⟩ := h.store x h0 h1 (w1 := w.drew) (Mod.refl _ _).drew (sliced a 1 (r.length + 1) (r.length + 1) 1) r (p1.keep fun _ _ => rfl) hel (.inl (p2.trans (by rw [hv]))) (fun k hk => h.lt k (.inr (.inr (.inr ⟨x, by rw [hv]; exact p2 ▸ hk⟩)))) (by omega)
  exact ⟨w', hrun, hn, (Mod.refl _ _).drew.same hm⟩
theorem pop_none {w : World} {nb mb : Nat} {V : Int → Value} {sv : Value} {S : NicS} (h : Nc w nb mb V sv S) (x : Int) (h0 : 0 ≤ x) (h1 : x < 65536) (hq : S.q x = []) :
    Calls Try.prog 11 #[.pointer (some ⟨nb, 0, none⟩), .int .u16 x] w fun e w' => e = .returned (.tuple #[.string ByteArray.empty, .bool false]) ∧ w = w' := by
  have hn : ∀ w, Nc w nb mb V sv S → Calls Try.prog 15 #[.pointer (some ⟨nb, 0, none⟩), .int .u16 x] w fun e w' => e = .returned (.tuple #[.string ByteArray.empty, .bool false]) ∧ w = w' := fun w h => by
    have := next h x h0 h1
    unfold nextS nextB at this
    rw [hq] at this
    exact this
  have H := Lib.hid h
  clear h hq
  go_enter Try.func11, Try.ntmps11
  go_wp2_with (go_at_call 15; (with_reducible refine (hn _ H.out).mono ?_); rintro e w1 ⟨rfl, rfl⟩)
  go_ret2
  exact ⟨rfl, rfl⟩
theorem rows_cap {w : World} {nb mb : Nat} {V : Int → Value} {sv : Value} {S : NicS} (h : Nc w nb mb V sv S) {x : Int} {f : ByteArray} {r : List ByteArray} (hq : S.q x = f :: r) : ∃ g off cap, V x = .slice (some ⟨g, off, none⟩) (r.length + 1) cap ∧ r.length + 1 ≤ cap := by
  have hr := h.rows x
  rw [hq] at hr
  rcases hr.2 with ⟨h0, _⟩ | ⟨g, off, cap, cur, hv, hg, hc, _⟩
  · simp at h0
  · exact ⟨g, off, cap, hv, hc⟩
set_option maxRecDepth 100000 in
theorem pop_one {w : World} {nb mb : Nat} {V : Int → Value} {sv : Value} {S : NicS} (h : Nc w nb mb V sv S) (x : Int) (h0 : 0 ≤ x) (h1 : x < 65536) {f : ByteArray} (hq : S.q x = f :: []) :
    Calls Try.prog 11 #[.pointer (some ⟨nb, 0, none⟩), .int .u16 x] w fun e w' => e = .returned (.tuple #[.string f, .bool true]) ∧ ∃ v, Nc w' nb mb (updQ V x v) sv (qSet S x []) ∧ v.ownBlock = (V x).ownBlock ∧ Mod (fun k => k = mb) w w' := by
  have hn : ∀ w, Nc w nb mb V sv S → Calls Try.prog 15 #[.pointer (some ⟨nb, 0, none⟩), .int .u16 x] w fun e w' => e = .returned (.tuple #[.string f, .bool true]) ∧ w = w' := fun w h => by
    have := next h x h0 h1
    unfold nextS nextB at this
    rw [hq] at this
    exact this
  have H := Lib.hid h
  have Hn := Lib.hid hn
  obtain ⟨g, off, cap, hv, hcap⟩ := rows_cap h hq
  have hlk := h.look x h0 h1
  rw [hv] at hlk
  have hc := h.cellMap
  have hsm := h.small x
  rw [hq] at hsm
  obtain ⟨w2, hst, hn2, hm2⟩ := popped h x h0 h1 hq _ cap hv
  have hrr := h.rows x
  rw [hq, hv] at hrr
  have Hp := Lib.hid (SlV.pop hrr).2
  have Hv := Lib.hid hv
  have Hn2 := Lib.hid hn2
  have Hm2 := Lib.hid hm2
  have hcw : w2.cell? ⟨nb, 0, none⟩ = some (.map (some mb)) := by rw [World.cell?_of_block (w := w) (hm2.block nb (h.lt nb (.inl rfl)) h.nm)]; exact hc
  simp only [List.length_cons, List.length_nil] at hsm hcap hlk hst
  clear h hq hn hrr hn2 hm2 hv
  have i1 : (1 : Int) ≤ (cap : Int) := by omega
  have hsl : sliced (some ⟨g, off, none⟩) 1 (0 + 1) (0 + 1) 1 = .slice (some ⟨g, off, none⟩) 0 0 := by simp [sliced]
  rw [hsl] at hst
  go_enter Try.func11, Try.ntmps11
  go_wp2_with (go_at_call 15; (with_reducible refine (Hn.out _ H.out).mono ?_); rintro e w1 ⟨rfl, rfl⟩)
  go_region
  all_goals go_wp2
  all_goals go_ret2
  all_goals exact ⟨rfl, _, Hn2.out, Hp.out.trans (by rw [Hv.out]), Hm2.out⟩
set_option maxRecDepth 100000 in
theorem pop_more {w : World} {nb mb : Nat} {V : Int → Value} {sv : Value} {S : NicS} (h : Nc w nb mb V sv S) (x : Int) (h0 : 0 ≤ x) (h1 : x < 65536) {f f2 : ByteArray} {r : List ByteArray} (hq : S.q x = f :: f2 :: r) :
    Calls Try.prog 11 #[.pointer (some ⟨nb, 0, none⟩), .int .u16 x] w fun e w' => e = .returned (.tuple #[.string f, .bool true]) ∧ ∃ v, Nc w' nb mb (updQ V x v) sv (qSet S x (f2 :: r)) ∧ v.ownBlock = (V x).ownBlock ∧ Mod (fun k => k = mb) w w' := by
  have hn : ∀ w, Nc w nb mb V sv S → Calls Try.prog 15 #[.pointer (some ⟨nb, 0, none⟩), .int .u16 x] w fun e w' => e = .returned (.tuple #[.string f, .bool true]) ∧ w = w' := fun w h => by
    have := next h x h0 h1
    unfold nextS nextB at this
    rw [hq] at this
    exact this
  have H := Lib.hid h
  have Hn := Lib.hid hn
  obtain ⟨g, off, cap, hv, hcap⟩ := rows_cap h hq
  have hlk := h.look x h0 h1
  rw [hv] at hlk
  have hc := h.cellMap
  have hsm := h.small x
  rw [hq] at hsm
  obtain ⟨w2, hst, hn2, hm2⟩ := popped h x h0 h1 hq _ cap hv
  have hrr := h.rows x
  rw [hq, hv] at hrr
  have Hp := Lib.hid (SlV.pop hrr).2
  have Hv := Lib.hid hv
  have Hn2 := Lib.hid hn2
  have Hm2 := Lib.hid hm2
  have hcw : w2.cell? ⟨nb, 0, none⟩ = some (.map (some mb)) := by rw [World.cell?_of_block (w := w) (hm2.block nb (h.lt nb (.inl rfl)) h.nm)]; exact hc
  simp only [List.length_cons, List.length_nil] at hsm hcap hlk hst
  clear h hq hn hrr hn2 hm2 hv
  generalize hrl : r.length = m at *
  have Hrl := Lib.hid hrl
  clear hrl
  have i1 : (m : Int) + 1 + 1 ≤ (cap : Int) := by omega
  have i2 : (0 : Int) ≤ (m : Int) + 1 + 1 := by omega
  have i3 : (1 : Int) ≤ (m : Int) + 1 + 1 := by omega
  have hsl : sliced (some ⟨g, off, none⟩) 1 (m + 1 + 1) (m + 1 + 1) 1 = .slice (some ⟨g, off + 1, none⟩) (m + 1) (m + 1) := by simp [sliced, Addr.add]
  rw [hsl] at hst
  go_enter Try.func11, Try.ntmps11
  go_wp2_with (go_at_call 15; (with_reducible refine (Hn.out _ H.out).mono ?_); rintro e w1 ⟨rfl, rfl⟩)
  go_region
  all_goals go_wp2
  all_goals go_ret2
  all_goals exact ⟨rfl, _, Hn2.out, Hp.out.trans (by rw [Hv.out]), Hm2.out⟩
theorem pop {w : World} {F : Nat → Prop} {nb : Nat} {S : NicS} (h : NicO w F nb S) (x : Int) (h0 : 0 ≤ x) (h1 : x < 65536) :
    Calls Try.prog 11 #[.pointer (some ⟨nb, 0, none⟩), .int .u16 x] w fun e w' => e = .returned (.tuple #[.string (nextS S x), .bool (nextB S x)]) ∧ NicO w' F nb (popS S x) ∧ Mod F w w' := by
  obtain ⟨mb, V, sv, hn, hF⟩ := h
  unfold nextS nextB popS
  have fin : ∀ {w' : World} {v : Value} {r : List ByteArray}, Nc w' nb mb (updQ V x v) sv (qSet S x r) → v.ownBlock = (V x).ownBlock → Mod (fun k => k = mb) w w' → NicO w' F nb (qSet S x r) ∧ Mod F w w' := fun g gb gm =>
    ⟨⟨mb, _, sv, g, fun k hk => by
      rcases hk with rfl | rfl | g | ⟨y, g⟩
      · exact hF _ (.inl rfl)
      · exact hF _ (.inr (.inl rfl))
      · exact hF _ (.inr (.inr (.inl g)))
      · by_cases e : y = x
        · subst e; rw [updQ_same, gb] at g; exact hF _ (.inr (.inr (.inr ⟨y, g⟩)))
        · rw [updQ_other _ _ _ e] at g; exact hF _ (.inr (.inr (.inr ⟨y, g⟩)))⟩, gm.mono fun k _ e => hF k (.inr (.inl e))⟩
  cases hq : S.q x with
  | nil => exact (pop_none hn x h0 h1 hq).mono fun e w' ⟨g, g'⟩ => ⟨g, g' ▸ ⟨mb, V, sv, hn, hF⟩, g' ▸ Mod.refl _ _⟩
  | cons f r =>
    cases r with
    | nil => exact (pop_one hn x h0 h1 hq).mono fun e w' ⟨g, v, g1, g2, g3⟩ => ⟨g, fin g1 g2 g3⟩
    | cons f2 r => exact (pop_more hn x h0 h1 hq).mono fun e w' ⟨g, v, g1, g2, g3⟩ => ⟨g, fin g1 g2 g3⟩
def loseE (S : NicS) (x : Int) : Int := match S.q x with | [] => 3 | _ :: _ => 0
theorem lose {w : World} {F : Nat → Prop} {nb : Nat} {S : NicS} (h : NicO w F nb S) (x : Int) (h0 : 0 ≤ x) (h1 : x < 65536) :
    Calls Try.prog 13 #[.pointer (some ⟨nb, 0, none⟩), .int .u16 x] w fun e w' => e = .returned (.int .i64 (loseE S x)) ∧ NicO w' F nb (popS S x) ∧ Mod F w w' := by
  have hp := fun w (h : NicO w F nb S) => pop h x h0 h1
  have hE : loseE S x = if nextB S x = true then 0 else 3 := by unfold loseE nextB; cases S.q x <;> rfl
  rw [hE]
  have H := Lib.hid h
  clear h hE
  cases hb : nextB S x with
  | true =>
    rw [hb] at hp
    go_enter Try.func13, Try.ntmps13
    go_wp2_with (go_at_call 11; (with_reducible refine (hp _ H.out).mono ?_); rintro e w1 ⟨rfl, hr⟩)
    go_ret
    exact ⟨rfl, by assumption⟩
  | false =>
    rw [hb] at hp
    go_enter Try.func13, Try.ntmps13
    go_wp2_with (go_at_call 11; (with_reducible refine (hp _ H.out).mono ?_); rintro e w1 ⟨rfl, hr⟩)
    go_ret
    exact ⟨rfl, by assumption⟩
end Go.Proofs.Ytkjpffihmcjjpaa.Ni
