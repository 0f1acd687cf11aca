/- SchB, SchN, SchNil in one text. -/
import Derived.Test.YthgddpgifdhnjaaGreatSnSchS
namespace Go.Proofs.YthgddpgifdhnjaaGreat
open Go.RowKit
set_option linter.unusedVariables false
set_option linter.unusedSimpArgs false
theorem Lp.laid_len {n : Nat} (h0 : 1 ≤ n) (h8 : n ≤ 8) : (laid n).length ≤ 1 := by
  have : n = 1 ∨ n = 2 ∨ n = 3 ∨ n = 4 ∨ n = 5 ∨ n = 6 ∨ n = 7 ∨ n = 8 := by omega
  rcases this with rfl | rfl | rfl | rfl | rfl | rfl | rfl | rfl <;> decide +kernel
structure Bg (w0 w : World) (xb kb cb mb sb sl : Nat) (gs : List Gz) (m : Nat) (wt : Nat → Nat) (S : Nat → Slt) (lv : Value) (L : List Ent) (A : Nat → EAt) (E : Nat → En) (tag : Nat → Nat) : Prop where
  rg : Rg w xb kb sb sl S (.slice none 0 0) 0 lv L A E tag
  len : L.length = m
  ker : KerC w kb cb
  cz : Cz w cb mb 40 gs
  glen : gs.length = m
  gsum : Cz.sumZ gs = m
  sl1 : ∀ i, 1 ≤ i → i ≤ m → (S i).is = true
  sl2 : ∀ i, m < i → i ≤ 8 → S i = ⟨false, 0, none⟩
  tk : tag kb = 103
  tc : ∀ k, Cz.wf cb mb gs k → tag k = 104
  low : ∀ k, tag k ≠ 0 → w0.heap.size ≤ k
  bel : Below w0.heap.size w0 w
  pass : ∀ (i : Nat) (x : Ent), L[i]? = some x → x.wt = wt i ∧ x.pass = 0 ∧ x.used = 0
namespace Bg
variable {w0 w w' : World} {xb kb cb mb sb sl : Nat} {gs : List Gz} {m : Nat} {wt : Nat → Nat} {S : Nat → Slt} {lv : Value} {L : List Ent} {A : Nat → EAt} {E : Nat → En} {tag : Nat → Nat}
theorem below (h : Bg w0 w xb kb cb mb sb sl gs m wt S lv L A E tag) (hb : Below w.heap.size w w') : Bg w0 w' xb kb cb mb sb sl gs m wt S lv L A E tag :=
  ⟨h.rg.below hb, h.len, h.ker.mod (Mod.of_below hb fun _ => False) id, h.cz.below hb, h.glen, h.gsum, h.sl1, h.sl2, h.tk, h.tc, h.low, h.bel.trans (hb.mono h.bel.size), h.pass⟩
theorem step (h : Bg w0 w xb kb cb mb sb sl gs m wt S lv L A E tag) (m7 : m ≤ 7) (hw1 : 1 ≤ wt m) (hw16 : wt m ≤ 16) {w3 w4 w5 : World} {gb eb : Nat} {a : EAt} {C : List Pg} {lv' : Value}
    (hx3 : Ex w3 xb kb (Ex.upd S (m + 1) ⟨true, 1, none⟩) (.slice none 0 0)) (hc3 : Cz w3 cb mb 40 (gs ++ [⟨gb, 0, false, 1⟩])) (hm3 : Mod (fun k => k = mb ∨ k = xb) w w3) (hg1 : w.heap.size ≤ gb) (hg2 : gb < w3.heap.size)
    (hx4 : Ex w4 xb kb (Ex.upd (Ex.upd S (m + 1) ⟨true, 1, none⟩) (m + 1) { Ex.upd S (m + 1) ⟨true, 1, none⟩ (m + 1) with env := some a.eb }) (.slice none 0 0)) (he4 : Env w4 a (En.new ((m + 1 : Nat) : Int) 256 C)) (hco : cores C = cores (Lp.laid (m + 1))) (hf4 : ∀ k, a.foot C k → w3.heap.size ≤ k) (hm4 : Mod (fun k => k = xb) w3 w4)
    (hs5 : Sh w5 sb xb sl 0 lv' (L ++ [⟨eb, m + 1, wt m, 0, 0⟩])) (hm5 : Mod (fun k => k = sb ∨ lv.ownBlock = some k) w4 w5) (he5 : w4.heap.size ≤ eb) (hl5 : lv'.ownBlock = lv.ownBlock ∨ ∃ k, lv'.ownBlock = some k ∧ w4.heap.size ≤ k) :
    ∃ gs' S' L' A' E' tag', Bg w0 w5 xb kb cb mb sb sl gs' (m + 1) wt S' lv' L' A' E' tag' := by
  have z3 := hm3.size
  have z4 := hm4.size
  have z5 := hm5.size
  have hlt := h.rg.lt
  have tmb := h.tc mb (.inr (.inl rfl))
  have hebl : eb < w5.heap.size := lt_of_block (hs5.ent _ (List.mem_append_right _ (List.mem_singleton.2 rfl)))
  have hfl : ∀ k, a.foot C k → k < w4.heap.size := fun k hk => he4.lt k hk
  have hg5 : ∀ k, lv'.ownBlock = some k → k < w5.heap.size := fun k hk => (World.ownsRow.lt hs5.row k hk).2
  have hlo : ∀ k, lv.ownBlock = some k → k < w.heap.size := fun k hk => (World.ownsRow.lt h.rg.sh.row k hk).2
  have hne : ∀ k, lv'.ownBlock = some k → k ≠ eb := fun k hk e => by
    subst e
    have h1 := hs5.ent _ (List.mem_append_right _ (List.mem_singleton.2 rfl))
    rcases hs5.row.2 with ⟨rfl, _⟩ | ⟨g, cap, cur, rfl, _, hg, _⟩
    · cases hk
    · cases hk
      rw [hg] at h1
      cases h1
  obtain ⟨T, T1, T2, T3, T4, T5, T6⟩ : ∃ T : Nat → Nat, (∀ k, k < w.heap.size → T k = tag k) ∧ T gb = 104 ∧ (∀ k, a.foot C k → T k = m + 1) ∧ T eb = 200 + m ∧ (∀ k, lv'.ownBlock = some k → T k = 102) ∧ (∀ k, T k ≠ 0 → (k < w.heap.size ∧ tag k ≠ 0) ∨ (w.heap.size ≤ k ∧ k < w5.heap.size)) := by
    classical
    refine ⟨fun k => if k < w.heap.size then tag k else if k < w3.heap.size then (if k = gb then 104 else 0) else if k < w4.heap.size then (if a.foot C k then m + 1 else 0) else if k = eb then 200 + m else if lv'.ownBlock = some k then 102 else 0, fun k hk => if_pos hk, ?_, fun k hk => ?_, ?_, fun k hk => ?_, fun k hk => ?_⟩
    · show (if gb < w.heap.size then _ else _) = _
      rw [if_neg (by omega), if_pos hg2, if_pos rfl]
    · have h1 := hf4 k hk
      have h2 := hfl k hk
      show (if k < w.heap.size then _ else _) = _
      rw [if_neg (by omega), if_neg (by omega), if_pos h2, if_pos hk]
    · show (if eb < w.heap.size then _ else _) = _
      rw [if_neg (by omega), if_neg (by omega), if_neg (by omega), if_pos rfl]
    · show (if k < w.heap.size then _ else _) = _
      rcases hl5 with e | ⟨j, e, hj⟩
      · rw [e] at hk
        rw [if_pos (hlo k hk)]
        exact h.rg.tl k hk
      · rw [hk] at e
        cases e
        rw [if_neg (by omega), if_neg (by omega), if_neg (by omega), if_neg (hne k hk), if_pos hk]
    · have hk : (if k < w.heap.size then tag k else if k < w3.heap.size then (if k = gb then 104 else 0) else if k < w4.heap.size then (if a.foot C k then m + 1 else 0) else if k = eb then 200 + m else if lv'.ownBlock = some k then 102 else 0) ≠ 0 := hk
      by_cases q : k < w.heap.size
      · rw [if_pos q] at hk
        exact .inl ⟨q, hk⟩
      · refine .inr ⟨by omega, ?_⟩
        rw [if_neg q] at hk
        by_cases q3 : k < w3.heap.size
        · omega
        · rw [if_neg q3] at hk
          by_cases q4 : k < w4.heap.size
          · omega
          · rw [if_neg q4] at hk
            by_cases q5 : k = eb
            · omega
            · rw [if_neg q5] at hk
              by_cases q6 : lv'.ownBlock = some k
              · exact hg5 k q6
              · rw [if_neg q6] at hk
                exact absurd rfl hk
  -- what stays from the beginning to the end
  have hfix : ∀ k, k < w.heap.size → tag k ≠ 100 → tag k ≠ 101 → tag k ≠ 102 → k ≠ mb → w5.heap[k]? = w.heap[k]? := fun k hk h1 h2 h3 h4 => by
    refine (hm5.block k (by omega) fun q => ?_).trans ((hm4.block k (by omega) fun q => ?_).trans (hm3.block k hk fun q => ?_))
    · rcases q with rfl | q
      · exact h2 h.rg.ts
      · exact h3 (h.rg.tl k q)
    · exact h1 (q ▸ h.rg.tx)
    · rcases q with q | q
      · exact h4 q
      · exact h1 (q ▸ h.rg.tx)
  have hnt : ∀ k, tag k ≠ 0 → k < w.heap.size := hlt
  have h8 := h.rg.l8
  have hlen := h.len
  refine ⟨gs ++ [⟨gb, 0, false, 1⟩], Ex.upd (Ex.upd S (m + 1) ⟨true, 1, none⟩) (m + 1) { Ex.upd S (m + 1) ⟨true, 1, none⟩ (m + 1) with env := some a.eb }, L ++ [⟨eb, m + 1, wt m, 0, 0⟩], (fun i => if i = m then a else A i), (fun i => if i = m then En.new ((m + 1 : Nat) : Int) 256 C else E i), T, ?_⟩
  have hS : ∀ i, Ex.upd (Ex.upd S (m + 1) ⟨true, 1, none⟩) (m + 1) { Ex.upd S (m + 1) ⟨true, 1, none⟩ (m + 1) with env := some a.eb } i = if i = m + 1 then ⟨true, 1, some a.eb⟩ else S i := fun i => by
    unfold Ex.upd
    by_cases e : i = m + 1
    · rw [if_pos e, if_pos e]; simp
    · rw [if_neg e, if_neg e, if_neg e]
  have hxs : xb ≠ sb := fun e => by have := h.rg.tx; rw [e, h.rg.ts] at this; omega
  have hxl : lv.ownBlock ≠ some xb := fun e => by have := h.rg.tl xb e; rw [h.rg.tx] at this; omega
  exact {
    rg := {
      ex := hx4.mod hm5 fun q => by
        rcases q with q | q
        · exact hxs q
        · exact hxl q
      sh := hs5
      en := fun i hi => by
        rw [hS]
        by_cases e : i = m
        · subst e
          rw [if_pos rfl]
          simp only [if_pos]
          refine ⟨trivial, trivial, he4.keep hm5 fun k hk q => ?_, ⟨rfl, (Lp.laid_pages (by omega) (by omega)).of hco, 0, by omega, rfl⟩⟩
          have hk2 := hf4 k hk
          rcases q with q | q
          · have := h.rg.sh.lt (k := sb) (.inl rfl); omega
          · have := hlo k q; omega
        · have hi' : i < L.length := by simp at hi; omega
          obtain ⟨e1, e2, e3, e4⟩ := h.rg.en i hi'
          rw [if_neg (by omega)]
          simp only [if_neg e]
          refine ⟨e1, e2, e3.frame (fun k hk => ?_) (by omega), e4⟩
          have ht := h.rg.te i hi' k hk
          exact hfix k (e3.lt k hk) (by omega) (by omega) (by omega) fun q => by rw [q, tmb] at ht; omega
      num := fun i x hx => by
        by_cases e : i < L.length
        · rw [List.getElem?_append_left e] at hx
          obtain ⟨n1, n2, n3⟩ := h.rg.num i x hx
          exact ⟨n1, by rw [T1 _ (hnt _ (by rw [n2]; omega))]; exact n2, n3⟩
        · rw [List.getElem?_append_right (by omega)] at hx
          obtain ⟨hi0, hx⟩ : i - L.length = 0 ∧ _ := by
            cases hq : i - L.length with
            | zero => rw [hq] at hx; exact ⟨rfl, hx⟩
            | succ j => rw [hq] at hx; simp at hx
          simp at hx
          subst hx
          have him : i = m := by omega
          subst him
          exact ⟨rfl, T4, hw1, hw16⟩
      tx := by rw [T1 _ (hnt _ (by rw [h.rg.tx]; omega))]; exact h.rg.tx
      ts := by rw [T1 _ (hnt _ (by rw [h.rg.ts]; omega))]; exact h.rg.ts
      tl := T5
      te := fun i hi k hk => by
        by_cases e : i = m
        · subst e
          simp only [if_pos] at hk
          exact T3 k hk
        · have hi' : i < L.length := by simp at hi; omega
          simp only [if_neg e] at hk
          have ht := h.rg.te i hi' k hk
          rw [T1 k (hnt k (by omega))]
          exact ht
      l8 := by simp; omega
      s1 := h.rg.s1
      s2 := h.rg.s2
      lt := fun k hk => by rcases T6 k hk with q | q <;> omega }
    len := by simp [hlen]
    ker := by
      obtain ⟨c, hk, hc⟩ := h.ker
      have hl := lt_of_block hk
      exact ⟨c, (hfix kb hl (by rw [h.tk]; omega) (by rw [h.tk]; omega) (by rw [h.tk]; omega) (fun q => by have := h.tk; rw [q, tmb] at this; omega)).trans hk, hc⟩
    cz := by
      have hc4 := hc3.mod hm4 fun k hk q => by
        rcases hk with rfl | rfl | ⟨g, hg, rfl⟩
        · have := h.tc k (.inl rfl); rw [q, h.rg.tx] at this; omega
        · rw [q, h.rg.tx] at tmb; omega
        · rcases List.mem_append.1 hg with hg | hg
          · have := h.tc g.gb (.inr (.inr ⟨g, hg, rfl⟩)); rw [q, h.rg.tx] at this; omega
          · simp at hg
            subst hg
            have := hnt xb (by rw [h.rg.tx]; omega)
            have q : gb = xb := q
            omega
      refine hc4.mod hm5 fun k hk q => ?_
      have hk' : k < w.heap.size ∧ tag k = 104 ∨ k = gb := by
        rcases hk with rfl | rfl | ⟨g, hg, rfl⟩
        · exact .inl ⟨h.cz.lt (.inl rfl), h.tc k (.inl rfl)⟩
        · exact .inl ⟨h.cz.lt (.inr (.inl rfl)), tmb⟩
        · rcases List.mem_append.1 hg with hg | hg
          · exact .inl ⟨h.cz.lt (.inr (.inr ⟨g, hg, rfl⟩)), h.tc g.gb (.inr (.inr ⟨g, hg, rfl⟩))⟩
          · simp at hg
            subst hg
            exact .inr rfl
      rcases q with q | q
      · rcases hk' with ⟨k1, k2⟩ | k1
        · rw [q, h.rg.ts] at k2; omega
        · have := h.rg.sh.lt (k := sb) (.inl rfl); omega
      · rcases hk' with ⟨k1, k2⟩ | k1
        · rw [h.rg.tl k q] at k2; omega
        · have := hlo k q; omega
    glen := by simp [h.glen]
    gsum := by rw [Cz.sumZ_snoc, h.gsum]; simp
    sl1 := fun i i1 i2 => by
      rw [hS]
      by_cases e : i = m + 1
      · rw [if_pos e]
      · rw [if_neg e]; exact h.sl1 i i1 (by omega)
    sl2 := fun i i1 i2 => by rw [hS, if_neg (by omega)]; exact h.sl2 i (by omega) i2
    tk := by rw [T1 _ (hnt _ (by rw [h.tk]; omega))]; exact h.tk
    tc := fun k hk => by
      rcases hk with rfl | rfl | ⟨g, hg, rfl⟩
      · have := h.tc k (.inl rfl); rw [T1 _ (hnt _ (by omega))]; exact this
      · rw [T1 _ (hnt _ (by omega))]; exact tmb
      · rcases List.mem_append.1 hg with hg | hg
        · have := h.tc g.gb (.inr (.inr ⟨g, hg, rfl⟩)); rw [T1 _ (hnt _ (by omega))]; exact this
        · simp at hg
          subst hg
          exact T2
    low := fun k hk => by
      have hbz := h.bel.size
      rcases T6 k hk with ⟨q1, q2⟩ | q
      · exact h.low k q2
      · omega
    bel := by
      refine h.bel.trans ⟨hm5.os.trans (hm4.os.trans hm3.os), hm5.tape.trans (hm4.tape.trans hm3.tape), hm5.output.trans (hm4.output.trans hm3.output), by have := h.bel.size; omega, fun k hk => ?_⟩
      have hbz := h.bel.size
      have ht0 : tag k = 0 := by
        by_cases q : tag k = 0
        · exact q
        · have := h.low k q; omega
      refine hfix k (by omega) (by omega) (by omega) (by omega) fun q => by rw [q, tmb] at ht0; omega
    pass := fun i x hx => by
      by_cases e : i < L.length
      · rw [List.getElem?_append_left e] at hx
        exact h.pass i x hx
      · rw [List.getElem?_append_right (by omega)] at hx
        obtain ⟨hi0, hx⟩ : i - L.length = 0 ∧ _ := by
          cases hq : i - L.length with
          | zero => rw [hq] at hx; exact ⟨rfl, hx⟩
          | succ j => rw [hq] at hx; simp at hx
        simp at hx
        subst hx
        have him : i = m := by omega
        subst him
        exact ⟨rfl, rfl, rfl⟩ }
theorem zero {w0 w : World} {xb sb sl : Nat} {a : KAt} {wt : Nat → Nat} (hx : Ex w xb a.kb Ex.S0 (.slice none 0 0)) (hk : Knl w a (Kn.new 40 [])) (hs : Sh w sb xb sl 0 (.slice none 0 0) []) (h1 : a.tag xb = 0) (h2 : ∀ k, a.tag k ≠ 0 → w0.heap.size ≤ k) (h3 : w0.heap.size ≤ xb) (h4 : a.tag sb = 0) (h5 : sb ≠ xb) (h6 : w0.heap.size ≤ sb) (hb : Below w0.heap.size w0 w) (s1 : 1 ≤ sl) (s2 : sl ≤ 1024) :
    ∃ tag, Bg w0 w xb a.kb a.c.cb a.c.mb sb sl [] 0 wt Ex.S0 (.slice none 0 0) [] (fun _ => ⟨0, 0, 0, 0, .slice none 0 0⟩) (fun _ => En.new 0 0 []) tag := by
  have tcb := hk.t2 a.c.cb (.inl rfl)
  have tmb := hk.t2 a.c.mb (.inr (.inl rfl))
  have tkb := hk.t1
  obtain ⟨T, hT⟩ : ∃ T : Nat → Nat, T = fun k => if k = xb then 100 else if k = sb then 101 else if k = a.kb then 103 else if k = a.c.cb ∨ k = a.c.mb then 104 else 0 := ⟨_, rfl⟩
  have e1 : T xb = 100 := by rw [hT]; exact if_pos rfl
  have e2 : T sb = 101 := by rw [hT]; show (if sb = xb then _ else _) = _; rw [if_neg h5, if_pos rfl]
  have e3 : T a.kb = 103 := by rw [hT]; show (if a.kb = xb then _ else _) = _; rw [if_neg (fun e => by rw [e, h1] at tkb; omega), if_neg (fun e => by rw [e, h4] at tkb; omega), if_pos rfl]
  have e4 : ∀ k, k = a.c.cb ∨ k = a.c.mb → T k = 104 := fun k hk' => by
    have ht : a.tag k = 2 := by rcases hk' with rfl | rfl; exact tcb; exact tmb
    rw [hT]
    show (if k = xb then _ else _) = _
    rw [if_neg (fun e => by rw [e, h1] at ht; omega), if_neg (fun e => by rw [e, h4] at ht; omega), if_neg (fun e => by rw [e, tkb] at ht; omega), if_pos hk']
  have e5 : ∀ k, T k ≠ 0 → w0.heap.size ≤ k ∧ k < w.heap.size := fun k hk' => by
    rw [hT] at hk'
    have hk' : (if k = xb then 100 else if k = sb then 101 else if k = a.kb then 103 else if k = a.c.cb ∨ k = a.c.mb then 104 else 0) ≠ 0 := hk'
    by_cases q1 : k = xb
    · subst q1; exact ⟨h3, lt_of_block hx.blk⟩
    · rw [if_neg q1] at hk'
      by_cases q2 : k = sb
      · subst q2; exact ⟨h6, lt_of_block hs.blk⟩
      · rw [if_neg q2] at hk'
        by_cases q3 : k = a.kb
        · subst q3; exact ⟨h2 _ (by rw [tkb]; omega), hk.lt _ (by rw [tkb]; omega)⟩
        · rw [if_neg q3] at hk'
          by_cases q4 : k = a.c.cb ∨ k = a.c.mb
          · have ht : a.tag k = 2 := by rcases q4 with rfl | rfl; exact tcb; exact tmb
            exact ⟨h2 _ (by rw [ht]; omega), hk.lt _ (by rw [ht]; omega)⟩
          · rw [if_neg q4] at hk'
            exact absurd rfl hk'
  refine ⟨T, ⟨hx, hs, fun i hi => absurd hi (Nat.not_lt_zero _), fun i x hx => by simp at hx, e1, e2, fun k hk => (by cases hk), fun i hi => absurd hi (Nat.not_lt_zero _), by simp, s1, s2, fun k hk => (e5 k hk).2⟩, rfl, ⟨_, hk.head, rfl⟩, ?_, rfl, rfl, fun i h1 h2 => by omega, fun i _ _ => rfl, e3, fun k hk => ?_, fun k hk => (e5 k hk).1, hb, fun i x hx => by simp at hx⟩
  · obtain ⟨D, n, ho, hv, hs⟩ := hk.caps.map
    have hh := hk.caps.head
    obtain ⟨o, c, hoc⟩ := hk.chx.form
    rw [hoc] at hh
    exact ⟨⟨o, c, hh⟩, ⟨D, n, ho, fun x zd => by
      rw [hv, if_neg (by simp [Kn.new])]
      have hz : Cz.at' [] x = none := by
        unfold Cz.at'
        split
        · exact List.getElem?_nil
        · rfl
      rw [hz], hs⟩, fun g hg => by simp at hg⟩
  · rcases hk with rfl | rfl | ⟨g, hg, _⟩
    · exact e4 _ (.inl rfl)
    · exact e4 _ (.inr rfl)
    · simp at hg
def bgRel (w : World) (xb kb cb mb sb sl n : Nat) (wt : Nat → Nat) (vi : Value) (wr : World) : Prop :=
  ∃ (m : Nat) (gs : List Gz) (S : Nat → Slt) (lv : Value) (L : List Ent) (A : Nat → EAt) (E : Nat → En) (tag : Nat → Nat), m ≤ n ∧ vi = .int .i64 m ∧ Bg w wr xb kb cb mb sb sl gs m wt S lv L A E tag
def BegunP (w : World) (n : Nat) (wt : Nat → Nat) (sl : Nat) (e : Ending) (w' : World) : Prop :=
  ∃ xb kb sb S lv A tag, e = .returned (.tuple #[.pointer (some ⟨xb, 0, none⟩), .pointer (some ⟨sb, 0, none⟩)]) ∧ RgC w' xb kb sb sl n wt S (.slice none 0 0) lv A tag 0 ∧ (∀ k, tag k ≠ 0 → w.heap.size ≤ k) ∧ Below w.heap.size w w'
set_option maxRecDepth 100000 in
set_option maxHeartbeats 8000000 in
theorem begun (w : World) {a : Option Addr} {n c sl : Nat} {wt : Nat → Nat} (hr : Cp.RowN .i64 w a n fun i => wt i) (hw : ∀ i, i < n → 1 ≤ wt i ∧ wt i ≤ 16) (n8 : n ≤ 8) (s1 : 1 ≤ sl) (s2 : sl ≤ 1024) :
    Calls Tryz.prog 9 #[.slice a n c, .int .i64 sl] w (BegunP w n wt sl) := by
  have HFin := Lib.hid fun V xb kb sb S lv A tag (h1 : RgC V xb kb sb sl n wt S (.slice none 0 0) lv A tag 0) (h2 : ∀ k, tag k ≠ 0 → w.heap.size ≤ k) (h3 : Below w.heap.size w V) => (show BegunP w n wt sl (.returned (.tuple #[.pointer (some ⟨xb, 0, none⟩), .pointer (some ⟨sb, 0, none⟩)])) V from ⟨xb, kb, sb, S, lv, A, tag, rfl, h1, h2, h3⟩)
  generalize BegunP w n wt sl = PQ at *
  have HR := Lib.hid hr
  have HW := Lib.hid hw
  clear hr hw
  go_enter Tryz.func9, Tryz.ntmps9
  go_wp2_with fail
  refine (Ex.new w (hp := 40) (by decide) (by decide)).mono ?_
  rintro e w1 ⟨xb, ka, rfl, hx1, hk1, ht1, ht2, hx2, hb1⟩
  go_wp2_with fail
  refine (Sh.new w1 xb sl s1 s2).mono ?_
  rintro e w2 ⟨rfl, hs2, hb2⟩
  have hxl := lt_of_block hx1.blk
  obtain ⟨tag, hbg⟩ := zero (wt := wt) (w0 := w) (hx1.below hb2) (hk1.below hb2) hs2 ht1 ht2 hx2 (by
    by_cases q : ka.tag w1.heap.size = 0
    · exact q
    · exact absurd (hk1.lt _ q) (Nat.lt_irrefl _)) (by omega) hb1.size (below_th hb1 hb2) s1 s2
  obtain ⟨sb, hsb⟩ : ∃ sb, w1.heap.size = sb := ⟨_, rfl⟩
  rw [hsb] at hbg ⊢
  have HR0 : Hid (bgRel w xb ka.kb ka.c.cb ka.c.mb sb sl n wt (.int .i64 0) w2) := Lib.hid ⟨0, _, _, _, _, _, _, _, by omega, rfl, hbg⟩
  clear hx1 hk1 ht1 ht2 hx2 hb1 hs2 hb2 hxl hbg hsb
  go_wp2
  go_loopw [10] (fun vi wr => bgRel w xb ka.kb ka.c.cb ka.c.mb sb sl n wt vi wr) (fun vi _ => n - (intOf vi).toNat)
  case atStart => exact HR0.out
  case round =>
    clear HR0
    obtain ⟨m, gs, S, lv, L, A, E, tag, hm, rfl, hbg⟩ := hrel
    have HBg := Lib.hid hbg
    clear hbg
    by_cases hmn : m < n
    · have hmn' : (m : Int) < n := by omega
      have hm1 : (1 : Int) + m = ((m + 1 : Nat) : Int) := by omega
      have HM1 := Lib.hid hm1
      clear hm1
      go_wp2_with fail
      rw [HM1.out]
      refine (Lp.round _ (m + 1) (by omega) (by omega)).mono ?_
      rintro e w3 ⟨x, rfl, hxo, hxp, hb3⟩
      go_wp2_with fail
      refine (Cp.made w3 x hxo).mono ?_
      rintro e w4 ⟨qc, qs, qm, QA, qd, qr, qlv, QR, rfl, hduo, _, hco⟩
      rw [hxp] at hco
      have hb4 := below_th hb3 hduo.bel
      have HB := Lib.hid (HBg.out.below hb4)
      have HSp := Lib.hid hduo.pair.sp
      have HCo := Lib.hid hco
      have HFt := Lib.hid fun k hk => Nat.le_trans hb3.size (hduo.a0 k hk)
      have HLt := Lib.hid HBg.out.rg.lt
      clear hxo hxp hb3 hduo hco hb4 HBg
      obtain ⟨tmbx, hxbx⟩ : xb ≠ ka.c.mb ∧ ¬ Cz.wf ka.c.cb ka.c.mb gs xb := ⟨fun e => by have := HB.out.tc ka.c.mb (.inr (.inl rfl)); rw [← e, HB.out.rg.tx] at this; omega, fun q => by have := HB.out.tc xb q; rw [HB.out.rg.tx] at this; omega⟩
      have hkm : ka.kb ≠ ka.c.mb := fun e => by have := HB.out.tc ka.c.mb (.inr (.inl rfl)); rw [← e, HB.out.tk] at this; omega
      have HAd := Lib.hid (HB.out.rg.ex.admit HB.out.ker HB.out.cz (n := m + 1) (by rw [HB.out.glen]) (by omega) (fun i i1 i2 => HB.out.sl1 i i1 (by omega)) (by rw [HB.out.sl2 (m + 1) (by omega) (by omega)]) (by rw [HB.out.gsum]; omega) (by decide) tmbx hxbx hkm)
      unfold Cz.man0 at HAd
      clear tmbx hxbx hkm
      go_wp2_with fail
      refine HAd.out.mono ?_
      rintro e w5 ⟨rfl, gb, hx5, hc5, hm5, hg1, hg2⟩
      have H5 := Lib.hid (And.intro hx5 (And.intro hc5 (And.intro hm5 (And.intro hg1 hg2))))
      have hfx : ∀ k, Spc.foot qs qm QA k → k < w4.heap.size := fun k hk => HSp.out.lt hk
      have txb := HB.out.rg.tx
      have tmb := HB.out.tc ka.c.mb (.inr (.inl rfl))
      have hmx : ∀ k, k = ka.c.mb ∨ k = xb → k < wr.heap.size ∧ w.heap.size ≤ k := fun k hk => by
        have ht : tag k ≠ 0 := by rcases hk with rfl | rfl <;> omega
        exact ⟨HLt.out k ht, HB.out.low k ht⟩
      have hsp5 : Spc w5 qs qm QA := HSp.out.frame fun k hk => hm5.block k (hfx k hk) fun q => by have := hmx k q; have := HFt.out k hk; omega
      have hb5 : Below w.heap.size w w5 := Mod.below HB.out.bel hm5 HB.out.bel.size fun k _ q => (hmx k q).2
      have hlen : QA.length ≤ 1 := by rw [Cor.len_eq HCo.out]; exact Lp.laid_len (by omega) (by omega)
      have HSt := Lib.hid (hx5.start (m + 1) (by omega) (by omega) (by unfold Ex.upd; rw [if_pos rfl]) (by unfold Ex.upd; rw [if_pos rfl]) hsp5 (by unfold Ex.upd; rw [if_pos rfl]; show (QA.length : Int) ≤ 1; omega) 256 (by decide) (by decide))
      have HB5 := Lib.hid hb5
      have HMX := Lib.hid hmx
      have HM2 := Lib.hid (show (m : Int) + 1 = ((m + 1 : Nat) : Int) by omega)
      clear hx5 hc5 hm5 hg1 hg2 HAd hfx txb tmb hmx hsp5 hb5 hlen
      rw [← HM2.out]
      go_wp2_with fail
      rw [HM2.out]
      refine HSt.out.mono ?_
      rintro e w6 ⟨aa, C, rfl, hx6, he6, hc6, hf6, hm6⟩
      have hm46 : Mod (fun k => k = ka.c.mb ∨ k = xb) w4 w6 := H5.out.2.2.1.same (hm6.mono fun k _ e => .inr e)
      have hb6 : Below w.heap.size w w6 := Mod.below HB5.out hm6 HB5.out.size fun k _ q => (HMX.out k (.inr q)).2
      have hsh : Sh w6 sb xb sl 0 lv L := HB.out.rg.sh.mod hm46 fun k hk q => by
        have txb := HB.out.rg.tx
        have tmb := HB.out.tc ka.c.mb (.inr (.inl rfl))
        have ht : tag k = 104 ∨ tag k = 100 := by rcases q with rfl | rfl; exact .inl tmb; exact .inr txb
        rcases hk with rfl | hk | ⟨y, hy, rfl⟩
        · rw [HB.out.rg.ts] at ht; omega
        · rw [HB.out.rg.tl k hk] at ht; omega
        · obtain ⟨i, hi⟩ := List.getElem?_of_mem hy
          rw [(HB.out.rg.num i y hi).2.1] at ht; omega
      have hfd : Sh.found L (m + 1) = .pointer none := Sh.found_no fun k y hk hy => by rw [(HB.out.rg.num k y hy).1]; have := HB.out.len; omega
      have hap : lv.ownBlock ≠ some sb ∧ ∀ x, x ∈ L → x.eb ≠ sb ∧ lv.ownBlock ≠ some x.eb := ⟨fun q => by have := HB.out.rg.tl sb q; rw [HB.out.rg.ts] at this; omega, fun y hy => by
        obtain ⟨i, hi⟩ := List.getElem?_of_mem hy
        exact ⟨(HB.out.rg.apart hi).1, (HB.out.rg.apart hi).2.1⟩⟩
      obtain ⟨wt1, wt16⟩ := HW.out m hmn
      have HAdd := Lib.hid (hsh.add (m + 1) (by omega) (by omega) (wt m) wt1 wt16 (by have := HB.out.len; omega) hfd hap)
      obtain ⟨wb, wo, rfl, hwl, hwc⟩ := HR.out (by omega)
      have hwm : w6.cell? ⟨wb, wo + m, none⟩ = some (.int .i64 (wt m)) := (hb6.cell (p := ⟨wb, wo + m, none⟩) hwl).trans (hwc m hmn)
      have H6 := Lib.hid (And.intro hx6 (And.intro he6 (And.intro hc6 (And.intro hf6 hm6))))
      clear hx6 he6 hc6 hf6 hm6 hm46 hb6 hsh hfd hap wt1 wt16 hwl hwc HSt
      rw [← HM2.out]
      go_wp2_with fail
      rw [HM2.out]
      refine HAdd.out.mono ?_
      rintro e w7 ⟨eb, lv', rfl, hs7, hm7, he7, hl7⟩
      obtain ⟨wt1, wt16⟩ := HW.out m hmn
      have hstep := HB.out.step (by omega) wt1 wt16 H5.out.1 H5.out.2.1 H5.out.2.2.1 H5.out.2.2.2.1 H5.out.2.2.2.2 H6.out.1 H6.out.2.1 (H6.out.2.2.1.trans HCo.out) H6.out.2.2.2.1 H6.out.2.2.2.2 hs7 hm7 he7 hl7
      have HSp2 := Lib.hid hstep
      clear hs7 hm7 he7 hl7 wt1 wt16 hstep hwm
      go_wp2
      obtain ⟨gs', S', L', A', E', T', hbg'⟩ := HSp2.out
      exact ⟨⟨m + 1, gs', S', _, L', A', E', T', by omega, by go_num, hbg'⟩, by simp [intOf]; omega⟩
    · obtain rfl : m = n := by omega
      have hmn' : ¬ ((m : Int) < m) := by omega
      go_wp2
      exact HFin.out _ _ _ _ _ _ _ _ ⟨0, L, E, HBg.out.rg, HBg.out.len, fun i y hy => by
        obtain ⟨p1, p2, p3⟩ := HBg.out.pass i y hy
        refine ⟨p1, ?_, ?_⟩
        · rw [p2]
          show (0 : Int) = ((0 * sl * Sc.sd (wt i) : Nat) : Int)
          rw [Nat.zero_mul, Nat.zero_mul]; rfl
        · rw [p3]
          show (0 : Int) = ((0 * sl : Nat) : Int)
          rw [Nat.zero_mul]; rfl⟩ HBg.out.low HBg.out.bel
end Bg
end Go.Proofs.YthgddpgifdhnjaaGreat
namespace Go.Proofs.YthgddpgifdhnjaaGreat
open Go.RowKit
set_option linter.unusedVariables false
set_option linter.unusedSimpArgs false
namespace Sc
def wt2 : Nat → Nat := fun i => if i = 0 then 1 else 2
def want : List Nat := [1, 2, 2, 1, 2, 2, 1, 2, 2]
theorem turn2 {k a b : Nat} (h0 : cs 2 wt2 10 k 0 = a) (h1 : cs 2 wt2 10 k 1 = b) :
    (b * 10 * 360360 < a * 10 * 720720 → who 2 wt2 10 k = 1 ∧ cs 2 wt2 10 (k + 1) 0 = a ∧ cs 2 wt2 10 (k + 1) 1 = b + 1) ∧ (¬ b * 10 * 360360 < a * 10 * 720720 → who 2 wt2 10 k = 0 ∧ cs 2 wt2 10 (k + 1) 0 = a + 1 ∧ cs 2 wt2 10 (k + 1) 1 = b) := by
  have e1 : sd 1 = 720720 := rfl
  have e2 : sd 2 = 360360 := rfl
  have hw : who 2 wt2 10 k = if cs 2 wt2 10 k 1 * 10 * sd 2 < cs 2 wt2 10 k 0 * 10 * sd 1 then 1 else 0 := rfl
  rw [h0, h1, e1, e2] at hw
  rw [cs_succ]
  unfold bump
  refine ⟨fun q => ?_, fun q => ?_⟩
  · rw [if_pos q] at hw
    rw [hw]
    exact ⟨rfl, h0, congrArg (· + 1) h1⟩
  · rw [if_neg q] at hw
    rw [hw]
    exact ⟨rfl, congrArg (· + 1) h0, h1⟩
theorem nine : (∀ i, i < 9 → want[i]? = some (who 2 wt2 10 i + 1)) ∧ cs 2 wt2 10 9 1 = 6 := by
  obtain ⟨w0, a0, b0⟩ := (turn2 (k := 0) rfl rfl).2 (by decide)
  obtain ⟨w1, a1, b1⟩ := (turn2 a0 b0).1 (by decide)
  obtain ⟨w2, a2, b2⟩ := (turn2 a1 b1).1 (by decide)
  obtain ⟨w3, a3, b3⟩ := (turn2 a2 b2).2 (by decide)
  obtain ⟨w4, a4, b4⟩ := (turn2 a3 b3).1 (by decide)
  obtain ⟨w5, a5, b5⟩ := (turn2 a4 b4).1 (by decide)
  obtain ⟨w6, a6, b6⟩ := (turn2 a5 b5).2 (by decide)
  obtain ⟨w7, a7, b7⟩ := (turn2 a6 b6).1 (by decide)
  obtain ⟨w8, a8, b8⟩ := (turn2 a7 b7).1 (by decide)
  refine ⟨fun i hi => ?_, b8⟩
  have : i = 0 ∨ i = 1 ∨ i = 2 ∨ i = 3 ∨ i = 4 ∨ i = 5 ∨ i = 6 ∨ i = 7 ∨ i = 8 := by omega
  rcases this with rfl | rfl | rfl | rfl | rfl | rfl | rfl | rfl | rfl
  · rw [w0]; rfl
  · rw [w1]; rfl
  · rw [w2]; rfl
  · rw [w3]; rfl
  · rw [w4]; rfl
  · rw [w5]; rfl
  · rw [w6]; rfl
  · rw [w7]; rfl
  · rw [w8]; rfl
end Sc
namespace Sh
theorem turn_nil (w : World) : Calls Tryz.prog 10 #[.pointer none] w fun e w' => e = .returned (.tuple #[.agg #[.int .i64 0, .int .i64 0], .bool false, .int .i64 1]) ∧ Below w.heap.size w w' := by
  have hk := heap_alloc_new w (.cells #[.int .i64 0, .int .i64 0] 31)
  have hb := (Below.refl w.heap.size w).alloc (Nat.le_refl _) (.cells #[.int .i64 0, .int .i64 0] 31)
  have HB := Lib.hid hb
  clear hb hk
  go_enter Tryz.func10, Tryz.ntmps10
  go_wp2
  refine bodyPost_ret (v := .tuple #[.agg #[.int .i64 0, .int .i64 0], .bool false, .int .i64 1]) (by simp [results, Tryz.results10, go_sem]) rfl ?_
  exact ⟨rfl, HB.out⟩
theorem run_nil (w : World) (n : Int) : Calls Tryz.prog 12 #[.pointer none, .int .i64 n] w fun e w' => e = .returned (.tuple #[.slice none 0 0, .int .i64 1]) ∧ w = w' := by
  go_enter Tryz.func12, Tryz.ntmps12
  go_wp2
  go_ret2
  exact ⟨rfl, rfl⟩
theorem find_nil (w : World) (n : Int) : Calls Tryz.prog 71 #[.pointer none, .int .i64 n] w fun e w' => e = .returned (.pointer none) ∧ w = w' := by
  go_enter Tryz.func71, Tryz.ntmps71
  go_wp2
  go_ret
  exact ⟨rfl, rfl⟩
theorem pass_nil (w : World) (n : Int) : Calls Tryz.prog 13 #[.pointer none, .int .i64 n] w fun e w' => e = .returned (.tuple #[.int .u64 0, .bool false]) ∧ w = w' := by
  go_enter Tryz.func13, Tryz.ntmps13
  go_wp2_with fail
  refine (find_nil _ _).mono ?_
  rintro e w2 ⟨rfl, rfl⟩
  go_wp2
  go_ret2
  exact ⟨rfl, rfl⟩
theorem used_nil (w : World) (n : Int) : Calls Tryz.prog 14 #[.pointer none, .int .i64 n] w fun e w' => e = .returned (.tuple #[.int .u64 0, .bool false]) ∧ w = w' := by
  go_enter Tryz.func14, Tryz.ntmps14
  go_wp2_with fail
  refine (find_nil _ _).mono ?_
  rintro e w2 ⟨rfl, rfl⟩
  go_wp2
  go_ret2
  exact ⟨rfl, rfl⟩
theorem add_nil (w : World) (n k : Int) : Calls Tryz.prog 15 #[.pointer none, .int .i64 n, .int .i64 k] w fun e w' => e = .returned (.int .i64 1) ∧ w = w' := by
  go_enter Tryz.func15, Tryz.ntmps15
  go_wp2
  go_ret
  exact ⟨rfl, rfl⟩
theorem remove_nil (w : World) (n : Int) : Calls Tryz.prog 16 #[.pointer none, .int .i64 n] w fun e w' => e = .returned (.int .i64 1) ∧ Below w.heap.size w w' := by
  go_enter Tryz.func16, Tryz.ntmps16
  go_wp2
  go_ret
  exact ⟨rfl, (Below.refl _ _).alloc (Nat.le_refl _) _⟩
theorem envs_nil (w : World) : Calls Tryz.prog 17 #[.pointer none] w fun e w' => e = .returned (.slice none 0 0) ∧ w = w' := by
  go_enter Tryz.func17, Tryz.ntmps17
  go_wp2
  go_ret
  exact ⟨rfl, rfl⟩
theorem clock_nil (w : World) : Calls Tryz.prog 18 #[.pointer none] w fun e w' => e = .returned (.int .u64 0) ∧ w = w' := by
  go_enter Tryz.func18, Tryz.ntmps18
  go_wp2
  go_ret
  exact ⟨rfl, rfl⟩
def alRel (w3 : World) (vi : Value) (wr : World) : Prop := ∃ i : Nat, i ≤ 9 ∧ vi = .int .i64 i ∧ Below w3.heap.size w3 wr ∧ wr.heap[w3.heap.size]? = some (.cells #[.int .i64 1, .int .i64 2, .int .i64 2, .int .i64 1, .int .i64 2, .int .i64 2, .int .i64 1, .int .i64 2, .int .i64 2] 3 (0, 0))
set_option maxRecDepth 100000 in
set_option maxHeartbeats 8000000 in
theorem alive37 (w : World) : Calls Tryz.prog 11 #[] w fun e w' => e = .returned (.bool true) ∧ Below w.heap.size w w' := by
  have hk := heap_alloc_new w (.cells #[.int .i64 1, .int .i64 2] 3)
  have hb := (Below.refl w.heap.size w).alloc (Nat.le_refl _) (.cells #[.int .i64 1, .int .i64 2] 3)
  have HBg := Lib.hid (Bg.begun (w.alloc (.cells #[.int .i64 1, .int .i64 2] 3)) (a := some ⟨w.heap.size, 0, none⟩) (n := 2) (c := 2) (sl := 10) (wt := Sc.wt2) (fun _ => ⟨w.heap.size, 0, rfl, lt_of_block hk, fun i hi => by
    have : i = 0 ∨ i = 1 := by omega
    rcases this with rfl | rfl
    · unfold World.cell?; rw [hk]; rfl
    · unfold World.cell?; rw [hk]; rfl⟩) (fun i hi => by unfold Sc.wt2; split <;> omega) (by omega) (by omega) (by omega))
  have HB := Lib.hid hb
  clear hk hb
  go_enter Tryz.func11, Tryz.ntmps11
  go_wp2_with fail
  refine HBg.out.mono ?_
  rintro e w2 ⟨xb, kb, sb, S, lv, A, tag, rfl, hrg, htag, hb2⟩
  have HR2 := Lib.hid hrg
  have HT2 := Lib.hid htag
  have HB2 := Lib.hid (below_th HB.out hb2)
  have HT3 : Hid (∀ k, tag k ≠ 0 → w.heap.size ≤ k) := Lib.hid fun k hk => Nat.le_trans HB.out.size (htag k hk)
  clear hrg htag hb2 HBg
  go_wp2_with fail
  refine (HR2.out.run (by omega) 9 (by omega)).mono ?_
  rintro e w3 ⟨v, rfl, hrg, hrow, hm⟩
  have hshape : ∃ g c, v = .slice (some ⟨g, 0, none⟩) 9 c ∧ g < w3.heap.size ∧ ∀ i, i < 9 → w3.cell? ⟨g, i * 2, none⟩ = some (.int .i64 (Sc.who 2 Sc.wt2 10 i + 1)) ∧ w3.cell? ⟨g, i * 2 + 1, none⟩ = some (.int .i64 10) := by
    rcases hrow.2 with ⟨rfl, e⟩ | ⟨g, cap, cur, rfl, h0, hg, h1, h2, h3, h4⟩
    · rw [RgC.turns_length] at e; omega
    · simp only [RgC.turns_length] at h1 h2 h3 h4 ⊢
      refine ⟨g, cap, rfl, lt_of_block hg, fun i hi => ?_⟩
      have ht : (RgC.turns 2 Sc.wt2 10 9)[i]? = some (Sc.who 2 Sc.wt2 10 i + 1, 10) := by unfold RgC.turns; rw [List.getElem?_map, List.getElem?_range hi]; rfl
      obtain ⟨q1, q2⟩ := trC_at _ i _ ht
      have key : ∀ j, j < 18 → w3.cell? ⟨g, j, none⟩ = (trC (RgC.turns 2 Sc.wt2 10 9))[j]? := fun j hj => by
        unfold World.cell?
        rw [hg, ← h4]
        show cur[j]? = _
        rw [List.getElem?_take_of_lt (by omega)]
        simp
      exact ⟨(key _ (by omega)).trans (by rw [q1]; simp), (key _ (by omega)).trans (by rw [q2]; simp)⟩
  obtain ⟨g, c, rfl, hg, hcell⟩ := hshape
  have HR3 := Lib.hid hrg
  have HC := Lib.hid hcell
  have HG := Lib.hid hg
  have HB3 : Hid (Below w.heap.size w w3) := Lib.hid (Mod.below HB2.out hm HB2.out.size fun k _ q => HT3.out k q)
  have hk4 := heap_alloc_new w3 (.cells #[.int .i64 1, .int .i64 2, .int .i64 2, .int .i64 1, .int .i64 2, .int .i64 2, .int .i64 1, .int .i64 2, .int .i64 2] 3)
  have hb4 := (Below.refl w3.heap.size w3).alloc (Nat.le_refl _) (.cells #[.int .i64 1, .int .i64 2, .int .i64 2, .int .i64 1, .int .i64 2, .int .i64 2, .int .i64 1, .int .i64 2, .int .i64 2] 3)
  have HW : Hid (∀ V, Below w3.heap.size w3 V → V.heap[w3.heap.size]? = some (.cells #[.int .i64 1, .int .i64 2, .int .i64 2, .int .i64 1, .int .i64 2, .int .i64 2, .int .i64 1, .int .i64 2, .int .i64 2] 3 (0, 0)) → ∀ i, i < 9 → V.cell? ⟨w3.heap.size, i, none⟩ = some (.int .i64 (Sc.who 2 Sc.wt2 10 i + 1))) := Lib.hid fun V _ hV i hi => by
    have h := Sc.nine.1 i hi
    have e : (Sc.want.map fun (x : Nat) => Value.int .i64 x)[i]? = some (.int .i64 (Sc.who 2 Sc.wt2 10 i + 1)) := by rw [List.getElem?_map, h]; simp
    unfold World.cell?
    rw [hV]
    show (#[Value.int .i64 1, .int .i64 2, .int .i64 2, .int .i64 1, .int .i64 2, .int .i64 2, .int .i64 1, .int .i64 2, .int .i64 2] : Array Value)[i]? = _
    rw [← e, show (#[Value.int .i64 1, .int .i64 2, .int .i64 2, .int .i64 1, .int .i64 2, .int .i64 2, .int .i64 1, .int .i64 2, .int .i64 2] : Array Value) = (Sc.want.map fun (x : Nat) => Value.int .i64 x).toArray from rfl]
    exact List.getElem?_toArray
  have HR0 : Hid (alRel w3 (.int .i64 0) (w3.alloc (.cells #[.int .i64 1, .int .i64 2, .int .i64 2, .int .i64 1, .int .i64 2, .int .i64 2, .int .i64 1, .int .i64 2, .int .i64 2] 3))) := Lib.hid ⟨0, by omega, rfl, hb4, hk4⟩
  clear hrow hrg hm hcell hg hk4 hb4
  go_wp2
  go_loopw [6] (fun vi wr => alRel w3 vi wr) (fun vi _ => 9 - (intOf vi).toNat)
  case atStart => exact HR0.out
  case round =>
    clear HR0
    obtain ⟨i, hi, rfl, hb, hk⟩ := hrel
    have HBr := Lib.hid hb
    have HKr := Lib.hid hk
    clear hb hk
    by_cases hi9 : i < 9
    · obtain ⟨d1, d2⟩ := HC.out i hi9
      have d1 := keep d1 HBr.out
      have d2 := keep d2 HBr.out
      have d3 := HW.out wr HBr.out HKr.out i hi9
      have hii : (i : Int) < 9 := by omega
      generalize ((Sc.who 2 Sc.wt2 10 i : Nat) : Int) + 1 = q at *
      go_wp2
      refine B (fun V => V.cell? ⟨g, i * 2, none⟩ = some (.int .i64 q) ∧ V.cell? ⟨g, i * 2 + 1, none⟩ = some (.int .i64 10) ∧ V.cell? ⟨w3.heap.size, i, none⟩ = some (.int .i64 q)) ⟨d1, d2, d3⟩ fun wd hwd hS => ?_
      have HWd := Lib.hid hwd
      clear hwd d1 d2 d3
      refine T 0 hS ?_
      refine T 1 hS ?_
      refine T 2 hS ?_
      refine T 3 hS ?_
      refine T 4 hS ?_
      refine T 5 hS ?_
      refine T 6 hS ?_
      refine T 7 hS ?_
      refine T 8 hS ?_
      refine T 9 hS ?_
      refine wpAnyH_done (by kernel_rfl) ?_ _
      clear hS
      go_wp2
      exact ⟨⟨i + 1, by omega, by go_num, by rw [HWd.out]; exact HBr.out.drew, by rw [HWd.out]; exact HKr.out⟩, by simp [intOf]; omega⟩
    · obtain rfl : i = 9 := by omega
      have hr := HR3.out.below HBr.out
      have HU := Lib.hid (hr.used 1 (by omega))
      rw [Sc.nine.2] at HU
      have HA1 := Lib.hid (hr.add_have (by omega))
      have HA2 := Lib.hid hr.add_arg
      clear hr
      go_wp2_with fail
      refine HU.out.mono ?_
      rintro e w5 ⟨rfl, rfl⟩
      go_wp2_with fail
      refine (new_nil _ _).mono ?_
      rintro e w5 ⟨rfl, rfl⟩
      go_wp2_with fail
      refine HA1.out.mono ?_
      rintro e w5 ⟨rfl, rfl⟩
      go_wp2_with fail
      refine HA2.out.mono ?_
      rintro e w5 ⟨rfl, rfl⟩
      go_wp2
      go_ret
      exact ⟨rfl, HB3.out.trans (HBr.out.mono HB3.out.size)⟩
end Sh
end Go.Proofs.YthgddpgifdhnjaaGreat
namespace Go.Proofs.YthgddpgifdhnjaaGreat
open Go.RowKit
set_option linter.unusedVariables false
set_option linter.unusedSimpArgs false
namespace Sh
set_option maxRecDepth 100000 in
set_option maxHeartbeats 8000000 in
theorem schedNil (w : World) (env n : Int) : Calls Tryz.prog 4 #[.int .i64 env, .int .i64 n] w fun e w' => e = .returned (.bool true) ∧ Below w.heap.size w w' := by
  go_enter Tryz.func4, Tryz.ntmps4
  go_wp2_with fail
  refine (turn_nil _).mono ?_
  rintro e w1 ⟨rfl, hb1⟩
  have HB1 := Lib.hid hb1
  clear hb1
  go_wp2_with fail
  refine (run_nil _ _).mono ?_
  rintro e w2 ⟨rfl, rfl⟩
  go_wp2_with fail
  refine (pass_nil _ _).mono ?_
  rintro e w2 ⟨rfl, rfl⟩
  go_wp2_with fail
  refine (used_nil _ _).mono ?_
  rintro e w2 ⟨rfl, rfl⟩
  have hk := heap_alloc_new w1 (.cells #[.int .i64 0, .int .i64 0] 31)
  have HA := Lib.hid ((Below.refl w1.heap.size w1).alloc (Nat.le_refl _) (.cells #[.int .i64 0, .int .i64 0] 31))
  clear hk
  go_wp2_with fail
  refine (add_nil _ _ _).mono ?_
  rintro e w2 ⟨rfl, rfl⟩
  go_wp2_with fail
  refine (remove_nil _ _).mono ?_
  rintro e w3 ⟨rfl, hb3⟩
  have HB3 := Lib.hid (below_th (below_th HB1.out HA.out) hb3)
  clear hb3
  go_wp2_with fail
  refine (envs_nil _).mono ?_
  rintro e w4 ⟨rfl, rfl⟩
  go_wp2_with fail
  refine (clock_nil _).mono ?_
  rintro e w4 ⟨rfl, rfl⟩
  go_wp2_with fail
  refine (alive37 _).mono ?_
  rintro e w5 ⟨rfl, hb5⟩
  have HB5 := Lib.hid (below_th HB3.out hb5)
  clear hb5
  go_wp2
  go_ret
  exact ⟨rfl, HB5.out⟩
end Sh
theorem Cp.schedNilL (w : World) (a : Int) (_ : -9223372036854775808 ≤ a) (_ : a ≤ 9223372036854775807) (b : Int) (_ : -9223372036854775808 ≤ b) (_ : b ≤ 9223372036854775807) : Calls Tryz.prog 4 #[.int .i64 a, .int .i64 b] w fun e w' => e = .returned (.bool true) ∧ Below w.heap.size w w' := Sh.schedNil w a b
end Go.Proofs.YthgddpgifdhnjaaGreat
