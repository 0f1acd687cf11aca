/- The walk of nic.Arrive. -/
import Derived.Test.YtkjpffihmcjjpaaNicA
import Derived.Deep.RegionHeld3
import Derived.RegionTactic
import Derived.BigRegion
namespace Go.Proofs.Ytkjpffihmcjjpaa.Ni
open Go.RowKit
set_option linter.unusedVariables false
theorem Nc.lookAt {w : World} {nb mb : Nat} {V : Int → Value} {sv : Value} {S : NicS} (h : Nc w nb mb V sv S) (x : Int) (h0 : 0 ≤ x) (h1 : x < 65536) (w' : World) (he : w'.heap[mb]? = w.heap[mb]?) :
    (Instr.lookup 46 (.map (some mb)) (.int .u16 x) false).run Try.prog w' = .ok (V x) w' := by
  obtain ⟨D, n, ho, hv, _⟩ := h.map
  have ho' : w'.ownsMap Try.prog 23 slcElem mb n D := by
    obtain ⟨es, clock, hb, rest⟩ := ho
    exact ⟨es, clock, he.trans hb, rest⟩
  obtain ⟨v, ps, hrun, hR⟩ := ho'.lookup (Maps.int_keyed Try.underlying23) Try.underlying46 (zeroSlice w') (z := .slice none 0 0) (zd := nilD) (zp := []) rfl (Maps.keyOf_int_mk Try.underlying23 (wf_u16 h0 h1))
  rw [hrun, slcElem_inj hR (hv x)]
theorem Nc.nm {w : World} {nb mb : Nat} {V : Int → Value} {sv : Value} {S : NicS} (h : Nc w nb mb V sv S) : nb ≠ mb := by
  intro e
  have := h.head
  obtain ⟨D, n, ⟨es, clock, hbk, _⟩, _⟩ := h.map
  rw [e, hbk] at this
  cases this
theorem infoStr : (Try.prog.info? 9).map (fun i => (i.zero, i.size, i.bytes)) = some (some (.string ByteArray.empty), 1, 16) := by kernel_rfl
def goneS (S : NicS) (g : Int) : NicS := { S with gone := g }
theorem Nc.setGone {w : World} {nb mb : Nat} {V : Int → Value} {sv : Value} {S : NicS} (h : Nc w nb mb V sv S) (g : Int) : Nc (w.setCell ⟨nb, 2, none⟩ (.int .i64 g)) nb mb V sv (goneS S g) := by
  have hne : ∀ k, k ≠ nb → (w.setCell ⟨nb, 2, none⟩ (.int .i64 g)).heap[k]? = w.heap[k]? := fun k hk => Below.heap_setCell _ _ _ _ hk
  have hnx : mb ≠ nb := by
    intro e
    have := h.head
    obtain ⟨D, n, ⟨es, clock, hbk, _⟩, _⟩ := h.map
    rw [← e, hbk] at this
    cases this
  refine ⟨?_, ?_, fun x => (h.rows x).keep fun k hk => hne k fun e => (h.rapart x).1 (e ▸ hk), h.sent.keep fun k hk => hne k fun e => h.tapart.1 (e ▸ hk), h.nodup, h.range, h.apart, h.sapart, h.rapart, h.tapart, h.small, fun k hk => by simpa [World.setCell] using h.lt k hk⟩
  · have := heap_setCell_same w nb 2 _ _ (.int .i64 g) h.head
    simpa [goneS] using this
  · obtain ⟨D, n, ⟨es, clock, hbk, rest⟩, hv⟩ := h.map
    exact ⟨D, n, ⟨es, clock, (hne mb hnx).trans hbk, rest⟩, hv⟩
def arriveS (S : NicS) (f : ByteArray) : NicS := if mayB f = true then (if portB f = true ∧ (S.q (portV f 22)).length < 8 then qSet S (portV f 22) (S.q (portV f 22) ++ [f]) else goneS S (S.gone + 1)) else S
def arriveP (f : ByteArray) : Int := if mayB f = true then portV f 22 else 0
def arriveB (S : NicS) (f : ByteArray) : Bool := mayB f && portB f && decide ((S.q (portV f 22)).length < 8)
def arriveE (f : ByteArray) : Int := if mayB f = true then 0 else 2
theorem arrive_arg {w : World} (nb : Nat) (f : ByteArray) (hf : f.size < 140737488355328) (hm : mayB f = false) :
    Calls Try.prog 8 #[.pointer (some ⟨nb, 0, none⟩), .string f] w fun e w' => e = .returned (.tuple #[.int .u16 0, .bool false, .int .i64 2]) ∧ w = w' := by
  have Hm := Lib.hid hm
  clear hm
  go_enter Try.func8, Try.ntmps8
  go_wp2_with (go_at_call 19; (with_reducible refine (may f hf _).mono ?_); rw [Hm.out]; rintro e w1 ⟨rfl, rfl⟩)
  go_ret3
  exact ⟨rfl, rfl⟩
theorem arrive_short {w : World} {nb mb : Nat} {V : Int → Value} {sv : Value} {S : NicS} (h : Nc w nb mb V sv S) (f : ByteArray) (hf : f.size < 140737488355328) (hm : mayB f = true) (hp : portB f = false) (g0 : 0 ≤ S.gone) (g1 : S.gone < 9223372036854775807) :
    Calls Try.prog 8 #[.pointer (some ⟨nb, 0, none⟩), .string f] w fun e w' => e = .returned (.tuple #[.int .u16 (portV f 22), .bool false, .int .i64 0]) ∧ Nc w' nb mb V sv (goneS S (S.gone + 1)) ∧ Mod (fun k => k = nb) w w' := by
  have Hm := Lib.hid hm
  have Hp := Lib.hid hp
  have H := Lib.hid h
  clear hm hp h
  have hbd := portV_bd f 22 (by omega)
  have Hto := Lib.hid (to f hf)
  generalize portV f 22 = p at *
  go_enter Try.func8, Try.ntmps8
  go_wp2_with (go_at_call 19; (with_reducible refine (may f hf _).mono ?_); rw [Hm.out]; rintro e w1 ⟨rfl, rfl⟩)
  refine (Hto.out _).mono ?_
  rw [Hp.out]
  rintro e w1 ⟨rfl, hb⟩
  have h1 := H.out.keep (Mod.of_below hb fun _ => False) fun _ _ g => g
  have H1 := Lib.hid h1
  have hc := h1.cellGone
  have hfr := h1.free 2
  have Hs := Lib.hid (h1.setGone (S.gone + 1))
  have Hb := Lib.hid hb
  clear h1 hb
  generalize hgg : S.gone = gg at *
  have Hgg := Lib.hid hgg
  clear hgg
  go_wp2
  go_ret3
  exact ⟨rfl, by rw [Hgg.out]; exact Hs.out, (Mod.of_below Hb.out (fun k => k = nb)).setCell _ (.inl rfl) _⟩
theorem arrive_full {w : World} {nb mb : Nat} {V : Int → Value} {sv : Value} {S : NicS} (h : Nc w nb mb V sv S) (f : ByteArray) (hf : f.size < 140737488355328) (hm : mayB f = true) (hp : portB f = true) (hl : 8 ≤ (S.q (portV f 22)).length) (g0 : 0 ≤ S.gone) (g1 : S.gone < 9223372036854775807) :
    Calls Try.prog 8 #[.pointer (some ⟨nb, 0, none⟩), .string f] w fun e w' => e = .returned (.tuple #[.int .u16 (portV f 22), .bool false, .int .i64 0]) ∧ Nc w' nb mb V sv (goneS S (S.gone + 1)) ∧ Mod (fun k => k = nb) w w' := by
  have Hm := Lib.hid hm
  have Hp := Lib.hid hp
  have H := Lib.hid h
  have hbd := portV_bd f 22 (by omega)
  have hsm := h.small (portV f 22)
  obtain ⟨a, cap, hv⟩ := (h.rows (portV f 22)).form
  have Hv := Lib.hid hv
  have Hto := Lib.hid (to f hf)
  clear hm hp h hv
  generalize portV f 22 = p at *
  generalize (S.q p).length = n at *
  go_enter Try.func8, Try.ntmps8
  go_wp2_with (go_at_call 19; (with_reducible refine (may f hf _).mono ?_); rw [Hm.out]; rintro e w1 ⟨rfl, rfl⟩)
  refine (Hto.out _).mono ?_
  rw [Hp.out]
  rintro e w1 ⟨rfl, hb⟩
  have h1 := H.out.keep (Mod.of_below hb fun _ => False) fun _ _ g => g
  have H1 := Lib.hid h1
  have hc0 := h1.cellMap
  have hlk := h1.look p hbd.1 hbd.2
  rw [Hv.out] at hlk
  have hc := h1.cellGone
  have hfr := h1.free 2
  have Hs := Lib.hid (h1.setGone (S.gone + 1))
  have Hb := Lib.hid hb
  clear h1 hb
  generalize hgg : S.gone = gg at *
  have Hgg := Lib.hid hgg
  clear hgg
  go_wp2
  go_ret3
  exact ⟨rfl, by rw [Hgg.out]; exact Hs.out, (Mod.of_below Hb.out (fun k => k = nb)).setCell _ (.inl rfl) _⟩
/-- What append of one frame leaves is stored. -/
theorem stored {w w2 : World} {nb mb : Nat} {V : Int → Value} {sv : Value} {S : NicS} (h : Nc w nb mb V sv S) (x : Int) (h0 : 0 ≤ x) (h1 : x < 65536) (l : List ByteArray) (f : ByteArray) (hl : l.length < 8) {v1 : Value} {o : Obj} {n : Nat}
    (q1 : SlV w2 9 1 v1 (n + 1) (l.map .string ++ [.string f])) (q2 : Mod (fun k => (V x).ownBlock = some k) (w.alloc o).drew w2) (q3 : v1.ownBlock = (V x).ownBlock ∨ ∃ k, v1.ownBlock = some k ∧ (w.alloc o).drew.heap.size ≤ k) :
    ∃ w', (Instr.mapUpdate 46 (.map (some mb)) (.int .u16 x) v1).run Try.prog w2 = .ok () w' ∧ Nc w' nb mb (updQ V x v1) sv (qSet S x (l ++ [f])) ∧ Mod (fun k => k = mb ∨ (V x).ownBlock = some k) w w' ∧ (v1.ownBlock = (V x).ownBlock ∨ ∃ k, v1.ownBlock = some k ∧ w.heap.size ≤ k) := by
  have hn : n = l.length := by have := q1.1; simp at this; omega
  subst hn
  have hm : Mod (fun k => (V x).ownBlock = some k) w w2 := ((Mod.refl _ _).alloc o).drew.same q2
  have q3' : v1.ownBlock = (V x).ownBlock ∨ ∃ k, v1.ownBlock = some k ∧ w.heap.size ≤ k := by
    rcases q3 with g | ⟨k, g, hk⟩
    · exact .inl g
    · exact .inr ⟨k, g, Nat.le_trans (by simp) hk⟩
  obtain ⟨w', hrun, hn', hm'⟩ := h.store x h0 h1 hm v1 (l ++ [f]) (by simpa using q1) (slcElem_some q1 (by omega)) q3' (fun k hk => by obtain ⟨g, hg, hlt⟩ := q1.lt (by omega); rw [hk] at hg; cases hg; exact hlt) (by simp; omega)
  exact ⟨w', hrun, hn', (hm.mono fun k _ g => Or.inr g).same (hm'.mono fun k _ g => Or.inl g), q3'⟩
set_option maxRecDepth 100000 in
set_option maxHeartbeats 2000000 in
theorem arrive_kept {w : World} {nb mb : Nat} {V : Int → Value} {sv : Value} {S : NicS} (h : Nc w nb mb V sv S) (f : ByteArray) (hf : f.size < 140737488355328) (hm : mayB f = true) (hp : portB f = true) (hl : (S.q (portV f 22)).length < 8) :
    Calls Try.prog 8 #[.pointer (some ⟨nb, 0, none⟩), .string f] w fun e w' => e = .returned (.tuple #[.int .u16 (portV f 22), .bool true, .int .i64 0]) ∧ ∃ v, Nc w' nb mb (updQ V (portV f 22) v) sv (qSet S (portV f 22) (S.q (portV f 22) ++ [f])) ∧ (v.ownBlock = (V (portV f 22)).ownBlock ∨ ∃ k, v.ownBlock = some k ∧ w.heap.size ≤ k) ∧ Mod (fun k => k = mb ∨ (V (portV f 22)).ownBlock = some k) w w' := by
  obtain ⟨i0, hi0, hz0, hz1, hz2⟩ := info_parts infoStr
  have Hi := Lib.hid hi0
  have Hz0 := Lib.hid hz0
  have Hz1 := Lib.hid hz1
  have Hz2 := Lib.hid hz2
  clear hi0 hz0 hz1 hz2
  have Hm := Lib.hid hm
  have Hp := Lib.hid hp
  have H := Lib.hid h
  have hbd := portV_bd f 22 (by omega)
  obtain ⟨a, cap, hv⟩ := (h.rows (portV f 22)).form
  have Hv := Lib.hid hv
  have Hto := Lib.hid (to f hf)
  clear hm hp h hv
  generalize portV f 22 = p at *
  generalize hlen : (S.q p).length = n at *
  have Hlen := Lib.hid hlen
  clear hlen
  go_enter Try.func8, Try.ntmps8
  go_wp2_with (go_at_call 19; (with_reducible refine (may f hf _).mono ?_); rw [Hm.out]; rintro e w1 ⟨rfl, rfl⟩)
  refine (Hto.out _).mono ?_
  rw [Hp.out]
  rintro e w1 ⟨rfl, hb⟩
  have h1 := H.out.keep (Mod.of_below hb fun _ => False) fun _ _ g => g
  have H1 := Lib.hid h1
  have hc0 := h1.cellMap
  have hlk := h1.look p hbd.1 hbd.2
  rw [Hv.out] at hlk
  have Hlk := Lib.hid (h1.lookAt p hbd.1 hbd.2)
  rw [Hv.out] at Hlk
  have Hb := Lib.hid hb
  have Hmb := Lib.hid (h1.lt mb (.inr (.inl rfl)))
  have Hnb := Lib.hid (h1.lt nb (.inl rfl))
  have Hgl : Hid (∀ g, (Value.slice a n cap).ownBlock = some g → g < w1.heap.size) := fun g hg => h1.lt g (.inr (.inr (.inr ⟨p, by rw [Hv.out]; exact hg⟩)))
  have Hra := Lib.hid (h1.rapart p)
  have Hr := Lib.hid (h1.rows p)
  have Hna : Hid (¬ (nb = mb ∨ (V p).ownBlock = some nb)) := fun g => g.elim h1.nm (h1.rapart p).1
  rw [Hv.out, Hlen.out] at Hr
  clear h1 hb
  have hlk2 : (Instr.lookup 46 (.map (some mb)) (.int .u16 p) false).run Try.prog (w1.alloc (.cells #[.string f] 9)).drew = .ok (.slice a n cap) (w1.alloc (.cells #[.string f] 9)).drew := Hlk.out _ (Below.heap_alloc _ _ _ Hmb.out)
  have hlk3 : (Instr.lookup 46 (.map (some mb)) (.int .u16 p) false).run Try.prog w1.drew = .ok (.slice a n cap) w1.drew := Hlk.out _ rfl
  go_wp2_with fail
  go_region_held3 (fun w' => w'.cell? ⟨nb, 0, none⟩ = some (.map (some mb)))
    (first
      | go_keep
      | assumption
      | (rw [World.cell?_of_block (w := w1) ((q2.block nb (by simpa using Nat.lt_succ_of_lt Hnb.out) fun g => Hra.out.1 (Hv.out ▸ g)).trans (Below.heap_alloc _ _ _ Hnb.out))]
         assumption))
    ((refine step_append_slv (by rfl) _ _ _ (by rfl) 9 i0 (.string ByteArray.empty) 1 16 Try.underlying28 Hi.out Hz0.out Hz1.out Hz2.out rfl (by omega) (.slice a n cap) n ((S.q p).map .string) (by rfl) (Hr.out.keep fun g hg => Below.heap_alloc _ _ _ (Hgl.out g hg)) ⟨w1.heap.size, 0, none⟩ 1 1 [.string f] (by rfl) (by omega) (by rfl) (World.news_of_block (cs := #[.string f]) (t := 9) (fr := (0, 0)) (heap_alloc_new w1 _)) (fun x hx => by simp at hx; subst hx; rfl) (by unfold maxLen; omega) (by omega) ?_; intro v1 w2 q1 q2 q3; obtain ⟨w3, hrun, hn3, hm3⟩ := stored H1.out p hbd.1 hbd.2 (S.q p) f (by rw [Hlen.out]; exact hl) q1 (Hv.out ▸ q2) (Hv.out ▸ q3); have hc9 : w3.cell? ⟨nb, 0, none⟩ = some (.map (some mb)) := by rw [World.cell?_of_block (w := w1) (hm3.1.block nb Hnb.out fun g => Hna.out g)]; assumption))
  all_goals
    go_wp2
    go_ret3
    exact ⟨rfl, v1, hn3, hm3.2.imp id fun ⟨k, g, hk⟩ => ⟨k, g, Nat.le_trans Hb.out.size hk⟩, (Mod.of_below Hb.out _).same hm3.1⟩
end Go.Proofs.Ytkjpffihmcjjpaa.Ni
