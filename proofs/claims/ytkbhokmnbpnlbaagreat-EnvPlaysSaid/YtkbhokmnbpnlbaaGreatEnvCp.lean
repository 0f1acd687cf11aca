/- EnvCp: EnvCp, SameE in one text. -/
import Derived.Test.YtkbhokmnbpnlbaaGreatEnvN
import Derived.Test.YtkbhokmnbpnlbaaGreatRenv
import Derived.Deep.RegionHeld3
import Derived.Test.YtkbhokmnbpnlbaaGreatRenvW
import Derived.Test.YtkbhokmnbpnlbaaGreatAlive21
import Derived.Test.YtkbhokmnbpnlbaaGreatRunsB
/- The walk of an environment's Copy. -/
namespace Go.Proofs.YtkbhokmnbpnlbaaGreat.Sl
open Go.RowKit Pag
set_option linter.unusedVariables false
set_option linter.unusedSimpArgs false
set_option maxRecDepth 100000 in
set_option maxHeartbeats 4000000 in
theorem clone2 {w : World} {v : Value} {xs : List Int} (h : Lst w v xs) (hs : xs.length ≤ 2000000) :
    Calls Tryz.prog 57 #[v] w fun e w' => ∃ v', e = .returned v' ∧ Lst w' v' xs ∧ (∀ b, v'.ownBlock = some b → w.heap.size ≤ b ∧ b < w'.heap.size) ∧ Below w.heap.size w w' := by
  obtain ⟨i0, hi0, hz0, hz1, hz2⟩ := info_parts infoU32
  have H := Lib.hid h
  rcases h.2 with ⟨h0, a, rfl⟩ | ⟨g, off, cap, cur, rfl, hg, hnc, hcm, hcs, hc⟩
  · obtain rfl : xs = [] := List.length_eq_zero_iff.1 h0
    clear h h0
    cases a with
    | none =>
      go_enter Tryz.func57, Tryz.ntmps57
      have hq := fun W => Lib.run_eql_slice_nil (P := Tryz.prog) W _ _ none 0 0 0 0 Tryz.underlying32
      go_wp2
      first
        | (go_ret; exact ⟨_, rfl, H.out, fun b hb => (nomatch hb), Below.refl _ _⟩)
        | (refine bodyPost_ret (v := .slice none 0 0) (by simp [results, Tryz.results57, go_sem, *]) rfl ?_; exact ⟨_, rfl, H.out, fun b hb => (nomatch hb), Below.refl _ _⟩)
    | some a =>
      have hq := fun W => Lib.run_eql_slice_nil (P := Tryz.prog) W _ _ (some a) 0 0 0 0 Tryz.underlying32
      go_enter Tryz.func57, Tryz.ntmps57
      have HB : Hid (Below w.heap.size w (w.alloc (.cells #[] 22))) := Lib.hid ((Below.refl _ _).alloc (Nat.le_refl _) _)
      have HL : Hid (Lst (w.alloc (.cells #[] 22)) (.slice (some ⟨w.heap.size, 0, none⟩) 0 0) []) := Lib.hid ⟨rfl, .inl ⟨rfl, _, rfl⟩⟩
      go_wp2
      go_ret
      exact ⟨_, rfl, HL.out, fun b hb => by injection hb with hb; exact ⟨Nat.le_of_eq hb, by rw [← hb]; simp⟩, HB.out⟩
  · obtain ⟨n, hn⟩ : ∃ n, xs.length = n := ⟨_, rfl⟩
    rw [hn] at h hs hnc hc ⊢
    have hq := fun W => Lib.run_eql_slice_nil (P := Tryz.prog) W _ _ (some ⟨g, off, none⟩) n cap 0 0 Tryz.underlying32
    have hcl : ∀ j u, (xs.map encU)[j]? = some u → (w.alloc (.cells #[] 22)).cell? ((⟨g, off, none⟩ : Addr).add j) = some u := fun j u hu => by
      have hj : j < n := by have := (List.getElem?_eq_some_iff.1 hu).1; simpa [hn] using this
      rw [Addr.add_lit]
      unfold World.cell?
      rw [Below.heap_alloc _ _ _ (lt_of_block hg), hg]
      exact (hc j (by omega)).trans hu
    clear h hg hnc hcm hcs hc
    by_cases h0 : n = 0
    · subst h0
      obtain rfl : xs = [] := List.length_eq_zero_iff.1 hn
      have HB : Hid (Below w.heap.size w (w.alloc (.cells #[] 22))) := Lib.hid ((Below.refl _ _).alloc (Nat.le_refl _) _)
      have HL : Hid (Lst (w.alloc (.cells #[] 22)) (.slice (some ⟨w.heap.size, 0, none⟩) 0 0) []) := Lib.hid ⟨rfl, .inl ⟨rfl, _, rfl⟩⟩
      go_enter Tryz.func57, Tryz.ntmps57
      go_wp2
      go_ret
      exact ⟨_, rfl, HL.out, fun b hb => by injection hb with hb; exact ⟨Nat.le_of_eq hb, by rw [← hb]; simp⟩, HB.out⟩
    · have HB : Hid (Below w.heap.size w (w.alloc (.cells #[] 22))) := Lib.hid ((Below.refl _ _).alloc (Nat.le_refl _) _)
      have HN : Hid (SlV (w.alloc (.cells #[] 22)) 22 1 (.slice (some ⟨w.heap.size, 0, none⟩) 0 0) 0 []) := Lib.hid ⟨rfl, .inl ⟨rfl, _, rfl⟩⟩
      have HC : Hid (∀ j u, (xs.map encU)[j]? = some u → (w.alloc (.cells #[] 22)).cell? ((⟨g, off, none⟩ : Addr).add j) = some u) := Lib.hid hcl
      have HLn := Lib.hid hn
      have hml : n ≤ maxLen := by unfold maxLen; omega
      clear hn hcl
      go_enter Tryz.func57, Tryz.ntmps57
      go_wp2_with (at_builtin; refine wpList_append_slv _ rfl _ _ 32 rfl 22 i0 (.int .u32 0) 1 4 Tryz.underlying32 hi0 hz0 hz1 hz2 rfl (by decide) _ 0 [] rfl HN.out ⟨g, off, none⟩ n cap (xs.map encU) rfl (by omega) (by rw [List.length_map, HLn.out, Nat.mul_one]) HC.out (by simp [Value.oneCell']) (by omega) (by omega) ?_; intro v2 w2 hl2 hm2 hb2)
      go_ret
      refine ⟨v2, rfl, ?_, ?_, ?_⟩
      · have := hl2
        rw [Nat.zero_add, List.nil_append, ← HLn.out] at this
        exact this
      · intro b hb
        refine ⟨?_, ?_⟩
        · have hb3 : v2.ownBlock = some w.heap.size ∨ ∃ k, v2.ownBlock = some k ∧ (w.alloc (.cells #[] 22)).heap.size ≤ k := hb2
          rcases hb3 with g2 | ⟨k, g2, g3⟩
          · rw [g2] at hb
            injection hb with hb
            exact Nat.le_of_eq hb
          · rw [g2] at hb
            injection hb with hb
            simp at g3
            omega
        · obtain ⟨g, q1, q2⟩ := SlV.lt hl2 (by omega)
          have hb' : v2.ownBlock = some b := hb
          rw [q1] at hb'
          injection hb' with hb'
          omega
      · refine Mod.below HB.out hm2 (by simp) fun i _ hi => ?_
        injection hi with hi
        exact Nat.le_of_eq hi
end Go.Proofs.YtkbhokmnbpnlbaaGreat.Sl
namespace Go.Proofs.YtkbhokmnbpnlbaaGreat
open Go.RowKit Word
set_option linter.unusedVariables false
set_option linter.unusedSimpArgs false
namespace Ev
section
variable {w : World} {a : EAt} {E : En}
set_option maxRecDepth 100000 in
set_option maxHeartbeats 8000000 in
theorem copy (h : Env w a E) : Calls Tryz.prog 22 #[.pointer (some ⟨a.eb, 0, none⟩)] w fun e w' => ∃ a' E', e = .returned (.pointer (some ⟨a'.eb, 0, none⟩)) ∧ Env w' a' E' ∧ En.Like E' E ∧ (∀ k, a'.foot E'.A k → w.heap.size ≤ k) ∧ Below w.heap.size w w' := by
  obtain ⟨c0, c1, c2, c3, c4, c5, c6, c7⟩ := cells h
  have HF1 : Hid (∀ a' E' w', Env w' a' E' → En.Like E' E → (∀ k, a'.foot E'.A k → w.heap.size ≤ k) → Below w.heap.size w w' → ∃ a'' E'', Ending.returned (.pointer (some ⟨a'.eb, 0, none⟩)) = .returned (.pointer (some ⟨a''.eb, 0, none⟩)) ∧ Env w' a'' E'' ∧ En.Like E'' E ∧ (∀ k, a''.foot E''.A k → w.heap.size ≤ k) ∧ Below w.heap.size w w') := Lib.hid fun a' E' w' h1 h2 h3 h4 => ⟨a', E', rfl, h1, h2, h3, h4⟩
  have H := Lib.hid h
  have hae : a.eb < w.heap.size := lt_of_block h.blk
  obtain ⟨al, cap, hlv⟩ := SlV.form h.ls
  rw [hlv] at c1
  have HLv := Lib.hid hlv
  clear h hlv
  go_enter Tryz.func22, Tryz.ntmps22
  go_wp2_with fail
  have hbb : Below w.heap.size w (w.alloc (.cells #[.pointer (some ⟨a.sb, 0, none⟩), .slice al E.own.length cap, .pointer (some ⟨a.cb, 0, none⟩), .int .i64 E.num, .int .u8 E.kind, .int .u32 E.code, .int .i64 E.why, .string E.text] 150)) := (Below.refl _ _).alloc (Nat.le_refl _) _
  have htb : (w.alloc (.cells #[.pointer (some ⟨a.sb, 0, none⟩), .slice al E.own.length cap, .pointer (some ⟨a.cb, 0, none⟩), .int .i64 E.num, .int .u8 E.kind, .int .u32 E.code, .int .i64 E.why, .string E.text] 150)).heap[w.heap.size]? = some (.cells #[.pointer (some ⟨a.sb, 0, none⟩), .slice al E.own.length cap, .pointer (some ⟨a.cb, 0, none⟩), .int .i64 E.num, .int .u8 E.kind, .int .u32 E.code, .int .i64 E.why, .string E.text] 150 (0, 0)) := heap_alloc_new w _
  generalize w.alloc (.cells #[.pointer (some ⟨a.sb, 0, none⟩), .slice al E.own.length cap, .pointer (some ⟨a.cb, 0, none⟩), .int .i64 E.num, .int .u8 E.kind, .int .u32 E.code, .int .i64 E.why, .string E.text] 150) = W at *
  have hz := hbb.size
  have hwl : w.heap.size < W.heap.size := lt_of_block htb
  have HE := Lib.hid (H.out.below hbb)
  have HB := Lib.hid hbb
  have HT := Lib.hid htb
  have HNe : Hid (a.eb ≠ w.heap.size) := Lib.hid (by omega)
  obtain ⟨m0, m1, m2, _⟩ := cells HE.out
  rw [HLv.out] at m1
  have hcell : ∀ V, Below W.heap.size W V → V.cell? ⟨a.eb, 0, none⟩ = some (.pointer (some ⟨a.sb, 0, none⟩)) ∧ V.cell? ⟨a.eb, 1, none⟩ = some (.slice al E.own.length cap) ∧ V.cell? ⟨a.eb, 2, none⟩ = some (.pointer (some ⟨a.cb, 0, none⟩)) := fun V hV => by
    obtain ⟨q0, q1, q2, _⟩ := cells (HE.out.below hV)
    rw [HLv.out] at q1
    exact ⟨q0, q1, q2⟩
  have HCl := Lib.hid hcell
  have hset : ∀ (V : World) (i : Nat) (u : Value) (j : Nat), (V.setCell ⟨w.heap.size, i, none⟩ u).cell? ⟨a.eb, j, none⟩ = V.cell? ⟨a.eb, j, none⟩ := fun V i u j => by
    unfold World.cell?
    rw [Below.heap_setCell _ _ _ _ HNe.out]
  have HSt := Lib.hid hset
  clear c0 c1 c2 c3 c4 c5 c6 c7 hbb htb hcell hset hz
  go_region_held3 (fun w' => w'.cell? ⟨a.eb, 0, none⟩ = some (.pointer (some ⟨a.sb, 0, none⟩)) ∧ w'.cell? ⟨a.eb, 1, none⟩ = some (.slice al E.own.length cap) ∧ w'.cell? ⟨a.eb, 2, none⟩ = some (.pointer (some ⟨a.cb, 0, none⟩)))
    (first
      | exact ⟨m0, m1, m2⟩
      | exact HCl.out _ hb1
      | exact HCl.out _ hb2
      | exact HCl.out _ hb3
      | (simp only [HSt.out]; exact HCl.out _ hb3))
    (first
      | (go_at_call 67
         refine (Sp.copy (HE.out.below (by first | exact Below.refl _ _ | exact (Below.refl _ _).drew)).sp).mono ?_
         rintro e w1 ⟨so, mo, C, rfl, hs1, hcc, hf1, hb1'⟩
         have hb1 : Below W.heap.size W w1 := below_th (by first | exact Below.refl _ _ | exact (Below.refl _ _).drew) hb1')
      | (go_at_call 57
         refine (by have hcl := Sl.clone2 (HE.out.below hb1).ls H.out.ok.len; rw [HLv.out] at hcl; exact hcl : Calls Tryz.prog 57 #[.slice al E.own.length cap] w1 _).mono ?_
         rintro e w2 ⟨v2, rfl, hl2, hv2, hb2'⟩
         obtain ⟨o2, k2, rfl⟩ := SlV.form hl2
         have hb2 : Below W.heap.size W w2 := below_th hb1 hb2')
      | (go_at_call 68
         refine (Cp.copy (HE.out.below hb2).cp).mono ?_
         rintro e w3 ⟨rfl, hc3, hb3'⟩
         have hb3 : Below W.heap.size W w3 := below_th hb2 hb3'
         have ht3 := (hb3.block _ hwl).trans HT.out
         have y0 : w3.cell? ⟨w.heap.size, 0, none⟩ = some (.pointer (some ⟨a.sb, 0, none⟩)) := by unfold World.cell?; rw [ht3]; rfl
         have y1 : w3.cell? ⟨w.heap.size, 1, none⟩ = some (.slice al E.own.length cap) := by unfold World.cell?; rw [ht3]; rfl
         have y2 : w3.cell? ⟨w.heap.size, 2, none⟩ = some (.pointer (some ⟨a.cb, 0, none⟩)) := by unfold World.cell?; rw [ht3]; rfl
         have f0 : w3.frozen? ⟨w.heap.size, 0, none⟩ = false := by unfold World.frozen?; rw [ht3]; rfl
         have f1 : w3.frozen? ⟨w.heap.size, 1, none⟩ = false := by unfold World.frozen?; rw [ht3]; rfl
         have f2 : w3.frozen? ⟨w.heap.size, 2, none⟩ = false := by unfold World.frozen?; rw [ht3]; rfl))
  have hz1 := hb1'.size
  have hz2 := hb2'.size
  have hz3 := hb3'.size
  have hfw : ∀ k, Spc.foot so mo C k → W.heap.size ≤ k := hf1
  have hzw : W.heap.size ≤ w1.heap.size := hb1.size
  have hm : Mod (fun i => i = w.heap.size) w3 (((w3.setCell ⟨w.heap.size, 0, none⟩ (.pointer (some ⟨so, 0, none⟩))).setCell ⟨w.heap.size, 1, none⟩ (.slice o2 E.own.length k2)).setCell ⟨w.heap.size, 2, none⟩ (.pointer (some ⟨w2.heap.size, 0, none⟩))) := Mod.setCell (F := fun i => i = w.heap.size) (Mod.setCell (F := fun i => i = w.heap.size) (Mod.setCell (F := fun i => i = w.heap.size) (Mod.refl _ _) ⟨w.heap.size, 0, none⟩ (.inl rfl) _) ⟨w.heap.size, 1, none⟩ (.inl rfl) _) ⟨w.heap.size, 2, none⟩ (.inl rfl) _
  have q1 := heap_setCell_same w3 w.heap.size 0 _ _ (.pointer (some ⟨so, 0, none⟩)) ht3
  have q2 := heap_setCell_same _ w.heap.size 1 _ _ (.slice o2 E.own.length k2) q1
  have q3 := heap_setCell_same _ w.heap.size 2 _ _ (.pointer (some ⟨w2.heap.size, 0, none⟩)) q2
  have hzx := hm.size
  have hgl : ∀ g, (Value.slice o2 E.own.length k2).ownBlock = some g → w1.heap.size ≤ g ∧ g < w2.heap.size := hv2
  have hlx : Sl.Lst w3 (.slice o2 E.own.length k2) E.own := hl2.frame fun g hg => hb3'.block _ (hgl g hg).2
  have henv : Env _ ⟨w.heap.size, so, mo, w2.heap.size, .slice o2 E.own.length k2⟩ { E with A := C } :=
    { blk := q3, cp := hc3.keep hm (by show ¬ w2.heap.size = w.heap.size; omega), sp := ((hs1.below hb2' fun _ hk => hs1.lt hk).below hb3' fun k hk => Nat.lt_of_lt_of_le (hs1.lt hk) hz2).keep hm (fun k hk g => by have := hfw k hk; omega), ls := hlx.keep hm (fun g hg => Nat.lt_of_lt_of_le (hgl g hg).2 hz3) (fun g hg e => by have := (hgl g hg).1; omega), ec := by show w.heap.size ≠ w2.heap.size; omega, es := fun g => by have h1 : W.heap.size ≤ w.heap.size := hfw _ g; omega, cs := fun g => absurd (hs1.lt g) (Nat.not_lt.2 hz2), le := fun g hg => ⟨by have := (hgl g hg).2; omega, (by have := (hgl g hg).1; show g ≠ w.heap.size; omega), (by have := (hgl g hg).2; show g ≠ w2.heap.size; omega), fun q => absurd (hs1.lt q) (Nat.not_lt.2 (hgl g hg).1)⟩, ok := ⟨H.out.ok.up, H.out.ok.may, fun x hx => by
        have := H.out.ok.has x hx
        rw [isSome_addr] at this ⊢
        have ha := Cor.addrs_eq hcc
        unfold Pag.addrs at ha
        show x ∈ C.map Pg.addr
        rw [ha]
        exact this, H.out.ok.text⟩ }
  have HFin := Lib.hid (HF1.out _ _ _ henv ⟨rfl, rfl, rfl, rfl, rfl, rfl, hcc, rfl, rfl⟩ (fun k hk => by
    rcases hk with g | g | g | g
    · exact Nat.le_of_eq g.symm
    · have : k = w2.heap.size := g
      omega
    · have := hfw k g
      omega
    · have := (hgl k g).1
      omega) (Mod.below ((HB.out.trans (hb3.mono HB.out.size))) hm (by omega) fun i _ hi => Nat.le_of_eq hi.symm))
  go_wp2
  go_ret
  first
    | exact HFin.out
    | (obtain ⟨a2, E2, e1, e2, e3, e4, e5⟩ := HFin.out; first | exact ⟨a2, e1, E2, e2, e3, e4, e5⟩ | exact ⟨a2, E2, e1, e2, e3, e4, e5⟩)
end
end Ev
end Go.Proofs.YtkbhokmnbpnlbaaGreat
/- The walk of aediculelaw21.Same. -/
namespace Go.Proofs.YtkbhokmnbpnlbaaGreat
open Go.RowKit Word
set_option linter.unusedVariables false
set_option linter.unusedSimpArgs false
namespace Cp
set_option maxRecDepth 100000 in
set_option maxHeartbeats 8000000 in
theorem sameE {w0 w : World} {a : EAt} {E : En} {b : RAt} {R : List Rp} {F : En} (h : EPair w0 w a E b R F) (hl : En.Like E F) :
    Calls Tryz.prog 34 #[.pointer (some ⟨a.eb, 0, none⟩), .pointer (some ⟨b.eb, 0, none⟩)] w fun e w' => e = .returned (.bool true) ∧ Below w.heap.size w w' := by
  have HP := Lib.hid fun V (hV : Below w.heap.size w V) => h.below hV
  have HL := Lib.hid hl
  have HOk := Lib.hid h.env.ok.len
  have HOkF := Lib.hid h.ren.ok.len
  have HB0 := Lib.hid (Below.refl w.heap.size w)
  obtain ⟨ao, ac, how⟩ := SlV.form h.ren.ls
  have HOw := Lib.hid how
  have hcell : ∀ V, Below w.heap.size w V → V.cell? ⟨b.eb, 0, none⟩ = some (.int .i64 E.num) ∧ V.cell? ⟨b.eb, 1, none⟩ = some (.pointer (some ⟨b.rb, 0, none⟩)) ∧ V.cell? ⟨b.eb, 2, none⟩ = some (.pointer (some ⟨b.cb, 0, none⟩)) ∧ V.cell? ⟨b.eb, 3, none⟩ = some (.int .u8 E.kind) ∧ V.cell? ⟨b.eb, 4, none⟩ = some (.int .u32 E.code) ∧ V.cell? ⟨b.eb, 5, none⟩ = some (.int .i64 E.why) ∧ V.cell? ⟨b.eb, 6, none⟩ = some (.slice ao E.own.length ac) ∧ V.cell? ⟨b.eb, 7, none⟩ = some (.string E.text) := fun V hV => by
    have hc := Rv.cells (h.below hV).ren
    rw [how, ← hl.num, ← hl.kind, ← hl.code, ← hl.why, ← hl.text, ← hl.own] at hc
    exact hc
  have HCl := Lib.hid hcell
  have hcpu := Ev.cpu h.env
  have hspc := Ev.space h.env
  have HCpu := Lib.hid hcpu
  have HSpc := Lib.hid hspc
  have HAp := Lib.hid h.apart
  clear h hl how hcell hcpu hspc
  go_enter Tryz.func34, Tryz.ntmps34
  go_wp2_with fail
  refine HCpu.out.mono ?_
  rintro e w1 ⟨rfl, rfl⟩
  go_wp2_with fail
  refine HSpc.out.mono ?_
  rintro e w1 ⟨rfl, rfl⟩
  go_wp2_with fail
  have m := HCl.out _ (Below.refl _ w)
  have se := fun W => eqState E.kind E.code E.why W
  obtain ⟨m0, m1, m2, m3, m4, m5, m6, m7⟩ := m
  go_region_held3 (fun w' => w'.cell? ⟨b.eb, 0, none⟩ = some (.int .i64 E.num) ∧ w'.cell? ⟨b.eb, 1, none⟩ = some (.pointer (some ⟨b.rb, 0, none⟩)) ∧ w'.cell? ⟨b.eb, 2, none⟩ = some (.pointer (some ⟨b.cb, 0, none⟩)) ∧ w'.cell? ⟨b.eb, 3, none⟩ = some (.int .u8 E.kind) ∧ w'.cell? ⟨b.eb, 4, none⟩ = some (.int .u32 E.code) ∧ w'.cell? ⟨b.eb, 5, none⟩ = some (.int .i64 E.why) ∧ w'.cell? ⟨b.eb, 6, none⟩ = some (.slice ao E.own.length ac) ∧ w'.cell? ⟨b.eb, 7, none⟩ = some (.string E.text))
    (first
      | exact ⟨m0, m1, m2, m3, m4, m5, m6, m7⟩
      | exact HCl.out _ hb2
      | exact HCl.out _ hb3
      | exact HCl.out _ hb4
      | exact HCl.out _ hb5
      | exact HCl.out _ hb6)
    (first
      | (go_at_call 81
         refine (Ev.num (HP.out _ (by first | exact Below.refl _ _ | exact (Below.refl _ _).drew)).env).mono ?_
         rintro e x1 ⟨rfl, rfl⟩)
      | (go_at_call 31
         refine (Ev.state (HP.out _ (by first | exact Below.refl _ _ | exact (Below.refl _ _).drew)).env).mono ?_
         rintro e x2 ⟨rfl, hx2⟩
         have hb2 : Below w.heap.size w x2 := below_th (by first | exact Below.refl _ _ | exact (Below.refl _ _).drew) hx2)
      | (go_at_call 48
         refine (Ev.console (HP.out _ hb2).env).mono ?_
         rintro e x3 ⟨rfl, rfl⟩)
      | (go_at_call 64
         refine (Ev.own (HP.out _ hb2).env).mono ?_
         rintro e x3 ⟨v3, rfl, hl3, hv3, hx3⟩
         have hb3 : Below w.heap.size w x3 := below_th hb2 hx3
         obtain ⟨o3, k3, rfl, hw3⟩ := hl3.words HOk.out
         have hls := (HP.out _ hb3).ren.ls
         rw [HOw.out, ← HL.out.own] at hls
         obtain ⟨o4, k4, he4, hw4⟩ := Sl.Lst.words hls HOk.out
         simp only [Value.slice.injEq] at he4
         obtain ⟨rfl, _, rfl⟩ := he4
         have HSw := Lib.hid (Rs.sameWords (ca := k3) (cb := ac) hw3 hw4)
         rw [decide_eq_true rfl] at HSw)
      | (go_at_call 82
         refine HSw.out.mono ?_
         rintro e x4 ⟨rfl, hx4⟩
         have hb4 : Below w.heap.size w x4 := below_th hb3 hx4)
      | (go_at_call 24
         refine (Ev.cpu (HP.out _ hb4).env).mono ?_
         rintro e x5 ⟨rfl, rfl⟩)
      | (go_at_call 83
         refine (by have h5 := (HP.out _ hb4).ren.cp; rw [← HL.out.r, ← HL.out.pc] at h5; exact same06 (HP.out _ hb4).env.cp h5 : Calls Tryz.prog 83 #[.pointer (some ⟨a.cb, 0, none⟩), .pointer (some ⟨b.cb, 0, none⟩)] x4 _).mono ?_
         rintro e x5 ⟨rfl, hx5⟩
         have hb5 : Below w.heap.size w x5 := below_th hb4 hx5)
      | (go_at_call 23
         refine (Ev.space (HP.out _ hb5).env).mono ?_
         rintro e x6 ⟨rfl, rfl⟩)
      | (go_at_call 84
         refine (Sp.same (⟨(HP.out _ hb5).env.sp, (HP.out _ hb5).ren.rp, fun k hk g => HAp.out k (.inr (.inr (.inl hk))) (.inr (.inr (.inl g)))⟩ : Pair _ a.sb a.mb E.A b.rb b.lv R) (by rw [(HP.out _ hb5).ren.eq]; exact HL.out.A)).mono ?_
         rintro e x6 ⟨rfl, hx6⟩
         have hb6 : Below w.heap.size w x6 := below_th hb5 hx6))
  have HF := Lib.hid hb6
  clear m0 m1 m2 m3 m4 m5 m6 m7 hb2 hb3 hb4 hb5 hx2 hx3 hx4 hx5 hx6 hl3 hv3 hw3 hls hw4 HSw HP HCl se
  go_wp2
  go_ret
  exact ⟨rfl, HF.out⟩
end Cp
end Go.Proofs.YtkbhokmnbpnlbaaGreat
