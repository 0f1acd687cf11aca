/- TskW, Made21, Made in one text. -/
import Derived.Test.YtdmoohiepnbdaaaGreatEnTsk
import Derived.Test.YtdmoohiepnbdaaaGreatEnPair
import Derived.Test.YtdmoohiepnbdaaaGreatEnMade06
import Derived.Test.YtdmoohiepnbdaaaGreatEnPag
import Derived.Test.YtdmoohiepnbdaaaGreatEnEnvX
import Derived.StillTailTactics
import Derived.Test.YtdmoohiepnbdaaaGreatProg
import Derived.Test.YtdmoohiepnbdaaaGreatEnBase
import Derived.OwnWalk
namespace Go.Proofs.YtdmoohiepnbdaaaGreat
open Go.RowKit Word
set_option linter.unusedVariables false
set_option linter.unusedSimpArgs false
section
variable {α : Type} {a x : α} {l : List α} {i : Nat}
theorem Za (h : i < l.toArray.size) : l.toArray[i] = l[i]'(by simpa using h) := List.getElem_toArray h
theorem Zb (h : i + 1 < (a :: l).length) : (a :: l)[i + 1] = l[i]'(Nat.lt_of_succ_lt_succ h) := List.getElem_cons_succ ..
theorem Zc (h : 0 < (a :: l).length) : (a :: l)[0] = a := rfl
theorem Zd : l.toArray.setIfInBounds i x = (l.set i x).toArray := List.setIfInBounds_toArray ..
theorem Ze : (a :: l).set 0 x = x :: l := rfl
theorem Zf : (a :: l).set (i + 1) x = a :: l.set i x := rfl
end
namespace Kl
section
variable {W w : World} {tb : Nat} {a0 a : KAt} {K : Kn} {e0 e : EAt} {A0 : List Pg} {E : En} {x : Evt}
theorem bytes (h : Tk W w tb a0 e0 A0 a K e E x) (v n : Int) (v0 : 0 ≤ v) (v1 : v ≤ 4294967295) (n0 : 0 ≤ n) (n1 : n ≤ 4294967295) :
    Calls Tryz.prog 282 #[.pointer (some ⟨tb, 0, none⟩), .int .u32 v, .int .u32 n] w fun e w' => e = .returned (.tuple #[.string (Sp.getS E.A v n 1), .bool (Sp.getE E.A v n 1 == 0)]) ∧ Below w.heap.size w w' := by
  obtain ⟨c0, c1, c2, c3, c5⟩ := h.all
  have HS := Lib.hid (Ev.space h.s.j.en)
  have HR := Lib.hid (Sp.read h.s.j.en.sp v n v0 v1)
  clear h
  go_enter Tryz.func282, Tryz.ntmps282
  go_wp2_with fail
  refine HS.out.mono ?_
  rintro e w1 ⟨rfl, rfl⟩
  go_wp2_with fail
  refine HR.out.mono ?_
  rintro e w1 ⟨rfl, hb⟩
  have HB := Lib.hid hb
  clear hb
  go_wp2
  go_ret2
  exact ⟨rfl, HB.out⟩
theorem shows (h : Tk W w tb a0 e0 A0 a K e E x) (kd nm : Int) (t : ByteArray) :
    Calls Tryz.prog 183 #[.pointer (some ⟨tb, 0, none⟩), .agg #[.int .u8 kd, .int .i64 0, .string t, .int .u32 nm]] w fun r w' => r = .returned (.tuple #[]) ∧ Tk W w' tb a0 e0 A0 a K e E ⟨kd, 1, t, nm, true⟩ := by
  have hb : Below w.heap.size w (w.alloc (.cells #[.int .u8 kd, .int .i64 0, .string t, .int .u32 nm] 130)) := (Below.refl _ _).alloc (Nat.le_refl _) _
  have hbk := heap_alloc_new w (.cells #[.int .u8 kd, .int .i64 0, .string t, .int .u32 nm] 130)
  have h1 := h.below hb
  have hn := Ev.num h1.s.j.en
  rw [h.n1] at hn
  have hb2 : Below w.heap.size w (w.alloc (.cells #[.int .u8 kd, .int .i64 1, .string t, .int .u32 nm] 130)) := (Below.refl _ _).alloc (Nat.le_refl _) _
  have hbk2 := heap_alloc_new w (.cells #[.int .u8 kd, .int .i64 1, .string t, .int .u32 nm] 130)
  have h2 := h.below hb2
  have HFin := Lib.hid (h2.show' ⟨kd, 1, t, nm, true⟩)
  unfold Tk.put at HFin
  have HN := Lib.hid hn
  obtain ⟨c0, c1, _⟩ := h1.all
  have hcl : ∀ i v, #[Value.int .u8 kd, .int .i64 1, .string t, .int .u32 nm][i]? = some v → (w.alloc (.cells #[.int .u8 kd, .int .i64 1, .string t, .int .u32 nm] 130)).cell? ⟨w.heap.size, i, none⟩ = some v := fun i v hi => by
    unfold World.cell?
    rw [hbk2]
    exact hi
  have y0 : (w.alloc (.cells #[.int .u8 kd, .int .i64 1, .string t, .int .u32 nm] 130)).cell? ⟨w.heap.size, 0, none⟩ = some (.int .u8 kd) := hcl 0 _ rfl
  have y1 : (w.alloc (.cells #[.int .u8 kd, .int .i64 1, .string t, .int .u32 nm] 130)).cell? ⟨w.heap.size, 1, none⟩ = some (.int .i64 1) := hcl 1 _ rfl
  have y2 : (w.alloc (.cells #[.int .u8 kd, .int .i64 1, .string t, .int .u32 nm] 130)).cell? ⟨w.heap.size, 2, none⟩ = some (.string t) := hcl 2 _ rfl
  have y3 : (w.alloc (.cells #[.int .u8 kd, .int .i64 1, .string t, .int .u32 nm] 130)).cell? ⟨w.heap.size, 3, none⟩ = some (.int .u32 nm) := hcl 3 _ rfl
  have f1 : (w.alloc (.cells #[.int .u8 kd, .int .i64 0, .string t, .int .u32 nm] 130)).frozen? ⟨w.heap.size, 1, none⟩ = false := by unfold World.frozen?; rw [hbk]; rfl
  have ft := fun i => h2.free i
  obtain ⟨d0, d1, _⟩ := h2.all
  have d2 : (w.alloc (.cells #[.int .u8 kd, .int .i64 1, .string t, .int .u32 nm] 130)).cell? ⟨tb, 2, none⟩ = some (.int .u8 x.kind) := h2.cell 2 _ rfl
  have d3 : (w.alloc (.cells #[.int .u8 kd, .int .i64 1, .string t, .int .u32 nm] 130)).cell? ⟨tb, 3, none⟩ = some (.int .i64 x.env) := h2.cell 3 _ rfl
  have d4 : (w.alloc (.cells #[.int .u8 kd, .int .i64 1, .string t, .int .u32 nm] 130)).cell? ⟨tb, 4, none⟩ = some (.string x.text) := h2.cell 4 _ rfl
  have d5 : (w.alloc (.cells #[.int .u8 kd, .int .i64 1, .string t, .int .u32 nm] 130)).cell? ⟨tb, 5, none⟩ = some (.int .u32 x.num) := h2.cell 5 _ rfl
  have d6 : (w.alloc (.cells #[.int .u8 kd, .int .i64 1, .string t, .int .u32 nm] 130)).cell? ⟨tb, 6, none⟩ = some (.bool x.seen) := h2.cell 6 _ rfl
  clear hn hb hb2 hbk hbk2 h h1 h2 hcl
  go_enter Tryz.func183, Tryz.ntmps183
  go_wp2_with fail
  refine HN.out.mono ?_
  rintro r w1 ⟨rfl, rfl⟩
  go_upto_region 2 with (fail)
  clear c0 c1 f1 HN
  generalize (w.alloc (.cells #[.int .u8 kd, .int .i64 1, .string t, .int .u32 nm] 130)) = V at *
  go_wp2
  first
    | (go_end0; exact ⟨rfl, HFin.out⟩)
    | exact ⟨rfl, HFin.out⟩
set_option maxRecDepth 100000 in
set_option maxHeartbeats 8000000 in
theorem put (h : Tk W w tb a0 e0 A0 a K e E x) : Calls Tryz.prog 242 #[.pointer (some ⟨tb, 0, none⟩)] w (CallPost W tb a0 e0 A0 x fun _ => Co.put K E (E.arg 1) (E.arg 2)) := by
  have hbd1 := arg_bd h.s.j.en 1
  have HA1 := Lib.hid fun V (hV : Below w.heap.size w V) => Ev.arg (h.s.j.en.below hV) 1 (by omega) (by omega)
  generalize E.arg 1 = v1 at *
  obtain ⟨v10, v11⟩ := hbd1
  have hbd2 := arg_bd h.s.j.en 2
  have HA2 := Lib.hid fun V (hV : Below w.heap.size w V) => Ev.arg (h.s.j.en.below hV) 2 (by omega) (by omega)
  generalize E.arg 2 = v2 at *
  obtain ⟨v20, v21⟩ := hbd2
  have HN := Lib.hid fun V (hV : Below w.heap.size w V) => (Ev.num (h.below hV).s.j.en)
  rw [h.n1] at HN
  have hdr := h.below (Below.refl _ _).drew
  have hD := hdr.all
  obtain ⟨c0, c1, c2, c3, c5⟩ := h.all
  have HT := Lib.hid fun V (hV : Below w.heap.size w V) => h.below hV
  have HCo := Lib.hid (Ca.console hdr.s.j.kn.caps)
  cases hq : Gp.con K.g with
  | false =>
    have HFin := Lib.hid fun V (hV : Tk W V tb a0 e0 A0 a K e E x) => fin_no hV (f := fun _ => Co.put K E v1 v2) 1 fun b => by unfold Co.put; rw [if_pos hq]
    generalize CallPost W tb a0 e0 A0 x (fun _ => Co.put K E v1 v2) = PQ at *
    rw [hq] at HCo
    clear h hdr hq
    go_enter Tryz.func242, Tryz.ntmps242
    go_wp2_with fail
    refine (HA2.out _ (Below.refl _ _)).mono ?_
    rintro e w1 ⟨rfl, rfl⟩
    go_wp2_with fail
    refine wp_region_held (S := fun w' => w'.cell? ⟨tb, 0, none⟩ = some (.pointer (some ⟨a.kb, 0, none⟩)) ∧ w'.cell? ⟨tb, 1, none⟩ = some (.pointer (some ⟨e.eb, 0, none⟩)) ∧ w'.cell? ⟨a.kb, 2, none⟩ = some (.pointer (some ⟨a.c.cb, 0, none⟩)) ∧ w'.cell? ⟨a.kb, 3, none⟩ = some (.pointer (some ⟨a.nb, 0, none⟩)) ∧ w'.cell? ⟨a.kb, 5, none⟩ = some (.int .u32 K.now)) (by kernel_rfl) ?_
    refine H_take (i := 0) (v := ?_) rfl (by kernel_rfl) (by kernel_rfl) (by kernel_rfl) (fun _ _ _ h => h) (Or.inl ⟨by rfl, ?_⟩) hD ?_
    rotate_left
    · intro W hW; obtain ⟨k0, k1, k2, k3, k5⟩ := hW; go_simp; try with_reducible rfl
    try simp only [Act.put, Za, Zb, Zc, Zd, Ze, Zf]
    refine H_take (i := 1) (v := ?_) rfl (by kernel_rfl) (by kernel_rfl) (by kernel_rfl) (fun _ _ _ h => h) (Or.inl ⟨by rfl, ?_⟩) hD ?_
    rotate_left
    · intro W hW; obtain ⟨k0, k1, k2, k3, k5⟩ := hW; go_simp; try with_reducible rfl
    try simp only [Act.put, Za, Zb, Zc, Zd, Ze, Zf]
    refine H_take (i := 2) (v := ?_) rfl (by kernel_rfl) (by kernel_rfl) (by kernel_rfl) (fun _ _ _ h => h) (Or.inl ⟨by rfl, ?_⟩) hD ?_
    rotate_left
    · intro W hW; obtain ⟨k0, k1, k2, k3, k5⟩ := hW; go_simp; try with_reducible rfl
    try simp only [Act.put, Za, Zb, Zc, Zd, Ze, Zf]
    refine H_take (i := 3) (v := ?_) rfl (by kernel_rfl) (by kernel_rfl) (by kernel_rfl) (fun _ _ _ h => h) (Or.inl ⟨by rfl, ?_⟩) hD ?_
    rotate_left
    · intro W hW; obtain ⟨k0, k1, k2, k3, k5⟩ := hW; go_simp; try with_reducible rfl
    try simp only [Act.put, Za, Zb, Zc, Zd, Ze, Zf]
    refine H_take (i := 4) (v := ?_) rfl (by kernel_rfl) (by kernel_rfl) (by kernel_rfl) (fun _ _ _ h => h) (Or.inl ⟨by rfl, ?_⟩) hD ?_
    rotate_left
    · intro W hW; obtain ⟨k0, k1, k2, k3, k5⟩ := hW; go_simp; try with_reducible rfl
    try simp only [Act.put, Za, Zb, Zc, Zd, Ze, Zf]
    refine H_take (i := 5) (v := ?_) rfl (by kernel_rfl) (by kernel_rfl) (by kernel_rfl) (fun _ _ _ h => h) (Or.inl ⟨by rfl, ?_⟩) hD ?_
    rotate_left
    · intro W hW; obtain ⟨k0, k1, k2, k3, k5⟩ := hW; go_simp; try with_reducible rfl
    try simp only [Act.put, Za, Zb, Zc, Zd, Ze, Zf]
    refine H_take (i := 6) (v := ?_) rfl (by kernel_rfl) (by kernel_rfl) (by kernel_rfl) (fun _ _ _ h => h) (Or.inl ⟨by rfl, ?_⟩) hD ?_
    rotate_left
    · intro W hW; obtain ⟨k0, k1, k2, k3, k5⟩ := hW; go_simp; try with_reducible rfl
    try simp only [Act.put, Za, Zb, Zc, Zd, Ze, Zf]
    refine H_take (i := 7) (v := ?_) rfl (by kernel_rfl) (by kernel_rfl) (by kernel_rfl) (fun _ _ _ h => h) (Or.inl ⟨by rfl, ?_⟩) hD ?_
    rotate_left
    · intro W hW; obtain ⟨k0, k1, k2, k3, k5⟩ := hW; go_simp; try with_reducible rfl
    try simp only [Act.put, Za, Zb, Zc, Zd, Ze, Zf]
    refine H_take (i := 8) (v := ?_) rfl (by kernel_rfl) (by kernel_rfl) (by kernel_rfl) (fun _ _ _ h => h) (Or.inl ⟨by rfl, ?_⟩) hD ?_
    rotate_left
    · intro W hW; obtain ⟨k0, k1, k2, k3, k5⟩ := hW; go_simp; try with_reducible rfl
    try simp only [Act.put, Za, Zb, Zc, Zd, Ze, Zf]
    refine H_take (i := 9) (v := ?_) rfl (by kernel_rfl) (by kernel_rfl) (by kernel_rfl) (fun _ _ _ h => h) (Or.inl ⟨by rfl, ?_⟩) hD ?_
    rotate_left
    · intro W hW; obtain ⟨k0, k1, k2, k3, k5⟩ := hW; go_simp; try with_reducible rfl
    try simp only [Act.put, Za, Zb, Zc, Zd, Ze, Zf]
    refine H_take (i := 10) (v := ?_) rfl (by kernel_rfl) (by kernel_rfl) (by kernel_rfl) (fun _ _ _ h => h) (Or.inl ⟨by rfl, ?_⟩) hD ?_
    rotate_left
    · intro W hW; obtain ⟨k0, k1, k2, k3, k5⟩ := hW; go_simp; try with_reducible rfl
    try simp only [Act.put, Za, Zb, Zc, Zd, Ze, Zf]
    refine H_one (i := 11) (by kernel_rfl) rfl (fun K hK => ?_)
    go_simp
    go_at_call 72
    refine (HN.out _ (Below.refl _ _).drew).mono ?_
    rintro e x1 ⟨rfl, rfl⟩
    refine hK.out _ _ hD (fun _ => ?_)
    clear hK K
    try simp only [Act.put, Za, Zb, Zc, Zd, Ze, Zf]
    refine H_one (i := 12) (by kernel_rfl) rfl (fun K hK => ?_)
    go_simp
    go_at_call 286
    refine HCo.out.mono ?_
    rintro e x2 ⟨rfl, hb2⟩
    have HB2 : Hid (Below w.heap.size w x2) := Lib.hid ((Below.refl _ _).drew.trans hb2)
    have h2 := (HT.out _ HB2.out).all
    clear hb2
    refine hK.out _ _ h2 (fun _ => ?_)
    clear hK K
    try simp only [Act.put, Za, Zb, Zc, Zd, Ze, Zf]
    refine H_take (i := 13) (v := ?_) rfl (by kernel_rfl) (by kernel_rfl) (by kernel_rfl) (fun _ _ _ h => h) (Or.inl ⟨by rfl, ?_⟩) h2 ?_
    rotate_left
    · intro W hW; obtain ⟨k0, k1, k2, k3, k5⟩ := hW; go_simp; try with_reducible rfl
    try simp only [Act.put, Za, Zb, Zc, Zd, Ze, Zf]
    refine H_take (i := 14) (v := ?_) rfl (by kernel_rfl) (by kernel_rfl) (by kernel_rfl) (fun _ _ _ h => h) (Or.inl ⟨by rfl, ?_⟩) h2 ?_
    rotate_left
    · intro W hW; obtain ⟨k0, k1, k2, k3, k5⟩ := hW; go_simp; try with_reducible rfl
    try simp only [Act.put, Za, Zb, Zc, Zd, Ze, Zf]
    refine wpAnyH_done (by kernel_rfl) ?_ _
    have HK6 := Lib.hid (HFin.out _ (HT.out _ HB2.out))
    go_wp2
    exact HK6.out
  | true =>
    rw [hq] at HCo
    have hno : ¬ (Gp.con K.g = false) := by rw [hq]; decide
    by_cases q2 : 256 < v2
    · have HFin := Lib.hid fun V (hV : Tk W V tb a0 e0 A0 a K e E x) => fin_no hV (f := fun _ => Co.put K E v1 v2) 5 fun b => by unfold Co.put; rw [if_neg hno, if_pos q2]
      generalize CallPost W tb a0 e0 A0 x (fun _ => Co.put K E v1 v2) = PQ at *
      clear h hdr hq hno
      go_enter Tryz.func242, Tryz.ntmps242
      go_wp2_with fail
      refine (HA2.out _ (Below.refl _ _)).mono ?_
      rintro e w1 ⟨rfl, rfl⟩
      go_wp2_with fail
      refine wp_region_held (S := fun w' => w'.cell? ⟨tb, 0, none⟩ = some (.pointer (some ⟨a.kb, 0, none⟩)) ∧ w'.cell? ⟨tb, 1, none⟩ = some (.pointer (some ⟨e.eb, 0, none⟩)) ∧ w'.cell? ⟨a.kb, 2, none⟩ = some (.pointer (some ⟨a.c.cb, 0, none⟩)) ∧ w'.cell? ⟨a.kb, 3, none⟩ = some (.pointer (some ⟨a.nb, 0, none⟩)) ∧ w'.cell? ⟨a.kb, 5, none⟩ = some (.int .u32 K.now)) (by kernel_rfl) ?_
      refine H_take (i := 0) (v := ?_) rfl (by kernel_rfl) (by kernel_rfl) (by kernel_rfl) (fun _ _ _ h => h) (Or.inl ⟨by rfl, ?_⟩) hD ?_
      rotate_left
      · intro W hW; obtain ⟨k0, k1, k2, k3, k5⟩ := hW; go_simp; try with_reducible rfl
      try simp only [Act.put, Za, Zb, Zc, Zd, Ze, Zf]
      refine H_take (i := 1) (v := ?_) rfl (by kernel_rfl) (by kernel_rfl) (by kernel_rfl) (fun _ _ _ h => h) (Or.inl ⟨by rfl, ?_⟩) hD ?_
      rotate_left
      · intro W hW; obtain ⟨k0, k1, k2, k3, k5⟩ := hW; go_simp; try with_reducible rfl
      try simp only [Act.put, Za, Zb, Zc, Zd, Ze, Zf]
      refine H_take (i := 2) (v := ?_) rfl (by kernel_rfl) (by kernel_rfl) (by kernel_rfl) (fun _ _ _ h => h) (Or.inl ⟨by rfl, ?_⟩) hD ?_
      rotate_left
      · intro W hW; obtain ⟨k0, k1, k2, k3, k5⟩ := hW; go_simp; try with_reducible rfl
      try simp only [Act.put, Za, Zb, Zc, Zd, Ze, Zf]
      refine H_take (i := 3) (v := ?_) rfl (by kernel_rfl) (by kernel_rfl) (by kernel_rfl) (fun _ _ _ h => h) (Or.inl ⟨by rfl, ?_⟩) hD ?_
      rotate_left
      · intro W hW; obtain ⟨k0, k1, k2, k3, k5⟩ := hW; go_simp; try with_reducible rfl
      try simp only [Act.put, Za, Zb, Zc, Zd, Ze, Zf]
      refine H_take (i := 4) (v := ?_) rfl (by kernel_rfl) (by kernel_rfl) (by kernel_rfl) (fun _ _ _ h => h) (Or.inl ⟨by rfl, ?_⟩) hD ?_
      rotate_left
      · intro W hW; obtain ⟨k0, k1, k2, k3, k5⟩ := hW; go_simp; try with_reducible rfl
      try simp only [Act.put, Za, Zb, Zc, Zd, Ze, Zf]
      refine H_take (i := 5) (v := ?_) rfl (by kernel_rfl) (by kernel_rfl) (by kernel_rfl) (fun _ _ _ h => h) (Or.inl ⟨by rfl, ?_⟩) hD ?_
      rotate_left
      · intro W hW; obtain ⟨k0, k1, k2, k3, k5⟩ := hW; go_simp; try with_reducible rfl
      try simp only [Act.put, Za, Zb, Zc, Zd, Ze, Zf]
      refine H_take (i := 6) (v := ?_) rfl (by kernel_rfl) (by kernel_rfl) (by kernel_rfl) (fun _ _ _ h => h) (Or.inl ⟨by rfl, ?_⟩) hD ?_
      rotate_left
      · intro W hW; obtain ⟨k0, k1, k2, k3, k5⟩ := hW; go_simp; try with_reducible rfl
      try simp only [Act.put, Za, Zb, Zc, Zd, Ze, Zf]
      refine H_take (i := 7) (v := ?_) rfl (by kernel_rfl) (by kernel_rfl) (by kernel_rfl) (fun _ _ _ h => h) (Or.inl ⟨by rfl, ?_⟩) hD ?_
      rotate_left
      · intro W hW; obtain ⟨k0, k1, k2, k3, k5⟩ := hW; go_simp; try with_reducible rfl
      try simp only [Act.put, Za, Zb, Zc, Zd, Ze, Zf]
      refine H_take (i := 8) (v := ?_) rfl (by kernel_rfl) (by kernel_rfl) (by kernel_rfl) (fun _ _ _ h => h) (Or.inl ⟨by rfl, ?_⟩) hD ?_
      rotate_left
      · intro W hW; obtain ⟨k0, k1, k2, k3, k5⟩ := hW; go_simp; try with_reducible rfl
      try simp only [Act.put, Za, Zb, Zc, Zd, Ze, Zf]
      refine H_take (i := 9) (v := ?_) rfl (by kernel_rfl) (by kernel_rfl) (by kernel_rfl) (fun _ _ _ h => h) (Or.inl ⟨by rfl, ?_⟩) hD ?_
      rotate_left
      · intro W hW; obtain ⟨k0, k1, k2, k3, k5⟩ := hW; go_simp; try with_reducible rfl
      try simp only [Act.put, Za, Zb, Zc, Zd, Ze, Zf]
      refine H_take (i := 10) (v := ?_) rfl (by kernel_rfl) (by kernel_rfl) (by kernel_rfl) (fun _ _ _ h => h) (Or.inl ⟨by rfl, ?_⟩) hD ?_
      rotate_left
      · intro W hW; obtain ⟨k0, k1, k2, k3, k5⟩ := hW; go_simp; try with_reducible rfl
      try simp only [Act.put, Za, Zb, Zc, Zd, Ze, Zf]
      refine H_one (i := 11) (by kernel_rfl) rfl (fun K hK => ?_)
      go_simp
      go_at_call 72
      refine (HN.out _ (Below.refl _ _).drew).mono ?_
      rintro e x1 ⟨rfl, rfl⟩
      refine hK.out _ _ hD (fun _ => ?_)
      clear hK K
      try simp only [Act.put, Za, Zb, Zc, Zd, Ze, Zf]
      refine H_one (i := 12) (by kernel_rfl) rfl (fun K hK => ?_)
      go_simp
      go_at_call 286
      refine HCo.out.mono ?_
      rintro e x2 ⟨rfl, hb2⟩
      have HB2 : Hid (Below w.heap.size w x2) := Lib.hid ((Below.refl _ _).drew.trans hb2)
      have h2 := (HT.out _ HB2.out).all
      clear hb2
      refine hK.out _ _ h2 (fun _ => ?_)
      clear hK K
      try simp only [Act.put, Za, Zb, Zc, Zd, Ze, Zf]
      refine H_take (i := 13) (v := ?_) rfl (by kernel_rfl) (by kernel_rfl) (by kernel_rfl) (fun _ _ _ h => h) (Or.inl ⟨by rfl, ?_⟩) h2 ?_
      rotate_left
      · intro W hW; obtain ⟨k0, k1, k2, k3, k5⟩ := hW; go_simp; try with_reducible rfl
      try simp only [Act.put, Za, Zb, Zc, Zd, Ze, Zf]
      refine H_take (i := 14) (v := ?_) rfl (by kernel_rfl) (by kernel_rfl) (by kernel_rfl) (fun _ _ _ h => h) (Or.inl ⟨by rfl, ?_⟩) h2 ?_
      rotate_left
      · intro W hW; obtain ⟨k0, k1, k2, k3, k5⟩ := hW; go_simp; try with_reducible rfl
      try simp only [Act.put, Za, Zb, Zc, Zd, Ze, Zf]
      refine wpAnyH_done (by kernel_rfl) ?_ _
      have HK6 := Lib.hid (HFin.out _ (HT.out _ HB2.out))
      go_wp2
      exact HK6.out
    have HBy := Lib.hid fun V (hV : Below w.heap.size w V) => bytes (h.below hV) v1 v2 v10 v11 v20 v21
    by_cases hf : Sp.getE E.A v1 v2 1 = 0
    · have hfb : (Sp.getE E.A v1 v2 1 == 0) = true := by rw [hf]; rfl
      have hsz : (Sp.getS E.A v1 v2 1).size = v2.toNat := getS_size (by omega) hf
      have hsz2 : (Sp.getS E.A v1 v2 1).size ≤ 256 := by omega
      have hby : Kn.bytes E v1 v2 = some (Sp.getS E.A v1 v2 1) := by unfold Kn.bytes; rw [if_pos hf]
      have HFin1 := Lib.hid fun V (hV : Tk W V tb a0 e0 A0 a K e E x) (hy : E.putE (Sp.getS E.A v1 v2 1) ≠ 0) => fin_no hV (f := fun _ => Co.put K E v1 v2) 4 fun b => by unfold Co.put; rw [if_neg hno, if_neg q2, hby]; exact if_pos hy
      have HFin2 := Lib.hid fun V e' (hV : Tk W V tb a0 e0 A0 a K e' (E.put (Sp.getS E.A v1 v2 1)) x) (hy : E.putE (Sp.getS E.A v1 v2 1) = 0) (h0 : v2 = 0) => fin_of (f := fun _ => Co.put K E v1 v2) (c := ⟨v2, 0, K, E.put (Sp.getS E.A v1 v2 1), 0, Sp.getS E.A v1 v2 1⟩) (x := x) 0 (by show Co.put K E v1 v2 = _; unfold Co.put; rw [if_neg hno, if_neg q2, hby]; simp only; rw [if_neg (fun z => z hy), if_pos h0]) hV
      have HFin3 := Lib.hid fun V e' (hV : Tk W V tb a0 e0 A0 a K e' (E.put (Sp.getS E.A v1 v2 1)) ⟨1, 1, Sp.getS E.A v1 v2 1, 0, true⟩) (hy : E.putE (Sp.getS E.A v1 v2 1) = 0) (h0 : ¬ v2 = 0) => fin_of (f := fun _ => Co.put K E v1 v2) (c := ⟨v2, 0, K, E.put (Sp.getS E.A v1 v2 1), 1, Sp.getS E.A v1 v2 1⟩) (x := x) 0 (by show Co.put K E v1 v2 = _; unfold Co.put; rw [if_neg hno, if_neg q2, hby]; simp only; rw [if_neg (fun z => z hy), if_neg h0]) hV
      generalize CallPost W tb a0 e0 A0 x (fun _ => Co.put K E v1 v2) = PQ at *
      generalize Sp.getS E.A v1 v2 1 = s at *
      generalize Sp.getE E.A v1 v2 1 = ge at *
      have HPu := Lib.hid fun V (hV : Below w.heap.size w V) => Ev.put (h.below hV).s.j.en s (by omega)
      have HPt := Lib.hid fun V (hV : Below w.heap.size w V) V' (g : EStep V V' e E e (E.put s)) => (h.below hV).right g (put_num E s)
      clear hf hsz hby h hdr hq hno
      go_enter Tryz.func242, Tryz.ntmps242
      go_wp2_with fail
      refine (HA2.out _ (Below.refl _ _)).mono ?_
      rintro e w1 ⟨rfl, rfl⟩
      go_wp2_with fail
      refine wp_region_held (S := fun w' => w'.cell? ⟨tb, 0, none⟩ = some (.pointer (some ⟨a.kb, 0, none⟩)) ∧ w'.cell? ⟨tb, 1, none⟩ = some (.pointer (some ⟨e.eb, 0, none⟩)) ∧ w'.cell? ⟨a.kb, 2, none⟩ = some (.pointer (some ⟨a.c.cb, 0, none⟩)) ∧ w'.cell? ⟨a.kb, 3, none⟩ = some (.pointer (some ⟨a.nb, 0, none⟩)) ∧ w'.cell? ⟨a.kb, 5, none⟩ = some (.int .u32 K.now)) (by kernel_rfl) ?_
      refine H_take (i := 0) (v := ?_) rfl (by kernel_rfl) (by kernel_rfl) (by kernel_rfl) (fun _ _ _ h => h) (Or.inl ⟨by rfl, ?_⟩) hD ?_
      rotate_left
      · intro W hW; obtain ⟨k0, k1, k2, k3, k5⟩ := hW; go_simp; try with_reducible rfl
      try simp only [Act.put, Za, Zb, Zc, Zd, Ze, Zf]
      refine H_take (i := 1) (v := ?_) rfl (by kernel_rfl) (by kernel_rfl) (by kernel_rfl) (fun _ _ _ h => h) (Or.inl ⟨by rfl, ?_⟩) hD ?_
      rotate_left
      · intro W hW; obtain ⟨k0, k1, k2, k3, k5⟩ := hW; go_simp; try with_reducible rfl
      try simp only [Act.put, Za, Zb, Zc, Zd, Ze, Zf]
      refine H_take (i := 2) (v := ?_) rfl (by kernel_rfl) (by kernel_rfl) (by kernel_rfl) (fun _ _ _ h => h) (Or.inl ⟨by rfl, ?_⟩) hD ?_
      rotate_left
      · intro W hW; obtain ⟨k0, k1, k2, k3, k5⟩ := hW; go_simp; try with_reducible rfl
      try simp only [Act.put, Za, Zb, Zc, Zd, Ze, Zf]
      refine H_take (i := 3) (v := ?_) rfl (by kernel_rfl) (by kernel_rfl) (by kernel_rfl) (fun _ _ _ h => h) (Or.inl ⟨by rfl, ?_⟩) hD ?_
      rotate_left
      · intro W hW; obtain ⟨k0, k1, k2, k3, k5⟩ := hW; go_simp; try with_reducible rfl
      try simp only [Act.put, Za, Zb, Zc, Zd, Ze, Zf]
      refine H_take (i := 4) (v := ?_) rfl (by kernel_rfl) (by kernel_rfl) (by kernel_rfl) (fun _ _ _ h => h) (Or.inl ⟨by rfl, ?_⟩) hD ?_
      rotate_left
      · intro W hW; obtain ⟨k0, k1, k2, k3, k5⟩ := hW; go_simp; try with_reducible rfl
      try simp only [Act.put, Za, Zb, Zc, Zd, Ze, Zf]
      refine H_take (i := 5) (v := ?_) rfl (by kernel_rfl) (by kernel_rfl) (by kernel_rfl) (fun _ _ _ h => h) (Or.inl ⟨by rfl, ?_⟩) hD ?_
      rotate_left
      · intro W hW; obtain ⟨k0, k1, k2, k3, k5⟩ := hW; go_simp; try with_reducible rfl
      try simp only [Act.put, Za, Zb, Zc, Zd, Ze, Zf]
      refine H_take (i := 6) (v := ?_) rfl (by kernel_rfl) (by kernel_rfl) (by kernel_rfl) (fun _ _ _ h => h) (Or.inl ⟨by rfl, ?_⟩) hD ?_
      rotate_left
      · intro W hW; obtain ⟨k0, k1, k2, k3, k5⟩ := hW; go_simp; try with_reducible rfl
      try simp only [Act.put, Za, Zb, Zc, Zd, Ze, Zf]
      refine H_take (i := 7) (v := ?_) rfl (by kernel_rfl) (by kernel_rfl) (by kernel_rfl) (fun _ _ _ h => h) (Or.inl ⟨by rfl, ?_⟩) hD ?_
      rotate_left
      · intro W hW; obtain ⟨k0, k1, k2, k3, k5⟩ := hW; go_simp; try with_reducible rfl
      try simp only [Act.put, Za, Zb, Zc, Zd, Ze, Zf]
      refine H_take (i := 8) (v := ?_) rfl (by kernel_rfl) (by kernel_rfl) (by kernel_rfl) (fun _ _ _ h => h) (Or.inl ⟨by rfl, ?_⟩) hD ?_
      rotate_left
      · intro W hW; obtain ⟨k0, k1, k2, k3, k5⟩ := hW; go_simp; try with_reducible rfl
      try simp only [Act.put, Za, Zb, Zc, Zd, Ze, Zf]
      refine H_take (i := 9) (v := ?_) rfl (by kernel_rfl) (by kernel_rfl) (by kernel_rfl) (fun _ _ _ h => h) (Or.inl ⟨by rfl, ?_⟩) hD ?_
      rotate_left
      · intro W hW; obtain ⟨k0, k1, k2, k3, k5⟩ := hW; go_simp; try with_reducible rfl
      try simp only [Act.put, Za, Zb, Zc, Zd, Ze, Zf]
      refine H_take (i := 10) (v := ?_) rfl (by kernel_rfl) (by kernel_rfl) (by kernel_rfl) (fun _ _ _ h => h) (Or.inl ⟨by rfl, ?_⟩) hD ?_
      rotate_left
      · intro W hW; obtain ⟨k0, k1, k2, k3, k5⟩ := hW; go_simp; try with_reducible rfl
      try simp only [Act.put, Za, Zb, Zc, Zd, Ze, Zf]
      refine H_one (i := 11) (by kernel_rfl) rfl (fun K hK => ?_)
      go_simp
      go_at_call 72
      refine (HN.out _ (Below.refl _ _).drew).mono ?_
      rintro e x1 ⟨rfl, rfl⟩
      refine hK.out _ _ hD (fun _ => ?_)
      clear hK K
      try simp only [Act.put, Za, Zb, Zc, Zd, Ze, Zf]
      refine H_one (i := 12) (by kernel_rfl) rfl (fun K hK => ?_)
      go_simp
      go_at_call 286
      refine HCo.out.mono ?_
      rintro e x2 ⟨rfl, hb2⟩
      have HB2 : Hid (Below w.heap.size w x2) := Lib.hid ((Below.refl _ _).drew.trans hb2)
      have h2 := (HT.out _ HB2.out).all
      clear hb2
      refine hK.out _ _ h2 (fun _ => ?_)
      clear hK K
      try simp only [Act.put, Za, Zb, Zc, Zd, Ze, Zf]
      refine H_take (i := 13) (v := ?_) rfl (by kernel_rfl) (by kernel_rfl) (by kernel_rfl) (fun _ _ _ h => h) (Or.inl ⟨by rfl, ?_⟩) h2 ?_
      rotate_left
      · intro W hW; obtain ⟨k0, k1, k2, k3, k5⟩ := hW; go_simp; try with_reducible rfl
      try simp only [Act.put, Za, Zb, Zc, Zd, Ze, Zf]
      refine H_take (i := 14) (v := ?_) rfl (by kernel_rfl) (by kernel_rfl) (by kernel_rfl) (fun _ _ _ h => h) (Or.inl ⟨by rfl, ?_⟩) h2 ?_
      rotate_left
      · intro W hW; obtain ⟨k0, k1, k2, k3, k5⟩ := hW; go_simp; try with_reducible rfl
      try simp only [Act.put, Za, Zb, Zc, Zd, Ze, Zf]
      refine wpAnyH_done (by kernel_rfl) ?_ _
      clear c0 c1 c2 c3 c5 hD
      obtain ⟨c0, c1, c2, c3, c5⟩ := h2
      go_wp2_with fail
      refine (HA1.out _ HB2.out).mono ?_
      rintro e w3 ⟨rfl, rfl⟩
      go_wp2_with fail
      refine (HBy.out _ HB2.out).mono ?_
      rintro e w4 ⟨rfl, hb4⟩
      have HB4 := Lib.hid (below_th HB2.out hb4)
      clear hb4 c0 c1 c2 c3 c5
      obtain ⟨c0, c1, c2, c3, c5⟩ := (HT.out _ HB4.out).all
      by_cases hp : E.putE s = 0
      · have hpb : (E.putE s != 0) = false := by rw [hp]; rfl
        have HF2 := Lib.hid fun V e' hV h0 => HFin2.out V e' hV hp h0
        have HF3 := Lib.hid fun V e' hV h0 => HFin3.out V e' hV hp h0
        clear hp
        go_wp2_with fail
        refine (HPu.out _ HB4.out).mono ?_
        rintro e w5 ⟨rfl, hs5⟩
        have HK5 := Lib.hid (HPt.out _ HB4.out _ hs5)
        clear hs5 c0 c1 c2 c3 c5
        obtain ⟨c0, c1, c2, c3, c5⟩ := HK5.out.all
        by_cases h0 : v2 = 0
        · have hz : decide (v2 > 0) = false := decide_eq_false (by omega)
          have HK6 := Lib.hid (HF2.out _ _ HK5.out h0)
          clear h0
          go_wp2
          exact HK6.out
        · have hz : decide (v2 > 0) = true := decide_eq_true (by omega)
          have hz2 : 0 < v2 := by omega
          have HSh := Lib.hid (shows HK5.out 1 0 s)
          have HF4 := Lib.hid fun V e' hV => HF3.out V e' hV h0
          clear h0
          go_wp2_with fail
          refine HSh.out.mono ?_
          rintro e w8 ⟨rfl, h8⟩
          have HK8 := Lib.hid (HF4.out _ _ h8)
          clear h8
          go_wp2
          exact HK8.out
      · have hpb : (E.putE s != 0) = true := bne_iff_ne.2 hp
        have HSm := Lib.hid (put_same hp)
        have HF1 := Lib.hid fun V hV => HFin1.out V hV hp
        clear hp
        go_wp2_with fail
        refine (HPu.out _ HB4.out).mono ?_
        rintro e w5 ⟨rfl, hs5⟩
        have HK5 := Lib.hid (HPt.out _ HB4.out _ hs5)
        have HK6 := Lib.hid (HF1.out _ (by have := HK5.out; rw [HSm.out] at this; exact this))
        clear hs5
        go_wp2
        exact HK6.out
    · have hfb : (Sp.getE E.A v1 v2 1 == 0) = false := beq_eq_false_iff_ne.2 hf
      have HFin := Lib.hid fun V (hV : Tk W V tb a0 e0 A0 a K e E x) => (fin_no hV (f := fun _ => Co.put K E v1 v2) 2 fun b => by unfold Co.put Kn.bytes; rw [if_neg hno, if_neg q2, if_neg hf])
      generalize CallPost W tb a0 e0 A0 x (fun _ => Co.put K E v1 v2) = PQ at *
      generalize Sp.getS E.A v1 v2 1 = s at *
      generalize Sp.getE E.A v1 v2 1 = ge at *
      clear h hdr hq hf hno
      go_enter Tryz.func242, Tryz.ntmps242
      go_wp2_with fail
      refine (HA2.out _ (Below.refl _ _)).mono ?_
      rintro e w1 ⟨rfl, rfl⟩
      go_wp2_with fail
      refine wp_region_held (S := fun w' => w'.cell? ⟨tb, 0, none⟩ = some (.pointer (some ⟨a.kb, 0, none⟩)) ∧ w'.cell? ⟨tb, 1, none⟩ = some (.pointer (some ⟨e.eb, 0, none⟩)) ∧ w'.cell? ⟨a.kb, 2, none⟩ = some (.pointer (some ⟨a.c.cb, 0, none⟩)) ∧ w'.cell? ⟨a.kb, 3, none⟩ = some (.pointer (some ⟨a.nb, 0, none⟩)) ∧ w'.cell? ⟨a.kb, 5, none⟩ = some (.int .u32 K.now)) (by kernel_rfl) ?_
      refine H_take (i := 0) (v := ?_) rfl (by kernel_rfl) (by kernel_rfl) (by kernel_rfl) (fun _ _ _ h => h) (Or.inl ⟨by rfl, ?_⟩) hD ?_
      rotate_left
      · intro W hW; obtain ⟨k0, k1, k2, k3, k5⟩ := hW; go_simp; try with_reducible rfl
      try simp only [Act.put, Za, Zb, Zc, Zd, Ze, Zf]
      refine H_take (i := 1) (v := ?_) rfl (by kernel_rfl) (by kernel_rfl) (by kernel_rfl) (fun _ _ _ h => h) (Or.inl ⟨by rfl, ?_⟩) hD ?_
      rotate_left
      · intro W hW; obtain ⟨k0, k1, k2, k3, k5⟩ := hW; go_simp; try with_reducible rfl
      try simp only [Act.put, Za, Zb, Zc, Zd, Ze, Zf]
      refine H_take (i := 2) (v := ?_) rfl (by kernel_rfl) (by kernel_rfl) (by kernel_rfl) (fun _ _ _ h => h) (Or.inl ⟨by rfl, ?_⟩) hD ?_
      rotate_left
      · intro W hW; obtain ⟨k0, k1, k2, k3, k5⟩ := hW; go_simp; try with_reducible rfl
      try simp only [Act.put, Za, Zb, Zc, Zd, Ze, Zf]
      refine H_take (i := 3) (v := ?_) rfl (by kernel_rfl) (by kernel_rfl) (by kernel_rfl) (fun _ _ _ h => h) (Or.inl ⟨by rfl, ?_⟩) hD ?_
      rotate_left
      · intro W hW; obtain ⟨k0, k1, k2, k3, k5⟩ := hW; go_simp; try with_reducible rfl
      try simp only [Act.put, Za, Zb, Zc, Zd, Ze, Zf]
      refine H_take (i := 4) (v := ?_) rfl (by kernel_rfl) (by kernel_rfl) (by kernel_rfl) (fun _ _ _ h => h) (Or.inl ⟨by rfl, ?_⟩) hD ?_
      rotate_left
      · intro W hW; obtain ⟨k0, k1, k2, k3, k5⟩ := hW; go_simp; try with_reducible rfl
      try simp only [Act.put, Za, Zb, Zc, Zd, Ze, Zf]
      refine H_take (i := 5) (v := ?_) rfl (by kernel_rfl) (by kernel_rfl) (by kernel_rfl) (fun _ _ _ h => h) (Or.inl ⟨by rfl, ?_⟩) hD ?_
      rotate_left
      · intro W hW; obtain ⟨k0, k1, k2, k3, k5⟩ := hW; go_simp; try with_reducible rfl
      try simp only [Act.put, Za, Zb, Zc, Zd, Ze, Zf]
      refine H_take (i := 6) (v := ?_) rfl (by kernel_rfl) (by kernel_rfl) (by kernel_rfl) (fun _ _ _ h => h) (Or.inl ⟨by rfl, ?_⟩) hD ?_
      rotate_left
      · intro W hW; obtain ⟨k0, k1, k2, k3, k5⟩ := hW; go_simp; try with_reducible rfl
      try simp only [Act.put, Za, Zb, Zc, Zd, Ze, Zf]
      refine H_take (i := 7) (v := ?_) rfl (by kernel_rfl) (by kernel_rfl) (by kernel_rfl) (fun _ _ _ h => h) (Or.inl ⟨by rfl, ?_⟩) hD ?_
      rotate_left
      · intro W hW; obtain ⟨k0, k1, k2, k3, k5⟩ := hW; go_simp; try with_reducible rfl
      try simp only [Act.put, Za, Zb, Zc, Zd, Ze, Zf]
      refine H_take (i := 8) (v := ?_) rfl (by kernel_rfl) (by kernel_rfl) (by kernel_rfl) (fun _ _ _ h => h) (Or.inl ⟨by rfl, ?_⟩) hD ?_
      rotate_left
      · intro W hW; obtain ⟨k0, k1, k2, k3, k5⟩ := hW; go_simp; try with_reducible rfl
      try simp only [Act.put, Za, Zb, Zc, Zd, Ze, Zf]
      refine H_take (i := 9) (v := ?_) rfl (by kernel_rfl) (by kernel_rfl) (by kernel_rfl) (fun _ _ _ h => h) (Or.inl ⟨by rfl, ?_⟩) hD ?_
      rotate_left
      · intro W hW; obtain ⟨k0, k1, k2, k3, k5⟩ := hW; go_simp; try with_reducible rfl
      try simp only [Act.put, Za, Zb, Zc, Zd, Ze, Zf]
      refine H_take (i := 10) (v := ?_) rfl (by kernel_rfl) (by kernel_rfl) (by kernel_rfl) (fun _ _ _ h => h) (Or.inl ⟨by rfl, ?_⟩) hD ?_
      rotate_left
      · intro W hW; obtain ⟨k0, k1, k2, k3, k5⟩ := hW; go_simp; try with_reducible rfl
      try simp only [Act.put, Za, Zb, Zc, Zd, Ze, Zf]
      refine H_one (i := 11) (by kernel_rfl) rfl (fun K hK => ?_)
      go_simp
      go_at_call 72
      refine (HN.out _ (Below.refl _ _).drew).mono ?_
      rintro e x1 ⟨rfl, rfl⟩
      refine hK.out _ _ hD (fun _ => ?_)
      clear hK K
      try simp only [Act.put, Za, Zb, Zc, Zd, Ze, Zf]
      refine H_one (i := 12) (by kernel_rfl) rfl (fun K hK => ?_)
      go_simp
      go_at_call 286
      refine HCo.out.mono ?_
      rintro e x2 ⟨rfl, hb2⟩
      have HB2 : Hid (Below w.heap.size w x2) := Lib.hid ((Below.refl _ _).drew.trans hb2)
      have h2 := (HT.out _ HB2.out).all
      clear hb2
      refine hK.out _ _ h2 (fun _ => ?_)
      clear hK K
      try simp only [Act.put, Za, Zb, Zc, Zd, Ze, Zf]
      refine H_take (i := 13) (v := ?_) rfl (by kernel_rfl) (by kernel_rfl) (by kernel_rfl) (fun _ _ _ h => h) (Or.inl ⟨by rfl, ?_⟩) h2 ?_
      rotate_left
      · intro W hW; obtain ⟨k0, k1, k2, k3, k5⟩ := hW; go_simp; try with_reducible rfl
      try simp only [Act.put, Za, Zb, Zc, Zd, Ze, Zf]
      refine H_take (i := 14) (v := ?_) rfl (by kernel_rfl) (by kernel_rfl) (by kernel_rfl) (fun _ _ _ h => h) (Or.inl ⟨by rfl, ?_⟩) h2 ?_
      rotate_left
      · intro W hW; obtain ⟨k0, k1, k2, k3, k5⟩ := hW; go_simp; try with_reducible rfl
      try simp only [Act.put, Za, Zb, Zc, Zd, Ze, Zf]
      refine wpAnyH_done (by kernel_rfl) ?_ _
      clear c0 c1 c2 c3 c5 hD
      obtain ⟨c0, c1, c2, c3, c5⟩ := h2
      go_wp2_with fail
      refine (HA1.out _ HB2.out).mono ?_
      rintro e w3 ⟨rfl, rfl⟩
      go_wp2_with fail
      refine (HBy.out _ HB2.out).mono ?_
      rintro e w4 ⟨rfl, hb4⟩
      have HK6 := Lib.hid (HFin.out _ (HT.out _ (below_th HB2.out hb4)))
      clear hb4
      go_wp2
      exact HK6.out
end
end Kl
end Go.Proofs.YtdmoohiepnbdaaaGreat
namespace Go.Proofs.YtdmoohiepnbdaaaGreat
open Go.RowKit Word
set_option linter.unusedVariables false
set_option linter.unusedSimpArgs false
namespace Cp
def St.env (num : Int) (x : St) : En := ⟨num, 2, 0, 0, ByteArray.empty, [], x.pgs, x.regs, x.pc⟩
end Cp
end Go.Proofs.YtdmoohiepnbdaaaGreat
namespace Go.Proofs.YtdmoohiepnbdaaaGreat
open Go.RowKit
theorem infoByte : (Tryz.prog.info? 5).map (fun i => (i.zero, i.size, i.bytes)) = some (some (.int .u8 0), 1, 1) := by kernel_rfl
theorem run_makeBytes (n : Nat) (hn : n ≤ 140737488355328) (w : World) : (Instr.makeSlice 60 (.int .i64 n) (.int .i64 n)).run Tryz.prog w = .ok (.slice (some ⟨w.heap.size, 0, none⟩) n n) (w.alloc (.cells (List.replicate n (Value.int .u8 0)).toArray 5)) := by
  obtain ⟨i0, hi, hz0, hz1, hz2⟩ := info_parts infoByte
  have h := run_make (P := Tryz.prog) w 60 5 i0 (.int .u8 0) Tryz.underlying60 hi hz0 .i64 .i64 n n (by omega) (by omega) (by rw [hz2]; omega) (by omega)
  rw [h, hz1]
  have e : madeCells (Value.int .u8 0).cells ((n : Int).toNat * 1) = (List.replicate n (Value.int .u8 0)).toArray := by
    apply Array.toList_inj.1
    rw [show (Value.int .u8 0).cells = #[.int .u8 0] from rfl, toList_madeCells_one]
    simp
  rw [e]
  rfl
theorem made_str (n : Nat) (w : World) : (convert 60 9 (.slice (some ⟨w.heap.size, 0, none⟩) n n)).run Tryz.prog (w.alloc (.cells (List.replicate n (Value.int .u8 0)).toArray 5)) = .ok (.string (strOfNums (List.replicate n 0))) (w.alloc (.cells (List.replicate n (Value.int .u8 0)).toArray 5)) := by
  refine run_convert_bytes_arg (P := Tryz.prog) _ 60 5 Tryz.underlying60 Tryz.underlying5 w.heap.size 0 n n (List.replicate n 0) List.length_replicate (fun i hi => ?_) 9 Tryz.underlying9
  rw [Nat.zero_add, World.cell?_alloc_mark]
  simp [hi]
end Go.Proofs.YtdmoohiepnbdaaaGreat
