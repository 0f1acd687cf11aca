/- The walks of a call's methods: show, bytes, page, drop, read, write, send, recv, put. -/
import Derived.Test.YtkbhokmnbpnlbaaGreatTsk
import Derived.Test.YtkbhokmnbpnlbaaGreatPair
namespace Go.Proofs.YtkbhokmnbpnlbaaGreat
open Go.RowKit Word
set_option linter.unusedVariables false
set_option linter.unusedSimpArgs false
section
variable {α : Type} {a x : α} {l : List α} {i : Nat}
theorem Za (h : i < l.toArray.size) : l.toArray[i] = l[i]'(by simpa using h) := List.getElem_toArray h
theorem Zb (h : i + 1 < (a :: l).length) : (a :: l)[i + 1] = l[i]'(Nat.lt_of_succ_lt_succ h) := List.getElem_cons_succ ..
theorem Zc (h : 0 < (a :: l).length) : (a :: l)[0] = a := rfl
theorem Zd : l.toArray.setIfInBounds i x = (l.set i x).toArray := List.setIfInBounds_toArray ..
theorem Ze : (a :: l).set 0 x = x :: l := rfl
theorem Zf : (a :: l).set (i + 1) x = a :: l.set i x := rfl
end
namespace Kl
section
variable {W w : World} {tb : Nat} {a0 a : KAt} {K : Kn} {e0 e : EAt} {A0 : List Pg} {E : En} {x : Evt}
theorem yield (h : Tk W w tb a0 e0 A0 a K e E x) : Calls Tryz.prog 129 #[.pointer (some ⟨tb, 0, none⟩)] w (CallPost W tb a0 e0 A0 x fun _ => Co.no K E 0) := by
  have HFin : Hid (CallPost W tb a0 e0 A0 x (fun _ => Co.no K E 0) (.returned (.tuple #[.int .u32 0, .int .u32 0])) w) := Lib.hid ⟨0, a, e, rfl, h⟩
  generalize CallPost W tb a0 e0 A0 x (fun _ => Co.no K E 0) = PQ at *
  clear h
  go_enter Tryz.func129, Tryz.ntmps129
  go_wp2
  exact HFin.out
theorem time (h : Tk W w tb a0 e0 A0 a K e E x) : Calls Tryz.prog 137 #[.pointer (some ⟨tb, 0, none⟩)] w (CallPost W tb a0 e0 A0 x fun _ => ⟨K.now, 0, K, E, 0, ByteArray.empty⟩) := by
  have HFin : Hid (CallPost W tb a0 e0 A0 x (fun _ => ⟨K.now, 0, K, E, 0, ByteArray.empty⟩) (.returned (.tuple #[.int .u32 K.now, .int .u32 0])) w) := Lib.hid ⟨0, a, e, rfl, h⟩
  generalize CallPost W tb a0 e0 A0 x (fun _ => ⟨K.now, 0, K, E, 0, ByteArray.empty⟩) = PQ at *
  obtain ⟨c0, c1, c2, c3, c5⟩ := h.all
  clear h
  go_enter Tryz.func137, Tryz.ntmps137
  go_wp2
  exact HFin.out
theorem nicNext {w : World} {a : KAt} {K : Kn} (h : Knl w a K) (x : Int) (h0 : 0 ≤ x) (h1 : x < 65536) :
    Calls Tryz.prog 203 #[.pointer (some ⟨a.nb, 0, none⟩), .int .u16 x] w fun e w' => e = .returned (.tuple #[.string (Ni.nextS K.N x), .bool (Ni.nextB K.N x)]) ∧ w = w' := by
  obtain ⟨mb, V, sv, hn, _⟩ := h.nic
  exact Ni.next hn x h0 h1
theorem pop_q {S : Ni.NicS} (h : ∀ y t, t ∈ S.q y → t.size ≤ 128) (x : Int) : ∀ y t, t ∈ (Ni.popS S x).q y → t.size ≤ 128 := fun y t ht => by
  unfold Ni.popS at ht
  cases hq : S.q x with
  | nil => rw [hq] at ht; exact h y t ht
  | cons s r =>
    rw [hq] at ht
    have ht2 : t ∈ Ni.updQ S.q x r y := ht
    by_cases e : y = x
    · rw [e, Ni.updQ_same] at ht2
      exact h x t (by rw [hq]; exact List.mem_cons_of_mem _ ht2)
    · rw [Ni.updQ_other _ _ _ e] at ht2
      exact h y t ht2
theorem pop_g {S : Ni.NicS} (h : 0 ≤ S.gone) (x : Int) : 0 ≤ (Ni.popS S x).gone := by
  unfold Ni.popS
  cases hq : S.q x with
  | nil => exact h
  | cons s r => exact h
/-- What may be read of an environment's bytes. -/
theorem bytes (h : Tk W w tb a0 e0 A0 a K e E x) (v n : Int) (v0 : 0 ≤ v) (v1 : v ≤ 4294967295) (n0 : 0 ≤ n) (n1 : n ≤ 4294967295) :
    Calls Tryz.prog 201 #[.pointer (some ⟨tb, 0, none⟩), .int .u32 v, .int .u32 n] w fun e w' => e = .returned (.tuple #[.string (Sp.getS E.A v n 1), .bool (Sp.getE E.A v n 1 == 0)]) ∧ Below w.heap.size w w' := by
  obtain ⟨c0, c1, c2, c3, c5⟩ := h.all
  have HS := Lib.hid (Ev.space h.s.j.en)
  have HR := Lib.hid (Sp.read h.s.j.en.sp v n v0 v1)
  clear h
  go_enter Tryz.func201, Tryz.ntmps201
  go_wp2_with fail
  refine HS.out.mono ?_
  rintro e w1 ⟨rfl, rfl⟩
  go_wp2_with fail
  refine HR.out.mono ?_
  rintro e w1 ⟨rfl, hb⟩
  have HB := Lib.hid hb
  clear hb
  go_wp2
  go_ret2
  exact ⟨rfl, HB.out⟩
/-- Something is seen. -/
theorem shows (h : Tk W w tb a0 e0 A0 a K e E x) (kd nm : Int) (t : ByteArray) :
    Calls Tryz.prog 54 #[.pointer (some ⟨tb, 0, none⟩), .agg #[.int .u8 kd, .int .i64 0, .string t, .int .u32 nm]] w fun r w' => r = .returned (.tuple #[]) ∧ Tk W w' tb a0 e0 A0 a K e E ⟨kd, 1, t, nm, true⟩ := by
  have hb : Below w.heap.size w (w.alloc (.cells #[.int .u8 kd, .int .i64 0, .string t, .int .u32 nm] 39)) := (Below.refl _ _).alloc (Nat.le_refl _) _
  have hbk := heap_alloc_new w (.cells #[.int .u8 kd, .int .i64 0, .string t, .int .u32 nm] 39)
  have h1 := h.below hb
  have hn := Ev.num h1.s.j.en
  rw [h.n1] at hn
  have hb2 : Below w.heap.size w (w.alloc (.cells #[.int .u8 kd, .int .i64 1, .string t, .int .u32 nm] 39)) := (Below.refl _ _).alloc (Nat.le_refl _) _
  have hbk2 := heap_alloc_new w (.cells #[.int .u8 kd, .int .i64 1, .string t, .int .u32 nm] 39)
  have h2 := h.below hb2
  have HFin := Lib.hid (h2.show' ⟨kd, 1, t, nm, true⟩)
  unfold Tk.put at HFin
  have HN := Lib.hid hn
  obtain ⟨c0, c1, _⟩ := h1.all
  have hcl : ∀ i v, #[Value.int .u8 kd, .int .i64 1, .string t, .int .u32 nm][i]? = some v → (w.alloc (.cells #[.int .u8 kd, .int .i64 1, .string t, .int .u32 nm] 39)).cell? ⟨w.heap.size, i, none⟩ = some v := fun i v hi => by
    unfold World.cell?
    rw [hbk2]
    exact hi
  have y0 : (w.alloc (.cells #[.int .u8 kd, .int .i64 1, .string t, .int .u32 nm] 39)).cell? ⟨w.heap.size, 0, none⟩ = some (.int .u8 kd) := hcl 0 _ rfl
  have y1 : (w.alloc (.cells #[.int .u8 kd, .int .i64 1, .string t, .int .u32 nm] 39)).cell? ⟨w.heap.size, 1, none⟩ = some (.int .i64 1) := hcl 1 _ rfl
  have y2 : (w.alloc (.cells #[.int .u8 kd, .int .i64 1, .string t, .int .u32 nm] 39)).cell? ⟨w.heap.size, 2, none⟩ = some (.string t) := hcl 2 _ rfl
  have y3 : (w.alloc (.cells #[.int .u8 kd, .int .i64 1, .string t, .int .u32 nm] 39)).cell? ⟨w.heap.size, 3, none⟩ = some (.int .u32 nm) := hcl 3 _ rfl
  have f1 : (w.alloc (.cells #[.int .u8 kd, .int .i64 0, .string t, .int .u32 nm] 39)).frozen? ⟨w.heap.size, 1, none⟩ = false := by unfold World.frozen?; rw [hbk]; rfl
  have ft := fun i => h2.free i
  obtain ⟨d0, d1, _⟩ := h2.all
  have d2 : (w.alloc (.cells #[.int .u8 kd, .int .i64 1, .string t, .int .u32 nm] 39)).cell? ⟨tb, 2, none⟩ = some (.int .u8 x.kind) := h2.cell 2 _ rfl
  have d3 : (w.alloc (.cells #[.int .u8 kd, .int .i64 1, .string t, .int .u32 nm] 39)).cell? ⟨tb, 3, none⟩ = some (.int .i64 x.env) := h2.cell 3 _ rfl
  have d4 : (w.alloc (.cells #[.int .u8 kd, .int .i64 1, .string t, .int .u32 nm] 39)).cell? ⟨tb, 4, none⟩ = some (.string x.text) := h2.cell 4 _ rfl
  have d5 : (w.alloc (.cells #[.int .u8 kd, .int .i64 1, .string t, .int .u32 nm] 39)).cell? ⟨tb, 5, none⟩ = some (.int .u32 x.num) := h2.cell 5 _ rfl
  have d6 : (w.alloc (.cells #[.int .u8 kd, .int .i64 1, .string t, .int .u32 nm] 39)).cell? ⟨tb, 6, none⟩ = some (.bool x.seen) := h2.cell 6 _ rfl
  clear hn hb hb2 hbk hbk2 h h1 h2 hcl
  go_enter Tryz.func54, Tryz.ntmps54
  go_wp2_with fail
  refine HN.out.mono ?_
  rintro r w1 ⟨rfl, rfl⟩
  go_upto_region 2 with (fail)
  clear c0 c1 f1 HN
  generalize (w.alloc (.cells #[.int .u8 kd, .int .i64 1, .string t, .int .u32 nm] 39)) = V at *
  go_wp2
  first
    | (go_end0; exact ⟨rfl, HFin.out⟩)
    | exact ⟨rfl, HFin.out⟩
set_option maxRecDepth 100000 in
set_option maxHeartbeats 8000000 in
theorem page (h : Tk W w tb a0 e0 A0 a K e E x) : Calls Tryz.prog 130 #[.pointer (some ⟨tb, 0, none⟩)] w (CallPost W tb a0 e0 A0 x fun b => Co.page K E b (E.arg 1)) := by
  have hbd := arg_bd h.s.j.en 1
  have hA := Ev.arg h.s.j.en 1 (by omega) (by omega)
  generalize E.arg 1 = v at *
  obtain ⟨v0, v1⟩ := hbd
  have HA := Lib.hid hA
  have HS := Lib.hid (Ev.space h.s.j.en)
  have HP := Lib.hid (Sp.perm_any h.s.j.en.sp v v0 v1)
  obtain ⟨c0, c1, c2, c3, c5⟩ := h.all
  by_cases hp : Sp.permB E.A v = true ∨ En.mayP v = false
  · have HFin := Lib.hid (fin_no h (f := fun b => Co.page K E b v) 2 fun b => by unfold Co.page; rw [if_pos hp])
    generalize CallPost W tb a0 e0 A0 x (fun b => Co.page K E b v) = PQ at *
    cases hq : Sp.permB E.A v with
    | true =>
      rw [hq] at HP
      clear h hA hp hq
      go_enter Tryz.func130, Tryz.ntmps130
      go_wp2_with fail
      refine HA.out.mono ?_
      rintro e w1 ⟨rfl, rfl⟩
      go_wp2_with fail
      refine HS.out.mono ?_
      rintro e w1 ⟨rfl, rfl⟩
      go_wp2_with fail
      refine HP.out.mono ?_
      rintro e w1 ⟨rfl, rfl⟩
      go_wp2
      exact HFin.out
    | false =>
      have hm : En.mayP v = false := hp.resolve_left (by rw [hq]; decide)
      rw [hq] at HP
      have hb : (v % 256 == 0 && decide (256 ≤ v) && decide (v < 1048576)) = false := hm
      clear h hA hp hq hm
      by_cases g1 : v % 256 = 0
      · have g1b : (v % 256 != 0) = false := by rw [g1]; rfl
        by_cases g2 : v < 256
        · clear g1 hb
          go_enter Tryz.func130, Tryz.ntmps130
          go_wp2_with fail
          refine HA.out.mono ?_
          rintro e w1 ⟨rfl, rfl⟩
          go_wp2_with fail
          refine HS.out.mono ?_
          rintro e w1 ⟨rfl, rfl⟩
          go_wp2_with fail
          refine HP.out.mono ?_
          rintro e w1 ⟨rfl, rfl⟩
          go_wp2
          exact HFin.out
        · have g3 : 1048576 ≤ v := by
            rcases Int.lt_or_le v 1048576 with q | q
            · simp [g1, q] at hb; omega
            · exact q
          clear g1 hb
          go_enter Tryz.func130, Tryz.ntmps130
          go_wp2_with fail
          refine HA.out.mono ?_
          rintro e w1 ⟨rfl, rfl⟩
          go_wp2_with fail
          refine HS.out.mono ?_
          rintro e w1 ⟨rfl, rfl⟩
          go_wp2_with fail
          refine HP.out.mono ?_
          rintro e w1 ⟨rfl, rfl⟩
          go_wp2
          exact HFin.out
      · have g1b : (v % 256 != 0) = true := bne_iff_ne.2 g1
        clear g1 hb
        go_enter Tryz.func130, Tryz.ntmps130
        go_wp2_with fail
        refine HA.out.mono ?_
        rintro e w1 ⟨rfl, rfl⟩
        go_wp2_with fail
        refine HS.out.mono ?_
        rintro e w1 ⟨rfl, rfl⟩
        go_wp2_with fail
        refine HP.out.mono ?_
        rintro e w1 ⟨rfl, rfl⟩
        go_wp2
        exact HFin.out
  · have hq : Sp.permB E.A v = false := by cases q : Sp.permB E.A v with | true => exact absurd (.inl q) hp | false => rfl
    have hm : En.mayP v = true := by cases q : En.mayP v with | false => exact absurd (.inr q) hp | true => rfl
    rw [hq] at HP
    obtain ⟨g1, g2, g3⟩ := En.mayP_iff.1 hm
    have g1b : (v % 256 != 0) = false := by rw [g1]; rfl
    have hn1 := h.n1
    have HN := Lib.hid fun V (hV : Below w.heap.size w V) => (Ev.num (h.below hV).s.j.en)
    rw [hn1] at HN
    have hdr := h.below (Below.refl _ _).drew
    have hD := hdr.all
    have HT := Lib.hid (Ca.take hdr.s.j.kn.caps)
    have HTk := Lib.hid fun V' (g : Cps V' a.c K.hp (Gp.take K.g)) (g' : Mod (fun k => k = a.c.gb) w.drew V') => hdr.left (KStep.setCaps hdr.s.j.kn g g')
    by_cases ht : Gp.takeE K.g = 0
    · have htb : (Gp.takeE K.g != 0) = false := by rw [ht]; rfl
      have HFin := Lib.hid fun V blk e' (hV : Tk W V tb a0 e0 A0 a { K with g := Gp.take K.g } e' (E.page v blk) x) => fin_of (f := fun b => Co.page K E b v) (c := Co.no { K with g := Gp.take K.g } (E.page v blk) 0) blk (by show Co.page K E blk v = _; unfold Co.page; rw [if_neg hp, if_neg (by omega)]) hV
      generalize CallPost W tb a0 e0 A0 x (fun b => Co.page K E b v) = PQ at *
      clear h hA hp hq hm g1 hn1 ht hdr
      go_enter Tryz.func130, Tryz.ntmps130
      go_wp2_with fail
      refine HA.out.mono ?_
      rintro e w1 ⟨rfl, rfl⟩
      go_wp2_with fail
      refine HS.out.mono ?_
      rintro e w1 ⟨rfl, rfl⟩
      go_wp2_with fail
      refine HP.out.mono ?_
      rintro e w1 ⟨rfl, rfl⟩
      go_wp2_with fail
      refine wp_region_held (S := fun w' => w'.cell? ⟨tb, 0, none⟩ = some (.pointer (some ⟨a.kb, 0, none⟩)) ∧ w'.cell? ⟨tb, 1, none⟩ = some (.pointer (some ⟨e.eb, 0, none⟩)) ∧ w'.cell? ⟨a.kb, 2, none⟩ = some (.pointer (some ⟨a.c.cb, 0, none⟩)) ∧ w'.cell? ⟨a.kb, 3, none⟩ = some (.pointer (some ⟨a.nb, 0, none⟩)) ∧ w'.cell? ⟨a.kb, 5, none⟩ = some (.int .u32 K.now)) (by kernel_rfl) ?_
      refine H_take (i := 0) (v := ?_) rfl (by kernel_rfl) (by kernel_rfl) (by kernel_rfl) (fun _ _ _ h => h) (Or.inl ⟨by rfl, ?_⟩) hD ?_
      rotate_left
      · intro W hW; obtain ⟨k0, k1, k2, k3, k5⟩ := hW; go_simp; try with_reducible rfl
      try simp only [Act.put, Za, Zb, Zc, Zd, Ze, Zf]
      refine H_take (i := 1) (v := ?_) rfl (by kernel_rfl) (by kernel_rfl) (by kernel_rfl) (fun _ _ _ h => h) (Or.inl ⟨by rfl, ?_⟩) hD ?_
      rotate_left
      · intro W hW; obtain ⟨k0, k1, k2, k3, k5⟩ := hW; go_simp; try with_reducible rfl
      try simp only [Act.put, Za, Zb, Zc, Zd, Ze, Zf]
      refine H_take (i := 2) (v := ?_) rfl (by kernel_rfl) (by kernel_rfl) (by kernel_rfl) (fun _ _ _ h => h) (Or.inl ⟨by rfl, ?_⟩) hD ?_
      rotate_left
      · intro W hW; obtain ⟨k0, k1, k2, k3, k5⟩ := hW; go_simp; try with_reducible rfl
      try simp only [Act.put, Za, Zb, Zc, Zd, Ze, Zf]
      refine H_take (i := 3) (v := ?_) rfl (by kernel_rfl) (by kernel_rfl) (by kernel_rfl) (fun _ _ _ h => h) (Or.inl ⟨by rfl, ?_⟩) hD ?_
      rotate_left
      · intro W hW; obtain ⟨k0, k1, k2, k3, k5⟩ := hW; go_simp; try with_reducible rfl
      try simp only [Act.put, Za, Zb, Zc, Zd, Ze, Zf]
      refine H_take (i := 4) (v := ?_) rfl (by kernel_rfl) (by kernel_rfl) (by kernel_rfl) (fun _ _ _ h => h) (Or.inl ⟨by rfl, ?_⟩) hD ?_
      rotate_left
      · intro W hW; obtain ⟨k0, k1, k2, k3, k5⟩ := hW; go_simp; try with_reducible rfl
      try simp only [Act.put, Za, Zb, Zc, Zd, Ze, Zf]
      refine H_take (i := 5) (v := ?_) rfl (by kernel_rfl) (by kernel_rfl) (by kernel_rfl) (fun _ _ _ h => h) (Or.inl ⟨by rfl, ?_⟩) hD ?_
      rotate_left
      · intro W hW; obtain ⟨k0, k1, k2, k3, k5⟩ := hW; go_simp; try with_reducible rfl
      try simp only [Act.put, Za, Zb, Zc, Zd, Ze, Zf]
      refine H_take (i := 6) (v := ?_) rfl (by kernel_rfl) (by kernel_rfl) (by kernel_rfl) (fun _ _ _ h => h) (Or.inl ⟨by rfl, ?_⟩) hD ?_
      rotate_left
      · intro W hW; obtain ⟨k0, k1, k2, k3, k5⟩ := hW; go_simp; try with_reducible rfl
      try simp only [Act.put, Za, Zb, Zc, Zd, Ze, Zf]
      refine H_take (i := 7) (v := ?_) rfl (by kernel_rfl) (by kernel_rfl) (by kernel_rfl) (fun _ _ _ h => h) (Or.inl ⟨by rfl, ?_⟩) hD ?_
      rotate_left
      · intro W hW; obtain ⟨k0, k1, k2, k3, k5⟩ := hW; go_simp; try with_reducible rfl
      try simp only [Act.put, Za, Zb, Zc, Zd, Ze, Zf]
      refine H_take (i := 8) (v := ?_) rfl (by kernel_rfl) (by kernel_rfl) (by kernel_rfl) (fun _ _ _ h => h) (Or.inl ⟨by rfl, ?_⟩) hD ?_
      rotate_left
      · intro W hW; obtain ⟨k0, k1, k2, k3, k5⟩ := hW; go_simp; try with_reducible rfl
      try simp only [Act.put, Za, Zb, Zc, Zd, Ze, Zf]
      refine H_take (i := 9) (v := ?_) rfl (by kernel_rfl) (by kernel_rfl) (by kernel_rfl) (fun _ _ _ h => h) (Or.inl ⟨by rfl, ?_⟩) hD ?_
      rotate_left
      · intro W hW; obtain ⟨k0, k1, k2, k3, k5⟩ := hW; go_simp; try with_reducible rfl
      try simp only [Act.put, Za, Zb, Zc, Zd, Ze, Zf]
      refine H_take (i := 10) (v := ?_) rfl (by kernel_rfl) (by kernel_rfl) (by kernel_rfl) (fun _ _ _ h => h) (Or.inl ⟨by rfl, ?_⟩) hD ?_
      rotate_left
      · intro W hW; obtain ⟨k0, k1, k2, k3, k5⟩ := hW; go_simp; try with_reducible rfl
      try simp only [Act.put, Za, Zb, Zc, Zd, Ze, Zf]
      refine H_one (i := 11) (by kernel_rfl) rfl (fun K hK => ?_)
      go_simp
      go_at_call 81
      refine (HN.out _ (Below.refl _ _).drew).mono ?_
      rintro e x1 ⟨rfl, rfl⟩
      refine hK.out _ _ hD (fun _ => ?_)
      clear hK K
      try simp only [Act.put, Za, Zb, Zc, Zd, Ze, Zf]
      refine H_one (i := 12) (by kernel_rfl) rfl (fun K hK => ?_)
      go_simp
      go_at_call 198
      refine HT.out.mono ?_
      rintro e x2 ⟨rfl, hc2, hm2⟩
      have HK := Lib.hid (HTk.out _ hc2 hm2)
      have h2 := HK.out.all
      clear hc2 hm2
      refine hK.out _ _ h2 (fun _ => ?_)
      clear hK K
      try simp only [Act.put, Za, Zb, Zc, Zd, Ze, Zf]
      refine H_take (i := 13) (v := ?_) rfl (by kernel_rfl) (by kernel_rfl) (by kernel_rfl) (fun _ _ _ h => h) (Or.inl ⟨by rfl, ?_⟩) h2 ?_
      rotate_left
      · intro W hW; obtain ⟨k0, k1, k2, k3, k5⟩ := hW; go_simp; try with_reducible rfl
      try simp only [Act.put, Za, Zb, Zc, Zd, Ze, Zf]
      refine wpAnyH_done (by kernel_rfl) ?_ _
      clear c0 c1 c2 c3 c5 hD
      obtain ⟨c0, c1, c2, c3, c5⟩ := h2
      have HPg := Lib.hid (Ev.page HK.out.s.j.en v v0 v1)
      go_wp2_with fail
      refine HPg.out.mono ?_
      rintro e w3 ⟨blk, lv, rfl, hs3⟩
      have HK3 := Lib.hid (HFin.out _ _ _ (HK.out.right hs3 (page_num _ _ _)))
      clear hs3
      go_wp2
      exact HK3.out
    · have htb : (Gp.takeE K.g != 0) = true := bne_iff_ne.2 ht
      have HSm := Lib.hid (take_same ht)
      have HFin := Lib.hid fun V (hV : Tk W V tb a0 e0 A0 a K e E x) => fin_no hV (f := fun b => Co.page K E b v) 4 fun b => by unfold Co.page; rw [if_neg hp, if_pos ht]
      generalize CallPost W tb a0 e0 A0 x (fun b => Co.page K E b v) = PQ at *
      clear h hA hp hq hm g1 hn1 ht hdr
      go_enter Tryz.func130, Tryz.ntmps130
      go_wp2_with fail
      refine HA.out.mono ?_
      rintro e w1 ⟨rfl, rfl⟩
      go_wp2_with fail
      refine HS.out.mono ?_
      rintro e w1 ⟨rfl, rfl⟩
      go_wp2_with fail
      refine HP.out.mono ?_
      rintro e w1 ⟨rfl, rfl⟩
      go_wp2_with fail
      refine wp_region_held (S := fun w' => w'.cell? ⟨tb, 0, none⟩ = some (.pointer (some ⟨a.kb, 0, none⟩)) ∧ w'.cell? ⟨tb, 1, none⟩ = some (.pointer (some ⟨e.eb, 0, none⟩)) ∧ w'.cell? ⟨a.kb, 2, none⟩ = some (.pointer (some ⟨a.c.cb, 0, none⟩)) ∧ w'.cell? ⟨a.kb, 3, none⟩ = some (.pointer (some ⟨a.nb, 0, none⟩)) ∧ w'.cell? ⟨a.kb, 5, none⟩ = some (.int .u32 K.now)) (by kernel_rfl) ?_
      refine H_take (i := 0) (v := ?_) rfl (by kernel_rfl) (by kernel_rfl) (by kernel_rfl) (fun _ _ _ h => h) (Or.inl ⟨by rfl, ?_⟩) hD ?_
      rotate_left
      · intro W hW; obtain ⟨k0, k1, k2, k3, k5⟩ := hW; go_simp; try with_reducible rfl
      try simp only [Act.put, Za, Zb, Zc, Zd, Ze, Zf]
      refine H_take (i := 1) (v := ?_) rfl (by kernel_rfl) (by kernel_rfl) (by kernel_rfl) (fun _ _ _ h => h) (Or.inl ⟨by rfl, ?_⟩) hD ?_
      rotate_left
      · intro W hW; obtain ⟨k0, k1, k2, k3, k5⟩ := hW; go_simp; try with_reducible rfl
      try simp only [Act.put, Za, Zb, Zc, Zd, Ze, Zf]
      refine H_take (i := 2) (v := ?_) rfl (by kernel_rfl) (by kernel_rfl) (by kernel_rfl) (fun _ _ _ h => h) (Or.inl ⟨by rfl, ?_⟩) hD ?_
      rotate_left
      · intro W hW; obtain ⟨k0, k1, k2, k3, k5⟩ := hW; go_simp; try with_reducible rfl
      try simp only [Act.put, Za, Zb, Zc, Zd, Ze, Zf]
      refine H_take (i := 3) (v := ?_) rfl (by kernel_rfl) (by kernel_rfl) (by kernel_rfl) (fun _ _ _ h => h) (Or.inl ⟨by rfl, ?_⟩) hD ?_
      rotate_left
      · intro W hW; obtain ⟨k0, k1, k2, k3, k5⟩ := hW; go_simp; try with_reducible rfl
      try simp only [Act.put, Za, Zb, Zc, Zd, Ze, Zf]
      refine H_take (i := 4) (v := ?_) rfl (by kernel_rfl) (by kernel_rfl) (by kernel_rfl) (fun _ _ _ h => h) (Or.inl ⟨by rfl, ?_⟩) hD ?_
      rotate_left
      · intro W hW; obtain ⟨k0, k1, k2, k3, k5⟩ := hW; go_simp; try with_reducible rfl
      try simp only [Act.put, Za, Zb, Zc, Zd, Ze, Zf]
      refine H_take (i := 5) (v := ?_) rfl (by kernel_rfl) (by kernel_rfl) (by kernel_rfl) (fun _ _ _ h => h) (Or.inl ⟨by rfl, ?_⟩) hD ?_
      rotate_left
      · intro W hW; obtain ⟨k0, k1, k2, k3, k5⟩ := hW; go_simp; try with_reducible rfl
      try simp only [Act.put, Za, Zb, Zc, Zd, Ze, Zf]
      refine H_take (i := 6) (v := ?_) rfl (by kernel_rfl) (by kernel_rfl) (by kernel_rfl) (fun _ _ _ h => h) (Or.inl ⟨by rfl, ?_⟩) hD ?_
      rotate_left
      · intro W hW; obtain ⟨k0, k1, k2, k3, k5⟩ := hW; go_simp; try with_reducible rfl
      try simp only [Act.put, Za, Zb, Zc, Zd, Ze, Zf]
      refine H_take (i := 7) (v := ?_) rfl (by kernel_rfl) (by kernel_rfl) (by kernel_rfl) (fun _ _ _ h => h) (Or.inl ⟨by rfl, ?_⟩) hD ?_
      rotate_left
      · intro W hW; obtain ⟨k0, k1, k2, k3, k5⟩ := hW; go_simp; try with_reducible rfl
      try simp only [Act.put, Za, Zb, Zc, Zd, Ze, Zf]
      refine H_take (i := 8) (v := ?_) rfl (by kernel_rfl) (by kernel_rfl) (by kernel_rfl) (fun _ _ _ h => h) (Or.inl ⟨by rfl, ?_⟩) hD ?_
      rotate_left
      · intro W hW; obtain ⟨k0, k1, k2, k3, k5⟩ := hW; go_simp; try with_reducible rfl
      try simp only [Act.put, Za, Zb, Zc, Zd, Ze, Zf]
      refine H_take (i := 9) (v := ?_) rfl (by kernel_rfl) (by kernel_rfl) (by kernel_rfl) (fun _ _ _ h => h) (Or.inl ⟨by rfl, ?_⟩) hD ?_
      rotate_left
      · intro W hW; obtain ⟨k0, k1, k2, k3, k5⟩ := hW; go_simp; try with_reducible rfl
      try simp only [Act.put, Za, Zb, Zc, Zd, Ze, Zf]
      refine H_take (i := 10) (v := ?_) rfl (by kernel_rfl) (by kernel_rfl) (by kernel_rfl) (fun _ _ _ h => h) (Or.inl ⟨by rfl, ?_⟩) hD ?_
      rotate_left
      · intro W hW; obtain ⟨k0, k1, k2, k3, k5⟩ := hW; go_simp; try with_reducible rfl
      try simp only [Act.put, Za, Zb, Zc, Zd, Ze, Zf]
      refine H_one (i := 11) (by kernel_rfl) rfl (fun K hK => ?_)
      go_simp
      go_at_call 81
      refine (HN.out _ (Below.refl _ _).drew).mono ?_
      rintro e x1 ⟨rfl, rfl⟩
      refine hK.out _ _ hD (fun _ => ?_)
      clear hK K
      try simp only [Act.put, Za, Zb, Zc, Zd, Ze, Zf]
      refine H_one (i := 12) (by kernel_rfl) rfl (fun K hK => ?_)
      go_simp
      go_at_call 198
      refine HT.out.mono ?_
      rintro e x2 ⟨rfl, hc2, hm2⟩
      have HK := Lib.hid (HTk.out _ hc2 hm2)
      have h2 := HK.out.all
      clear hc2 hm2
      refine hK.out _ _ h2 (fun _ => ?_)
      clear hK K
      try simp only [Act.put, Za, Zb, Zc, Zd, Ze, Zf]
      refine H_take (i := 13) (v := ?_) rfl (by kernel_rfl) (by kernel_rfl) (by kernel_rfl) (fun _ _ _ h => h) (Or.inl ⟨by rfl, ?_⟩) h2 ?_
      rotate_left
      · intro W hW; obtain ⟨k0, k1, k2, k3, k5⟩ := hW; go_simp; try with_reducible rfl
      try simp only [Act.put, Za, Zb, Zc, Zd, Ze, Zf]
      refine wpAnyH_done (by kernel_rfl) ?_ _
      have HK2 : Hid (PQ (.returned (.tuple #[.int .u32 0, .int .u32 4])) x2) := Lib.hid (HFin.out _ (by have := HK.out; rw [HSm.out] at this; exact this))
      go_wp2
      exact HK2.out
set_option maxRecDepth 100000 in
set_option maxHeartbeats 8000000 in
theorem drop (h : Tk W w tb a0 e0 A0 a K e E x) : Calls Tryz.prog 131 #[.pointer (some ⟨tb, 0, none⟩)] w (CallPost W tb a0 e0 A0 x fun _ => Co.drop K E (E.arg 1)) := by
  have hbd1 := arg_bd h.s.j.en 1
  have HA1 := Lib.hid fun V (hV : Below w.heap.size w V) => Ev.arg (h.s.j.en.below hV) 1 (by omega) (by omega)
  generalize E.arg 1 = v1 at *
  obtain ⟨v10, v11⟩ := hbd1
  have HN := Lib.hid fun V (hV : Below w.heap.size w V) => (Ev.num (h.below hV).s.j.en)
  rw [h.n1] at HN
  have hdr := h.below (Below.refl _ _).drew
  have hD := hdr.all
  obtain ⟨c0, c1, c2, c3, c5⟩ := h.all
  have HDr := Lib.hid (Ev.drop hdr.s.j.en v1 v10 v11)
  have HRt := Lib.hid fun V' lv (s : EStep w.drew V' e E { e with lv := lv } (E.drop v1)) => hdr.right s (drop_num E v1)
  have HOk := Lib.hid h.s.j.en.ok
  by_cases h2 : E.dropE v1 = 2
  · have HSm : Hid (E.drop v1 = E) := Lib.hid (drop_same HOk.out (by omega))
    have HFin := Lib.hid fun V e' (hV : Tk W V tb a0 e0 A0 a K e' E x) => fin_no hV (f := fun _ => Co.drop K E v1) 2 fun b => by unfold Co.drop; rw [if_pos h2]
    generalize CallPost W tb a0 e0 A0 x (fun _ => Co.drop K E v1) = PQ at *
    rw [h2] at HDr
    clear h hdr h2
    go_enter Tryz.func131, Tryz.ntmps131
    go_wp2_with fail
    refine wp_region_held (S := fun w' => w'.cell? ⟨tb, 0, none⟩ = some (.pointer (some ⟨a.kb, 0, none⟩)) ∧ w'.cell? ⟨tb, 1, none⟩ = some (.pointer (some ⟨e.eb, 0, none⟩)) ∧ w'.cell? ⟨a.kb, 2, none⟩ = some (.pointer (some ⟨a.c.cb, 0, none⟩)) ∧ w'.cell? ⟨a.kb, 3, none⟩ = some (.pointer (some ⟨a.nb, 0, none⟩)) ∧ w'.cell? ⟨a.kb, 5, none⟩ = some (.int .u32 K.now)) (by kernel_rfl) ?_
    refine H_take (i := 0) (v := ?_) rfl (by kernel_rfl) (by kernel_rfl) (by kernel_rfl) (fun _ _ _ h => h) (Or.inl ⟨by rfl, ?_⟩) hD ?_
    rotate_left
    · intro W hW; obtain ⟨k0, k1, k2, k3, k5⟩ := hW; go_simp; try with_reducible rfl
    try simp only [Act.put, Za, Zb, Zc, Zd, Ze, Zf]
    refine H_take (i := 1) (v := ?_) rfl (by kernel_rfl) (by kernel_rfl) (by kernel_rfl) (fun _ _ _ h => h) (Or.inl ⟨by rfl, ?_⟩) hD ?_
    rotate_left
    · intro W hW; obtain ⟨k0, k1, k2, k3, k5⟩ := hW; go_simp; try with_reducible rfl
    try simp only [Act.put, Za, Zb, Zc, Zd, Ze, Zf]
    refine H_take (i := 2) (v := ?_) rfl (by kernel_rfl) (by kernel_rfl) (by kernel_rfl) (fun _ _ _ h => h) (Or.inl ⟨by rfl, ?_⟩) hD ?_
    rotate_left
    · intro W hW; obtain ⟨k0, k1, k2, k3, k5⟩ := hW; go_simp; try with_reducible rfl
    try simp only [Act.put, Za, Zb, Zc, Zd, Ze, Zf]
    refine H_take (i := 3) (v := ?_) rfl (by kernel_rfl) (by kernel_rfl) (by kernel_rfl) (fun _ _ _ h => h) (Or.inl ⟨by rfl, ?_⟩) hD ?_
    rotate_left
    · intro W hW; obtain ⟨k0, k1, k2, k3, k5⟩ := hW; go_simp; try with_reducible rfl
    try simp only [Act.put, Za, Zb, Zc, Zd, Ze, Zf]
    refine H_take (i := 4) (v := ?_) rfl (by kernel_rfl) (by kernel_rfl) (by kernel_rfl) (fun _ _ _ h => h) (Or.inl ⟨by rfl, ?_⟩) hD ?_
    rotate_left
    · intro W hW; obtain ⟨k0, k1, k2, k3, k5⟩ := hW; go_simp; try with_reducible rfl
    try simp only [Act.put, Za, Zb, Zc, Zd, Ze, Zf]
    refine H_take (i := 5) (v := ?_) rfl (by kernel_rfl) (by kernel_rfl) (by kernel_rfl) (fun _ _ _ h => h) (Or.inl ⟨by rfl, ?_⟩) hD ?_
    rotate_left
    · intro W hW; obtain ⟨k0, k1, k2, k3, k5⟩ := hW; go_simp; try with_reducible rfl
    try simp only [Act.put, Za, Zb, Zc, Zd, Ze, Zf]
    refine H_take (i := 6) (v := ?_) rfl (by kernel_rfl) (by kernel_rfl) (by kernel_rfl) (fun _ _ _ h => h) (Or.inl ⟨by rfl, ?_⟩) hD ?_
    rotate_left
    · intro W hW; obtain ⟨k0, k1, k2, k3, k5⟩ := hW; go_simp; try with_reducible rfl
    try simp only [Act.put, Za, Zb, Zc, Zd, Ze, Zf]
    refine H_take (i := 7) (v := ?_) rfl (by kernel_rfl) (by kernel_rfl) (by kernel_rfl) (fun _ _ _ h => h) (Or.inl ⟨by rfl, ?_⟩) hD ?_
    rotate_left
    · intro W hW; obtain ⟨k0, k1, k2, k3, k5⟩ := hW; go_simp; try with_reducible rfl
    try simp only [Act.put, Za, Zb, Zc, Zd, Ze, Zf]
    refine H_one (i := 8) (by kernel_rfl) rfl (fun K hK => ?_)
    go_simp
    go_at_call 32
    refine (HA1.out _ (Below.refl _ _).drew).mono ?_
    rintro e x1 ⟨rfl, rfl⟩
    refine hK.out _ _ hD (fun _ => ?_)
    clear hK K
    try simp only [Act.put, Za, Zb, Zc, Zd, Ze, Zf]
    refine H_one (i := 9) (by kernel_rfl) rfl (fun K hK => ?_)
    go_simp
    go_at_call 65
    refine HDr.out.mono ?_
    rintro e x2 ⟨lv, rfl, hs2⟩
    have HK := Lib.hid (HRt.out _ _ hs2)
    have h2 := HK.out.all
    clear hs2
    refine hK.out _ _ h2 (fun _ => ?_)
    clear hK K
    try simp only [Act.put, Za, Zb, Zc, Zd, Ze, Zf]
    refine wpAnyH_done (by kernel_rfl) ?_ _
    have HK2 := Lib.hid (HFin.out _ _ (by have := HK.out; rw [HSm.out] at this; exact this))
    go_wp2
    exact HK2.out
  · by_cases h0 : E.dropE v1 = 0
    · have HFin := Lib.hid fun V e' (hV : Tk W V tb a0 e0 A0 a { K with g := Gp.give K.g } e' (E.drop v1) x) => fin_of (f := fun _ => Co.drop K E v1) (c := Co.no { K with g := Gp.give K.g } (E.drop v1) 0) 0 (by show Co.drop K E v1 = _; unfold Co.drop; rw [if_neg h2, if_pos h0]) hV
      generalize CallPost W tb a0 e0 A0 x (fun _ => Co.drop K E v1) = PQ at *
      rw [h0] at HDr
      clear h hdr h2 h0
      go_enter Tryz.func131, Tryz.ntmps131
      go_wp2_with fail
      refine wp_region_held (S := fun w' => w'.cell? ⟨tb, 0, none⟩ = some (.pointer (some ⟨a.kb, 0, none⟩)) ∧ w'.cell? ⟨tb, 1, none⟩ = some (.pointer (some ⟨e.eb, 0, none⟩)) ∧ w'.cell? ⟨a.kb, 2, none⟩ = some (.pointer (some ⟨a.c.cb, 0, none⟩)) ∧ w'.cell? ⟨a.kb, 3, none⟩ = some (.pointer (some ⟨a.nb, 0, none⟩)) ∧ w'.cell? ⟨a.kb, 5, none⟩ = some (.int .u32 K.now)) (by kernel_rfl) ?_
      refine H_take (i := 0) (v := ?_) rfl (by kernel_rfl) (by kernel_rfl) (by kernel_rfl) (fun _ _ _ h => h) (Or.inl ⟨by rfl, ?_⟩) hD ?_
      rotate_left
      · intro W hW; obtain ⟨k0, k1, k2, k3, k5⟩ := hW; go_simp; try with_reducible rfl
      try simp only [Act.put, Za, Zb, Zc, Zd, Ze, Zf]
      refine H_take (i := 1) (v := ?_) rfl (by kernel_rfl) (by kernel_rfl) (by kernel_rfl) (fun _ _ _ h => h) (Or.inl ⟨by rfl, ?_⟩) hD ?_
      rotate_left
      · intro W hW; obtain ⟨k0, k1, k2, k3, k5⟩ := hW; go_simp; try with_reducible rfl
      try simp only [Act.put, Za, Zb, Zc, Zd, Ze, Zf]
      refine H_take (i := 2) (v := ?_) rfl (by kernel_rfl) (by kernel_rfl) (by kernel_rfl) (fun _ _ _ h => h) (Or.inl ⟨by rfl, ?_⟩) hD ?_
      rotate_left
      · intro W hW; obtain ⟨k0, k1, k2, k3, k5⟩ := hW; go_simp; try with_reducible rfl
      try simp only [Act.put, Za, Zb, Zc, Zd, Ze, Zf]
      refine H_take (i := 3) (v := ?_) rfl (by kernel_rfl) (by kernel_rfl) (by kernel_rfl) (fun _ _ _ h => h) (Or.inl ⟨by rfl, ?_⟩) hD ?_
      rotate_left
      · intro W hW; obtain ⟨k0, k1, k2, k3, k5⟩ := hW; go_simp; try with_reducible rfl
      try simp only [Act.put, Za, Zb, Zc, Zd, Ze, Zf]
      refine H_take (i := 4) (v := ?_) rfl (by kernel_rfl) (by kernel_rfl) (by kernel_rfl) (fun _ _ _ h => h) (Or.inl ⟨by rfl, ?_⟩) hD ?_
      rotate_left
      · intro W hW; obtain ⟨k0, k1, k2, k3, k5⟩ := hW; go_simp; try with_reducible rfl
      try simp only [Act.put, Za, Zb, Zc, Zd, Ze, Zf]
      refine H_take (i := 5) (v := ?_) rfl (by kernel_rfl) (by kernel_rfl) (by kernel_rfl) (fun _ _ _ h => h) (Or.inl ⟨by rfl, ?_⟩) hD ?_
      rotate_left
      · intro W hW; obtain ⟨k0, k1, k2, k3, k5⟩ := hW; go_simp; try with_reducible rfl
      try simp only [Act.put, Za, Zb, Zc, Zd, Ze, Zf]
      refine H_take (i := 6) (v := ?_) rfl (by kernel_rfl) (by kernel_rfl) (by kernel_rfl) (fun _ _ _ h => h) (Or.inl ⟨by rfl, ?_⟩) hD ?_
      rotate_left
      · intro W hW; obtain ⟨k0, k1, k2, k3, k5⟩ := hW; go_simp; try with_reducible rfl
      try simp only [Act.put, Za, Zb, Zc, Zd, Ze, Zf]
      refine H_take (i := 7) (v := ?_) rfl (by kernel_rfl) (by kernel_rfl) (by kernel_rfl) (fun _ _ _ h => h) (Or.inl ⟨by rfl, ?_⟩) hD ?_
      rotate_left
      · intro W hW; obtain ⟨k0, k1, k2, k3, k5⟩ := hW; go_simp; try with_reducible rfl
      try simp only [Act.put, Za, Zb, Zc, Zd, Ze, Zf]
      refine H_one (i := 8) (by kernel_rfl) rfl (fun K hK => ?_)
      go_simp
      go_at_call 32
      refine (HA1.out _ (Below.refl _ _).drew).mono ?_
      rintro e x1 ⟨rfl, rfl⟩
      refine hK.out _ _ hD (fun _ => ?_)
      clear hK K
      try simp only [Act.put, Za, Zb, Zc, Zd, Ze, Zf]
      refine H_one (i := 9) (by kernel_rfl) rfl (fun K hK => ?_)
      go_simp
      go_at_call 65
      refine HDr.out.mono ?_
      rintro e x2 ⟨lv, rfl, hs2⟩
      have HK := Lib.hid (HRt.out _ _ hs2)
      have h2 := HK.out.all
      clear hs2
      refine hK.out _ _ h2 (fun _ => ?_)
      clear hK K
      try simp only [Act.put, Za, Zb, Zc, Zd, Ze, Zf]
      refine wpAnyH_done (by kernel_rfl) ?_ _
      have hdk := HK.out.below (Below.refl _ _).drew
      have hn1 := HK.out.n1
      have HN2 := Lib.hid (Ev.num hdk.s.j.en)
      rw [hn1] at HN2
      have HG := Lib.hid (Ca.give hdk.s.j.kn.caps)
      have HGk := Lib.hid fun V' (g : Cps V' a.c K.hp (Gp.give K.g)) (g' : Mod (fun k => k = a.c.gb) x2.drew V') => hdk.left (KStep.setCaps hdk.s.j.kn g g')
      have hD2 := hdk.all
      clear c0 c1 c2 c3 c5 hD hn1 hdk
      obtain ⟨c0, c1, c2, c3, c5⟩ := h2
      go_wp2_with fail
      refine wp_region_held (S := fun w' => w'.cell? ⟨tb, 0, none⟩ = some (.pointer (some ⟨a.kb, 0, none⟩)) ∧ w'.cell? ⟨tb, 1, none⟩ = some (.pointer (some ⟨e.eb, 0, none⟩)) ∧ w'.cell? ⟨a.kb, 2, none⟩ = some (.pointer (some ⟨a.c.cb, 0, none⟩)) ∧ w'.cell? ⟨a.kb, 3, none⟩ = some (.pointer (some ⟨a.nb, 0, none⟩)) ∧ w'.cell? ⟨a.kb, 5, none⟩ = some (.int .u32 K.now)) (by kernel_rfl) ?_
      refine H_take (i := 0) (v := ?_) rfl (by kernel_rfl) (by kernel_rfl) (by kernel_rfl) (fun _ _ _ h => h) (Or.inl ⟨by rfl, ?_⟩) hD2 ?_
      rotate_left
      · intro W hW; obtain ⟨k0, k1, k2, k3, k5⟩ := hW; go_simp; try with_reducible rfl
      try simp only [Act.put, Za, Zb, Zc, Zd, Ze, Zf]
      refine H_take (i := 1) (v := ?_) rfl (by kernel_rfl) (by kernel_rfl) (by kernel_rfl) (fun _ _ _ h => h) (Or.inl ⟨by rfl, ?_⟩) hD2 ?_
      rotate_left
      · intro W hW; obtain ⟨k0, k1, k2, k3, k5⟩ := hW; go_simp; try with_reducible rfl
      try simp only [Act.put, Za, Zb, Zc, Zd, Ze, Zf]
      refine H_take (i := 2) (v := ?_) rfl (by kernel_rfl) (by kernel_rfl) (by kernel_rfl) (fun _ _ _ h => h) (Or.inl ⟨by rfl, ?_⟩) hD2 ?_
      rotate_left
      · intro W hW; obtain ⟨k0, k1, k2, k3, k5⟩ := hW; go_simp; try with_reducible rfl
      try simp only [Act.put, Za, Zb, Zc, Zd, Ze, Zf]
      refine H_take (i := 3) (v := ?_) rfl (by kernel_rfl) (by kernel_rfl) (by kernel_rfl) (fun _ _ _ h => h) (Or.inl ⟨by rfl, ?_⟩) hD2 ?_
      rotate_left
      · intro W hW; obtain ⟨k0, k1, k2, k3, k5⟩ := hW; go_simp; try with_reducible rfl
      try simp only [Act.put, Za, Zb, Zc, Zd, Ze, Zf]
      refine H_take (i := 4) (v := ?_) rfl (by kernel_rfl) (by kernel_rfl) (by kernel_rfl) (fun _ _ _ h => h) (Or.inl ⟨by rfl, ?_⟩) hD2 ?_
      rotate_left
      · intro W hW; obtain ⟨k0, k1, k2, k3, k5⟩ := hW; go_simp; try with_reducible rfl
      try simp only [Act.put, Za, Zb, Zc, Zd, Ze, Zf]
      refine H_take (i := 5) (v := ?_) rfl (by kernel_rfl) (by kernel_rfl) (by kernel_rfl) (fun _ _ _ h => h) (Or.inl ⟨by rfl, ?_⟩) hD2 ?_
      rotate_left
      · intro W hW; obtain ⟨k0, k1, k2, k3, k5⟩ := hW; go_simp; try with_reducible rfl
      try simp only [Act.put, Za, Zb, Zc, Zd, Ze, Zf]
      refine H_take (i := 6) (v := ?_) rfl (by kernel_rfl) (by kernel_rfl) (by kernel_rfl) (fun _ _ _ h => h) (Or.inl ⟨by rfl, ?_⟩) hD2 ?_
      rotate_left
      · intro W hW; obtain ⟨k0, k1, k2, k3, k5⟩ := hW; go_simp; try with_reducible rfl
      try simp only [Act.put, Za, Zb, Zc, Zd, Ze, Zf]
      refine H_take (i := 7) (v := ?_) rfl (by kernel_rfl) (by kernel_rfl) (by kernel_rfl) (fun _ _ _ h => h) (Or.inl ⟨by rfl, ?_⟩) hD2 ?_
      rotate_left
      · intro W hW; obtain ⟨k0, k1, k2, k3, k5⟩ := hW; go_simp; try with_reducible rfl
      try simp only [Act.put, Za, Zb, Zc, Zd, Ze, Zf]
      refine H_take (i := 8) (v := ?_) rfl (by kernel_rfl) (by kernel_rfl) (by kernel_rfl) (fun _ _ _ h => h) (Or.inl ⟨by rfl, ?_⟩) hD2 ?_
      rotate_left
      · intro W hW; obtain ⟨k0, k1, k2, k3, k5⟩ := hW; go_simp; try with_reducible rfl
      try simp only [Act.put, Za, Zb, Zc, Zd, Ze, Zf]
      refine H_take (i := 9) (v := ?_) rfl (by kernel_rfl) (by kernel_rfl) (by kernel_rfl) (fun _ _ _ h => h) (Or.inl ⟨by rfl, ?_⟩) hD2 ?_
      rotate_left
      · intro W hW; obtain ⟨k0, k1, k2, k3, k5⟩ := hW; go_simp; try with_reducible rfl
      try simp only [Act.put, Za, Zb, Zc, Zd, Ze, Zf]
      refine H_take (i := 10) (v := ?_) rfl (by kernel_rfl) (by kernel_rfl) (by kernel_rfl) (fun _ _ _ h => h) (Or.inl ⟨by rfl, ?_⟩) hD2 ?_
      rotate_left
      · intro W hW; obtain ⟨k0, k1, k2, k3, k5⟩ := hW; go_simp; try with_reducible rfl
      try simp only [Act.put, Za, Zb, Zc, Zd, Ze, Zf]
      refine H_one (i := 11) (by kernel_rfl) rfl (fun K hK => ?_)
      go_simp
      go_at_call 81
      refine HN2.out.mono ?_
      rintro e x3 ⟨rfl, rfl⟩
      refine hK.out _ _ hD2 (fun _ => ?_)
      clear hK K
      try simp only [Act.put, Za, Zb, Zc, Zd, Ze, Zf]
      refine H_one (i := 12) (by kernel_rfl) rfl (fun K hK => ?_)
      go_simp
      go_at_call 199
      refine HG.out.mono ?_
      rintro e x4 ⟨rfl, hc4, hm4⟩
      have HK3 := Lib.hid (HGk.out _ hc4 hm4)
      have h4 := HK3.out.all
      clear hc4 hm4
      refine hK.out _ _ h4 (fun _ => ?_)
      clear hK K
      try simp only [Act.put, Za, Zb, Zc, Zd, Ze, Zf]
      refine wpAnyH_done (by kernel_rfl) ?_ _
      have HK4 := Lib.hid (HFin.out _ _ HK3.out)
      go_wp2
      exact HK4.out
    · have HSm : Hid (E.drop v1 = E) := Lib.hid (drop_same HOk.out h0)
      have g2 : (E.dropE v1 == 2) = false := beq_eq_false_iff_ne.2 h2
      have g0 : (E.dropE v1 == 0) = false := beq_eq_false_iff_ne.2 h0
      have HFin := Lib.hid fun V e' (hV : Tk W V tb a0 e0 A0 a K e' E x) => fin_no hV (f := fun _ => Co.drop K E v1) 3 fun b => by unfold Co.drop; rw [if_neg h2, if_neg h0]
      generalize CallPost W tb a0 e0 A0 x (fun _ => Co.drop K E v1) = PQ at *
      generalize E.dropE v1 = q at *
      clear h hdr h2 h0
      go_enter Tryz.func131, Tryz.ntmps131
      go_wp2_with fail
      refine wp_region_held (S := fun w' => w'.cell? ⟨tb, 0, none⟩ = some (.pointer (some ⟨a.kb, 0, none⟩)) ∧ w'.cell? ⟨tb, 1, none⟩ = some (.pointer (some ⟨e.eb, 0, none⟩)) ∧ w'.cell? ⟨a.kb, 2, none⟩ = some (.pointer (some ⟨a.c.cb, 0, none⟩)) ∧ w'.cell? ⟨a.kb, 3, none⟩ = some (.pointer (some ⟨a.nb, 0, none⟩)) ∧ w'.cell? ⟨a.kb, 5, none⟩ = some (.int .u32 K.now)) (by kernel_rfl) ?_
      refine H_take (i := 0) (v := ?_) rfl (by kernel_rfl) (by kernel_rfl) (by kernel_rfl) (fun _ _ _ h => h) (Or.inl ⟨by rfl, ?_⟩) hD ?_
      rotate_left
      · intro W hW; obtain ⟨k0, k1, k2, k3, k5⟩ := hW; go_simp; try with_reducible rfl
      try simp only [Act.put, Za, Zb, Zc, Zd, Ze, Zf]
      refine H_take (i := 1) (v := ?_) rfl (by kernel_rfl) (by kernel_rfl) (by kernel_rfl) (fun _ _ _ h => h) (Or.inl ⟨by rfl, ?_⟩) hD ?_
      rotate_left
      · intro W hW; obtain ⟨k0, k1, k2, k3, k5⟩ := hW; go_simp; try with_reducible rfl
      try simp only [Act.put, Za, Zb, Zc, Zd, Ze, Zf]
      refine H_take (i := 2) (v := ?_) rfl (by kernel_rfl) (by kernel_rfl) (by kernel_rfl) (fun _ _ _ h => h) (Or.inl ⟨by rfl, ?_⟩) hD ?_
      rotate_left
      · intro W hW; obtain ⟨k0, k1, k2, k3, k5⟩ := hW; go_simp; try with_reducible rfl
      try simp only [Act.put, Za, Zb, Zc, Zd, Ze, Zf]
      refine H_take (i := 3) (v := ?_) rfl (by kernel_rfl) (by kernel_rfl) (by kernel_rfl) (fun _ _ _ h => h) (Or.inl ⟨by rfl, ?_⟩) hD ?_
      rotate_left
      · intro W hW; obtain ⟨k0, k1, k2, k3, k5⟩ := hW; go_simp; try with_reducible rfl
      try simp only [Act.put, Za, Zb, Zc, Zd, Ze, Zf]
      refine H_take (i := 4) (v := ?_) rfl (by kernel_rfl) (by kernel_rfl) (by kernel_rfl) (fun _ _ _ h => h) (Or.inl ⟨by rfl, ?_⟩) hD ?_
      rotate_left
      · intro W hW; obtain ⟨k0, k1, k2, k3, k5⟩ := hW; go_simp; try with_reducible rfl
      try simp only [Act.put, Za, Zb, Zc, Zd, Ze, Zf]
      refine H_take (i := 5) (v := ?_) rfl (by kernel_rfl) (by kernel_rfl) (by kernel_rfl) (fun _ _ _ h => h) (Or.inl ⟨by rfl, ?_⟩) hD ?_
      rotate_left
      · intro W hW; obtain ⟨k0, k1, k2, k3, k5⟩ := hW; go_simp; try with_reducible rfl
      try simp only [Act.put, Za, Zb, Zc, Zd, Ze, Zf]
      refine H_take (i := 6) (v := ?_) rfl (by kernel_rfl) (by kernel_rfl) (by kernel_rfl) (fun _ _ _ h => h) (Or.inl ⟨by rfl, ?_⟩) hD ?_
      rotate_left
      · intro W hW; obtain ⟨k0, k1, k2, k3, k5⟩ := hW; go_simp; try with_reducible rfl
      try simp only [Act.put, Za, Zb, Zc, Zd, Ze, Zf]
      refine H_take (i := 7) (v := ?_) rfl (by kernel_rfl) (by kernel_rfl) (by kernel_rfl) (fun _ _ _ h => h) (Or.inl ⟨by rfl, ?_⟩) hD ?_
      rotate_left
      · intro W hW; obtain ⟨k0, k1, k2, k3, k5⟩ := hW; go_simp; try with_reducible rfl
      try simp only [Act.put, Za, Zb, Zc, Zd, Ze, Zf]
      refine H_one (i := 8) (by kernel_rfl) rfl (fun K hK => ?_)
      go_simp
      go_at_call 32
      refine (HA1.out _ (Below.refl _ _).drew).mono ?_
      rintro e x1 ⟨rfl, rfl⟩
      refine hK.out _ _ hD (fun _ => ?_)
      clear hK K
      try simp only [Act.put, Za, Zb, Zc, Zd, Ze, Zf]
      refine H_one (i := 9) (by kernel_rfl) rfl (fun K hK => ?_)
      go_simp
      go_at_call 65
      refine HDr.out.mono ?_
      rintro e x2 ⟨lv, rfl, hs2⟩
      have HK := Lib.hid (HRt.out _ _ hs2)
      have h2 := HK.out.all
      clear hs2
      refine hK.out _ _ h2 (fun _ => ?_)
      clear hK K
      try simp only [Act.put, Za, Zb, Zc, Zd, Ze, Zf]
      refine wpAnyH_done (by kernel_rfl) ?_ _
      have HK2 := Lib.hid (HFin.out _ _ (by have := HK.out; rw [HSm.out] at this; exact this))
      go_wp2
      exact HK2.out
set_option maxRecDepth 100000 in
set_option maxHeartbeats 8000000 in
theorem read (h : Tk W w tb a0 e0 A0 a K e E x) : Calls Tryz.prog 132 #[.pointer (some ⟨tb, 0, none⟩)] w (CallPost W tb a0 e0 A0 x fun _ => Co.read K E (E.arg 1) (E.arg 2) (E.arg 3)) := by
  have hbd1 := arg_bd h.s.j.en 1
  have HA1 := Lib.hid fun V (hV : Below w.heap.size w V) => Ev.arg (h.s.j.en.below hV) 1 (by omega) (by omega)
  generalize E.arg 1 = v1 at *
  obtain ⟨v10, v11⟩ := hbd1
  have hbd2 := arg_bd h.s.j.en 2
  have HA2 := Lib.hid fun V (hV : Below w.heap.size w V) => Ev.arg (h.s.j.en.below hV) 2 (by omega) (by omega)
  generalize E.arg 2 = v2 at *
  obtain ⟨v20, v21⟩ := hbd2
  have hbd3 := arg_bd h.s.j.en 3
  have HA3 := Lib.hid fun V (hV : Below w.heap.size w V) => Ev.arg (h.s.j.en.below hV) 3 (by omega) (by omega)
  generalize E.arg 3 = v3 at *
  obtain ⟨v30, v31⟩ := hbd3
  have HN := Lib.hid fun V (hV : Below w.heap.size w V) => (Ev.num (h.below hV).s.j.en)
  rw [h.n1] at HN
  have hdr := h.below (Below.refl _ _).drew
  have hD := hdr.all
  obtain ⟨c0, c1, c2, c3, c5⟩ := h.all
  have HBl := Lib.hid (Ca.block hdr.s.j.kn.caps v1 v2)
  have HT := Lib.hid fun V (hV : Below w.heap.size w V) => h.below hV
  cases hq : Gp.hasBlock K.g v1 v2 with
  | false =>
    have HFin := Lib.hid fun V (hV : Tk W V tb a0 e0 A0 a K e E x) => fin_no hV (f := fun _ => Co.read K E v1 v2 v3) 1 fun b => by unfold Co.read; rw [if_pos hq]
    generalize CallPost W tb a0 e0 A0 x (fun _ => Co.read K E v1 v2 v3) = PQ at *
    rw [hq] at HBl
    clear h hdr hq
    go_enter Tryz.func132, Tryz.ntmps132
    go_wp2_with fail
    refine wp_region_held (S := fun w' => w'.cell? ⟨tb, 0, none⟩ = some (.pointer (some ⟨a.kb, 0, none⟩)) ∧ w'.cell? ⟨tb, 1, none⟩ = some (.pointer (some ⟨e.eb, 0, none⟩)) ∧ w'.cell? ⟨a.kb, 2, none⟩ = some (.pointer (some ⟨a.c.cb, 0, none⟩)) ∧ w'.cell? ⟨a.kb, 3, none⟩ = some (.pointer (some ⟨a.nb, 0, none⟩)) ∧ w'.cell? ⟨a.kb, 5, none⟩ = some (.int .u32 K.now)) (by kernel_rfl) ?_
    refine H_take (i := 0) (v := ?_) rfl (by kernel_rfl) (by kernel_rfl) (by kernel_rfl) (fun _ _ _ h => h) (Or.inl ⟨by rfl, ?_⟩) hD ?_
    rotate_left
    · intro W hW; obtain ⟨k0, k1, k2, k3, k5⟩ := hW; go_simp; try with_reducible rfl
    try simp only [Act.put, Za, Zb, Zc, Zd, Ze, Zf]
    refine H_take (i := 1) (v := ?_) rfl (by kernel_rfl) (by kernel_rfl) (by kernel_rfl) (fun _ _ _ h => h) (Or.inl ⟨by rfl, ?_⟩) hD ?_
    rotate_left
    · intro W hW; obtain ⟨k0, k1, k2, k3, k5⟩ := hW; go_simp; try with_reducible rfl
    try simp only [Act.put, Za, Zb, Zc, Zd, Ze, Zf]
    refine H_take (i := 2) (v := ?_) rfl (by kernel_rfl) (by kernel_rfl) (by kernel_rfl) (fun _ _ _ h => h) (Or.inl ⟨by rfl, ?_⟩) hD ?_
    rotate_left
    · intro W hW; obtain ⟨k0, k1, k2, k3, k5⟩ := hW; go_simp; try with_reducible rfl
    try simp only [Act.put, Za, Zb, Zc, Zd, Ze, Zf]
    refine H_take (i := 3) (v := ?_) rfl (by kernel_rfl) (by kernel_rfl) (by kernel_rfl) (fun _ _ _ h => h) (Or.inl ⟨by rfl, ?_⟩) hD ?_
    rotate_left
    · intro W hW; obtain ⟨k0, k1, k2, k3, k5⟩ := hW; go_simp; try with_reducible rfl
    try simp only [Act.put, Za, Zb, Zc, Zd, Ze, Zf]
    refine H_take (i := 4) (v := ?_) rfl (by kernel_rfl) (by kernel_rfl) (by kernel_rfl) (fun _ _ _ h => h) (Or.inl ⟨by rfl, ?_⟩) hD ?_
    rotate_left
    · intro W hW; obtain ⟨k0, k1, k2, k3, k5⟩ := hW; go_simp; try with_reducible rfl
    try simp only [Act.put, Za, Zb, Zc, Zd, Ze, Zf]
    refine H_take (i := 5) (v := ?_) rfl (by kernel_rfl) (by kernel_rfl) (by kernel_rfl) (fun _ _ _ h => h) (Or.inl ⟨by rfl, ?_⟩) hD ?_
    rotate_left
    · intro W hW; obtain ⟨k0, k1, k2, k3, k5⟩ := hW; go_simp; try with_reducible rfl
    try simp only [Act.put, Za, Zb, Zc, Zd, Ze, Zf]
    refine H_take (i := 6) (v := ?_) rfl (by kernel_rfl) (by kernel_rfl) (by kernel_rfl) (fun _ _ _ h => h) (Or.inl ⟨by rfl, ?_⟩) hD ?_
    rotate_left
    · intro W hW; obtain ⟨k0, k1, k2, k3, k5⟩ := hW; go_simp; try with_reducible rfl
    try simp only [Act.put, Za, Zb, Zc, Zd, Ze, Zf]
    refine H_take (i := 7) (v := ?_) rfl (by kernel_rfl) (by kernel_rfl) (by kernel_rfl) (fun _ _ _ h => h) (Or.inl ⟨by rfl, ?_⟩) hD ?_
    rotate_left
    · intro W hW; obtain ⟨k0, k1, k2, k3, k5⟩ := hW; go_simp; try with_reducible rfl
    try simp only [Act.put, Za, Zb, Zc, Zd, Ze, Zf]
    refine H_take (i := 8) (v := ?_) rfl (by kernel_rfl) (by kernel_rfl) (by kernel_rfl) (fun _ _ _ h => h) (Or.inl ⟨by rfl, ?_⟩) hD ?_
    rotate_left
    · intro W hW; obtain ⟨k0, k1, k2, k3, k5⟩ := hW; go_simp; try with_reducible rfl
    try simp only [Act.put, Za, Zb, Zc, Zd, Ze, Zf]
    refine H_take (i := 9) (v := ?_) rfl (by kernel_rfl) (by kernel_rfl) (by kernel_rfl) (fun _ _ _ h => h) (Or.inl ⟨by rfl, ?_⟩) hD ?_
    rotate_left
    · intro W hW; obtain ⟨k0, k1, k2, k3, k5⟩ := hW; go_simp; try with_reducible rfl
    try simp only [Act.put, Za, Zb, Zc, Zd, Ze, Zf]
    refine H_take (i := 10) (v := ?_) rfl (by kernel_rfl) (by kernel_rfl) (by kernel_rfl) (fun _ _ _ h => h) (Or.inl ⟨by rfl, ?_⟩) hD ?_
    rotate_left
    · intro W hW; obtain ⟨k0, k1, k2, k3, k5⟩ := hW; go_simp; try with_reducible rfl
    try simp only [Act.put, Za, Zb, Zc, Zd, Ze, Zf]
    refine H_take (i := 12) (v := ?_) rfl (by kernel_rfl) (by kernel_rfl) (by kernel_rfl) (fun _ _ _ h => h) (Or.inl ⟨by rfl, ?_⟩) hD ?_
    rotate_left
    · intro W hW; obtain ⟨k0, k1, k2, k3, k5⟩ := hW; go_simp; try with_reducible rfl
    try simp only [Act.put, Za, Zb, Zc, Zd, Ze, Zf]
    refine H_take (i := 13) (v := ?_) rfl (by kernel_rfl) (by kernel_rfl) (by kernel_rfl) (fun _ _ _ h => h) (Or.inl ⟨by rfl, ?_⟩) hD ?_
    rotate_left
    · intro W hW; obtain ⟨k0, k1, k2, k3, k5⟩ := hW; go_simp; try with_reducible rfl
    try simp only [Act.put, Za, Zb, Zc, Zd, Ze, Zf]
    refine H_take (i := 14) (v := ?_) rfl (by kernel_rfl) (by kernel_rfl) (by kernel_rfl) (fun _ _ _ h => h) (Or.inl ⟨by rfl, ?_⟩) hD ?_
    rotate_left
    · intro W hW; obtain ⟨k0, k1, k2, k3, k5⟩ := hW; go_simp; try with_reducible rfl
    try simp only [Act.put, Za, Zb, Zc, Zd, Ze, Zf]
    refine H_take (i := 15) (v := ?_) rfl (by kernel_rfl) (by kernel_rfl) (by kernel_rfl) (fun _ _ _ h => h) (Or.inl ⟨by rfl, ?_⟩) hD ?_
    rotate_left
    · intro W hW; obtain ⟨k0, k1, k2, k3, k5⟩ := hW; go_simp; try with_reducible rfl
    try simp only [Act.put, Za, Zb, Zc, Zd, Ze, Zf]
    refine H_take (i := 17) (v := ?_) rfl (by kernel_rfl) (by kernel_rfl) (by kernel_rfl) (fun _ _ _ h => h) (Or.inl ⟨by rfl, ?_⟩) hD ?_
    rotate_left
    · intro W hW; obtain ⟨k0, k1, k2, k3, k5⟩ := hW; go_simp; try with_reducible rfl
    try simp only [Act.put, Za, Zb, Zc, Zd, Ze, Zf]
    refine H_take (i := 18) (v := ?_) rfl (by kernel_rfl) (by kernel_rfl) (by kernel_rfl) (fun _ _ _ h => h) (Or.inl ⟨by rfl, ?_⟩) hD ?_
    rotate_left
    · intro W hW; obtain ⟨k0, k1, k2, k3, k5⟩ := hW; go_simp; try with_reducible rfl
    try simp only [Act.put, Za, Zb, Zc, Zd, Ze, Zf]
    refine H_take (i := 19) (v := ?_) rfl (by kernel_rfl) (by kernel_rfl) (by kernel_rfl) (fun _ _ _ h => h) (Or.inl ⟨by rfl, ?_⟩) hD ?_
    rotate_left
    · intro W hW; obtain ⟨k0, k1, k2, k3, k5⟩ := hW; go_simp; try with_reducible rfl
    try simp only [Act.put, Za, Zb, Zc, Zd, Ze, Zf]
    refine H_take (i := 20) (v := ?_) rfl (by kernel_rfl) (by kernel_rfl) (by kernel_rfl) (fun _ _ _ h => h) (Or.inl ⟨by rfl, ?_⟩) hD ?_
    rotate_left
    · intro W hW; obtain ⟨k0, k1, k2, k3, k5⟩ := hW; go_simp; try with_reducible rfl
    try simp only [Act.put, Za, Zb, Zc, Zd, Ze, Zf]
    refine H_one (i := 11) (by kernel_rfl) rfl (fun K hK => ?_)
    go_simp
    go_at_call 81
    refine (HN.out _ (Below.refl _ _).drew).mono ?_
    rintro e x1 ⟨rfl, rfl⟩
    refine hK.out _ _ hD (fun _ => ?_)
    clear hK K
    try simp only [Act.put, Za, Zb, Zc, Zd, Ze, Zf]
    refine H_one (i := 16) (by kernel_rfl) rfl (fun K hK => ?_)
    go_simp
    go_at_call 32
    refine (HA1.out _ (Below.refl _ _).drew).mono ?_
    rintro e x1 ⟨rfl, rfl⟩
    refine hK.out _ _ hD (fun _ => ?_)
    clear hK K
    try simp only [Act.put, Za, Zb, Zc, Zd, Ze, Zf]
    refine H_one (i := 21) (by kernel_rfl) rfl (fun K hK => ?_)
    go_simp
    go_at_call 32
    refine (HA2.out _ (Below.refl _ _).drew).mono ?_
    rintro e x1 ⟨rfl, rfl⟩
    refine hK.out _ _ hD (fun _ => ?_)
    clear hK K
    try simp only [Act.put, Za, Zb, Zc, Zd, Ze, Zf]
    refine H_one (i := 22) (by kernel_rfl) rfl (fun K hK => ?_)
    go_simp
    go_at_call 162
    refine HBl.out.mono ?_
    rintro e x2 ⟨rfl, hb2⟩
    have HB2 : Hid (Below w.heap.size w x2) := Lib.hid ((Below.refl _ _).drew.trans hb2)
    have h2 := (HT.out _ HB2.out).all
    clear hb2
    refine hK.out _ _ h2 (fun _ => ?_)
    clear hK K
    try simp only [Act.put, Za, Zb, Zc, Zd, Ze, Zf]
    refine H_take (i := 23) (v := ?_) rfl (by kernel_rfl) (by kernel_rfl) (by kernel_rfl) (fun _ _ _ h => h) (Or.inl ⟨by rfl, ?_⟩) h2 ?_
    rotate_left
    · intro W hW; obtain ⟨k0, k1, k2, k3, k5⟩ := hW; go_simp; try with_reducible rfl
    try simp only [Act.put, Za, Zb, Zc, Zd, Ze, Zf]
    refine wpAnyH_done (by kernel_rfl) ?_ _
    have HK2 := Lib.hid (HFin.out _ (HT.out _ HB2.out))
    go_wp2
    exact HK2.out
  | true =>
    have hsz : (blkS (Kn.block K.B v1 v2)).size ≤ 64 := by
      cases hb : Kn.block K.B v1 v2 with
      | none => exact Nat.zero_le _
      | some s =>
        obtain ⟨i, j, l, _, _, h1, h2⟩ := Kn.block_some hb
        exact Nat.le_of_eq (h.s.j.kn.ok.bs i l h1 s (List.mem_of_getElem? h2))
    have HFin1 := Lib.hid fun V (hV : Tk W V tb a0 e0 A0 a K e E x) (hy : Sp.fitsE E.A v3 (blkS (Kn.block K.B v1 v2)).size 2 ≠ 0) => fin_no hV (f := fun _ => Co.read K E v1 v2 v3) 2 fun b => by unfold Co.read; rw [hq, if_neg (by decide)]; exact if_pos hy
    have HFin2 := Lib.hid fun V (hV : Tk W V tb a0 e0 A0 a K e { E with A := Sp.putA E.A v3 2 (blkS (Kn.block K.B v1 v2)) } x) (hy : Sp.fitsE E.A v3 (blkS (Kn.block K.B v1 v2)).size 2 = 0) => fin_of (f := fun _ => Co.read K E v1 v2 v3) (c := Co.no K { E with A := Sp.putA E.A v3 2 (blkS (Kn.block K.B v1 v2)) } 0) 0 (by show Co.read K E v1 v2 v3 = _; unfold Co.read; rw [hq, if_neg (by decide)]; exact if_neg (fun z => z hy)) hV
    have HKb := Lib.hid fun V (hV : Below w.heap.size w V) => block (h.below hV).s.j.kn v1 v2 v10 v11 v20 v21
    generalize CallPost W tb a0 e0 A0 x (fun _ => Co.read K E v1 v2 v3) = PQ at *
    generalize blkE (Kn.block K.B v1 v2) = be at *
    generalize blkS (Kn.block K.B v1 v2) = s at *
    rw [hq] at HBl
    have HSp := Lib.hid fun V (hV : Below w.heap.size w V) => Ev.space (h.below hV).s.j.en
    have HWr := Lib.hid fun V (hV : Below w.heap.size w V) => Sp.s_write (h.below hV).s.j.en.sp v3 s v30 v31 (by omega)
    have HWs := Lib.hid fun V (hV : Below w.heap.size w V) V' (g : SStep V V' e.sb e.mb E.A (Sp.putA E.A v3 2 s)) => (h.below hV).right (EStep.space (h.below hV).s.j.en g (putA_own (h.below hV).s.j.en.ok v3 2 s)) rfl
    clear h hdr hq hsz
    go_enter Tryz.func132, Tryz.ntmps132
    go_wp2_with fail
    refine wp_region_held (S := fun w' => w'.cell? ⟨tb, 0, none⟩ = some (.pointer (some ⟨a.kb, 0, none⟩)) ∧ w'.cell? ⟨tb, 1, none⟩ = some (.pointer (some ⟨e.eb, 0, none⟩)) ∧ w'.cell? ⟨a.kb, 2, none⟩ = some (.pointer (some ⟨a.c.cb, 0, none⟩)) ∧ w'.cell? ⟨a.kb, 3, none⟩ = some (.pointer (some ⟨a.nb, 0, none⟩)) ∧ w'.cell? ⟨a.kb, 5, none⟩ = some (.int .u32 K.now)) (by kernel_rfl) ?_
    refine H_take (i := 0) (v := ?_) rfl (by kernel_rfl) (by kernel_rfl) (by kernel_rfl) (fun _ _ _ h => h) (Or.inl ⟨by rfl, ?_⟩) hD ?_
    rotate_left
    · intro W hW; obtain ⟨k0, k1, k2, k3, k5⟩ := hW; go_simp; try with_reducible rfl
    try simp only [Act.put, Za, Zb, Zc, Zd, Ze, Zf]
    refine H_take (i := 1) (v := ?_) rfl (by kernel_rfl) (by kernel_rfl) (by kernel_rfl) (fun _ _ _ h => h) (Or.inl ⟨by rfl, ?_⟩) hD ?_
    rotate_left
    · intro W hW; obtain ⟨k0, k1, k2, k3, k5⟩ := hW; go_simp; try with_reducible rfl
    try simp only [Act.put, Za, Zb, Zc, Zd, Ze, Zf]
    refine H_take (i := 2) (v := ?_) rfl (by kernel_rfl) (by kernel_rfl) (by kernel_rfl) (fun _ _ _ h => h) (Or.inl ⟨by rfl, ?_⟩) hD ?_
    rotate_left
    · intro W hW; obtain ⟨k0, k1, k2, k3, k5⟩ := hW; go_simp; try with_reducible rfl
    try simp only [Act.put, Za, Zb, Zc, Zd, Ze, Zf]
    refine H_take (i := 3) (v := ?_) rfl (by kernel_rfl) (by kernel_rfl) (by kernel_rfl) (fun _ _ _ h => h) (Or.inl ⟨by rfl, ?_⟩) hD ?_
    rotate_left
    · intro W hW; obtain ⟨k0, k1, k2, k3, k5⟩ := hW; go_simp; try with_reducible rfl
    try simp only [Act.put, Za, Zb, Zc, Zd, Ze, Zf]
    refine H_take (i := 4) (v := ?_) rfl (by kernel_rfl) (by kernel_rfl) (by kernel_rfl) (fun _ _ _ h => h) (Or.inl ⟨by rfl, ?_⟩) hD ?_
    rotate_left
    · intro W hW; obtain ⟨k0, k1, k2, k3, k5⟩ := hW; go_simp; try with_reducible rfl
    try simp only [Act.put, Za, Zb, Zc, Zd, Ze, Zf]
    refine H_take (i := 5) (v := ?_) rfl (by kernel_rfl) (by kernel_rfl) (by kernel_rfl) (fun _ _ _ h => h) (Or.inl ⟨by rfl, ?_⟩) hD ?_
    rotate_left
    · intro W hW; obtain ⟨k0, k1, k2, k3, k5⟩ := hW; go_simp; try with_reducible rfl
    try simp only [Act.put, Za, Zb, Zc, Zd, Ze, Zf]
    refine H_take (i := 6) (v := ?_) rfl (by kernel_rfl) (by kernel_rfl) (by kernel_rfl) (fun _ _ _ h => h) (Or.inl ⟨by rfl, ?_⟩) hD ?_
    rotate_left
    · intro W hW; obtain ⟨k0, k1, k2, k3, k5⟩ := hW; go_simp; try with_reducible rfl
    try simp only [Act.put, Za, Zb, Zc, Zd, Ze, Zf]
    refine H_take (i := 7) (v := ?_) rfl (by kernel_rfl) (by kernel_rfl) (by kernel_rfl) (fun _ _ _ h => h) (Or.inl ⟨by rfl, ?_⟩) hD ?_
    rotate_left
    · intro W hW; obtain ⟨k0, k1, k2, k3, k5⟩ := hW; go_simp; try with_reducible rfl
    try simp only [Act.put, Za, Zb, Zc, Zd, Ze, Zf]
    refine H_take (i := 8) (v := ?_) rfl (by kernel_rfl) (by kernel_rfl) (by kernel_rfl) (fun _ _ _ h => h) (Or.inl ⟨by rfl, ?_⟩) hD ?_
    rotate_left
    · intro W hW; obtain ⟨k0, k1, k2, k3, k5⟩ := hW; go_simp; try with_reducible rfl
    try simp only [Act.put, Za, Zb, Zc, Zd, Ze, Zf]
    refine H_take (i := 9) (v := ?_) rfl (by kernel_rfl) (by kernel_rfl) (by kernel_rfl) (fun _ _ _ h => h) (Or.inl ⟨by rfl, ?_⟩) hD ?_
    rotate_left
    · intro W hW; obtain ⟨k0, k1, k2, k3, k5⟩ := hW; go_simp; try with_reducible rfl
    try simp only [Act.put, Za, Zb, Zc, Zd, Ze, Zf]
    refine H_take (i := 10) (v := ?_) rfl (by kernel_rfl) (by kernel_rfl) (by kernel_rfl) (fun _ _ _ h => h) (Or.inl ⟨by rfl, ?_⟩) hD ?_
    rotate_left
    · intro W hW; obtain ⟨k0, k1, k2, k3, k5⟩ := hW; go_simp; try with_reducible rfl
    try simp only [Act.put, Za, Zb, Zc, Zd, Ze, Zf]
    refine H_take (i := 12) (v := ?_) rfl (by kernel_rfl) (by kernel_rfl) (by kernel_rfl) (fun _ _ _ h => h) (Or.inl ⟨by rfl, ?_⟩) hD ?_
    rotate_left
    · intro W hW; obtain ⟨k0, k1, k2, k3, k5⟩ := hW; go_simp; try with_reducible rfl
    try simp only [Act.put, Za, Zb, Zc, Zd, Ze, Zf]
    refine H_take (i := 13) (v := ?_) rfl (by kernel_rfl) (by kernel_rfl) (by kernel_rfl) (fun _ _ _ h => h) (Or.inl ⟨by rfl, ?_⟩) hD ?_
    rotate_left
    · intro W hW; obtain ⟨k0, k1, k2, k3, k5⟩ := hW; go_simp; try with_reducible rfl
    try simp only [Act.put, Za, Zb, Zc, Zd, Ze, Zf]
    refine H_take (i := 14) (v := ?_) rfl (by kernel_rfl) (by kernel_rfl) (by kernel_rfl) (fun _ _ _ h => h) (Or.inl ⟨by rfl, ?_⟩) hD ?_
    rotate_left
    · intro W hW; obtain ⟨k0, k1, k2, k3, k5⟩ := hW; go_simp; try with_reducible rfl
    try simp only [Act.put, Za, Zb, Zc, Zd, Ze, Zf]
    refine H_take (i := 15) (v := ?_) rfl (by kernel_rfl) (by kernel_rfl) (by kernel_rfl) (fun _ _ _ h => h) (Or.inl ⟨by rfl, ?_⟩) hD ?_
    rotate_left
    · intro W hW; obtain ⟨k0, k1, k2, k3, k5⟩ := hW; go_simp; try with_reducible rfl
    try simp only [Act.put, Za, Zb, Zc, Zd, Ze, Zf]
    refine H_take (i := 17) (v := ?_) rfl (by kernel_rfl) (by kernel_rfl) (by kernel_rfl) (fun _ _ _ h => h) (Or.inl ⟨by rfl, ?_⟩) hD ?_
    rotate_left
    · intro W hW; obtain ⟨k0, k1, k2, k3, k5⟩ := hW; go_simp; try with_reducible rfl
    try simp only [Act.put, Za, Zb, Zc, Zd, Ze, Zf]
    refine H_take (i := 18) (v := ?_) rfl (by kernel_rfl) (by kernel_rfl) (by kernel_rfl) (fun _ _ _ h => h) (Or.inl ⟨by rfl, ?_⟩) hD ?_
    rotate_left
    · intro W hW; obtain ⟨k0, k1, k2, k3, k5⟩ := hW; go_simp; try with_reducible rfl
    try simp only [Act.put, Za, Zb, Zc, Zd, Ze, Zf]
    refine H_take (i := 19) (v := ?_) rfl (by kernel_rfl) (by kernel_rfl) (by kernel_rfl) (fun _ _ _ h => h) (Or.inl ⟨by rfl, ?_⟩) hD ?_
    rotate_left
    · intro W hW; obtain ⟨k0, k1, k2, k3, k5⟩ := hW; go_simp; try with_reducible rfl
    try simp only [Act.put, Za, Zb, Zc, Zd, Ze, Zf]
    refine H_take (i := 20) (v := ?_) rfl (by kernel_rfl) (by kernel_rfl) (by kernel_rfl) (fun _ _ _ h => h) (Or.inl ⟨by rfl, ?_⟩) hD ?_
    rotate_left
    · intro W hW; obtain ⟨k0, k1, k2, k3, k5⟩ := hW; go_simp; try with_reducible rfl
    try simp only [Act.put, Za, Zb, Zc, Zd, Ze, Zf]
    refine H_one (i := 11) (by kernel_rfl) rfl (fun K hK => ?_)
    go_simp
    go_at_call 81
    refine (HN.out _ (Below.refl _ _).drew).mono ?_
    rintro e x1 ⟨rfl, rfl⟩
    refine hK.out _ _ hD (fun _ => ?_)
    clear hK K
    try simp only [Act.put, Za, Zb, Zc, Zd, Ze, Zf]
    refine H_one (i := 16) (by kernel_rfl) rfl (fun K hK => ?_)
    go_simp
    go_at_call 32
    refine (HA1.out _ (Below.refl _ _).drew).mono ?_
    rintro e x1 ⟨rfl, rfl⟩
    refine hK.out _ _ hD (fun _ => ?_)
    clear hK K
    try simp only [Act.put, Za, Zb, Zc, Zd, Ze, Zf]
    refine H_one (i := 21) (by kernel_rfl) rfl (fun K hK => ?_)
    go_simp
    go_at_call 32
    refine (HA2.out _ (Below.refl _ _).drew).mono ?_
    rintro e x1 ⟨rfl, rfl⟩
    refine hK.out _ _ hD (fun _ => ?_)
    clear hK K
    try simp only [Act.put, Za, Zb, Zc, Zd, Ze, Zf]
    refine H_one (i := 22) (by kernel_rfl) rfl (fun K hK => ?_)
    go_simp
    go_at_call 162
    refine HBl.out.mono ?_
    rintro e x2 ⟨rfl, hb2⟩
    have HB2 : Hid (Below w.heap.size w x2) := Lib.hid ((Below.refl _ _).drew.trans hb2)
    have h2 := (HT.out _ HB2.out).all
    clear hb2
    refine hK.out _ _ h2 (fun _ => ?_)
    clear hK K
    try simp only [Act.put, Za, Zb, Zc, Zd, Ze, Zf]
    refine H_take (i := 23) (v := ?_) rfl (by kernel_rfl) (by kernel_rfl) (by kernel_rfl) (fun _ _ _ h => h) (Or.inl ⟨by rfl, ?_⟩) h2 ?_
    rotate_left
    · intro W hW; obtain ⟨k0, k1, k2, k3, k5⟩ := hW; go_simp; try with_reducible rfl
    try simp only [Act.put, Za, Zb, Zc, Zd, Ze, Zf]
    refine wpAnyH_done (by kernel_rfl) ?_ _
    clear c0 c1 c2 c3 c5 hD
    obtain ⟨c0, c1, c2, c3, c5⟩ := h2
    have HBd := Lib.hid HB2.out.drew
    have hD := (HT.out _ HBd.out).all
    go_wp2_with fail
    refine wp_region_held (S := fun w' => w'.cell? ⟨tb, 0, none⟩ = some (.pointer (some ⟨a.kb, 0, none⟩)) ∧ w'.cell? ⟨tb, 1, none⟩ = some (.pointer (some ⟨e.eb, 0, none⟩)) ∧ w'.cell? ⟨a.kb, 2, none⟩ = some (.pointer (some ⟨a.c.cb, 0, none⟩)) ∧ w'.cell? ⟨a.kb, 3, none⟩ = some (.pointer (some ⟨a.nb, 0, none⟩)) ∧ w'.cell? ⟨a.kb, 5, none⟩ = some (.int .u32 K.now)) (by kernel_rfl) ?_
    refine H_take (i := 0) (v := ?_) rfl (by kernel_rfl) (by kernel_rfl) (by kernel_rfl) (fun _ _ _ h => h) (Or.inl ⟨by rfl, ?_⟩) hD ?_
    rotate_left
    · intro W hW; obtain ⟨k0, k1, k2, k3, k5⟩ := hW; go_simp; try with_reducible rfl
    try simp only [Act.put, Za, Zb, Zc, Zd, Ze, Zf]
    refine H_take (i := 1) (v := ?_) rfl (by kernel_rfl) (by kernel_rfl) (by kernel_rfl) (fun _ _ _ h => h) (Or.inl ⟨by rfl, ?_⟩) hD ?_
    rotate_left
    · intro W hW; obtain ⟨k0, k1, k2, k3, k5⟩ := hW; go_simp; try with_reducible rfl
    try simp only [Act.put, Za, Zb, Zc, Zd, Ze, Zf]
    refine H_take (i := 2) (v := ?_) rfl (by kernel_rfl) (by kernel_rfl) (by kernel_rfl) (fun _ _ _ h => h) (Or.inl ⟨by rfl, ?_⟩) hD ?_
    rotate_left
    · intro W hW; obtain ⟨k0, k1, k2, k3, k5⟩ := hW; go_simp; try with_reducible rfl
    try simp only [Act.put, Za, Zb, Zc, Zd, Ze, Zf]
    refine H_take (i := 3) (v := ?_) rfl (by kernel_rfl) (by kernel_rfl) (by kernel_rfl) (fun _ _ _ h => h) (Or.inl ⟨by rfl, ?_⟩) hD ?_
    rotate_left
    · intro W hW; obtain ⟨k0, k1, k2, k3, k5⟩ := hW; go_simp; try with_reducible rfl
    try simp only [Act.put, Za, Zb, Zc, Zd, Ze, Zf]
    refine H_take (i := 4) (v := ?_) rfl (by kernel_rfl) (by kernel_rfl) (by kernel_rfl) (fun _ _ _ h => h) (Or.inl ⟨by rfl, ?_⟩) hD ?_
    rotate_left
    · intro W hW; obtain ⟨k0, k1, k2, k3, k5⟩ := hW; go_simp; try with_reducible rfl
    try simp only [Act.put, Za, Zb, Zc, Zd, Ze, Zf]
    refine H_take (i := 5) (v := ?_) rfl (by kernel_rfl) (by kernel_rfl) (by kernel_rfl) (fun _ _ _ h => h) (Or.inl ⟨by rfl, ?_⟩) hD ?_
    rotate_left
    · intro W hW; obtain ⟨k0, k1, k2, k3, k5⟩ := hW; go_simp; try with_reducible rfl
    try simp only [Act.put, Za, Zb, Zc, Zd, Ze, Zf]
    refine H_take (i := 6) (v := ?_) rfl (by kernel_rfl) (by kernel_rfl) (by kernel_rfl) (fun _ _ _ h => h) (Or.inl ⟨by rfl, ?_⟩) hD ?_
    rotate_left
    · intro W hW; obtain ⟨k0, k1, k2, k3, k5⟩ := hW; go_simp; try with_reducible rfl
    try simp only [Act.put, Za, Zb, Zc, Zd, Ze, Zf]
    refine H_take (i := 7) (v := ?_) rfl (by kernel_rfl) (by kernel_rfl) (by kernel_rfl) (fun _ _ _ h => h) (Or.inl ⟨by rfl, ?_⟩) hD ?_
    rotate_left
    · intro W hW; obtain ⟨k0, k1, k2, k3, k5⟩ := hW; go_simp; try with_reducible rfl
    try simp only [Act.put, Za, Zb, Zc, Zd, Ze, Zf]
    refine H_take (i := 9) (v := ?_) rfl (by kernel_rfl) (by kernel_rfl) (by kernel_rfl) (fun _ _ _ h => h) (Or.inl ⟨by rfl, ?_⟩) hD ?_
    rotate_left
    · intro W hW; obtain ⟨k0, k1, k2, k3, k5⟩ := hW; go_simp; try with_reducible rfl
    try simp only [Act.put, Za, Zb, Zc, Zd, Ze, Zf]
    refine H_take (i := 10) (v := ?_) rfl (by kernel_rfl) (by kernel_rfl) (by kernel_rfl) (fun _ _ _ h => h) (Or.inl ⟨by rfl, ?_⟩) hD ?_
    rotate_left
    · intro W hW; obtain ⟨k0, k1, k2, k3, k5⟩ := hW; go_simp; try with_reducible rfl
    try simp only [Act.put, Za, Zb, Zc, Zd, Ze, Zf]
    refine H_take (i := 11) (v := ?_) rfl (by kernel_rfl) (by kernel_rfl) (by kernel_rfl) (fun _ _ _ h => h) (Or.inl ⟨by rfl, ?_⟩) hD ?_
    rotate_left
    · intro W hW; obtain ⟨k0, k1, k2, k3, k5⟩ := hW; go_simp; try with_reducible rfl
    try simp only [Act.put, Za, Zb, Zc, Zd, Ze, Zf]
    refine H_take (i := 12) (v := ?_) rfl (by kernel_rfl) (by kernel_rfl) (by kernel_rfl) (fun _ _ _ h => h) (Or.inl ⟨by rfl, ?_⟩) hD ?_
    rotate_left
    · intro W hW; obtain ⟨k0, k1, k2, k3, k5⟩ := hW; go_simp; try with_reducible rfl
    try simp only [Act.put, Za, Zb, Zc, Zd, Ze, Zf]
    refine H_one (i := 8) (by kernel_rfl) rfl (fun K hK => ?_)
    go_simp
    go_at_call 32
    refine (HA1.out _ HBd.out).mono ?_
    rintro e x1 ⟨rfl, rfl⟩
    refine hK.out _ _ hD (fun _ => ?_)
    clear hK K
    try simp only [Act.put, Za, Zb, Zc, Zd, Ze, Zf]
    refine H_one (i := 13) (by kernel_rfl) rfl (fun K hK => ?_)
    go_simp
    go_at_call 32
    refine (HA2.out _ HBd.out).mono ?_
    rintro e x1 ⟨rfl, rfl⟩
    refine hK.out _ _ hD (fun _ => ?_)
    clear hK K
    try simp only [Act.put, Za, Zb, Zc, Zd, Ze, Zf]
    refine H_one (i := 14) (by kernel_rfl) rfl (fun K hK => ?_)
    go_simp
    go_at_call 8
    refine (HKb.out _ HBd.out).mono ?_
    rintro e x3 ⟨rfl, rfl⟩
    refine hK.out _ _ hD (fun _ => ?_)
    clear hK K
    try simp only [Act.put, Za, Zb, Zc, Zd, Ze, Zf]
    refine H_take (i := 15) (v := ?_) rfl (by kernel_rfl) (by kernel_rfl) (by kernel_rfl) (fun _ _ _ h => h) (Or.inl ⟨by rfl, ?_⟩) hD ?_
    rotate_left
    · intro W hW; obtain ⟨k0, k1, k2, k3, k5⟩ := hW; go_simp; try with_reducible rfl
    try simp only [Act.put, Za, Zb, Zc, Zd, Ze, Zf]
    refine H_take (i := 16) (v := ?_) rfl (by kernel_rfl) (by kernel_rfl) (by kernel_rfl) (fun _ _ _ h => h) (Or.inl ⟨by rfl, ?_⟩) hD ?_
    rotate_left
    · intro W hW; obtain ⟨k0, k1, k2, k3, k5⟩ := hW; go_simp; try with_reducible rfl
    try simp only [Act.put, Za, Zb, Zc, Zd, Ze, Zf]
    refine H_take (i := 17) (v := ?_) rfl (by kernel_rfl) (by kernel_rfl) (by kernel_rfl) (fun _ _ _ h => h) (Or.inl ⟨by rfl, ?_⟩) hD ?_
    rotate_left
    · intro W hW; obtain ⟨k0, k1, k2, k3, k5⟩ := hW; go_simp; try with_reducible rfl
    try simp only [Act.put, Za, Zb, Zc, Zd, Ze, Zf]
    refine H_take (i := 18) (v := ?_) rfl (by kernel_rfl) (by kernel_rfl) (by kernel_rfl) (fun _ _ _ h => h) (Or.inl ⟨by rfl, ?_⟩) hD ?_
    rotate_left
    · intro W hW; obtain ⟨k0, k1, k2, k3, k5⟩ := hW; go_simp; try with_reducible rfl
    try simp only [Act.put, Za, Zb, Zc, Zd, Ze, Zf]
    refine H_take (i := 19) (v := ?_) rfl (by kernel_rfl) (by kernel_rfl) (by kernel_rfl) (fun _ _ _ h => h) (Or.inl ⟨by rfl, ?_⟩) hD ?_
    rotate_left
    · intro W hW; obtain ⟨k0, k1, k2, k3, k5⟩ := hW; go_simp; try with_reducible rfl
    try simp only [Act.put, Za, Zb, Zc, Zd, Ze, Zf]
    refine wpAnyH_done (by kernel_rfl) ?_ _
    clear c0 c1 c2 c3 c5 hD
    obtain ⟨c0, c1, c2, c3, c5⟩ := (HT.out _ HBd.out).all
    have HBe := Lib.hid HBd.out.drew
    have hD := (HT.out _ HBe.out).all
    by_cases hf : Sp.fitsE E.A v3 s.size 2 = 0
    · have hfb : (Sp.fitsE E.A v3 s.size 2 != 0) = false := by rw [hf]; rfl
      have HF2 := Lib.hid fun V hV => HFin2.out V hV hf
      have HSm := Lib.hid hf
      clear hf
      go_wp2_with fail
      refine wp_region_held (S := fun w' => w'.cell? ⟨tb, 0, none⟩ = some (.pointer (some ⟨a.kb, 0, none⟩)) ∧ w'.cell? ⟨tb, 1, none⟩ = some (.pointer (some ⟨e.eb, 0, none⟩)) ∧ w'.cell? ⟨a.kb, 2, none⟩ = some (.pointer (some ⟨a.c.cb, 0, none⟩)) ∧ w'.cell? ⟨a.kb, 3, none⟩ = some (.pointer (some ⟨a.nb, 0, none⟩)) ∧ w'.cell? ⟨a.kb, 5, none⟩ = some (.int .u32 K.now)) (by kernel_rfl) ?_
      refine H_take (i := 0) (v := ?_) rfl (by kernel_rfl) (by kernel_rfl) (by kernel_rfl) (fun _ _ _ h => h) (Or.inl ⟨by rfl, ?_⟩) hD ?_
      rotate_left
      · intro W hW; obtain ⟨k0, k1, k2, k3, k5⟩ := hW; go_simp; try with_reducible rfl
      try simp only [Act.put, Za, Zb, Zc, Zd, Ze, Zf]
      refine H_take (i := 1) (v := ?_) rfl (by kernel_rfl) (by kernel_rfl) (by kernel_rfl) (fun _ _ _ h => h) (Or.inl ⟨by rfl, ?_⟩) hD ?_
      rotate_left
      · intro W hW; obtain ⟨k0, k1, k2, k3, k5⟩ := hW; go_simp; try with_reducible rfl
      try simp only [Act.put, Za, Zb, Zc, Zd, Ze, Zf]
      refine H_take (i := 2) (v := ?_) rfl (by kernel_rfl) (by kernel_rfl) (by kernel_rfl) (fun _ _ _ h => h) (Or.inl ⟨by rfl, ?_⟩) hD ?_
      rotate_left
      · intro W hW; obtain ⟨k0, k1, k2, k3, k5⟩ := hW; go_simp; try with_reducible rfl
      try simp only [Act.put, Za, Zb, Zc, Zd, Ze, Zf]
      refine H_take (i := 3) (v := ?_) rfl (by kernel_rfl) (by kernel_rfl) (by kernel_rfl) (fun _ _ _ h => h) (Or.inl ⟨by rfl, ?_⟩) hD ?_
      rotate_left
      · intro W hW; obtain ⟨k0, k1, k2, k3, k5⟩ := hW; go_simp; try with_reducible rfl
      try simp only [Act.put, Za, Zb, Zc, Zd, Ze, Zf]
      refine H_take (i := 5) (v := ?_) rfl (by kernel_rfl) (by kernel_rfl) (by kernel_rfl) (fun _ _ _ h => h) (Or.inl ⟨by rfl, ?_⟩) hD ?_
      rotate_left
      · intro W hW; obtain ⟨k0, k1, k2, k3, k5⟩ := hW; go_simp; try with_reducible rfl
      try simp only [Act.put, Za, Zb, Zc, Zd, Ze, Zf]
      refine H_take (i := 6) (v := ?_) rfl (by kernel_rfl) (by kernel_rfl) (by kernel_rfl) (fun _ _ _ h => h) (Or.inl ⟨by rfl, ?_⟩) hD ?_
      rotate_left
      · intro W hW; obtain ⟨k0, k1, k2, k3, k5⟩ := hW; go_simp; try with_reducible rfl
      try simp only [Act.put, Za, Zb, Zc, Zd, Ze, Zf]
      refine H_take (i := 7) (v := ?_) rfl (by kernel_rfl) (by kernel_rfl) (by kernel_rfl) (fun _ _ _ h => h) (Or.inl ⟨by rfl, ?_⟩) hD ?_
      rotate_left
      · intro W hW; obtain ⟨k0, k1, k2, k3, k5⟩ := hW; go_simp; try with_reducible rfl
      try simp only [Act.put, Za, Zb, Zc, Zd, Ze, Zf]
      refine H_take (i := 8) (v := ?_) rfl (by kernel_rfl) (by kernel_rfl) (by kernel_rfl) (fun _ _ _ h => h) (Or.inl ⟨by rfl, ?_⟩) hD ?_
      rotate_left
      · intro W hW; obtain ⟨k0, k1, k2, k3, k5⟩ := hW; go_simp; try with_reducible rfl
      try simp only [Act.put, Za, Zb, Zc, Zd, Ze, Zf]
      refine H_take (i := 10) (v := ?_) rfl (by kernel_rfl) (by kernel_rfl) (by kernel_rfl) (fun _ _ _ h => h) (Or.inl ⟨by rfl, ?_⟩) hD ?_
      rotate_left
      · intro W hW; obtain ⟨k0, k1, k2, k3, k5⟩ := hW; go_simp; try with_reducible rfl
      try simp only [Act.put, Za, Zb, Zc, Zd, Ze, Zf]
      refine H_one (i := 4) (by kernel_rfl) rfl (fun K hK => ?_)
      go_simp
      go_at_call 23
      refine (HSp.out _ HBe.out).mono ?_
      rintro e x4 ⟨rfl, rfl⟩
      refine hK.out _ _ hD (fun _ => ?_)
      clear hK K
      try simp only [Act.put, Za, Zb, Zc, Zd, Ze, Zf]
      refine H_one (i := 9) (by kernel_rfl) rfl (fun K hK => ?_)
      go_simp
      go_at_call 32
      refine (HA3.out _ HBe.out).mono ?_
      rintro e x1 ⟨rfl, rfl⟩
      refine hK.out _ _ hD (fun _ => ?_)
      clear hK K
      try simp only [Act.put, Za, Zb, Zc, Zd, Ze, Zf]
      refine H_one (i := 11) (by kernel_rfl) rfl (fun K hK => ?_)
      go_simp
      go_at_call 200
      refine (HWr.out _ HBe.out).mono ?_
      rintro e x5 ⟨rfl, hs5⟩
      have HK5 := Lib.hid (HWs.out _ HBe.out _ hs5)
      have h5 := HK5.out.all
      clear hs5
      refine hK.out _ _ h5 (fun _ => ?_)
      clear hK K
      try simp only [Act.put, Za, Zb, Zc, Zd, Ze, Zf]
      refine H_take (i := 12) (v := ?_) rfl (by kernel_rfl) (by kernel_rfl) (by kernel_rfl) (fun _ _ _ h => h) (Or.inl ⟨by rfl, ?_⟩) h5 ?_
      rotate_left
      · intro W hW; obtain ⟨k0, k1, k2, k3, k5⟩ := hW; go_simp; try with_reducible rfl
      try simp only [Act.put, Za, Zb, Zc, Zd, Ze, Zf]
      refine wpAnyH_done (by kernel_rfl) ?_ _
      have HK6 := Lib.hid (HF2.out _ HK5.out)
      go_wp2
      exact HK6.out
    · have hfb : (Sp.fitsE E.A v3 s.size 2 != 0) = true := bne_iff_ne.2 hf
      have HF1 := Lib.hid fun V hV => HFin1.out V hV hf
      have HSm := Lib.hid (putA_same (need := 2) hf)
      clear hf
      go_wp2_with fail
      refine wp_region_held (S := fun w' => w'.cell? ⟨tb, 0, none⟩ = some (.pointer (some ⟨a.kb, 0, none⟩)) ∧ w'.cell? ⟨tb, 1, none⟩ = some (.pointer (some ⟨e.eb, 0, none⟩)) ∧ w'.cell? ⟨a.kb, 2, none⟩ = some (.pointer (some ⟨a.c.cb, 0, none⟩)) ∧ w'.cell? ⟨a.kb, 3, none⟩ = some (.pointer (some ⟨a.nb, 0, none⟩)) ∧ w'.cell? ⟨a.kb, 5, none⟩ = some (.int .u32 K.now)) (by kernel_rfl) ?_
      refine H_take (i := 0) (v := ?_) rfl (by kernel_rfl) (by kernel_rfl) (by kernel_rfl) (fun _ _ _ h => h) (Or.inl ⟨by rfl, ?_⟩) hD ?_
      rotate_left
      · intro W hW; obtain ⟨k0, k1, k2, k3, k5⟩ := hW; go_simp; try with_reducible rfl
      try simp only [Act.put, Za, Zb, Zc, Zd, Ze, Zf]
      refine H_take (i := 1) (v := ?_) rfl (by kernel_rfl) (by kernel_rfl) (by kernel_rfl) (fun _ _ _ h => h) (Or.inl ⟨by rfl, ?_⟩) hD ?_
      rotate_left
      · intro W hW; obtain ⟨k0, k1, k2, k3, k5⟩ := hW; go_simp; try with_reducible rfl
      try simp only [Act.put, Za, Zb, Zc, Zd, Ze, Zf]
      refine H_take (i := 2) (v := ?_) rfl (by kernel_rfl) (by kernel_rfl) (by kernel_rfl) (fun _ _ _ h => h) (Or.inl ⟨by rfl, ?_⟩) hD ?_
      rotate_left
      · intro W hW; obtain ⟨k0, k1, k2, k3, k5⟩ := hW; go_simp; try with_reducible rfl
      try simp only [Act.put, Za, Zb, Zc, Zd, Ze, Zf]
      refine H_take (i := 3) (v := ?_) rfl (by kernel_rfl) (by kernel_rfl) (by kernel_rfl) (fun _ _ _ h => h) (Or.inl ⟨by rfl, ?_⟩) hD ?_
      rotate_left
      · intro W hW; obtain ⟨k0, k1, k2, k3, k5⟩ := hW; go_simp; try with_reducible rfl
      try simp only [Act.put, Za, Zb, Zc, Zd, Ze, Zf]
      refine H_take (i := 5) (v := ?_) rfl (by kernel_rfl) (by kernel_rfl) (by kernel_rfl) (fun _ _ _ h => h) (Or.inl ⟨by rfl, ?_⟩) hD ?_
      rotate_left
      · intro W hW; obtain ⟨k0, k1, k2, k3, k5⟩ := hW; go_simp; try with_reducible rfl
      try simp only [Act.put, Za, Zb, Zc, Zd, Ze, Zf]
      refine H_take (i := 6) (v := ?_) rfl (by kernel_rfl) (by kernel_rfl) (by kernel_rfl) (fun _ _ _ h => h) (Or.inl ⟨by rfl, ?_⟩) hD ?_
      rotate_left
      · intro W hW; obtain ⟨k0, k1, k2, k3, k5⟩ := hW; go_simp; try with_reducible rfl
      try simp only [Act.put, Za, Zb, Zc, Zd, Ze, Zf]
      refine H_take (i := 7) (v := ?_) rfl (by kernel_rfl) (by kernel_rfl) (by kernel_rfl) (fun _ _ _ h => h) (Or.inl ⟨by rfl, ?_⟩) hD ?_
      rotate_left
      · intro W hW; obtain ⟨k0, k1, k2, k3, k5⟩ := hW; go_simp; try with_reducible rfl
      try simp only [Act.put, Za, Zb, Zc, Zd, Ze, Zf]
      refine H_take (i := 8) (v := ?_) rfl (by kernel_rfl) (by kernel_rfl) (by kernel_rfl) (fun _ _ _ h => h) (Or.inl ⟨by rfl, ?_⟩) hD ?_
      rotate_left
      · intro W hW; obtain ⟨k0, k1, k2, k3, k5⟩ := hW; go_simp; try with_reducible rfl
      try simp only [Act.put, Za, Zb, Zc, Zd, Ze, Zf]
      refine H_take (i := 10) (v := ?_) rfl (by kernel_rfl) (by kernel_rfl) (by kernel_rfl) (fun _ _ _ h => h) (Or.inl ⟨by rfl, ?_⟩) hD ?_
      rotate_left
      · intro W hW; obtain ⟨k0, k1, k2, k3, k5⟩ := hW; go_simp; try with_reducible rfl
      try simp only [Act.put, Za, Zb, Zc, Zd, Ze, Zf]
      refine H_one (i := 4) (by kernel_rfl) rfl (fun K hK => ?_)
      go_simp
      go_at_call 23
      refine (HSp.out _ HBe.out).mono ?_
      rintro e x4 ⟨rfl, rfl⟩
      refine hK.out _ _ hD (fun _ => ?_)
      clear hK K
      try simp only [Act.put, Za, Zb, Zc, Zd, Ze, Zf]
      refine H_one (i := 9) (by kernel_rfl) rfl (fun K hK => ?_)
      go_simp
      go_at_call 32
      refine (HA3.out _ HBe.out).mono ?_
      rintro e x1 ⟨rfl, rfl⟩
      refine hK.out _ _ hD (fun _ => ?_)
      clear hK K
      try simp only [Act.put, Za, Zb, Zc, Zd, Ze, Zf]
      refine H_one (i := 11) (by kernel_rfl) rfl (fun K hK => ?_)
      go_simp
      go_at_call 200
      refine (HWr.out _ HBe.out).mono ?_
      rintro e x5 ⟨rfl, hs5⟩
      have HK5 := Lib.hid (HWs.out _ HBe.out _ hs5)
      have h5 := HK5.out.all
      clear hs5
      refine hK.out _ _ h5 (fun _ => ?_)
      clear hK K
      try simp only [Act.put, Za, Zb, Zc, Zd, Ze, Zf]
      refine H_take (i := 12) (v := ?_) rfl (by kernel_rfl) (by kernel_rfl) (by kernel_rfl) (fun _ _ _ h => h) (Or.inl ⟨by rfl, ?_⟩) h5 ?_
      rotate_left
      · intro W hW; obtain ⟨k0, k1, k2, k3, k5⟩ := hW; go_simp; try with_reducible rfl
      try simp only [Act.put, Za, Zb, Zc, Zd, Ze, Zf]
      refine wpAnyH_done (by kernel_rfl) ?_ _
      have HK6 := Lib.hid (HF1.out _ (by have := HK5.out; rw [HSm.out] at this; exact this))
      go_wp2
      exact HK6.out
set_option maxRecDepth 100000 in
set_option maxHeartbeats 8000000 in
theorem write (h : Tk W w tb a0 e0 A0 a K e E x) : Calls Tryz.prog 133 #[.pointer (some ⟨tb, 0, none⟩)] w (CallPost W tb a0 e0 A0 x fun _ => Co.write K E (E.arg 1) (E.arg 2) (E.arg 3)) := by
  have hbd1 := arg_bd h.s.j.en 1
  have HA1 := Lib.hid fun V (hV : Below w.heap.size w V) => Ev.arg (h.s.j.en.below hV) 1 (by omega) (by omega)
  generalize E.arg 1 = v1 at *
  obtain ⟨v10, v11⟩ := hbd1
  have hbd2 := arg_bd h.s.j.en 2
  have HA2 := Lib.hid fun V (hV : Below w.heap.size w V) => Ev.arg (h.s.j.en.below hV) 2 (by omega) (by omega)
  generalize E.arg 2 = v2 at *
  obtain ⟨v20, v21⟩ := hbd2
  have hbd3 := arg_bd h.s.j.en 3
  have HA3 := Lib.hid fun V (hV : Below w.heap.size w V) => Ev.arg (h.s.j.en.below hV) 3 (by omega) (by omega)
  generalize E.arg 3 = v3 at *
  obtain ⟨v30, v31⟩ := hbd3
  have HN := Lib.hid fun V (hV : Below w.heap.size w V) => (Ev.num (h.below hV).s.j.en)
  rw [h.n1] at HN
  have hdr := h.below (Below.refl _ _).drew
  have hD := hdr.all
  obtain ⟨c0, c1, c2, c3, c5⟩ := h.all
  have HBl := Lib.hid (Ca.block hdr.s.j.kn.caps v1 v2)
  have HT := Lib.hid fun V (hV : Below w.heap.size w V) => h.below hV
  cases hq : Gp.hasBlock K.g v1 v2 with
  | false =>
    have HFin := Lib.hid fun V (hV : Tk W V tb a0 e0 A0 a K e E x) => fin_no hV (f := fun _ => Co.write K E v1 v2 v3) 1 fun b => by unfold Co.write; rw [if_pos hq]
    generalize CallPost W tb a0 e0 A0 x (fun _ => Co.write K E v1 v2 v3) = PQ at *
    rw [hq] at HBl
    clear h hdr hq
    go_enter Tryz.func133, Tryz.ntmps133
    go_wp2_with fail
    refine wp_region_held (S := fun w' => w'.cell? ⟨tb, 0, none⟩ = some (.pointer (some ⟨a.kb, 0, none⟩)) ∧ w'.cell? ⟨tb, 1, none⟩ = some (.pointer (some ⟨e.eb, 0, none⟩)) ∧ w'.cell? ⟨a.kb, 2, none⟩ = some (.pointer (some ⟨a.c.cb, 0, none⟩)) ∧ w'.cell? ⟨a.kb, 3, none⟩ = some (.pointer (some ⟨a.nb, 0, none⟩)) ∧ w'.cell? ⟨a.kb, 5, none⟩ = some (.int .u32 K.now)) (by kernel_rfl) ?_
    refine H_take (i := 0) (v := ?_) rfl (by kernel_rfl) (by kernel_rfl) (by kernel_rfl) (fun _ _ _ h => h) (Or.inl ⟨by rfl, ?_⟩) hD ?_
    rotate_left
    · intro W hW; obtain ⟨k0, k1, k2, k3, k5⟩ := hW; go_simp; try with_reducible rfl
    try simp only [Act.put, Za, Zb, Zc, Zd, Ze, Zf]
    refine H_take (i := 1) (v := ?_) rfl (by kernel_rfl) (by kernel_rfl) (by kernel_rfl) (fun _ _ _ h => h) (Or.inl ⟨by rfl, ?_⟩) hD ?_
    rotate_left
    · intro W hW; obtain ⟨k0, k1, k2, k3, k5⟩ := hW; go_simp; try with_reducible rfl
    try simp only [Act.put, Za, Zb, Zc, Zd, Ze, Zf]
    refine H_take (i := 2) (v := ?_) rfl (by kernel_rfl) (by kernel_rfl) (by kernel_rfl) (fun _ _ _ h => h) (Or.inl ⟨by rfl, ?_⟩) hD ?_
    rotate_left
    · intro W hW; obtain ⟨k0, k1, k2, k3, k5⟩ := hW; go_simp; try with_reducible rfl
    try simp only [Act.put, Za, Zb, Zc, Zd, Ze, Zf]
    refine H_take (i := 3) (v := ?_) rfl (by kernel_rfl) (by kernel_rfl) (by kernel_rfl) (fun _ _ _ h => h) (Or.inl ⟨by rfl, ?_⟩) hD ?_
    rotate_left
    · intro W hW; obtain ⟨k0, k1, k2, k3, k5⟩ := hW; go_simp; try with_reducible rfl
    try simp only [Act.put, Za, Zb, Zc, Zd, Ze, Zf]
    refine H_take (i := 4) (v := ?_) rfl (by kernel_rfl) (by kernel_rfl) (by kernel_rfl) (fun _ _ _ h => h) (Or.inl ⟨by rfl, ?_⟩) hD ?_
    rotate_left
    · intro W hW; obtain ⟨k0, k1, k2, k3, k5⟩ := hW; go_simp; try with_reducible rfl
    try simp only [Act.put, Za, Zb, Zc, Zd, Ze, Zf]
    refine H_take (i := 5) (v := ?_) rfl (by kernel_rfl) (by kernel_rfl) (by kernel_rfl) (fun _ _ _ h => h) (Or.inl ⟨by rfl, ?_⟩) hD ?_
    rotate_left
    · intro W hW; obtain ⟨k0, k1, k2, k3, k5⟩ := hW; go_simp; try with_reducible rfl
    try simp only [Act.put, Za, Zb, Zc, Zd, Ze, Zf]
    refine H_take (i := 6) (v := ?_) rfl (by kernel_rfl) (by kernel_rfl) (by kernel_rfl) (fun _ _ _ h => h) (Or.inl ⟨by rfl, ?_⟩) hD ?_
    rotate_left
    · intro W hW; obtain ⟨k0, k1, k2, k3, k5⟩ := hW; go_simp; try with_reducible rfl
    try simp only [Act.put, Za, Zb, Zc, Zd, Ze, Zf]
    refine H_take (i := 7) (v := ?_) rfl (by kernel_rfl) (by kernel_rfl) (by kernel_rfl) (fun _ _ _ h => h) (Or.inl ⟨by rfl, ?_⟩) hD ?_
    rotate_left
    · intro W hW; obtain ⟨k0, k1, k2, k3, k5⟩ := hW; go_simp; try with_reducible rfl
    try simp only [Act.put, Za, Zb, Zc, Zd, Ze, Zf]
    refine H_take (i := 8) (v := ?_) rfl (by kernel_rfl) (by kernel_rfl) (by kernel_rfl) (fun _ _ _ h => h) (Or.inl ⟨by rfl, ?_⟩) hD ?_
    rotate_left
    · intro W hW; obtain ⟨k0, k1, k2, k3, k5⟩ := hW; go_simp; try with_reducible rfl
    try simp only [Act.put, Za, Zb, Zc, Zd, Ze, Zf]
    refine H_take (i := 9) (v := ?_) rfl (by kernel_rfl) (by kernel_rfl) (by kernel_rfl) (fun _ _ _ h => h) (Or.inl ⟨by rfl, ?_⟩) hD ?_
    rotate_left
    · intro W hW; obtain ⟨k0, k1, k2, k3, k5⟩ := hW; go_simp; try with_reducible rfl
    try simp only [Act.put, Za, Zb, Zc, Zd, Ze, Zf]
    refine H_take (i := 10) (v := ?_) rfl (by kernel_rfl) (by kernel_rfl) (by kernel_rfl) (fun _ _ _ h => h) (Or.inl ⟨by rfl, ?_⟩) hD ?_
    rotate_left
    · intro W hW; obtain ⟨k0, k1, k2, k3, k5⟩ := hW; go_simp; try with_reducible rfl
    try simp only [Act.put, Za, Zb, Zc, Zd, Ze, Zf]
    refine H_take (i := 12) (v := ?_) rfl (by kernel_rfl) (by kernel_rfl) (by kernel_rfl) (fun _ _ _ h => h) (Or.inl ⟨by rfl, ?_⟩) hD ?_
    rotate_left
    · intro W hW; obtain ⟨k0, k1, k2, k3, k5⟩ := hW; go_simp; try with_reducible rfl
    try simp only [Act.put, Za, Zb, Zc, Zd, Ze, Zf]
    refine H_take (i := 13) (v := ?_) rfl (by kernel_rfl) (by kernel_rfl) (by kernel_rfl) (fun _ _ _ h => h) (Or.inl ⟨by rfl, ?_⟩) hD ?_
    rotate_left
    · intro W hW; obtain ⟨k0, k1, k2, k3, k5⟩ := hW; go_simp; try with_reducible rfl
    try simp only [Act.put, Za, Zb, Zc, Zd, Ze, Zf]
    refine H_take (i := 14) (v := ?_) rfl (by kernel_rfl) (by kernel_rfl) (by kernel_rfl) (fun _ _ _ h => h) (Or.inl ⟨by rfl, ?_⟩) hD ?_
    rotate_left
    · intro W hW; obtain ⟨k0, k1, k2, k3, k5⟩ := hW; go_simp; try with_reducible rfl
    try simp only [Act.put, Za, Zb, Zc, Zd, Ze, Zf]
    refine H_take (i := 15) (v := ?_) rfl (by kernel_rfl) (by kernel_rfl) (by kernel_rfl) (fun _ _ _ h => h) (Or.inl ⟨by rfl, ?_⟩) hD ?_
    rotate_left
    · intro W hW; obtain ⟨k0, k1, k2, k3, k5⟩ := hW; go_simp; try with_reducible rfl
    try simp only [Act.put, Za, Zb, Zc, Zd, Ze, Zf]
    refine H_take (i := 17) (v := ?_) rfl (by kernel_rfl) (by kernel_rfl) (by kernel_rfl) (fun _ _ _ h => h) (Or.inl ⟨by rfl, ?_⟩) hD ?_
    rotate_left
    · intro W hW; obtain ⟨k0, k1, k2, k3, k5⟩ := hW; go_simp; try with_reducible rfl
    try simp only [Act.put, Za, Zb, Zc, Zd, Ze, Zf]
    refine H_take (i := 18) (v := ?_) rfl (by kernel_rfl) (by kernel_rfl) (by kernel_rfl) (fun _ _ _ h => h) (Or.inl ⟨by rfl, ?_⟩) hD ?_
    rotate_left
    · intro W hW; obtain ⟨k0, k1, k2, k3, k5⟩ := hW; go_simp; try with_reducible rfl
    try simp only [Act.put, Za, Zb, Zc, Zd, Ze, Zf]
    refine H_take (i := 19) (v := ?_) rfl (by kernel_rfl) (by kernel_rfl) (by kernel_rfl) (fun _ _ _ h => h) (Or.inl ⟨by rfl, ?_⟩) hD ?_
    rotate_left
    · intro W hW; obtain ⟨k0, k1, k2, k3, k5⟩ := hW; go_simp; try with_reducible rfl
    try simp only [Act.put, Za, Zb, Zc, Zd, Ze, Zf]
    refine H_take (i := 20) (v := ?_) rfl (by kernel_rfl) (by kernel_rfl) (by kernel_rfl) (fun _ _ _ h => h) (Or.inl ⟨by rfl, ?_⟩) hD ?_
    rotate_left
    · intro W hW; obtain ⟨k0, k1, k2, k3, k5⟩ := hW; go_simp; try with_reducible rfl
    try simp only [Act.put, Za, Zb, Zc, Zd, Ze, Zf]
    refine H_one (i := 11) (by kernel_rfl) rfl (fun K hK => ?_)
    go_simp
    go_at_call 81
    refine (HN.out _ (Below.refl _ _).drew).mono ?_
    rintro e x1 ⟨rfl, rfl⟩
    refine hK.out _ _ hD (fun _ => ?_)
    clear hK K
    try simp only [Act.put, Za, Zb, Zc, Zd, Ze, Zf]
    refine H_one (i := 16) (by kernel_rfl) rfl (fun K hK => ?_)
    go_simp
    go_at_call 32
    refine (HA1.out _ (Below.refl _ _).drew).mono ?_
    rintro e x1 ⟨rfl, rfl⟩
    refine hK.out _ _ hD (fun _ => ?_)
    clear hK K
    try simp only [Act.put, Za, Zb, Zc, Zd, Ze, Zf]
    refine H_one (i := 21) (by kernel_rfl) rfl (fun K hK => ?_)
    go_simp
    go_at_call 32
    refine (HA2.out _ (Below.refl _ _).drew).mono ?_
    rintro e x1 ⟨rfl, rfl⟩
    refine hK.out _ _ hD (fun _ => ?_)
    clear hK K
    try simp only [Act.put, Za, Zb, Zc, Zd, Ze, Zf]
    refine H_one (i := 22) (by kernel_rfl) rfl (fun K hK => ?_)
    go_simp
    go_at_call 162
    refine HBl.out.mono ?_
    rintro e x2 ⟨rfl, hb2⟩
    have HB2 : Hid (Below w.heap.size w x2) := Lib.hid ((Below.refl _ _).drew.trans hb2)
    have h2 := (HT.out _ HB2.out).all
    clear hb2
    refine hK.out _ _ h2 (fun _ => ?_)
    clear hK K
    try simp only [Act.put, Za, Zb, Zc, Zd, Ze, Zf]
    refine H_take (i := 23) (v := ?_) rfl (by kernel_rfl) (by kernel_rfl) (by kernel_rfl) (fun _ _ _ h => h) (Or.inl ⟨by rfl, ?_⟩) h2 ?_
    rotate_left
    · intro W hW; obtain ⟨k0, k1, k2, k3, k5⟩ := hW; go_simp; try with_reducible rfl
    try simp only [Act.put, Za, Zb, Zc, Zd, Ze, Zf]
    refine wpAnyH_done (by kernel_rfl) ?_ _
    have HK2 := Lib.hid (HFin.out _ (HT.out _ HB2.out))
    go_wp2
    exact HK2.out
  | true =>
    have HFin1 := Lib.hid fun V (hV : Tk W V tb a0 e0 A0 a K e E x) (hy : Sp.getE E.A v3 64 1 ≠ 0) => fin_no hV (f := fun _ => Co.write K E v1 v2 v3) 2 fun b => by unfold Co.write Kn.bytes; rw [hq, if_neg (by decide), if_neg hy]
    have HFin2 := Lib.hid fun V (hV : Tk W V tb a0 e0 A0 a (K.setBlock v1 v2 (Sp.getS E.A v3 64 1)) e E x) (hy : Sp.getE E.A v3 64 1 = 0) => fin_of (f := fun _ => Co.write K E v1 v2 v3) (c := Co.no (K.setBlock v1 v2 (Sp.getS E.A v3 64 1)) E 0) 0 (by show Co.write K E v1 v2 v3 = _; unfold Co.write Kn.bytes; rw [hq, if_neg (by decide), if_pos hy]) hV
    generalize CallPost W tb a0 e0 A0 x (fun _ => Co.write K E v1 v2 v3) = PQ at *
    rw [hq] at HBl
    have HBy := Lib.hid fun V (hV : Below w.heap.size w V) => bytes (h.below hV) v3 64 v30 v31 (by omega) (by omega)
    clear h hdr hq
    go_enter Tryz.func133, Tryz.ntmps133
    go_wp2_with fail
    refine wp_region_held (S := fun w' => w'.cell? ⟨tb, 0, none⟩ = some (.pointer (some ⟨a.kb, 0, none⟩)) ∧ w'.cell? ⟨tb, 1, none⟩ = some (.pointer (some ⟨e.eb, 0, none⟩)) ∧ w'.cell? ⟨a.kb, 2, none⟩ = some (.pointer (some ⟨a.c.cb, 0, none⟩)) ∧ w'.cell? ⟨a.kb, 3, none⟩ = some (.pointer (some ⟨a.nb, 0, none⟩)) ∧ w'.cell? ⟨a.kb, 5, none⟩ = some (.int .u32 K.now)) (by kernel_rfl) ?_
    refine H_take (i := 0) (v := ?_) rfl (by kernel_rfl) (by kernel_rfl) (by kernel_rfl) (fun _ _ _ h => h) (Or.inl ⟨by rfl, ?_⟩) hD ?_
    rotate_left
    · intro W hW; obtain ⟨k0, k1, k2, k3, k5⟩ := hW; go_simp; try with_reducible rfl
    try simp only [Act.put, Za, Zb, Zc, Zd, Ze, Zf]
    refine H_take (i := 1) (v := ?_) rfl (by kernel_rfl) (by kernel_rfl) (by kernel_rfl) (fun _ _ _ h => h) (Or.inl ⟨by rfl, ?_⟩) hD ?_
    rotate_left
    · intro W hW; obtain ⟨k0, k1, k2, k3, k5⟩ := hW; go_simp; try with_reducible rfl
    try simp only [Act.put, Za, Zb, Zc, Zd, Ze, Zf]
    refine H_take (i := 2) (v := ?_) rfl (by kernel_rfl) (by kernel_rfl) (by kernel_rfl) (fun _ _ _ h => h) (Or.inl ⟨by rfl, ?_⟩) hD ?_
    rotate_left
    · intro W hW; obtain ⟨k0, k1, k2, k3, k5⟩ := hW; go_simp; try with_reducible rfl
    try simp only [Act.put, Za, Zb, Zc, Zd, Ze, Zf]
    refine H_take (i := 3) (v := ?_) rfl (by kernel_rfl) (by kernel_rfl) (by kernel_rfl) (fun _ _ _ h => h) (Or.inl ⟨by rfl, ?_⟩) hD ?_
    rotate_left
    · intro W hW; obtain ⟨k0, k1, k2, k3, k5⟩ := hW; go_simp; try with_reducible rfl
    try simp only [Act.put, Za, Zb, Zc, Zd, Ze, Zf]
    refine H_take (i := 4) (v := ?_) rfl (by kernel_rfl) (by kernel_rfl) (by kernel_rfl) (fun _ _ _ h => h) (Or.inl ⟨by rfl, ?_⟩) hD ?_
    rotate_left
    · intro W hW; obtain ⟨k0, k1, k2, k3, k5⟩ := hW; go_simp; try with_reducible rfl
    try simp only [Act.put, Za, Zb, Zc, Zd, Ze, Zf]
    refine H_take (i := 5) (v := ?_) rfl (by kernel_rfl) (by kernel_rfl) (by kernel_rfl) (fun _ _ _ h => h) (Or.inl ⟨by rfl, ?_⟩) hD ?_
    rotate_left
    · intro W hW; obtain ⟨k0, k1, k2, k3, k5⟩ := hW; go_simp; try with_reducible rfl
    try simp only [Act.put, Za, Zb, Zc, Zd, Ze, Zf]
    refine H_take (i := 6) (v := ?_) rfl (by kernel_rfl) (by kernel_rfl) (by kernel_rfl) (fun _ _ _ h => h) (Or.inl ⟨by rfl, ?_⟩) hD ?_
    rotate_left
    · intro W hW; obtain ⟨k0, k1, k2, k3, k5⟩ := hW; go_simp; try with_reducible rfl
    try simp only [Act.put, Za, Zb, Zc, Zd, Ze, Zf]
    refine H_take (i := 7) (v := ?_) rfl (by kernel_rfl) (by kernel_rfl) (by kernel_rfl) (fun _ _ _ h => h) (Or.inl ⟨by rfl, ?_⟩) hD ?_
    rotate_left
    · intro W hW; obtain ⟨k0, k1, k2, k3, k5⟩ := hW; go_simp; try with_reducible rfl
    try simp only [Act.put, Za, Zb, Zc, Zd, Ze, Zf]
    refine H_take (i := 8) (v := ?_) rfl (by kernel_rfl) (by kernel_rfl) (by kernel_rfl) (fun _ _ _ h => h) (Or.inl ⟨by rfl, ?_⟩) hD ?_
    rotate_left
    · intro W hW; obtain ⟨k0, k1, k2, k3, k5⟩ := hW; go_simp; try with_reducible rfl
    try simp only [Act.put, Za, Zb, Zc, Zd, Ze, Zf]
    refine H_take (i := 9) (v := ?_) rfl (by kernel_rfl) (by kernel_rfl) (by kernel_rfl) (fun _ _ _ h => h) (Or.inl ⟨by rfl, ?_⟩) hD ?_
    rotate_left
    · intro W hW; obtain ⟨k0, k1, k2, k3, k5⟩ := hW; go_simp; try with_reducible rfl
    try simp only [Act.put, Za, Zb, Zc, Zd, Ze, Zf]
    refine H_take (i := 10) (v := ?_) rfl (by kernel_rfl) (by kernel_rfl) (by kernel_rfl) (fun _ _ _ h => h) (Or.inl ⟨by rfl, ?_⟩) hD ?_
    rotate_left
    · intro W hW; obtain ⟨k0, k1, k2, k3, k5⟩ := hW; go_simp; try with_reducible rfl
    try simp only [Act.put, Za, Zb, Zc, Zd, Ze, Zf]
    refine H_take (i := 12) (v := ?_) rfl (by kernel_rfl) (by kernel_rfl) (by kernel_rfl) (fun _ _ _ h => h) (Or.inl ⟨by rfl, ?_⟩) hD ?_
    rotate_left
    · intro W hW; obtain ⟨k0, k1, k2, k3, k5⟩ := hW; go_simp; try with_reducible rfl
    try simp only [Act.put, Za, Zb, Zc, Zd, Ze, Zf]
    refine H_take (i := 13) (v := ?_) rfl (by kernel_rfl) (by kernel_rfl) (by kernel_rfl) (fun _ _ _ h => h) (Or.inl ⟨by rfl, ?_⟩) hD ?_
    rotate_left
    · intro W hW; obtain ⟨k0, k1, k2, k3, k5⟩ := hW; go_simp; try with_reducible rfl
    try simp only [Act.put, Za, Zb, Zc, Zd, Ze, Zf]
    refine H_take (i := 14) (v := ?_) rfl (by kernel_rfl) (by kernel_rfl) (by kernel_rfl) (fun _ _ _ h => h) (Or.inl ⟨by rfl, ?_⟩) hD ?_
    rotate_left
    · intro W hW; obtain ⟨k0, k1, k2, k3, k5⟩ := hW; go_simp; try with_reducible rfl
    try simp only [Act.put, Za, Zb, Zc, Zd, Ze, Zf]
    refine H_take (i := 15) (v := ?_) rfl (by kernel_rfl) (by kernel_rfl) (by kernel_rfl) (fun _ _ _ h => h) (Or.inl ⟨by rfl, ?_⟩) hD ?_
    rotate_left
    · intro W hW; obtain ⟨k0, k1, k2, k3, k5⟩ := hW; go_simp; try with_reducible rfl
    try simp only [Act.put, Za, Zb, Zc, Zd, Ze, Zf]
    refine H_take (i := 17) (v := ?_) rfl (by kernel_rfl) (by kernel_rfl) (by kernel_rfl) (fun _ _ _ h => h) (Or.inl ⟨by rfl, ?_⟩) hD ?_
    rotate_left
    · intro W hW; obtain ⟨k0, k1, k2, k3, k5⟩ := hW; go_simp; try with_reducible rfl
    try simp only [Act.put, Za, Zb, Zc, Zd, Ze, Zf]
    refine H_take (i := 18) (v := ?_) rfl (by kernel_rfl) (by kernel_rfl) (by kernel_rfl) (fun _ _ _ h => h) (Or.inl ⟨by rfl, ?_⟩) hD ?_
    rotate_left
    · intro W hW; obtain ⟨k0, k1, k2, k3, k5⟩ := hW; go_simp; try with_reducible rfl
    try simp only [Act.put, Za, Zb, Zc, Zd, Ze, Zf]
    refine H_take (i := 19) (v := ?_) rfl (by kernel_rfl) (by kernel_rfl) (by kernel_rfl) (fun _ _ _ h => h) (Or.inl ⟨by rfl, ?_⟩) hD ?_
    rotate_left
    · intro W hW; obtain ⟨k0, k1, k2, k3, k5⟩ := hW; go_simp; try with_reducible rfl
    try simp only [Act.put, Za, Zb, Zc, Zd, Ze, Zf]
    refine H_take (i := 20) (v := ?_) rfl (by kernel_rfl) (by kernel_rfl) (by kernel_rfl) (fun _ _ _ h => h) (Or.inl ⟨by rfl, ?_⟩) hD ?_
    rotate_left
    · intro W hW; obtain ⟨k0, k1, k2, k3, k5⟩ := hW; go_simp; try with_reducible rfl
    try simp only [Act.put, Za, Zb, Zc, Zd, Ze, Zf]
    refine H_one (i := 11) (by kernel_rfl) rfl (fun K hK => ?_)
    go_simp
    go_at_call 81
    refine (HN.out _ (Below.refl _ _).drew).mono ?_
    rintro e x1 ⟨rfl, rfl⟩
    refine hK.out _ _ hD (fun _ => ?_)
    clear hK K
    try simp only [Act.put, Za, Zb, Zc, Zd, Ze, Zf]
    refine H_one (i := 16) (by kernel_rfl) rfl (fun K hK => ?_)
    go_simp
    go_at_call 32
    refine (HA1.out _ (Below.refl _ _).drew).mono ?_
    rintro e x1 ⟨rfl, rfl⟩
    refine hK.out _ _ hD (fun _ => ?_)
    clear hK K
    try simp only [Act.put, Za, Zb, Zc, Zd, Ze, Zf]
    refine H_one (i := 21) (by kernel_rfl) rfl (fun K hK => ?_)
    go_simp
    go_at_call 32
    refine (HA2.out _ (Below.refl _ _).drew).mono ?_
    rintro e x1 ⟨rfl, rfl⟩
    refine hK.out _ _ hD (fun _ => ?_)
    clear hK K
    try simp only [Act.put, Za, Zb, Zc, Zd, Ze, Zf]
    refine H_one (i := 22) (by kernel_rfl) rfl (fun K hK => ?_)
    go_simp
    go_at_call 162
    refine HBl.out.mono ?_
    rintro e x2 ⟨rfl, hb2⟩
    have HB2 : Hid (Below w.heap.size w x2) := Lib.hid ((Below.refl _ _).drew.trans hb2)
    have h2 := (HT.out _ HB2.out).all
    clear hb2
    refine hK.out _ _ h2 (fun _ => ?_)
    clear hK K
    try simp only [Act.put, Za, Zb, Zc, Zd, Ze, Zf]
    refine H_take (i := 23) (v := ?_) rfl (by kernel_rfl) (by kernel_rfl) (by kernel_rfl) (fun _ _ _ h => h) (Or.inl ⟨by rfl, ?_⟩) h2 ?_
    rotate_left
    · intro W hW; obtain ⟨k0, k1, k2, k3, k5⟩ := hW; go_simp; try with_reducible rfl
    try simp only [Act.put, Za, Zb, Zc, Zd, Ze, Zf]
    refine wpAnyH_done (by kernel_rfl) ?_ _
    clear c0 c1 c2 c3 c5 hD
    obtain ⟨c0, c1, c2, c3, c5⟩ := h2
    go_wp2_with fail
    refine (HA3.out _ HB2.out).mono ?_
    rintro e w3 ⟨rfl, rfl⟩
    go_wp2_with fail
    refine (HBy.out _ HB2.out).mono ?_
    rintro e w4 ⟨rfl, hb4⟩
    have HB4 := Lib.hid (below_th HB2.out hb4)
    clear hb4 c0 c1 c2 c3 c5
    obtain ⟨c0, c1, c2, c3, c5⟩ := (HT.out _ HB4.out).all
    by_cases hf : Sp.getE E.A v3 64 1 = 0
    · have hfb : (Sp.getE E.A v3 64 1 == 0) = true := by rw [hf]; rfl
      have HF2 := Lib.hid fun V hV => HFin2.out V hV hf
      have hsz : (Sp.getS E.A v3 64 1).size = 64 := getS_size (by omega) hf
      have hd4 := (HT.out _ HB4.out).below (Below.refl _ _).drew
      have hD := hd4.all
      have HBd := Lib.hid HB4.out.drew
      have HSt := Lib.hid (setBlock hd4.s.j.kn v1 v2 (Sp.getS E.A v3 64 1) v10 v11 v20 v21 (by omega))
      have HSk := Lib.hid fun V' (g : KStep w4.drew V' a K a (K.setBlock v1 v2 (Sp.getS E.A v3 64 1))) => hd4.left g
      have HSc := Lib.hid (setBlock_now K v1 v2 (Sp.getS E.A v3 64 1))
      generalize Sp.getS E.A v3 64 1 = s at *
      generalize Sp.getE E.A v3 64 1 = ge at *
      clear hf hsz hd4 HFin1 HFin2 HBy
      go_wp2_with fail
      refine wp_region_held (S := fun w' => w'.cell? ⟨tb, 0, none⟩ = some (.pointer (some ⟨a.kb, 0, none⟩)) ∧ w'.cell? ⟨tb, 1, none⟩ = some (.pointer (some ⟨e.eb, 0, none⟩)) ∧ w'.cell? ⟨a.kb, 2, none⟩ = some (.pointer (some ⟨a.c.cb, 0, none⟩)) ∧ w'.cell? ⟨a.kb, 3, none⟩ = some (.pointer (some ⟨a.nb, 0, none⟩)) ∧ w'.cell? ⟨a.kb, 5, none⟩ = some (.int .u32 K.now)) (by kernel_rfl) ?_
      refine H_take (i := 0) (v := ?_) rfl (by kernel_rfl) (by kernel_rfl) (by kernel_rfl) (fun _ _ _ h => h) (Or.inl ⟨by rfl, ?_⟩) hD ?_
      rotate_left
      · intro W hW; obtain ⟨k0, k1, k2, k3, k5⟩ := hW; go_simp; try with_reducible rfl
      try simp only [Act.put, Za, Zb, Zc, Zd, Ze, Zf]
      refine H_take (i := 1) (v := ?_) rfl (by kernel_rfl) (by kernel_rfl) (by kernel_rfl) (fun _ _ _ h => h) (Or.inl ⟨by rfl, ?_⟩) hD ?_
      rotate_left
      · intro W hW; obtain ⟨k0, k1, k2, k3, k5⟩ := hW; go_simp; try with_reducible rfl
      try simp only [Act.put, Za, Zb, Zc, Zd, Ze, Zf]
      refine H_take (i := 2) (v := ?_) rfl (by kernel_rfl) (by kernel_rfl) (by kernel_rfl) (fun _ _ _ h => h) (Or.inl ⟨by rfl, ?_⟩) hD ?_
      rotate_left
      · intro W hW; obtain ⟨k0, k1, k2, k3, k5⟩ := hW; go_simp; try with_reducible rfl
      try simp only [Act.put, Za, Zb, Zc, Zd, Ze, Zf]
      refine H_take (i := 3) (v := ?_) rfl (by kernel_rfl) (by kernel_rfl) (by kernel_rfl) (fun _ _ _ h => h) (Or.inl ⟨by rfl, ?_⟩) hD ?_
      rotate_left
      · intro W hW; obtain ⟨k0, k1, k2, k3, k5⟩ := hW; go_simp; try with_reducible rfl
      try simp only [Act.put, Za, Zb, Zc, Zd, Ze, Zf]
      refine H_take (i := 4) (v := ?_) rfl (by kernel_rfl) (by kernel_rfl) (by kernel_rfl) (fun _ _ _ h => h) (Or.inl ⟨by rfl, ?_⟩) hD ?_
      rotate_left
      · intro W hW; obtain ⟨k0, k1, k2, k3, k5⟩ := hW; go_simp; try with_reducible rfl
      try simp only [Act.put, Za, Zb, Zc, Zd, Ze, Zf]
      refine H_take (i := 5) (v := ?_) rfl (by kernel_rfl) (by kernel_rfl) (by kernel_rfl) (fun _ _ _ h => h) (Or.inl ⟨by rfl, ?_⟩) hD ?_
      rotate_left
      · intro W hW; obtain ⟨k0, k1, k2, k3, k5⟩ := hW; go_simp; try with_reducible rfl
      try simp only [Act.put, Za, Zb, Zc, Zd, Ze, Zf]
      refine H_take (i := 6) (v := ?_) rfl (by kernel_rfl) (by kernel_rfl) (by kernel_rfl) (fun _ _ _ h => h) (Or.inl ⟨by rfl, ?_⟩) hD ?_
      rotate_left
      · intro W hW; obtain ⟨k0, k1, k2, k3, k5⟩ := hW; go_simp; try with_reducible rfl
      try simp only [Act.put, Za, Zb, Zc, Zd, Ze, Zf]
      refine H_take (i := 7) (v := ?_) rfl (by kernel_rfl) (by kernel_rfl) (by kernel_rfl) (fun _ _ _ h => h) (Or.inl ⟨by rfl, ?_⟩) hD ?_
      rotate_left
      · intro W hW; obtain ⟨k0, k1, k2, k3, k5⟩ := hW; go_simp; try with_reducible rfl
      try simp only [Act.put, Za, Zb, Zc, Zd, Ze, Zf]
      refine H_take (i := 9) (v := ?_) rfl (by kernel_rfl) (by kernel_rfl) (by kernel_rfl) (fun _ _ _ h => h) (Or.inl ⟨by rfl, ?_⟩) hD ?_
      rotate_left
      · intro W hW; obtain ⟨k0, k1, k2, k3, k5⟩ := hW; go_simp; try with_reducible rfl
      try simp only [Act.put, Za, Zb, Zc, Zd, Ze, Zf]
      refine H_take (i := 10) (v := ?_) rfl (by kernel_rfl) (by kernel_rfl) (by kernel_rfl) (fun _ _ _ h => h) (Or.inl ⟨by rfl, ?_⟩) hD ?_
      rotate_left
      · intro W hW; obtain ⟨k0, k1, k2, k3, k5⟩ := hW; go_simp; try with_reducible rfl
      try simp only [Act.put, Za, Zb, Zc, Zd, Ze, Zf]
      refine H_take (i := 11) (v := ?_) rfl (by kernel_rfl) (by kernel_rfl) (by kernel_rfl) (fun _ _ _ h => h) (Or.inl ⟨by rfl, ?_⟩) hD ?_
      rotate_left
      · intro W hW; obtain ⟨k0, k1, k2, k3, k5⟩ := hW; go_simp; try with_reducible rfl
      try simp only [Act.put, Za, Zb, Zc, Zd, Ze, Zf]
      refine H_take (i := 12) (v := ?_) rfl (by kernel_rfl) (by kernel_rfl) (by kernel_rfl) (fun _ _ _ h => h) (Or.inl ⟨by rfl, ?_⟩) hD ?_
      rotate_left
      · intro W hW; obtain ⟨k0, k1, k2, k3, k5⟩ := hW; go_simp; try with_reducible rfl
      try simp only [Act.put, Za, Zb, Zc, Zd, Ze, Zf]
      refine H_take (i := 14) (v := ?_) rfl (by kernel_rfl) (by kernel_rfl) (by kernel_rfl) (fun _ _ _ h => h) (Or.inl ⟨by rfl, ?_⟩) hD ?_
      rotate_left
      · intro W hW; obtain ⟨k0, k1, k2, k3, k5⟩ := hW; go_simp; try with_reducible rfl
      try simp only [Act.put, Za, Zb, Zc, Zd, Ze, Zf]
      refine H_one (i := 8) (by kernel_rfl) rfl (fun K hK => ?_)
      go_simp
      go_at_call 32
      refine (HA1.out _ HBd.out).mono ?_
      rintro e x1 ⟨rfl, rfl⟩
      refine hK.out _ _ hD (fun _ => ?_)
      clear hK K
      try simp only [Act.put, Za, Zb, Zc, Zd, Ze, Zf]
      refine H_one (i := 13) (by kernel_rfl) rfl (fun K hK => ?_)
      go_simp
      go_at_call 32
      refine (HA2.out _ HBd.out).mono ?_
      rintro e x1 ⟨rfl, rfl⟩
      refine hK.out _ _ hD (fun _ => ?_)
      clear hK K
      try simp only [Act.put, Za, Zb, Zc, Zd, Ze, Zf]
      refine H_one (i := 15) (by kernel_rfl) rfl (fun K hK => ?_)
      go_simp
      go_at_call 12
      refine HSt.out.mono ?_
      rintro e x5 ⟨rfl, hs5⟩
      have HK5 := Lib.hid (HSk.out _ hs5)
      have h5 := HK5.out.all
      rw [HSc.out] at h5
      clear hs5
      refine hK.out _ _ h5 (fun _ => ?_)
      clear hK K
      try simp only [Act.put, Za, Zb, Zc, Zd, Ze, Zf]
      refine wpAnyH_done (by kernel_rfl) ?_ _
      have HK6 := Lib.hid (HF2.out _ HK5.out)
      go_wp2
      exact HK6.out
    · have hfb : (Sp.getE E.A v3 64 1 == 0) = false := beq_eq_false_iff_ne.2 hf
      have HK6 := Lib.hid (HFin1.out _ (HT.out _ HB4.out) hf)
      generalize Sp.getS E.A v3 64 1 = s at *
      generalize Sp.getE E.A v3 64 1 = ge at *
      clear hf
      go_wp2
      exact HK6.out
set_option maxRecDepth 100000 in
set_option maxHeartbeats 8000000 in
theorem send (h : Tk W w tb a0 e0 A0 a K e E x) (hs : K.N.sent.length < 4398046511104): Calls Tryz.prog 134 #[.pointer (some ⟨tb, 0, none⟩)] w (CallPost W tb a0 e0 A0 x fun _ => Co.send K E (E.arg 1) (E.arg 2)) := by
  have hbd1 := arg_bd h.s.j.en 1
  have HA1 := Lib.hid fun V (hV : Below w.heap.size w V) => Ev.arg (h.s.j.en.below hV) 1 (by omega) (by omega)
  generalize E.arg 1 = v1 at *
  obtain ⟨v10, v11⟩ := hbd1
  have hbd2 := arg_bd h.s.j.en 2
  have HA2 := Lib.hid fun V (hV : Below w.heap.size w V) => Ev.arg (h.s.j.en.below hV) 2 (by omega) (by omega)
  generalize E.arg 2 = v2 at *
  obtain ⟨v20, v21⟩ := hbd2
  obtain ⟨c0, c1, c2, c3, c5⟩ := h.all
  have HT := Lib.hid fun V (hV : Below w.heap.size w V) => h.below hV
  have HHs := Lib.hid hs
  clear hs
  by_cases q1 : 128 < v2
  · have HFin := Lib.hid (fin_no h (f := fun _ => Co.send K E v1 v2) 5 fun b => by unfold Co.send; rw [if_pos q1])
    generalize CallPost W tb a0 e0 A0 x (fun _ => Co.send K E v1 v2) = PQ at *
    clear h
    go_enter Tryz.func134, Tryz.ntmps134
    go_wp2_with fail
    refine (HA2.out _ (Below.refl _ _)).mono ?_
    rintro e w1 ⟨rfl, rfl⟩
    go_wp2
    exact HFin.out
  by_cases q2 : v2 = 0
  · have HFin := Lib.hid (fin_no h (f := fun _ => Co.send K E v1 v2) 2 fun b => by unfold Co.send; rw [if_neg q1, if_pos q2])
    generalize CallPost W tb a0 e0 A0 x (fun _ => Co.send K E v1 v2) = PQ at *
    have q2b : (v2 == 0) = true := by rw [q2]; rfl
    clear h q2
    go_enter Tryz.func134, Tryz.ntmps134
    go_wp2_with fail
    refine (HA2.out _ (Below.refl _ _)).mono ?_
    rintro e w1 ⟨rfl, rfl⟩
    go_wp2
    exact HFin.out
  have q2b : (v2 == 0) = false := beq_eq_false_iff_ne.2 q2
  have HBy := Lib.hid (bytes h v1 v2 v10 v11 v20 v21)
  by_cases hf : Sp.getE E.A v1 v2 1 = 0
  · have hfb : (Sp.getE E.A v1 v2 1 == 0) = true := by rw [hf]; rfl
    have hsz : (Sp.getS E.A v1 v2 1).size = v2.toNat := getS_size (by omega) hf
    have hsz2 : (Sp.getS E.A v1 v2 1).size ≤ 128 := by omega
    have hby : Kn.bytes E v1 v2 = some (Sp.getS E.A v1 v2 1) := by unfold Kn.bytes; rw [if_pos hf]
    have HFin1 := Lib.hid fun V (hV : Tk W V tb a0 e0 A0 a K e E x) (hy : Ni.portB (Sp.getS E.A v1 v2 1) = false ∨ Gp.hasPort K.g (Ni.portV (Sp.getS E.A v1 v2 1) 20) = false) => fin_no hV (f := fun _ => Co.send K E v1 v2) 1 fun b => by unfold Co.send; rw [if_neg q1, if_neg q2, hby]; exact if_pos hy
    have HFin2 := Lib.hid fun V a' (hV : Tk W V tb a0 e0 A0 a' { K with N := Ni.sendS K.N (Sp.getS E.A v1 v2 1) } e E ⟨2, 1, Sp.getS E.A v1 v2 1, 0, true⟩) (hy : ¬ (Ni.portB (Sp.getS E.A v1 v2 1) = false ∨ Gp.hasPort K.g (Ni.portV (Sp.getS E.A v1 v2 1) 20) = false)) => fin_of (f := fun _ => Co.send K E v1 v2) (c := ⟨v2, 0, { K with N := Ni.sendS K.N (Sp.getS E.A v1 v2 1) }, E, 2, Sp.getS E.A v1 v2 1⟩) (x := x) (e' := e) 0 (by show Co.send K E v1 v2 = _; unfold Co.send; rw [if_neg q1, if_neg q2, hby]; exact if_neg hy) hV
    generalize CallPost W tb a0 e0 A0 x (fun _ => Co.send K E v1 v2) = PQ at *
    have HPv := Lib.hid (Ni.portV_bd (Sp.getS E.A v1 v2 1) 20 (by omega))
    generalize Sp.getS E.A v1 v2 1 = s at *
    generalize Sp.getE E.A v1 v2 1 = ge at *
    have HFr := Lib.hid fun V => Ni.from' s (by omega) V
    clear hf hsz hby q2
    cases hp : Ni.portB s with
    | false =>
      rw [hp] at HFr
      have HK := Lib.hid fun V (hV : Below w.heap.size w V) => HFin1.out V (HT.out V hV) (.inl hp)
      clear h hp
      go_enter Tryz.func134, Tryz.ntmps134
      go_wp2_with fail
      refine (HA2.out _ (Below.refl _ _)).mono ?_
      rintro e w1 ⟨rfl, rfl⟩
      go_wp2_with fail
      refine (HA1.out _ (Below.refl _ _)).mono ?_
      rintro e w3 ⟨rfl, rfl⟩
      go_wp2_with fail
      refine HBy.out.mono ?_
      rintro e w4 ⟨rfl, hb4⟩
      have HB4 := Lib.hid hb4
      clear hb4
      go_wp2_with fail
      refine (HFr.out _).mono ?_
      rintro e w5 ⟨rfl, hb5⟩
      have HB5 := Lib.hid (below_th HB4.out hb5)
      clear hb5 c0 c1 c2 c3 c5
      obtain ⟨c0, c1, c2, c3, c5⟩ := (HT.out _ HB5.out).all
      have hD6 := (HT.out _ HB5.out.drew).all
      go_wp2_with fail
      refine wp_region_held (S := fun w' => w'.cell? ⟨tb, 0, none⟩ = some (.pointer (some ⟨a.kb, 0, none⟩)) ∧ w'.cell? ⟨tb, 1, none⟩ = some (.pointer (some ⟨e.eb, 0, none⟩)) ∧ w'.cell? ⟨a.kb, 2, none⟩ = some (.pointer (some ⟨a.c.cb, 0, none⟩)) ∧ w'.cell? ⟨a.kb, 3, none⟩ = some (.pointer (some ⟨a.nb, 0, none⟩)) ∧ w'.cell? ⟨a.kb, 5, none⟩ = some (.int .u32 K.now)) (by kernel_rfl) ?_
      refine H_take (i := 0) (v := ?_) rfl (by kernel_rfl) (by kernel_rfl) (by kernel_rfl) (fun _ _ _ h => h) (Or.inl ⟨by rfl, ?_⟩) hD6 ?_
      rotate_left
      · intro W hW; obtain ⟨k0, k1, k2, k3, k5⟩ := hW; go_simp; try with_reducible rfl
      try simp only [Act.put, Za, Zb, Zc, Zd, Ze, Zf]
      refine H_take (i := 1) (v := ?_) rfl (by kernel_rfl) (by kernel_rfl) (by kernel_rfl) (fun _ _ _ h => h) (Or.inl ⟨by rfl, ?_⟩) hD6 ?_
      rotate_left
      · intro W hW; obtain ⟨k0, k1, k2, k3, k5⟩ := hW; go_simp; try with_reducible rfl
      try simp only [Act.put, Za, Zb, Zc, Zd, Ze, Zf]
      refine H_take (i := 2) (v := ?_) rfl (by kernel_rfl) (by kernel_rfl) (by kernel_rfl) (fun _ _ _ h => h) (Or.inl ⟨by rfl, ?_⟩) hD6 ?_
      rotate_left
      · intro W hW; obtain ⟨k0, k1, k2, k3, k5⟩ := hW; go_simp; try with_reducible rfl
      try simp only [Act.put, Za, Zb, Zc, Zd, Ze, Zf]
      refine H_take (i := 3) (v := undef) rfl (by kernel_rfl) (by kernel_rfl) (by kernel_rfl) (fun _ _ _ h => h) (Or.inr ⟨by rfl, rfl⟩) hD6 ?_
      try simp only [Act.put, Za, Zb, Zc, Zd, Ze, Zf]
      refine H_take (i := 4) (v := undef) rfl (by kernel_rfl) (by kernel_rfl) (by kernel_rfl) (fun _ _ _ h => h) (Or.inr ⟨by rfl, rfl⟩) hD6 ?_
      try simp only [Act.put, Za, Zb, Zc, Zd, Ze, Zf]
      refine H_take (i := 5) (v := undef) rfl (by kernel_rfl) (by kernel_rfl) (by kernel_rfl) (fun _ _ _ h => h) (Or.inr ⟨by rfl, rfl⟩) hD6 ?_
      try simp only [Act.put, Za, Zb, Zc, Zd, Ze, Zf]
      refine H_take (i := 6) (v := undef) rfl (by kernel_rfl) (by kernel_rfl) (by kernel_rfl) (fun _ _ _ h => h) (Or.inr ⟨by rfl, rfl⟩) hD6 ?_
      try simp only [Act.put, Za, Zb, Zc, Zd, Ze, Zf]
      refine H_take (i := 7) (v := undef) rfl (by kernel_rfl) (by kernel_rfl) (by kernel_rfl) (fun _ _ _ h => h) (Or.inr ⟨by rfl, rfl⟩) hD6 ?_
      try simp only [Act.put, Za, Zb, Zc, Zd, Ze, Zf]
      refine H_take (i := 8) (v := undef) rfl (by kernel_rfl) (by kernel_rfl) (by kernel_rfl) (fun _ _ _ h => h) (Or.inr ⟨by rfl, rfl⟩) hD6 ?_
      try simp only [Act.put, Za, Zb, Zc, Zd, Ze, Zf]
      refine H_take (i := 9) (v := undef) rfl (by kernel_rfl) (by kernel_rfl) (by kernel_rfl) (fun _ _ _ h => h) (Or.inr ⟨by rfl, rfl⟩) hD6 ?_
      try simp only [Act.put, Za, Zb, Zc, Zd, Ze, Zf]
      refine H_take (i := 10) (v := undef) rfl (by kernel_rfl) (by kernel_rfl) (by kernel_rfl) (fun _ _ _ h => h) (Or.inr ⟨by rfl, rfl⟩) hD6 ?_
      try simp only [Act.put, Za, Zb, Zc, Zd, Ze, Zf]
      refine H_take (i := 11) (v := undef) rfl (by kernel_rfl) (by kernel_rfl) (by kernel_rfl) (fun _ _ _ h => h) (Or.inr ⟨by rfl, rfl⟩) hD6 ?_
      try simp only [Act.put, Za, Zb, Zc, Zd, Ze, Zf]
      refine H_take (i := 12) (v := undef) rfl (by kernel_rfl) (by kernel_rfl) (by kernel_rfl) (fun _ _ _ h => h) (Or.inr ⟨by rfl, rfl⟩) hD6 ?_
      try simp only [Act.put, Za, Zb, Zc, Zd, Ze, Zf]
      refine H_take (i := 13) (v := undef) rfl (by kernel_rfl) (by kernel_rfl) (by kernel_rfl) (fun _ _ _ h => h) (Or.inr ⟨by rfl, rfl⟩) hD6 ?_
      try simp only [Act.put, Za, Zb, Zc, Zd, Ze, Zf]
      refine H_take (i := 14) (v := undef) rfl (by kernel_rfl) (by kernel_rfl) (by kernel_rfl) (fun _ _ _ h => h) (Or.inr ⟨by rfl, rfl⟩) hD6 ?_
      try simp only [Act.put, Za, Zb, Zc, Zd, Ze, Zf]
      refine H_take (i := 15) (v := undef) rfl (by kernel_rfl) (by kernel_rfl) (by kernel_rfl) (fun _ _ _ h => h) (Or.inr ⟨by rfl, rfl⟩) hD6 ?_
      try simp only [Act.put, Za, Zb, Zc, Zd, Ze, Zf]
      refine H_take (i := 16) (v := undef) rfl (by kernel_rfl) (by kernel_rfl) (by kernel_rfl) (fun _ _ _ h => h) (Or.inr ⟨by rfl, rfl⟩) hD6 ?_
      try simp only [Act.put, Za, Zb, Zc, Zd, Ze, Zf]
      refine H_take (i := 17) (v := undef) rfl (by kernel_rfl) (by kernel_rfl) (by kernel_rfl) (fun _ _ _ h => h) (Or.inr ⟨by rfl, rfl⟩) hD6 ?_
      try simp only [Act.put, Za, Zb, Zc, Zd, Ze, Zf]
      refine H_take (i := 18) (v := ?_) rfl (by kernel_rfl) (by kernel_rfl) (by kernel_rfl) (fun _ _ _ h => h) (Or.inl ⟨by rfl, ?_⟩) hD6 ?_
      rotate_left
      · intro W hW; obtain ⟨k0, k1, k2, k3, k5⟩ := hW; go_simp; try with_reducible rfl
      try simp only [Act.put, Za, Zb, Zc, Zd, Ze, Zf]
      refine wpAnyH_done (by kernel_rfl) ?_ _
      have HK6 := Lib.hid (HK.out _ HB5.out.drew)
      go_wp2
      exact HK6.out
    | true =>
      rw [hp] at HFr
      have HN := Lib.hid fun V (hV : Below w.heap.size w V) => Ev.num (h.below hV).s.j.en
      rw [h.n1] at HN
      have HPo := Lib.hid fun V (hV : Below w.heap.size w V) => Ca.port (h.below hV).s.j.kn.caps (Ni.portV s 20)
      cases hq : Gp.hasPort K.g (Ni.portV s 20) with
      | false =>
        rw [hq] at HPo
        have HK := Lib.hid fun V (hV : Below w.heap.size w V) => HFin1.out V (HT.out V hV) (.inr hq)
        generalize Ni.portV s 20 = pv at *
        clear h hp hq
        go_enter Tryz.func134, Tryz.ntmps134
        go_wp2_with fail
        refine (HA2.out _ (Below.refl _ _)).mono ?_
        rintro e w1 ⟨rfl, rfl⟩
        go_wp2_with fail
        refine (HA1.out _ (Below.refl _ _)).mono ?_
        rintro e w3 ⟨rfl, rfl⟩
        go_wp2_with fail
        refine HBy.out.mono ?_
        rintro e w4 ⟨rfl, hb4⟩
        have HB4 := Lib.hid hb4
        clear hb4
        go_wp2_with fail
        refine (HFr.out _).mono ?_
        rintro e w5 ⟨rfl, hb5⟩
        have HB5 := Lib.hid (below_th HB4.out hb5)
        clear hb5 c0 c1 c2 c3 c5
        obtain ⟨c0, c1, c2, c3, c5⟩ := (HT.out _ HB5.out).all
        have hD := (HT.out _ HB5.out.drew).all
        have HBd := Lib.hid HB5.out.drew
        go_wp2_with fail
        refine wp_region_held (S := fun w' => w'.cell? ⟨tb, 0, none⟩ = some (.pointer (some ⟨a.kb, 0, none⟩)) ∧ w'.cell? ⟨tb, 1, none⟩ = some (.pointer (some ⟨e.eb, 0, none⟩)) ∧ w'.cell? ⟨a.kb, 2, none⟩ = some (.pointer (some ⟨a.c.cb, 0, none⟩)) ∧ w'.cell? ⟨a.kb, 3, none⟩ = some (.pointer (some ⟨a.nb, 0, none⟩)) ∧ w'.cell? ⟨a.kb, 5, none⟩ = some (.int .u32 K.now)) (by kernel_rfl) ?_
        refine H_take (i := 0) (v := ?_) rfl (by kernel_rfl) (by kernel_rfl) (by kernel_rfl) (fun _ _ _ h => h) (Or.inl ⟨by rfl, ?_⟩) hD ?_
        rotate_left
        · intro W hW; obtain ⟨k0, k1, k2, k3, k5⟩ := hW; go_simp; try with_reducible rfl
        try simp only [Act.put, Za, Zb, Zc, Zd, Ze, Zf]
        refine H_take (i := 1) (v := ?_) rfl (by kernel_rfl) (by kernel_rfl) (by kernel_rfl) (fun _ _ _ h => h) (Or.inl ⟨by rfl, ?_⟩) hD ?_
        rotate_left
        · intro W hW; obtain ⟨k0, k1, k2, k3, k5⟩ := hW; go_simp; try with_reducible rfl
        try simp only [Act.put, Za, Zb, Zc, Zd, Ze, Zf]
        refine H_take (i := 2) (v := ?_) rfl (by kernel_rfl) (by kernel_rfl) (by kernel_rfl) (fun _ _ _ h => h) (Or.inl ⟨by rfl, ?_⟩) hD ?_
        rotate_left
        · intro W hW; obtain ⟨k0, k1, k2, k3, k5⟩ := hW; go_simp; try with_reducible rfl
        try simp only [Act.put, Za, Zb, Zc, Zd, Ze, Zf]
        refine H_take (i := 3) (v := ?_) rfl (by kernel_rfl) (by kernel_rfl) (by kernel_rfl) (fun _ _ _ h => h) (Or.inl ⟨by rfl, ?_⟩) hD ?_
        rotate_left
        · intro W hW; obtain ⟨k0, k1, k2, k3, k5⟩ := hW; go_simp; try with_reducible rfl
        try simp only [Act.put, Za, Zb, Zc, Zd, Ze, Zf]
        refine H_take (i := 4) (v := ?_) rfl (by kernel_rfl) (by kernel_rfl) (by kernel_rfl) (fun _ _ _ h => h) (Or.inl ⟨by rfl, ?_⟩) hD ?_
        rotate_left
        · intro W hW; obtain ⟨k0, k1, k2, k3, k5⟩ := hW; go_simp; try with_reducible rfl
        try simp only [Act.put, Za, Zb, Zc, Zd, Ze, Zf]
        refine H_take (i := 5) (v := ?_) rfl (by kernel_rfl) (by kernel_rfl) (by kernel_rfl) (fun _ _ _ h => h) (Or.inl ⟨by rfl, ?_⟩) hD ?_
        rotate_left
        · intro W hW; obtain ⟨k0, k1, k2, k3, k5⟩ := hW; go_simp; try with_reducible rfl
        try simp only [Act.put, Za, Zb, Zc, Zd, Ze, Zf]
        refine H_take (i := 6) (v := ?_) rfl (by kernel_rfl) (by kernel_rfl) (by kernel_rfl) (fun _ _ _ h => h) (Or.inl ⟨by rfl, ?_⟩) hD ?_
        rotate_left
        · intro W hW; obtain ⟨k0, k1, k2, k3, k5⟩ := hW; go_simp; try with_reducible rfl
        try simp only [Act.put, Za, Zb, Zc, Zd, Ze, Zf]
        refine H_take (i := 7) (v := ?_) rfl (by kernel_rfl) (by kernel_rfl) (by kernel_rfl) (fun _ _ _ h => h) (Or.inl ⟨by rfl, ?_⟩) hD ?_
        rotate_left
        · intro W hW; obtain ⟨k0, k1, k2, k3, k5⟩ := hW; go_simp; try with_reducible rfl
        try simp only [Act.put, Za, Zb, Zc, Zd, Ze, Zf]
        refine H_take (i := 8) (v := ?_) rfl (by kernel_rfl) (by kernel_rfl) (by kernel_rfl) (fun _ _ _ h => h) (Or.inl ⟨by rfl, ?_⟩) hD ?_
        rotate_left
        · intro W hW; obtain ⟨k0, k1, k2, k3, k5⟩ := hW; go_simp; try with_reducible rfl
        try simp only [Act.put, Za, Zb, Zc, Zd, Ze, Zf]
        refine H_take (i := 9) (v := ?_) rfl (by kernel_rfl) (by kernel_rfl) (by kernel_rfl) (fun _ _ _ h => h) (Or.inl ⟨by rfl, ?_⟩) hD ?_
        rotate_left
        · intro W hW; obtain ⟨k0, k1, k2, k3, k5⟩ := hW; go_simp; try with_reducible rfl
        try simp only [Act.put, Za, Zb, Zc, Zd, Ze, Zf]
        refine H_take (i := 10) (v := ?_) rfl (by kernel_rfl) (by kernel_rfl) (by kernel_rfl) (fun _ _ _ h => h) (Or.inl ⟨by rfl, ?_⟩) hD ?_
        rotate_left
        · intro W hW; obtain ⟨k0, k1, k2, k3, k5⟩ := hW; go_simp; try with_reducible rfl
        try simp only [Act.put, Za, Zb, Zc, Zd, Ze, Zf]
        refine H_take (i := 11) (v := ?_) rfl (by kernel_rfl) (by kernel_rfl) (by kernel_rfl) (fun _ _ _ h => h) (Or.inl ⟨by rfl, ?_⟩) hD ?_
        rotate_left
        · intro W hW; obtain ⟨k0, k1, k2, k3, k5⟩ := hW; go_simp; try with_reducible rfl
        try simp only [Act.put, Za, Zb, Zc, Zd, Ze, Zf]
        refine H_take (i := 12) (v := ?_) rfl (by kernel_rfl) (by kernel_rfl) (by kernel_rfl) (fun _ _ _ h => h) (Or.inl ⟨by rfl, ?_⟩) hD ?_
        rotate_left
        · intro W hW; obtain ⟨k0, k1, k2, k3, k5⟩ := hW; go_simp; try with_reducible rfl
        try simp only [Act.put, Za, Zb, Zc, Zd, Ze, Zf]
        refine H_take (i := 13) (v := ?_) rfl (by kernel_rfl) (by kernel_rfl) (by kernel_rfl) (fun _ _ _ h => h) (Or.inl ⟨by rfl, ?_⟩) hD ?_
        rotate_left
        · intro W hW; obtain ⟨k0, k1, k2, k3, k5⟩ := hW; go_simp; try with_reducible rfl
        try simp only [Act.put, Za, Zb, Zc, Zd, Ze, Zf]
        refine H_take (i := 15) (v := ?_) rfl (by kernel_rfl) (by kernel_rfl) (by kernel_rfl) (fun _ _ _ h => h) (Or.inl ⟨by rfl, ?_⟩) hD ?_
        rotate_left
        · intro W hW; obtain ⟨k0, k1, k2, k3, k5⟩ := hW; go_simp; try with_reducible rfl
        try simp only [Act.put, Za, Zb, Zc, Zd, Ze, Zf]
        refine H_one (i := 14) (by kernel_rfl) rfl (fun K hK => ?_)
        go_simp
        go_at_call 81
        refine (HN.out _ HBd.out).mono ?_
        rintro e x5 ⟨rfl, rfl⟩
        refine hK.out _ _ hD (fun _ => ?_)
        clear hK K
        try simp only [Act.put, Za, Zb, Zc, Zd, Ze, Zf]
        refine H_one (i := 16) (by kernel_rfl) rfl (fun K hK => ?_)
        go_simp
        go_at_call 100
        refine (HPo.out _ HBd.out).mono ?_
        rintro e x6 ⟨rfl, hb6⟩
        have HB6 := Lib.hid (below_th HBd.out hb6)
        have h6 := (HT.out _ HB6.out).all
        clear hb6
        refine hK.out _ _ h6 (fun _ => ?_)
        clear hK K
        try simp only [Act.put, Za, Zb, Zc, Zd, Ze, Zf]
        refine H_take (i := 17) (v := ?_) rfl (by kernel_rfl) (by kernel_rfl) (by kernel_rfl) (fun _ _ _ h => h) (Or.inl ⟨by rfl, ?_⟩) h6 ?_
        rotate_left
        · intro W hW; obtain ⟨k0, k1, k2, k3, k5⟩ := hW; go_simp; try with_reducible rfl
        try simp only [Act.put, Za, Zb, Zc, Zd, Ze, Zf]
        refine H_take (i := 18) (v := ?_) rfl (by kernel_rfl) (by kernel_rfl) (by kernel_rfl) (fun _ _ _ h => h) (Or.inl ⟨by rfl, ?_⟩) h6 ?_
        rotate_left
        · intro W hW; obtain ⟨k0, k1, k2, k3, k5⟩ := hW; go_simp; try with_reducible rfl
        try simp only [Act.put, Za, Zb, Zc, Zd, Ze, Zf]
        refine wpAnyH_done (by kernel_rfl) ?_ _
        have HK6 := Lib.hid (HK.out _ HB6.out)
        go_wp2
        exact HK6.out
      | true =>
        rw [hq] at HPo
        have HF2 := Lib.hid fun V a' hV => HFin2.out V a' hV (by rw [hp, hq]; simp)
        generalize Ni.portV s 20 = pv at *
        clear h hp hq
        go_enter Tryz.func134, Tryz.ntmps134
        go_wp2_with fail
        refine (HA2.out _ (Below.refl _ _)).mono ?_
        rintro e w1 ⟨rfl, rfl⟩
        go_wp2_with fail
        refine (HA1.out _ (Below.refl _ _)).mono ?_
        rintro e w3 ⟨rfl, rfl⟩
        go_wp2_with fail
        refine HBy.out.mono ?_
        rintro e w4 ⟨rfl, hb4⟩
        have HB4 := Lib.hid hb4
        clear hb4
        go_wp2_with fail
        refine (HFr.out _).mono ?_
        rintro e w5 ⟨rfl, hb5⟩
        have HB5 := Lib.hid (below_th HB4.out hb5)
        clear hb5 c0 c1 c2 c3 c5
        obtain ⟨c0, c1, c2, c3, c5⟩ := (HT.out _ HB5.out).all
        have hD := (HT.out _ HB5.out.drew).all
        have HBd := Lib.hid HB5.out.drew
        go_wp2_with fail
        refine wp_region_held (S := fun w' => w'.cell? ⟨tb, 0, none⟩ = some (.pointer (some ⟨a.kb, 0, none⟩)) ∧ w'.cell? ⟨tb, 1, none⟩ = some (.pointer (some ⟨e.eb, 0, none⟩)) ∧ w'.cell? ⟨a.kb, 2, none⟩ = some (.pointer (some ⟨a.c.cb, 0, none⟩)) ∧ w'.cell? ⟨a.kb, 3, none⟩ = some (.pointer (some ⟨a.nb, 0, none⟩)) ∧ w'.cell? ⟨a.kb, 5, none⟩ = some (.int .u32 K.now)) (by kernel_rfl) ?_
        refine H_take (i := 0) (v := ?_) rfl (by kernel_rfl) (by kernel_rfl) (by kernel_rfl) (fun _ _ _ h => h) (Or.inl ⟨by rfl, ?_⟩) hD ?_
        rotate_left
        · intro W hW; obtain ⟨k0, k1, k2, k3, k5⟩ := hW; go_simp; try with_reducible rfl
        try simp only [Act.put, Za, Zb, Zc, Zd, Ze, Zf]
        refine H_take (i := 1) (v := ?_) rfl (by kernel_rfl) (by kernel_rfl) (by kernel_rfl) (fun _ _ _ h => h) (Or.inl ⟨by rfl, ?_⟩) hD ?_
        rotate_left
        · intro W hW; obtain ⟨k0, k1, k2, k3, k5⟩ := hW; go_simp; try with_reducible rfl
        try simp only [Act.put, Za, Zb, Zc, Zd, Ze, Zf]
        refine H_take (i := 2) (v := ?_) rfl (by kernel_rfl) (by kernel_rfl) (by kernel_rfl) (fun _ _ _ h => h) (Or.inl ⟨by rfl, ?_⟩) hD ?_
        rotate_left
        · intro W hW; obtain ⟨k0, k1, k2, k3, k5⟩ := hW; go_simp; try with_reducible rfl
        try simp only [Act.put, Za, Zb, Zc, Zd, Ze, Zf]
        refine H_take (i := 3) (v := ?_) rfl (by kernel_rfl) (by kernel_rfl) (by kernel_rfl) (fun _ _ _ h => h) (Or.inl ⟨by rfl, ?_⟩) hD ?_
        rotate_left
        · intro W hW; obtain ⟨k0, k1, k2, k3, k5⟩ := hW; go_simp; try with_reducible rfl
        try simp only [Act.put, Za, Zb, Zc, Zd, Ze, Zf]
        refine H_take (i := 4) (v := ?_) rfl (by kernel_rfl) (by kernel_rfl) (by kernel_rfl) (fun _ _ _ h => h) (Or.inl ⟨by rfl, ?_⟩) hD ?_
        rotate_left
        · intro W hW; obtain ⟨k0, k1, k2, k3, k5⟩ := hW; go_simp; try with_reducible rfl
        try simp only [Act.put, Za, Zb, Zc, Zd, Ze, Zf]
        refine H_take (i := 5) (v := ?_) rfl (by kernel_rfl) (by kernel_rfl) (by kernel_rfl) (fun _ _ _ h => h) (Or.inl ⟨by rfl, ?_⟩) hD ?_
        rotate_left
        · intro W hW; obtain ⟨k0, k1, k2, k3, k5⟩ := hW; go_simp; try with_reducible rfl
        try simp only [Act.put, Za, Zb, Zc, Zd, Ze, Zf]
        refine H_take (i := 6) (v := ?_) rfl (by kernel_rfl) (by kernel_rfl) (by kernel_rfl) (fun _ _ _ h => h) (Or.inl ⟨by rfl, ?_⟩) hD ?_
        rotate_left
        · intro W hW; obtain ⟨k0, k1, k2, k3, k5⟩ := hW; go_simp; try with_reducible rfl
        try simp only [Act.put, Za, Zb, Zc, Zd, Ze, Zf]
        refine H_take (i := 7) (v := ?_) rfl (by kernel_rfl) (by kernel_rfl) (by kernel_rfl) (fun _ _ _ h => h) (Or.inl ⟨by rfl, ?_⟩) hD ?_
        rotate_left
        · intro W hW; obtain ⟨k0, k1, k2, k3, k5⟩ := hW; go_simp; try with_reducible rfl
        try simp only [Act.put, Za, Zb, Zc, Zd, Ze, Zf]
        refine H_take (i := 8) (v := ?_) rfl (by kernel_rfl) (by kernel_rfl) (by kernel_rfl) (fun _ _ _ h => h) (Or.inl ⟨by rfl, ?_⟩) hD ?_
        rotate_left
        · intro W hW; obtain ⟨k0, k1, k2, k3, k5⟩ := hW; go_simp; try with_reducible rfl
        try simp only [Act.put, Za, Zb, Zc, Zd, Ze, Zf]
        refine H_take (i := 9) (v := ?_) rfl (by kernel_rfl) (by kernel_rfl) (by kernel_rfl) (fun _ _ _ h => h) (Or.inl ⟨by rfl, ?_⟩) hD ?_
        rotate_left
        · intro W hW; obtain ⟨k0, k1, k2, k3, k5⟩ := hW; go_simp; try with_reducible rfl
        try simp only [Act.put, Za, Zb, Zc, Zd, Ze, Zf]
        refine H_take (i := 10) (v := ?_) rfl (by kernel_rfl) (by kernel_rfl) (by kernel_rfl) (fun _ _ _ h => h) (Or.inl ⟨by rfl, ?_⟩) hD ?_
        rotate_left
        · intro W hW; obtain ⟨k0, k1, k2, k3, k5⟩ := hW; go_simp; try with_reducible rfl
        try simp only [Act.put, Za, Zb, Zc, Zd, Ze, Zf]
        refine H_take (i := 11) (v := ?_) rfl (by kernel_rfl) (by kernel_rfl) (by kernel_rfl) (fun _ _ _ h => h) (Or.inl ⟨by rfl, ?_⟩) hD ?_
        rotate_left
        · intro W hW; obtain ⟨k0, k1, k2, k3, k5⟩ := hW; go_simp; try with_reducible rfl
        try simp only [Act.put, Za, Zb, Zc, Zd, Ze, Zf]
        refine H_take (i := 12) (v := ?_) rfl (by kernel_rfl) (by kernel_rfl) (by kernel_rfl) (fun _ _ _ h => h) (Or.inl ⟨by rfl, ?_⟩) hD ?_
        rotate_left
        · intro W hW; obtain ⟨k0, k1, k2, k3, k5⟩ := hW; go_simp; try with_reducible rfl
        try simp only [Act.put, Za, Zb, Zc, Zd, Ze, Zf]
        refine H_take (i := 13) (v := ?_) rfl (by kernel_rfl) (by kernel_rfl) (by kernel_rfl) (fun _ _ _ h => h) (Or.inl ⟨by rfl, ?_⟩) hD ?_
        rotate_left
        · intro W hW; obtain ⟨k0, k1, k2, k3, k5⟩ := hW; go_simp; try with_reducible rfl
        try simp only [Act.put, Za, Zb, Zc, Zd, Ze, Zf]
        refine H_take (i := 15) (v := ?_) rfl (by kernel_rfl) (by kernel_rfl) (by kernel_rfl) (fun _ _ _ h => h) (Or.inl ⟨by rfl, ?_⟩) hD ?_
        rotate_left
        · intro W hW; obtain ⟨k0, k1, k2, k3, k5⟩ := hW; go_simp; try with_reducible rfl
        try simp only [Act.put, Za, Zb, Zc, Zd, Ze, Zf]
        refine H_one (i := 14) (by kernel_rfl) rfl (fun K hK => ?_)
        go_simp
        go_at_call 81
        refine (HN.out _ HBd.out).mono ?_
        rintro e x5 ⟨rfl, rfl⟩
        refine hK.out _ _ hD (fun _ => ?_)
        clear hK K
        try simp only [Act.put, Za, Zb, Zc, Zd, Ze, Zf]
        refine H_one (i := 16) (by kernel_rfl) rfl (fun K hK => ?_)
        go_simp
        go_at_call 100
        refine (HPo.out _ HBd.out).mono ?_
        rintro e x6 ⟨rfl, hb6⟩
        have HB6 := Lib.hid (below_th HBd.out hb6)
        have h6 := (HT.out _ HB6.out).all
        clear hb6
        refine hK.out _ _ h6 (fun _ => ?_)
        clear hK K
        try simp only [Act.put, Za, Zb, Zc, Zd, Ze, Zf]
        refine H_take (i := 17) (v := ?_) rfl (by kernel_rfl) (by kernel_rfl) (by kernel_rfl) (fun _ _ _ h => h) (Or.inl ⟨by rfl, ?_⟩) h6 ?_
        rotate_left
        · intro W hW; obtain ⟨k0, k1, k2, k3, k5⟩ := hW; go_simp; try with_reducible rfl
        try simp only [Act.put, Za, Zb, Zc, Zd, Ze, Zf]
        refine H_take (i := 18) (v := ?_) rfl (by kernel_rfl) (by kernel_rfl) (by kernel_rfl) (fun _ _ _ h => h) (Or.inl ⟨by rfl, ?_⟩) h6 ?_
        rotate_left
        · intro W hW; obtain ⟨k0, k1, k2, k3, k5⟩ := hW; go_simp; try with_reducible rfl
        try simp only [Act.put, Za, Zb, Zc, Zd, Ze, Zf]
        refine wpAnyH_done (by kernel_rfl) ?_ _
        clear c0 c1 c2 c3 c5 hD
        have ht6 := HT.out _ HB6.out
        obtain ⟨c0, c1, c2, c3, c5⟩ := h6
        have HSe := Lib.hid (Ni.send ht6.s.j.kn.nic s (by omega) HHs.out)
        have HSk := Lib.hid fun V' (g : Ni.NicO V' (Ni.Fr (fun k => a.tag k = 3) x6) a.nb (Ni.sendS K.N s)) (g' : Mod (fun k => a.tag k = 3) x6 V') => ht6.left (KStep.setNic ht6.s.j.kn g g' (by unfold Ni.sendS; split <;> exact ht6.s.j.kn.ok.q) (by unfold Ni.sendS; split <;> exact ht6.s.j.kn.ok.g0))
        clear ht6
        go_wp2_with fail
        refine HSe.out.mono ?_
        rintro e w7 ⟨rfl, hn7, hm7⟩
        have HK7 := Lib.hid (HSk.out _ hn7 hm7)
        clear hn7 hm7 c0 c1 c2 c3 c5
        obtain ⟨c0, c1, c2, c3, c5⟩ := HK7.out.all
        have HSh := Lib.hid (shows HK7.out 2 0 s)
        go_wp2_with fail
        refine HSh.out.mono ?_
        rintro e w8 ⟨rfl, h8⟩
        have HK8 := Lib.hid (HF2.out _ _ h8)
        clear h8
        go_wp2
        exact HK8.out
  · have hfb : (Sp.getE E.A v1 v2 1 == 0) = false := beq_eq_false_iff_ne.2 hf
    have HFin := Lib.hid fun V (hV : Below w.heap.size w V) => (fin_no (h.below hV) (f := fun _ => Co.send K E v1 v2) 2 fun b => by unfold Co.send Kn.bytes; rw [if_neg q1, if_neg q2, if_neg hf])
    generalize CallPost W tb a0 e0 A0 x (fun _ => Co.send K E v1 v2) = PQ at *
    generalize Sp.getS E.A v1 v2 1 = s at *
    generalize Sp.getE E.A v1 v2 1 = ge at *
    clear h q2 hf
    go_enter Tryz.func134, Tryz.ntmps134
    go_wp2_with fail
    refine (HA2.out _ (Below.refl _ _)).mono ?_
    rintro e w1 ⟨rfl, rfl⟩
    go_wp2_with fail
    refine (HA1.out _ (Below.refl _ _)).mono ?_
    rintro e w3 ⟨rfl, rfl⟩
    go_wp2_with fail
    refine HBy.out.mono ?_
    rintro e w4 ⟨rfl, hb4⟩
    have HK6 := Lib.hid (HFin.out _ hb4)
    clear hb4
    go_wp2
    exact HK6.out
set_option maxRecDepth 100000 in
set_option maxHeartbeats 8000000 in
theorem recv (h : Tk W w tb a0 e0 A0 a K e E x) : Calls Tryz.prog 135 #[.pointer (some ⟨tb, 0, none⟩)] w (CallPost W tb a0 e0 A0 x fun _ => Co.recv K E (E.arg 1) (E.arg 2) (E.arg 3)) := by
  have hbd1 := arg_bd h.s.j.en 1
  have HA1 := Lib.hid fun V (hV : Below w.heap.size w V) => Ev.arg (h.s.j.en.below hV) 1 (by omega) (by omega)
  generalize E.arg 1 = v1 at *
  obtain ⟨v10, v11⟩ := hbd1
  have hbd2 := arg_bd h.s.j.en 2
  have HA2 := Lib.hid fun V (hV : Below w.heap.size w V) => Ev.arg (h.s.j.en.below hV) 2 (by omega) (by omega)
  generalize E.arg 2 = v2 at *
  obtain ⟨v20, v21⟩ := hbd2
  have hbd3 := arg_bd h.s.j.en 3
  have HA3 := Lib.hid fun V (hV : Below w.heap.size w V) => Ev.arg (h.s.j.en.below hV) 3 (by omega) (by omega)
  generalize E.arg 3 = v3 at *
  obtain ⟨v30, v31⟩ := hbd3
  have HN := Lib.hid fun V (hV : Below w.heap.size w V) => (Ev.num (h.below hV).s.j.en)
  rw [h.n1] at HN
  have hdr := h.below (Below.refl _ _).drew
  have hD := hdr.all
  obtain ⟨c0, c1, c2, c3, c5⟩ := h.all
  have HT := Lib.hid fun V (hV : Below w.heap.size w V) => h.below hV
  by_cases q1 : 65535 < v1
  · have HFin := Lib.hid fun V (hV : Tk W V tb a0 e0 A0 a K e E x) => fin_no hV (f := fun _ => Co.recv K E v1 v2 v3) 1 fun b => by unfold Co.recv; rw [if_pos (.inl q1)]
    generalize CallPost W tb a0 e0 A0 x (fun _ => Co.recv K E v1 v2 v3) = PQ at *
    have q1d : decide (65535 < v1) = true := decide_eq_true q1
    have q1e : decide (v1 > 65535) = true := decide_eq_true q1
    clear h hdr
    go_enter Tryz.func135, Tryz.ntmps135
    go_wp2_with fail
    refine (HA1.out _ (Below.refl _ _)).mono ?_
    rintro e w3 ⟨rfl, rfl⟩
    go_wp2_with fail
    refine wp_region_held (S := fun w' => w'.cell? ⟨tb, 0, none⟩ = some (.pointer (some ⟨a.kb, 0, none⟩)) ∧ w'.cell? ⟨tb, 1, none⟩ = some (.pointer (some ⟨e.eb, 0, none⟩)) ∧ w'.cell? ⟨a.kb, 2, none⟩ = some (.pointer (some ⟨a.c.cb, 0, none⟩)) ∧ w'.cell? ⟨a.kb, 3, none⟩ = some (.pointer (some ⟨a.nb, 0, none⟩)) ∧ w'.cell? ⟨a.kb, 5, none⟩ = some (.int .u32 K.now)) (by kernel_rfl) ?_
    refine H_take (i := 0) (v := ?_) rfl (by kernel_rfl) (by kernel_rfl) (by kernel_rfl) (fun _ _ _ h => h) (Or.inl ⟨by rfl, ?_⟩) hD ?_
    rotate_left
    · intro W hW; obtain ⟨k0, k1, k2, k3, k5⟩ := hW; go_simp; try with_reducible rfl
    try simp only [Act.put, Za, Zb, Zc, Zd, Ze, Zf]
    refine H_take (i := 1) (v := ?_) rfl (by kernel_rfl) (by kernel_rfl) (by kernel_rfl) (fun _ _ _ h => h) (Or.inl ⟨by rfl, ?_⟩) hD ?_
    rotate_left
    · intro W hW; obtain ⟨k0, k1, k2, k3, k5⟩ := hW; go_simp; try with_reducible rfl
    try simp only [Act.put, Za, Zb, Zc, Zd, Ze, Zf]
    refine H_take (i := 2) (v := ?_) rfl (by kernel_rfl) (by kernel_rfl) (by kernel_rfl) (fun _ _ _ h => h) (Or.inl ⟨by rfl, ?_⟩) hD ?_
    rotate_left
    · intro W hW; obtain ⟨k0, k1, k2, k3, k5⟩ := hW; go_simp; try with_reducible rfl
    try simp only [Act.put, Za, Zb, Zc, Zd, Ze, Zf]
    refine H_take (i := 3) (v := ?_) rfl (by kernel_rfl) (by kernel_rfl) (by kernel_rfl) (fun _ _ _ h => h) (Or.inl ⟨by rfl, ?_⟩) hD ?_
    rotate_left
    · intro W hW; obtain ⟨k0, k1, k2, k3, k5⟩ := hW; go_simp; try with_reducible rfl
    try simp only [Act.put, Za, Zb, Zc, Zd, Ze, Zf]
    refine H_one (i := 4) (by kernel_rfl) rfl (fun K hK => ?_)
    go_simp
    go_at_call 32
    refine (HA1.out _ (Below.refl _ _).drew).mono ?_
    rintro e x1 ⟨rfl, rfl⟩
    refine hK.out _ _ hD (fun _ => ?_)
    clear hK K
    try simp only [Act.put, Za, Zb, Zc, Zd, Ze, Zf]
    refine H_take (i := 5) (v := ?_) rfl (by kernel_rfl) (by kernel_rfl) (by kernel_rfl) (fun _ _ _ h => h) (Or.inl ⟨by rfl, ?_⟩) hD ?_
    rotate_left
    · intro W hW; obtain ⟨k0, k1, k2, k3, k5⟩ := hW; go_simp; try with_reducible rfl
    try simp only [Act.put, Za, Zb, Zc, Zd, Ze, Zf]
    refine H_take (i := 6) (v := ?_) rfl (by kernel_rfl) (by kernel_rfl) (by kernel_rfl) (fun _ _ _ h => h) (Or.inl ⟨by rfl, ?_⟩) hD ?_
    rotate_left
    · intro W hW; obtain ⟨k0, k1, k2, k3, k5⟩ := hW; go_simp; try with_reducible rfl
    try simp only [Act.put, Za, Zb, Zc, Zd, Ze, Zf]
    try simp only [q1d, q1e]
    refine H_take (i := 7) (v := undef) rfl (by kernel_rfl) (by kernel_rfl) (by kernel_rfl) (fun _ _ _ h => h) (Or.inr ⟨by rfl, rfl⟩) hD ?_
    try simp only [Act.put, Za, Zb, Zc, Zd, Ze, Zf]
    refine H_take (i := 8) (v := undef) rfl (by kernel_rfl) (by kernel_rfl) (by kernel_rfl) (fun _ _ _ h => h) (Or.inr ⟨by rfl, rfl⟩) hD ?_
    try simp only [Act.put, Za, Zb, Zc, Zd, Ze, Zf]
    refine H_take (i := 9) (v := undef) rfl (by kernel_rfl) (by kernel_rfl) (by kernel_rfl) (fun _ _ _ h => h) (Or.inr ⟨by rfl, rfl⟩) hD ?_
    try simp only [Act.put, Za, Zb, Zc, Zd, Ze, Zf]
    refine H_take (i := 10) (v := undef) rfl (by kernel_rfl) (by kernel_rfl) (by kernel_rfl) (fun _ _ _ h => h) (Or.inr ⟨by rfl, rfl⟩) hD ?_
    try simp only [Act.put, Za, Zb, Zc, Zd, Ze, Zf]
    refine H_take (i := 11) (v := undef) rfl (by kernel_rfl) (by kernel_rfl) (by kernel_rfl) (fun _ _ _ h => h) (Or.inr ⟨by rfl, rfl⟩) hD ?_
    try simp only [Act.put, Za, Zb, Zc, Zd, Ze, Zf]
    refine H_take (i := 12) (v := undef) rfl (by kernel_rfl) (by kernel_rfl) (by kernel_rfl) (fun _ _ _ h => h) (Or.inr ⟨by rfl, rfl⟩) hD ?_
    try simp only [Act.put, Za, Zb, Zc, Zd, Ze, Zf]
    refine H_take (i := 13) (v := undef) rfl (by kernel_rfl) (by kernel_rfl) (by kernel_rfl) (fun _ _ _ h => h) (Or.inr ⟨by rfl, rfl⟩) hD ?_
    try simp only [Act.put, Za, Zb, Zc, Zd, Ze, Zf]
    refine H_take (i := 14) (v := undef) rfl (by kernel_rfl) (by kernel_rfl) (by kernel_rfl) (fun _ _ _ h => h) (Or.inr ⟨by rfl, rfl⟩) hD ?_
    try simp only [Act.put, Za, Zb, Zc, Zd, Ze, Zf]
    refine H_take (i := 15) (v := undef) rfl (by kernel_rfl) (by kernel_rfl) (by kernel_rfl) (fun _ _ _ h => h) (Or.inr ⟨by rfl, rfl⟩) hD ?_
    try simp only [Act.put, Za, Zb, Zc, Zd, Ze, Zf]
    refine H_take (i := 16) (v := undef) rfl (by kernel_rfl) (by kernel_rfl) (by kernel_rfl) (fun _ _ _ h => h) (Or.inr ⟨by rfl, rfl⟩) hD ?_
    try simp only [Act.put, Za, Zb, Zc, Zd, Ze, Zf]
    refine H_take (i := 17) (v := undef) rfl (by kernel_rfl) (by kernel_rfl) (by kernel_rfl) (fun _ _ _ h => h) (Or.inr ⟨by rfl, rfl⟩) hD ?_
    try simp only [Act.put, Za, Zb, Zc, Zd, Ze, Zf]
    refine H_take (i := 18) (v := undef) rfl (by kernel_rfl) (by kernel_rfl) (by kernel_rfl) (fun _ _ _ h => h) (Or.inr ⟨by rfl, rfl⟩) hD ?_
    try simp only [Act.put, Za, Zb, Zc, Zd, Ze, Zf]
    refine H_take (i := 19) (v := undef) rfl (by kernel_rfl) (by kernel_rfl) (by kernel_rfl) (fun _ _ _ h => h) (Or.inr ⟨by rfl, rfl⟩) hD ?_
    try simp only [Act.put, Za, Zb, Zc, Zd, Ze, Zf]
    refine H_take (i := 20) (v := undef) rfl (by kernel_rfl) (by kernel_rfl) (by kernel_rfl) (fun _ _ _ h => h) (Or.inr ⟨by rfl, rfl⟩) hD ?_
    try simp only [Act.put, Za, Zb, Zc, Zd, Ze, Zf]
    refine H_take (i := 21) (v := undef) rfl (by kernel_rfl) (by kernel_rfl) (by kernel_rfl) (fun _ _ _ h => h) (Or.inr ⟨by rfl, rfl⟩) hD ?_
    try simp only [Act.put, Za, Zb, Zc, Zd, Ze, Zf]
    refine H_take (i := 22) (v := ?_) rfl (by kernel_rfl) (by kernel_rfl) (by kernel_rfl) (fun _ _ _ h => h) (Or.inl ⟨by rfl, ?_⟩) hD ?_
    rotate_left
    · intro W hW; obtain ⟨k0, k1, k2, k3, k5⟩ := hW; go_simp; try with_reducible rfl
    try simp only [Act.put, Za, Zb, Zc, Zd, Ze, Zf]
    refine wpAnyH_done (by kernel_rfl) ?_ _
    have HK6 := Lib.hid (HFin.out _ (HT.out _ (Below.refl _ _).drew))
    go_wp2
    exact HK6.out
  have q1f : decide (65535 < v1) = false := decide_eq_false q1
  have hpw : IntKind.u16.wrap v1 = v1 := by rw [IntKind.wrap_u16]; omega
  have HPo := Lib.hid (Ca.port hdr.s.j.kn.caps v1)
  cases hq : Gp.hasPort K.g v1 with
  | false =>
    have HFin := Lib.hid fun V (hV : Tk W V tb a0 e0 A0 a K e E x) => fin_no hV (f := fun _ => Co.recv K E v1 v2 v3) 1 fun b => by unfold Co.recv; rw [if_pos (.inr hq)]
    generalize CallPost W tb a0 e0 A0 x (fun _ => Co.recv K E v1 v2 v3) = PQ at *
    rw [hq] at HPo
    clear h hdr hq
    go_enter Tryz.func135, Tryz.ntmps135
    go_wp2_with fail
    refine (HA1.out _ (Below.refl _ _)).mono ?_
    rintro e w1 ⟨rfl, rfl⟩
    go_wp2_with fail
    refine wp_region_held (S := fun w' => w'.cell? ⟨tb, 0, none⟩ = some (.pointer (some ⟨a.kb, 0, none⟩)) ∧ w'.cell? ⟨tb, 1, none⟩ = some (.pointer (some ⟨e.eb, 0, none⟩)) ∧ w'.cell? ⟨a.kb, 2, none⟩ = some (.pointer (some ⟨a.c.cb, 0, none⟩)) ∧ w'.cell? ⟨a.kb, 3, none⟩ = some (.pointer (some ⟨a.nb, 0, none⟩)) ∧ w'.cell? ⟨a.kb, 5, none⟩ = some (.int .u32 K.now)) (by kernel_rfl) ?_
    refine H_take (i := 0) (v := ?_) rfl (by kernel_rfl) (by kernel_rfl) (by kernel_rfl) (fun _ _ _ h => h) (Or.inl ⟨by rfl, ?_⟩) hD ?_
    rotate_left
    · intro W hW; obtain ⟨k0, k1, k2, k3, k5⟩ := hW; go_simp; try with_reducible rfl
    try simp only [Act.put, Za, Zb, Zc, Zd, Ze, Zf]
    refine H_take (i := 1) (v := ?_) rfl (by kernel_rfl) (by kernel_rfl) (by kernel_rfl) (fun _ _ _ h => h) (Or.inl ⟨by rfl, ?_⟩) hD ?_
    rotate_left
    · intro W hW; obtain ⟨k0, k1, k2, k3, k5⟩ := hW; go_simp; try with_reducible rfl
    try simp only [Act.put, Za, Zb, Zc, Zd, Ze, Zf]
    refine H_take (i := 2) (v := ?_) rfl (by kernel_rfl) (by kernel_rfl) (by kernel_rfl) (fun _ _ _ h => h) (Or.inl ⟨by rfl, ?_⟩) hD ?_
    rotate_left
    · intro W hW; obtain ⟨k0, k1, k2, k3, k5⟩ := hW; go_simp; try with_reducible rfl
    try simp only [Act.put, Za, Zb, Zc, Zd, Ze, Zf]
    refine H_take (i := 3) (v := ?_) rfl (by kernel_rfl) (by kernel_rfl) (by kernel_rfl) (fun _ _ _ h => h) (Or.inl ⟨by rfl, ?_⟩) hD ?_
    rotate_left
    · intro W hW; obtain ⟨k0, k1, k2, k3, k5⟩ := hW; go_simp; try with_reducible rfl
    try simp only [Act.put, Za, Zb, Zc, Zd, Ze, Zf]
    refine H_one (i := 4) (by kernel_rfl) rfl (fun K hK => ?_)
    go_simp
    go_at_call 32
    refine (HA1.out _ (Below.refl _ _).drew).mono ?_
    rintro e x1 ⟨rfl, rfl⟩
    refine hK.out _ _ hD (fun _ => ?_)
    clear hK K
    try simp only [Act.put, Za, Zb, Zc, Zd, Ze, Zf]
    refine H_take (i := 5) (v := ?_) rfl (by kernel_rfl) (by kernel_rfl) (by kernel_rfl) (fun _ _ _ h => h) (Or.inl ⟨by rfl, ?_⟩) hD ?_
    rotate_left
    · intro W hW; obtain ⟨k0, k1, k2, k3, k5⟩ := hW; go_simp; try with_reducible rfl
    try simp only [Act.put, Za, Zb, Zc, Zd, Ze, Zf]
    refine H_take (i := 6) (v := ?_) rfl (by kernel_rfl) (by kernel_rfl) (by kernel_rfl) (fun _ _ _ h => h) (Or.inl ⟨by rfl, ?_⟩) hD ?_
    rotate_left
    · intro W hW; obtain ⟨k0, k1, k2, k3, k5⟩ := hW; go_simp; try with_reducible rfl
    try simp only [Act.put, Za, Zb, Zc, Zd, Ze, Zf]
    try simp only [q1f]
    refine H_take (i := 7) (v := ?_) rfl (by kernel_rfl) (by kernel_rfl) (by kernel_rfl) (fun _ _ _ h => h) (Or.inl ⟨by rfl, ?_⟩) hD ?_
    rotate_left
    · intro W hW; obtain ⟨k0, k1, k2, k3, k5⟩ := hW; go_simp; try with_reducible rfl
    try simp only [Act.put, Za, Zb, Zc, Zd, Ze, Zf]
    refine H_take (i := 8) (v := ?_) rfl (by kernel_rfl) (by kernel_rfl) (by kernel_rfl) (fun _ _ _ h => h) (Or.inl ⟨by rfl, ?_⟩) hD ?_
    rotate_left
    · intro W hW; obtain ⟨k0, k1, k2, k3, k5⟩ := hW; go_simp; try with_reducible rfl
    try simp only [Act.put, Za, Zb, Zc, Zd, Ze, Zf]
    refine H_take (i := 9) (v := ?_) rfl (by kernel_rfl) (by kernel_rfl) (by kernel_rfl) (fun _ _ _ h => h) (Or.inl ⟨by rfl, ?_⟩) hD ?_
    rotate_left
    · intro W hW; obtain ⟨k0, k1, k2, k3, k5⟩ := hW; go_simp; try with_reducible rfl
    try simp only [Act.put, Za, Zb, Zc, Zd, Ze, Zf]
    refine H_take (i := 10) (v := ?_) rfl (by kernel_rfl) (by kernel_rfl) (by kernel_rfl) (fun _ _ _ h => h) (Or.inl ⟨by rfl, ?_⟩) hD ?_
    rotate_left
    · intro W hW; obtain ⟨k0, k1, k2, k3, k5⟩ := hW; go_simp; try with_reducible rfl
    try simp only [Act.put, Za, Zb, Zc, Zd, Ze, Zf]
    refine H_take (i := 11) (v := ?_) rfl (by kernel_rfl) (by kernel_rfl) (by kernel_rfl) (fun _ _ _ h => h) (Or.inl ⟨by rfl, ?_⟩) hD ?_
    rotate_left
    · intro W hW; obtain ⟨k0, k1, k2, k3, k5⟩ := hW; go_simp; try with_reducible rfl
    try simp only [Act.put, Za, Zb, Zc, Zd, Ze, Zf]
    refine H_take (i := 12) (v := ?_) rfl (by kernel_rfl) (by kernel_rfl) (by kernel_rfl) (fun _ _ _ h => h) (Or.inl ⟨by rfl, ?_⟩) hD ?_
    rotate_left
    · intro W hW; obtain ⟨k0, k1, k2, k3, k5⟩ := hW; go_simp; try with_reducible rfl
    try simp only [Act.put, Za, Zb, Zc, Zd, Ze, Zf]
    refine H_take (i := 13) (v := ?_) rfl (by kernel_rfl) (by kernel_rfl) (by kernel_rfl) (fun _ _ _ h => h) (Or.inl ⟨by rfl, ?_⟩) hD ?_
    rotate_left
    · intro W hW; obtain ⟨k0, k1, k2, k3, k5⟩ := hW; go_simp; try with_reducible rfl
    try simp only [Act.put, Za, Zb, Zc, Zd, Ze, Zf]
    refine H_take (i := 14) (v := ?_) rfl (by kernel_rfl) (by kernel_rfl) (by kernel_rfl) (fun _ _ _ h => h) (Or.inl ⟨by rfl, ?_⟩) hD ?_
    rotate_left
    · intro W hW; obtain ⟨k0, k1, k2, k3, k5⟩ := hW; go_simp; try with_reducible rfl
    try simp only [Act.put, Za, Zb, Zc, Zd, Ze, Zf]
    refine H_take (i := 15) (v := ?_) rfl (by kernel_rfl) (by kernel_rfl) (by kernel_rfl) (fun _ _ _ h => h) (Or.inl ⟨by rfl, ?_⟩) hD ?_
    rotate_left
    · intro W hW; obtain ⟨k0, k1, k2, k3, k5⟩ := hW; go_simp; try with_reducible rfl
    try simp only [Act.put, Za, Zb, Zc, Zd, Ze, Zf]
    refine H_take (i := 16) (v := ?_) rfl (by kernel_rfl) (by kernel_rfl) (by kernel_rfl) (fun _ _ _ h => h) (Or.inl ⟨by rfl, ?_⟩) hD ?_
    rotate_left
    · intro W hW; obtain ⟨k0, k1, k2, k3, k5⟩ := hW; go_simp; try with_reducible rfl
    try simp only [Act.put, Za, Zb, Zc, Zd, Ze, Zf]
    refine H_take (i := 17) (v := ?_) rfl (by kernel_rfl) (by kernel_rfl) (by kernel_rfl) (fun _ _ _ h => h) (Or.inl ⟨by rfl, ?_⟩) hD ?_
    rotate_left
    · intro W hW; obtain ⟨k0, k1, k2, k3, k5⟩ := hW; go_simp; try with_reducible rfl
    try simp only [Act.put, Za, Zb, Zc, Zd, Ze, Zf]
    refine H_take (i := 19) (v := ?_) rfl (by kernel_rfl) (by kernel_rfl) (by kernel_rfl) (fun _ _ _ h => h) (Or.inl ⟨by rfl, ?_⟩) hD ?_
    rotate_left
    · intro W hW; obtain ⟨k0, k1, k2, k3, k5⟩ := hW; go_simp; try with_reducible rfl
    try simp only [Act.put, Za, Zb, Zc, Zd, Ze, Zf]
    refine H_one (i := 18) (by kernel_rfl) rfl (fun K hK => ?_)
    go_simp
    go_at_call 81
    refine (HN.out _ (Below.refl _ _).drew).mono ?_
    rintro e x1 ⟨rfl, rfl⟩
    refine hK.out _ _ hD (fun _ => ?_)
    clear hK K
    try simp only [Act.put, Za, Zb, Zc, Zd, Ze, Zf]
    refine H_one (i := 20) (by kernel_rfl) rfl (fun K hK => ?_)
    go_simp
    go_at_call 100
    refine HPo.out.mono ?_
    rintro e x2 ⟨rfl, hb2⟩
    have HB2 : Hid (Below w.heap.size w x2) := Lib.hid ((Below.refl _ _).drew.trans hb2)
    have h2 := (HT.out _ HB2.out).all
    clear hb2
    refine hK.out _ _ h2 (fun _ => ?_)
    clear hK K
    try simp only [Act.put, Za, Zb, Zc, Zd, Ze, Zf]
    refine H_take (i := 21) (v := ?_) rfl (by kernel_rfl) (by kernel_rfl) (by kernel_rfl) (fun _ _ _ h => h) (Or.inl ⟨by rfl, ?_⟩) h2 ?_
    rotate_left
    · intro W hW; obtain ⟨k0, k1, k2, k3, k5⟩ := hW; go_simp; try with_reducible rfl
    try simp only [Act.put, Za, Zb, Zc, Zd, Ze, Zf]
    refine H_take (i := 22) (v := ?_) rfl (by kernel_rfl) (by kernel_rfl) (by kernel_rfl) (fun _ _ _ h => h) (Or.inl ⟨by rfl, ?_⟩) h2 ?_
    rotate_left
    · intro W hW; obtain ⟨k0, k1, k2, k3, k5⟩ := hW; go_simp; try with_reducible rfl
    try simp only [Act.put, Za, Zb, Zc, Zd, Ze, Zf]
    refine wpAnyH_done (by kernel_rfl) ?_ _
    have HK6 := Lib.hid (HFin.out _ (HT.out _ HB2.out))
    go_wp2
    exact HK6.out
  | true =>
    rw [hq] at HPo
    have hno : ¬ (65535 < v1 ∨ Gp.hasPort K.g v1 = false) := by rw [hq]; simp; omega
    have HNx := Lib.hid fun V (hV : Below w.heap.size w V) => nicNext (h.below hV).s.j.kn v1 v10 (by omega)
    have hok := h.s.j.kn.ok
    cases hqs : K.N.q v1 with
    | nil =>
      have HFin := Lib.hid fun V (hV : Tk W V tb a0 e0 A0 a K e E x) => fin_no hV (f := fun _ => Co.recv K E v1 v2 v3) 3 fun b => by unfold Co.recv; rw [if_neg hno, hqs]
      generalize CallPost W tb a0 e0 A0 x (fun _ => Co.recv K E v1 v2 v3) = PQ at *
      have e1 : Ni.nextS K.N v1 = ByteArray.empty := by unfold Ni.nextS; rw [hqs]
      have e2 : Ni.nextB K.N v1 = false := by unfold Ni.nextB; rw [hqs]
      rw [e1, e2] at HNx
      clear h hdr hq hqs e1 e2 hok hno
      go_enter Tryz.func135, Tryz.ntmps135
      go_wp2_with fail
      refine (HA1.out _ (Below.refl _ _)).mono ?_
      rintro e w1 ⟨rfl, rfl⟩
      go_wp2_with fail
      refine wp_region_held (S := fun w' => w'.cell? ⟨tb, 0, none⟩ = some (.pointer (some ⟨a.kb, 0, none⟩)) ∧ w'.cell? ⟨tb, 1, none⟩ = some (.pointer (some ⟨e.eb, 0, none⟩)) ∧ w'.cell? ⟨a.kb, 2, none⟩ = some (.pointer (some ⟨a.c.cb, 0, none⟩)) ∧ w'.cell? ⟨a.kb, 3, none⟩ = some (.pointer (some ⟨a.nb, 0, none⟩)) ∧ w'.cell? ⟨a.kb, 5, none⟩ = some (.int .u32 K.now)) (by kernel_rfl) ?_
      refine H_take (i := 0) (v := ?_) rfl (by kernel_rfl) (by kernel_rfl) (by kernel_rfl) (fun _ _ _ h => h) (Or.inl ⟨by rfl, ?_⟩) hD ?_
      rotate_left
      · intro W hW; obtain ⟨k0, k1, k2, k3, k5⟩ := hW; go_simp; try with_reducible rfl
      try simp only [Act.put, Za, Zb, Zc, Zd, Ze, Zf]
      refine H_take (i := 1) (v := ?_) rfl (by kernel_rfl) (by kernel_rfl) (by kernel_rfl) (fun _ _ _ h => h) (Or.inl ⟨by rfl, ?_⟩) hD ?_
      rotate_left
      · intro W hW; obtain ⟨k0, k1, k2, k3, k5⟩ := hW; go_simp; try with_reducible rfl
      try simp only [Act.put, Za, Zb, Zc, Zd, Ze, Zf]
      refine H_take (i := 2) (v := ?_) rfl (by kernel_rfl) (by kernel_rfl) (by kernel_rfl) (fun _ _ _ h => h) (Or.inl ⟨by rfl, ?_⟩) hD ?_
      rotate_left
      · intro W hW; obtain ⟨k0, k1, k2, k3, k5⟩ := hW; go_simp; try with_reducible rfl
      try simp only [Act.put, Za, Zb, Zc, Zd, Ze, Zf]
      refine H_take (i := 3) (v := ?_) rfl (by kernel_rfl) (by kernel_rfl) (by kernel_rfl) (fun _ _ _ h => h) (Or.inl ⟨by rfl, ?_⟩) hD ?_
      rotate_left
      · intro W hW; obtain ⟨k0, k1, k2, k3, k5⟩ := hW; go_simp; try with_reducible rfl
      try simp only [Act.put, Za, Zb, Zc, Zd, Ze, Zf]
      refine H_one (i := 4) (by kernel_rfl) rfl (fun K hK => ?_)
      go_simp
      go_at_call 32
      refine (HA1.out _ (Below.refl _ _).drew).mono ?_
      rintro e x1 ⟨rfl, rfl⟩
      refine hK.out _ _ hD (fun _ => ?_)
      clear hK K
      try simp only [Act.put, Za, Zb, Zc, Zd, Ze, Zf]
      refine H_take (i := 5) (v := ?_) rfl (by kernel_rfl) (by kernel_rfl) (by kernel_rfl) (fun _ _ _ h => h) (Or.inl ⟨by rfl, ?_⟩) hD ?_
      rotate_left
      · intro W hW; obtain ⟨k0, k1, k2, k3, k5⟩ := hW; go_simp; try with_reducible rfl
      try simp only [Act.put, Za, Zb, Zc, Zd, Ze, Zf]
      refine H_take (i := 6) (v := ?_) rfl (by kernel_rfl) (by kernel_rfl) (by kernel_rfl) (fun _ _ _ h => h) (Or.inl ⟨by rfl, ?_⟩) hD ?_
      rotate_left
      · intro W hW; obtain ⟨k0, k1, k2, k3, k5⟩ := hW; go_simp; try with_reducible rfl
      try simp only [Act.put, Za, Zb, Zc, Zd, Ze, Zf]
      try simp only [q1f]
      refine H_take (i := 7) (v := ?_) rfl (by kernel_rfl) (by kernel_rfl) (by kernel_rfl) (fun _ _ _ h => h) (Or.inl ⟨by rfl, ?_⟩) hD ?_
      rotate_left
      · intro W hW; obtain ⟨k0, k1, k2, k3, k5⟩ := hW; go_simp; try with_reducible rfl
      try simp only [Act.put, Za, Zb, Zc, Zd, Ze, Zf]
      refine H_take (i := 8) (v := ?_) rfl (by kernel_rfl) (by kernel_rfl) (by kernel_rfl) (fun _ _ _ h => h) (Or.inl ⟨by rfl, ?_⟩) hD ?_
      rotate_left
      · intro W hW; obtain ⟨k0, k1, k2, k3, k5⟩ := hW; go_simp; try with_reducible rfl
      try simp only [Act.put, Za, Zb, Zc, Zd, Ze, Zf]
      refine H_take (i := 9) (v := ?_) rfl (by kernel_rfl) (by kernel_rfl) (by kernel_rfl) (fun _ _ _ h => h) (Or.inl ⟨by rfl, ?_⟩) hD ?_
      rotate_left
      · intro W hW; obtain ⟨k0, k1, k2, k3, k5⟩ := hW; go_simp; try with_reducible rfl
      try simp only [Act.put, Za, Zb, Zc, Zd, Ze, Zf]
      refine H_take (i := 10) (v := ?_) rfl (by kernel_rfl) (by kernel_rfl) (by kernel_rfl) (fun _ _ _ h => h) (Or.inl ⟨by rfl, ?_⟩) hD ?_
      rotate_left
      · intro W hW; obtain ⟨k0, k1, k2, k3, k5⟩ := hW; go_simp; try with_reducible rfl
      try simp only [Act.put, Za, Zb, Zc, Zd, Ze, Zf]
      refine H_take (i := 11) (v := ?_) rfl (by kernel_rfl) (by kernel_rfl) (by kernel_rfl) (fun _ _ _ h => h) (Or.inl ⟨by rfl, ?_⟩) hD ?_
      rotate_left
      · intro W hW; obtain ⟨k0, k1, k2, k3, k5⟩ := hW; go_simp; try with_reducible rfl
      try simp only [Act.put, Za, Zb, Zc, Zd, Ze, Zf]
      refine H_take (i := 12) (v := ?_) rfl (by kernel_rfl) (by kernel_rfl) (by kernel_rfl) (fun _ _ _ h => h) (Or.inl ⟨by rfl, ?_⟩) hD ?_
      rotate_left
      · intro W hW; obtain ⟨k0, k1, k2, k3, k5⟩ := hW; go_simp; try with_reducible rfl
      try simp only [Act.put, Za, Zb, Zc, Zd, Ze, Zf]
      refine H_take (i := 13) (v := ?_) rfl (by kernel_rfl) (by kernel_rfl) (by kernel_rfl) (fun _ _ _ h => h) (Or.inl ⟨by rfl, ?_⟩) hD ?_
      rotate_left
      · intro W hW; obtain ⟨k0, k1, k2, k3, k5⟩ := hW; go_simp; try with_reducible rfl
      try simp only [Act.put, Za, Zb, Zc, Zd, Ze, Zf]
      refine H_take (i := 14) (v := ?_) rfl (by kernel_rfl) (by kernel_rfl) (by kernel_rfl) (fun _ _ _ h => h) (Or.inl ⟨by rfl, ?_⟩) hD ?_
      rotate_left
      · intro W hW; obtain ⟨k0, k1, k2, k3, k5⟩ := hW; go_simp; try with_reducible rfl
      try simp only [Act.put, Za, Zb, Zc, Zd, Ze, Zf]
      refine H_take (i := 15) (v := ?_) rfl (by kernel_rfl) (by kernel_rfl) (by kernel_rfl) (fun _ _ _ h => h) (Or.inl ⟨by rfl, ?_⟩) hD ?_
      rotate_left
      · intro W hW; obtain ⟨k0, k1, k2, k3, k5⟩ := hW; go_simp; try with_reducible rfl
      try simp only [Act.put, Za, Zb, Zc, Zd, Ze, Zf]
      refine H_take (i := 16) (v := ?_) rfl (by kernel_rfl) (by kernel_rfl) (by kernel_rfl) (fun _ _ _ h => h) (Or.inl ⟨by rfl, ?_⟩) hD ?_
      rotate_left
      · intro W hW; obtain ⟨k0, k1, k2, k3, k5⟩ := hW; go_simp; try with_reducible rfl
      try simp only [Act.put, Za, Zb, Zc, Zd, Ze, Zf]
      refine H_take (i := 17) (v := ?_) rfl (by kernel_rfl) (by kernel_rfl) (by kernel_rfl) (fun _ _ _ h => h) (Or.inl ⟨by rfl, ?_⟩) hD ?_
      rotate_left
      · intro W hW; obtain ⟨k0, k1, k2, k3, k5⟩ := hW; go_simp; try with_reducible rfl
      try simp only [Act.put, Za, Zb, Zc, Zd, Ze, Zf]
      refine H_take (i := 19) (v := ?_) rfl (by kernel_rfl) (by kernel_rfl) (by kernel_rfl) (fun _ _ _ h => h) (Or.inl ⟨by rfl, ?_⟩) hD ?_
      rotate_left
      · intro W hW; obtain ⟨k0, k1, k2, k3, k5⟩ := hW; go_simp; try with_reducible rfl
      try simp only [Act.put, Za, Zb, Zc, Zd, Ze, Zf]
      refine H_one (i := 18) (by kernel_rfl) rfl (fun K hK => ?_)
      go_simp
      go_at_call 81
      refine (HN.out _ (Below.refl _ _).drew).mono ?_
      rintro e x1 ⟨rfl, rfl⟩
      refine hK.out _ _ hD (fun _ => ?_)
      clear hK K
      try simp only [Act.put, Za, Zb, Zc, Zd, Ze, Zf]
      refine H_one (i := 20) (by kernel_rfl) rfl (fun K hK => ?_)
      go_simp
      go_at_call 100
      refine HPo.out.mono ?_
      rintro e x2 ⟨rfl, hb2⟩
      have HB2 : Hid (Below w.heap.size w x2) := Lib.hid ((Below.refl _ _).drew.trans hb2)
      have h2 := (HT.out _ HB2.out).all
      clear hb2
      refine hK.out _ _ h2 (fun _ => ?_)
      clear hK K
      try simp only [Act.put, Za, Zb, Zc, Zd, Ze, Zf]
      refine H_take (i := 21) (v := ?_) rfl (by kernel_rfl) (by kernel_rfl) (by kernel_rfl) (fun _ _ _ h => h) (Or.inl ⟨by rfl, ?_⟩) h2 ?_
      rotate_left
      · intro W hW; obtain ⟨k0, k1, k2, k3, k5⟩ := hW; go_simp; try with_reducible rfl
      try simp only [Act.put, Za, Zb, Zc, Zd, Ze, Zf]
      refine H_take (i := 22) (v := ?_) rfl (by kernel_rfl) (by kernel_rfl) (by kernel_rfl) (fun _ _ _ h => h) (Or.inl ⟨by rfl, ?_⟩) h2 ?_
      rotate_left
      · intro W hW; obtain ⟨k0, k1, k2, k3, k5⟩ := hW; go_simp; try with_reducible rfl
      try simp only [Act.put, Za, Zb, Zc, Zd, Ze, Zf]
      refine wpAnyH_done (by kernel_rfl) ?_ _
      clear c0 c1 c2 c3 c5 hD
      obtain ⟨c0, c1, c2, c3, c5⟩ := h2
      go_wp2_with fail
      refine (HNx.out _ HB2.out).mono ?_
      rintro e w4 ⟨rfl, rfl⟩
      have HK6 := Lib.hid (HFin.out _ (HT.out _ HB2.out))
      go_wp2
      exact HK6.out
    | cons s r =>
      have hsz : s.size ≤ 128 := hok.q v1 s (by rw [hqs]; exact List.mem_cons_self ..)
      have hqr : ∀ y t, t ∈ (Ni.popS K.N v1).q y → t.size ≤ 128 := pop_q hok.q v1
      have hgr : 0 ≤ (Ni.popS K.N v1).gone := pop_g hok.g0 v1
      have e1 : Ni.nextS K.N v1 = s := by unfold Ni.nextS; rw [hqs]
      have e2 : Ni.nextB K.N v1 = true := by unfold Ni.nextB; rw [hqs]
      rw [e1, e2] at HNx
      by_cases hlo : v3 < s.size
      · have HFin := Lib.hid fun V (hV : Tk W V tb a0 e0 A0 a K e E x) => fin_no hV (f := fun _ => Co.recv K E v1 v2 v3) 5 fun b => by unfold Co.recv; rw [if_neg hno, hqs]; exact if_pos hlo
        generalize CallPost W tb a0 e0 A0 x (fun _ => Co.recv K E v1 v2 v3) = PQ at *
        have hlb : decide ((s.size : Int) > v3) = true := decide_eq_true hlo
        clear h hdr hq hqs e1 e2 hok hno hqr hgr
        go_enter Tryz.func135, Tryz.ntmps135
        go_wp2_with fail
        refine (HA1.out _ (Below.refl _ _)).mono ?_
        rintro e w1 ⟨rfl, rfl⟩
        go_wp2_with fail
        refine wp_region_held (S := fun w' => w'.cell? ⟨tb, 0, none⟩ = some (.pointer (some ⟨a.kb, 0, none⟩)) ∧ w'.cell? ⟨tb, 1, none⟩ = some (.pointer (some ⟨e.eb, 0, none⟩)) ∧ w'.cell? ⟨a.kb, 2, none⟩ = some (.pointer (some ⟨a.c.cb, 0, none⟩)) ∧ w'.cell? ⟨a.kb, 3, none⟩ = some (.pointer (some ⟨a.nb, 0, none⟩)) ∧ w'.cell? ⟨a.kb, 5, none⟩ = some (.int .u32 K.now)) (by kernel_rfl) ?_
        refine H_take (i := 0) (v := ?_) rfl (by kernel_rfl) (by kernel_rfl) (by kernel_rfl) (fun _ _ _ h => h) (Or.inl ⟨by rfl, ?_⟩) hD ?_
        rotate_left
        · intro W hW; obtain ⟨k0, k1, k2, k3, k5⟩ := hW; go_simp; try with_reducible rfl
        try simp only [Act.put, Za, Zb, Zc, Zd, Ze, Zf]
        refine H_take (i := 1) (v := ?_) rfl (by kernel_rfl) (by kernel_rfl) (by kernel_rfl) (fun _ _ _ h => h) (Or.inl ⟨by rfl, ?_⟩) hD ?_
        rotate_left
        · intro W hW; obtain ⟨k0, k1, k2, k3, k5⟩ := hW; go_simp; try with_reducible rfl
        try simp only [Act.put, Za, Zb, Zc, Zd, Ze, Zf]
        refine H_take (i := 2) (v := ?_) rfl (by kernel_rfl) (by kernel_rfl) (by kernel_rfl) (fun _ _ _ h => h) (Or.inl ⟨by rfl, ?_⟩) hD ?_
        rotate_left
        · intro W hW; obtain ⟨k0, k1, k2, k3, k5⟩ := hW; go_simp; try with_reducible rfl
        try simp only [Act.put, Za, Zb, Zc, Zd, Ze, Zf]
        refine H_take (i := 3) (v := ?_) rfl (by kernel_rfl) (by kernel_rfl) (by kernel_rfl) (fun _ _ _ h => h) (Or.inl ⟨by rfl, ?_⟩) hD ?_
        rotate_left
        · intro W hW; obtain ⟨k0, k1, k2, k3, k5⟩ := hW; go_simp; try with_reducible rfl
        try simp only [Act.put, Za, Zb, Zc, Zd, Ze, Zf]
        refine H_one (i := 4) (by kernel_rfl) rfl (fun K hK => ?_)
        go_simp
        go_at_call 32
        refine (HA1.out _ (Below.refl _ _).drew).mono ?_
        rintro e x1 ⟨rfl, rfl⟩
        refine hK.out _ _ hD (fun _ => ?_)
        clear hK K
        try simp only [Act.put, Za, Zb, Zc, Zd, Ze, Zf]
        refine H_take (i := 5) (v := ?_) rfl (by kernel_rfl) (by kernel_rfl) (by kernel_rfl) (fun _ _ _ h => h) (Or.inl ⟨by rfl, ?_⟩) hD ?_
        rotate_left
        · intro W hW; obtain ⟨k0, k1, k2, k3, k5⟩ := hW; go_simp; try with_reducible rfl
        try simp only [Act.put, Za, Zb, Zc, Zd, Ze, Zf]
        refine H_take (i := 6) (v := ?_) rfl (by kernel_rfl) (by kernel_rfl) (by kernel_rfl) (fun _ _ _ h => h) (Or.inl ⟨by rfl, ?_⟩) hD ?_
        rotate_left
        · intro W hW; obtain ⟨k0, k1, k2, k3, k5⟩ := hW; go_simp; try with_reducible rfl
        try simp only [Act.put, Za, Zb, Zc, Zd, Ze, Zf]
        try simp only [q1f]
        refine H_take (i := 7) (v := ?_) rfl (by kernel_rfl) (by kernel_rfl) (by kernel_rfl) (fun _ _ _ h => h) (Or.inl ⟨by rfl, ?_⟩) hD ?_
        rotate_left
        · intro W hW; obtain ⟨k0, k1, k2, k3, k5⟩ := hW; go_simp; try with_reducible rfl
        try simp only [Act.put, Za, Zb, Zc, Zd, Ze, Zf]
        refine H_take (i := 8) (v := ?_) rfl (by kernel_rfl) (by kernel_rfl) (by kernel_rfl) (fun _ _ _ h => h) (Or.inl ⟨by rfl, ?_⟩) hD ?_
        rotate_left
        · intro W hW; obtain ⟨k0, k1, k2, k3, k5⟩ := hW; go_simp; try with_reducible rfl
        try simp only [Act.put, Za, Zb, Zc, Zd, Ze, Zf]
        refine H_take (i := 9) (v := ?_) rfl (by kernel_rfl) (by kernel_rfl) (by kernel_rfl) (fun _ _ _ h => h) (Or.inl ⟨by rfl, ?_⟩) hD ?_
        rotate_left
        · intro W hW; obtain ⟨k0, k1, k2, k3, k5⟩ := hW; go_simp; try with_reducible rfl
        try simp only [Act.put, Za, Zb, Zc, Zd, Ze, Zf]
        refine H_take (i := 10) (v := ?_) rfl (by kernel_rfl) (by kernel_rfl) (by kernel_rfl) (fun _ _ _ h => h) (Or.inl ⟨by rfl, ?_⟩) hD ?_
        rotate_left
        · intro W hW; obtain ⟨k0, k1, k2, k3, k5⟩ := hW; go_simp; try with_reducible rfl
        try simp only [Act.put, Za, Zb, Zc, Zd, Ze, Zf]
        refine H_take (i := 11) (v := ?_) rfl (by kernel_rfl) (by kernel_rfl) (by kernel_rfl) (fun _ _ _ h => h) (Or.inl ⟨by rfl, ?_⟩) hD ?_
        rotate_left
        · intro W hW; obtain ⟨k0, k1, k2, k3, k5⟩ := hW; go_simp; try with_reducible rfl
        try simp only [Act.put, Za, Zb, Zc, Zd, Ze, Zf]
        refine H_take (i := 12) (v := ?_) rfl (by kernel_rfl) (by kernel_rfl) (by kernel_rfl) (fun _ _ _ h => h) (Or.inl ⟨by rfl, ?_⟩) hD ?_
        rotate_left
        · intro W hW; obtain ⟨k0, k1, k2, k3, k5⟩ := hW; go_simp; try with_reducible rfl
        try simp only [Act.put, Za, Zb, Zc, Zd, Ze, Zf]
        refine H_take (i := 13) (v := ?_) rfl (by kernel_rfl) (by kernel_rfl) (by kernel_rfl) (fun _ _ _ h => h) (Or.inl ⟨by rfl, ?_⟩) hD ?_
        rotate_left
        · intro W hW; obtain ⟨k0, k1, k2, k3, k5⟩ := hW; go_simp; try with_reducible rfl
        try simp only [Act.put, Za, Zb, Zc, Zd, Ze, Zf]
        refine H_take (i := 14) (v := ?_) rfl (by kernel_rfl) (by kernel_rfl) (by kernel_rfl) (fun _ _ _ h => h) (Or.inl ⟨by rfl, ?_⟩) hD ?_
        rotate_left
        · intro W hW; obtain ⟨k0, k1, k2, k3, k5⟩ := hW; go_simp; try with_reducible rfl
        try simp only [Act.put, Za, Zb, Zc, Zd, Ze, Zf]
        refine H_take (i := 15) (v := ?_) rfl (by kernel_rfl) (by kernel_rfl) (by kernel_rfl) (fun _ _ _ h => h) (Or.inl ⟨by rfl, ?_⟩) hD ?_
        rotate_left
        · intro W hW; obtain ⟨k0, k1, k2, k3, k5⟩ := hW; go_simp; try with_reducible rfl
        try simp only [Act.put, Za, Zb, Zc, Zd, Ze, Zf]
        refine H_take (i := 16) (v := ?_) rfl (by kernel_rfl) (by kernel_rfl) (by kernel_rfl) (fun _ _ _ h => h) (Or.inl ⟨by rfl, ?_⟩) hD ?_
        rotate_left
        · intro W hW; obtain ⟨k0, k1, k2, k3, k5⟩ := hW; go_simp; try with_reducible rfl
        try simp only [Act.put, Za, Zb, Zc, Zd, Ze, Zf]
        refine H_take (i := 17) (v := ?_) rfl (by kernel_rfl) (by kernel_rfl) (by kernel_rfl) (fun _ _ _ h => h) (Or.inl ⟨by rfl, ?_⟩) hD ?_
        rotate_left
        · intro W hW; obtain ⟨k0, k1, k2, k3, k5⟩ := hW; go_simp; try with_reducible rfl
        try simp only [Act.put, Za, Zb, Zc, Zd, Ze, Zf]
        refine H_take (i := 19) (v := ?_) rfl (by kernel_rfl) (by kernel_rfl) (by kernel_rfl) (fun _ _ _ h => h) (Or.inl ⟨by rfl, ?_⟩) hD ?_
        rotate_left
        · intro W hW; obtain ⟨k0, k1, k2, k3, k5⟩ := hW; go_simp; try with_reducible rfl
        try simp only [Act.put, Za, Zb, Zc, Zd, Ze, Zf]
        refine H_one (i := 18) (by kernel_rfl) rfl (fun K hK => ?_)
        go_simp
        go_at_call 81
        refine (HN.out _ (Below.refl _ _).drew).mono ?_
        rintro e x1 ⟨rfl, rfl⟩
        refine hK.out _ _ hD (fun _ => ?_)
        clear hK K
        try simp only [Act.put, Za, Zb, Zc, Zd, Ze, Zf]
        refine H_one (i := 20) (by kernel_rfl) rfl (fun K hK => ?_)
        go_simp
        go_at_call 100
        refine HPo.out.mono ?_
        rintro e x2 ⟨rfl, hb2⟩
        have HB2 : Hid (Below w.heap.size w x2) := Lib.hid ((Below.refl _ _).drew.trans hb2)
        have h2 := (HT.out _ HB2.out).all
        clear hb2
        refine hK.out _ _ h2 (fun _ => ?_)
        clear hK K
        try simp only [Act.put, Za, Zb, Zc, Zd, Ze, Zf]
        refine H_take (i := 21) (v := ?_) rfl (by kernel_rfl) (by kernel_rfl) (by kernel_rfl) (fun _ _ _ h => h) (Or.inl ⟨by rfl, ?_⟩) h2 ?_
        rotate_left
        · intro W hW; obtain ⟨k0, k1, k2, k3, k5⟩ := hW; go_simp; try with_reducible rfl
        try simp only [Act.put, Za, Zb, Zc, Zd, Ze, Zf]
        refine H_take (i := 22) (v := ?_) rfl (by kernel_rfl) (by kernel_rfl) (by kernel_rfl) (fun _ _ _ h => h) (Or.inl ⟨by rfl, ?_⟩) h2 ?_
        rotate_left
        · intro W hW; obtain ⟨k0, k1, k2, k3, k5⟩ := hW; go_simp; try with_reducible rfl
        try simp only [Act.put, Za, Zb, Zc, Zd, Ze, Zf]
        refine wpAnyH_done (by kernel_rfl) ?_ _
        clear c0 c1 c2 c3 c5 hD
        obtain ⟨c0, c1, c2, c3, c5⟩ := h2
        go_wp2_with fail
        refine (HNx.out _ HB2.out).mono ?_
        rintro e w4 ⟨rfl, rfl⟩
        have HBd := Lib.hid HB2.out
        go_wp2_with fail
        refine (HA3.out _ HBd.out).mono ?_
        rintro e w5 ⟨rfl, rfl⟩
        have HK6 := Lib.hid (HFin.out _ (HT.out _ HBd.out))
        go_wp2
        exact HK6.out
      · have hlb : decide ((s.size : Int) > v3) = false := decide_eq_false (by omega)
        have HFin1 := Lib.hid fun V (hV : Tk W V tb a0 e0 A0 a K e E x) (hy : Sp.fitsE E.A v2 s.size 2 ≠ 0) => fin_no hV (f := fun _ => Co.recv K E v1 v2 v3) 2 fun b => by unfold Co.recv; rw [if_neg hno, hqs]; simp only; rw [if_neg hlo, if_pos hy]
        have HFin2 := Lib.hid fun V a' e' (hV : Tk W V tb a0 e0 A0 a' { K with N := Ni.popS K.N v1 } e' { E with A := Sp.putA E.A v2 2 s } x) (hy : Sp.fitsE E.A v2 s.size 2 = 0) => fin_of (f := fun _ => Co.recv K E v1 v2 v3) (c := ⟨s.size, 0, { K with N := Ni.popS K.N v1 }, { E with A := Sp.putA E.A v2 2 s }, 0, ByteArray.empty⟩) (x := x) 0 (by show Co.recv K E v1 v2 v3 = _; unfold Co.recv; rw [if_neg hno, hqs]; simp only; rw [if_neg hlo, if_neg (fun z => z hy)]) hV
        generalize CallPost W tb a0 e0 A0 x (fun _ => Co.recv K E v1 v2 v3) = PQ at *
        have HSp := Lib.hid fun V (hV : Below w.heap.size w V) => Ev.space (h.below hV).s.j.en
        have HWr := Lib.hid fun V (hV : Below w.heap.size w V) => Sp.s_write (h.below hV).s.j.en.sp v2 s v20 v21 (by omega)
        have HWs := Lib.hid fun V (hV : Below w.heap.size w V) V' (g : SStep V V' e.sb e.mb E.A (Sp.putA E.A v2 2 s)) => (h.below hV).right (EStep.space (h.below hV).s.j.en g (putA_own (h.below hV).s.j.en.ok v2 2 s)) rfl
        have HQ := Lib.hid (And.intro hqr hgr)
        have hw32 : IntKind.u32.wrap (s.size : Int) = s.size := wrap32 (by omega) (by omega)
        clear h hdr hq hqs e1 e2 hok hno hqr hgr hlo
        go_enter Tryz.func135, Tryz.ntmps135
        go_wp2_with fail
        refine (HA1.out _ (Below.refl _ _)).mono ?_
        rintro e w1 ⟨rfl, rfl⟩
        go_wp2_with fail
        refine wp_region_held (S := fun w' => w'.cell? ⟨tb, 0, none⟩ = some (.pointer (some ⟨a.kb, 0, none⟩)) ∧ w'.cell? ⟨tb, 1, none⟩ = some (.pointer (some ⟨e.eb, 0, none⟩)) ∧ w'.cell? ⟨a.kb, 2, none⟩ = some (.pointer (some ⟨a.c.cb, 0, none⟩)) ∧ w'.cell? ⟨a.kb, 3, none⟩ = some (.pointer (some ⟨a.nb, 0, none⟩)) ∧ w'.cell? ⟨a.kb, 5, none⟩ = some (.int .u32 K.now)) (by kernel_rfl) ?_
        refine H_take (i := 0) (v := ?_) rfl (by kernel_rfl) (by kernel_rfl) (by kernel_rfl) (fun _ _ _ h => h) (Or.inl ⟨by rfl, ?_⟩) hD ?_
        rotate_left
        · intro W hW; obtain ⟨k0, k1, k2, k3, k5⟩ := hW; go_simp; try with_reducible rfl
        try simp only [Act.put, Za, Zb, Zc, Zd, Ze, Zf]
        refine H_take (i := 1) (v := ?_) rfl (by kernel_rfl) (by kernel_rfl) (by kernel_rfl) (fun _ _ _ h => h) (Or.inl ⟨by rfl, ?_⟩) hD ?_
        rotate_left
        · intro W hW; obtain ⟨k0, k1, k2, k3, k5⟩ := hW; go_simp; try with_reducible rfl
        try simp only [Act.put, Za, Zb, Zc, Zd, Ze, Zf]
        refine H_take (i := 2) (v := ?_) rfl (by kernel_rfl) (by kernel_rfl) (by kernel_rfl) (fun _ _ _ h => h) (Or.inl ⟨by rfl, ?_⟩) hD ?_
        rotate_left
        · intro W hW; obtain ⟨k0, k1, k2, k3, k5⟩ := hW; go_simp; try with_reducible rfl
        try simp only [Act.put, Za, Zb, Zc, Zd, Ze, Zf]
        refine H_take (i := 3) (v := ?_) rfl (by kernel_rfl) (by kernel_rfl) (by kernel_rfl) (fun _ _ _ h => h) (Or.inl ⟨by rfl, ?_⟩) hD ?_
        rotate_left
        · intro W hW; obtain ⟨k0, k1, k2, k3, k5⟩ := hW; go_simp; try with_reducible rfl
        try simp only [Act.put, Za, Zb, Zc, Zd, Ze, Zf]
        refine H_one (i := 4) (by kernel_rfl) rfl (fun K hK => ?_)
        go_simp
        go_at_call 32
        refine (HA1.out _ (Below.refl _ _).drew).mono ?_
        rintro e x1 ⟨rfl, rfl⟩
        refine hK.out _ _ hD (fun _ => ?_)
        clear hK K
        try simp only [Act.put, Za, Zb, Zc, Zd, Ze, Zf]
        refine H_take (i := 5) (v := ?_) rfl (by kernel_rfl) (by kernel_rfl) (by kernel_rfl) (fun _ _ _ h => h) (Or.inl ⟨by rfl, ?_⟩) hD ?_
        rotate_left
        · intro W hW; obtain ⟨k0, k1, k2, k3, k5⟩ := hW; go_simp; try with_reducible rfl
        try simp only [Act.put, Za, Zb, Zc, Zd, Ze, Zf]
        refine H_take (i := 6) (v := ?_) rfl (by kernel_rfl) (by kernel_rfl) (by kernel_rfl) (fun _ _ _ h => h) (Or.inl ⟨by rfl, ?_⟩) hD ?_
        rotate_left
        · intro W hW; obtain ⟨k0, k1, k2, k3, k5⟩ := hW; go_simp; try with_reducible rfl
        try simp only [Act.put, Za, Zb, Zc, Zd, Ze, Zf]
        try simp only [q1f]
        refine H_take (i := 7) (v := ?_) rfl (by kernel_rfl) (by kernel_rfl) (by kernel_rfl) (fun _ _ _ h => h) (Or.inl ⟨by rfl, ?_⟩) hD ?_
        rotate_left
        · intro W hW; obtain ⟨k0, k1, k2, k3, k5⟩ := hW; go_simp; try with_reducible rfl
        try simp only [Act.put, Za, Zb, Zc, Zd, Ze, Zf]
        refine H_take (i := 8) (v := ?_) rfl (by kernel_rfl) (by kernel_rfl) (by kernel_rfl) (fun _ _ _ h => h) (Or.inl ⟨by rfl, ?_⟩) hD ?_
        rotate_left
        · intro W hW; obtain ⟨k0, k1, k2, k3, k5⟩ := hW; go_simp; try with_reducible rfl
        try simp only [Act.put, Za, Zb, Zc, Zd, Ze, Zf]
        refine H_take (i := 9) (v := ?_) rfl (by kernel_rfl) (by kernel_rfl) (by kernel_rfl) (fun _ _ _ h => h) (Or.inl ⟨by rfl, ?_⟩) hD ?_
        rotate_left
        · intro W hW; obtain ⟨k0, k1, k2, k3, k5⟩ := hW; go_simp; try with_reducible rfl
        try simp only [Act.put, Za, Zb, Zc, Zd, Ze, Zf]
        refine H_take (i := 10) (v := ?_) rfl (by kernel_rfl) (by kernel_rfl) (by kernel_rfl) (fun _ _ _ h => h) (Or.inl ⟨by rfl, ?_⟩) hD ?_
        rotate_left
        · intro W hW; obtain ⟨k0, k1, k2, k3, k5⟩ := hW; go_simp; try with_reducible rfl
        try simp only [Act.put, Za, Zb, Zc, Zd, Ze, Zf]
        refine H_take (i := 11) (v := ?_) rfl (by kernel_rfl) (by kernel_rfl) (by kernel_rfl) (fun _ _ _ h => h) (Or.inl ⟨by rfl, ?_⟩) hD ?_
        rotate_left
        · intro W hW; obtain ⟨k0, k1, k2, k3, k5⟩ := hW; go_simp; try with_reducible rfl
        try simp only [Act.put, Za, Zb, Zc, Zd, Ze, Zf]
        refine H_take (i := 12) (v := ?_) rfl (by kernel_rfl) (by kernel_rfl) (by kernel_rfl) (fun _ _ _ h => h) (Or.inl ⟨by rfl, ?_⟩) hD ?_
        rotate_left
        · intro W hW; obtain ⟨k0, k1, k2, k3, k5⟩ := hW; go_simp; try with_reducible rfl
        try simp only [Act.put, Za, Zb, Zc, Zd, Ze, Zf]
        refine H_take (i := 13) (v := ?_) rfl (by kernel_rfl) (by kernel_rfl) (by kernel_rfl) (fun _ _ _ h => h) (Or.inl ⟨by rfl, ?_⟩) hD ?_
        rotate_left
        · intro W hW; obtain ⟨k0, k1, k2, k3, k5⟩ := hW; go_simp; try with_reducible rfl
        try simp only [Act.put, Za, Zb, Zc, Zd, Ze, Zf]
        refine H_take (i := 14) (v := ?_) rfl (by kernel_rfl) (by kernel_rfl) (by kernel_rfl) (fun _ _ _ h => h) (Or.inl ⟨by rfl, ?_⟩) hD ?_
        rotate_left
        · intro W hW; obtain ⟨k0, k1, k2, k3, k5⟩ := hW; go_simp; try with_reducible rfl
        try simp only [Act.put, Za, Zb, Zc, Zd, Ze, Zf]
        refine H_take (i := 15) (v := ?_) rfl (by kernel_rfl) (by kernel_rfl) (by kernel_rfl) (fun _ _ _ h => h) (Or.inl ⟨by rfl, ?_⟩) hD ?_
        rotate_left
        · intro W hW; obtain ⟨k0, k1, k2, k3, k5⟩ := hW; go_simp; try with_reducible rfl
        try simp only [Act.put, Za, Zb, Zc, Zd, Ze, Zf]
        refine H_take (i := 16) (v := ?_) rfl (by kernel_rfl) (by kernel_rfl) (by kernel_rfl) (fun _ _ _ h => h) (Or.inl ⟨by rfl, ?_⟩) hD ?_
        rotate_left
        · intro W hW; obtain ⟨k0, k1, k2, k3, k5⟩ := hW; go_simp; try with_reducible rfl
        try simp only [Act.put, Za, Zb, Zc, Zd, Ze, Zf]
        refine H_take (i := 17) (v := ?_) rfl (by kernel_rfl) (by kernel_rfl) (by kernel_rfl) (fun _ _ _ h => h) (Or.inl ⟨by rfl, ?_⟩) hD ?_
        rotate_left
        · intro W hW; obtain ⟨k0, k1, k2, k3, k5⟩ := hW; go_simp; try with_reducible rfl
        try simp only [Act.put, Za, Zb, Zc, Zd, Ze, Zf]
        refine H_take (i := 19) (v := ?_) rfl (by kernel_rfl) (by kernel_rfl) (by kernel_rfl) (fun _ _ _ h => h) (Or.inl ⟨by rfl, ?_⟩) hD ?_
        rotate_left
        · intro W hW; obtain ⟨k0, k1, k2, k3, k5⟩ := hW; go_simp; try with_reducible rfl
        try simp only [Act.put, Za, Zb, Zc, Zd, Ze, Zf]
        refine H_one (i := 18) (by kernel_rfl) rfl (fun K hK => ?_)
        go_simp
        go_at_call 81
        refine (HN.out _ (Below.refl _ _).drew).mono ?_
        rintro e x1 ⟨rfl, rfl⟩
        refine hK.out _ _ hD (fun _ => ?_)
        clear hK K
        try simp only [Act.put, Za, Zb, Zc, Zd, Ze, Zf]
        refine H_one (i := 20) (by kernel_rfl) rfl (fun K hK => ?_)
        go_simp
        go_at_call 100
        refine HPo.out.mono ?_
        rintro e x2 ⟨rfl, hb2⟩
        have HB2 : Hid (Below w.heap.size w x2) := Lib.hid ((Below.refl _ _).drew.trans hb2)
        have h2 := (HT.out _ HB2.out).all
        clear hb2
        refine hK.out _ _ h2 (fun _ => ?_)
        clear hK K
        try simp only [Act.put, Za, Zb, Zc, Zd, Ze, Zf]
        refine H_take (i := 21) (v := ?_) rfl (by kernel_rfl) (by kernel_rfl) (by kernel_rfl) (fun _ _ _ h => h) (Or.inl ⟨by rfl, ?_⟩) h2 ?_
        rotate_left
        · intro W hW; obtain ⟨k0, k1, k2, k3, k5⟩ := hW; go_simp; try with_reducible rfl
        try simp only [Act.put, Za, Zb, Zc, Zd, Ze, Zf]
        refine H_take (i := 22) (v := ?_) rfl (by kernel_rfl) (by kernel_rfl) (by kernel_rfl) (fun _ _ _ h => h) (Or.inl ⟨by rfl, ?_⟩) h2 ?_
        rotate_left
        · intro W hW; obtain ⟨k0, k1, k2, k3, k5⟩ := hW; go_simp; try with_reducible rfl
        try simp only [Act.put, Za, Zb, Zc, Zd, Ze, Zf]
        refine wpAnyH_done (by kernel_rfl) ?_ _
        clear c0 c1 c2 c3 c5 hD
        obtain ⟨c0, c1, c2, c3, c5⟩ := h2
        go_wp2_with fail
        refine (HNx.out _ HB2.out).mono ?_
        rintro e w4 ⟨rfl, rfl⟩
        have HBd := Lib.hid HB2.out
        go_wp2_with fail
        refine (HA3.out _ HBd.out).mono ?_
        rintro e w5 ⟨rfl, rfl⟩
        clear c0 c1 c2 c3 c5
        obtain ⟨c0, c1, c2, c3, c5⟩ := (HT.out _ HBd.out).all
        have HBe := Lib.hid HBd.out.drew
        have hD := (HT.out _ HBe.out).all
        by_cases hf : Sp.fitsE E.A v2 s.size 2 = 0
        · have hfb : (Sp.fitsE E.A v2 s.size 2 != 0) = false := by rw [hf]; rfl
          have HF2 := Lib.hid fun V a' e' hV => HFin2.out V a' e' hV hf
          clear hf
          go_wp2_with fail
          refine wp_region_held (S := fun w' => w'.cell? ⟨tb, 0, none⟩ = some (.pointer (some ⟨a.kb, 0, none⟩)) ∧ w'.cell? ⟨tb, 1, none⟩ = some (.pointer (some ⟨e.eb, 0, none⟩)) ∧ w'.cell? ⟨a.kb, 2, none⟩ = some (.pointer (some ⟨a.c.cb, 0, none⟩)) ∧ w'.cell? ⟨a.kb, 3, none⟩ = some (.pointer (some ⟨a.nb, 0, none⟩)) ∧ w'.cell? ⟨a.kb, 5, none⟩ = some (.int .u32 K.now)) (by kernel_rfl) ?_
          refine H_take (i := 0) (v := ?_) rfl (by kernel_rfl) (by kernel_rfl) (by kernel_rfl) (fun _ _ _ h => h) (Or.inl ⟨by rfl, ?_⟩) hD ?_
          rotate_left
          · intro W hW; obtain ⟨k0, k1, k2, k3, k5⟩ := hW; go_simp; try with_reducible rfl
          try simp only [Act.put, Za, Zb, Zc, Zd, Ze, Zf]
          refine H_take (i := 1) (v := ?_) rfl (by kernel_rfl) (by kernel_rfl) (by kernel_rfl) (fun _ _ _ h => h) (Or.inl ⟨by rfl, ?_⟩) hD ?_
          rotate_left
          · intro W hW; obtain ⟨k0, k1, k2, k3, k5⟩ := hW; go_simp; try with_reducible rfl
          try simp only [Act.put, Za, Zb, Zc, Zd, Ze, Zf]
          refine H_take (i := 2) (v := ?_) rfl (by kernel_rfl) (by kernel_rfl) (by kernel_rfl) (fun _ _ _ h => h) (Or.inl ⟨by rfl, ?_⟩) hD ?_
          rotate_left
          · intro W hW; obtain ⟨k0, k1, k2, k3, k5⟩ := hW; go_simp; try with_reducible rfl
          try simp only [Act.put, Za, Zb, Zc, Zd, Ze, Zf]
          refine H_take (i := 3) (v := ?_) rfl (by kernel_rfl) (by kernel_rfl) (by kernel_rfl) (fun _ _ _ h => h) (Or.inl ⟨by rfl, ?_⟩) hD ?_
          rotate_left
          · intro W hW; obtain ⟨k0, k1, k2, k3, k5⟩ := hW; go_simp; try with_reducible rfl
          try simp only [Act.put, Za, Zb, Zc, Zd, Ze, Zf]
          refine H_take (i := 5) (v := ?_) rfl (by kernel_rfl) (by kernel_rfl) (by kernel_rfl) (fun _ _ _ h => h) (Or.inl ⟨by rfl, ?_⟩) hD ?_
          rotate_left
          · intro W hW; obtain ⟨k0, k1, k2, k3, k5⟩ := hW; go_simp; try with_reducible rfl
          try simp only [Act.put, Za, Zb, Zc, Zd, Ze, Zf]
          refine H_take (i := 6) (v := ?_) rfl (by kernel_rfl) (by kernel_rfl) (by kernel_rfl) (fun _ _ _ h => h) (Or.inl ⟨by rfl, ?_⟩) hD ?_
          rotate_left
          · intro W hW; obtain ⟨k0, k1, k2, k3, k5⟩ := hW; go_simp; try with_reducible rfl
          try simp only [Act.put, Za, Zb, Zc, Zd, Ze, Zf]
          refine H_take (i := 7) (v := ?_) rfl (by kernel_rfl) (by kernel_rfl) (by kernel_rfl) (fun _ _ _ h => h) (Or.inl ⟨by rfl, ?_⟩) hD ?_
          rotate_left
          · intro W hW; obtain ⟨k0, k1, k2, k3, k5⟩ := hW; go_simp; try with_reducible rfl
          try simp only [Act.put, Za, Zb, Zc, Zd, Ze, Zf]
          refine H_take (i := 8) (v := ?_) rfl (by kernel_rfl) (by kernel_rfl) (by kernel_rfl) (fun _ _ _ h => h) (Or.inl ⟨by rfl, ?_⟩) hD ?_
          rotate_left
          · intro W hW; obtain ⟨k0, k1, k2, k3, k5⟩ := hW; go_simp; try with_reducible rfl
          try simp only [Act.put, Za, Zb, Zc, Zd, Ze, Zf]
          refine H_take (i := 10) (v := ?_) rfl (by kernel_rfl) (by kernel_rfl) (by kernel_rfl) (fun _ _ _ h => h) (Or.inl ⟨by rfl, ?_⟩) hD ?_
          rotate_left
          · intro W hW; obtain ⟨k0, k1, k2, k3, k5⟩ := hW; go_simp; try with_reducible rfl
          try simp only [Act.put, Za, Zb, Zc, Zd, Ze, Zf]
          refine H_one (i := 4) (by kernel_rfl) rfl (fun K hK => ?_)
          go_simp
          go_at_call 23
          refine (HSp.out _ HBe.out).mono ?_
          rintro e x4 ⟨rfl, rfl⟩
          refine hK.out _ _ hD (fun _ => ?_)
          clear hK K
          try simp only [Act.put, Za, Zb, Zc, Zd, Ze, Zf]
          refine H_one (i := 9) (by kernel_rfl) rfl (fun K hK => ?_)
          go_simp
          go_at_call 32
          refine (HA2.out _ HBe.out).mono ?_
          rintro e x1 ⟨rfl, rfl⟩
          refine hK.out _ _ hD (fun _ => ?_)
          clear hK K
          try simp only [Act.put, Za, Zb, Zc, Zd, Ze, Zf]
          refine H_one (i := 11) (by kernel_rfl) rfl (fun K hK => ?_)
          go_simp
          go_at_call 200
          refine (HWr.out _ HBe.out).mono ?_
          rintro e x5 ⟨rfl, hs5⟩
          have HK5 := Lib.hid (HWs.out _ HBe.out _ hs5)
          have h5 := HK5.out.all
          clear hs5
          refine hK.out _ _ h5 (fun _ => ?_)
          clear hK K
          try simp only [Act.put, Za, Zb, Zc, Zd, Ze, Zf]
          refine H_take (i := 12) (v := ?_) rfl (by kernel_rfl) (by kernel_rfl) (by kernel_rfl) (fun _ _ _ h => h) (Or.inl ⟨by rfl, ?_⟩) h5 ?_
          rotate_left
          · intro W hW; obtain ⟨k0, k1, k2, k3, k5⟩ := hW; go_simp; try with_reducible rfl
          try simp only [Act.put, Za, Zb, Zc, Zd, Ze, Zf]
          refine H_take (i := 13) (v := ?_) rfl (by kernel_rfl) (by kernel_rfl) (by kernel_rfl) (fun _ _ _ h => h) (Or.inl ⟨by rfl, ?_⟩) h5 ?_
          rotate_left
          · intro W hW; obtain ⟨k0, k1, k2, k3, k5⟩ := hW; go_simp; try with_reducible rfl
          try simp only [Act.put, Za, Zb, Zc, Zd, Ze, Zf]
          refine wpAnyH_done (by kernel_rfl) ?_ _
          clear c0 c1 c2 c3 c5 hD
          obtain ⟨c0, c1, c2, c3, c5⟩ := h5
          have HPp := Lib.hid (Ni.pop HK5.out.s.j.kn.nic v1 v10 (by omega))
          have HPk := Lib.hid fun V' (g : Ni.NicO V' (fun k => a.tag k = 3) a.nb (Ni.popS K.N v1)) (g' : Mod (fun k => a.tag k = 3) x5 V') => HK5.out.left (KStep.setNic HK5.out.s.j.kn (g.mono fun k hk => .inl hk) g' HQ.out.1 HQ.out.2)
          go_wp2_with fail
          refine HPp.out.mono ?_
          rintro e w7 ⟨rfl, hn7, hm7⟩
          have HK7 := Lib.hid (HF2.out _ _ _ (HPk.out _ hn7 hm7))
          clear hn7 hm7
          go_wp2
          exact HK7.out
        · have hfb : (Sp.fitsE E.A v2 s.size 2 != 0) = true := bne_iff_ne.2 hf
          have HF1 := Lib.hid fun V hV => HFin1.out V hV hf
          have HSm := Lib.hid (putA_same (need := 2) hf)
          clear hf
          go_wp2_with fail
          refine wp_region_held (S := fun w' => w'.cell? ⟨tb, 0, none⟩ = some (.pointer (some ⟨a.kb, 0, none⟩)) ∧ w'.cell? ⟨tb, 1, none⟩ = some (.pointer (some ⟨e.eb, 0, none⟩)) ∧ w'.cell? ⟨a.kb, 2, none⟩ = some (.pointer (some ⟨a.c.cb, 0, none⟩)) ∧ w'.cell? ⟨a.kb, 3, none⟩ = some (.pointer (some ⟨a.nb, 0, none⟩)) ∧ w'.cell? ⟨a.kb, 5, none⟩ = some (.int .u32 K.now)) (by kernel_rfl) ?_
          refine H_take (i := 0) (v := ?_) rfl (by kernel_rfl) (by kernel_rfl) (by kernel_rfl) (fun _ _ _ h => h) (Or.inl ⟨by rfl, ?_⟩) hD ?_
          rotate_left
          · intro W hW; obtain ⟨k0, k1, k2, k3, k5⟩ := hW; go_simp; try with_reducible rfl
          try simp only [Act.put, Za, Zb, Zc, Zd, Ze, Zf]
          refine H_take (i := 1) (v := ?_) rfl (by kernel_rfl) (by kernel_rfl) (by kernel_rfl) (fun _ _ _ h => h) (Or.inl ⟨by rfl, ?_⟩) hD ?_
          rotate_left
          · intro W hW; obtain ⟨k0, k1, k2, k3, k5⟩ := hW; go_simp; try with_reducible rfl
          try simp only [Act.put, Za, Zb, Zc, Zd, Ze, Zf]
          refine H_take (i := 2) (v := ?_) rfl (by kernel_rfl) (by kernel_rfl) (by kernel_rfl) (fun _ _ _ h => h) (Or.inl ⟨by rfl, ?_⟩) hD ?_
          rotate_left
          · intro W hW; obtain ⟨k0, k1, k2, k3, k5⟩ := hW; go_simp; try with_reducible rfl
          try simp only [Act.put, Za, Zb, Zc, Zd, Ze, Zf]
          refine H_take (i := 3) (v := ?_) rfl (by kernel_rfl) (by kernel_rfl) (by kernel_rfl) (fun _ _ _ h => h) (Or.inl ⟨by rfl, ?_⟩) hD ?_
          rotate_left
          · intro W hW; obtain ⟨k0, k1, k2, k3, k5⟩ := hW; go_simp; try with_reducible rfl
          try simp only [Act.put, Za, Zb, Zc, Zd, Ze, Zf]
          refine H_take (i := 5) (v := ?_) rfl (by kernel_rfl) (by kernel_rfl) (by kernel_rfl) (fun _ _ _ h => h) (Or.inl ⟨by rfl, ?_⟩) hD ?_
          rotate_left
          · intro W hW; obtain ⟨k0, k1, k2, k3, k5⟩ := hW; go_simp; try with_reducible rfl
          try simp only [Act.put, Za, Zb, Zc, Zd, Ze, Zf]
          refine H_take (i := 6) (v := ?_) rfl (by kernel_rfl) (by kernel_rfl) (by kernel_rfl) (fun _ _ _ h => h) (Or.inl ⟨by rfl, ?_⟩) hD ?_
          rotate_left
          · intro W hW; obtain ⟨k0, k1, k2, k3, k5⟩ := hW; go_simp; try with_reducible rfl
          try simp only [Act.put, Za, Zb, Zc, Zd, Ze, Zf]
          refine H_take (i := 7) (v := ?_) rfl (by kernel_rfl) (by kernel_rfl) (by kernel_rfl) (fun _ _ _ h => h) (Or.inl ⟨by rfl, ?_⟩) hD ?_
          rotate_left
          · intro W hW; obtain ⟨k0, k1, k2, k3, k5⟩ := hW; go_simp; try with_reducible rfl
          try simp only [Act.put, Za, Zb, Zc, Zd, Ze, Zf]
          refine H_take (i := 8) (v := ?_) rfl (by kernel_rfl) (by kernel_rfl) (by kernel_rfl) (fun _ _ _ h => h) (Or.inl ⟨by rfl, ?_⟩) hD ?_
          rotate_left
          · intro W hW; obtain ⟨k0, k1, k2, k3, k5⟩ := hW; go_simp; try with_reducible rfl
          try simp only [Act.put, Za, Zb, Zc, Zd, Ze, Zf]
          refine H_take (i := 10) (v := ?_) rfl (by kernel_rfl) (by kernel_rfl) (by kernel_rfl) (fun _ _ _ h => h) (Or.inl ⟨by rfl, ?_⟩) hD ?_
          rotate_left
          · intro W hW; obtain ⟨k0, k1, k2, k3, k5⟩ := hW; go_simp; try with_reducible rfl
          try simp only [Act.put, Za, Zb, Zc, Zd, Ze, Zf]
          refine H_one (i := 4) (by kernel_rfl) rfl (fun K hK => ?_)
          go_simp
          go_at_call 23
          refine (HSp.out _ HBe.out).mono ?_
          rintro e x4 ⟨rfl, rfl⟩
          refine hK.out _ _ hD (fun _ => ?_)
          clear hK K
          try simp only [Act.put, Za, Zb, Zc, Zd, Ze, Zf]
          refine H_one (i := 9) (by kernel_rfl) rfl (fun K hK => ?_)
          go_simp
          go_at_call 32
          refine (HA2.out _ HBe.out).mono ?_
          rintro e x1 ⟨rfl, rfl⟩
          refine hK.out _ _ hD (fun _ => ?_)
          clear hK K
          try simp only [Act.put, Za, Zb, Zc, Zd, Ze, Zf]
          refine H_one (i := 11) (by kernel_rfl) rfl (fun K hK => ?_)
          go_simp
          go_at_call 200
          refine (HWr.out _ HBe.out).mono ?_
          rintro e x5 ⟨rfl, hs5⟩
          have HK5 := Lib.hid (HWs.out _ HBe.out _ hs5)
          have h5 := HK5.out.all
          clear hs5
          refine hK.out _ _ h5 (fun _ => ?_)
          clear hK K
          try simp only [Act.put, Za, Zb, Zc, Zd, Ze, Zf]
          refine H_take (i := 12) (v := ?_) rfl (by kernel_rfl) (by kernel_rfl) (by kernel_rfl) (fun _ _ _ h => h) (Or.inl ⟨by rfl, ?_⟩) h5 ?_
          rotate_left
          · intro W hW; obtain ⟨k0, k1, k2, k3, k5⟩ := hW; go_simp; try with_reducible rfl
          try simp only [Act.put, Za, Zb, Zc, Zd, Ze, Zf]
          refine H_take (i := 13) (v := ?_) rfl (by kernel_rfl) (by kernel_rfl) (by kernel_rfl) (fun _ _ _ h => h) (Or.inl ⟨by rfl, ?_⟩) h5 ?_
          rotate_left
          · intro W hW; obtain ⟨k0, k1, k2, k3, k5⟩ := hW; go_simp; try with_reducible rfl
          try simp only [Act.put, Za, Zb, Zc, Zd, Ze, Zf]
          refine wpAnyH_done (by kernel_rfl) ?_ _
          have HK6 := Lib.hid (HF1.out _ (by have := HK5.out; rw [HSm.out] at this; exact this))
          go_wp2
          exact HK6.out
set_option maxRecDepth 100000 in
set_option maxHeartbeats 8000000 in
theorem put (h : Tk W w tb a0 e0 A0 a K e E x) : Calls Tryz.prog 136 #[.pointer (some ⟨tb, 0, none⟩)] w (CallPost W tb a0 e0 A0 x fun _ => Co.put K E (E.arg 1) (E.arg 2)) := by
  have hbd1 := arg_bd h.s.j.en 1
  have HA1 := Lib.hid fun V (hV : Below w.heap.size w V) => Ev.arg (h.s.j.en.below hV) 1 (by omega) (by omega)
  generalize E.arg 1 = v1 at *
  obtain ⟨v10, v11⟩ := hbd1
  have hbd2 := arg_bd h.s.j.en 2
  have HA2 := Lib.hid fun V (hV : Below w.heap.size w V) => Ev.arg (h.s.j.en.below hV) 2 (by omega) (by omega)
  generalize E.arg 2 = v2 at *
  obtain ⟨v20, v21⟩ := hbd2
  have HN := Lib.hid fun V (hV : Below w.heap.size w V) => (Ev.num (h.below hV).s.j.en)
  rw [h.n1] at HN
  have hdr := h.below (Below.refl _ _).drew
  have hD := hdr.all
  obtain ⟨c0, c1, c2, c3, c5⟩ := h.all
  have HT := Lib.hid fun V (hV : Below w.heap.size w V) => h.below hV
  have HCo := Lib.hid (Ca.console hdr.s.j.kn.caps)
  cases hq : Gp.con K.g with
  | false =>
    have HFin := Lib.hid fun V (hV : Tk W V tb a0 e0 A0 a K e E x) => fin_no hV (f := fun _ => Co.put K E v1 v2) 1 fun b => by unfold Co.put; rw [if_pos hq]
    generalize CallPost W tb a0 e0 A0 x (fun _ => Co.put K E v1 v2) = PQ at *
    rw [hq] at HCo
    clear h hdr hq
    go_enter Tryz.func136, Tryz.ntmps136
    go_wp2_with fail
    refine (HA2.out _ (Below.refl _ _)).mono ?_
    rintro e w1 ⟨rfl, rfl⟩
    go_wp2_with fail
    refine wp_region_held (S := fun w' => w'.cell? ⟨tb, 0, none⟩ = some (.pointer (some ⟨a.kb, 0, none⟩)) ∧ w'.cell? ⟨tb, 1, none⟩ = some (.pointer (some ⟨e.eb, 0, none⟩)) ∧ w'.cell? ⟨a.kb, 2, none⟩ = some (.pointer (some ⟨a.c.cb, 0, none⟩)) ∧ w'.cell? ⟨a.kb, 3, none⟩ = some (.pointer (some ⟨a.nb, 0, none⟩)) ∧ w'.cell? ⟨a.kb, 5, none⟩ = some (.int .u32 K.now)) (by kernel_rfl) ?_
    refine H_take (i := 0) (v := ?_) rfl (by kernel_rfl) (by kernel_rfl) (by kernel_rfl) (fun _ _ _ h => h) (Or.inl ⟨by rfl, ?_⟩) hD ?_
    rotate_left
    · intro W hW; obtain ⟨k0, k1, k2, k3, k5⟩ := hW; go_simp; try with_reducible rfl
    try simp only [Act.put, Za, Zb, Zc, Zd, Ze, Zf]
    refine H_take (i := 1) (v := ?_) rfl (by kernel_rfl) (by kernel_rfl) (by kernel_rfl) (fun _ _ _ h => h) (Or.inl ⟨by rfl, ?_⟩) hD ?_
    rotate_left
    · intro W hW; obtain ⟨k0, k1, k2, k3, k5⟩ := hW; go_simp; try with_reducible rfl
    try simp only [Act.put, Za, Zb, Zc, Zd, Ze, Zf]
    refine H_take (i := 2) (v := ?_) rfl (by kernel_rfl) (by kernel_rfl) (by kernel_rfl) (fun _ _ _ h => h) (Or.inl ⟨by rfl, ?_⟩) hD ?_
    rotate_left
    · intro W hW; obtain ⟨k0, k1, k2, k3, k5⟩ := hW; go_simp; try with_reducible rfl
    try simp only [Act.put, Za, Zb, Zc, Zd, Ze, Zf]
    refine H_take (i := 3) (v := ?_) rfl (by kernel_rfl) (by kernel_rfl) (by kernel_rfl) (fun _ _ _ h => h) (Or.inl ⟨by rfl, ?_⟩) hD ?_
    rotate_left
    · intro W hW; obtain ⟨k0, k1, k2, k3, k5⟩ := hW; go_simp; try with_reducible rfl
    try simp only [Act.put, Za, Zb, Zc, Zd, Ze, Zf]
    refine H_take (i := 4) (v := ?_) rfl (by kernel_rfl) (by kernel_rfl) (by kernel_rfl) (fun _ _ _ h => h) (Or.inl ⟨by rfl, ?_⟩) hD ?_
    rotate_left
    · intro W hW; obtain ⟨k0, k1, k2, k3, k5⟩ := hW; go_simp; try with_reducible rfl
    try simp only [Act.put, Za, Zb, Zc, Zd, Ze, Zf]
    refine H_take (i := 5) (v := ?_) rfl (by kernel_rfl) (by kernel_rfl) (by kernel_rfl) (fun _ _ _ h => h) (Or.inl ⟨by rfl, ?_⟩) hD ?_
    rotate_left
    · intro W hW; obtain ⟨k0, k1, k2, k3, k5⟩ := hW; go_simp; try with_reducible rfl
    try simp only [Act.put, Za, Zb, Zc, Zd, Ze, Zf]
    refine H_take (i := 6) (v := ?_) rfl (by kernel_rfl) (by kernel_rfl) (by kernel_rfl) (fun _ _ _ h => h) (Or.inl ⟨by rfl, ?_⟩) hD ?_
    rotate_left
    · intro W hW; obtain ⟨k0, k1, k2, k3, k5⟩ := hW; go_simp; try with_reducible rfl
    try simp only [Act.put, Za, Zb, Zc, Zd, Ze, Zf]
    refine H_take (i := 7) (v := ?_) rfl (by kernel_rfl) (by kernel_rfl) (by kernel_rfl) (fun _ _ _ h => h) (Or.inl ⟨by rfl, ?_⟩) hD ?_
    rotate_left
    · intro W hW; obtain ⟨k0, k1, k2, k3, k5⟩ := hW; go_simp; try with_reducible rfl
    try simp only [Act.put, Za, Zb, Zc, Zd, Ze, Zf]
    refine H_take (i := 8) (v := ?_) rfl (by kernel_rfl) (by kernel_rfl) (by kernel_rfl) (fun _ _ _ h => h) (Or.inl ⟨by rfl, ?_⟩) hD ?_
    rotate_left
    · intro W hW; obtain ⟨k0, k1, k2, k3, k5⟩ := hW; go_simp; try with_reducible rfl
    try simp only [Act.put, Za, Zb, Zc, Zd, Ze, Zf]
    refine H_take (i := 9) (v := ?_) rfl (by kernel_rfl) (by kernel_rfl) (by kernel_rfl) (fun _ _ _ h => h) (Or.inl ⟨by rfl, ?_⟩) hD ?_
    rotate_left
    · intro W hW; obtain ⟨k0, k1, k2, k3, k5⟩ := hW; go_simp; try with_reducible rfl
    try simp only [Act.put, Za, Zb, Zc, Zd, Ze, Zf]
    refine H_take (i := 10) (v := ?_) rfl (by kernel_rfl) (by kernel_rfl) (by kernel_rfl) (fun _ _ _ h => h) (Or.inl ⟨by rfl, ?_⟩) hD ?_
    rotate_left
    · intro W hW; obtain ⟨k0, k1, k2, k3, k5⟩ := hW; go_simp; try with_reducible rfl
    try simp only [Act.put, Za, Zb, Zc, Zd, Ze, Zf]
    refine H_one (i := 11) (by kernel_rfl) rfl (fun K hK => ?_)
    go_simp
    go_at_call 81
    refine (HN.out _ (Below.refl _ _).drew).mono ?_
    rintro e x1 ⟨rfl, rfl⟩
    refine hK.out _ _ hD (fun _ => ?_)
    clear hK K
    try simp only [Act.put, Za, Zb, Zc, Zd, Ze, Zf]
    refine H_one (i := 12) (by kernel_rfl) rfl (fun K hK => ?_)
    go_simp
    go_at_call 101
    refine HCo.out.mono ?_
    rintro e x2 ⟨rfl, hb2⟩
    have HB2 : Hid (Below w.heap.size w x2) := Lib.hid ((Below.refl _ _).drew.trans hb2)
    have h2 := (HT.out _ HB2.out).all
    clear hb2
    refine hK.out _ _ h2 (fun _ => ?_)
    clear hK K
    try simp only [Act.put, Za, Zb, Zc, Zd, Ze, Zf]
    refine H_take (i := 13) (v := ?_) rfl (by kernel_rfl) (by kernel_rfl) (by kernel_rfl) (fun _ _ _ h => h) (Or.inl ⟨by rfl, ?_⟩) h2 ?_
    rotate_left
    · intro W hW; obtain ⟨k0, k1, k2, k3, k5⟩ := hW; go_simp; try with_reducible rfl
    try simp only [Act.put, Za, Zb, Zc, Zd, Ze, Zf]
    refine H_take (i := 14) (v := ?_) rfl (by kernel_rfl) (by kernel_rfl) (by kernel_rfl) (fun _ _ _ h => h) (Or.inl ⟨by rfl, ?_⟩) h2 ?_
    rotate_left
    · intro W hW; obtain ⟨k0, k1, k2, k3, k5⟩ := hW; go_simp; try with_reducible rfl
    try simp only [Act.put, Za, Zb, Zc, Zd, Ze, Zf]
    refine wpAnyH_done (by kernel_rfl) ?_ _
    have HK6 := Lib.hid (HFin.out _ (HT.out _ HB2.out))
    go_wp2
    exact HK6.out
  | true =>
    rw [hq] at HCo
    have hno : ¬ (Gp.con K.g = false) := by rw [hq]; decide
    by_cases q2 : 256 < v2
    · have HFin := Lib.hid fun V (hV : Tk W V tb a0 e0 A0 a K e E x) => fin_no hV (f := fun _ => Co.put K E v1 v2) 5 fun b => by unfold Co.put; rw [if_neg hno, if_pos q2]
      generalize CallPost W tb a0 e0 A0 x (fun _ => Co.put K E v1 v2) = PQ at *
      clear h hdr hq hno
      go_enter Tryz.func136, Tryz.ntmps136
      go_wp2_with fail
      refine (HA2.out _ (Below.refl _ _)).mono ?_
      rintro e w1 ⟨rfl, rfl⟩
      go_wp2_with fail
      refine wp_region_held (S := fun w' => w'.cell? ⟨tb, 0, none⟩ = some (.pointer (some ⟨a.kb, 0, none⟩)) ∧ w'.cell? ⟨tb, 1, none⟩ = some (.pointer (some ⟨e.eb, 0, none⟩)) ∧ w'.cell? ⟨a.kb, 2, none⟩ = some (.pointer (some ⟨a.c.cb, 0, none⟩)) ∧ w'.cell? ⟨a.kb, 3, none⟩ = some (.pointer (some ⟨a.nb, 0, none⟩)) ∧ w'.cell? ⟨a.kb, 5, none⟩ = some (.int .u32 K.now)) (by kernel_rfl) ?_
      refine H_take (i := 0) (v := ?_) rfl (by kernel_rfl) (by kernel_rfl) (by kernel_rfl) (fun _ _ _ h => h) (Or.inl ⟨by rfl, ?_⟩) hD ?_
      rotate_left
      · intro W hW; obtain ⟨k0, k1, k2, k3, k5⟩ := hW; go_simp; try with_reducible rfl
      try simp only [Act.put, Za, Zb, Zc, Zd, Ze, Zf]
      refine H_take (i := 1) (v := ?_) rfl (by kernel_rfl) (by kernel_rfl) (by kernel_rfl) (fun _ _ _ h => h) (Or.inl ⟨by rfl, ?_⟩) hD ?_
      rotate_left
      · intro W hW; obtain ⟨k0, k1, k2, k3, k5⟩ := hW; go_simp; try with_reducible rfl
      try simp only [Act.put, Za, Zb, Zc, Zd, Ze, Zf]
      refine H_take (i := 2) (v := ?_) rfl (by kernel_rfl) (by kernel_rfl) (by kernel_rfl) (fun _ _ _ h => h) (Or.inl ⟨by rfl, ?_⟩) hD ?_
      rotate_left
      · intro W hW; obtain ⟨k0, k1, k2, k3, k5⟩ := hW; go_simp; try with_reducible rfl
      try simp only [Act.put, Za, Zb, Zc, Zd, Ze, Zf]
      refine H_take (i := 3) (v := ?_) rfl (by kernel_rfl) (by kernel_rfl) (by kernel_rfl) (fun _ _ _ h => h) (Or.inl ⟨by rfl, ?_⟩) hD ?_
      rotate_left
      · intro W hW; obtain ⟨k0, k1, k2, k3, k5⟩ := hW; go_simp; try with_reducible rfl
      try simp only [Act.put, Za, Zb, Zc, Zd, Ze, Zf]
      refine H_take (i := 4) (v := ?_) rfl (by kernel_rfl) (by kernel_rfl) (by kernel_rfl) (fun _ _ _ h => h) (Or.inl ⟨by rfl, ?_⟩) hD ?_
      rotate_left
      · intro W hW; obtain ⟨k0, k1, k2, k3, k5⟩ := hW; go_simp; try with_reducible rfl
      try simp only [Act.put, Za, Zb, Zc, Zd, Ze, Zf]
      refine H_take (i := 5) (v := ?_) rfl (by kernel_rfl) (by kernel_rfl) (by kernel_rfl) (fun _ _ _ h => h) (Or.inl ⟨by rfl, ?_⟩) hD ?_
      rotate_left
      · intro W hW; obtain ⟨k0, k1, k2, k3, k5⟩ := hW; go_simp; try with_reducible rfl
      try simp only [Act.put, Za, Zb, Zc, Zd, Ze, Zf]
      refine H_take (i := 6) (v := ?_) rfl (by kernel_rfl) (by kernel_rfl) (by kernel_rfl) (fun _ _ _ h => h) (Or.inl ⟨by rfl, ?_⟩) hD ?_
      rotate_left
      · intro W hW; obtain ⟨k0, k1, k2, k3, k5⟩ := hW; go_simp; try with_reducible rfl
      try simp only [Act.put, Za, Zb, Zc, Zd, Ze, Zf]
      refine H_take (i := 7) (v := ?_) rfl (by kernel_rfl) (by kernel_rfl) (by kernel_rfl) (fun _ _ _ h => h) (Or.inl ⟨by rfl, ?_⟩) hD ?_
      rotate_left
      · intro W hW; obtain ⟨k0, k1, k2, k3, k5⟩ := hW; go_simp; try with_reducible rfl
      try simp only [Act.put, Za, Zb, Zc, Zd, Ze, Zf]
      refine H_take (i := 8) (v := ?_) rfl (by kernel_rfl) (by kernel_rfl) (by kernel_rfl) (fun _ _ _ h => h) (Or.inl ⟨by rfl, ?_⟩) hD ?_
      rotate_left
      · intro W hW; obtain ⟨k0, k1, k2, k3, k5⟩ := hW; go_simp; try with_reducible rfl
      try simp only [Act.put, Za, Zb, Zc, Zd, Ze, Zf]
      refine H_take (i := 9) (v := ?_) rfl (by kernel_rfl) (by kernel_rfl) (by kernel_rfl) (fun _ _ _ h => h) (Or.inl ⟨by rfl, ?_⟩) hD ?_
      rotate_left
      · intro W hW; obtain ⟨k0, k1, k2, k3, k5⟩ := hW; go_simp; try with_reducible rfl
      try simp only [Act.put, Za, Zb, Zc, Zd, Ze, Zf]
      refine H_take (i := 10) (v := ?_) rfl (by kernel_rfl) (by kernel_rfl) (by kernel_rfl) (fun _ _ _ h => h) (Or.inl ⟨by rfl, ?_⟩) hD ?_
      rotate_left
      · intro W hW; obtain ⟨k0, k1, k2, k3, k5⟩ := hW; go_simp; try with_reducible rfl
      try simp only [Act.put, Za, Zb, Zc, Zd, Ze, Zf]
      refine H_one (i := 11) (by kernel_rfl) rfl (fun K hK => ?_)
      go_simp
      go_at_call 81
      refine (HN.out _ (Below.refl _ _).drew).mono ?_
      rintro e x1 ⟨rfl, rfl⟩
      refine hK.out _ _ hD (fun _ => ?_)
      clear hK K
      try simp only [Act.put, Za, Zb, Zc, Zd, Ze, Zf]
      refine H_one (i := 12) (by kernel_rfl) rfl (fun K hK => ?_)
      go_simp
      go_at_call 101
      refine HCo.out.mono ?_
      rintro e x2 ⟨rfl, hb2⟩
      have HB2 : Hid (Below w.heap.size w x2) := Lib.hid ((Below.refl _ _).drew.trans hb2)
      have h2 := (HT.out _ HB2.out).all
      clear hb2
      refine hK.out _ _ h2 (fun _ => ?_)
      clear hK K
      try simp only [Act.put, Za, Zb, Zc, Zd, Ze, Zf]
      refine H_take (i := 13) (v := ?_) rfl (by kernel_rfl) (by kernel_rfl) (by kernel_rfl) (fun _ _ _ h => h) (Or.inl ⟨by rfl, ?_⟩) h2 ?_
      rotate_left
      · intro W hW; obtain ⟨k0, k1, k2, k3, k5⟩ := hW; go_simp; try with_reducible rfl
      try simp only [Act.put, Za, Zb, Zc, Zd, Ze, Zf]
      refine H_take (i := 14) (v := ?_) rfl (by kernel_rfl) (by kernel_rfl) (by kernel_rfl) (fun _ _ _ h => h) (Or.inl ⟨by rfl, ?_⟩) h2 ?_
      rotate_left
      · intro W hW; obtain ⟨k0, k1, k2, k3, k5⟩ := hW; go_simp; try with_reducible rfl
      try simp only [Act.put, Za, Zb, Zc, Zd, Ze, Zf]
      refine wpAnyH_done (by kernel_rfl) ?_ _
      have HK6 := Lib.hid (HFin.out _ (HT.out _ HB2.out))
      go_wp2
      exact HK6.out
    have HBy := Lib.hid fun V (hV : Below w.heap.size w V) => bytes (h.below hV) v1 v2 v10 v11 v20 v21
    by_cases hf : Sp.getE E.A v1 v2 1 = 0
    · have hfb : (Sp.getE E.A v1 v2 1 == 0) = true := by rw [hf]; rfl
      have hsz : (Sp.getS E.A v1 v2 1).size = v2.toNat := getS_size (by omega) hf
      have hsz2 : (Sp.getS E.A v1 v2 1).size ≤ 256 := by omega
      have hby : Kn.bytes E v1 v2 = some (Sp.getS E.A v1 v2 1) := by unfold Kn.bytes; rw [if_pos hf]
      have HFin1 := Lib.hid fun V (hV : Tk W V tb a0 e0 A0 a K e E x) (hy : E.putE (Sp.getS E.A v1 v2 1) ≠ 0) => fin_no hV (f := fun _ => Co.put K E v1 v2) 4 fun b => by unfold Co.put; rw [if_neg hno, if_neg q2, hby]; exact if_pos hy
      have HFin2 := Lib.hid fun V e' (hV : Tk W V tb a0 e0 A0 a K e' (E.put (Sp.getS E.A v1 v2 1)) x) (hy : E.putE (Sp.getS E.A v1 v2 1) = 0) (h0 : v2 = 0) => fin_of (f := fun _ => Co.put K E v1 v2) (c := ⟨v2, 0, K, E.put (Sp.getS E.A v1 v2 1), 0, Sp.getS E.A v1 v2 1⟩) (x := x) 0 (by show Co.put K E v1 v2 = _; unfold Co.put; rw [if_neg hno, if_neg q2, hby]; simp only; rw [if_neg (fun z => z hy), if_pos h0]) hV
      have HFin3 := Lib.hid fun V e' (hV : Tk W V tb a0 e0 A0 a K e' (E.put (Sp.getS E.A v1 v2 1)) ⟨1, 1, Sp.getS E.A v1 v2 1, 0, true⟩) (hy : E.putE (Sp.getS E.A v1 v2 1) = 0) (h0 : ¬ v2 = 0) => fin_of (f := fun _ => Co.put K E v1 v2) (c := ⟨v2, 0, K, E.put (Sp.getS E.A v1 v2 1), 1, Sp.getS E.A v1 v2 1⟩) (x := x) 0 (by show Co.put K E v1 v2 = _; unfold Co.put; rw [if_neg hno, if_neg q2, hby]; simp only; rw [if_neg (fun z => z hy), if_neg h0]) hV
      generalize CallPost W tb a0 e0 A0 x (fun _ => Co.put K E v1 v2) = PQ at *
      generalize Sp.getS E.A v1 v2 1 = s at *
      generalize Sp.getE E.A v1 v2 1 = ge at *
      have HPu := Lib.hid fun V (hV : Below w.heap.size w V) => Ev.put (h.below hV).s.j.en s (by omega)
      have HPt := Lib.hid fun V (hV : Below w.heap.size w V) V' (g : EStep V V' e E e (E.put s)) => (h.below hV).right g (put_num E s)
      clear hf hsz hby h hdr hq hno
      go_enter Tryz.func136, Tryz.ntmps136
      go_wp2_with fail
      refine (HA2.out _ (Below.refl _ _)).mono ?_
      rintro e w1 ⟨rfl, rfl⟩
      go_wp2_with fail
      refine wp_region_held (S := fun w' => w'.cell? ⟨tb, 0, none⟩ = some (.pointer (some ⟨a.kb, 0, none⟩)) ∧ w'.cell? ⟨tb, 1, none⟩ = some (.pointer (some ⟨e.eb, 0, none⟩)) ∧ w'.cell? ⟨a.kb, 2, none⟩ = some (.pointer (some ⟨a.c.cb, 0, none⟩)) ∧ w'.cell? ⟨a.kb, 3, none⟩ = some (.pointer (some ⟨a.nb, 0, none⟩)) ∧ w'.cell? ⟨a.kb, 5, none⟩ = some (.int .u32 K.now)) (by kernel_rfl) ?_
      refine H_take (i := 0) (v := ?_) rfl (by kernel_rfl) (by kernel_rfl) (by kernel_rfl) (fun _ _ _ h => h) (Or.inl ⟨by rfl, ?_⟩) hD ?_
      rotate_left
      · intro W hW; obtain ⟨k0, k1, k2, k3, k5⟩ := hW; go_simp; try with_reducible rfl
      try simp only [Act.put, Za, Zb, Zc, Zd, Ze, Zf]
      refine H_take (i := 1) (v := ?_) rfl (by kernel_rfl) (by kernel_rfl) (by kernel_rfl) (fun _ _ _ h => h) (Or.inl ⟨by rfl, ?_⟩) hD ?_
      rotate_left
      · intro W hW; obtain ⟨k0, k1, k2, k3, k5⟩ := hW; go_simp; try with_reducible rfl
      try simp only [Act.put, Za, Zb, Zc, Zd, Ze, Zf]
      refine H_take (i := 2) (v := ?_) rfl (by kernel_rfl) (by kernel_rfl) (by kernel_rfl) (fun _ _ _ h => h) (Or.inl ⟨by rfl, ?_⟩) hD ?_
      rotate_left
      · intro W hW; obtain ⟨k0, k1, k2, k3, k5⟩ := hW; go_simp; try with_reducible rfl
      try simp only [Act.put, Za, Zb, Zc, Zd, Ze, Zf]
      refine H_take (i := 3) (v := ?_) rfl (by kernel_rfl) (by kernel_rfl) (by kernel_rfl) (fun _ _ _ h => h) (Or.inl ⟨by rfl, ?_⟩) hD ?_
      rotate_left
      · intro W hW; obtain ⟨k0, k1, k2, k3, k5⟩ := hW; go_simp; try with_reducible rfl
      try simp only [Act.put, Za, Zb, Zc, Zd, Ze, Zf]
      refine H_take (i := 4) (v := ?_) rfl (by kernel_rfl) (by kernel_rfl) (by kernel_rfl) (fun _ _ _ h => h) (Or.inl ⟨by rfl, ?_⟩) hD ?_
      rotate_left
      · intro W hW; obtain ⟨k0, k1, k2, k3, k5⟩ := hW; go_simp; try with_reducible rfl
      try simp only [Act.put, Za, Zb, Zc, Zd, Ze, Zf]
      refine H_take (i := 5) (v := ?_) rfl (by kernel_rfl) (by kernel_rfl) (by kernel_rfl) (fun _ _ _ h => h) (Or.inl ⟨by rfl, ?_⟩) hD ?_
      rotate_left
      · intro W hW; obtain ⟨k0, k1, k2, k3, k5⟩ := hW; go_simp; try with_reducible rfl
      try simp only [Act.put, Za, Zb, Zc, Zd, Ze, Zf]
      refine H_take (i := 6) (v := ?_) rfl (by kernel_rfl) (by kernel_rfl) (by kernel_rfl) (fun _ _ _ h => h) (Or.inl ⟨by rfl, ?_⟩) hD ?_
      rotate_left
      · intro W hW; obtain ⟨k0, k1, k2, k3, k5⟩ := hW; go_simp; try with_reducible rfl
      try simp only [Act.put, Za, Zb, Zc, Zd, Ze, Zf]
      refine H_take (i := 7) (v := ?_) rfl (by kernel_rfl) (by kernel_rfl) (by kernel_rfl) (fun _ _ _ h => h) (Or.inl ⟨by rfl, ?_⟩) hD ?_
      rotate_left
      · intro W hW; obtain ⟨k0, k1, k2, k3, k5⟩ := hW; go_simp; try with_reducible rfl
      try simp only [Act.put, Za, Zb, Zc, Zd, Ze, Zf]
      refine H_take (i := 8) (v := ?_) rfl (by kernel_rfl) (by kernel_rfl) (by kernel_rfl) (fun _ _ _ h => h) (Or.inl ⟨by rfl, ?_⟩) hD ?_
      rotate_left
      · intro W hW; obtain ⟨k0, k1, k2, k3, k5⟩ := hW; go_simp; try with_reducible rfl
      try simp only [Act.put, Za, Zb, Zc, Zd, Ze, Zf]
      refine H_take (i := 9) (v := ?_) rfl (by kernel_rfl) (by kernel_rfl) (by kernel_rfl) (fun _ _ _ h => h) (Or.inl ⟨by rfl, ?_⟩) hD ?_
      rotate_left
      · intro W hW; obtain ⟨k0, k1, k2, k3, k5⟩ := hW; go_simp; try with_reducible rfl
      try simp only [Act.put, Za, Zb, Zc, Zd, Ze, Zf]
      refine H_take (i := 10) (v := ?_) rfl (by kernel_rfl) (by kernel_rfl) (by kernel_rfl) (fun _ _ _ h => h) (Or.inl ⟨by rfl, ?_⟩) hD ?_
      rotate_left
      · intro W hW; obtain ⟨k0, k1, k2, k3, k5⟩ := hW; go_simp; try with_reducible rfl
      try simp only [Act.put, Za, Zb, Zc, Zd, Ze, Zf]
      refine H_one (i := 11) (by kernel_rfl) rfl (fun K hK => ?_)
      go_simp
      go_at_call 81
      refine (HN.out _ (Below.refl _ _).drew).mono ?_
      rintro e x1 ⟨rfl, rfl⟩
      refine hK.out _ _ hD (fun _ => ?_)
      clear hK K
      try simp only [Act.put, Za, Zb, Zc, Zd, Ze, Zf]
      refine H_one (i := 12) (by kernel_rfl) rfl (fun K hK => ?_)
      go_simp
      go_at_call 101
      refine HCo.out.mono ?_
      rintro e x2 ⟨rfl, hb2⟩
      have HB2 : Hid (Below w.heap.size w x2) := Lib.hid ((Below.refl _ _).drew.trans hb2)
      have h2 := (HT.out _ HB2.out).all
      clear hb2
      refine hK.out _ _ h2 (fun _ => ?_)
      clear hK K
      try simp only [Act.put, Za, Zb, Zc, Zd, Ze, Zf]
      refine H_take (i := 13) (v := ?_) rfl (by kernel_rfl) (by kernel_rfl) (by kernel_rfl) (fun _ _ _ h => h) (Or.inl ⟨by rfl, ?_⟩) h2 ?_
      rotate_left
      · intro W hW; obtain ⟨k0, k1, k2, k3, k5⟩ := hW; go_simp; try with_reducible rfl
      try simp only [Act.put, Za, Zb, Zc, Zd, Ze, Zf]
      refine H_take (i := 14) (v := ?_) rfl (by kernel_rfl) (by kernel_rfl) (by kernel_rfl) (fun _ _ _ h => h) (Or.inl ⟨by rfl, ?_⟩) h2 ?_
      rotate_left
      · intro W hW; obtain ⟨k0, k1, k2, k3, k5⟩ := hW; go_simp; try with_reducible rfl
      try simp only [Act.put, Za, Zb, Zc, Zd, Ze, Zf]
      refine wpAnyH_done (by kernel_rfl) ?_ _
      clear c0 c1 c2 c3 c5 hD
      obtain ⟨c0, c1, c2, c3, c5⟩ := h2
      go_wp2_with fail
      refine (HA1.out _ HB2.out).mono ?_
      rintro e w3 ⟨rfl, rfl⟩
      go_wp2_with fail
      refine (HBy.out _ HB2.out).mono ?_
      rintro e w4 ⟨rfl, hb4⟩
      have HB4 := Lib.hid (below_th HB2.out hb4)
      clear hb4 c0 c1 c2 c3 c5
      obtain ⟨c0, c1, c2, c3, c5⟩ := (HT.out _ HB4.out).all
      by_cases hp : E.putE s = 0
      · have hpb : (E.putE s != 0) = false := by rw [hp]; rfl
        have HF2 := Lib.hid fun V e' hV h0 => HFin2.out V e' hV hp h0
        have HF3 := Lib.hid fun V e' hV h0 => HFin3.out V e' hV hp h0
        clear hp
        go_wp2_with fail
        refine (HPu.out _ HB4.out).mono ?_
        rintro e w5 ⟨rfl, hs5⟩
        have HK5 := Lib.hid (HPt.out _ HB4.out _ hs5)
        clear hs5 c0 c1 c2 c3 c5
        obtain ⟨c0, c1, c2, c3, c5⟩ := HK5.out.all
        by_cases h0 : v2 = 0
        · have hz : decide (v2 > 0) = false := decide_eq_false (by omega)
          have HK6 := Lib.hid (HF2.out _ _ HK5.out h0)
          clear h0
          go_wp2
          exact HK6.out
        · have hz : decide (v2 > 0) = true := decide_eq_true (by omega)
          have hz2 : 0 < v2 := by omega
          have HSh := Lib.hid (shows HK5.out 1 0 s)
          have HF4 := Lib.hid fun V e' hV => HF3.out V e' hV h0
          clear h0
          go_wp2_with fail
          refine HSh.out.mono ?_
          rintro e w8 ⟨rfl, h8⟩
          have HK8 := Lib.hid (HF4.out _ _ h8)
          clear h8
          go_wp2
          exact HK8.out
      · have hpb : (E.putE s != 0) = true := bne_iff_ne.2 hp
        have HSm := Lib.hid (put_same hp)
        have HF1 := Lib.hid fun V hV => HFin1.out V hV hp
        clear hp
        go_wp2_with fail
        refine (HPu.out _ HB4.out).mono ?_
        rintro e w5 ⟨rfl, hs5⟩
        have HK5 := Lib.hid (HPt.out _ HB4.out _ hs5)
        have HK6 := Lib.hid (HF1.out _ (by have := HK5.out; rw [HSm.out] at this; exact this))
        clear hs5
        go_wp2
        exact HK6.out
    · have hfb : (Sp.getE E.A v1 v2 1 == 0) = false := beq_eq_false_iff_ne.2 hf
      have HFin := Lib.hid fun V (hV : Tk W V tb a0 e0 A0 a K e E x) => (fin_no hV (f := fun _ => Co.put K E v1 v2) 2 fun b => by unfold Co.put Kn.bytes; rw [if_neg hno, if_neg q2, if_neg hf])
      generalize CallPost W tb a0 e0 A0 x (fun _ => Co.put K E v1 v2) = PQ at *
      generalize Sp.getS E.A v1 v2 1 = s at *
      generalize Sp.getE E.A v1 v2 1 = ge at *
      clear h hdr hq hf hno
      go_enter Tryz.func136, Tryz.ntmps136
      go_wp2_with fail
      refine (HA2.out _ (Below.refl _ _)).mono ?_
      rintro e w1 ⟨rfl, rfl⟩
      go_wp2_with fail
      refine wp_region_held (S := fun w' => w'.cell? ⟨tb, 0, none⟩ = some (.pointer (some ⟨a.kb, 0, none⟩)) ∧ w'.cell? ⟨tb, 1, none⟩ = some (.pointer (some ⟨e.eb, 0, none⟩)) ∧ w'.cell? ⟨a.kb, 2, none⟩ = some (.pointer (some ⟨a.c.cb, 0, none⟩)) ∧ w'.cell? ⟨a.kb, 3, none⟩ = some (.pointer (some ⟨a.nb, 0, none⟩)) ∧ w'.cell? ⟨a.kb, 5, none⟩ = some (.int .u32 K.now)) (by kernel_rfl) ?_
      refine H_take (i := 0) (v := ?_) rfl (by kernel_rfl) (by kernel_rfl) (by kernel_rfl) (fun _ _ _ h => h) (Or.inl ⟨by rfl, ?_⟩) hD ?_
      rotate_left
      · intro W hW; obtain ⟨k0, k1, k2, k3, k5⟩ := hW; go_simp; try with_reducible rfl
      try simp only [Act.put, Za, Zb, Zc, Zd, Ze, Zf]
      refine H_take (i := 1) (v := ?_) rfl (by kernel_rfl) (by kernel_rfl) (by kernel_rfl) (fun _ _ _ h => h) (Or.inl ⟨by rfl, ?_⟩) hD ?_
      rotate_left
      · intro W hW; obtain ⟨k0, k1, k2, k3, k5⟩ := hW; go_simp; try with_reducible rfl
      try simp only [Act.put, Za, Zb, Zc, Zd, Ze, Zf]
      refine H_take (i := 2) (v := ?_) rfl (by kernel_rfl) (by kernel_rfl) (by kernel_rfl) (fun _ _ _ h => h) (Or.inl ⟨by rfl, ?_⟩) hD ?_
      rotate_left
      · intro W hW; obtain ⟨k0, k1, k2, k3, k5⟩ := hW; go_simp; try with_reducible rfl
      try simp only [Act.put, Za, Zb, Zc, Zd, Ze, Zf]
      refine H_take (i := 3) (v := ?_) rfl (by kernel_rfl) (by kernel_rfl) (by kernel_rfl) (fun _ _ _ h => h) (Or.inl ⟨by rfl, ?_⟩) hD ?_
      rotate_left
      · intro W hW; obtain ⟨k0, k1, k2, k3, k5⟩ := hW; go_simp; try with_reducible rfl
      try simp only [Act.put, Za, Zb, Zc, Zd, Ze, Zf]
      refine H_take (i := 4) (v := ?_) rfl (by kernel_rfl) (by kernel_rfl) (by kernel_rfl) (fun _ _ _ h => h) (Or.inl ⟨by rfl, ?_⟩) hD ?_
      rotate_left
      · intro W hW; obtain ⟨k0, k1, k2, k3, k5⟩ := hW; go_simp; try with_reducible rfl
      try simp only [Act.put, Za, Zb, Zc, Zd, Ze, Zf]
      refine H_take (i := 5) (v := ?_) rfl (by kernel_rfl) (by kernel_rfl) (by kernel_rfl) (fun _ _ _ h => h) (Or.inl ⟨by rfl, ?_⟩) hD ?_
      rotate_left
      · intro W hW; obtain ⟨k0, k1, k2, k3, k5⟩ := hW; go_simp; try with_reducible rfl
      try simp only [Act.put, Za, Zb, Zc, Zd, Ze, Zf]
      refine H_take (i := 6) (v := ?_) rfl (by kernel_rfl) (by kernel_rfl) (by kernel_rfl) (fun _ _ _ h => h) (Or.inl ⟨by rfl, ?_⟩) hD ?_
      rotate_left
      · intro W hW; obtain ⟨k0, k1, k2, k3, k5⟩ := hW; go_simp; try with_reducible rfl
      try simp only [Act.put, Za, Zb, Zc, Zd, Ze, Zf]
      refine H_take (i := 7) (v := ?_) rfl (by kernel_rfl) (by kernel_rfl) (by kernel_rfl) (fun _ _ _ h => h) (Or.inl ⟨by rfl, ?_⟩) hD ?_
      rotate_left
      · intro W hW; obtain ⟨k0, k1, k2, k3, k5⟩ := hW; go_simp; try with_reducible rfl
      try simp only [Act.put, Za, Zb, Zc, Zd, Ze, Zf]
      refine H_take (i := 8) (v := ?_) rfl (by kernel_rfl) (by kernel_rfl) (by kernel_rfl) (fun _ _ _ h => h) (Or.inl ⟨by rfl, ?_⟩) hD ?_
      rotate_left
      · intro W hW; obtain ⟨k0, k1, k2, k3, k5⟩ := hW; go_simp; try with_reducible rfl
      try simp only [Act.put, Za, Zb, Zc, Zd, Ze, Zf]
      refine H_take (i := 9) (v := ?_) rfl (by kernel_rfl) (by kernel_rfl) (by kernel_rfl) (fun _ _ _ h => h) (Or.inl ⟨by rfl, ?_⟩) hD ?_
      rotate_left
      · intro W hW; obtain ⟨k0, k1, k2, k3, k5⟩ := hW; go_simp; try with_reducible rfl
      try simp only [Act.put, Za, Zb, Zc, Zd, Ze, Zf]
      refine H_take (i := 10) (v := ?_) rfl (by kernel_rfl) (by kernel_rfl) (by kernel_rfl) (fun _ _ _ h => h) (Or.inl ⟨by rfl, ?_⟩) hD ?_
      rotate_left
      · intro W hW; obtain ⟨k0, k1, k2, k3, k5⟩ := hW; go_simp; try with_reducible rfl
      try simp only [Act.put, Za, Zb, Zc, Zd, Ze, Zf]
      refine H_one (i := 11) (by kernel_rfl) rfl (fun K hK => ?_)
      go_simp
      go_at_call 81
      refine (HN.out _ (Below.refl _ _).drew).mono ?_
      rintro e x1 ⟨rfl, rfl⟩
      refine hK.out _ _ hD (fun _ => ?_)
      clear hK K
      try simp only [Act.put, Za, Zb, Zc, Zd, Ze, Zf]
      refine H_one (i := 12) (by kernel_rfl) rfl (fun K hK => ?_)
      go_simp
      go_at_call 101
      refine HCo.out.mono ?_
      rintro e x2 ⟨rfl, hb2⟩
      have HB2 : Hid (Below w.heap.size w x2) := Lib.hid ((Below.refl _ _).drew.trans hb2)
      have h2 := (HT.out _ HB2.out).all
      clear hb2
      refine hK.out _ _ h2 (fun _ => ?_)
      clear hK K
      try simp only [Act.put, Za, Zb, Zc, Zd, Ze, Zf]
      refine H_take (i := 13) (v := ?_) rfl (by kernel_rfl) (by kernel_rfl) (by kernel_rfl) (fun _ _ _ h => h) (Or.inl ⟨by rfl, ?_⟩) h2 ?_
      rotate_left
      · intro W hW; obtain ⟨k0, k1, k2, k3, k5⟩ := hW; go_simp; try with_reducible rfl
      try simp only [Act.put, Za, Zb, Zc, Zd, Ze, Zf]
      refine H_take (i := 14) (v := ?_) rfl (by kernel_rfl) (by kernel_rfl) (by kernel_rfl) (fun _ _ _ h => h) (Or.inl ⟨by rfl, ?_⟩) h2 ?_
      rotate_left
      · intro W hW; obtain ⟨k0, k1, k2, k3, k5⟩ := hW; go_simp; try with_reducible rfl
      try simp only [Act.put, Za, Zb, Zc, Zd, Ze, Zf]
      refine wpAnyH_done (by kernel_rfl) ?_ _
      clear c0 c1 c2 c3 c5 hD
      obtain ⟨c0, c1, c2, c3, c5⟩ := h2
      go_wp2_with fail
      refine (HA1.out _ HB2.out).mono ?_
      rintro e w3 ⟨rfl, rfl⟩
      go_wp2_with fail
      refine (HBy.out _ HB2.out).mono ?_
      rintro e w4 ⟨rfl, hb4⟩
      have HK6 := Lib.hid (HFin.out _ (HT.out _ (below_th HB2.out hb4)))
      clear hb4
      go_wp2
      exact HK6.out
end
end Kl
end Go.Proofs.YtkbhokmnbpnlbaaGreat
