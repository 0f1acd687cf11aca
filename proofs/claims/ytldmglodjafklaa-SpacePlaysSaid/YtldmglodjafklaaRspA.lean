/- The walks of the document's space: Perm, Map. -/
import Derived.Test.YtldmglodjafklaaRsp
import Derived.RangeFuncBox
namespace Go.Proofs.Ytldmglodjafklaa
open Go.RowKit
set_option linter.unusedVariables false
theorem own_ne {W : World} {base : Nat} {e e' : TypeId} {s n : Nat} {v : Value} {xs : List Value} {c : Array Value} {fr : Nat × Nat} {k : Nat} (h : W.ownsRow base e s v n xs) (hk : W.heap[k]? = some (.cells c e' fr)) (hne : e' ≠ e) : v.ownBlock ≠ some k := by
  intro g
  rcases h.2 with ⟨rfl, _⟩ | ⟨b, cap, cur, rfl, _, hb, _⟩
  · cases g
  · cases g
    rw [hk] at hb
    simp only [Option.some.injEq, Obj.cells.injEq] at hb
    exact hne hb.2.1
theorem row_keep {W W' : World} {base : Nat} {e : TypeId} {s n : Nat} {v : Value} {xs : List Value} (h : W.ownsRow base e s v n xs) (hk : ∀ k, v.ownBlock = some k → W'.heap[k]? = W.heap[k]?) : W'.ownsRow base e s v n xs := by
  obtain ⟨hl, g⟩ := h
  refine ⟨hl, g.imp id ?_⟩
  rintro ⟨b, cap, cur, rfl, h1, h2, rest⟩
  exact ⟨b, cap, cur, rfl, h1, (hk b rfl).trans h2, rest⟩
def insR (p : Rp) : List Rp → List Rp
  | [] => [p]
  | q :: r => if p.pg.addr < q.pg.addr then p :: q :: r else q :: insR p r
theorem rpgs_insR (p : Rp) (R : List Rp) : rpgs (insR p R) = insPg p.pg (rpgs R) := by
  induction R with
  | nil => rfl
  | cons q r ih =>
    unfold insR
    show _ = if p.pg.addr < q.pg.addr then _ else _
    split
    · rfl
    · show q.pg :: rpgs (insR p r) = _
      rw [ih]; rfl
theorem mem_insR {p q : Rp} {R : List Rp} : q ∈ insR p R ↔ q = p ∨ q ∈ R := by
  induction R with
  | nil => simp [insR]
  | cons a r ih =>
    unfold insR
    split
    · simp
    · rw [List.mem_cons, ih, List.mem_cons]
      constructor
      · rintro (h | h | h) <;> simp [h]
      · rintro (h | h | h) <;> simp [h]
theorem ins_first {p y : Rp} : ∀ {l : List Rp}, (∀ q, q ∈ l → ¬ p.pg.addr < q.pg.addr) → p.pg.addr < y.pg.addr → insR p (l ++ [y]) = l ++ [p] ++ [y]
  | [], _, h => by simp [insR, h]
  | q :: l, h, hy => by
    have h1 := h q (by simp)
    have ih := ins_first (l := l) (fun q hq => h q (by simp [hq])) hy
    show (if p.pg.addr < q.pg.addr then _ else q :: insR p (l ++ [y])) = _
    rw [if_neg h1, ih]; rfl
theorem ins_later {p y : Rp} : ∀ {l : List Rp}, (∃ q, q ∈ l ∧ p.pg.addr < q.pg.addr) → insR p (l ++ [y]) = insR p l ++ [y]
  | [], ⟨q, hq, _⟩ => by simp at hq
  | a :: l, ⟨q, hq, hlt⟩ => by
    show (if p.pg.addr < a.pg.addr then _ else a :: insR p (l ++ [y])) = (if p.pg.addr < a.pg.addr then _ else a :: insR p l) ++ [y]
    by_cases g : p.pg.addr < a.pg.addr
    · rw [if_pos g, if_pos g]; rfl
    · rw [if_neg g, if_neg g, ins_later (l := l)]
      · rfl
      · rcases List.mem_cons.1 hq with rfl | hq'
        · exact absurd hlt g
        · exact ⟨q, hq', hlt⟩
theorem ins_end {p : Rp} : ∀ {l : List Rp}, (∀ q, q ∈ l → ¬ p.pg.addr < q.pg.addr) → insR p l = l ++ [p]
  | [], _ => rfl
  | q :: l, h => by
    have ih := ins_end (l := l) (fun q hq => h q (by simp [hq]))
    show (if p.pg.addr < q.pg.addr then _ else q :: insR p l) = _
    rw [if_neg (h q (by simp)), ih]; rfl
theorem infoPg : (Try.prog.info? 102).map (fun i => (i.zero, i.size, i.bytes)) = some (some (.pointer none), 1, 8) := by kernel_rfl
namespace Rs
set_option maxRecDepth 100000 in
theorem perm {w : World} {rb : Nat} {lv : Value} {R : List Rp} (h : Rsp w rb lv R) (x : Int) (h0 : 0 ≤ x) (h1 : x ≤ 4294967295) :
    Calls Try.prog 30 #[.pointer (some ⟨rb, 0, none⟩), .int .u32 x] w fun e w' => e = .returned (.tuple #[.int .u8 (Sp.permV (rpgs R) x), .bool (Sp.permB (rpgs R) x)]) ∧ w = w' := by
  cases hp : pageAt (rpgs R) x with
  | none =>
    have hof := of_none h x h0 (by omega) hp
    have e1 := Lib.hid (show Sp.permV (rpgs R) x = 0 by unfold Sp.permV; rw [hp])
    have e2 := Lib.hid (show Sp.permB (rpgs R) x = false by unfold Sp.permB; rw [hp]; rfl)
    have Hof := Lib.hid hof
    clear h hp hof
    go_enter Try.func30, Try.ntmps30
    go_wp2_with (go_at_call 49; (with_reducible refine Hof.out.mono ?_); rintro e w1 ⟨rfl, rfl⟩)
    go_ret2
    exact ⟨by rw [e1.out, e2.out]; rfl, rfl⟩
  | some p =>
    have hof := of_some h x h0 (by omega) hp
    have e1 := Lib.hid (show Sp.permV (rpgs R) x = p.perm by unfold Sp.permV; rw [hp])
    have e2 := Lib.hid (show Sp.permB (rpgs R) x = true by unfold Sp.permB; rw [hp]; rfl)
    have Hof := Lib.hid hof
    obtain ⟨q, hq, rfl⟩ := List.mem_map.1 (atAddr_mem hp).1
    obtain ⟨_, c1, _⟩ := (h.pages q hq).cells
    clear h hp hof
    go_enter Try.func30, Try.ntmps30
    go_wp2_with (go_at_call 49; (with_reducible refine Hof.out.mono ?_); rintro e w1 ⟨rfl, rfl⟩)
    go_ret2
    exact ⟨by rw [e1.out, e2.out]; rfl, rfl⟩
def fresh (w : World) (p : Rp) : Prop := w.heap.size ≤ p.pg.blk ∧ w.heap.size ≤ p.bb
def mpRel (w : World) (rb : Nat) (lv : Value) (R : List Rp) (addr perm : Int) (vl vd vi : Value) (wr : World) : Prop :=
  ∃ i : Nat, vi = .int .i64 i ∧ i ≤ R.length ∧ Rsp wr rb lv R ∧ Below w.heap.size w wr ∧
    ((vd = .bool false ∧ (∀ q, q ∈ R.take i → ¬ addr < q.pg.addr) ∧ wr.ownsRow w.heap.size 102 1 vl i ((R.take i).map Rp.ptr)) ∨
     (vd = .bool true ∧ ∃ p : Rp, p.pg = pgNew addr p.pg.blk perm ∧ fresh w p ∧ RPage wr p ∧ (∃ q, q ∈ R.take i ∧ addr < q.pg.addr) ∧ wr.ownsRow w.heap.size 102 1 vl (i + 1) ((insR p (R.take i)).map Rp.ptr)))
def MapPost (w : World) (rb : Nat) (R : List Rp) (addr perm : Int) (e : Ending) (w' : World) : Prop :=
  ∃ (p : Rp) (lv' : Value), e = .returned (.int .i64 0) ∧ p.pg = pgNew addr p.pg.blk perm ∧ fresh w p ∧ Rsp w' rb lv' (insR p R) ∧ (∀ k, lv'.ownBlock = some k → w.heap.size ≤ k) ∧ Mod (fun k => k = rb) w w'
theorem new_page (W : World) (addr perm : Int) (h0 : 0 ≤ addr) (h1 : addr < 1048576) (h2 : addr % 256 = 0) (p0 : 0 ≤ perm) (p1 : perm ≤ 7) :
    RPage ((W.alloc (.cells (Sp.fillL [] 256).toArray 5)).alloc (.cells #[.int .u32 addr, .int .u8 perm, .slice (some ⟨W.heap.size, 0, none⟩) 256 256] 104)) ⟨pgNew addr (W.heap.size + 1) perm, W.heap.size, 256⟩ := by
  refine ⟨?_, ⟨(Sp.fillL [] 256).toArray, ?_, by rw [Sp.fillL_zero, List.size_toArray, List.length_replicate], fun j hj => ?_⟩, Nat.le_refl _, by unfold maxLen; show 256 ≤ 2 ^ 63 - 1; omega, ?_⟩
  · have := heap_alloc2_new W (.cells (Sp.fillL [] 256).toArray 5) (.cells #[.int .u32 addr, .int .u8 perm, .slice (some ⟨W.heap.size, 0, none⟩) 256 256] 104)
    exact this
  · exact heap_alloc2_old W _ _
  · rw [Sp.fillL_zero, List.getElem?_toArray, List.getElem?_replicate_of_lt hj]
    show _ = some (Value.int .u8 ((List.replicate 256 (0 : Int)).getD j 0))
    rw [List.getD, List.getElem?_replicate_of_lt hj]
    rfl
  · exact ⟨h0, h1, h2, p0, p1, List.length_replicate, fun x hx => by have := List.eq_of_mem_replicate hx; omega⟩
theorem kept_page {W W' : World} {base n : Nat} {v : Value} {xs : List Value} {p : Rp} (h : W.ownsRow base 102 1 v n xs) (hg : W.grownBy W' v.ownBlock) (hp : RPage W p) : RPage W' p := by
  obtain ⟨cur, hb, _⟩ := hp.data
  exact hp.keep (hg.block _ hp.lt1 fun e => own_ne h hp.page (by decide) e.symm) (hg.block _ hp.lt2 fun e => own_ne h hb (by decide) e.symm)
theorem page_alloc {W : World} {p : Rp} (hp : RPage W p) (o : Obj) : RPage (W.alloc o) p := hp.keep (Below.heap_alloc W o _ hp.lt1) (Below.heap_alloc W o _ hp.lt2)
theorem own_below {B : Nat} {a W W' : World} {n : Nat} {e : TypeId} {v : Value} {xs : List Value} (hb : Below B a W) (hB : B ≤ W.heap.size) (h : W.ownsRow B e 1 v n xs) (hg : W.grownBy W' v.ownBlock) : Below B a W' := hb.grown hg hB fun k hk => (h.lt k hk).1
theorem cell_at2 (W : World) (a b : Obj) (x : Value) (t : TypeId) : ∀ j u, [x][j]? = some u → (((W.alloc a).alloc b).alloc (.cells #[x] t)).cell? ((⟨W.heap.size + 2, 0, none⟩ : Addr).add j) = some u := by
  have := cell_one_new ((W.alloc a).alloc b) x t
  simpa using this
theorem pw_insR {p : Rp} {R : List Rp} (h : R.Pairwise fun p q => p.bb ≠ q.bb) (hn : ∀ q, q ∈ R → q.bb ≠ p.bb) : (insR p R).Pairwise fun p q => p.bb ≠ q.bb := by
  induction R with
  | nil => exact List.pairwise_singleton _ _
  | cons q r ih =>
    have h2 := List.pairwise_cons.1 h
    unfold insR
    split
    · exact List.pairwise_cons.2 ⟨fun y hy => (hn y hy).symm, h⟩
    · refine List.pairwise_cons.2 ⟨fun y hy => ?_, ih h2.2 fun y hy => hn y (List.mem_cons_of_mem _ hy)⟩
      rcases mem_insR.1 hy with rfl | hy
      · exact hn q (by simp)
      · exact h2.1 y hy
theorem rsp_store {W : World} {B rb : Nat} {lv v : Value} {R L : List Rp} (h : Rsp W rb lv R) (hown : W.ownsRow B 102 1 v L.length (L.map Rp.ptr)) (hpg : ∀ q, q ∈ L → RPage W q)
    (hup : (rpgs L).Pairwise fun p q => p.addr < q.addr) (hbb : L.Pairwise fun p q => p.bb ≠ q.bb) : Rsp (W.setCell ⟨rb, 0, none⟩ v) rb v L := by
  have hne : ∀ k, k ≠ rb → (W.setCell ⟨rb, 0, none⟩ v).heap[k]? = W.heap[k]? := fun k hk => Below.heap_setCell _ _ _ _ hk
  refine ⟨?_, ?_, fun q hq => (hpg q hq).keep (hne _ fun e => ?_) (hne _ fun e => ?_), hup, hbb⟩
  · have := heap_setCell_same W rb 0 _ _ v h.head
    simpa using this
  · have hz : W.ownsRow 0 102 1 v L.length (L.map Rp.ptr) := by
      obtain ⟨hl, g⟩ := hown
      refine ⟨hl, g.imp id ?_⟩
      rintro ⟨b, cap, cur, h1, h2, h3⟩
      exact ⟨b, cap, cur, h1, Nat.zero_le _, h3⟩
    exact row_keep hz fun k hk => hne k fun e => own_ne hown h.head (by decide) (e ▸ hk)
  · have := (hpg q hq).page
    rw [e, h.head] at this
    simp at this
  · obtain ⟨cur, this, _⟩ := (hpg q hq).data
    rw [e, h.head] at this
    simp at this
theorem map_fin {w W : World} {rb : Nat} {lv v : Value} {R : List Rp} {addr perm : Int} {p : Rp} (h : Rsp w rb lv R) (hb : Below w.heap.size w W) (hp : p.pg = pgNew addr p.pg.blk perm) (hf : fresh w p) (hpp : RPage W p)
    (hn : pageAt (rpgs R) addr = none) (ha : addr % 256 = 0) (hown : W.ownsRow w.heap.size 102 1 v (R.length + 1) ((insR p R).map Rp.ptr)) (e : Ending) (he : e = .returned (.int .i64 0)) : MapPost w rb R addr perm e (W.setCell ⟨rb, 0, none⟩ v) := by
  have hS := h.below hb fun k hk => h.lt hk
  have hpa : p.pg.addr = addr := by rw [hp]; rfl
  have hl : (insR p R).length = R.length + 1 := by
    have := congrArg List.length (rpgs_insR p R)
    rw [length_insPg] at this
    simpa [rpgs] using this
  refine ⟨p, v, he, hp, hf, rsp_store hS (by rw [hl]; exact hown) ?_ ?_ ?_, fun k hk => (hown.lt k hk).1, (Mod.of_below hb (fun k => k = rb)).setCell _ (.inl rfl) _⟩
  · intro q hq
    rcases mem_insR.1 hq with rfl | hq
    · exact hpp
    · exact hS.pages q hq
  · rw [rpgs_insR]
    refine up_insPg h.up fun q hq e => ?_
    rw [hpa] at e
    unfold pageAt at hn
    rw [ha, Int.sub_zero, ← e, show atAddr (rpgs R) q.addr = some q from atAddr_eq_some h.up hq] at hn
    cases hn
  · refine pw_insR h.bbs fun q hq e => ?_
    have := (h.pages q hq).lt2
    have := hf.2
    omega
set_option maxRecDepth 100000 in
set_option maxHeartbeats 4000000 in
theorem map_ok {w : World} {rb : Nat} {lv : Value} {R : List Rp} (h : Rsp w rb lv R) (addr perm : Int) (h0 : 0 ≤ addr) (h1 : addr ≤ 4294967295) (p0 : 0 ≤ perm) (p1 : perm ≤ 7) (hm : Sp.mayB addr = true) (hp : pageAt (rpgs R) addr = none) :
    Calls Try.prog 44 #[.pointer (some ⟨rb, 0, none⟩), .int .u32 addr, .int .u8 perm] w (MapPost w rb R addr perm) := by
  have ha : addr % 256 = 0 ∧ addr < 1048576 := by unfold Sp.mayB at hm; simpa using hm
  have ha1 := ha.1
  have ha2 := ha.2
  have hof := of_none h addr h0 (by omega) hp
  have hln := h.len
  obtain ⟨i0, hi0, hz0, hz1, hz2⟩ := info_parts infoPg
  have Hi := Lib.hid hi0
  have Hz0 := Lib.hid hz0
  have Hz1 := Lib.hid hz1
  have Hz2 := Lib.hid hz2
  obtain ⟨n, hn⟩ : ∃ n, R.length = n := ⟨_, rfl⟩
  have Hn := Lib.hid hn
  rw [hn] at hln
  have Hof := Lib.hid hof
  have H := Lib.hid h
  have Hp := Lib.hid hp
  obtain ⟨a, cap, hlv, hrow, _⟩ := h.row
  have Hrow := Lib.hid hrow
  have hc0 := h.cellHead
  rw [hlv, hn] at hc0
  have Hlv := Lib.hid hlv
  have Hc0 := Lib.hid hc0
  have Hf0 := Lib.hid (show w.frozen? ⟨rb, 0, none⟩ = false by have := h.head; unfold World.frozen?; rw [this]; rfl)
  have hrb : rb < w.heap.size := lt_of_block h.head
  have hmk : ∀ W, (Instr.makeSlice 32 (.int .i64 256) (.int .i64 256)).run Try.prog W = .ok (.slice (some ⟨W.heap.size, 0, none⟩) 256 256) (W.alloc (.cells (Sp.fillL [] 256).toArray 5)) := fun W => Sp.run_made 256 (by omega) W
  have Hmay := Lib.hid (fun w => may addr h0 h1 w)
  rw [hm] at Hmay
  clear h hp hof hi0 hz0 hz1 hz2 hn ha hm hrow hc0 hlv
  go_enter Try.func44, Try.ntmps44
  go_wp2_with (first | (go_at_call 60; (with_reducible refine (Hmay.out _).mono ?_); rintro e w1 ⟨rfl, rfl⟩) | (go_at_call 49; (with_reducible refine Hof.out.mono ?_); rintro e w1 ⟨rfl, rfl⟩))
  go_loopw [7, 8, 9] (fun vl vd vi wr => mpRel w rb lv R addr perm vl vd vi wr) (fun _ _ vi _ => n - (intOf vi).toNat)
  case atStart => exact ⟨0, by go_num, Nat.zero_le _, H.out, Below.refl _ _, .inl ⟨rfl, fun q hq => by simp at hq, World.ownsRow_nil _ _ _ _⟩⟩
  case round =>
    obtain ⟨i, rfl, hi, hsp, hbw, hd⟩ := hrel
    rw [Hn.out] at hi
    have hsz := hbw.size
    have hc : wr.cell? ⟨rb, 0, none⟩ = some (.slice a n cap) := (hbw.cell hrb).trans Hc0.out
    have HB := Lib.hid hbw
    by_cases hin : i < n
    · have hin2 : i < R.length := by rw [Hn.out]; exact hin
      obtain ⟨g, rfl, hcell⟩ := Hrow.out (by rw [Hn.out]; omega)
      have hci0 : w.cell? ⟨g, i, none⟩ = some (R[i]).ptr := hcell i _ (List.getElem?_eq_getElem hin2)
      have hg : g < w.heap.size := H.out.lt (.inr (.inl (by rw [Hlv.out]; rfl)))
      have hci : wr.cell? ⟨g, i, none⟩ = some (R[i]).ptr := (hbw.cell hg).trans hci0
      have hpg := hsp.pages R[i] (List.getElem_mem hin2)
      obtain ⟨c0, _, _⟩ := hpg.cells
      have htk := Lib.hid (List.take_succ_eq_append_getElem hin2)
      have Hci0 := Lib.hid hci0
      unfold Rp.ptr at hci
      rcases hd with ⟨rfl, hno, hown⟩ | ⟨rfl, p, hpp, hfr, hpr, hex, hown⟩
      · have Hno := Lib.hid hno
        have Ho := Lib.hid hown
        clear hno hown hsp hbw hpg hcell hci0
        by_cases hlt : addr < R[i].pg.addr
        · go_wp2_with (first
            | (at_builtin; go_loud (refine wpList_append_own _ rfl _ _ 53 rfl w.heap.size 102 i0 (.pointer none) 1 8 Try.underlying53 Hi.out Hz0.out Hz1.out Hz2.out rfl (by decide) _ _ _ rfl (((Ho.out.alloc _).alloc _).alloc _) ⟨wr.heap.size + 2, 0, none⟩ 1 1 [.pointer (some ⟨wr.heap.size + 1, 0, none⟩)] rfl rfl (cell_at2 _ _ _ _ _) (by simp [Value.oneCell']) (by unfold maxLen; omega) (by omega) (by simp; omega) ?_); intro v1 w1 ho1 hg1 _; have hb1 := own_below (((HB.out.alloc hsz _).alloc (by simp; omega) _).alloc (by simp; omega) _) (by simp; omega) (((Ho.out.alloc _).alloc _).alloc _) hg1; have hp1 := kept_page (((Ho.out.alloc _).alloc _).alloc _) hg1 (page_alloc (new_page wr addr perm h0 ha2 ha1 p0 p1) _); have hc1 := (hb1.cell (p := ⟨rb, 0, none⟩) hrb).trans Hc0.out; have hci1 := (hb1.cell (p := ⟨g, i, none⟩) hg).trans Hci0.out; have hs1 := hb1.size; unfold Rp.ptr at hci1)
            | (at_builtin; go_loud (refine wpList_append_own _ rfl _ _ 53 rfl w.heap.size 102 i0 (.pointer none) 1 8 Try.underlying53 Hi.out Hz0.out Hz1.out Hz2.out rfl (by decide) _ _ _ rfl (ho1.alloc _) ⟨w1.heap.size, 0, none⟩ 1 1 [.pointer (some ⟨R[i].pg.blk, 0, none⟩)] rfl rfl (cell_one_new _ _ _) (by simp [Value.oneCell']) (by unfold maxLen; omega) (by omega) (by simp; omega) ?_); intro v2 w2 ho2 hg2 _; have hb2 := own_below (hb1.alloc hs1 _) (by simp; omega) (ho1.alloc _) hg2; have hp2 := kept_page (ho1.alloc _) hg2 (page_alloc hp1 _)))
          refine ⟨⟨i + 1, by go_num, by rw [Hn.out]; omega, H.out.below hb2 fun k hk => H.out.lt hk, hb2, .inr ⟨rfl, _, rfl, ⟨?_, hsz⟩, hp2, ⟨R[i], ?_, hlt⟩, ?_⟩⟩, by simp [intOf]; omega⟩
          · show w.heap.size ≤ wr.heap.size + 1
            omega
          · rw [htk.out]; exact List.mem_append_right _ (List.mem_singleton.2 rfl)
          · rw [htk.out, ins_first Hno.out hlt, List.map_append, List.map_append]
            exact ho2
        · go_wp2_with (at_builtin; go_loud (refine wpList_append_own _ rfl _ _ 53 rfl w.heap.size 102 i0 (.pointer none) 1 8 Try.underlying53 Hi.out Hz0.out Hz1.out Hz2.out rfl (by decide) _ _ _ rfl (Ho.out.alloc _) ⟨wr.heap.size, 0, none⟩ 1 1 [.pointer (some ⟨R[i].pg.blk, 0, none⟩)] rfl rfl (cell_one_new _ _ _) (by simp [Value.oneCell']) (by unfold maxLen; omega) (by omega) (by simp; omega) ?_); intro v2 w2 ho2 hg2 _; have hb2 := own_below (HB.out.alloc hsz _) (by simp; omega) (Ho.out.alloc _) hg2)
          refine ⟨⟨i + 1, by go_num, by rw [Hn.out]; omega, H.out.below hb2 fun k hk => H.out.lt hk, hb2, .inl ⟨rfl, fun q hq => ?_, ?_⟩⟩, by simp [intOf]; omega⟩
          · rw [htk.out, List.mem_append] at hq
            rcases hq with hq | hq
            · exact Hno.out q hq
            · rw [List.mem_singleton.1 hq]; exact hlt
          · rw [htk.out, List.map_append]
            exact ho2
      · have Hex := Lib.hid hex
        have Ho := Lib.hid hown
        have Hpr := Lib.hid hpr
        have Hpp := Lib.hid hpp
        have Hfr := Lib.hid hfr
        clear hex hown hpr hpp hfr hsp hbw hpg hcell hci0
        go_wp2_with (at_builtin; go_loud (refine wpList_append_own _ rfl _ _ 53 rfl w.heap.size 102 i0 (.pointer none) 1 8 Try.underlying53 Hi.out Hz0.out Hz1.out Hz2.out rfl (by decide) _ _ _ rfl (Ho.out.alloc _) ⟨wr.heap.size, 0, none⟩ 1 1 [.pointer (some ⟨R[i].pg.blk, 0, none⟩)] rfl rfl (cell_one_new _ _ _) (by simp [Value.oneCell']) (by unfold maxLen; omega) (by omega) (by simp; omega) ?_); intro v2 w2 ho2 hg2 _; have hb2 := own_below (HB.out.alloc hsz _) (by simp; omega) (Ho.out.alloc _) hg2; have hp2 := kept_page (Ho.out.alloc _) hg2 (page_alloc Hpr.out _))
        refine ⟨⟨i + 1, by go_num, by rw [Hn.out]; omega, H.out.below hb2 fun k hk => H.out.lt hk, hb2, .inr ⟨rfl, p, Hpp.out, Hfr.out, hp2, ?_, ?_⟩⟩, by simp [intOf]; omega⟩
        · obtain ⟨q, hq, hl⟩ := Hex.out
          exact ⟨q, by rw [htk.out]; exact List.mem_append_left _ hq, hl⟩
        · obtain ⟨q, hq, hl⟩ := Hex.out
          rw [htk.out, ins_later ⟨q, hq, by rw [Hpp.out]; exact hl⟩, List.map_append]
          exact ho2
    · obtain rfl : i = n := by omega
      have htk : R.take i = R := List.take_of_length_le (by rw [Hn.out]; exact Nat.le_refl _)
      have Htk := Lib.hid htk
      rcases hd with ⟨rfl, hno, hown⟩ | ⟨rfl, p, hpp, hfr, hpr, hex, hown⟩
      · have Hno := Lib.hid hno
        have Ho := Lib.hid hown
        clear hno hown hsp hbw htk
        have hfz : wr.frozen? ⟨rb, 0, none⟩ = false := by have := (H.out.below HB.out fun k hk => H.out.lt hk).head; unfold World.frozen?; rw [this]; rfl
        go_wp2_with (at_builtin; go_loud (refine wpList_append_own _ rfl _ _ 53 rfl w.heap.size 102 i0 (.pointer none) 1 8 Try.underlying53 Hi.out Hz0.out Hz1.out Hz2.out rfl (by decide) _ _ _ rfl (((Ho.out.alloc _).alloc _).alloc _) ⟨wr.heap.size + 2, 0, none⟩ 1 1 [.pointer (some ⟨wr.heap.size + 1, 0, none⟩)] rfl rfl (cell_at2 _ _ _ _ _) (by simp [Value.oneCell']) (by unfold maxLen; omega) (by omega) (by simp; omega) ?_); intro v1 w1 ho1 hg1 _; have hb1 := own_below (((HB.out.alloc hsz _).alloc (by simp; omega) _).alloc (by simp; omega) _) (by simp; omega) (((Ho.out.alloc _).alloc _).alloc _) hg1; have hp1 := kept_page (((Ho.out.alloc _).alloc _).alloc _) hg1 (page_alloc (new_page wr addr perm h0 ha2 ha1 p0 p1) _); have hc1 := (hb1.cell (p := ⟨rb, 0, none⟩) hrb).trans Hc0.out; have hf1 := ((hb1.frozen (p := ⟨rb, 0, none⟩) hrb)).trans Hf0.out; obtain ⟨g1, cap1, rfl⟩ := ownsRow_succ ho1)
        go_ret
        refine map_fin H.out hb1 ?_ ?_ hp1 Hp.out ha1 ?_ _ rfl
        · rfl
        · exact ⟨by show w.heap.size ≤ wr.heap.size + 1; omega, hsz⟩
        · rw [Hn.out, ins_end fun q hq => Int.not_lt.2 (Hno.out q (by rw [Htk.out]; exact hq))]
          rw [Htk.out] at ho1
          rw [List.map_append]
          exact ho1
      · have Ho := Lib.hid hown
        have Hpr := Lib.hid hpr
        have Hpp := Lib.hid hpp
        have Hfr := Lib.hid hfr
        clear hex hown hpr hpp hfr hsp hbw htk
        obtain ⟨g1, cap1, rfl⟩ := ownsRow_succ Ho.out
        have hfz : wr.frozen? ⟨rb, 0, none⟩ = false := (HB.out.frozen (p := ⟨rb, 0, none⟩) hrb).trans Hf0.out
        go_wp2
        go_ret
        refine map_fin H.out HB.out Hpp.out Hfr.out Hpr.out Hp.out ha1 ?_ _ rfl
        have := Ho.out
        rw [Htk.out] at this
        rw [Hn.out]
        exact this
end Rs
end Go.Proofs.Ytldmglodjafklaa
