/- An environment: in plain numbers, and in memory. -/
import Derived.Test.YtkbhokmnbpnlbaaGreatSl21
import Derived.Test.YtkbhokmnbpnlbaaGreatCpuW
import Derived.Test.YtkbhokmnbpnlbaaGreatKeepsP
import Derived.Test.YtkbhokmnbpnlbaaGreatStp
namespace Go.Proofs.YtkbhokmnbpnlbaaGreat
open Go.RowKit Word
set_option linter.unusedVariables false
set_option linter.unusedSimpArgs false
/-- An environment in plain numbers. -/
structure En where
  num : Int
  kind : Int
  code : Int
  why : Int
  text : ByteArray
  own : List Int
  A : List Pg
  r : List Int
  pc : Int
namespace En
def dead (E : En) (y : Int) : En := { E with kind := 4, code := 0, why := y }
/-- A step. -/
def step (E : En) : En :=
  if E.kind ≠ 2 then E else
    let o := Cp.stp E.A E.r E.pc
    if o.kind = 2 then { E with A := o.A, r := o.r, pc := o.pc, kind := 4, code := 0, why := o.why } else { E with A := o.A, r := o.r, pc := o.pc }
def stop (E : En) : Int × Int × Int := if E.kind ≠ 2 then (0, 0, 0) else ((Cp.stp E.A E.r E.pc).kind, (Cp.stp E.A E.r E.pc).num, (Cp.stp E.A E.r E.pc).why)
def redE (E : En) : Int := if E.kind ≠ 2 then 3 else 0
def exit (E : En) (c : Int) : En := if E.kind ≠ 2 then E else { E with kind := 3, code := c, why := 0 }
/-- May an address be an own page's? -/
def mayP (x : Int) : Bool := x % 256 == 0 && decide (256 ≤ x) && decide (x < 1048576)
def mayE (E : En) (x : Int) : Int := if E.kind ≠ 2 then 3 else if mayP x = false then 2 else 0
def ins (x : Int) : List Int → List Int
  | [] => [x]
  | y :: l => if x < y then x :: y :: l else y :: ins x l
def pageE (E : En) (x : Int) : Int := if E.mayE x ≠ 0 then E.mayE x else Sp.mapE E.A x 3
def page (E : En) (x : Int) (blk : Nat) : En := if E.pageE x ≠ 0 then E else { E with A := Sp.mapA E.A x blk 3, own := ins x E.own }
def dropE (E : En) (x : Int) : Int := if E.mayE x ≠ 0 then E.mayE x else if x ∈ E.own then Sp.unmapE E.A x else 3
def drop (E : En) (x : Int) : En := if E.mayE x ≠ 0 then E else if x ∈ E.own then { E with A := Sp.unmapA E.A x, own := E.own.filter (fun y => y != x) } else E
def putE (E : En) (s : ByteArray) : Int := if E.kind ≠ 2 then 3 else if 4096 < E.text.size + s.size then 4 else 0
def put (E : En) (s : ByteArray) : En := if E.putE s ≠ 0 then E else { E with text := E.text ++ s }
def arg (E : En) (n : Int) : Int := if 0 ≤ n ∧ n < 16 then Cp.rg E.r n else 0
def answer (E : En) (v y : Int) : En := { E with r := Cp.putG (Cp.putG E.r 1 v) 2 y }
/-- What stays so, whatever is done. -/
structure Ok (E : En) : Prop where
  up : E.own.Pairwise (· < ·)
  may : ∀ x, x ∈ E.own → x % 256 = 0 ∧ 256 ≤ x ∧ x < 1048576
  has : ∀ x, x ∈ E.own → (atAddr E.A x).isSome = true
  text : E.text.size ≤ 4096
theorem len_up : ∀ (l : List Int) (lo hi : Int), l.Pairwise (· < ·) → (∀ x, x ∈ l → lo ≤ x ∧ x < hi) → lo ≤ hi → (l.length : Int) ≤ hi - lo
  | [], lo, hi, _, _, h => by simp; omega
  | y :: l, lo, hi, hp, hb, h => by
    have hy := hb y (List.mem_cons_self ..)
    have := len_up l (y + 1) hi (List.pairwise_cons.1 hp).2 (fun x hx => ⟨by have := (List.pairwise_cons.1 hp).1 x hx; omega, (hb x (List.mem_cons_of_mem _ hx)).2⟩) (by omega)
    simp only [List.length_cons, Int.natCast_add, Int.natCast_one]
    omega
theorem Ok.len {E : En} (h : E.Ok) : E.own.length ≤ 2000000 := by
  have := len_up E.own 0 1048576 h.up (fun x hx => ⟨by have := h.may x hx; omega, (h.may x hx).2.2⟩) (by omega)
  omega
theorem mem_ins {x y : Int} : ∀ {l : List Int}, y ∈ ins x l ↔ y = x ∨ y ∈ l
  | [] => by simp [ins]
  | z :: l => by
    unfold ins
    split
    · simp
    · simp [mem_ins (l := l)]
      constructor
      · rintro (h | h | h) <;> simp [h]
      · rintro (h | h | h) <;> simp [h]
theorem up_ins {x : Int} : ∀ {l : List Int}, l.Pairwise (· < ·) → x ∉ l → (ins x l).Pairwise (· < ·)
  | [], _, _ => List.pairwise_singleton _ _
  | z :: l, h, hx => by
    obtain ⟨h1, h2⟩ := List.pairwise_cons.1 h
    unfold ins
    split
    · rename_i g
      exact List.pairwise_cons.2 ⟨fun y hy => by
        rcases List.mem_cons.1 hy with rfl | hy
        · exact g
        · exact Int.lt_trans g (h1 y hy), h⟩
    · rename_i g
      refine List.pairwise_cons.2 ⟨fun y hy => ?_, up_ins h2 fun q => hx (List.mem_cons_of_mem _ q)⟩
      rcases mem_ins.1 hy with rfl | hy
      · have : y ≠ z := fun e => hx (e ▸ List.mem_cons_self ..)
        omega
      · exact h1 y hy
/-- What Insert makes at the place. -/
theorem ins_place : ∀ {l : List Int} {x : Int} {k : Nat}, Sl.Place l x k → x ∉ l → l.take k ++ x :: l.drop k = ins x l
  | [], x, k, h, _ => by simp [ins]
  | y :: l, x, 0, h, hx => by
    have h1 := h.hi 0 y (Nat.le_refl _) rfl
    have h2 : y ≠ x := fun e => hx (e ▸ List.mem_cons_self ..)
    unfold ins
    rw [if_pos (by omega)]
    rfl
  | y :: l, x, k + 1, h, hx => by
    have h1 := h.lo 0 y (Nat.succ_pos _) rfl
    unfold ins
    rw [if_neg (by omega), List.take_succ_cons, List.drop_succ_cons, List.cons_append, ins_place (l := l) ⟨by have := h.le; simp at this; exact this, fun j z hj hz => h.lo (j + 1) z (by omega) (by simpa using hz), fun j z hj hz => h.hi (j + 1) z (by omega) (by simpa using hz)⟩ fun q => hx (List.mem_cons_of_mem _ q)]
theorem place_mem {l : List Int} {x : Int} {k : Nat} (hup : l.Pairwise (· < ·)) (h : Sl.Place l x k) : x ∈ l ↔ l[k]? = some x := by
  refine ⟨fun hx => ?_, fun hx => List.mem_of_getElem? hx⟩
  obtain ⟨j, hj⟩ := List.getElem?_of_mem hx
  rcases Nat.lt_trichotomy j k with g | rfl | g
  · have := h.lo j x g hj; omega
  · exact hj
  · have hjl := (List.getElem?_eq_some_iff.1 hj).1
    have hk : l[k]? = some l[k] := List.getElem?_eq_getElem (by omega)
    have h1 := h.hi k _ (Nat.le_refl _) hk
    have h2 := (List.pairwise_iff_getElem.1 hup) k j (by omega) hjl g
    have h3 := (List.getElem?_eq_some_iff.1 hj).2
    omega
/-- What Delete makes at the place. -/
theorem erase_place : ∀ {l : List Int} {x : Int} {k : Nat}, l.Pairwise (· < ·) → l[k]? = some x → l.eraseIdx k = l.filter (fun y => y != x)
  | [], x, k, _, h => by simp at h
  | y :: l, x, 0, hup, h => by
    obtain ⟨h1, h2⟩ := List.pairwise_cons.1 hup
    simp at h
    subst h
    rw [List.eraseIdx_cons_zero, List.filter_cons_of_neg (by simp)]
    symm
    rw [List.filter_eq_self]
    intro z hz
    have := h1 z hz
    simp
    omega
  | y :: l, x, k + 1, hup, h => by
    obtain ⟨h1, h2⟩ := List.pairwise_cons.1 hup
    simp at h
    have := h1 x (List.mem_of_getElem? h)
    rw [List.eraseIdx_cons_succ, List.filter_cons_of_pos (by simp; omega), erase_place h2 h]
end En
/-- Where an environment lies. -/
structure EAt where
  eb : Nat
  sb : Nat
  mb : Nat
  cb : Nat
  lv : Value
def EAt.foot (a : EAt) (A : List Pg) (k : Nat) : Prop := k = a.eb ∨ k = a.cb ∨ Spc.foot a.sb a.mb A k ∨ a.lv.ownBlock = some k
def EAt.cells (a : EAt) (E : En) : Array Value := #[.pointer (some ⟨a.sb, 0, none⟩), a.lv, .pointer (some ⟨a.cb, 0, none⟩), .int .i64 E.num, .int .u8 E.kind, .int .u32 E.code, .int .i64 E.why, .string E.text]
structure Env (w : World) (a : EAt) (E : En) : Prop where
  blk : w.heap[a.eb]? = some (.cells (a.cells E) 150 (0, 0))
  cp : Cpu 233 w a.cb E.r E.pc
  sp : Spc w a.sb a.mb E.A
  ls : Sl.Lst w a.lv E.own
  ec : a.eb ≠ a.cb
  es : ¬ Spc.foot a.sb a.mb E.A a.eb
  cs : ¬ Spc.foot a.sb a.mb E.A a.cb
  le : ∀ g, a.lv.ownBlock = some g → g < w.heap.size ∧ g ≠ a.eb ∧ g ≠ a.cb ∧ ¬ Spc.foot a.sb a.mb E.A g
  ok : E.Ok
namespace Env
variable {w w' : World} {a : EAt} {E : En}
theorem lt (h : Env w a E) (k : Nat) (hk : a.foot E.A k) : k < w.heap.size := by
  rcases hk with rfl | rfl | g | g
  · exact lt_of_block h.blk
  · exact h.cp.lt
  · exact h.sp.lt g
  · exact (h.le k g).1
theorem frame (h : Env w a E) (hf : ∀ k, a.foot E.A k → w'.heap[k]? = w.heap[k]?) (hz : w.heap.size ≤ w'.heap.size) : Env w' a E :=
  { h with
    blk := (hf _ (.inl rfl)).trans h.blk
    cp := h.cp.frame (hf _ (.inr (.inl rfl)))
    sp := h.sp.frame fun k hk => hf k (.inr (.inr (.inl hk)))
    ls := h.ls.frame fun g hg => hf g (.inr (.inr (.inr hg)))
    le := fun g hg => ⟨Nat.lt_of_lt_of_le (h.le g hg).1 hz, (h.le g hg).2⟩ }
theorem below (h : Env w a E) (hb : Below w.heap.size w w') : Env w' a E := h.frame (fun k hk => hb.block k (h.lt k hk)) hb.size
theorem keep {F : Nat → Prop} (h : Env w a E) (hm : Mod F w w') (hF : ∀ k, a.foot E.A k → ¬ F k) : Env w' a E := h.frame (fun k hk => hm.block k (h.lt k hk) (hF k hk)) hm.size
theorem cell (h : Env w a E) (i : Nat) (v : Value) (hi : (a.cells E)[i]? = some v) : w.cell? ⟨a.eb, i, none⟩ = some v := by
  unfold World.cell?
  rw [h.blk]
  exact hi
theorem free (h : Env w a E) (i : Nat) : w.frozen? ⟨a.eb, i, none⟩ = false := by
  unfold World.frozen?
  rw [h.blk]
  simp
end Env
/-- What an act on an environment leaves. -/
structure EStep (w w' : World) (a : EAt) (E : En) (a' : EAt) (E' : En) : Prop where
  env : Env w' a' E'
  same : a'.eb = a.eb ∧ a'.sb = a.sb ∧ a'.mb = a.mb ∧ a'.cb = a.cb
  mod : Mod (a.foot E.A) w w'
  foot : ∀ k, a'.foot E'.A k → a.foot E.A k ∨ w.heap.size ≤ k
namespace EStep
variable {w w' w'' : World} {a a' a'' : EAt} {E E' E'' : En}
theorem refl (h : Env w a E) : EStep w w a E a E := ⟨h, ⟨rfl, rfl, rfl, rfl⟩, Mod.refl _ _, fun _ g => .inl g⟩
theorem of_below (h : Env w a E) (hb : Below w.heap.size w w') : EStep w w' a E a E := ⟨h.below hb, ⟨rfl, rfl, rfl, rfl⟩, Mod.of_below hb _, fun _ g => .inl g⟩
theorem trans (h : EStep w w' a E a' E') (k : EStep w' w'' a' E' a'' E'') : EStep w w'' a E a'' E'' :=
  ⟨k.env, ⟨k.same.1.trans h.same.1, k.same.2.1.trans h.same.2.1, k.same.2.2.1.trans h.same.2.2.1, k.same.2.2.2.trans h.same.2.2.2⟩, h.mod.trans k.mod fun i _ g => h.foot i g, fun i g => by
    rcases k.foot i g with q | q
    · exact h.foot i q
    · exact .inr (Nat.le_trans h.mod.size q)⟩
theorem below (h : EStep w w' a E a' E') (hb : Below w'.heap.size w' w'') : EStep w w'' a E a' E' := h.trans (of_below h.env hb)
theorem pre {W : World} (h : EStep w w' a E a' E') (hb : Below W.heap.size W w) : EStep W w' a E a' E' :=
  ⟨h.env, h.same, (Mod.of_below hb _).trans h.mod fun i _ g => .inl g, fun i g => (h.foot i g).imp id fun q => Nat.le_trans hb.size q⟩
/-- What is new has turned. -/
theorem turn {F : Nat → Prop} (h : EStep w w' a E a' E') (hm : Mod F w' w'') (hF : ∀ k, F k → ¬ a'.foot E'.A k ∧ w.heap.size ≤ k) : EStep w w'' a E a' E' :=
  ⟨h.env.keep hm fun k hk g => (hF k g).1 hk, h.same, h.mod.trans hm fun i _ g => .inr (hF i g).2, h.foot⟩
/-- Another state's words. -/
theorem setState (h : Env w a E) (k c y : Int) : EStep w (((w.setCell ⟨a.eb, 4, none⟩ (.int .u8 k)).setCell ⟨a.eb, 5, none⟩ (.int .u32 c)).setCell ⟨a.eb, 6, none⟩ (.int .i64 y)) a E a { E with kind := k, code := c, why := y } := by
  have hm : Mod (fun i => i = a.eb) w (((w.setCell ⟨a.eb, 4, none⟩ (.int .u8 k)).setCell ⟨a.eb, 5, none⟩ (.int .u32 c)).setCell ⟨a.eb, 6, none⟩ (.int .i64 y)) := Mod.setCell (F := fun i => i = a.eb) (Mod.setCell (F := fun i => i = a.eb) (Mod.setCell (F := fun i => i = a.eb) (Mod.refl _ _) ⟨a.eb, 4, none⟩ (.inl rfl) _) ⟨a.eb, 5, none⟩ (.inl rfl) _) ⟨a.eb, 6, none⟩ (.inl rfl) _
  have b1 := heap_setCell_same w a.eb 4 _ _ (.int .u8 k) h.blk
  have b2 := heap_setCell_same _ a.eb 5 _ _ (.int .u32 c) b1
  have b3 := heap_setCell_same _ a.eb 6 _ _ (.int .i64 y) b2
  refine ⟨{ blk := b3, cp := h.cp.keep hm (fun g => h.ec g.symm), sp := h.sp.keep hm (fun i hi g => h.es (g ▸ hi)), ls := h.ls.keep hm (fun g hg => (h.le g hg).1) (fun g hg e => (h.le g hg).2.1 e), ec := h.ec, es := h.es, cs := h.cs, le := fun g hg => ⟨Nat.lt_of_lt_of_le (h.le g hg).1 hm.size, (h.le g hg).2⟩, ok := ⟨h.ok.up, h.ok.may, h.ok.has, h.ok.text⟩ }, ⟨rfl, rfl, rfl, rfl⟩, hm.mono fun i _ g => .inl g, fun i g => .inl g⟩
theorem setText (h : Env w a E) (s : ByteArray) (hs : s.size ≤ 4096) : EStep w (w.setCell ⟨a.eb, 7, none⟩ (.string s)) a E a { E with text := s } := by
  have hm : Mod (fun i => i = a.eb) w (w.setCell ⟨a.eb, 7, none⟩ (.string s)) := Mod.setCell (F := fun i => i = a.eb) (Mod.refl _ _) ⟨a.eb, 7, none⟩ (.inl rfl) _
  have b1 := heap_setCell_same w a.eb 7 _ _ (.string s) h.blk
  refine ⟨{ blk := b1, cp := h.cp.keep hm (fun g => h.ec g.symm), sp := h.sp.keep hm (fun i hi g => h.es (g ▸ hi)), ls := h.ls.keep hm (fun g hg => (h.le g hg).1) (fun g hg e => (h.le g hg).2.1 e), ec := h.ec, es := h.es, cs := h.cs, le := fun g hg => ⟨Nat.lt_of_lt_of_le (h.le g hg).1 hm.size, (h.le g hg).2⟩, ok := ⟨h.ok.up, h.ok.may, h.ok.has, hs⟩ }, ⟨rfl, rfl, rfl, rfl⟩, hm.mono fun i _ g => .inl g, fun i g => .inl g⟩
/-- A step of the cpu. -/
theorem cpu {r : List Int} {pc : Int} {A : List Pg} (h : Env w a E) (hc : Cpu 233 w' a.cb r pc) (hs : Spc w' a.sb a.mb A) (hk : Cp.blks A = Cp.blks E.A) (ha : A.map Pg.addr = E.A.map Pg.addr) (hm : Mod (fun k => k = a.cb ∨ Sp.pgBlk E.A k) w w') : EStep w w' a E a { E with A := A, r := r, pc := pc } := by
  have hf : ∀ {i}, Spc.foot a.sb a.mb A i ↔ Spc.foot a.sb a.mb E.A i := Cp.foot_iff hk
  have hsome : ∀ x, (atAddr A x).isSome = (atAddr E.A x).isSome := fun x => by
    have e : ∀ B : List Pg, (atAddr B x).isSome = true ↔ x ∈ B.map Pg.addr := fun B => by
      rw [List.mem_map]
      constructor
      · intro g
        obtain ⟨p, hp⟩ := Option.isSome_iff_exists.1 g
        exact ⟨p, (atAddr_mem hp).1, (atAddr_mem hp).2⟩
      · rintro ⟨p, hp, rfl⟩
        cases hq : atAddr B p.addr with
        | some _ => rfl
        | none => exact absurd rfl (atAddr_none hq p hp)
    rw [Bool.eq_iff_iff, e, e, ha]
  refine ⟨{ blk := (hm.block _ (lt_of_block h.blk) ?_).trans h.blk, cp := hc, sp := hs, ls := h.ls.keep hm (fun g hg => (h.le g hg).1) ?_, ec := h.ec, es := fun g => h.es (hf.1 g), cs := fun g => h.cs (hf.1 g), le := fun g hg => ⟨Nat.lt_of_lt_of_le (h.le g hg).1 hm.size, (h.le g hg).2.1, (h.le g hg).2.2.1, fun q => (h.le g hg).2.2.2 (hf.1 q)⟩, ok := ⟨h.ok.up, h.ok.may, fun x hx => (hsome x).trans (h.ok.has x hx), h.ok.text⟩ }, ⟨rfl, rfl, rfl, rfl⟩, hm.mono fun i _ g => ?_, fun i g => .inl ?_⟩
  · rintro (g | g)
    · exact h.ec g
    · exact h.es (.inr (.inr g))
  · rintro g hg (q | q)
    · exact (h.le g hg).2.2.1 q
    · exact (h.le g hg).2.2.2 (.inr (.inr q))
  · exact g.elim (fun q => .inr (.inl q)) fun q => .inr (.inr (.inl (.inr (.inr q))))
  · rcases g with q | q | q | q
    · exact .inl q
    · exact .inr (.inl q)
    · exact .inr (.inr (.inl (hf.1 q)))
    · exact .inr (.inr (.inr q))
/-- Other registers. -/
theorem regs {r : List Int} (h : Env w a E) (hc : Cpu 233 w' a.cb r E.pc) (hm : Mod (fun k => k = a.cb) w w') : EStep w w' a E a { E with r := r } :=
  cpu (A := E.A) (pc := E.pc) h hc (h.sp.keep hm fun k hk g => h.cs (g ▸ hk)) rfl rfl (hm.mono fun _ _ g => .inl g)
/-- Another space. -/
theorem space {A : List Pg} (h : Env w a E) (s : SStep w w' a.sb a.mb E.A A) (hs : ∀ x, x ∈ E.own → (atAddr A x).isSome = true) : EStep w w' a E a { E with A := A } := by
  have hn : ∀ k, k < w.heap.size → ¬ Spc.foot a.sb a.mb E.A k → ¬ Spc.foot a.sb a.mb A k := fun k hk g q => (s.foot k q).elim g fun z => by omega
  refine ⟨{ blk := (s.mod.block _ (lt_of_block h.blk) h.es).trans h.blk, cp := h.cp.keep s.mod h.cs, sp := s.sp, ls := h.ls.keep s.mod (fun g hg => (h.le g hg).1) (fun g hg => (h.le g hg).2.2.2), ec := h.ec, es := hn _ (lt_of_block h.blk) h.es, cs := hn _ h.cp.lt h.cs, le := fun g hg => ⟨Nat.lt_of_lt_of_le (h.le g hg).1 s.mod.size, (h.le g hg).2.1, (h.le g hg).2.2.1, hn _ (h.le g hg).1 (h.le g hg).2.2.2⟩, ok := ⟨h.ok.up, h.ok.may, hs, h.ok.text⟩ }, ⟨rfl, rfl, rfl, rfl⟩, s.mod.mono fun i _ g => .inr (.inr (.inl g)), fun i g => ?_⟩
  rcases g with q | q | q | q
  · exact .inl (.inl q)
  · exact .inl (.inr (.inl q))
  · exact (s.foot i q).imp (fun z => .inr (.inr (.inl z))) id
  · exact .inl (.inr (.inr (.inr q)))
/-- Another list. -/
theorem list {v : Value} {own : List Int} (h : Env w a E) (hl : Sl.Lst w' v own) (hm : Mod (fun b => a.lv.ownBlock = some b) w w') (hv : ∀ b, v.ownBlock = some b → b < w'.heap.size ∧ (a.lv.ownBlock = some b ∨ w.heap.size ≤ b)) (hok : ({ E with own := own } : En).Ok) :
    EStep w (w'.setCell ⟨a.eb, 1, none⟩ v) a E { a with lv := v } { E with own := own } := by
  have hz := hm.size
  have he : w'.heap[a.eb]? = some (.cells (a.cells E) 150 (0, 0)) := (hm.block _ (lt_of_block h.blk) fun g => (h.le _ g).2.1 rfl).trans h.blk
  have b1 := heap_setCell_same w' a.eb 1 _ _ v he
  have hm2 : Mod (fun i => i = a.eb ∨ a.lv.ownBlock = some i) w (w'.setCell ⟨a.eb, 1, none⟩ v) := (hm.mono fun _ _ g => .inr g).setCell ⟨a.eb, 1, none⟩ (.inl (.inl rfl)) _
  have hs2 : (w'.setCell ⟨a.eb, 1, none⟩ v).heap.size = w'.heap.size := by simp [World.setCell]
  have hnew : ∀ {g}, v.ownBlock = some g → g ≠ a.eb ∧ g ≠ a.cb ∧ ¬ Spc.foot a.sb a.mb E.A g := fun hg => by
    rcases (hv _ hg).2 with q | q
    · exact (h.le _ q).2
    · refine ⟨fun e => ?_, fun e => ?_, fun e => ?_⟩
      · have := lt_of_block h.blk; omega
      · have := h.cp.lt; omega
      · have := h.sp.lt e; omega
  refine ⟨{ blk := b1, cp := h.cp.keep hm2 ?_, sp := h.sp.keep hm2 ?_, ls := hl.frame fun g hg => Below.heap_setCell _ _ _ _ (hnew hg).1, ec := h.ec, es := h.es, cs := h.cs, le := fun g hg => ⟨by rw [hs2]; exact (hv g hg).1, hnew hg⟩, ok := hok }, ⟨rfl, rfl, rfl, rfl⟩, hm2.mono fun i _ g => g.elim .inl fun q => .inr (.inr (.inr q)), fun i g => ?_⟩
  · rintro (g | g)
    · exact h.ec g.symm
    · exact (h.le _ g).2.2.1 rfl
  · rintro k hk (g | g)
    · exact h.es (g ▸ hk)
    · exact (h.le _ g).2.2.2 hk
  · rcases g with q | q | q | q
    · exact .inl (.inl q)
    · exact .inl (.inr (.inl q))
    · exact .inl (.inr (.inr (.inl q)))
    · exact (hv i q).2.imp (fun z => .inr (.inr (.inr z))) id
end EStep
end Go.Proofs.YtkbhokmnbpnlbaaGreat
