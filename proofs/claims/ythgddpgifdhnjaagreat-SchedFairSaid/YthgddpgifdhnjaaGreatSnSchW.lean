/- SchW, SchX, SchY, EnvN in one text. -/
import Derived.Test.YthgddpgifdhnjaaGreatSnMade06
import Derived.Deep.RegionWith
import Derived.Deep.QuietTactic
import Derived.BigQuiet
import Derived.Test.YthgddpgifdhnjaaGreatSnEnv
import Derived.Test.YthgddpgifdhnjaaGreatSnPag
namespace Go.Proofs.YthgddpgifdhnjaaGreat
open Go.RowKit
set_option linter.unusedVariables false
set_option linter.unusedSimpArgs false
structure Ent where
  eb : Nat
  n : Nat
  wt : Nat
  pass : Int
  used : Int
def Ent.cells (x : Ent) : Array Value := #[.int .i64 x.n, .int .i64 x.wt, .int .u64 x.pass, .int .u64 x.used]
def Ent.ptr (x : Ent) : Value := .pointer (some ⟨x.eb, 0, none⟩)
structure Sh (w : World) (sb xb sl : Nat) (now : Int) (lv : Value) (L : List Ent) : Prop where
  blk : w.heap[sb]? = some (.cells #[.pointer (some ⟨xb, 0, none⟩), .int .i64 sl, .int .u64 now, lv] 151 (0, 0))
  row : w.ownsRow 0 145 1 lv L.length (L.map Ent.ptr)
  ent : ∀ x, x ∈ L → w.heap[x.eb]? = some (.cells x.cells 148 (0, 0))
namespace Sh
variable {w w' : World} {sb xb sl : Nat} {now : Int} {lv : Value} {L : List Ent}
def foot (sb : Nat) (lv : Value) (L : List Ent) (k : Nat) : Prop := k = sb ∨ lv.ownBlock = some k ∨ ∃ x, x ∈ L ∧ k = x.eb
theorem lt (h : Sh w sb xb sl now lv L) {k : Nat} (hk : foot sb lv L k) : k < w.heap.size := by
  rcases hk with rfl | hk | ⟨x, hx, rfl⟩
  · exact lt_of_block h.blk
  · exact (World.ownsRow.lt h.row k hk).2
  · exact lt_of_block (h.ent x hx)
theorem mod {F : Nat → Prop} (h : Sh w sb xb sl now lv L) (hm : Mod F w w') (hF : ∀ k, foot sb lv L k → ¬ F k) : Sh w' sb xb sl now lv L := by
  refine ⟨(hm.block _ (lt_of_block h.blk) (hF _ (.inl rfl))).trans h.blk, ?_, fun x hx => (hm.block _ (lt_of_block (h.ent x hx)) (hF _ (.inr (.inr ⟨x, hx, rfl⟩)))).trans (h.ent x hx)⟩
  obtain ⟨h1, h2⟩ := h.row
  refine ⟨h1, ?_⟩
  rcases h2 with h2 | ⟨g, cap, cur, rfl, hb, hg, r⟩
  · exact .inl h2
  · exact .inr ⟨g, cap, cur, rfl, hb, (hm.block g (lt_of_block hg) (hF g (.inr (.inl rfl)))).trans hg, r⟩
theorem below (h : Sh w sb xb sl now lv L) (hb : Below w.heap.size w w') : Sh w' sb xb sl now lv L := h.mod (Mod.of_below hb fun _ => False) fun _ _ => id
theorem cells (h : Sh w sb xb sl now lv L) : w.cell? ⟨sb, 0, none⟩ = some (.pointer (some ⟨xb, 0, none⟩)) ∧ w.cell? ⟨sb, 1, none⟩ = some (.int .i64 sl) ∧ w.cell? ⟨sb, 2, none⟩ = some (.int .u64 now) ∧ w.cell? ⟨sb, 3, none⟩ = some lv ∧ ∀ j, w.frozen? ⟨sb, j, none⟩ = false := by
  refine ⟨?_, ?_, ?_, ?_, fun j => ?_⟩
  · unfold World.cell?; rw [h.blk]; rfl
  · unfold World.cell?; rw [h.blk]; rfl
  · unfold World.cell?; rw [h.blk]; rfl
  · unfold World.cell?; rw [h.blk]; rfl
  · unfold World.frozen?; rw [h.blk]; simp
theorem ecells (h : Sh w sb xb sl now lv L) {x : Ent} (hx : x ∈ L) : w.cell? ⟨x.eb, 0, none⟩ = some (.int .i64 x.n) ∧ w.cell? ⟨x.eb, 1, none⟩ = some (.int .i64 x.wt) ∧ w.cell? ⟨x.eb, 2, none⟩ = some (.int .u64 x.pass) ∧ w.cell? ⟨x.eb, 3, none⟩ = some (.int .u64 x.used) ∧ ∀ j, w.frozen? ⟨x.eb, j, none⟩ = false := by
  have hb := h.ent x hx
  refine ⟨?_, ?_, ?_, ?_, fun j => ?_⟩
  · unfold World.cell?; rw [hb]; rfl
  · unfold World.cell?; rw [hb]; rfl
  · unfold World.cell?; rw [hb]; rfl
  · unfold World.cell?; rw [hb]; rfl
  · unfold World.frozen?; rw [hb]; simp
theorem form (h : Sh w sb xb sl now lv L) : (L = [] ∧ lv = .slice none 0 0) ∨ ∃ g c, lv = .slice (some ⟨g, 0, none⟩) L.length c ∧ g < w.heap.size ∧ ∀ i x, L[i]? = some x → w.cell? ⟨g, i, none⟩ = some x.ptr := by
  rcases h.row.2 with ⟨rfl, e⟩ | ⟨g, cap, cur, rfl, h0, hg, h1, h2, h3, h4⟩
  · exact .inl ⟨List.length_eq_zero_iff.1 e, rfl⟩
  · refine .inr ⟨g, cap, rfl, lt_of_block hg, fun i x hx => ?_⟩
    have hl : i < L.length := (List.getElem?_eq_some_iff.1 hx).1
    unfold World.cell?
    rw [hg]
    show cur[i]? = _
    have := congrArg (·[i]?) h4
    simp only [List.getElem?_map, hx, Option.map_some] at this
    rw [List.getElem?_take_of_lt (by omega)] at this
    simpa using this
def found (L : List Ent) (n : Nat) : Value := .pointer ((L.find? fun x => x.n == n).map fun x => ⟨x.eb, 0, none⟩)
def fnRel (w : World) (L : List Ent) (n : Nat) (vi : Value) (wr : World) : Prop := ∃ i : Nat, i ≤ L.length ∧ vi = .int .i64 i ∧ (∀ (k : Nat) x, k < i → L[k]? = some x → x.n ≠ n) ∧ w = wr
def FindP (w : World) (L : List Ent) (n : Nat) (e : Ending) (w' : World) : Prop := e = .returned (found L n) ∧ w = w'
theorem found_at {L : List Ent} {n i : Nat} {x : Ent} (hx : L[i]? = some x) (hn : x.n = n) (hno : ∀ (k : Nat) y, k < i → L[k]? = some y → y.n ≠ n) : found L n = x.ptr := by
  unfold found
  have : L.find? (fun x => x.n == n) = some x := by
    rw [List.find?_eq_some_iff_getElem]
    obtain ⟨h1, h2⟩ := List.getElem?_eq_some_iff.1 hx
    refine ⟨by rw [beq_iff_eq]; exact hn, i, h1, h2, fun j hj => ?_⟩
    have := hno j _ hj (List.getElem?_eq_getElem (by omega))
    simp [this]
  rw [this]
  rfl
theorem found_no {L : List Ent} {n : Nat} (h : ∀ (k : Nat) x, k < L.length → L[k]? = some x → x.n ≠ n) : found L n = .pointer none := by
  unfold found
  have : L.find? (fun x => x.n == n) = none := by
    rw [List.find?_eq_none]
    intro x hx
    obtain ⟨k, hk⟩ := List.getElem?_of_mem hx
    have := h k x (List.getElem?_eq_some_iff.1 hk).1 hk
    simp [this]
  rw [this]
  rfl
theorem find (h : Sh w sb xb sl now lv L) (n : Nat) (hl : L.length ≤ 100) : Calls Tryz.prog 71 #[.pointer (some ⟨sb, 0, none⟩), .int .i64 n] w (FindP w L n) := by
  have HYes := Lib.hid fun (x : Ent) (hx : found L n = x.ptr) => (show FindP w L n (.returned (.pointer (some ⟨x.eb, 0, none⟩))) w from ⟨by rw [hx]; rfl, rfl⟩)
  have HNo := Lib.hid fun (hx : found L n = .pointer none) => (show FindP w L n (.returned (.pointer none)) w from ⟨by rw [hx], rfl⟩)
  have HR0 : Hid (fnRel w L n (.int .i64 0) w) := Lib.hid ⟨0, by omega, rfl, fun k x hk => absurd hk (by omega), rfl⟩
  generalize FindP w L n = PQ at *
  obtain ⟨c0, c1, c2, c3, cf⟩ := h.cells
  have H := Lib.hid h
  rcases h.form with ⟨rfl, rfl⟩ | ⟨g, c, rfl, hg, hrow⟩
  · have HN := Lib.hid (found_no (L := []) (n := n) fun k x hk => absurd hk (by simp))
    clear h
    go_enter Tryz.func71, Tryz.ntmps71
    go_wp2
    go_loopw [14] (fun vi wr => fnRel w [] n vi wr) (fun vi _ => 0)
    case atStart => exact HR0.out
    case round =>
      obtain ⟨i, hi, rfl, hno, rfl⟩ := hrel
      obtain rfl : i = 0 := by simpa using hi
      go_wp2
      exact HNo.out HN.out
  · have HRow := Lib.hid hrow
    clear h hrow
    go_enter Tryz.func71, Tryz.ntmps71
    go_wp2
    go_loopw [14, 6] (fun vi _ wr => fnRel w L n vi wr) (fun vi _ _ => L.length - (intOf vi).toNat)
    case atStart => exact HR0.out
    case round =>
      clear HR0
      obtain ⟨i, hi, rfl, hno, rfl⟩ := hrel
      have HNo' := Lib.hid hno
      clear hno
      by_cases hil : i < L.length
      · have HX : Hid (L[i]? = some L[i]) := Lib.hid (List.getElem?_eq_getElem hil)
        have hrw := HRow.out i _ HX.out
        obtain ⟨e0, e1, e2, e3, ef⟩ := H.out.ecells (List.getElem_mem hil)
        generalize L[i] = x at *
        unfold Ent.ptr at hrw
        have hil' : (i : Int) < L.length := by omega
        by_cases hn : x.n = n
        · have HF := Lib.hid (found_at HX.out hn HNo'.out)
          have hq : ((x.n : Int) == n) = true := by rw [hn]; simp
          clear hn
          go_wp2
          exact HYes.out x HF.out
        · have hq : ((x.n : Int) == n) = false := beq_eq_false_iff_ne.2 (by omega)
          have HN := Lib.hid hn
          clear hn
          go_wp2
          refine ⟨⟨i + 1, by omega, by go_num, fun k y hk hy => ?_, rfl⟩, by simp [intOf]; omega⟩
          rcases Nat.lt_or_ge k i with q | q
          · exact HNo'.out k y q hy
          · obtain rfl : k = i := by omega
            rw [HX.out] at hy
            cases hy
            exact HN.out
      · obtain rfl : i = L.length := by omega
        have hil' : ¬ ((L.length : Int) < L.length) := by omega
        have HN := Lib.hid (found_no HNo'.out)
        go_wp2
        exact HNo.out HN.out
end Sh
end Go.Proofs.YthgddpgifdhnjaaGreat
namespace Go.Proofs.YthgddpgifdhnjaaGreat
open Go.RowKit
set_option linter.unusedVariables false
set_option linter.unusedSimpArgs false
namespace Sh
theorem nan (x : Int) (w : World) : Calls Tryz.prog 283 #[.int .u64 x] w fun e w' => e = .returned (.bool false) ∧ w = w' := by
  have hq : (x != x) = false := by simp
  go_enter Tryz.func283, Tryz.ntmps283
  go_wp2
  go_ret
  exact ⟨rfl, rfl⟩
theorem less (x y : Int) (w : World) : Calls Tryz.prog 225 #[.int .u64 x, .int .u64 y] w fun e w' => e = .returned (.bool (decide (x < y))) ∧ w = w' := by
  go_enter Tryz.func225, Tryz.ntmps225
  go_wp2_with fail
  refine (nan x _).mono ?_
  rintro e w1 ⟨rfl, rfl⟩
  go_wp2
  go_ret
  exact ⟨rfl, rfl⟩
theorem cmpLess (x y : Int) (w : World) : Calls Tryz.prog 154 #[.int .u64 x, .int .u64 y] w fun e w' => e = .returned (.bool (decide (x < y))) ∧ w = w' := by
  go_enter Tryz.func154, Tryz.ntmps154
  go_wp2_with fail
  refine (less x y _).mono ?_
  rintro e w1 ⟨rfl, rfl⟩
  go_wp2
  go_ret
  exact ⟨rfl, rfl⟩
theorem info_ep : (Tryz.prog.info? 145).map (fun i => (i.zero, i.size, i.bytes)) = some (some (.pointer none), 1, 8) := by kernel_rfl
def Row (w : World) (base : Nat) (v : Value) (L : List Ent) : Prop := w.ownsRow base 145 1 v L.length (L.map Ent.ptr)
theorem wpList_app_ent {w : World} {ops : Array Oper} {rest : List Oper} {o : Oper} {a : Act} {Q : Exit → Act → World → Prop} (hgd : o.guard = none) (s x : Operand)
    (ho : o.op = .call { callee := .builtin .append, args := #[s, x], argTypes := #[149, 149] }) (base : Nat) (v : Value) (L : List Ent) (hs : a.eval s = v) (h : Row w base v L) (b : Nat) (y : Ent)
    (hx : a.eval x = .slice (some ⟨b, 0, none⟩) 1 1) (hb : w.heap[b]? = some (.cells #[y.ptr] 145 (0, 0))) (hl : L.length ≤ 1000000) (hbase : base ≤ w.heap.size)
    (H : ∀ v' w', Row w' base v' (L ++ [y]) → w.grownBy w' v.ownBlock → (v'.ownBlock = v.ownBlock ∨ v'.ownBlock = some w.heap.size) → wpList Tryz.prog ops Q rest (a.put o.dst v') w') : wpList Tryz.prog ops Q (o :: rest) a w := by
  obtain ⟨i0, hi, hz0, hz1, hz2⟩ := info_parts info_ep
  refine wpList_append_lies w hgd s x _ ho base 145 i0 (.pointer none) 1 8 Tryz.underlying149 hi hz0 hz1 hz2 rfl (by omega) v L.length (L.map Ent.ptr) hs h ⟨b, 0, none⟩ 1 1 [y.ptr] hx rfl (World.news_of_block hb) (fun x hx => by simp at hx; subst hx; rfl) (by omega) (by unfold maxLen; omega) (by omega) hbase _ rfl fun g cap w' h2 h3 h4 h5 => H _ _ ?_ h3 (h4.elim (fun e => .inl e.symm) fun e => .inr (by rw [e]; rfl))
  unfold Row
  rw [List.length_append, List.map_append]
  exact h2
theorem Row.below {w w' : World} {base : Nat} {v : Value} {L : List Ent} (h : Row w base v L) (hb : Below w.heap.size w w') : Row w' base v L := by
  obtain ⟨h1, h2⟩ := h
  refine ⟨h1, ?_⟩
  rcases h2 with h2 | ⟨g, cap, cur, rfl, h0, hg, r⟩
  · exact .inl h2
  · exact .inr ⟨g, cap, cur, rfl, h0, (hb.block g (lt_of_block hg)).trans hg, r⟩
variable {w w' : World} {sb xb sl : Nat} {now : Int} {lv : Value} {L : List Ent}
def onRel (w : World) (L : List Ent) (vo vi : Value) (wr : World) : Prop := ∃ i : Nat, i ≤ L.length ∧ vi = .int .i64 i ∧ Row wr w.heap.size vo (L.take i) ∧ Below w.heap.size w wr
def OnlyP (w : World) (L : List Ent) (e : Ending) (w' : World) : Prop := ∃ v, e = .returned v ∧ Row w' w.heap.size v L ∧ Below w.heap.size w w'
set_option maxHeartbeats 1000000 in
set_option maxRecDepth 100000 in
theorem only {cb : Nat} {cs : Nat} (hl : L.length ≤ 100) (h0 : 0 < L.length) {g : Nat} (hg : g < w.heap.size) (hrow : ∀ i x, L[i]? = some x → w.cell? ⟨g, i, none⟩ = some x.ptr) (hc : ∀ x, x ∈ L → ∀ V, Below w.heap.size w V → Calls Tryz.prog 153 #[x.ptr, .pointer (some ⟨cb, 0, none⟩)] V fun e w' => e = .returned (.bool true) ∧ Below V.heap.size V w') :
    Calls Tryz.prog 152 #[.slice (some ⟨g, 0, none⟩) L.length cs, .func (.func 153) #[] #[.pointer (some ⟨cb, 0, none⟩)]] w (OnlyP w L) := by
  have HFin := Lib.hid fun V v (h1 : Row V w.heap.size v L) (h2 : Below w.heap.size w V) => (show OnlyP w L (.returned v) V from ⟨v, rfl, h1, h2⟩)
  have HR0 : Hid (onRel w L (.slice none 0 0) (.int .i64 0) w) := Lib.hid ⟨0, by omega, rfl, World.ownsRow_nil _ _ _ _, Below.refl _ _⟩
  generalize OnlyP w L = PQ at *
  have HRow := Lib.hid hrow
  have HC := Lib.hid hc
  have eg : ∀ args V, (callFunc 153 args).run Tryz.prog V = .ok (.enter 153 args) V := enters_of Tryz.func153 (by kernel_rfl) rfl
  clear hrow hc
  go_enter Tryz.func152, Tryz.ntmps152
  go_wp2
  go_loopw [4, 6, 9] (fun vo _ vi wr => onRel w L vo vi wr) (fun _ _ vi _ => L.length - (intOf vi).toNat)
  case atStart => exact HR0.out
  case round =>
    clear HR0
    obtain ⟨i, hi, rfl, hr, hb⟩ := hrel
    have HR := Lib.hid hr
    have HB := Lib.hid hb
    have hsz := hb.size
    clear hr hb
    by_cases hil : i < L.length
    · have HX : Hid (L[i]? = some L[i]) := Lib.hid (List.getElem?_eq_getElem hil)
      have hrw : wr.cell? ⟨g, i, none⟩ = some (L[i]).ptr := (HB.out.cell (p := ⟨g, i, none⟩) hg).trans (HRow.out i _ HX.out)
      have HCl := Lib.hid (HC.out _ (List.getElem_mem hil) wr HB.out)
      have HT : Hid (L.take (i + 1) = L.take i ++ [L[i]]) := Lib.hid (by rw [List.take_add_one, HX.out]; rfl)
      generalize L[i] = x at *
      unfold Ent.ptr at hrw HCl
      have hil' : (i : Int) < L.length := by omega
      go_wp2_with (first
        | (at_builtin; refine wpList_app_ent (by rfl) _ _ (by rfl) w.heap.size _ _ (by rfl) ((HR.out.below HB2.out).below ((Below.refl _ _).alloc (Nat.le_refl _) _)) _ x (by rfl) (heap_alloc_new w2 _) (by simp; omega) (by simp; omega) ?_; intro v' w3 hr3 hg3 ho3)
        | (go_at_fn 153; refine HCl.out.mono ?_; rintro e w2 ⟨rfl, hb⟩; have HB2 := Lib.hid hb; have hsz2 := hb.size; clear hb))
      refine ⟨⟨i + 1, by omega, by go_num, by rw [HT.out]; exact hr3, ?_⟩, by simp [intOf]; omega⟩
      refine (((HB.out).trans (HB2.out.mono hsz)).alloc (by omega) _).grown hg3 (by simp; omega) fun k e => ?_
      exact (World.ownsRow.lt HR.out k e).1
    · obtain rfl : i = L.length := by omega
      have hil' : ¬ ((L.length : Int) < L.length) := by omega
      rw [List.take_length] at HR
      go_wp2
      exact HFin.out _ _ HR.out HB.out
theorem ready {kb cb : Nat} {S : Nat → Slt} {tv : Value} {a : EAt} {E : En} {x : Ent} (h : Sh w sb xb sl now lv L) (hx : x ∈ L) (he : Ex w xb kb S tv) (hcb : w.cell? ⟨cb, 0, none⟩ = some (.pointer (some ⟨sb, 0, none⟩))) (n1 : 1 ≤ x.n) (n8 : x.n ≤ 8) (hs : (S x.n).is = true) (hv : (S x.n).env = some a.eb) (hen : Env w a E) (hk : E.kind = 2) :
    Calls Tryz.prog 153 #[x.ptr, .pointer (some ⟨cb, 0, none⟩)] w fun e w' => e = .returned (.bool true) ∧ Below w.heap.size w w' := by
  obtain ⟨c0, _, _, _, _⟩ := h.cells
  obtain ⟨e0, _, _, _, _⟩ := h.ecells hx
  have hd := (Below.refl w.heap.size w).drew
  have HSt := Lib.hid ((he.below hd).state x.n n1 n8 hs hv (hen.below hd))
  have HS := Lib.hid (And.intro hcb (And.intro c0 e0))
  have HD := Lib.hid hd
  have HFld := Lib.hid fun W => Ex.kind_field E.code E.why W
  unfold Ex.StateP at HSt
  rw [hk] at HSt
  unfold Ent.ptr
  clear h hx he hcb hs hv hen hk n1 n8 hd
  go_enter Tryz.func153, Tryz.ntmps153
  go_wp2_with fail
  refine B (fun w' => w'.cell? ⟨cb, 0, none⟩ = some (.pointer (some ⟨sb, 0, none⟩)) ∧ w'.cell? ⟨sb, 0, none⟩ = some (.pointer (some ⟨xb, 0, none⟩)) ∧ w'.cell? ⟨x.eb, 0, none⟩ = some (.int .i64 x.n)) HS.out fun w' hw hS => ?_
  refine T 0 hS ?_
  refine T 1 hS ?_
  refine T 2 hS ?_
  refine T 3 hS ?_
  refine T 4 hS ?_
  refine T 5 hS ?_
  refine T 6 hS ?_
  refine T 7 hS ?_
  refine U 8 fun K hK => ?_
  go_simp
  go_at_call 49
  subst hw
  refine HSt.out.mono ?_
  rintro e w1 ⟨rfl, hb⟩
  obtain ⟨k0, k1, k2⟩ := HS.out
  have HB := Lib.hid (below_th HD.out hb)
  refine V hK ⟨keep k0 HB.out, keep k1 HB.out, keep k2 HB.out⟩ ?_
  clear hK K
  have hS' := And.intro (keep k0 HB.out) (And.intro (keep k1 HB.out) (keep k2 HB.out))
  have HF := HFld.out
  refine T 9 hS' ?_
  refine T 10 hS' ?_
  refine T 11 hS' ?_
  refine wpAnyH_done (by kernel_rfl) ?_ _
  go_wp2
  go_ret
  exact ⟨rfl, HB.out⟩
end Sh
end Go.Proofs.YthgddpgifdhnjaaGreat
namespace Go.Proofs.YthgddpgifdhnjaaGreat
open Go.RowKit
set_option linter.unusedVariables false
set_option linter.unusedSimpArgs false
namespace Sh
variable {w w' : World} {sb xb sl : Nat} {now : Int} {lv : Value} {L : List Ent}
theorem new (w : World) (xb sl : Nat) (h0 : 1 ≤ sl) (h1 : sl ≤ 1024) : Calls Tryz.prog 68 #[.pointer (some ⟨xb, 0, none⟩), .int .i64 sl] w fun e w' => e = .returned (.tuple #[.pointer (some ⟨w.heap.size, 0, none⟩), .int .i64 0]) ∧ Sh w' w.heap.size xb sl 0 (.slice none 0 0) [] ∧ Below w.heap.size w w' := by
  have h2 : ¬ (sl : Int) < 1 := by omega
  have h3 : ¬ (sl : Int) > 1024 := by omega
  go_enter Tryz.func68, Tryz.ntmps68
  go_wp2
  go_ret2
  exact ⟨rfl, ⟨heap_alloc_new w _, World.ownsRow_nil _ _ _ _, fun x hx => by simp at hx⟩, (Below.refl _ _).alloc (Nat.le_refl _) _⟩
theorem new_nil (w : World) (n : Int) : Calls Tryz.prog 68 #[.pointer none, .int .i64 n] w fun e w' => e = .returned (.tuple #[.pointer none, .int .i64 1]) ∧ w = w' := by
  go_enter Tryz.func68, Tryz.ntmps68
  go_wp2
  go_ret2
  exact ⟨rfl, rfl⟩
theorem add_arg (w : World) (p : Addr) (n wt : Int) (h : n > 8) : Calls Tryz.prog 15 #[.pointer (some p), .int .i64 n, .int .i64 wt] w fun e w' => e = .returned (.int .i64 2) ∧ w = w' := by
  have h1 : ¬ n < 1 := by omega
  go_enter Tryz.func15, Tryz.ntmps15
  go_wp2
  go_ret
  exact ⟨rfl, rfl⟩
theorem add_have (h : Sh w sb xb sl now lv L) (n : Nat) (n1 : 1 ≤ n) (n8 : n ≤ 8) (wt : Nat) (w1 : 1 ≤ wt) (w16 : wt ≤ 16) (hl : L.length ≤ 100) {x : Ent} (hx : found L n = x.ptr) : Calls Tryz.prog 15 #[.pointer (some ⟨sb, 0, none⟩), .int .i64 n, .int .i64 wt] w fun e w' => e = .returned (.int .i64 9) ∧ w = w' := by
  have HF := Lib.hid (h.find n hl)
  have a1 : ¬ (n : Int) < 1 := by omega
  have a2 : ¬ (n : Int) > 8 := by omega
  have a3 : ¬ (wt : Int) < 1 := by omega
  have a4 : ¬ (wt : Int) > 16 := by omega
  unfold FindP at HF
  rw [hx] at HF
  unfold Ent.ptr at HF
  clear hx h
  go_enter Tryz.func15, Tryz.ntmps15
  go_wp2_with fail
  refine HF.out.mono ?_
  rintro e w2 ⟨rfl, rfl⟩
  go_wp2
  go_ret
  exact ⟨rfl, rfl⟩
def AddP (w : World) (sb xb sl : Nat) (now : Int) (lv : Value) (L : List Ent) (n wt : Nat) (e : Ending) (w' : World) : Prop :=
  ∃ eb lv', e = .returned (.int .i64 0) ∧ Sh w' sb xb sl now lv' (L ++ [⟨eb, n, wt, now, 0⟩]) ∧ Mod (fun k => k = sb ∨ lv.ownBlock = some k) w w' ∧ w.heap.size ≤ eb ∧ (lv'.ownBlock = lv.ownBlock ∨ ∃ k, lv'.ownBlock = some k ∧ w.heap.size ≤ k)
set_option maxRecDepth 100000 in
set_option maxHeartbeats 4000000 in
theorem add (h : Sh w sb xb sl now lv L) (n : Nat) (n1 : 1 ≤ n) (n8 : n ≤ 8) (wt : Nat) (w1 : 1 ≤ wt) (w16 : wt ≤ 16) (hl : L.length ≤ 100) (hx : found L n = .pointer none) (hfs : lv.ownBlock ≠ some sb ∧ ∀ x, x ∈ L → x.eb ≠ sb ∧ lv.ownBlock ≠ some x.eb) :
    Calls Tryz.prog 15 #[.pointer (some ⟨sb, 0, none⟩), .int .i64 n, .int .i64 wt] w (AddP w sb xb sl now lv L n wt) := by
  have HFin := Lib.hid fun V (h : ∃ eb lv', Sh V sb xb sl now lv' (L ++ [⟨eb, n, wt, now, 0⟩]) ∧ Mod (fun k => k = sb ∨ lv.ownBlock = some k) w V ∧ w.heap.size ≤ eb ∧ (lv'.ownBlock = lv.ownBlock ∨ ∃ k, lv'.ownBlock = some k ∧ w.heap.size ≤ k)) => (show AddP w sb xb sl now lv L n wt (.returned (.int .i64 0)) V from by obtain ⟨a, C, h⟩ := h; exact ⟨a, C, rfl, h⟩)
  generalize AddP w sb xb sl now lv L n wt = PQ at *
  have HF := Lib.hid (h.find n hl)
  have a1 : ¬ (n : Int) < 1 := by omega
  have a2 : ¬ (n : Int) > 8 := by omega
  have a3 : ¬ (wt : Int) < 1 := by omega
  have a4 : ¬ (wt : Int) > 16 := by omega
  unfold FindP at HF
  rw [hx] at HF
  have H := Lib.hid h
  have HFs := Lib.hid hfs
  have HL := Lib.hid hl
  obtain ⟨c0, c1, c2, c3, cf⟩ := h.cells
  have HC := Lib.hid (And.intro c2 c3)
  clear hx h hfs hl c0 c1 c2 c3 cf
  go_enter Tryz.func15, Tryz.ntmps15
  go_wp2_with fail
  refine HF.out.mono ?_
  rintro e w2 ⟨rfl, rfl⟩
  go_wp2
  refine LB (fun V => V.cell? ⟨sb, 2, none⟩ = some (.int .u64 now) ∧ V.cell? ⟨sb, 3, none⟩ = some lv) 17 HC.out fun wd hwd hS => ?_
  have HD := Lib.hid (by rw [hwd]; exact (Below.refl w.heap.size w).drew : Below w.heap.size w wd)
  have HZ := Lib.hid (by rw [hwd]; rfl : wd.heap.size = w.heap.size)
  have H1 := Lib.hid (H.out.below HD.out)
  clear hwd
  refine LT 0 hS ?_
  refine LT 1 hS ?_
  refine LT 2 hS ?_
  refine LT 3 hS ?_
  refine LT 4 hS ?_
  refine LT 5 hS ?_
  refine LT 6 hS ?_
  refine LT 7 hS ?_
  refine LT 8 hS ?_
  refine LT 9 hS ?_
  refine LT 10 hS ?_
  refine LT 11 hS ?_
  refine LU 12 fun K hK => ?_
  go_simp
  have hb1 := (Below.refl wd.heap.size wd).alloc (Nat.le_refl _) (.cells #[.int .i64 n, .int .i64 wt, .int .u64 now, .int .u64 0] 148)
  have hk1 := heap_alloc_new wd (.cells #[.int .i64 n, .int .i64 wt, .int .u64 now, .int .u64 0] 148)
  have hz1 : (wd.alloc (.cells #[.int .i64 n, .int .i64 wt, .int .u64 now, .int .u64 0] 148)).heap.size = wd.heap.size + 1 := by simp
  obtain ⟨eb, heb⟩ : ∃ eb, wd.heap.size = eb := ⟨_, rfl⟩
  rw [heb] at hb1 hk1 hz1 ⊢
  generalize wd.alloc (.cells #[.int .i64 n, .int .i64 wt, .int .u64 now, .int .u64 0] 148) = w3 at *
  have hb1' : Below wd.heap.size wd w3 := by rw [heb]; exact hb1
  have hS3 := And.intro (keep hS.1 hb1') (keep hS.2 hb1')
  refine LV hK (fun _ => hS3) ?_; clear hK K
  refine LU 13 fun K hK => ?_
  go_simp
  have hb2 := (Below.refl w3.heap.size w3).alloc (Nat.le_refl _) (.cells #[.pointer (some ⟨eb, 0, none⟩)] 145)
  have hk2 := heap_alloc_new w3 (.cells #[.pointer (some ⟨eb, 0, none⟩)] 145)
  have hz2 : (w3.alloc (.cells #[.pointer (some ⟨eb, 0, none⟩)] 145)).heap.size = w3.heap.size + 1 := by simp
  rw [hz1] at hk2 hz2
  generalize w3.alloc (.cells #[.pointer (some ⟨eb, 0, none⟩)] 145) = w4 at *
  have hS4 := And.intro (keep hS3.1 hb2) (keep hS3.2 hb2)
  have hbd4 : Below wd.heap.size wd w4 := below_th hb1' hb2
  have H4 := Lib.hid (H1.out.below hbd4)
  have HK1 := Lib.hid ((hb2.block _ (by rw [hz1]; omega)).trans hk1)
  have HZ4 := Lib.hid hz2
  have HB4 := Lib.hid (below_th HD.out hbd4)
  have HEb := Lib.hid heb
  refine LV hK (fun _ => hS4) ?_; clear hK K
  clear hb1 hb1' hb2 hk1 hz1 hz2 hS hS3 hbd4 heb
  refine LU 14 fun K hK => ?_
  obtain ⟨i0, hi, hj0, hj1, hj2⟩ := info_parts info_ep
  refine step_append_lies _ (by rfl) _ _ _ (by rfl) 0 145 i0 (.pointer none) 1 8 Tryz.underlying149 hi hj0 hj1 hj2 rfl (by omega) lv L.length (L.map Ent.ptr) (by rfl) H4.out.row ⟨eb + 1, 0, none⟩ 1 1 [.pointer (some ⟨eb, 0, none⟩)] (by rfl) (by rfl) (World.news_of_block (cs := #[.pointer (some ⟨eb, 0, none⟩)]) hk2) (fun x hx => by simp at hx; subst hx; rfl) (by omega) (by have := HL.out; unfold maxLen; omega) (by have := HL.out; omega) (by omega) _ rfl fun g cap w5 hr5 hg5 ho5 hg5' => ?_
  have hl1 := H4.out.lt (k := sb) (.inl rfl)
  have hne : ∀ k, k < w4.heap.size → lv.ownBlock ≠ some k → w5.heap[k]? = w4.heap[k]? := fun k hk hn => hg5.block k hk (fun e => hn e.symm)
  have hsb5 := (hne sb hl1 HFs.out.1).trans H4.out.blk
  have hS5 : w5.cell? ⟨sb, 2, none⟩ = some (.int .u64 now) ∧ w5.cell? ⟨sb, 3, none⟩ = some lv := by
    refine ⟨?_, ?_⟩ <;> (unfold World.cell?; rw [hsb5]; rfl)
  have hf5 : w5.frozen? ⟨sb, 3, none⟩ = false := by unfold World.frozen?; rw [hsb5]; simp
  have hgs : g ≠ sb := fun e => by
    rcases ho5 with q | q
    · exact HFs.out.1 (e ▸ q)
    · omega
  have hen : ∀ x, x ∈ L ++ [(⟨eb, n, wt, now, 0⟩ : Ent)] → x.eb ≠ sb ∧ w5.heap[x.eb]? = some (.cells x.cells 148 (0, 0)) := fun x hx => by
    rcases List.mem_append.1 hx with hx | hx
    · exact ⟨(HFs.out.2 x hx).1, (hne _ (H4.out.lt (.inr (.inr ⟨x, hx, rfl⟩))) (HFs.out.2 x hx).2).trans (H4.out.ent x hx)⟩
    · simp at hx
      subst hx
      have h1 := HEb.out
      have h2 := HZ4.out
      have h3 := (H1.out.lt (k := sb) (.inl rfl))
      refine ⟨by show eb ≠ sb; omega, (hne eb (by omega) fun q => ?_).trans HK1.out⟩
      have := H1.out.lt (k := eb) (.inr (.inl q))
      omega
  have HM5 : Hid (Mod (fun k => k = sb ∨ lv.ownBlock = some k) w w5) := Lib.hid ((Mod.of_below HB4.out _).trans (F := fun k => k = sb ∨ lv.ownBlock = some k) (G := fun k => lv.ownBlock = some k) ⟨hg5.os, hg5.tape, hg5.output, hg5.size, fun k hk hn => hne k hk hn⟩ fun _ _ q => .inl (.inr q))
  have HE5 := Lib.hid hen
  have HR5 := Lib.hid hr5
  have HG5 := Lib.hid hgs
  have HO5 : Hid ((Value.slice (some ⟨g, 0, none⟩) (L.length + 1) cap).ownBlock = lv.ownBlock ∨ ∃ k, (Value.slice (some ⟨g, 0, none⟩) (L.length + 1) cap).ownBlock = some k ∧ w.heap.size ≤ k) := Lib.hid (by
    rcases ho5 with q | q
    · exact .inl (by rw [q]; rfl)
    · exact .inr ⟨g, rfl, by rw [q]; exact HB4.out.size⟩)
  have HSb := Lib.hid hsb5
  clear hi hj0 hj1 hj2 hr5 hg5 ho5 hg5' hl1 hne hsb5 hgs hen hS4 hk2
  refine LV hK (fun _ => hS5) ?_; clear hK K
  refine LU 15 fun K hK => ?_
  go_simp
  refine LV hK (fun _ => hS5) ?_; clear hK K
  refine LU 16 fun K hK => ?_
  go_simp
  refine LV hK (fun _ => hS5) ?_; clear hK K
  refine LU 17 fun K hK => ?_
  have hc5 := hS5.2
  go_simp
  refine LV hK (fun e => absurd rfl e) ?_; clear hK K
  refine E_done (by kernel_rfl) ?_ _
  clear hc5 hf5 hS5
  go_wp2
  have hm6 : Mod (fun k => k = sb) w5 (w5.setCell ⟨sb, 3, none⟩ (.slice (some ⟨g, 0, none⟩) (L.length + 1) cap)) := Mod.setCell (F := fun i => i = sb) (Mod.refl _ _) ⟨sb, 3, none⟩ (.inl rfl) _
  have hend := HFin.out _ ⟨eb, .slice (some ⟨g, 0, none⟩) (L.length + 1) cap, ⟨heap_setCell_same _ _ _ _ _ _ HSb.out, by
    have := HR5.out
    rw [List.length_append, List.map_append]
    obtain ⟨r1, r2⟩ := this
    refine ⟨r1, ?_⟩
    rcases r2 with r2 | ⟨g2, cap2, cur, he, r0, rg, r⟩
    · exact .inl r2
    · cases he
      exact .inr ⟨g, cap, cur, rfl, r0, (hm6.block g (lt_of_block rg) HG5.out).trans rg, r⟩, fun x hx => (hm6.block x.eb (lt_of_block (HE5.out x hx).2) (HE5.out x hx).1).trans (HE5.out x hx).2⟩, HM5.out.trans hm6 fun _ _ q => .inl (.inl q), by have := HEb.out; have := HZ.out; omega, HO5.out⟩
  exact hend
theorem Row.form {base : Nat} {v : Value} (h : Row w base v L) (h0 : 0 < L.length) : ∃ g c, v = .slice (some ⟨g, 0, none⟩) L.length c ∧ L.length ≤ c ∧ g < w.heap.size ∧ ∀ i x, L[i]? = some x → w.cell? ⟨g, i, none⟩ = some x.ptr := by
  rcases h.2 with ⟨rfl, e⟩ | ⟨g, cap, cur, rfl, h0, hg, h1, h2, h3, h4⟩
  · omega
  · refine ⟨g, cap, rfl, by omega, lt_of_block hg, fun i x hx => ?_⟩
    have hl : i < L.length := (List.getElem?_eq_some_iff.1 hx).1
    unfold World.cell?
    rw [hg]
    show cur[i]? = _
    have := congrArg (·[i]?) h4
    simp only [List.getElem?_map, hx, Option.map_some] at this
    rw [List.getElem?_take_of_lt (by omega)] at this
    simpa using this
def nxRel (w : World) (L : List Ent) (p : Nat → Nat) (vb vi : Value) (wr : World) : Prop := ∃ (i : Nat) (x : Ent), i + 1 ≤ L.length ∧ vi = .int .i64 i ∧ L[Sc.pick p i]? = some x ∧ vb = x.ptr ∧ Below w.heap.size w wr
def NextP (w : World) (L : List Ent) (p : Nat → Nat) (e : Ending) (w' : World) : Prop := ∃ x, L[Sc.pick p (L.length - 1)]? = some x ∧ e = .returned x.ptr ∧ Below w.heap.size w w'
set_option maxRecDepth 100000 in
set_option maxHeartbeats 4000000 in
theorem next (h : Sh w sb xb sl now lv L) (hl : L.length ≤ 100) (h0 : 0 < L.length) {p : Nat → Nat} (hp : ∀ (i : Nat) (x : Ent), L[i]? = some x → x.pass = ((p i : Nat) : Int))
    (hr : ∀ x, x ∈ L → ∀ V cb, Below w.heap.size w V → V.cell? ⟨cb, 0, none⟩ = some (.pointer (some ⟨sb, 0, none⟩)) → Calls Tryz.prog 153 #[x.ptr, .pointer (some ⟨cb, 0, none⟩)] V fun e w' => e = .returned (.bool true) ∧ Below V.heap.size V w') :
    Calls Tryz.prog 70 #[.pointer (some ⟨sb, 0, none⟩)] w (NextP w L p) := by
  have HFin := Lib.hid fun V x (h1 : L[Sc.pick p (L.length - 1)]? = some x) (h2 : Below w.heap.size w V) => (show NextP w L p (.returned x.ptr) V from ⟨x, h1, rfl, h2⟩)
  generalize NextP w L p = PQ at *
  have hA := (Below.refl w.heap.size w).alloc (Nat.le_refl _) (.cells #[.pointer (some ⟨sb, 0, none⟩)] 26)
  have hk := heap_alloc_new w (.cells #[.pointer (some ⟨sb, 0, none⟩)] 26)
  have hcb : (w.alloc (.cells #[.pointer (some ⟨sb, 0, none⟩)] 26)).cell? ⟨w.heap.size, 0, none⟩ = some (.pointer (some ⟨sb, 0, none⟩)) := by unfold World.cell?; rw [hk]; rfl
  have h1 := h.below hA
  obtain ⟨g, c, rfl, hg, hrow⟩ := h1.form.resolve_left (fun q => by rw [q.1] at h0; exact absurd h0 (by simp))
  obtain ⟨c0, c1, c2, c3, cf⟩ := h1.cells
  have HO := Lib.hid fun (cs : Nat) => only (cb := w.heap.size) (cs := cs) hl h0 hg hrow fun x hx V hV => hr x hx V w.heap.size (below_th hA hV) (keep hcb hV)
  have H1 := Lib.hid h1
  have HA := Lib.hid hA
  have HL := Lib.hid hl
  have H0 := Lib.hid h0
  have HP := Lib.hid hp
  have HKl := Lib.hid (lt_of_block hk)
  clear h hl hp hr hA hk h1 hg hrow c0 c1 c2 cf
  go_enter Tryz.func70, Tryz.ntmps70
  go_wp2_with fail
  refine (HO.out _).mono ?_
  rintro e w2 ⟨v, rfl, hrw, hb⟩
  obtain ⟨g2, cap, rfl, hcap, hg2, hrow2⟩ := hrw.form h0
  have HB2 := Lib.hid hb
  have HR2 := Lib.hid hrow2
  have hq : ((L.length : Int) == 0) = false := beq_eq_false_iff_ne.2 (by omega)
  obtain ⟨x0, hx0⟩ : ∃ x, L[0]? = some x := ⟨_, List.getElem?_eq_getElem h0⟩
  have hr0 := hrow2 0 x0 hx0
  unfold Ent.ptr at hr0
  have h0i : (0 : Int) < L.length := by omega
  have H2 := Lib.hid (H1.out.below hb)
  have HG2 := Lib.hid hg2
  have HX0 := Lib.hid hx0
  have h0n : 1 ≤ L.length := h0
  clear hrw hb hrow2 c3 hcb hx0 hg2
  by_cases hc1 : cap = 1
  · obtain hl1 : L.length = 1 := by omega
    have HPk : Hid (L[Sc.pick p (L.length - 1)]? = some x0) := Lib.hid (by rw [show L.length - 1 = 0 by omega]; exact HX0.out)
    have HB3 := Lib.hid (below_th HA.out HB2.out)
    have HL1 : Hid (L[Sc.pick p (1 - 1)]? = some x0 → L[Sc.pick p (L.length - 1)]? = some x0) := Lib.hid fun _ => HPk.out
    rw [hl1] at h0i hq ⊢
    subst hc1
    go_wp2
    refine wp_loop_rounds 1 ?_
    rw [rounds_succ]
    go_wp2
    exact HFin.out _ x0 HPk.out HB3.out
  have hc2 : 1 < cap := by omega
  clear hcap hc1
  have HR0 : Hid (nxRel w L p x0.ptr (.int .i64 0) w2) := Lib.hid ⟨0, x0, by omega, rfl, HX0.out, rfl, below_th HA.out HB2.out⟩
  have HB20 : Hid (Below w2.heap.size w2 w2) := Lib.hid (Below.refl _ _)
  go_wp2
  go_loopw [4, 6, 22] (fun vb _ vi wr => nxRel w L p vb vi wr ∧ Below w2.heap.size w2 wr) (fun _ _ vi _ => L.length - (intOf vi).toNat)
  case atStart => exact ⟨HR0.out, HB20.out⟩
  case round =>
    clear HR0 HB20 hr0
    obtain ⟨⟨i, x, hi, rfl, hx, rfl, hbw⟩, hb2⟩ := hrel
    have HX := Lib.hid hx
    have HBw := Lib.hid hbw
    have HB3 := Lib.hid hb2
    unfold Ent.ptr
    obtain ⟨e0, e1, e2, e3, ef⟩ := (H2.out.below hb2).ecells (List.mem_of_getElem? hx)
    by_cases hil : i + 1 < L.length
    · have HY : Hid (L[i + 1]? = some L[i + 1]) := Lib.hid (List.getElem?_eq_getElem hil)
      obtain ⟨f0, f1, f2, f3, ff⟩ := (H2.out.below hb2).ecells (List.getElem_mem hil)
      have hyr := (HB3.out.cell (p := ⟨g2, i + 1, none⟩) HG2.out).trans (HR2.out (i + 1) _ HY.out)
      generalize L[i + 1] = y at *
      unfold Ent.ptr at hyr
      have hil' : (i : Int) < L.length - 1 := by omega
      rw [HP.out _ _ HX.out] at e2
      rw [HP.out _ _ HY.out] at f2
      clear hbw hb2 hx e0 e1 e3 ef f0 f1 f3 ff hil
      by_cases hlt : p (i + 1) < p (Sc.pick p i)
      · have HPk : Hid (L[Sc.pick p (i + 1)]? = some y) := Lib.hid (by unfold Sc.pick; rw [if_pos hlt]; exact HY.out)
        have hlb := HL.out
        have hlt' : ((p (i + 1) : Nat) : Int) < (p (Sc.pick p i) : Nat) := by omega
        clear hlt
        rw [Nat.add_comm] at hyr
        go_wp2
        refine B (fun V => V.cell? ⟨y.eb, 2, none⟩ = some (.int .u64 (p (i + 1))) ∧ V.cell? ⟨x.eb, 2, none⟩ = some (.int .u64 (p (Sc.pick p i)))) ⟨f2, e2⟩ fun wd hwd hS => ?_
        have HW := Lib.hid hwd
        clear hwd e2 f2 hyr
        refine T 0 hS ?_
        refine T 1 hS ?_
        refine T 2 hS ?_
        refine T 3 hS ?_
        refine T 4 hS ?_
        refine T 5 hS ?_
        refine T 6 hS ?_
        refine T 7 hS ?_
        refine U 8 fun K hK => ?_
        go_simp
        go_at_call 154
        refine (cmpLess _ _ _).mono ?_
        rintro e w5 ⟨rfl, rfl⟩
        refine V hK hS ?_; clear hK K
        refine wpAnyH_done (by kernel_rfl) ?_ _
        go_wp2
        exact ⟨⟨⟨i + 1, y, by omega, by go_num, HPk.out, rfl, by rw [HW.out]; exact HBw.out.drew⟩, by rw [HW.out]; exact HB3.out.drew⟩, by simp [intOf]; omega⟩
      · have HPk : Hid (L[Sc.pick p (i + 1)]? = some x) := Lib.hid (by unfold Sc.pick; rw [if_neg hlt]; exact HX.out)
        have hlb := HL.out
        have hlt' : ¬ ((p (i + 1) : Nat) : Int) < (p (Sc.pick p i) : Nat) := by omega
        clear hlt
        rw [Nat.add_comm] at hyr
        go_wp2
        refine B (fun V => V.cell? ⟨y.eb, 2, none⟩ = some (.int .u64 (p (i + 1))) ∧ V.cell? ⟨x.eb, 2, none⟩ = some (.int .u64 (p (Sc.pick p i)))) ⟨f2, e2⟩ fun wd hwd hS => ?_
        have HW := Lib.hid hwd
        clear hwd e2 f2 hyr
        refine T 0 hS ?_
        refine T 1 hS ?_
        refine T 2 hS ?_
        refine T 3 hS ?_
        refine T 4 hS ?_
        refine T 5 hS ?_
        refine T 6 hS ?_
        refine T 7 hS ?_
        refine U 8 fun K hK => ?_
        go_simp
        go_at_call 154
        refine (cmpLess _ _ _).mono ?_
        rintro e w5 ⟨rfl, rfl⟩
        refine V hK hS ?_; clear hK K
        refine wpAnyH_done (by kernel_rfl) ?_ _
        go_wp2
        exact ⟨⟨⟨i + 1, x, by omega, by go_num, HPk.out, rfl, by rw [HW.out]; exact HBw.out.drew⟩, by rw [HW.out]; exact HB3.out.drew⟩, by simp [intOf]; omega⟩
    · have HPk : Hid (L[Sc.pick p (L.length - 1)]? = some x) := Lib.hid (by rw [show L.length - 1 = i by omega]; exact HX.out)
      have hil' : ¬ (i : Int) < L.length - 1 := by omega
      clear hbw hb2 hx e0 e1 e2 e3 ef
      go_wp2
      exact HFin.out _ x HPk.out HBw.out
end Sh
end Go.Proofs.YthgddpgifdhnjaaGreat
namespace Go.Proofs.YthgddpgifdhnjaaGreat
open Go.RowKit Word
set_option linter.unusedVariables false
set_option linter.unusedSimpArgs false
namespace Ev
section
variable {w : World} {a : EAt} {E : En}
theorem reg_bad {cb : Nat} (w : World) (n : Int) (hn : n < 0 ∨ 16 ≤ n) : Calls Tryz.prog 175 #[.pointer (some ⟨cb, 0, none⟩), .int .i64 n] w fun e w' => e = .returned (.tuple #[.int .u32 0, .int .i64 2]) ∧ w = w' := by
  cases g0 : decide (n < 0) with
  | true =>
    go_enter Tryz.func175, Tryz.ntmps175
    go_wp2
    go_ret2
    exact ⟨rfl, rfl⟩
  | false =>
    have g1 : decide ((16 : Int) ≤ n) = true := decide_eq_true (by have := of_decide_eq_false g0; omega)
    go_enter Tryz.func175, Tryz.ntmps175
    go_wp2
    go_ret2
    exact ⟨rfl, rfl⟩
theorem arg (h : Env w a E) (n : Int) (n0 : -9223372036854775808 ≤ n) (n1 : n ≤ 9223372036854775807) : Calls Tryz.prog 88 #[.pointer (some ⟨a.eb, 0, none⟩), .int .i64 n] w fun e w' => e = .returned (.int .u32 (E.arg n)) ∧ w = w' := by
  obtain ⟨_, _, c2, _⟩ := cells h
  have HR : Hid (Calls Tryz.prog 175 #[.pointer (some ⟨a.cb, 0, none⟩), .int .i64 n] w fun e w' => ∃ y, e = .returned (.tuple #[.int .u32 (E.arg n), .int .i64 y]) ∧ w = w') := by
    unfold En.arg
    by_cases g : 0 ≤ n ∧ n < 16
    · rw [if_pos g]
      obtain ⟨m, rfl⟩ := Int.eq_ofNat_of_zero_le g.1
      exact Lib.hid ((Cp.reg_ok h.cp m (by omega)).mono fun e w' ⟨g1, g2⟩ => ⟨0, g1, g2⟩)
    · rw [if_neg g]
      exact Lib.hid ((reg_bad w n (by omega)).mono fun e w' ⟨g1, g2⟩ => ⟨2, g1, g2⟩)
  generalize E.arg n = v at *
  clear h
  go_enter Tryz.func88, Tryz.ntmps88
  go_wp2_with fail
  refine HR.out.mono ?_
  rintro e w2 ⟨y, rfl, rfl⟩
  go_wp2
  go_ret
  exact ⟨rfl, rfl⟩
theorem put (h : Env w a E) (s : ByteArray) (hs : s.size ≤ 140737488355328) : Calls Tryz.prog 115 #[.pointer (some ⟨a.eb, 0, none⟩), .string s] w fun e w' => e = .returned (.int .i64 (E.putE s)) ∧ EStep w w' a E a (E.put s) := by
  have HR := Lib.hid (ready h)
  obtain ⟨_, _, _, _, _, _, _, c7⟩ := cells h
  have ht := h.ok.text
  by_cases hk : E.kind = 2
  · have e : E.redE = 0 := by unfold En.redE; rw [if_neg (by omega)]
    rw [e] at HR
    by_cases hl : 4096 < E.text.size + s.size
    · have e2 : E.putE s = 4 := by unfold En.putE; rw [if_neg (by omega), if_pos hl]
      have e3 : E.put s = E := by unfold En.put; rw [e2, if_pos (by omega)]
      have HS := Lib.hid (EStep.refl h)
      rw [e2, e3]
      have hlb : (4096 : Int) < E.text.size + s.size := by omega
      clear e e2 e3 hk h
      go_enter Tryz.func115, Tryz.ntmps115
      go_wp2_with fail
      refine HR.out.mono ?_
      rintro e w2 ⟨rfl, rfl⟩
      go_wp2
      go_ret
      exact ⟨rfl, HS.out⟩
    · have e2 : E.putE s = 0 := by unfold En.putE; rw [if_neg (by omega), if_neg hl]
      have e3 : E.put s = { E with text := E.text ++ s } := by unfold En.put; rw [e2, if_neg (by omega)]
      have HS := Lib.hid (EStep.setText h (E.text ++ s) (by rw [ByteArray.size_append]; omega))
      have f7 := h.free 7
      rw [e2, e3]
      have hlb : ¬ (4096 : Int) < E.text.size + s.size := by omega
      clear e e2 e3 hk h
      go_enter Tryz.func115, Tryz.ntmps115
      go_wp2_with fail
      refine HR.out.mono ?_
      rintro e w2 ⟨rfl, rfl⟩
      go_wp2
      go_ret
      exact ⟨rfl, HS.out⟩
  · have e : E.redE = 3 := by unfold En.redE; rw [if_pos hk]
    have e2 : E.putE s = 3 := by unfold En.putE; rw [if_pos hk]
    have e3 : E.put s = E := by unfold En.put; rw [e2, if_pos (by omega)]
    have HS := Lib.hid (EStep.refl h)
    rw [e] at HR
    rw [e2, e3]
    clear e e2 e3 hk h
    go_enter Tryz.func115, Tryz.ntmps115
    go_wp2_with fail
    refine HR.out.mono ?_
    rintro e w2 ⟨rfl, rfl⟩
    go_wp2
    go_ret
    exact ⟨rfl, HS.out⟩
end
end Ev
end Go.Proofs.YthgddpgifdhnjaaGreat
namespace Go.Proofs.YthgddpgifdhnjaaGreat
open Go.RowKit Word
set_option linter.unusedVariables false
set_option linter.unusedSimpArgs false
theorem isSome_addr {B : List Pg} {x : Int} : (atAddr B x).isSome = true ↔ x ∈ B.map Pg.addr := by
  rw [List.mem_map]
  constructor
  · intro g
    obtain ⟨p, hp⟩ := Option.isSome_iff_exists.1 g
    exact ⟨p, (atAddr_mem hp).1, (atAddr_mem hp).2⟩
  · rintro ⟨p, hp, rfl⟩
    cases hq : atAddr B p.addr with
    | some _ => rfl
    | none => exact absurd rfl (atAddr_none hq p hp)
theorem En.mayP_iff {x : Int} : En.mayP x = true ↔ x % 256 = 0 ∧ 256 ≤ x ∧ x < 1048576 := by
  unfold En.mayP
  simp [and_assoc]
theorem En.Ok.map {E : En} (h : E.Ok) {x : Int} (blk : Nat) (hm : Sp.mapE E.A x 3 = 0) : ∀ y, y ∈ E.own → (atAddr (Sp.mapA E.A x blk 3) y).isSome = true := fun y hy => by
  have := isSome_addr.1 (h.has y hy)
  rw [List.mem_map] at this
  obtain ⟨p, hp, hpy⟩ := this
  refine isSome_addr.2 (List.mem_map.2 ⟨p, ?_, hpy⟩)
  unfold Sp.mapA
  rw [if_pos hm]
  exact mem_insPg.2 (.inr hp)
theorem En.Ok.page {E : En} (h : E.Ok) {x : Int} (blk : Nat) (hp : En.mayP x = true) (hm : Sp.mapE E.A x 3 = 0) : x ∉ E.own ∧ ({ E with A := Sp.mapA E.A x blk 3, own := En.ins x E.own } : En).Ok := by
  have hx := En.mayP_iff.1 hp
  have hn : x ∉ E.own := fun g => by
    have hs := h.has x g
    unfold Sp.mapE at hm
    by_cases q : Sp.mayB x = false ∨ (7 : Int) < 3
    · rw [if_pos q] at hm; omega
    · rw [if_neg q] at hm
      have : pageAt E.A x = atAddr E.A x := by unfold pageAt; rw [hx.1, Int.sub_zero]
      rw [this, if_pos hs] at hm
      omega
  refine ⟨hn, En.up_ins h.up hn, fun y hy => ?_, fun y hy => ?_, h.text⟩
  · rcases En.mem_ins.1 hy with rfl | g
    · exact hx
    · exact h.may y g
  · rcases En.mem_ins.1 hy with rfl | g
    · refine isSome_addr.2 (List.mem_map.2 ⟨pgNew y blk 3, ?_, rfl⟩)
      unfold Sp.mapA
      rw [if_pos hm]
      exact mem_insPg.2 (.inl rfl)
    · exact h.map blk hm y g
end Go.Proofs.YthgddpgifdhnjaaGreat
namespace Go.Proofs.YthgddpgifdhnjaaGreat
open Go.RowKit Word
set_option linter.unusedVariables false
set_option linter.unusedSimpArgs false
def En.new (num pc : Int) (A : List Pg) : En := ⟨num, 2, 0, 0, ByteArray.empty, [], A, List.replicate 16 0, pc⟩
def NewPost (w : World) (A : List Pg) (num pc : Int) (e : Ending) (w' : World) : Prop :=
  ∃ a C, e = .returned (.tuple #[.pointer (some ⟨a.eb, 0, none⟩), .int .i64 0]) ∧ Env w' a (En.new num pc C) ∧ cores C = cores A ∧ (∀ k, a.foot C k → w.heap.size ≤ k) ∧ Below w.heap.size w w'
namespace Ev
section
variable {w : World} {sb mb : Nat} {A : List Pg}
set_option maxRecDepth 100000 in
set_option maxHeartbeats 4000000 in
theorem new (h : Spc w sb mb A) (num pc : Int) (n0 : 1 ≤ num) (n1 : num ≤ 8) (p0 : 0 ≤ pc) (p1 : pc ≤ 4294967295) : Calls Tryz.prog 93 #[.int .i64 num, .pointer (some ⟨sb, 0, none⟩), .int .u32 pc] w (NewPost w A num pc) := by
  have HC := Lib.hid (Sp.copy h)
  have g1 : ¬ num < 1 := by omega
  have g2 : ¬ 8 < num := by omega
  have HFin : Hid (∀ so mo C w2 w3, Spc w2 so mo C → cores C = cores A → (∀ k, Spc.foot so mo C k → w.heap.size ≤ k) → Below w.heap.size w w2 → Cpu 314 w3 w2.heap.size (List.replicate 16 0) pc → Below w2.heap.size w2 w3 →
      NewPost w A num pc (.returned (.tuple #[.pointer (some ⟨w3.heap.size, 0, none⟩), .int .i64 0])) (w3.alloc (.cells #[.pointer (some ⟨so, 0, none⟩), .slice none 0 0, .pointer (some ⟨w2.heap.size, 0, none⟩), .int .i64 num, .int .u8 2, .int .u32 0, .int .i64 0, .string ByteArray.empty] 310))) := Lib.hid fun so mo C w2 w3 hs hc hf hb hp hb3 => by
    have hz := hb.size
    have hz3 := hb3.size
    have hpl := hp.lt
    have hba : Below w3.heap.size w3 (w3.alloc (.cells #[.pointer (some ⟨so, 0, none⟩), .slice none 0 0, .pointer (some ⟨w2.heap.size, 0, none⟩), .int .i64 num, .int .u8 2, .int .u32 0, .int .i64 0, .string ByteArray.empty] 310)) := (Below.refl _ _).alloc (Nat.le_refl _) _
    refine ⟨⟨w3.heap.size, so, mo, w2.heap.size, .slice none 0 0⟩, C, rfl, ?_, hc, fun k hk => ?_, ?_⟩
    · exact { blk := heap_alloc_new w3 _, cp := hp.below hba, sp := (hs.below hb3 fun k hk => hs.lt hk).below hba fun k hk => Nat.lt_of_lt_of_le (hs.lt hk) hz3, ls := Sl.Lst.nil _, ec := by show w3.heap.size ≠ w2.heap.size; omega, es := fun g => absurd (hs.lt g) (Nat.not_lt.2 hz3), cs := fun g => Nat.lt_irrefl _ (hs.lt g), le := fun g hg => (nomatch hg), ok := ⟨List.Pairwise.nil, fun x hx => (nomatch hx), fun x hx => (nomatch hx), Nat.zero_le _⟩ }
    · rcases hk with g | g | g | g
      · rw [g]; show w.heap.size ≤ w3.heap.size; omega
      · rw [g]; exact hz
      · exact hf k g
      · cases g
    · exact (hb.trans (hb3.mono hz)).alloc (Nat.le_trans hz hz3) _
  generalize NewPost w A num pc = PQ at *
  clear h
  go_enter Tryz.func93, Tryz.ntmps93
  go_wp2_with fail
  refine HC.out.mono ?_
  rintro e w2 ⟨so, mo, C, rfl, hs, hc, hf, hb⟩
  have HS := Lib.hid (⟨hs, hc, hf, hb⟩ : Spc w2 so mo C ∧ cores C = cores A ∧ (∀ k, Spc.foot so mo C k → w.heap.size ≤ k) ∧ Below w.heap.size w w2)
  clear hs hc hf hb
  go_wp2_with fail
  refine (Cp.new pc p0 p1 w2).mono ?_
  rintro e w3 ⟨rfl, hp, hb3⟩
  have HP := Lib.hid (⟨hp, hb3⟩ : _ ∧ _)
  clear hp hb3
  go_wp2
  exact HFin.out so mo C w2 w3 HS.out.1 HS.out.2.1 HS.out.2.2.1 HS.out.2.2.2 HP.out.1 HP.out.2
end
end Ev
end Go.Proofs.YthgddpgifdhnjaaGreat
