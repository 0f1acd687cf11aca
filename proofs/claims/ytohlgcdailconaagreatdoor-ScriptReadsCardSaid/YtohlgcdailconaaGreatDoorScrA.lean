/- script's act: an act's line. -/
import Derived.Test.YtohlgcdailconaaGreatDoorScrT
import Derived.Test.YtohlgcdailconaaGreatDoorSlv
import Derived.Deep.DeepCutAuto
import Derived.OwnWalk
import Derived.Lib.ItoaLen
namespace Go.Proofs.YtohlgcdailconaaGreatDoor.Scr
open Go.RowKit Lib
set_option linter.unusedVariables false
set_option linter.unusedSimpArgs false
def fmC (f : Fm) : List Value := [str f.word, .int .i64 f.n, .bool f.text]
def formsC : Array Value := (forms.flatMap fmC).toArray
theorem formsC_lit : formsC = #[.string ⟨#[]⟩, .int .i64 0, .bool false, .string ⟨#[108, 111, 97, 100]⟩, .int .i64 1, .bool false, .string ⟨#[114, 117, 110]⟩, .int .i64 2, .bool false, .string ⟨#[116, 105, 99, 107]⟩, .int .i64 0, .bool false, .string ⟨#[97, 114, 114, 105, 118, 101]⟩, .int .i64 0, .bool true, .string ⟨#[115, 119, 97, 112]⟩, .int .i64 1, .bool false, .string ⟨#[108, 111, 115, 101]⟩, .int .i64 1, .bool false, .string ⟨#[114, 101, 108, 101, 97, 115, 101]⟩, .int .i64 1, .bool false] := by kernel_rfl
def FormsP (w : World) (e : Ending) (w' : World) : Prop := e = .returned (.slice (some ⟨w.heap.size, 0, none⟩) 8 8) ∧ w' = w.alloc (.cells formsC 83)
theorem forms_lay (w : World) : Calls Tryz.prog 39 #[] w (FormsP w) := by
  have HFin : Hid (FormsP w (.returned (.slice (some ⟨w.heap.size, 0, none⟩) 8 8)) (w.alloc (.cells formsC 83))) := Lib.hid ⟨rfl, rfl⟩
  generalize FormsP w = PQ at *
  go_enter Tryz.func39, Tryz.ntmps39
  go_wp2
  exact HFin.out
theorem acC_eq (a : Ac) : (acC a).toArray = #[.int .u8 a.d, .int .i64 a.n, .int .i64 a.m, .string ⟨a.t.toArray⟩] := rfl
def lineO (a : Ac) : Option Tx := if mayA a then some (lineA a) else none
theorem form_at (d : Int) (h0 : 0 < d) (h1 : d < 8) : forms[d.toNat]? = some (form d) ∧ (form d).n ≤ 2 ∧ ((form d).text = true → (form d).n = 0) ∧ (form d).word.length ≤ 10 := by
  have : d = 1 ∨ d = 2 ∨ d = 3 ∨ d = 4 ∨ d = 5 ∨ d = 6 ∨ d = 7 := by omega
  rcases this with rfl | rfl | rfl | rfl | rfl | rfl | rfl <;> exact ⟨rfl, by decide, by decide, by decide⟩
theorem form_cells (d : Int) (h0 : 0 < d) (h1 : d < 8) (w : World) (i : Nat) (hi : i < 3) : (w.alloc (.cells formsC 83)).cell? ⟨w.heap.size, d.toNat * 3 + i, none⟩ = (fmC (form d))[i]? := by
  have : d = 1 ∨ d = 2 ∨ d = 3 ∨ d = 4 ∨ d = 5 ∨ d = 6 ∨ d = 7 := by omega
  rw [World.cell?_alloc_mark]
  have hi : i = 0 ∨ i = 1 ∨ i = 2 := by omega
  rcases this with rfl | rfl | rfl | rfl | rfl | rfl | rfl <;> rcases hi with rfl | rfl | rfl <;> rfl
/-- A list of texts that the call has made itself. -/
def StrO (w : World) (base : Nat) (v : Value) (l : List Tx) : Prop := w.ownsRow base 9 1 v l.length (l.map str)
theorem info_str : (Tryz.prog.info? 9).map (fun i => (i.zero, i.size, i.bytes)) = some (some (.string ByteArray.empty), 1, 16) := by kernel_rfl
theorem StrO.one {w : World} {base b : Nat} {t : Tx} (h : w.heap[b]? = some (.cells #[str t] 9 (0, 0))) (hb : base ≤ b) : StrO w base (.slice (some ⟨b, 0, none⟩) 1 1) [t] :=
  ⟨rfl, .inr ⟨b, 1, _, rfl, hb, h, Nat.le_refl _, by unfold maxLen; decide, rfl, rfl⟩⟩
theorem StrO.below {w w' : World} {base : Nat} {v : Value} {l : List Tx} (h : StrO w base v l) (hb : Below w.heap.size w w') : StrO w' base v l :=
  World.ownsRow.kept (row := none) h ⟨hb.os, hb.tape, hb.output, hb.size, fun k hk _ => hb.block k hk⟩ (by
    rcases h.2 with ⟨rfl, _⟩ | ⟨g, cap, cur, rfl, _⟩
    · exact .inl rfl
    · exact .inr (by simp [Value.ownBlock]))
theorem StrO.cell {w : World} {base g o n c : Nat} {l : List Tx} (h : StrO w base (.slice (some ⟨g, o, none⟩) n c) l) (j : Nat) (t : Tx) (hj : l[j]? = some t) : w.cell? ⟨g, o + j, none⟩ = some (str t) := by
  rcases h.2 with ⟨e, _⟩ | ⟨g', cap, cur, hv, _, hg, h1, h2, h3, h4⟩
  · cases e
  · simp only [Value.slice.injEq, Option.some.injEq, Addr.mk.injEq, and_true] at hv
    obtain ⟨⟨rfl, rfl⟩, rfl, rfl⟩ := hv
    have hl : j < l.length := (List.getElem?_eq_some_iff.1 hj).1
    unfold World.cell?
    rw [hg]
    show cur[0 + j]? = _
    have := congrArg (·[j]?) h4
    simp only [List.getElem?_map, hj, Option.map_some] at this
    rw [List.getElem?_take_of_lt (by omega)] at this
    simpa using this
theorem StrO.form {w : World} {base : Nat} {v : Value} {l : List Tx} (h : StrO w base v l) (hl : l ≠ []) : ∃ g c, v = .slice (some ⟨g, 0, none⟩) l.length c ∧ l.length ≤ c ∧ base ≤ g ∧ g < w.heap.size := by
  rcases h.2 with ⟨rfl, e⟩ | ⟨g', cap, cur, hv, h0, hg, h1, h2, h3, h4⟩
  · exact absurd (List.length_eq_zero_iff.1 e) hl
  · exact ⟨g', cap, hv, h1, h0, lt_of_block hg⟩
theorem wpList_app_str {w : World} {ops : Array Oper} {rest : List Oper} {o : Oper} {a : Act} {Q : Exit → Act → World → Prop} (hgd : o.guard = none) (s x : Operand)
    (ho : o.op = .call { callee := .builtin .append, args := #[s, x], argTypes := #[26, 26] }) (base : Nat) (v : Value) (l : List Tx) (hs : a.eval s = v) (h : StrO w base v l) (b : Nat) (t : Tx)
    (hx : a.eval x = .slice (some ⟨b, 0, none⟩) 1 1) (hb : w.heap[b]? = some (.cells #[str t] 9 (0, 0))) (hl : l.length ≤ 1000000) (hbase : base ≤ w.heap.size)
    (H : ∀ v' w', StrO w' base v' (l ++ [t]) → w.grownBy w' v.ownBlock → (v'.ownBlock = v.ownBlock ∨ v'.ownBlock = some w.heap.size) → wpList Tryz.prog ops Q rest (a.put o.dst v') w') : wpList Tryz.prog ops Q (o :: rest) a w := by
  obtain ⟨i0, hi, hz0, hz1, hz2⟩ := info_parts info_str
  refine wpList_append_lies w hgd s x _ ho base 9 i0 (.string ByteArray.empty) 1 16 Tryz.underlying26 hi hz0 hz1 hz2 rfl (by omega) v l.length (l.map str) hs h ⟨b, 0, none⟩ 1 1 [str t] hx rfl (World.news_of_block hb) (fun x hx => by simp at hx; subst hx; rfl) (by omega) (by unfold maxLen; omega) (by omega) hbase _ rfl fun g cap w' h2 h3 h4 h5 => H _ _ ?_ h3 (h4.elim (fun e => .inl e.symm) fun e => .inr (by rw [e]; rfl))
  unfold StrO
  rw [List.length_append, List.map_append]
  exact h2
theorem lens_le (l : List Tx) (M : Nat) (h : ∀ t, t ∈ l → t.length ≤ M) : Lib.lens l ≤ l.length * M := by
  unfold Lib.lens
  induction l with
  | nil => simp
  | cons x r ih =>
    have h1 := h x (by simp)
    have h2 := ih fun t ht => h t (by simp [ht])
    simp only [List.map_cons, List.sum_cons, List.length_cons]
    rw [Nat.add_mul]
    omega
theorem join_le (l : List Tx) (M : Nat) (h : ∀ t, t ∈ l → t.length ≤ M) : (Lib.join l [32]).length ≤ l.length * (M + 1) := by
  cases l with
  | nil => simp [Lib.join_nil]
  | cons x r =>
    have h1 := lens_le (x :: r) M h
    rw [Lib.join_length, Nat.mul_add]
    simp only [List.length_cons, List.length_nil] at h1 ⊢
    omega
theorem hexL_length (l : List Int) : (Word.hexL l).length = 2 * l.length := Word.hexL_length l
theorem hexT_length (t : Tx) : (hexT t).length = 2 * t.length := by
  unfold hexT
  rw [strOfNums_data, List.length_map, hexL_length, nums_length, size_tx]
theorem str_cat (a b : Tx) : Value.string ((⟨a.toArray⟩ : ByteArray) ++ ⟨b.toArray⟩) = str (a ++ b) := by
  unfold str
  congr 1
theorem joinC {w : World} {base : Nat} {v : Value} {l : List Tx} (h : StrO w base v l) (hl : l ≠ []) (hn : l.length ≤ 1000000) (hj : (Lib.join l [32]).length ≤ 140737488355328) : Calls Tryz.prog 41 #[v, .string ⟨#[32]⟩] w fun e w' => e = .returned (str (Lib.join l [32])) ∧ Below w.heap.size w w' := by
  obtain ⟨g, c, rfl, h1, h2, h3⟩ := h.form hl
  have hm : (l.map fun x => (⟨x.toArray⟩ : ByteArray)).map (·.data.toList) = l := by
    rw [List.map_map]
    conv => rhs; rw [← List.map_id l]
    exact List.map_congr_left fun x _ => by simp
  have hlen : (l.map fun x => (⟨x.toArray⟩ : ByteArray)).length = l.length := List.length_map _
  have := Tryz.strings_Join g 0 c (l.map fun x => (⟨x.toArray⟩ : ByteArray)) ⟨#[32]⟩ w (fun j x hx => by
    rw [List.getElem?_map] at hx
    obtain ⟨t, ht, rfl⟩ := Option.map_eq_some_iff.1 hx
    exact h.cell j t ht) h3 (by rw [hlen]; omega) (by rw [hlen]; exact h1) (by rw [hm]; exact hj)
  rw [hlen, hm] at this
  exact this
def actRel (wc : World) (fw : Tx) (n m : Int) (v5 v64 : Value) (k : Nat) (wr : World) : Prop :=
  ∃ i : Nat, i ≤ k ∧ v64 = .int .i64 i ∧ StrO wr wc.heap.size v5 (fw :: ([n, m].take i).map Lib.itoa) ∧ wr.heap[wc.heap.size + 1]? = some (.cells #[.int .i64 n, .int .i64 m] 3 (0, 0)) ∧ Below wc.heap.size wc wr ∧ v5.ownBlock ≠ some (wc.heap.size + 1)
theorem actRel_zero (wc : World) (fw : Tx) (n m : Int) (k : Nat) : actRel wc fw n m (.slice (some ⟨wc.heap.size, 0, none⟩) 1 1) (.int .i64 0) k ((wc.alloc (.cells #[.string ⟨fw.toArray⟩] 9)).alloc (.cells #[.int .i64 n, .int .i64 m] 3)) :=
  ⟨0, by omega, rfl, StrO.one (t := fw) ((Below.heap_alloc _ _ _ (by simp)).trans (heap_alloc_new wc _)) (Nat.le_refl _), by
    have := heap_alloc_new (wc.alloc (.cells #[.string ⟨fw.toArray⟩] 9)) (.cells #[.int .i64 n, .int .i64 m] 3)
    simpa using this, ((Below.refl _ _).alloc (Nat.le_refl _) _).alloc (by simp) _, by simp [Value.ownBlock]⟩
theorem new4 (w : World) (o o' o'' q : Obj) : ((((w.alloc o).alloc o').alloc o'').alloc q).heap[w.heap.size + 1 + 1 + 1]? = some q := by
  have := heap_alloc_new (((w.alloc o).alloc o').alloc o'') q
  simpa using this
theorem ny1 (w : World) {x : Bool} (hx : x = true) : Calls Tryz.prog 40 #[.slice (some ⟨w.heap.size, 0, none⟩) 1 1] (w.alloc (.cells #[.bool x] 4)) (YesP (w.alloc (.cells #[.bool x] 4))) := yes1 (by rw [World.cell?_alloc_mark]; rfl) hx
theorem nn1 (w : World) {x : Bool} (hx : x = false) : Calls Tryz.prog 40 #[.slice (some ⟨w.heap.size, 0, none⟩) 1 1] (w.alloc (.cells #[.bool x] 4)) (NoP (w.alloc (.cells #[.bool x] 4))) := no1 (by rw [World.cell?_alloc_mark]; rfl) hx
theorem ny2 (w : World) {x y : Bool} (hx : (x && y) = true) : Calls Tryz.prog 40 #[.slice (some ⟨w.heap.size, 0, none⟩) 2 2] (w.alloc (.cells #[.bool x, .bool y] 4)) (YesP (w.alloc (.cells #[.bool x, .bool y] 4))) := yes2 (by rw [World.cell?_alloc_mark]; rfl) (by rw [World.cell?_alloc_mark]; rfl) hx
theorem nn2 (w : World) {x y : Bool} (hx : (x && y) = false) : Calls Tryz.prog 40 #[.slice (some ⟨w.heap.size, 0, none⟩) 2 2] (w.alloc (.cells #[.bool x, .bool y] 4)) (NoP (w.alloc (.cells #[.bool x, .bool y] 4))) := no2 (by rw [World.cell?_alloc_mark]; rfl) (by rw [World.cell?_alloc_mark]; rfl) hx
theorem ny3 (w : World) {x y z : Bool} (hx : (x && y && z) = true) : Calls Tryz.prog 40 #[.slice (some ⟨w.heap.size, 0, none⟩) 3 3] (w.alloc (.cells #[.bool x, .bool y, .bool z] 4)) (YesP (w.alloc (.cells #[.bool x, .bool y, .bool z] 4))) := yes3 (by rw [World.cell?_alloc_mark]; rfl) (by rw [World.cell?_alloc_mark]; rfl) (by rw [World.cell?_alloc_mark]; rfl) hx
theorem nn3 (w : World) {x y z : Bool} (hx : (x && y && z) = false) : Calls Tryz.prog 40 #[.slice (some ⟨w.heap.size, 0, none⟩) 3 3] (w.alloc (.cells #[.bool x, .bool y, .bool z] 4)) (NoP (w.alloc (.cells #[.bool x, .bool y, .bool z] 4))) := no3 (by rw [World.cell?_alloc_mark]; rfl) (by rw [World.cell?_alloc_mark]; rfl) (by rw [World.cell?_alloc_mark]; rfl) hx
def actBlk (d n m : Int) (t : Tx) : Obj := .cells #[.int .u8 d, .int .i64 n, .int .i64 m, .string ⟨t.toArray⟩] 44 (0, 0)
set_option maxRecDepth 100000 in
theorem act_none (a : Ac) (ha : a.ok) {w : World} (hd : ¬ (0 < a.d ∧ a.d < 8)) : Calls Tryz.prog 26 #[.agg (acC a).toArray] w (Got str (lineO a) w) := by
  have HNo := Lib.hid fun V (hv : mayA a = false) (hb : Below w.heap.size w V) => Got.no (f := str) (o := lineO a) (by unfold lineO; rw [hv]; rfl) hb
  generalize Got str (lineO a) w = PQ at *
  rw [acC_eq]
  obtain ⟨d, n, m, t⟩ := a
  obtain ⟨d0, d1, n0, n1, m0, m1, t1⟩ := ha
  have HF := Lib.hid forms_lay
  have HB : Hid (Below w.heap.size w (w.alloc (.cells #[.int .u8 d, .int .i64 n, .int .i64 m, .string ⟨t.toArray⟩] 44))) := Lib.hid ((Below.refl _ _).alloc (Nat.le_refl _) _)
  by_cases e0 : 0 < d
  · by_cases e1 : d < 8
    · exact absurd ⟨e0, e1⟩ hd
    · have HV : Hid (mayA ⟨d, n, m, t⟩ = false) := Lib.hid (by unfold mayA; rw [decide_eq_false e1]; simp)
      have e1' : decide (d < 8) = false := decide_eq_false e1
      clear hd
      go_enter Tryz.func26, Tryz.ntmps26
      go_wp2_with fail
      refine (HF.out _).mono ?_
      rintro e w1 ⟨rfl, rfl⟩
      go_wp2_with fail
      refine (no1 (x := false) (by go_simp) rfl).mono ?_
      rintro e w3 ⟨rfl, rfl⟩
      go_wp2
      exact ⟨rfl, HNo.out _ HV.out ((HB.out.alloc (by simp) _).alloc (by simp; omega) _)⟩
  · have HV : Hid (mayA ⟨d, n, m, t⟩ = false) := Lib.hid (by unfold mayA; rw [decide_eq_false e0]; simp)
    clear hd
    go_enter Tryz.func26, Tryz.ntmps26
    go_wp2_with fail
    refine (HF.out _).mono ?_
    rintro e w1 ⟨rfl, rfl⟩
    go_wp2_with fail
    refine (no1 (x := false) (by go_simp) rfl).mono ?_
    rintro e w3 ⟨rfl, rfl⟩
    go_wp2
    exact ⟨rfl, HNo.out _ HV.out ((HB.out.alloc (by simp) _).alloc (by simp; omega) _)⟩
set_option maxRecDepth 100000 in
set_option maxHeartbeats 4000000 in
theorem act (a : Ac) (ha : a.ok) {w : World} (h : Laid w) : Calls Tryz.prog 26 #[.agg (acC a).toArray] w (Got str (lineO a) w) := by
  have HN := Lib.hid (act_none a ha (w := w))
  have HYes := Lib.hid fun v V (hv : lineO a = some v) (hb : Below w.heap.size w V) => Got.yes (f := str) hv hb
  have HNo := Lib.hid fun V (hv : mayA a = false) (hb : Below w.heap.size w V) => Got.no (f := str) (o := lineO a) (by unfold lineO; rw [hv]; rfl) hb
  generalize Got str (lineO a) w = PQ at *
  rw [acC_eq] at *
  obtain ⟨d, n, m, t⟩ := a
  obtain ⟨d0, d1, n0, n1, m0, m1, t1⟩ := ha
  have H := Lib.hid h
  clear h
  have HF := Lib.hid forms_lay
  have HB : Hid (Below w.heap.size w (w.alloc (.cells #[.int .u8 d, .int .i64 n, .int .i64 m, .string ⟨t.toArray⟩] 44))) := Lib.hid ((Below.refl _ _).alloc (Nat.le_refl _) _)
  have HBlk : Hid ((w.alloc (.cells #[.int .u8 d, .int .i64 n, .int .i64 m, .string ⟨t.toArray⟩] 44)).heap[w.heap.size]? = some (actBlk d n m t)) := Lib.hid (heap_alloc_new w _)
  by_cases e0 : 0 < d
  · by_cases e1 : d < 8
    · have e1' : d < ((8 : Nat) : Int) := e1
      go_enter Tryz.func26, Tryz.ntmps26
      go_wp2_with fail
      refine (HF.out _).mono ?_
      rintro e w1 ⟨rfl, rfl⟩
      go_wp2_with fail
      refine (yes1 (x := true) (by go_simp) rfl).mono ?_
      rintro e w3 ⟨rfl, rfl⟩
      go_upto_region 3 with fail
      go_cut [4] (fun s4 wx => ∃ b2, s4 = .pointer (some ⟨b2, 0, none⟩) ∧ w.heap.size < b2 ∧ wx.heap[b2]? = some (.cells #[.string ⟨(form d).word.toArray⟩, .int .i64 (form d).n, .bool (form d).text] 83 (0, 0)) ∧ wx.heap[w.heap.size]? = some (actBlk d n m t) ∧ Below w.heap.size w wx)
      case first =>
        have hk : ∀ o o' o'' : Obj, (((((w.alloc (.cells #[.int .u8 d, .int .i64 n, .int .i64 m, .string ⟨t.toArray⟩] 44)).alloc o).alloc o').alloc o'')).heap[w.heap.size]? = some (actBlk d n m t) ∧ Below w.heap.size w (((((w.alloc (.cells #[.int .u8 d, .int .i64 n, .int .i64 m, .string ⟨t.toArray⟩] 44)).alloc o).alloc o').alloc o'')) := fun o o' o'' =>
          ⟨((Below.heap_alloc _ _ _ (by simp; omega)).trans ((Below.heap_alloc _ _ _ (by simp; omega)).trans (Below.heap_alloc _ _ _ (by simp)))).trans HBlk.out, ((HB.out.alloc (by simp) _).alloc (by simp; omega) _).alloc (by simp; omega) _⟩
        have HK := Lib.hid hk
        have hd : d = 1 ∨ d = 2 ∨ d = 3 ∨ d = 4 ∨ d = 5 ∨ d = 6 ∨ d = 7 := by omega
        clear hk e0 e1 e1' d0 d1
        rw [formsC_lit]
        rcases hd with rfl | rfl | rfl | rfl | rfl | rfl | rfl
        all_goals
          go_wp2
          go_meet
          exact ⟨_, rfl, by omega, new4 _ _ _ _ _, HK.out _ _ _⟩
      case rest =>
        obtain ⟨b2, rfl, hb2, hf, hab, hbl⟩ := hcut
        have hk : (form d).n ≤ 2 ∧ ((form d).text = true → (form d).n = 0) ∧ (form d).word.length ≤ 10 := (form_at d e0 e1).2
        have HM : Hid (mayA ⟨d, n, m, t⟩ = ((decide (n = 0) || decide (0 < ((form d).n : Int))) && (decide (m = 0) || decide (1 < ((form d).n : Int))) && (decide (t = []) || (form d).text))) := Lib.hid (by unfold mayA; simp only [decide_eq_true e0, decide_eq_true e1, Bool.true_and])
        have HL : Hid (lineO ⟨d, n, m, t⟩ = if mayA ⟨d, n, m, t⟩ = true then some (lineA ⟨d, n, m, t⟩) else none) := Lib.hid rfl
        have HW : Hid (wordsA ⟨d, n, m, t⟩ = (form d).word :: (([n, m].take (form d).n).map Lib.itoa ++ if (form d).text then [120 :: hexT t] else [])) := Lib.hid rfl
        generalize (form d).word = fw at *
        generalize (form d).n = k at *
        generalize (form d).text = ft at *
        obtain ⟨p0, p1, p2, p3, pf⟩ : wc.cell? ⟨w.heap.size, 0, none⟩ = some (.int .u8 d) ∧ wc.cell? ⟨w.heap.size, 1, none⟩ = some (.int .i64 n) ∧ wc.cell? ⟨w.heap.size, 2, none⟩ = some (.int .i64 m) ∧ wc.cell? ⟨w.heap.size, 3, none⟩ = some (.string ⟨t.toArray⟩) ∧ True := by
          unfold World.cell?
          rw [hab]
          exact ⟨rfl, rfl, rfl, rfl, trivial⟩
        obtain ⟨q0, q1, q2⟩ : wc.cell? ⟨b2, 0, none⟩ = some (.string ⟨fw.toArray⟩) ∧ wc.cell? ⟨b2, 1, none⟩ = some (.int .i64 k) ∧ wc.cell? ⟨b2, 2, none⟩ = some (.bool ft) := by
          unfold World.cell?
          rw [hf]
          exact ⟨rfl, rfl, rfl⟩
        have HAB := Lib.hid hab
        have HFB := Lib.hid hf
        have HBl := Lib.hid hbl
        have HK := Lib.hid hk
        clear hab hf hbl hk HB HBlk HF
        go_upto_region 4 with fail
        go_cut [] (fun wx => wx.heap[b2]? = some (.cells #[.string ⟨fw.toArray⟩, .int .i64 k, .bool ft] 83 (0, 0)) ∧ wx.heap[w.heap.size]? = some (actBlk d n m t) ∧ Below w.heap.size w wx ∧ mayA ⟨d, n, m, t⟩ = true)
        case first =>
          cases hv : mayA ⟨d, n, m, t⟩ <;> have HV := Lib.hid hv <;> clear hv <;> by_cases f1 : n = 0 <;> by_cases f2 : m = 0 <;> by_cases f3 : t = []
          all_goals
            first | have g1 : ((n : Int) == 0) = true := beq_iff_eq.2 f1 | have g1 : ((n : Int) == 0) = false := beq_eq_false_iff_ne.2 f1
            first | have g2 : ((m : Int) == 0) = true := beq_iff_eq.2 f2 | have g2 : ((m : Int) == 0) = false := beq_eq_false_iff_ne.2 f2
            first | have g3 : (t == []) = true := beq_iff_eq.2 f3 | have g3 : (t == []) = false := beq_eq_false_iff_ne.2 f3
            have HF3 := Lib.hid f3
            have HF1 := Lib.hid f1
            have HF2 := Lib.hid f2
            clear f1 f2 f3
            go_wp2_with fail
          all_goals
            have HP := HM.out
            have f1 := HF1.out
            have f2 := HF2.out
            have f3 := HF3.out
            have hv := HV.out
            rw [hv] at HP
            simp only [f1, f2, f3, decide_true, decide_false, Bool.true_or, Bool.false_or] at HP
            first
              | (exfalso; simp at HP; done)
              | (refine (ny3 wc (by first | rfl | simpa using HP.symm)).mono ?_
                 clear f1 f2 f3 HP hv
                 rintro e w4 ⟨rfl, rfl⟩
                 go_wp2_with fail
                 go_meet
                 exact ⟨(Below.heap_alloc _ _ _ (lt_of_block HFB.out)).trans HFB.out, (Below.heap_alloc _ _ _ (lt_of_block HAB.out)).trans HAB.out, HBl.out.alloc HBl.out.size _, HV.out⟩)
              | (refine (nn3 wc (by simpa using HP.symm)).mono ?_
                 clear f1 f2 f3 HP hv
                 rintro e w4 ⟨rfl, rfl⟩
                 go_wp2_with fail
                 exact ⟨rfl, HNo.out _ HV.out (HBl.out.alloc HBl.out.size _)⟩)
              | trace_state
        case rest =>
          obtain ⟨hf, hab, hbl, hmay⟩ := hcut
          have HV : Hid (lineO ⟨d, n, m, t⟩ = some (lineA ⟨d, n, m, t⟩)) := Lib.hid (by rw [HL.out, hmay]; rfl)
          have hk := HK.out.1
          obtain ⟨p0, p1, p2, p3, pf⟩ : wc.cell? ⟨w.heap.size, 0, none⟩ = some (.int .u8 d) ∧ wc.cell? ⟨w.heap.size, 1, none⟩ = some (.int .i64 n) ∧ wc.cell? ⟨w.heap.size, 2, none⟩ = some (.int .i64 m) ∧ wc.cell? ⟨w.heap.size, 3, none⟩ = some (.string ⟨t.toArray⟩) ∧ True := by
            unfold World.cell?
            rw [hab]
            exact ⟨rfl, rfl, rfl, rfl, trivial⟩
          obtain ⟨q0, q1, q2⟩ : wc.cell? ⟨b2, 0, none⟩ = some (.string ⟨fw.toArray⟩) ∧ wc.cell? ⟨b2, 1, none⟩ = some (.int .i64 k) ∧ wc.cell? ⟨b2, 2, none⟩ = some (.bool ft) := by
            unfold World.cell?
            rw [hf]
            exact ⟨rfl, rfl, rfl⟩
          have HAB := Lib.hid hab
          have HFB := Lib.hid hf
          have HBl := Lib.hid hbl
          have hz1 := lt_of_block hab
          have hz2 := lt_of_block hf
          clear hf hab hbl hmay HL HM HNo
          have HRel0 : Hid (actRel wc fw n m (.slice (some ⟨wc.heap.size, 0, none⟩) 1 1) (.int .i64 0) k ((wc.alloc (.cells #[.string ⟨fw.toArray⟩] 9)).alloc (.cells #[.int .i64 n, .int .i64 m] 3))) := Lib.hid (actRel_zero wc fw n m k)
          go_wp2
          generalize (wc.alloc (.cells #[.string ⟨fw.toArray⟩] 9)).alloc (.cells #[.int .i64 n, .int .i64 m] 3) = wL at *
          go_loopw [5, 7, 64] (fun v5 _ v64 wr => actRel wc fw n m v5 v64 k wr) (fun _ _ v64 _ => k - (RowKit.intOf v64).toNat)
          case atStart => exact HRel0.out
          case round =>
            clear HRel0
            obtain ⟨i, hi, rfl, hst, hnb, hbb, hne⟩ := hrel
            have HSt := Lib.hid hst
            have HNb := Lib.hid hnb
            have HBb := Lib.hid hbb
            have HNe := Lib.hid hne
            clear hst hnb hbb hne
            by_cases hik : i < k
            · have hik' : (i : Int) < k := by omega
              obtain ⟨x, hx, x0, x1⟩ : ∃ x, [n, m][i]? = some x ∧ -9223372036854775808 ≤ x ∧ x ≤ 9223372036854775807 := by
                have : i = 0 ∨ i = 1 := by omega
                rcases this with rfl | rfl
                · exact ⟨n, rfl, n0, n1⟩
                · exact ⟨m, rfl, m0, m1⟩
              have hcell : wr.cell? ⟨wc.heap.size + 1, i, none⟩ = some (.int .i64 x) := by
                unfold World.cell?
                rw [HNb.out]
                have : i = 0 ∨ i = 1 := by omega
                rcases this with rfl | rfl <;> (simp at hx; subst hx; rfl)
              have HX := Lib.hid hx
              have HI := Lib.hid (itoa x x0 x1 (H.out.step (HBl.out.trans (HBb.out.mono HBl.out.size))))
              clear hx
              unfold str at HI
              go_wp2_with fail
              refine HI.out.mono ?_
              rintro e w5 ⟨rfl, hb5⟩
              have HB5 := Lib.hid hb5
              have hsz := hb5.size
              clear hb5
              go_wp2_with (at_builtin; refine wpList_app_str (by rfl) _ _ (by rfl) wc.heap.size _ _ (by rfl) ((HSt.out.below HB5.out).below ((Below.refl _ _).alloc (Nat.le_refl _) _)) _ (Lib.itoa x) (by rfl) (heap_alloc_new w5 _) (by simp; omega) (by have := HBb.out.size; simp; omega) ?_; intro v' w6 hst' hgr hat; have HS6 := Lib.hid hst'; have HG6 := Lib.hid hgr; have HA6 := Lib.hid hat; clear hst' hgr hat)
              refine ⟨⟨i + 1, by omega, by go_num, ?_, ?_, ?_, ?_⟩, by simp [RowKit.intOf]; omega⟩
              · have := HS6.out
                rw [List.take_add_one, HX.out]
                simpa using this
              · rw [HG6.out.block _ (by have := lt_of_block HNb.out; simp; omega) (fun e => HNe.out e.symm)]
                exact (Below.heap_alloc _ _ _ (by have := lt_of_block HNb.out; omega)).trans ((HB5.out.block _ (lt_of_block HNb.out)).trans HNb.out)
              · exact ((HBb.out.trans (HB5.out.mono (by have := HBb.out.size; omega))).alloc (by have := HBb.out.size; omega) _).grown HG6.out (by have := HBb.out.size; simp; omega) (fun k hk => (World.ownsRow.lt HSt.out k hk).1)
              · intro e
                rcases HA6.out with g | g
                · exact HNe.out (g.symm.trans e)
                · rw [g] at e
                  have := lt_of_block HNb.out
                  simp at e
                  omega
            · obtain rfl : i = k := by omega
              have hik' : ¬ (i : Int) < i := by omega
              have hc2 : wr.cell? ⟨b2, 2, none⟩ = some (.bool ft) := by rw [← q2]; exact (World.cell?_of_block (w := wc) (HBb.out.block _ hz2))
              have hc3 : wr.cell? ⟨w.heap.size, 3, none⟩ = some (.string ⟨t.toArray⟩) := by rw [← p3]; exact (World.cell?_of_block (w := wc) (HBb.out.block _ hz1))
              have HWs : ∀ x, x ∈ wordsA ⟨d, n, m, t⟩ → x.length ≤ 3000000 := by
                rw [HW.out]
                intro x hx
                have := HK.out.2.2
                rcases List.mem_cons.1 hx with rfl | hx
                · omega
                · rcases List.mem_append.1 hx with hx | hx
                  · obtain ⟨y, hy, rfl⟩ := List.mem_map.1 hx
                    have hy := List.mem_of_mem_take hy
                    simp at hy
                    have : (Lib.itoa y).length ≤ 21 := by rcases hy with rfl | rfl <;> exact Lib.itoa_length_le _ (by assumption) (by assumption)
                    omega
                  · cases ft with
                    | false => simp at hx
                    | true =>
                      simp at hx
                      subst hx
                      have := hexT_length t
                      simp
                      omega
              have HJ : Hid ((wordsA ⟨d, n, m, t⟩).length ≤ 4 ∧ (Lib.join (wordsA ⟨d, n, m, t⟩) [32]).length ≤ 140737488355328) := Lib.hid (by
                have hl : (wordsA ⟨d, n, m, t⟩).length ≤ 4 := by
                  rw [HW.out, List.length_cons, List.length_append, List.length_map, List.length_take]
                  cases ft <;> simp <;> omega
                have := join_le _ _ HWs
                have h2 := Nat.mul_le_mul_right (3000000 + 1) hl
                exact ⟨hl, by omega⟩)
              clear HWs
              have hwr : wr.heap.size ≤ wr.heap.size := Nat.le_refl _
              cases ft with
              | false =>
                have HSW : Hid (StrO wr wc.heap.size u5 (wordsA ⟨d, n, m, t⟩)) := Lib.hid (by rw [HW.out]; simpa using HSt.out)
                have HJC := Lib.hid (joinC HSW.out (by rw [HW.out]; simp) (by have := HJ.out.1; omega) HJ.out.2)
                unfold str at HJC
                go_wp2_with fail
                refine HJC.out.mono ?_
                rintro e w6 ⟨rfl, hb6⟩
                have HB6 := Lib.hid hb6
                clear hb6
                go_wp2
                exact HYes.out _ _ HV.out (HBl.out.trans ((HBb.out.trans (HB6.out.mono (by have := HBb.out.size; omega))).mono HBl.out.size))
              | true =>
                have HH := Lib.hid (hex t t1 wr)
                have hlx : 1 + List.length (hexT t) ≤ 9223372036854775807 := by rw [hexT_length]; omega
                unfold str at HH
                go_wp2_with fail
                refine HH.out.mono ?_
                rintro e w6 ⟨rfl, hb6⟩
                have HB6 := Lib.hid hb6
                have hsz6 := hb6.size
                clear hb6
                go_wp2_with (at_builtin; refine wpList_app_str (by rfl) _ _ (by rfl) wc.heap.size _ _ (by rfl) ((HSt.out.below HB6.out).below ((Below.refl _ _).alloc (Nat.le_refl _) _)) _ (120 :: hexT t) (by rfl) (by rw [show (120 :: hexT t : Tx) = [120] ++ hexT t from rfl, ← str_cat]; exact heap_alloc_new w6 _) (by simp; omega) (by have := HBb.out.size; simp; omega) ?_; intro v' w7 hst' hgr hat; have HS7 := Lib.hid hst'; have HG7 := Lib.hid hgr; clear hst' hgr hat)
                have HSW : Hid (StrO w7 wc.heap.size v' (wordsA ⟨d, n, m, t⟩)) := Lib.hid (by rw [HW.out]; simpa using HS7.out)
                have HJC := Lib.hid (joinC HSW.out (by rw [HW.out]; simp) (by have := HJ.out.1; omega) HJ.out.2)
                unfold str at HJC
                refine HJC.out.mono ?_
                rintro e w8 ⟨rfl, hb8⟩
                have HB8 := Lib.hid hb8
                clear hb8
                go_wp2
                have hx : Below wc.heap.size wc w7 := ((HBb.out.trans (HB6.out.mono (by have := HBb.out.size; omega))).alloc (by have := HBb.out.size; omega) _).grown HG7.out (by have := HBb.out.size; simp; omega) (fun k hk => (World.ownsRow.lt HSt.out k hk).1)
                exact HYes.out _ _ HV.out (HBl.out.trans ((hx.trans (HB8.out.mono hx.size)).mono HBl.out.size))
    · exact HN.out fun h => e1 h.2
  · exact HN.out fun h => e0 h.1
end Go.Proofs.YtohlgcdailconaaGreatDoor.Scr
