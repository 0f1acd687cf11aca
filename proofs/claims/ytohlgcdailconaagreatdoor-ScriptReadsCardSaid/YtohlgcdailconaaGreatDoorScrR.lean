/- script's readAct: the act of a line. -/
import Derived.Test.YtohlgcdailconaaGreatDoorScrK
import Derived.Deep.QuietTactic
import Derived.BigQuiet
import Derived.Deep.DeepCutAuto
namespace Go.Proofs.YtohlgcdailconaaGreatDoor.Scr
open Go.RowKit Lib
set_option linter.unusedVariables false
set_option linter.unusedSimpArgs false
def kindI (x : Tx) : Int := match forms.findIdx? (fun f => f.word == x) with | some k => k | none => -1
theorem askWord {V : World} {b0 wb n c : Nat} {x : Tx} (f : Fm) (h0 : V.cell? ⟨b0, 0, none⟩ = some (.slice (some ⟨wb, 0, none⟩) n c)) (hn : 0 < n) (hx : V.cell? ⟨wb, 0, none⟩ = some (str x)) (hb : b0 < V.heap.size) (hw : wb < V.heap.size) :
    Calls Tryz.prog 61 #[.agg #[.string ⟨f.word.toArray⟩, .int .i64 f.n, .bool f.text], .pointer (some ⟨b0, 0, none⟩)] V fun e w' => e = .returned (.bool (f.word == x)) ∧ Below V.heap.size V w' := by
  have hn' : (0 : Int) < n := by omega
  obtain ⟨fw, fn, ft⟩ := f
  unfold str at hx
  have hB := (Below.refl V.heap.size V).alloc (Nat.le_refl _) (.cells #[.string ⟨fw.toArray⟩, .int .i64 fn, .bool ft] 83)
  have HB := Lib.hid hB
  clear hB
  go_enter Tryz.func61, Tryz.ntmps61
  go_wp2
  go_quiet (fail)
  go_wp2
  go_ret
  exact ⟨rfl, below_drewN HB.out _⟩
def ixfRel (w : World) (x : Tx) (vi : Value) (wr : World) : Prop := ∃ i : Nat, i ≤ 8 ∧ vi = .int .i64 i ∧ (∀ k : Nat, k < i → ∀ f, forms[k]? = some f → (f.word == x) = false) ∧ Below w.heap.size w wr
theorem kind_hit {x : Tx} {i : Nat} {f : Fm} (hf : forms[i]? = some f) (h : (f.word == x) = true) (hno : ∀ k : Nat, k < i → ∀ f, forms[k]? = some f → (f.word == x) = false) : kindI x = i := by
  unfold kindI
  have : forms.findIdx? (fun f => f.word == x) = some i := by
    rw [List.findIdx?_eq_some_iff_getElem]
    have hl := (List.getElem?_eq_some_iff.1 hf).1
    refine ⟨hl, ?_, fun j hj => ?_⟩
    · have := (List.getElem?_eq_some_iff.1 hf).2
      rw [this]; exact h
    · have := hno j hj _ (List.getElem?_eq_getElem (by omega))
      simp [this]
  rw [this]
theorem kind_miss {x : Tx} (hno : ∀ k : Nat, k < 8 → ∀ f, forms[k]? = some f → (f.word == x) = false) : kindI x = -1 := by
  unfold kindI
  have : forms.findIdx? (fun f => f.word == x) = none := by
    rw [List.findIdx?_eq_none_iff]
    intro f hf
    obtain ⟨k, hk⟩ := List.getElem?_of_mem hf
    exact hno k (by have := (List.getElem?_eq_some_iff.1 hk).1; simpa [forms] using this) f hk
  rw [this]
theorem forms_cells {w : World} {fb : Nat} (h : w.heap[fb]? = some (.cells formsC 83 (0, 0))) {i : Nat} {f : Fm} (hf : forms[i]? = some f) : w.cell? ⟨fb, i * 3, none⟩ = some (.string ⟨f.word.toArray⟩) ∧ w.cell? ⟨fb, i * 3 + 1, none⟩ = some (.int .i64 f.n) ∧ w.cell? ⟨fb, i * 3 + 2, none⟩ = some (.bool f.text) := by
  unfold World.cell?
  rw [h]
  have hl : i < 8 := by have := (List.getElem?_eq_some_iff.1 hf).1; simpa [forms] using this
  have : i = 0 ∨ i = 1 ∨ i = 2 ∨ i = 3 ∨ i = 4 ∨ i = 5 ∨ i = 6 ∨ i = 7 := by omega
  rcases this with rfl | rfl | rfl | rfl | rfl | rfl | rfl | rfl <;> (cases hf; exact ⟨rfl, rfl, rfl⟩)
theorem indexFunc {w : World} {fb b0 wb n c : Nat} {x : Tx} (hf : w.heap[fb]? = some (.cells formsC 83 (0, 0))) (h0 : w.cell? ⟨b0, 0, none⟩ = some (.slice (some ⟨wb, 0, none⟩) n c)) (hn : 0 < n) (hx : w.cell? ⟨wb, 0, none⟩ = some (str x)) (hb : b0 < w.heap.size) (hw : wb < w.heap.size) :
    Calls Tryz.prog 60 #[.slice (some ⟨fb, 0, none⟩) 8 8, .func (.func 61) #[] #[.pointer (some ⟨b0, 0, none⟩)]] w fun e w' => e = .returned (.int .i64 (kindI x)) ∧ Below w.heap.size w w' := by
  have HAsk := Lib.hid fun V (hV : Below w.heap.size w V) (f : Fm) => askWord (x := x) f ((World.cell?_of_block (w := w) (hV.block _ hb)).trans h0) hn ((World.cell?_of_block (w := w) (hV.block _ hw)).trans hx) (Nat.lt_of_lt_of_le hb hV.size) (Nat.lt_of_lt_of_le hw hV.size)
  have HF := Lib.hid hf
  have HL := Lib.hid (lt_of_block hf)
  have eg := enters_of (P := Tryz.prog) Tryz.func61 (by kernel_rfl) rfl
  clear hf h0 hx hb hw hn
  go_enter Tryz.func60, Tryz.ntmps60
  go_wp2
  go_loopw [5, 8] (fun _ vi wr => ixfRel w x vi wr) (fun _ vi _ => 8 - (RowKit.intOf vi).toNat)
  case atStart => exact ⟨0, by omega, rfl, fun k hk => absurd hk (Nat.not_lt_zero _), Below.refl _ _⟩
  case round =>
    obtain ⟨i, hi, rfl, hno, hbw⟩ := hrel
    have HNo := Lib.hid hno
    have HBw := Lib.hid hbw
    clear hno hbw
    by_cases hin : i < 8
    · have hin' : (i : Int) < 8 := by omega
      obtain ⟨f, hff⟩ : ∃ f, forms[i]? = some f := ⟨_, List.getElem?_eq_getElem (by simpa [forms] using hin)⟩
      obtain ⟨c0, c1, c2⟩ := forms_cells ((HBw.out.block _ HL.out).trans HF.out) hff
      have HFf := Lib.hid hff
      have HA := Lib.hid (HAsk.out wr HBw.out f)
      clear hff
      cases hq : f.word == x with
      | true =>
        rw [hq] at HA
        have HV := Lib.hid (kind_hit HFf.out hq HNo.out)
        clear hq
        go_wp2_with fail
        refine HA.out.mono ?_
        rintro e w5 ⟨rfl, hb5⟩
        have HB5 := Lib.hid hb5
        clear hb5
        go_wp2
        go_ret
        exact ⟨by rw [HV.out]; rfl, below_th HBw.out HB5.out⟩
      | false =>
        rw [hq] at HA
        have HQ := Lib.hid hq
        clear hq
        go_wp2_with fail
        refine HA.out.mono ?_
        rintro e w5 ⟨rfl, hb5⟩
        have HB5 := Lib.hid hb5
        clear hb5
        go_wp2
        refine ⟨⟨i + 1, by omega, by go_num, fun k hk g hg => ?_, below_th HBw.out HB5.out⟩, by simp [RowKit.intOf]; omega⟩
        rcases Nat.lt_or_ge k i with q | q
        · exact HNo.out k q g hg
        · obtain rfl : k = i := by omega
          rw [HFf.out] at hg
          cases hg
          exact HQ.out
    · have HV := Lib.hid (kind_miss fun k hk => HNo.out k (by omega))
      have hin' : ¬ (i : Int) < 8 := by omega
      go_wp2
      go_ret
      exact ⟨by rw [HV.out]; rfl, HBw.out⟩
def acV (a : Ac) : Value := .agg (acC a).toArray
def readR (k : Int) (r : List Tx) : Option Ac :=
  if (form k).text then match r with | [y] => (bytesT y).map fun b => ⟨k, 0, 0, b⟩ | _ => none
  else if r.length = (form k).n then match r with | [] => some ⟨k, 0, 0, []⟩ | [y] => (numT y).map fun a => ⟨k, a, 0, []⟩ | y :: z :: _ => (numT y).bind fun a => (numT z).map fun b => ⟨k, a, b, []⟩
  else none
def readA : List Tx → Option Ac
  | [] => none
  | x :: r => if 0 < kindI x then readR (kindI x) r else none
theorem kind_le (x : Tx) : -1 ≤ kindI x ∧ kindI x < 8 := by
  unfold kindI
  cases h : forms.findIdx? (fun f => f.word == x) with
  | none => exact ⟨by decide, by decide⟩
  | some k =>
    have := (List.findIdx?_eq_some_iff_getElem.1 h).1
    simp [forms] at this
    exact ⟨by simp only; omega, by simp only; omega⟩
theorem act_cells {V : World} {b : Nat} {d n m : Int} {t : Value} (h : V.heap[b]? = some (.cells #[.int .u8 d, .int .i64 n, .int .i64 m, t] 44 (0, 0))) : V.cell? ⟨b, 0, none⟩ = some (.int .u8 d) ∧ V.cell? ⟨b, 1, none⟩ = some (.int .i64 n) ∧ V.cell? ⟨b, 2, none⟩ = some (.int .i64 m) ∧ V.cell? ⟨b, 3, none⟩ = some t ∧ ∀ i, V.frozen? ⟨b, i, none⟩ = false := by
  refine ⟨?_, ?_, ?_, ?_, fun i => ?_⟩
  · unfold World.cell?; rw [h]; rfl
  · unfold World.cell?; rw [h]; rfl
  · unfold World.cell?; rw [h]; rfl
  · unfold World.cell?; rw [h]; rfl
  · unfold World.frozen?; rw [h]; simp
def zeroBlk : Obj := .cells #[.int .u8 0, .int .i64 0, .int .i64 0, .string ⟨#[]⟩] 44 (0, 0)
/-- What lies about while an act is read. -/
structure RaW (w W : World) (b4 b5 wb : Nat) (F : Fm) (a : Ac) (sv : Value) (l : List Tx) : Prop where
  f : W.heap[b4]? = some (.cells #[.string ⟨F.word.toArray⟩, .int .i64 F.n, .bool F.text] 83 (0, 0))
  a : W.heap[b5]? = some (.cells #[.int .u8 a.d, .int .i64 a.n, .int .i64 a.m, .string ⟨a.t.toArray⟩] 44 (0, 0))
  s : W.heap[w.heap.size]? = some (.cells #[sv] 26 (0, 0))
  z : W.heap[w.heap.size + 1]? = some zeroBlk
  row : RowT W wb l
  b : Below w.heap.size w W
  lt4 : w.heap.size + 1 < b4
  lt5 : b4 < b5
  ltw : wb < w.heap.size
theorem RaW.step {w W V : World} {b4 b5 wb : Nat} {F : Fm} {a : Ac} {sv : Value} {l : List Tx} (h : RaW w W b4 b5 wb F a sv l) (hb : Below W.heap.size W V) : RaW w V b4 b5 wb F a sv l :=
  ⟨(hb.block _ (lt_of_block h.f)).trans h.f, (hb.block _ (lt_of_block h.a)).trans h.a, (hb.block _ (lt_of_block h.s)).trans h.s, (hb.block _ (lt_of_block h.z)).trans h.z, (hb.block _ (lt_of_block h.row)).trans h.row, below_th h.b hb, h.lt4, h.lt5, h.ltw⟩
theorem RaW.setS {w W : World} {b4 b5 wb : Nat} {F : Fm} {a : Ac} {sv : Value} {l : List Tx} (h : RaW w W b4 b5 wb F a sv l) (u : Value) : RaW w (W.setCell ⟨w.heap.size, 0, none⟩ u) b4 b5 wb F a u l :=
  have := h.lt4; have := h.lt5; have := h.ltw
  ⟨(Below.heap_setCell _ _ _ _ (by simp only; omega)).trans h.f, (Below.heap_setCell _ _ _ _ (by simp only; omega)).trans h.a, one_setCell h.s, (Below.heap_setCell _ _ _ _ (by simp only; omega)).trans h.z, (Below.heap_setCell _ _ _ _ (by simp only; omega)).trans h.row, h.b.setCell (Nat.le_refl _) _, h.lt4, h.lt5, h.ltw⟩
theorem RaW.setA {w W : World} {b4 b5 wb : Nat} {F : Fm} {a a' : Ac} {sv : Value} {l : List Tx} (h : RaW w W b4 b5 wb F a sv l) (j : Nat) (u : Value) (hj : (#[Value.int .u8 a.d, .int .i64 a.n, .int .i64 a.m, .string ⟨a.t.toArray⟩]).setIfInBounds j u = #[.int .u8 a'.d, .int .i64 a'.n, .int .i64 a'.m, .string ⟨a'.t.toArray⟩]) : RaW w (W.setCell ⟨b5, j, none⟩ u) b4 b5 wb F a' sv l :=
  have := h.lt4; have := h.lt5; have := h.ltw
  ⟨(Below.heap_setCell _ _ _ _ (by simp only; omega)).trans h.f, by rw [heap_setCell_same _ _ _ _ _ u h.a, hj], (Below.heap_setCell _ _ _ _ (by simp only; omega)).trans h.s, (Below.heap_setCell _ _ _ _ (by simp only; omega)).trans h.z, (Below.heap_setCell _ _ _ _ (by simp only; omega)).trans h.row, h.b.setCell (by simp only; omega) _, h.lt4, h.lt5, h.ltw⟩
theorem RaW.fin {w W : World} {b4 b5 wb : Nat} {F : Fm} {a : Ac} {sv : Value} {l : List Tx} (h : RaW w W b4 b5 wb F a sv l) (u0 u1 u2 u3 : Value) : Below w.heap.size w ((((W.setCell ⟨w.heap.size + 1, 0, none⟩ u0).setCell ⟨w.heap.size + 1, 1, none⟩ u1).setCell ⟨w.heap.size + 1, 2, none⟩ u2).setCell ⟨w.heap.size + 1, 3, none⟩ u3) :=
  ((((h.b.setCell (p := ⟨w.heap.size + 1, 0, none⟩) (by simp only; omega) u0).setCell (p := ⟨w.heap.size + 1, 1, none⟩) (by simp only; omega) u1).setCell (p := ⟨w.heap.size + 1, 2, none⟩) (by simp only; omega) u2).setCell (p := ⟨w.heap.size + 1, 3, none⟩) (by simp only; omega) u3)
set_option maxRecDepth 100000 in
set_option maxHeartbeats 2000000 in
theorem readAct {w : World} {wb c : Nat} {x : Tx} {r : List Tx} (h : Laid w) (hr : RowT w wb (x :: r)) (hlen : ∀ t, t ∈ x :: r → t.length ≤ 1048576) (hn : r.length ≤ 2000000) :
    Calls Tryz.prog 46 #[.slice (some ⟨wb, 0, none⟩) (r.length + 1) (r.length + 1)] w (Got acV (readA (x :: r)) w) := by
  have HYes := Lib.hid fun v V (hv : readA (x :: r) = some v) (hb : Below w.heap.size w V) => Got.yes (f := acV) hv hb
  have HNo := Lib.hid fun V (hv : readA (x :: r) = none) (hb : Below w.heap.size w V) => Got.no (f := acV) hv hb
  have HRd : Hid (readA (x :: r) = if 0 < kindI x then readR (kindI x) r else none) := Lib.hid rfl
  generalize Got acV (readA (x :: r)) w = PQ at *
  have HF := Lib.hid forms_lay
  have hx0 : w.cell? ⟨wb, 0, none⟩ = some (str x) := hr.cell rfl
  have hwb := lt_of_block hr
  have HRow := Lib.hid hr
  have H := Lib.hid h
  have HLen := Lib.hid hlen
  have hkl := kind_le x
  have hB : Below w.heap.size w ((w.alloc (.cells #[.slice (some ⟨wb, 0, none⟩) (r.length + 1) (r.length + 1)] 26)).alloc (.cells #[.int .u8 0, .int .i64 0, .int .i64 0, .string ⟨#[]⟩] 44)) := ((Below.refl _ _).alloc (Nat.le_refl _) _).alloc (by simp) _
  have h0 : ((w.alloc (.cells #[.slice (some ⟨wb, 0, none⟩) (r.length + 1) (r.length + 1)] 26)).alloc (.cells #[.int .u8 0, .int .i64 0, .int .i64 0, .string ⟨#[]⟩] 44)).heap[w.heap.size]? = some (.cells #[.slice (some ⟨wb, 0, none⟩) (r.length + 1) (r.length + 1)] 26 (0, 0)) := (Below.heap_alloc _ _ _ (by simp)).trans (heap_alloc_new _ _)
  have h1 : ((w.alloc (.cells #[.slice (some ⟨wb, 0, none⟩) (r.length + 1) (r.length + 1)] 26)).alloc (.cells #[.int .u8 0, .int .i64 0, .int .i64 0, .string ⟨#[]⟩] 44)).heap[w.heap.size + 1]? = some zeroBlk := by
    have := heap_alloc_new (w.alloc (.cells #[.slice (some ⟨wb, 0, none⟩) (r.length + 1) (r.length + 1)] 26)) (.cells #[.int .u8 0, .int .i64 0, .int .i64 0, .string ⟨#[]⟩] 44)
    unfold zeroBlk
    simpa using this
  have HB := Lib.hid hB
  have H0 := Lib.hid h0
  have H1 := Lib.hid h1
  have hmf : ∀ (fn : Fn) (first cap : Array Value) (w : World), (Instr.makeFunc fn first cap).run Tryz.prog w = .ok (.func fn first cap) w := fun _ _ _ _ => rfl
  clear hB h0 h1 h hr hlen
  go_enter Tryz.func46, Tryz.ntmps46
  go_wp2_with fail
  refine (HF.out _).mono ?_
  have HSz : Hid (((w.alloc (.cells #[.slice (some ⟨wb, 0, none⟩) (r.length + 1) (r.length + 1)] 26)).alloc (.cells #[.int .u8 0, .int .i64 0, .int .i64 0, .string ⟨#[]⟩] 44)).heap.size = w.heap.size + 1 + 1) := Lib.hid (by simp)
  generalize (w.alloc (.cells #[.slice (some ⟨wb, 0, none⟩) (r.length + 1) (r.length + 1)] 26)).alloc (.cells #[.int .u8 0, .int .i64 0, .int .i64 0, .string ⟨#[]⟩] 44) = w1 at *
  rintro e w2 ⟨rfl, rfl⟩
  have hb2 : Below w.heap.size w (w1.alloc (.cells formsC 83)) := HB.out.alloc HB.out.size _
  have hf2 := heap_alloc_new w1 (.cells formsC 83)
  have h02 : (w1.alloc (.cells formsC 83)).heap[w.heap.size]? = some (.cells #[.slice (some ⟨wb, 0, none⟩) (r.length + 1) (r.length + 1)] 26 (0, 0)) := (Below.heap_alloc _ _ _ (lt_of_block H0.out)).trans H0.out
  have HIx := Lib.hid (indexFunc (x := x) hf2 (cell_of_one h02) (by omega) ((World.cell?_of_block (w := w) (hb2.block _ hwb)).trans hx0) (lt_of_block h02) (Nat.lt_of_lt_of_le hwb hb2.size))
  have HB2 := Lib.hid hb2
  clear hb2 hf2 h02
  go_wp2_with fail
  refine HIx.out.mono ?_
  rintro e w3 ⟨rfl, hb⟩
  have HB3 := Lib.hid (below_th HB2.out hb)
  have H03 := Lib.hid ((hb.block _ (by have := lt_of_block H0.out; simp; omega)).trans ((Below.heap_alloc _ _ _ (lt_of_block H0.out)).trans H0.out))
  have H13 := Lib.hid ((hb.block _ (by have := lt_of_block H1.out; simp; omega)).trans ((Below.heap_alloc _ _ _ (lt_of_block H1.out)).trans H1.out))
  clear hb HIx HB2 HB H0 H1 HSz hx0
  generalize kindI x = k at *
  by_cases hk0 : 0 < k
  · have hk : k = 1 ∨ k = 2 ∨ k = 3 ∨ k = 4 ∨ k = 5 ∨ k = 6 ∨ k = 7 := by omega
    have HK := Lib.hid hk
    clear hk
    go_wp2_with fail
    refine (yes1 (x := true) (by go_simp) rfl).mono ?_
    rintro e w4 ⟨rfl, rfl⟩
    go_wp2_with fail
    refine (HF.out _).mono ?_
    rintro e w5 ⟨rfl, rfl⟩
    have hk8 : k < 8 := hkl.2
    have hsz1 : (w3.alloc (.cells #[.bool true] 4)).heap.size = w3.heap.size + 1 := by simp
    have f0 := form_cells k hk0 hk8 (w3.alloc (.cells #[.bool true] 4)) 0 (by omega)
    have f1 := form_cells k hk0 hk8 (w3.alloc (.cells #[.bool true] 4)) 1 (by omega)
    have f2 := form_cells k hk0 hk8 (w3.alloc (.cells #[.bool true] 4)) 2 (by omega)
    rw [hsz1] at f0 f1 f2
    rw [Nat.add_zero] at f0
    have g0 : ((w3.alloc (.cells #[.bool true] 4)).alloc (.cells formsC 83)).cell? ⟨w3.heap.size + 1, k.toNat * 3, none⟩ = some (.string ⟨(form k).word.toArray⟩) := f0
    have g1 : ((w3.alloc (.cells #[.bool true] 4)).alloc (.cells formsC 83)).cell? ⟨w3.heap.size + 1, k.toNat * 3 + 1, none⟩ = some (.int .i64 (form k).n) := f1
    have g2 : ((w3.alloc (.cells #[.bool true] 4)).alloc (.cells formsC 83)).cell? ⟨w3.heap.size + 1, k.toNat * 3 + 2, none⟩ = some (.bool (form k).text) := f2
    clear f0 f1 f2 hsz1
    have HKp : Hid (∀ o o' o'' q : Obj, ((((w3.alloc o).alloc o').alloc o'').alloc q).heap[w3.heap.size + 1 + 1]? = some o'' ∧ ((((w3.alloc o).alloc o').alloc o'').alloc q).heap[w3.heap.size + 1 + 1 + 1]? = some q ∧ ((((w3.alloc o).alloc o').alloc o'').alloc q).heap[w.heap.size]? = some (.cells #[.slice (some ⟨wb, 0, none⟩) (r.length + 1) (r.length + 1)] 26 (0, 0)) ∧ ((((w3.alloc o).alloc o').alloc o'').alloc q).heap[w.heap.size + 1]? = some zeroBlk ∧ Below w.heap.size w ((((w3.alloc o).alloc o').alloc o'').alloc q)) := Lib.hid fun o o' o'' q => by
      have hsz := lt_of_block H13.out
      have hbb : Below w3.heap.size w3 ((((w3.alloc o).alloc o').alloc o'').alloc q) := (((((Below.refl _ _).alloc (Nat.le_refl _) _).alloc (by simp) _).alloc (by simp; omega) _).alloc (by simp; omega) _)
      refine ⟨?_, new4 _ _ _ _ _, (hbb.block _ (lt_of_block H03.out)).trans H03.out, (hbb.block _ hsz).trans H13.out, below_th HB3.out hbb⟩
      have := heap_alloc_new ((w3.alloc o).alloc o') o''
      refine (Below.heap_alloc _ _ _ (by simp)).trans ?_
      simpa using this
    have hsz3 := lt_of_block H13.out
    go_upto_region 4 with fail
    obtain ⟨e4, e5, e0, e1, eb⟩ := HKp.out (.cells #[.bool true] 4) (.cells formsC 83) (.cells #[.string ⟨(form k).word.toArray⟩, .int .i64 (form k).n, .bool (form k).text] 83) (.cells #[.int .u8 k, .int .i64 0, .int .i64 0, .string ⟨#[]⟩] 44)
    have HW : Hid (RaW w _ (w3.heap.size + 1 + 1) (w3.heap.size + 1 + 1 + 1) wb (form k) ⟨k, 0, 0, []⟩ (.slice (some ⟨wb, 0, none⟩) (r.length + 1) (r.length + 1)) (x :: r)) := Lib.hid ⟨e4, e5, e0, e1, (eb.block _ hwb).trans HRow.out, eb, by omega, by omega, hwb⟩
    generalize (((w3.alloc (.cells #[.bool true] 4)).alloc (.cells formsC 83)).alloc (.cells #[.string ⟨(form k).word.toArray⟩, .int .i64 (form k).n, .bool (form k).text] 83)).alloc (.cells #[.int .u8 k, .int .i64 0, .int .i64 0, .string ⟨#[]⟩] 44) = W4 at *
    clear e4 e5 e0 e1 eb g0 g1 g2 HKp H03 H13 HB3 HF HRow
    generalize hb4 : w3.heap.size + 1 + 1 = b4 at *
    clear hb4 hsz3
    have HRR : Hid (readA (x :: r) = readR k r) := Lib.hid (HRd.out.trans (if_pos hk0))
    go_cut [] (fun wx => ∃ o, RaW w wx b4 (b4 + 1) wb (form k) ⟨k, 0, 0, []⟩ (.slice (some ⟨wb, o, none⟩) r.length r.length) (x :: r) ∧ (∀ i t, r[i]? = some t → (x :: r)[o + i]? = some t))
    case first =>
      have hs := cell_of_one HW.out.s
      have hsf := free_of_one HW.out.s
      cases r with
      | nil =>
        simp only [List.length_nil, Nat.zero_add] at *
        go_wp2_with fail
        go_meet
        exact ⟨0, HW.out.setS _, fun i t h => by simp at h⟩
      | cons y r' =>
        simp only [List.length_cons] at *
        go_wp2_with fail
        go_meet
        exact ⟨1, HW.out.setS _, fun i t h => by rw [Nat.add_comm]; exact h⟩
    case rest =>
      obtain ⟨o, hw5, hro⟩ := hcut
      have HW5 := Lib.hid hw5
      have HRo := Lib.hid hro
      have hF : (form k).n ≤ 2 := (form_at k hk0 hk8).2.1
      have HRk : Hid (readR k r = if (form k).text then match r with | [y] => (bytesT y).map fun b => ⟨k, 0, 0, b⟩ | _ => none
        else if r.length = (form k).n then match r with | [] => some ⟨k, 0, 0, []⟩ | [y] => (numT y).map fun a => ⟨k, a, 0, []⟩ | y :: z :: _ => (numT y).bind fun a => (numT z).map fun b => ⟨k, a, b, []⟩
        else none) := Lib.hid rfl
      have hft : (form k).text = (form k).text := rfl
      clear hw5 hro HW
      generalize form k = F at *
      obtain ⟨fw, fn, ft⟩ := F
      simp only at hF HRk
      have hs := cell_of_one HW5.out.s
      have hsf := free_of_one HW5.out.s
      obtain ⟨q1, q2⟩ : wc.cell? ⟨b4, 1, none⟩ = some (.int .i64 fn) ∧ wc.cell? ⟨b4, 2, none⟩ = some (.bool ft) := by
        unfold World.cell?
        rw [HW5.out.f]
        exact ⟨rfl, rfl⟩
      clear hft
      cases ft with
      | true =>
        rw [if_pos rfl] at HRk
        by_cases hl1 : r.length = 1
        · obtain ⟨y, rfl⟩ : ∃ y, r = [y] := by
            match r, hl1 with
            | [y], _ => exact ⟨y, rfl⟩
          have hyc : wc.cell? ⟨wb, o, none⟩ = some (.string ⟨y.toArray⟩) := HW5.out.row.cell (by have := HRo.out 0 y rfl; simpa using this)
          have hzs := lt_of_block HW5.out.s
          have hzw : wb < wc.heap.size := by have := HW5.out.ltw; omega
          have HBy : Hid (∀ V, Calls Tryz.prog 45 #[.string ⟨y.toArray⟩] V (Got str (bytesT y) V)) := Lib.hid fun V => bytes y (HLen.out y (by simp)) V
          have HW6 := Lib.hid (HW5.out.step ((Below.refl wc.heap.size wc).alloc (Nat.le_refl _) (.cells #[.bool true] 4)))
          have hl2 : (([y] : List Tx).length : Int) = 1 := rfl
          simp only [List.length_cons, List.length_nil, Nat.zero_add] at *
          go_wp2_with fail
          refine (yes1 (x := true) (by go_simp) rfl).mono ?_
          rintro e w4 ⟨rfl, rfl⟩
          go_wp2_with fail
          refine (HBy.out _).mono ?_
          generalize wc.alloc (.cells #[.bool true] 4) = w6 at *
          rintro e w7 ⟨he, hb⟩
          have HW7 := Lib.hid (HW6.out.step hb)
          clear hb
          cases hbt : bytesT y with
          | none =>
            have hV : readA [x, y] = none := HRR.out.trans (HRk.out.trans (by rw [hbt]; rfl))
            have HV := Lib.hid hV
            rw [hbt] at he
            subst he
            clear hV hbt
            exact ⟨rfl, HNo.out _ HV.out HW7.out.b⟩
          | some b =>
            have hV : readA [x, y] = some ⟨k, 0, 0, b⟩ := HRR.out.trans (HRk.out.trans (by rw [hbt]; rfl))
            have HV := Lib.hid hV
            rw [hbt] at he
            subst he
            clear hV hbt hs hsf hyc q1 q2 hzs hzw
            have r0 := HW7.out
            obtain ⟨a0, a1, a2, a3, af⟩ := act_cells r0.a
            obtain ⟨z0, z1, z2, z3, zf⟩ := act_cells r0.z
            have d1 : ¬ b4 + 1 = w.heap.size + 1 := by have := r0.lt4; omega
            have hz7 := lt_of_block r0.a
            have HFinB := Lib.hid (r0.setA (a' := ⟨k, 0, 0, b⟩) 3 (str b) rfl)
            clear r0
            unfold str at HFinB ⊢
            go_wp2_with fail
            exact bodyPost_ret (v := acV ⟨k, 0, 0, b⟩) (by simp [results, Tryz.results46, go_sem, z0, z1, z2, z3, acV, acC, str]) rfl (HYes.out ⟨k, 0, 0, b⟩ _ HV.out (HFinB.out.fin _ _ _ _))
        · have hV : readA (x :: r) = none := HRR.out.trans (HRk.out.trans (by
            match r, hl1 with
            | [], _ => rfl
            | [y], h => exact absurd rfl h
            | _ :: _ :: _, _ => rfl))
          have HV := Lib.hid hV
          have hl2 : ((r.length : Int) == 1) = false := beq_eq_false_iff_ne.2 (by omega)
          clear hV hl1
          go_wp2_with fail
          refine (no1 (x := false) (by go_simp) rfl).mono ?_
          rintro e w4 ⟨rfl, rfl⟩
          go_wp2
          exact ⟨rfl, HNo.out _ HV.out (HW5.out.b.alloc HW5.out.b.size _)⟩
      | false =>
        rw [if_neg (by simp)] at HRk
        have hzs := lt_of_block HW5.out.s
        by_cases hl : r.length = fn
        · have hl2 : ((r.length : Int) == (fn : Int)) = true := beq_iff_eq.2 (by omega)
          rw [if_pos hl] at HRk
          subst hl
          have HW6 := Lib.hid (HW5.out.step ((Below.refl wc.heap.size wc).alloc (Nat.le_refl _) (.cells #[.bool true] 4)))
          go_wp2_with fail
          refine (yes1 (x := true) (by go_simp) rfl).mono ?_
          rintro e w4 ⟨rfl, rfl⟩
          have hzb : b4 < (wc.alloc (.cells #[.bool true] 4)).heap.size := lt_of_block HW6.out.f
          have q6 : (wc.alloc (.cells #[.bool true] 4)).cell? ⟨b4, 1, none⟩ = some (.int .i64 r.length) := by
            unfold World.cell?
            rw [HW6.out.f]
            rfl
          clear q1 q2 hs hsf
          generalize wc.alloc (.cells #[.bool true] 4) = w6 at *
          have hwr : ∀ i t, r[i]? = some t → w6.cell? ⟨wb, o + i, none⟩ = some (str t) := fun i t ht => HW6.out.row.cell (HRo.out i t ht)
          have HWr := Lib.hid hwr
          clear hwr
          match r, hF with
          | [], _ =>
            have hV : readA [x] = some ⟨k, 0, 0, []⟩ := HRR.out.trans HRk.out
            have HV := Lib.hid hV
            clear hV
            simp only [List.length_cons, List.length_nil, Nat.zero_add, Nat.reduceAdd] at *
            go_wp2_with fail
            have hp := heap_alloc_new w6 (.cells #[.pointer (some ⟨b4 + 1, 1, none⟩), .pointer (some ⟨b4 + 1, 2, none⟩)] 106)
            have HW7 := Lib.hid (HW6.out.step ((Below.refl w6.heap.size w6).alloc (Nat.le_refl _) (.cells #[.pointer (some ⟨b4 + 1, 1, none⟩), .pointer (some ⟨b4 + 1, 2, none⟩)] 106)))
            generalize w6.alloc (.cells #[.pointer (some ⟨b4 + 1, 1, none⟩), .pointer (some ⟨b4 + 1, 2, none⟩)] 106) = w7 at *
            generalize w6.heap.size = mp at *
            obtain ⟨p0, p1⟩ : w7.cell? ⟨mp, 0, none⟩ = some (.pointer (some ⟨b4 + 1, 1, none⟩)) ∧ w7.cell? ⟨mp, 1, none⟩ = some (.pointer (some ⟨b4 + 1, 2, none⟩)) := by
              unfold World.cell?
              rw [hp]
              exact ⟨rfl, rfl⟩
            have HP := Lib.hid hp
            have hs := cell_of_one HW7.out.s
            obtain ⟨a0, a1, a2, a3, af⟩ := act_cells HW7.out.a
            obtain ⟨z0, z1, z2, z3, zf⟩ := act_cells HW7.out.z
            have d1 : ¬ b4 + 1 = w.heap.size + 1 := by have := HW7.out.lt4; omega
            have hz7 := lt_of_block HW7.out.a
            clear hp q6 hzb hl2
            refine wp_loop_rounds 1 ?_
            rw [rounds_succ]
            go_wp2_with fail
            exact bodyPost_ret (v := acV ⟨k, 0, 0, []⟩) (by simp [results, Tryz.results46, go_sem, z0, z1, z2, z3, acV, acC, str]) rfl (HYes.out ⟨k, 0, 0, []⟩ _ HV.out (HW7.out.fin _ _ _ _))
          | [y], _ =>
            have HNy := Lib.hid fun V (hV : Laid V) => number y (HLen.out y (by simp)) hV
            have hyc : Hid (∀ V, RowT V wb [x, y] → V.cell? ⟨wb, o, none⟩ = some (.string ⟨y.toArray⟩)) := Lib.hid fun V hV => hV.cell (by have := HRo.out 0 y rfl; simpa using this)
            simp only [List.length_cons, List.length_nil, Nat.zero_add, Nat.reduceAdd] at *
            go_wp2_with fail
            have hp := heap_alloc_new w6 (.cells #[.pointer (some ⟨b4 + 1, 1, none⟩), .pointer (some ⟨b4 + 1, 2, none⟩)] 106)
            have HW7 := Lib.hid (HW6.out.step ((Below.refl w6.heap.size w6).alloc (Nat.le_refl _) (.cells #[.pointer (some ⟨b4 + 1, 1, none⟩), .pointer (some ⟨b4 + 1, 2, none⟩)] 106)))
            generalize w6.alloc (.cells #[.pointer (some ⟨b4 + 1, 1, none⟩), .pointer (some ⟨b4 + 1, 2, none⟩)] 106) = w7 at *
            generalize w6.heap.size = mp at *
            obtain ⟨p0, p1⟩ : w7.cell? ⟨mp, 0, none⟩ = some (.pointer (some ⟨b4 + 1, 1, none⟩)) ∧ w7.cell? ⟨mp, 1, none⟩ = some (.pointer (some ⟨b4 + 1, 2, none⟩)) := by
              unfold World.cell?
              rw [hp]
              exact ⟨rfl, rfl⟩
            have HP := Lib.hid hp
            have hs := cell_of_one HW7.out.s
            obtain ⟨a0, a1, a2, a3, af⟩ := act_cells HW7.out.a
            obtain ⟨z0, z1, z2, z3, zf⟩ := act_cells HW7.out.z
            have d1 : ¬ b4 + 1 = w.heap.size + 1 := by have := HW7.out.lt4; omega
            have hz7 := lt_of_block HW7.out.a
            clear hp q6 hzb hl2
            have hy7 := hyc.out w7 HW7.out.row
            refine wp_loop_rounds 2 ?_
            rw [rounds_succ]
            go_wp2_with fail
            refine (HNy.out w7 (H.out.step HW7.out.b)).mono ?_
            rintro e w8 ⟨he, hb⟩
            cases hny : numT y with
            | none =>
              have HV : Hid (readA [x, y] = none) := Lib.hid (HRR.out.trans (HRk.out.trans (by rw [hny]; rfl)))
              rw [hny] at he
              subst he
              clear hny
              exact ⟨rfl, HNo.out _ HV.out (below_th HW7.out.b hb)⟩
            | some v =>
              have HV : Hid (readA [x, y] = some ⟨k, v, 0, []⟩) := Lib.hid (HRR.out.trans (HRk.out.trans (by rw [hny]; rfl)))
              rw [hny] at he
              subst he
              have HW8 := Lib.hid (HW7.out.step hb)
              have HW9 := Lib.hid (HW8.out.setA (a' := ⟨k, v, 0, []⟩) 1 (.int .i64 v) rfl)
              obtain ⟨a0, a1, a2, a3, af⟩ := act_cells HW8.out.a
              obtain ⟨z0, z1, z2, z3, zf⟩ := act_cells HW8.out.z
              have hz8 := lt_of_block HW8.out.a
              clear hny hb hs hy7 p0 p1
              unfold numV
              go_wp2_with fail
              rw [rounds_succ]
              go_wp2_with fail
              exact bodyPost_ret (v := acV ⟨k, v, 0, []⟩) (by simp [results, Tryz.results46, go_sem, z0, z1, z2, z3, acV, acC, str]) rfl (HYes.out ⟨k, v, 0, []⟩ _ HV.out (HW9.out.fin _ _ _ _))
          | [y, z], _ =>
            have HNy := Lib.hid fun V (hV : Laid V) => number y (HLen.out y (by simp)) hV
            have HNz := Lib.hid fun V (hV : Laid V) => number z (HLen.out z (by simp)) hV
            have hzc : Hid (∀ V, RowT V wb [x, y, z] → V.cell? ⟨wb, o + 1, none⟩ = some (.string ⟨z.toArray⟩)) := Lib.hid fun V hV => hV.cell (HRo.out 1 z rfl)
            have hyc : Hid (∀ V, RowT V wb [x, y, z] → V.cell? ⟨wb, o, none⟩ = some (.string ⟨y.toArray⟩)) := Lib.hid fun V hV => hV.cell (by have := HRo.out 0 y rfl; simpa using this)
            simp only [List.length_cons, List.length_nil, Nat.zero_add, Nat.reduceAdd] at *
            go_wp2_with fail
            have hp := heap_alloc_new w6 (.cells #[.pointer (some ⟨b4 + 1, 1, none⟩), .pointer (some ⟨b4 + 1, 2, none⟩)] 106)
            have HW7 := Lib.hid (HW6.out.step ((Below.refl w6.heap.size w6).alloc (Nat.le_refl _) (.cells #[.pointer (some ⟨b4 + 1, 1, none⟩), .pointer (some ⟨b4 + 1, 2, none⟩)] 106)))
            generalize w6.alloc (.cells #[.pointer (some ⟨b4 + 1, 1, none⟩), .pointer (some ⟨b4 + 1, 2, none⟩)] 106) = w7 at *
            generalize w6.heap.size = mp at *
            obtain ⟨p0, p1⟩ : w7.cell? ⟨mp, 0, none⟩ = some (.pointer (some ⟨b4 + 1, 1, none⟩)) ∧ w7.cell? ⟨mp, 1, none⟩ = some (.pointer (some ⟨b4 + 1, 2, none⟩)) := by
              unfold World.cell?
              rw [hp]
              exact ⟨rfl, rfl⟩
            have HP := Lib.hid hp
            have hs := cell_of_one HW7.out.s
            obtain ⟨a0, a1, a2, a3, af⟩ := act_cells HW7.out.a
            obtain ⟨z0, z1, z2, z3, zf⟩ := act_cells HW7.out.z
            have d1 : ¬ b4 + 1 = w.heap.size + 1 := by have := HW7.out.lt4; omega
            have hz7 := lt_of_block HW7.out.a
            clear hp q6 hzb hl2
            have hy7 := hyc.out w7 HW7.out.row
            refine wp_loop_rounds 3 ?_
            rw [rounds_succ]
            go_wp2_with fail
            refine (HNy.out w7 (H.out.step HW7.out.b)).mono ?_
            rintro e w8 ⟨he, hb⟩
            cases hny : numT y with
            | none =>
              have HV : Hid (readA [x, y, z] = none) := Lib.hid (HRR.out.trans (HRk.out.trans (by rw [hny]; rfl)))
              rw [hny] at he
              subst he
              clear hny
              exact ⟨rfl, HNo.out _ HV.out (below_th HW7.out.b hb)⟩
            | some v =>
              rw [hny] at he
              subst he
              have HW8 := Lib.hid (HW7.out.step hb)
              have hmb : mp ≠ b4 + 1 := fun e => by
                have h1 := HP.out
                rw [e, HW7.out.a] at h1
                cases h1
              have HW9 := Lib.hid (HW8.out.setA (a' := ⟨k, v, 0, []⟩) 1 (.int .i64 v) rfl)
              have HP9 : Hid ((w8.setCell ⟨b4 + 1, 1, none⟩ (.int .i64 v)).heap[mp]? = some (.cells #[.pointer (some ⟨b4 + 1, 1, none⟩), .pointer (some ⟨b4 + 1, 2, none⟩)] 106 (0, 0))) := Lib.hid ((Below.heap_setCell _ _ _ _ (fun e => hmb e)).trans ((hb.block _ (lt_of_block HP.out)).trans HP.out))
              obtain ⟨a0, a1, a2, a3, af⟩ := act_cells HW8.out.a
              have hz8 := lt_of_block HW8.out.a
              clear hb hs hy7 p0 p1 z0 z1 z2 z3 zf hmb
              have HNy2 := Lib.hid hny
              clear hny
              unfold numV
              go_wp2_with fail
              rw [rounds_succ]
              generalize w8.setCell ⟨b4 + 1, 1, none⟩ (.int .i64 v) = w9 at *
              obtain ⟨p0, p1⟩ : w9.cell? ⟨mp, 0, none⟩ = some (.pointer (some ⟨b4 + 1, 1, none⟩)) ∧ w9.cell? ⟨mp, 1, none⟩ = some (.pointer (some ⟨b4 + 1, 2, none⟩)) := by
                unfold World.cell?
                rw [HP9.out]
                exact ⟨rfl, rfl⟩
              have hs := cell_of_one HW9.out.s
              have hz9 := hzc.out w9 HW9.out.row
              clear a0 a1 a2 a3 af hz8
              go_wp2_with fail
              refine (HNz.out w9 (H.out.step HW9.out.b)).mono ?_
              rintro e wA ⟨he, hb⟩
              cases hnz : numT z with
              | none =>
                have HV : Hid (readA [x, y, z] = none) := Lib.hid (HRR.out.trans (HRk.out.trans (by rw [HNy2.out, hnz]; rfl)))
                rw [hnz] at he
                subst he
                clear hnz
                exact ⟨rfl, HNo.out _ HV.out (below_th HW9.out.b hb)⟩
              | some u =>
                have HV : Hid (readA [x, y, z] = some ⟨k, v, u, []⟩) := Lib.hid (HRR.out.trans (HRk.out.trans (by rw [HNy2.out, hnz]; rfl)))
                rw [hnz] at he
                subst he
                have HWA := Lib.hid (HW9.out.step hb)
                have HWB := Lib.hid (HWA.out.setA (a' := ⟨k, v, u, []⟩) 2 (.int .i64 u) rfl)
                obtain ⟨a0, a1, a2, a3, af⟩ := act_cells HWA.out.a
                obtain ⟨z0, z1, z2, z3, zf⟩ := act_cells HWA.out.z
                have hz8 := lt_of_block HWA.out.a
                clear hnz hb hs hz9 p0 p1
                unfold numV
                go_wp2_with fail
                rw [rounds_succ]
                go_wp2_with fail
                exact bodyPost_ret (v := acV ⟨k, v, u, []⟩) (by simp [results, Tryz.results46, go_sem, z0, z1, z2, z3, acV, acC, str]) rfl (HYes.out ⟨k, v, u, []⟩ _ HV.out (HWB.out.fin _ _ _ _))
          | _ :: _ :: _ :: _, h => simp at h
        · have HV := Lib.hid (HRR.out.trans (HRk.out.trans (if_neg hl)))
          have hl2 : ((r.length : Int) == (fn : Int)) = false := beq_eq_false_iff_ne.2 (by omega)
          clear hl
          go_wp2_with fail
          refine (no1 (x := false) (by go_simp) rfl).mono ?_
          rintro e w4 ⟨rfl, rfl⟩
          go_wp2
          exact ⟨rfl, HNo.out _ HV.out (HW5.out.b.alloc HW5.out.b.size _)⟩
  · have HV := Lib.hid (HRd.out.trans (if_neg hk0))
    go_wp2_with fail
    refine (no1 (x := false) (by go_simp) rfl).mono ?_
    rintro e w4 ⟨rfl, rfl⟩
    go_wp2
    exact ⟨rfl, HNo.out _ HV.out (HB3.out.alloc HB3.out.size _)⟩
end Go.Proofs.YtohlgcdailconaaGreatDoor.Scr
