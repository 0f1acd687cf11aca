/- script's number, bytes, words: what a word is. -/
import Derived.Test.YtohlgcdailconaaDoorScr
import Derived.Test.YtohlgcdailconaaDoorScrC
import Derived.Test.YtohlgcdailconaaDoorShelf
import Derived.StillTailTactics
import Derived.Lib.AppendIntMem
import Derived.Lib.AtoiErrMem
import Derived.Lib.AtoiAllCases
namespace Go.Proofs.YtohlgcdailconaaDoor.Scr
open Go.RowKit Lib
set_option linter.unusedVariables false
set_option linter.unusedSimpArgs false
/-- What the library's variables hold. -/
structure Laid (w : World) : Prop where
  len : ∃ m, w.cell? ⟨0, 0, none⟩ = some (.int .i64 m)
  tab : Lib.TabIs Tryd.prog w "internal/strconv.uint64pow10" .u64 Lib.pow10Tab
  syn : ∃ te pe, w.cell? ⟨4, 0, none⟩ = some (.iface te pe)
  rng : ∃ te pe, w.cell? ⟨5, 0, none⟩ = some (.iface te pe)
  big : 8 ≤ w.heap.size
theorem gTab : Tryd.prog.globalNamed "internal/strconv.uint64pow10" = some 1 := by kernel_rfl
theorem Laid.mod {F : Nat → Prop} {w w' : World} (h : Laid w) (hm : Mod F w w') (hF : ∀ k, k < 8 → ¬ F k) : Laid w' := by
  have hb : ∀ k, k < 8 → w'.heap[k]? = w.heap[k]? := fun k hk => hm.block k (by have := h.big; omega) (hF k hk)
  have hc : ∀ k, k < 8 → w'.cell? ⟨k, 0, none⟩ = w.cell? ⟨k, 0, none⟩ := fun k hk => by unfold World.cell?; rw [hb k hk]
  refine ⟨?_, ?_, ?_, ?_, Nat.le_trans h.big hm.size⟩
  · rw [hc _ (by decide)]; exact h.len
  · have ht := h.tab
    unfold Lib.TabIs World.var? at *
    rw [gTab] at *
    simp only [Option.bind_some] at *
    rw [hb _ (by decide)]
    exact ht
  · rw [hc _ (by decide)]; exact h.syn
  · rw [hc _ (by decide)]; exact h.rng
theorem Laid.below {B : Nat} {w w' : World} (h : Laid w) (hb : Below B w w') (hB : 8 ≤ B) : Laid w' :=
  h.mod (F := fun k => 8 ≤ k) ⟨hb.os, hb.tape, hb.output, hb.size, fun k hk hn => hb.block k (by omega)⟩ fun k hk => by omega
theorem Laid.step {w w' : World} (h : Laid w) (hb : Below w.heap.size w w') : Laid w' := h.below hb h.big
theorem itoa (n : Int) (h0 : -9223372036854775808 ≤ n) (h1 : n ≤ 9223372036854775807) {w : World} (h : Laid w) :
    Calls Tryd.prog 12 #[.int .i64 n] w fun e w' => e = .returned (str (Lib.itoa n)) ∧ Below w.heap.size w w' :=
  (Tryd.strconv_Itoa n h0 h1 w h.tab).mono fun e w' ⟨he, k, os, hw⟩ => ⟨he, by rw [hw]; exact below_grow _ w (Nat.le_refl _) k os⟩
/-- How Atoi ends: the number, and whether there is an error. -/
def AtoiPost (t : Tx) (w : World) (e : Ending) (w' : World) : Prop :=
  ∃ (v : Int) (x : Value), e = .returned (.tuple #[.int .i64 v, x]) ∧ (match Lib.atoiAll t with | .ok u => v = u ∧ x = .nilIface | _ => ∃ te pe, x = .iface te pe) ∧ -9223372036854775808 ≤ v ∧ v ≤ 9223372036854775807 ∧ Below w.heap.size w w'
theorem atoi (t : Tx) (ht : t.length ≤ 1048576) {w : World} (h : Laid w) : Calls Tryd.prog 57 #[str t] w (AtoiPost t w) := by
  have hs : (⟨t.toArray⟩ : ByteArray).size = t.length := by show t.toArray.size = _; simp
  have hd : (⟨t.toArray⟩ : ByteArray).data.toList = t := by simp
  cases ha : Lib.atoiAll t with
  | ok v =>
    refine (Tryd.strconv_Atoi_ok ⟨t.toArray⟩ (by rw [hs]; omega) v (by rw [hd]; exact ha) w).mono fun e w' ⟨he, hw⟩ => ⟨v, .nilIface, he, ?_, (Lib.atoiAll_bounds ha).1, (Lib.atoiAll_bounds ha).2, ?_⟩
    · rw [ha]; exact ⟨rfl, rfl⟩
    · rcases hw with rfl | ⟨q, rfl⟩
      · exact Below.refl _ _
      · exact Lib.bytesWorld_below _ _ _
  | range =>
    obtain ⟨te, pe, hc⟩ := h.rng
    refine (Tryd.strconv_Atoi_range ⟨t.toArray⟩ (by rw [hs]; omega) (by rw [hd]; exact ha) _ w hc (.inr ⟨te, pe, rfl⟩)).mono fun e w' ⟨N, he, _, _, hb⟩ => ⟨_, _, he, ?_, (Lib.atoiSat_bounds _).1, (Lib.atoiSat_bounds _).2, hb⟩
    rw [ha]; exact ⟨_, _, rfl⟩
  | _ =>
    obtain ⟨te, pe, hc⟩ := h.syn
    refine (Tryd.strconv_Atoi_syntax ⟨t.toArray⟩ (by rw [hs]; omega) (by rw [hd]; exact ha) _ w hc (.inr ⟨te, pe, rfl⟩)).mono fun e w' ⟨N, he, _, _, hb⟩ => ⟨_, _, he, ?_, by decide, by decide, hb⟩
    rw [ha]; exact ⟨_, _, rfl⟩
/-- What a reading of a word leaves: its value, or the reading ends. -/
def Got {X : Type} (f : X → Value) (o : Option X) (w : World) (e : Ending) (w' : World) : Prop := e = (match o with | some x => .returned (f x) | none => bad) ∧ Below w.heap.size w w'
theorem Got.yes {X : Type} {f : X → Value} {o : Option X} {x : X} {w w' : World} (h : o = some x) (hb : Below w.heap.size w w') : Got f o w (.returned (f x)) w' := by subst h; exact ⟨rfl, hb⟩
theorem Got.no {X : Type} {f : X → Value} {o : Option X} {w w' : World} (h : o = none) (hb : Below w.heap.size w w') : Got f o w bad w' := by subst h; exact ⟨rfl, hb⟩
theorem cells1 {w : World} {b : Nat} {x : Bool} (h : w.cell? ⟨b, 0, none⟩ = some (.bool x)) : ∀ (i : Nat) y, [x][i]? = some y → w.cell? ⟨b, i, none⟩ = some (.bool y) := fun i y hy => by
  cases i with
  | zero => simp at hy; subst hy; exact h
  | succ i => simp at hy
theorem cells2 {w : World} {b : Nat} {x y : Bool} (h : w.cell? ⟨b, 0, none⟩ = some (.bool x)) (h1 : w.cell? ⟨b, 1, none⟩ = some (.bool y)) : ∀ (i : Nat) z, [x, y][i]? = some z → w.cell? ⟨b, i, none⟩ = some (.bool z) := fun i z hz => by
  rcases i with _ | _ | i
  · simp at hz; subst hz; exact h
  · simp at hz; subst hz; exact h1
  · simp at hz
theorem cells3 {w : World} {b : Nat} {x y z : Bool} (h : w.cell? ⟨b, 0, none⟩ = some (.bool x)) (h1 : w.cell? ⟨b, 1, none⟩ = some (.bool y)) (h2 : w.cell? ⟨b, 2, none⟩ = some (.bool z)) : ∀ (i : Nat) u, [x, y, z][i]? = some u → w.cell? ⟨b, i, none⟩ = some (.bool u) := fun i u hz => by
  rcases i with _ | _ | _ | i
  · simp at hz; subst hz; exact h
  · simp at hz; subst hz; exact h1
  · simp at hz; subst hz; exact h2
  · simp at hz
def YesP (w : World) (e : Ending) (w' : World) : Prop := e = .returned (.tuple #[]) ∧ w = w'
def NoP (w : World) (e : Ending) (w' : World) : Prop := e = .panicked [{ v := wrongV, recovered := false }] ∧ w = w'
theorem need_yes {w : World} {b n c : Nat} {l : List Bool} (hc : ∀ (i : Nat) x, l[i]? = some x → w.cell? ⟨b, i, none⟩ = some (.bool x)) (hn : n = l.length) (hl : l.length ≤ 100) (h : l.all id = true) :
    Calls Tryd.prog 30 #[.slice (some ⟨b, 0, none⟩) n c] w (YesP w) := (need hn hl hc).mono fun e w' ⟨he, hw⟩ => ⟨by rw [he, h]; rfl, hw⟩
theorem need_no {w : World} {b n c : Nat} {l : List Bool} (hc : ∀ (i : Nat) x, l[i]? = some x → w.cell? ⟨b, i, none⟩ = some (.bool x)) (hn : n = l.length) (hl : l.length ≤ 100) (h : l.all id = false) :
    Calls Tryd.prog 30 #[.slice (some ⟨b, 0, none⟩) n c] w (NoP w) := (need hn hl hc).mono fun e w' ⟨he, hw⟩ => ⟨by rw [he, h]; rfl, hw⟩
theorem yes1 {w : World} {b : Nat} {x : Bool} (h : w.cell? ⟨b, 0, none⟩ = some (.bool x)) (hx : x = true) : Calls Tryd.prog 30 #[.slice (some ⟨b, 0, none⟩) 1 1] w (YesP w) := need_yes (cells1 h) rfl (by simp) (by simp [hx])
theorem no1 {w : World} {b : Nat} {x : Bool} (h : w.cell? ⟨b, 0, none⟩ = some (.bool x)) (hx : x = false) : Calls Tryd.prog 30 #[.slice (some ⟨b, 0, none⟩) 1 1] w (NoP w) := need_no (cells1 h) rfl (by simp) (by simp [hx])
theorem yes2 {w : World} {b : Nat} {x y : Bool} (h : w.cell? ⟨b, 0, none⟩ = some (.bool x)) (h1 : w.cell? ⟨b, 1, none⟩ = some (.bool y)) (hx : (x && y) = true) : Calls Tryd.prog 30 #[.slice (some ⟨b, 0, none⟩) 2 2] w (YesP w) := need_yes (cells2 h h1) rfl (by simp) (by simpa using hx)
theorem no2 {w : World} {b : Nat} {x y : Bool} (h : w.cell? ⟨b, 0, none⟩ = some (.bool x)) (h1 : w.cell? ⟨b, 1, none⟩ = some (.bool y)) (hx : (x && y) = false) : Calls Tryd.prog 30 #[.slice (some ⟨b, 0, none⟩) 2 2] w (NoP w) := need_no (cells2 h h1) rfl (by simp) (by simpa [Bool.and_assoc] using hx)
theorem yes3 {w : World} {b : Nat} {x y z : Bool} (h : w.cell? ⟨b, 0, none⟩ = some (.bool x)) (h1 : w.cell? ⟨b, 1, none⟩ = some (.bool y)) (h2 : w.cell? ⟨b, 2, none⟩ = some (.bool z)) (hx : (x && y && z) = true) : Calls Tryd.prog 30 #[.slice (some ⟨b, 0, none⟩) 3 3] w (YesP w) := need_yes (cells3 h h1 h2) rfl (by simp) (by simpa [Bool.and_assoc, and_assoc] using hx)
theorem no3 {w : World} {b : Nat} {x y z : Bool} (h : w.cell? ⟨b, 0, none⟩ = some (.bool x)) (h1 : w.cell? ⟨b, 1, none⟩ = some (.bool y)) (h2 : w.cell? ⟨b, 2, none⟩ = some (.bool z)) (hx : (x && y && z) = false) : Calls Tryd.prog 30 #[.slice (some ⟨b, 0, none⟩) 3 3] w (NoP w) := need_no (cells3 h h1 h2) rfl (by simp) (by cases x <;> cases y <;> cases z <;> simp_all)
theorem toList_tx (a : Tx) : (⟨a.toArray⟩ : ByteArray).toList = a := by rw [ByteArray.toList_eq]
theorem beq_tx (a b : Tx) : ((⟨a.toArray⟩ : ByteArray).toList == (⟨b.toArray⟩ : ByteArray).toList) = decide (a = b) := by
  rw [toList_tx, toList_tx]
  by_cases h : a = b
  · rw [decide_eq_true h]; exact beq_iff_eq.2 h
  · rw [decide_eq_false h]; exact beq_eq_false_iff_ne.2 h
def numV (v : Int) : Value := .int .i64 v
theorem number (t : Tx) (ht : t.length ≤ 1048576) {w : World} (h : Laid w) : Calls Tryd.prog 40 #[str t] w (Got numV (numT t) w) := by
  have HA := Lib.hid (fun V (hV : Laid V) => atoi t ht hV)
  have H := Lib.hid h
  have HSt := Lib.hid (fun V (hV : Below w.heap.size w V) => h.step hV)
  have HYes := Lib.hid fun v V (hv : numT t = some v) (hb : Below w.heap.size w V) => Got.yes (f := numV) hv hb
  have HNo := Lib.hid fun V (hv : numT t = none) (hb : Below w.heap.size w V) => Got.no (f := numV) hv hb
  generalize Got numV (numT t) w = PQ at *
  clear h
  unfold str numV at *
  go_enter Tryd.func40, Tryd.ntmps40
  go_wp2_with fail
  refine (HA.out _ H.out).mono ?_
  rintro e w1 ⟨v, x, rfl, hx, v0, v1, hb⟩
  have HB := Lib.hid hb
  have HI := Lib.hid (itoa v v0 v1 (HSt.out _ hb))
  clear hb
  cases ha : Lib.atoiAll t with
  | ok u =>
    rw [ha] at hx
    obtain ⟨rfl, rfl⟩ := hx
    have HX := Lib.hid ha
    clear ha
    unfold str at HI
    go_wp2_with fail
    refine HI.out.mono ?_
    rintro e w2 ⟨rfl, hb⟩
    have HB2 := Lib.hid (below_th HB.out hb)
    clear hb
    by_cases hv : Lib.itoa v = t
    · have HV : Hid (numT t = some v) := Lib.hid (by unfold numT; rw [HX.out]; exact if_pos hv)
      have hbq : (Lib.itoa v == t) = true := beq_iff_eq.2 hv
      clear hv
      go_wp2_with fail
      refine (yes1 (x := true) (by go_simp) rfl).mono ?_
      rintro e w3 ⟨rfl, rfl⟩
      go_wp2
      exact HYes.out _ _ HV.out (HB2.out.alloc HB2.out.size _)
    · have HV : Hid (numT t = none) := Lib.hid (by unfold numT; rw [HX.out]; exact if_neg hv)
      have hbq : (Lib.itoa v == t) = false := beq_eq_false_iff_ne.2 hv
      clear hv
      go_wp2_with fail
      refine (no1 (x := false) (by go_simp) rfl).mono ?_
      rintro e w3 ⟨rfl, rfl⟩
      go_wp2
      exact ⟨rfl, HNo.out _ HV.out (HB2.out.alloc HB2.out.size _)⟩
  | range =>
    rw [ha] at hx
    obtain ⟨te, pe, rfl⟩ := hx
    have HV : Hid (numT t = none) := Lib.hid (by unfold numT; rw [ha])
    clear ha
    go_wp2_with fail
    refine (no1 (x := false) (by go_simp) rfl).mono ?_
    rintro e w3 ⟨rfl, rfl⟩
    go_wp2
    exact ⟨rfl, HNo.out _ HV.out (HB.out.alloc HB.out.size _)⟩
  | _ =>
    rw [ha] at hx
    obtain ⟨te, pe, rfl⟩ := hx
    have HV : Hid (numT t = none) := Lib.hid (by unfold numT; rw [ha])
    clear ha
    go_wp2_with fail
    refine (no1 (x := false) (by go_simp) rfl).mono ?_
    rintro e w3 ⟨rfl, rfl⟩
    go_wp2
    exact ⟨rfl, HNo.out _ HV.out (HB.out.alloc HB.out.size _)⟩
theorem size_tx (t : Tx) : (⟨t.toArray⟩ : ByteArray).size = t.length := by show t.toArray.size = _; simp
theorem hex (t : Tx) (ht : t.length ≤ 1048576) (w : World) : Calls Tryd.prog 13 #[str t] w fun e w' => e = .returned (str (hexT t)) ∧ Below w.heap.size w w' :=
  (Word.hex ⟨t.toArray⟩ (by rw [size_tx]; exact ht) w).mono fun e w' ⟨he, hb⟩ => ⟨he, hb⟩
theorem unhex (t : Tx) (ht : t.length ≤ 1048576) (w : World) : Calls Tryd.prog 43 #[str t] w fun e w' => e = .returned (match unhexT t with | some r => .tuple #[str r, .int .i64 0] | none => .tuple #[str [], .int .i64 2]) ∧ Below w.heap.size w w' := by
  have hs := size_tx t
  by_cases ho : (((⟨t.toArray⟩ : ByteArray).size : Int) % 2 != 0) = true
  · have hn : unhexT t = none := by
      unfold unhexT
      rw [Word.unhex_odd _ (by rw [nums_length]; simp at ho; omega)]
      rfl
    rw [hn]
    exact (Word.unhexOdd ⟨t.toArray⟩ (by rw [hs]; exact ht) ho w).mono fun e w' ⟨he, hw⟩ => ⟨he, hw ▸ Below.refl _ _⟩
  · refine (Word.unhex ⟨t.toArray⟩ (by rw [hs]; exact ht) (by simpa using ho) w).mono fun e w' ⟨he, hb⟩ => ⟨?_, hb⟩
    rw [he]
    unfold Word.unhexOut unhexT
    cases Word.unhexL (nums ⟨t.toArray⟩) <;> rfl
theorem cutPrefix (t : Tx) (w : World) : Calls Tryd.prog 42 #[str t, .string ⟨#[120]⟩] w fun e w' => e = .returned (match t with | [] => .tuple #[str [], .bool false] | c :: r => if c = 120 then .tuple #[str r, .bool true] else .tuple #[str (c :: r), .bool false]) ∧ w = w' := by
  refine (Tryd.strings_CutPrefix ⟨t.toArray⟩ ⟨#[120]⟩ w).mono ?_
  rintro e w' ⟨rfl, rfl⟩
  refine ⟨?_, rfl⟩
  cases t with
  | nil => rfl
  | cons c r =>
    by_cases hc : c = 120
    · subst hc
      simp [Lib.trimPrefix, Lib.hasPrefix, str]
    · have h2 : ¬ (120 : UInt8) = c := fun e => hc e.symm
      simp [Lib.trimPrefix, Lib.hasPrefix, str, hc, h2, List.isPrefixOf]
theorem bytes (t : Tx) (ht : t.length ≤ 1048576) (w : World) : Calls Tryd.prog 31 #[str t] w (Got str (bytesT t) w) := by
  have HYes := Lib.hid fun v V (hv : bytesT t = some v) (hb : Below w.heap.size w V) => Got.yes (f := str) hv hb
  have HNo := Lib.hid fun V (hv : bytesT t = none) (hb : Below w.heap.size w V) => Got.no (f := str) hv hb
  generalize Got str (bytesT t) w = PQ at *
  have HC := Lib.hid (cutPrefix t w)
  have HU : ∀ r : Tx, r.length ≤ 1048576 → Hid (Calls Tryd.prog 43 #[str r] w fun e w' => e = .returned (match unhexT r with | some r => .tuple #[str r, .int .i64 0] | none => .tuple #[str [], .int .i64 2]) ∧ Below w.heap.size w w') := fun r hr => Lib.hid (unhex r hr w)
  cases t with
  | nil =>
    have HV : Hid (bytesT [] = none) := Lib.hid rfl
    have H := HU [] (by simp)
    clear HU
    unfold str at *
    go_enter Tryd.func31, Tryd.ntmps31
    go_wp2_with fail
    refine HC.out.mono ?_
    rintro e w1 ⟨rfl, rfl⟩
    go_wp2_with fail
    refine H.out.mono ?_
    rintro e w1 ⟨he, hb⟩
    have HB := Lib.hid hb
    clear hb
    cases hu : unhexT [] with
    | some r =>
      rw [hu] at he
      subst he
      clear hu
      go_wp2_with fail
      refine (no2 (x := false) (y := true) (by go_simp) (by go_simp) rfl).mono ?_
      rintro e w3 ⟨rfl, rfl⟩
      go_wp2
      exact ⟨rfl, HNo.out _ HV.out (HB.out.alloc HB.out.size _)⟩
    | none =>
      rw [hu] at he
      subst he
      clear hu
      go_wp2_with fail
      refine (no2 (x := false) (y := false) (by go_simp) (by go_simp) rfl).mono ?_
      rintro e w3 ⟨rfl, rfl⟩
      go_wp2
      exact ⟨rfl, HNo.out _ HV.out (HB.out.alloc HB.out.size _)⟩
  | cons c r =>
    by_cases hc : c = 120
    · subst hc
      have HBy : Hid (bytesT (120 :: r) = unhexT r) := Lib.hid rfl
      have H := HU r (by simp at ht; omega)
      clear HU
      simp only [if_pos] at HC
      unfold str at *
      go_enter Tryd.func31, Tryd.ntmps31
      go_wp2_with fail
      refine HC.out.mono ?_
      rintro e w1 ⟨rfl, rfl⟩
      go_wp2_with fail
      refine H.out.mono ?_
      rintro e w1 ⟨he, hb⟩
      have HB := Lib.hid hb
      clear hb
      cases hu : unhexT r with
      | some u =>
        rw [hu] at he
        subst he
        have HV := Lib.hid (HBy.out.trans hu)
        clear hu
        go_wp2_with fail
        refine (yes2 (x := true) (y := true) (by go_simp) (by go_simp) rfl).mono ?_
        rintro e w3 ⟨rfl, rfl⟩
        go_wp2
        exact HYes.out _ _ HV.out (HB.out.alloc HB.out.size _)
      | none =>
        rw [hu] at he
        subst he
        have HV := Lib.hid (HBy.out.trans hu)
        clear hu
        go_wp2_with fail
        refine (no2 (x := true) (y := false) (by go_simp) (by go_simp) rfl).mono ?_
        rintro e w3 ⟨rfl, rfl⟩
        go_wp2
        exact ⟨rfl, HNo.out _ HV.out (HB.out.alloc HB.out.size _)⟩
    · have HV : Hid (bytesT (c :: r) = none) := Lib.hid (if_neg hc)
      have H := HU (c :: r) ht
      clear HU
      simp only [if_neg hc] at HC
      clear hc
      unfold str at *
      go_enter Tryd.func31, Tryd.ntmps31
      go_wp2_with fail
      refine HC.out.mono ?_
      rintro e w1 ⟨rfl, rfl⟩
      go_wp2_with fail
      refine H.out.mono ?_
      rintro e w1 ⟨he, hb⟩
      have HB := Lib.hid hb
      clear hb
      cases hu : unhexT (c :: r) with
      | some u =>
        rw [hu] at he
        subst he
        clear hu
        go_wp2_with fail
        refine (no2 (x := false) (y := true) (by go_simp) (by go_simp) rfl).mono ?_
        rintro e w3 ⟨rfl, rfl⟩
        go_wp2
        exact ⟨rfl, HNo.out _ HV.out (HB.out.alloc HB.out.size _)⟩
      | none =>
        rw [hu] at he
        subst he
        clear hu
        go_wp2_with fail
        refine (no2 (x := false) (y := false) (by go_simp) (by go_simp) rfl).mono ?_
        rintro e w3 ⟨rfl, rfl⟩
        go_wp2
        exact ⟨rfl, HNo.out _ HV.out (HB.out.alloc HB.out.size _)⟩
/-- A row of texts in a block of its own. -/
def RowT (w : World) (b : Nat) (l : List Tx) : Prop := w.heap[b]? = some (.cells (l.map str).toArray 9 (0, 0))
theorem RowT.cell {w : World} {b : Nat} {l : List Tx} (h : RowT w b l) {i : Nat} {t : Tx} (hi : l[i]? = some t) : w.cell? ⟨b, i, none⟩ = some (str t) := by
  unfold World.cell?
  unfold RowT at h
  rw [h]
  show (l.map str).toArray[i]? = _
  simp [hi]
theorem split_row (t : Tx) : (Lib.splitB ⟨#[32]⟩ 0 (Lib.countB ⟨t.toArray⟩ ⟨#[32]⟩) ⟨t.toArray⟩).map Value.string = (Lib.split t [32]).map str ∧ (Lib.split t [32]).length = Lib.countB ⟨t.toArray⟩ ⟨#[32]⟩ + 1 := by
  have h1 := Lib.splitB_data ⟨#[32]⟩ 0 (Lib.countB ⟨t.toArray⟩ ⟨#[32]⟩) ⟨t.toArray⟩
  have h2 := Lib.splitB_all ⟨#[32]⟩ (by decide) 0 _ ⟨t.toArray⟩ rfl
  have h3 : Lib.split t [32] = (Lib.splitB ⟨#[32]⟩ 0 (Lib.countB ⟨t.toArray⟩ ⟨#[32]⟩) ⟨t.toArray⟩).map (·.data.toList) := h1.symm
  rw [h3]
  refine ⟨?_, by rw [List.length_map]; exact h2⟩
  rw [List.map_map]
  rfl
def WordsPost (t : Tx) (w : World) (e : Ending) (w' : World) : Prop :=
  Below w.heap.size w w' ∧ match wordsT t with | some l => l ≠ [] ∧ ∃ b, e = .returned (.slice (some ⟨b, 0, none⟩) l.length l.length) ∧ RowT w' b l ∧ w.heap.size ≤ b | none => e = bad
theorem words (t : Tx) (ht : t.length ≤ 1048576) {w : World} (h : Laid w) : Calls Tryd.prog 28 #[str t] w (WordsPost t w) := by
  obtain ⟨m, hm⟩ := h.len
  obtain ⟨hr, hl⟩ := split_row t
  have HS := Lib.hid (Tryd.strings_Split ⟨t.toArray⟩ ⟨#[32]⟩ m w (by rw [size_tx]; omega) hm (by decide))
  rw [hr, ← hl] at HS
  have hne : Lib.split t [32] ≠ [] := fun e => by rw [e] at hl; simp at hl
  have HYes := Lib.hid fun l b V (hv : wordsT t = some l) (hn : l ≠ []) (hb : Below w.heap.size w V) (hr : RowT V b l) (hw : w.heap.size ≤ b) => (show WordsPost t w (.returned (.slice (some ⟨b, 0, none⟩) l.length l.length)) V from ⟨hb, by rw [hv]; exact ⟨hn, b, rfl, hr, hw⟩⟩)
  have HNo := Lib.hid fun V (hv : wordsT t = none) (hb : Below w.heap.size w V) => (show WordsPost t w bad V from ⟨hb, by rw [hv]⟩)
  generalize WordsPost t w = PQ at *
  have HW : Hid (wordsT t = if [] ∈ Lib.split t [32] then none else some (Lib.split t [32])) := Lib.hid rfl
  have HN := Lib.hid hne
  have HRow : Hid (RowT (w.alloc (.cells ((Lib.split t [32]).map str).toArray 9)) w.heap.size (Lib.split t [32])) := Lib.hid (heap_alloc_new w _)
  have HLen : Hid ((Lib.split t [32]).length ≤ 9223372036854775807) := Lib.hid (by
    have := Lib.countB_le ⟨#[32]⟩ (by decide) _ ⟨t.toArray⟩ (Nat.le_refl _)
    rw [size_tx] at this
    omega)
  clear hr hl hm h hne
  generalize hl : Lib.split t [32] = l at *
  clear hl
  have HB : Hid (Below w.heap.size w (w.alloc (.cells (l.map str).toArray 9))) := Lib.hid ((Below.refl _ _).alloc (Nat.le_refl _) _)
  have HC : Hid (Calls Tryd.prog 39 #[.slice (some ⟨w.heap.size, 0, none⟩) l.length l.length, .string ⟨#[]⟩] (w.alloc (.cells (l.map str).toArray 9)) fun e w' => e = .returned (.bool (decide (([] : Tx) ∈ l))) ∧ w' = w.alloc (.cells (l.map str).toArray 9)) := Lib.hid (by
    have hlen : (l.map fun x => (⟨x.toArray⟩ : ByteArray)).length = l.length := List.length_map _
    refine (Tryd.slices_Contains_string w.heap.size 0 l.length l.length (l.map fun x => (⟨x.toArray⟩ : ByteArray)) ⟨#[]⟩ _ (by rw [hlen]; exact Nat.le_refl _) HLen.out (fun j hj => ?_)).mono fun e w' ⟨he, hw⟩ => ⟨?_, hw⟩
    · rw [hlen] at hj
      have := HRow.out.cell (List.getElem?_eq_getElem hj)
      rw [Nat.zero_add, this, List.getD, List.getElem?_map, List.getElem?_eq_getElem hj]
      rfl
    · rw [he, List.take_of_length_le (by rw [hlen]; exact Nat.le_refl _)]
      congr 2
      rw [Bool.eq_iff_iff, Lib.containsS_iff, decide_eq_true_iff]
      constructor
      · intro hx
        obtain ⟨x, hx, hy⟩ := List.mem_map.1 hx
        have : x = [] := str_inj (show str x = str [] by unfold str; rw [hy])
        exact this ▸ hx
      · intro hx
        exact List.mem_map.2 ⟨[], hx, rfl⟩)
  generalize hw1 : w.alloc (.cells (l.map str).toArray 9) = w1 at *
  clear hw1
  unfold str at *
  by_cases hin : ([] : Tx) ∈ l
  · have HV : Hid (wordsT t = none) := Lib.hid (by rw [HW.out]; exact if_pos hin)
    rw [decide_eq_true hin] at HC
    clear hin
    go_enter Tryd.func28, Tryd.ntmps28
    go_wp2_with fail
    refine HS.out.mono ?_
    rintro e w2 ⟨rfl, rfl⟩
    go_wp2_with fail
    refine HC.out.mono ?_
    rintro e w2 ⟨rfl, rfl⟩
    go_wp2_with fail
    refine (no1 (x := false) (by go_simp) rfl).mono ?_
    rintro e w3 ⟨rfl, rfl⟩
    go_wp2
    exact ⟨rfl, HNo.out _ HV.out (HB.out.alloc HB.out.size _)⟩
  · have HV : Hid (wordsT t = some l) := Lib.hid (by rw [HW.out]; exact if_neg hin)
    rw [decide_eq_false hin] at HC
    clear hin
    go_enter Tryd.func28, Tryd.ntmps28
    go_wp2_with fail
    refine HS.out.mono ?_
    rintro e w2 ⟨rfl, rfl⟩
    go_wp2_with fail
    refine HC.out.mono ?_
    rintro e w2 ⟨rfl, rfl⟩
    go_wp2_with fail
    refine (yes1 (x := true) (by go_simp) rfl).mono ?_
    rintro e w3 ⟨rfl, rfl⟩
    go_wp2
    exact HYes.out _ _ _ HV.out HN.out (HB.out.alloc HB.out.size _) ((Below.heap_alloc _ _ _ (lt_of_block HRow.out)).trans HRow.out) (Nat.le_refl _)
end Go.Proofs.YtohlgcdailconaaDoor.Scr
