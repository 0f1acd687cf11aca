/- The walks of the document's Bytes, bytes, act, Acts. -/
import Derived.Test.YtohlgcdailconaaGreatDoorScrUx
import Derived.Test.YtohlgcdailconaaGreatDoorWordRefE
namespace Go.Proofs.YtohlgcdailconaaGreatDoor.Scr
open Go.RowKit Lib
set_option linter.unusedVariables false
set_option linter.unusedSimpArgs false
namespace R32
def BytP (t : Tx) (w : World) (e : Ending) (w' : World) : Prop := e = .returned (str (120 :: hexT t)) ∧ Below w.heap.size w w'
theorem hex (t : Tx) (ht : t.length ≤ 65536) (w : World) : Calls Tryz.prog 37 #[str t] w fun e w' => e = .returned (str (hexT t)) ∧ Below w.heap.size w w' :=
  (WordRef.hex ⟨t.toArray⟩ (by rw [size_tx]; exact ht) w).mono fun e w' ⟨he, hb⟩ => ⟨he, hb⟩
theorem bytes' (t : Tx) (ht : t.length ≤ 65536) (w : World) : Calls Tryz.prog 23 #[str t] w (BytP t w) := by
  have HFin := Lib.hid fun V (hb : Below w.heap.size w V) => (show BytP t w (.returned (.string ⟨([120] ++ hexT t).toArray⟩)) V from ⟨rfl, hb⟩)
  generalize BytP t w = PQ at *
  have HH := Lib.hid (hex t ht w)
  have hl := hexT_length t
  have hl' : 1 + (hexT t).length ≤ 9223372036854775807 := by omega
  clear hl
  unfold str at *
  generalize hexT t = x at *
  go_enter Tryz.func23, Tryz.ntmps23
  go_wp2_with fail
  refine HH.out.mono ?_
  rintro e w1 ⟨rfl, hb⟩
  have HB := Lib.hid hb
  clear hb
  go_wp2
  exact HFin.out _ HB.out
/-- What the document's bytes tells of a word. -/
def BytesP (t : Tx) (w : World) (e : Ending) (w' : World) : Prop :=
  Below w.heap.size w w' ∧ ∃ b ok, e = .returned (.tuple #[str b, .bool ok]) ∧ (ok = true ∧ bytesT t = some b ∨ ok = false ∧ bytesT t = none ∧ b = [])
theorem unhex (t : Tx) (ht : t.length ≤ 65536) (w : World) : Calls Tryz.prog 80 #[str t] w fun e w' => e = .returned (match unhexT t with | some r => .tuple #[str r, .int .i64 0] | none => .tuple #[str [], .int .i64 2]) ∧ Below w.heap.size w w' := by
  have hs := size_tx t
  by_cases ho : (((⟨t.toArray⟩ : ByteArray).size : Int) % 2 != 0) = true
  · have hn : unhexT t = none := by
      unfold unhexT
      rw [Word.unhex_odd _ (by rw [nums_length]; simp at ho; omega)]
      rfl
    rw [hn]
    exact (WordRef.unhexOdd ⟨t.toArray⟩ (by rw [hs]; exact ht) ho w).mono fun e w' ⟨he, hw⟩ => ⟨he, hw ▸ Below.refl _ _⟩
  · refine (WordRef.unhex ⟨t.toArray⟩ (by rw [hs]; exact ht) (by simpa using ho) w).mono fun e w' ⟨he, hb⟩ => ⟨?_, hb⟩
    rw [he]
    unfold Word.unhexOut unhexT
    cases Word.unhexL (nums ⟨t.toArray⟩) <;> rfl
theorem tail_tx (c : UInt8) (r : Tx) (w : World) : (Instr.slice 9 (.string ⟨(c :: r).toArray⟩) (some (.int .i64 1)) none none).run Tryz.prog w = .ok (str r) w := by
  have hs := size_tx (c :: r)
  generalize hL : c :: r = L at *
  have h1 : (1 : Int) ≤ L.length := by rw [← hL, List.length_cons]; omega
  have HL := Lib.hid hL
  clear hL
  go_simp
  rw [Lib.extract_eq, ← HL.out]
  simp [str]
theorem bytes (t : Tx) (ht : t.length ≤ 65536) (w : World) : Calls Tryz.prog 64 #[str t] w (BytesP t w) := by
  have HNo := Lib.hid fun V (hb : Below w.heap.size w V) (h : bytesT t = none) => (show BytesP t w (.returned (.tuple #[.string ⟨#[]⟩, .bool false])) V from ⟨hb, [], false, rfl, .inr ⟨rfl, h, rfl⟩⟩)
  have HYes := Lib.hid fun V b (hb : Below w.heap.size w V) (h : bytesT t = some b) => (show BytesP t w (.returned (.tuple #[.string ⟨b.toArray⟩, .bool true])) V from ⟨hb, b, true, rfl, .inl ⟨rfl, h⟩⟩)
  generalize BytesP t w = PQ at *
  unfold str
  cases t with
  | nil =>
    go_enter Tryz.func64, Tryz.ntmps64
    go_wp2
    exact HNo.out _ (Below.refl _ _) rfl
  | cons c r =>
    have hx : ∀ w, (Instr.index 9 (.string ⟨(c :: r).toArray⟩) (.int .i64 0)).run Tryz.prog w = .ok (.int .u8 c.toNat) w := idx_tx (c :: r) 0 c rfl
    have hcut := tail_tx c r
    unfold str at hcut
    have hne : ((c :: r) == []) = false := rfl
    by_cases hc : c = 120
    · have hq : ((c.toNat : Int) != 120) = false := by subst hc; rfl
      have HB0 : Hid (bytesT (c :: r) = unhexT r) := Lib.hid (if_pos hc)
      have HU := Lib.hid (unhex r (by simp at ht; omega) w)
      unfold str at HU
      clear hc
      generalize hL : (c :: r) = L at *
      clear hL
      cases hu : unhexT r with
      | none =>
        have HN : Hid (bytesT L = none) := Lib.hid (HB0.out.trans hu)
        rw [hu] at HU
        clear hu HB0
        go_enter Tryz.func64, Tryz.ntmps64
        go_wp2_with fail
        refine HU.out.mono ?_
        rintro e w1 ⟨rfl, hb⟩
        have HB := Lib.hid hb
        clear hb
        go_wp2
        exact HNo.out _ HB.out HN.out
      | some b =>
        have HN : Hid (bytesT L = some b) := Lib.hid (HB0.out.trans hu)
        rw [hu] at HU
        clear hu HB0
        go_enter Tryz.func64, Tryz.ntmps64
        go_wp2_with fail
        refine HU.out.mono ?_
        rintro e w1 ⟨rfl, hb⟩
        have HB := Lib.hid hb
        clear hb
        go_wp2
        exact HYes.out _ _ HB.out HN.out
    · have hq : ((c.toNat : Int) != 120) = true := by
        simp
        intro e
        exact hc (UInt8.toNat_inj.1 (by rw [show c.toNat = 120 by omega]; rfl))
      have HN : Hid (bytesT (c :: r) = none) := Lib.hid (if_neg hc)
      clear hc
      generalize hL : (c :: r) = L at *
      clear hL
      go_enter Tryz.func64, Tryz.ntmps64
      go_wp2
      exact HNo.out _ (Below.refl _ _) HN.out
end R32
end Go.Proofs.YtohlgcdailconaaGreatDoor.Scr
