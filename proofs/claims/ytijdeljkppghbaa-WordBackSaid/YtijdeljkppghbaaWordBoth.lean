/- The contracts of both sides, joined: one answer for each function, for every input. -/
import Derived.Test.YtijdeljkppghbaaWordRefD
import Derived.Test.YtijdeljkppghbaaWordRefE
namespace Go.Proofs.Ytijdeljkppghbaa.Word
open Go.RowKit
set_option linter.unusedVariables false
def putFits (v n : Int) : Prop := (n = 1 ∧ v < 256) ∨ (n = 2 ∧ v < 65536) ∨ (n = 3 ∧ v < 16777216) ∨ n = 4
instance (v n : Int) : Decidable (putFits v n) := by unfold putFits; infer_instance
def putO (v n : Int) : ByteArray := if putFits v n then putS v n.toNat else ByteArray.empty
def putE (v n : Int) : Int := if putFits v n then 0 else if 1 ≤ n ∧ n ≤ 4 then 5 else 2
def putHO (v n : Int) : ByteArray := if n = 2 ∧ v < 65536 ∨ n = 4 then putHS v n.toNat else ByteArray.empty
def putHE (v n : Int) : Int := if n = 2 ∧ v < 65536 ∨ n = 4 then 0 else if n = 2 then 5 else 2
def getO (s : ByteArray) : Int := if 1 ≤ s.size ∧ s.size ≤ 4 then getV (nums s) else 0
def getE (s : ByteArray) : Int := if 1 ≤ s.size ∧ s.size ≤ 4 then 0 else 2
def getHO (s : ByteArray) : Int := if s.size = 2 ∨ s.size = 4 then getV (nums s).reverse else 0
def getHE (s : ByteArray) : Int := if s.size = 2 ∨ s.size = 4 then 0 else 2
def hexO (s : ByteArray) : ByteArray := strOfNums (hexL (nums s))
def unhexO (s : ByteArray) : ByteArray := match unhexL (nums s) with | some l => strOfNums l | none => ByteArray.empty
def unhexE (s : ByteArray) : Int := match unhexL (nums s) with | some _ => 0 | none => 2
theorem unhexOut_eq (s : ByteArray) : unhexOut (nums s) = .tuple #[.string (unhexO s), .int .i64 (unhexE s)] := by
  unfold unhexOut unhexO unhexE
  split <;> simp_all
theorem unhex_none (s : ByteArray) (ho : ((s.size : Int) % 2 != 0) = true) : unhexL (nums s) = none := unhex_odd _ (by rw [nums_length]; simp at ho; omega)
theorem back {e : Ending} {x y : ByteArray} {a b : Int} {w w' : World} (h : e = .returned (.tuple #[.string x, .int .i64 a]) ∧ w = w') (hx : x = y) (ha : a = b) : e = .returned (.tuple #[.string y, .int .i64 b]) ∧ Below w.heap.size w w' := by
  obtain ⟨rfl, rfl⟩ := h; subst hx ha; exact ⟨rfl, Below.refl _ _⟩
theorem backB {e : Ending} {x y : ByteArray} {a b : Int} {w w' : World} (h : e = .returned (.tuple #[.string x, .int .i64 a]) ∧ Below w.heap.size w w') (hx : x = y) (ha : a = b) : e = .returned (.tuple #[.string y, .int .i64 b]) ∧ Below w.heap.size w w' := by
  obtain ⟨rfl, h⟩ := h; subst hx ha; exact ⟨rfl, h⟩
theorem backI {e : Ending} {x y a b : Int} {w w' : World} (h : e = .returned (.tuple #[.int .u32 x, .int .i64 a]) ∧ w = w') (hx : x = y) (ha : a = b) : e = .returned (.tuple #[.int .u32 y, .int .i64 b]) ∧ Below w.heap.size w w' := by
  obtain ⟨rfl, rfl⟩ := h; subst hx ha; exact ⟨rfl, Below.refl _ _⟩
theorem backIB {e : Ending} {x y a b : Int} {w w' : World} (h : e = .returned (.tuple #[.int .u32 x, .int .i64 a]) ∧ Below w.heap.size w w') (hx : x = y) (ha : a = b) : e = .returned (.tuple #[.int .u32 y, .int .i64 b]) ∧ Below w.heap.size w w' := by
  obtain ⟨rfl, h⟩ := h; subst hx ha; exact ⟨rfl, h⟩
theorem put_any (v n : Int) (h0 : 0 ≤ v) (h1 : v ≤ 4294967295) (w : World) :
    Calls Try.prog 20 #[.int .u32 v, .int .i64 n] w fun e w' => e = .returned (.tuple #[.string (putO v n), .int .i64 (putE v n)]) ∧ Below w.heap.size w w' := by
  by_cases hn : n < 1 ∨ 4 < n
  · have hf : ¬ putFits v n := by unfold putFits; omega
    exact (Word.put_bad v n h0 h1 hn w).mono fun e w' h => back h (by unfold putO; rw [if_neg hf]) (by unfold putE; rw [if_neg hf, if_neg (by omega)])
  · have : n = 1 ∨ n = 2 ∨ n = 3 ∨ n = 4 := by omega
    rcases this with rfl | rfl | rfl | rfl
    · by_cases hv : v < 256
      · have hf : putFits v 1 := by unfold putFits; omega
        exact (Word.put1_ok v h0 h1 (by simp; omega) w).mono fun e w' h => backB h (by unfold putO; rw [if_pos hf]; rfl) (by unfold putE; rw [if_pos hf])
      · have hf : ¬ putFits v 1 := by unfold putFits; omega
        exact (Word.put1_long v h0 h1 (by simp; omega) w).mono fun e w' h => back h (by unfold putO; rw [if_neg hf]) (by unfold putE; rw [if_neg hf, if_pos (by omega)])
    · by_cases hv : v < 65536
      · have hf : putFits v 2 := by unfold putFits; omega
        exact (Word.put2_ok v h0 h1 (by simp; omega) w).mono fun e w' h => backB h (by unfold putO; rw [if_pos hf]; rfl) (by unfold putE; rw [if_pos hf])
      · have hf : ¬ putFits v 2 := by unfold putFits; omega
        exact (Word.put2_long v h0 h1 (by simp; omega) w).mono fun e w' h => back h (by unfold putO; rw [if_neg hf]) (by unfold putE; rw [if_neg hf, if_pos (by omega)])
    · by_cases hv : v < 16777216
      · have hf : putFits v 3 := by unfold putFits; omega
        exact (Word.put3_ok v h0 h1 (by simp; omega) w).mono fun e w' h => backB h (by unfold putO; rw [if_pos hf]; rfl) (by unfold putE; rw [if_pos hf])
      · have hf : ¬ putFits v 3 := by unfold putFits; omega
        exact (Word.put3_long v h0 h1 (by simp; omega) w).mono fun e w' h => back h (by unfold putO; rw [if_neg hf]) (by unfold putE; rw [if_neg hf, if_pos (by omega)])
    · have hf : putFits v 4 := by unfold putFits; omega
      exact (Word.put4_ok v h0 h1 w).mono fun e w' h => backB h (by unfold putO; rw [if_pos hf]; rfl) (by unfold putE; rw [if_pos hf])
theorem putHigh_any (v n : Int) (h0 : 0 ≤ v) (h1 : v ≤ 4294967295) (w : World) :
    Calls Try.prog 22 #[.int .u32 v, .int .i64 n] w fun e w' => e = .returned (.tuple #[.string (putHO v n), .int .i64 (putHE v n)]) ∧ Below w.heap.size w w' := by
  by_cases h2 : n = 2
  · subst h2
    by_cases hv : v < 65536
    · exact (Word.putHigh2 v h0 h1 (by simp; omega) w).mono fun e w' h => backB h (by unfold putHO; rw [if_pos (by omega)]; rfl) (by unfold putHE; rw [if_pos (by omega)])
    · exact (Word.putHigh2_long v h0 h1 (by simp; omega) w).mono fun e w' h => backB h (by unfold putHO; rw [if_neg (by omega)]) (by unfold putHE; rw [if_neg (by omega), if_pos rfl])
  · by_cases h4 : n = 4
    · subst h4
      exact (Word.putHigh4 v h0 h1 w).mono fun e w' h => backB h (by unfold putHO; rw [if_pos (by omega)]; rfl) (by unfold putHE; rw [if_pos (by omega)])
    · exact (Word.putHigh_bad v n h0 h1 (bne_iff_ne.2 h2) (bne_iff_ne.2 h4) w).mono fun e w' h => back h (by unfold putHO; rw [if_neg (by omega)]) (by unfold putHE; rw [if_neg (by omega), if_neg h2])
theorem get_any (s : ByteArray) (hm : s.size ≤ 65536) (w : World) :
    Calls Try.prog 24 #[.string s] w fun e w' => e = .returned (.tuple #[.int .u32 (getO s), .int .i64 (getE s)]) ∧ Below w.heap.size w w' := by
  by_cases h : 1 ≤ s.size ∧ s.size ≤ 4
  · exact (Word.get_ok s h.1 h.2 w).mono fun e w' g => backI g (by unfold getO; rw [if_pos h]) (by unfold getE; rw [if_pos h])
  · exact (Word.get_bad s (by omega) (by unfold maxLen; omega) w).mono fun e w' g => backI g (by unfold getO; rw [if_neg h]) (by unfold getE; rw [if_neg h])
theorem getHigh_any (s : ByteArray) (hm : s.size ≤ 65536) (w : World) :
    Calls Try.prog 26 #[.string s] w fun e w' => e = .returned (.tuple #[.int .u32 (getHO s), .int .i64 (getHE s)]) ∧ Below w.heap.size w w' := by
  by_cases h : s.size = 2 ∨ s.size = 4
  · rcases h with h2 | h4
    · exact (Word.getHigh2 s h2 w).mono fun e w' g => backIB g (by unfold getHO; rw [if_pos (.inl h2)]) (by unfold getHE; rw [if_pos (.inl h2)])
    · exact (Word.getHigh4 s h4 w).mono fun e w' g => backIB g (by unfold getHO; rw [if_pos (.inr h4)]) (by unfold getHE; rw [if_pos (.inr h4)])
  · exact (Word.getHigh_bad s (by unfold maxLen; omega) (bne_iff_ne.2 (by omega)) (bne_iff_ne.2 (by omega)) w).mono fun e w' g => backI g (by unfold getHO; rw [if_neg h]) (by unfold getHE; rw [if_neg h])
theorem hex_any (s : ByteArray) (hm : s.size ≤ 65536) (w : World) :
    Calls Try.prog 30 #[.string s] w fun e w' => e = .returned (.string (hexO s)) ∧ Below w.heap.size w w' := Word.hex s hm w
theorem unhex_any (s : ByteArray) (hm : s.size ≤ 65536) (w : World) :
    Calls Try.prog 28 #[.string s] w fun e w' => e = .returned (.tuple #[.string (unhexO s), .int .i64 (unhexE s)]) ∧ Below w.heap.size w w' := by
  by_cases ho : ((s.size : Int) % 2 != 0) = true
  · have hn := unhex_none s ho
    exact (Word.unhexOdd s hm ho w).mono fun e w' g => back g (by unfold unhexO; rw [hn]) (by unfold unhexE; rw [hn])
  · exact (Word.unhex s hm (by simpa using ho) w).mono fun e w' ⟨g, hb⟩ => ⟨by rw [g, unhexOut_eq], hb⟩
theorem putR_any (v n : Int) (h0 : 0 ≤ v) (h1 : v ≤ 4294967295) (w : World) :
    Calls Try.prog 21 #[.int .u32 v, .int .i64 n] w fun e w' => e = .returned (.tuple #[.string (putO v n), .int .i64 (putE v n)]) ∧ Below w.heap.size w w' := by
  by_cases hn : n < 1 ∨ 4 < n
  · have hf : ¬ putFits v n := by unfold putFits; omega
    exact (WordRef.put_bad v n h0 h1 hn w).mono fun e w' h => back h (by unfold putO; rw [if_neg hf]) (by unfold putE; rw [if_neg hf, if_neg (by omega)])
  · have : n = 1 ∨ n = 2 ∨ n = 3 ∨ n = 4 := by omega
    rcases this with rfl | rfl | rfl | rfl
    · by_cases hv : v < 256
      · have hf : putFits v 1 := by unfold putFits; omega
        exact (WordRef.put1_ok v h0 h1 (by omega) w).mono fun e w' h => backB h (by unfold putO; rw [if_pos hf]; rfl) (by unfold putE; rw [if_pos hf])
      · have hf : ¬ putFits v 1 := by unfold putFits; omega
        exact (WordRef.put1_long v h0 h1 (by omega) w).mono fun e w' h => back h (by unfold putO; rw [if_neg hf]) (by unfold putE; rw [if_neg hf, if_pos (by omega)])
    · by_cases hv : v < 65536
      · have hf : putFits v 2 := by unfold putFits; omega
        exact (WordRef.put2_ok v h0 h1 (by omega) w).mono fun e w' h => backB h (by unfold putO; rw [if_pos hf]; rfl) (by unfold putE; rw [if_pos hf])
      · have hf : ¬ putFits v 2 := by unfold putFits; omega
        exact (WordRef.put2_long v h0 h1 (by omega) w).mono fun e w' h => back h (by unfold putO; rw [if_neg hf]) (by unfold putE; rw [if_neg hf, if_pos (by omega)])
    · by_cases hv : v < 16777216
      · have hf : putFits v 3 := by unfold putFits; omega
        exact (WordRef.put3_ok v h0 h1 (by omega) w).mono fun e w' h => backB h (by unfold putO; rw [if_pos hf]; rfl) (by unfold putE; rw [if_pos hf])
      · have hf : ¬ putFits v 3 := by unfold putFits; omega
        exact (WordRef.put3_long v h0 h1 (by omega) w).mono fun e w' h => back h (by unfold putO; rw [if_neg hf]) (by unfold putE; rw [if_neg hf, if_pos (by omega)])
    · have hf : putFits v 4 := by unfold putFits; omega
      exact (WordRef.put4_ok v h0 h1 w).mono fun e w' h => backB h (by unfold putO; rw [if_pos hf]; rfl) (by unfold putE; rw [if_pos hf])
theorem putHighR_any (v n : Int) (h0 : 0 ≤ v) (h1 : v ≤ 4294967295) (w : World) :
    Calls Try.prog 23 #[.int .u32 v, .int .i64 n] w fun e w' => e = .returned (.tuple #[.string (putHO v n), .int .i64 (putHE v n)]) ∧ Below w.heap.size w w' := by
  by_cases h2 : n = 2
  · subst h2
    by_cases hv : v < 65536
    · exact (WordRef.putHigh2 v h0 h1 hv w).mono fun e w' h => backB h (by unfold putHO; rw [if_pos (by omega)]; rfl) (by unfold putHE; rw [if_pos (by omega)])
    · exact (WordRef.putHigh2_long v h0 h1 (by omega) w).mono fun e w' h => backB h (by unfold putHO; rw [if_neg (by omega)]) (by unfold putHE; rw [if_neg (by omega), if_pos rfl])
  · by_cases h4 : n = 4
    · subst h4
      exact (WordRef.putHigh4 v h0 h1 w).mono fun e w' h => backB h (by unfold putHO; rw [if_pos (by omega)]; rfl) (by unfold putHE; rw [if_pos (by omega)])
    · exact (WordRef.putHigh_bad v n h0 h1 (bne_iff_ne.2 h2) (bne_iff_ne.2 h4) w).mono fun e w' h => back h (by unfold putHO; rw [if_neg (by omega)]) (by unfold putHE; rw [if_neg (by omega), if_neg h2])
theorem getR_any (s : ByteArray) (hm : s.size ≤ 65536) (w : World) :
    Calls Try.prog 25 #[.string s] w fun e w' => e = .returned (.tuple #[.int .u32 (getO s), .int .i64 (getE s)]) ∧ Below w.heap.size w w' := by
  by_cases h : 1 ≤ s.size ∧ s.size ≤ 4
  · exact (WordRef.get_ok s h.1 h.2 w).mono fun e w' g => backI g (by unfold getO; rw [if_pos h]) (by unfold getE; rw [if_pos h])
  · exact (WordRef.get_bad s (by omega) (by unfold maxLen; omega) w).mono fun e w' g => backI g (by unfold getO; rw [if_neg h]) (by unfold getE; rw [if_neg h])
theorem getHighR_any (s : ByteArray) (hm : s.size ≤ 65536) (w : World) :
    Calls Try.prog 27 #[.string s] w fun e w' => e = .returned (.tuple #[.int .u32 (getHO s), .int .i64 (getHE s)]) ∧ Below w.heap.size w w' := by
  by_cases h : s.size = 2 ∨ s.size = 4
  · exact (WordRef.getHigh_ok s h w).mono fun e w' g => backIB g (by unfold getHO; rw [if_pos h]) (by unfold getHE; rw [if_pos h])
  · exact (WordRef.getHigh_bad s (by unfold maxLen; omega) (bne_iff_ne.2 (by omega)) (bne_iff_ne.2 (by omega)) w).mono fun e w' g => backI g (by unfold getHO; rw [if_neg h]) (by unfold getHE; rw [if_neg h])
theorem hexR_any (s : ByteArray) (hm : s.size ≤ 65536) (w : World) :
    Calls Try.prog 31 #[.string s] w fun e w' => e = .returned (.string (hexO s)) ∧ Below w.heap.size w w' := WordRef.hex s hm w
theorem unhexR_any (s : ByteArray) (hm : s.size ≤ 65536) (w : World) :
    Calls Try.prog 29 #[.string s] w fun e w' => e = .returned (.tuple #[.string (unhexO s), .int .i64 (unhexE s)]) ∧ Below w.heap.size w w' := by
  by_cases ho : ((s.size : Int) % 2 != 0) = true
  · have hn := unhex_none s ho
    exact (WordRef.unhexOdd s hm ho w).mono fun e w' g => back g (by unfold unhexO; rw [hn]) (by unfold unhexE; rw [hn])
  · exact (WordRef.unhex s hm (by simpa using ho) w).mono fun e w' ⟨g, hb⟩ => ⟨by rw [g, unhexOut_eq], hb⟩
end Go.Proofs.Ytijdeljkppghbaa.Word
