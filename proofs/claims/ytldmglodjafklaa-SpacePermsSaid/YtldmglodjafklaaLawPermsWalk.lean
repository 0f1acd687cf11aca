/- The plain law and the walk of aediculelaw05.SpacePerms. -/
import Derived.Test.YtldmglodjafklaaSpcAlive
import Derived.OpenShut
namespace Go.Proofs.Ytldmglodjafklaa.Sp
open Go.RowKit
set_option linter.unusedVariables false
def twoP (b c : Nat) (p q : Int) : List Pg := [pgNew 1024 b p, pgNew 1280 c q]
def hasP (p need : Int) : Bool := bits .and .u8 p need == need
def mayL (p q addr e need : Int) : Bool := (decide (1280 ≤ addr) || hasP p need) && (decide (e ≤ 1280) || hasP q need) && decide (e ≤ 1536)
theorem m1 (p : Int) (b : Nat) (h : p ≤ 7) : mapE [] 1024 p = 0 ∧ mapA [] 1024 b p = [pgNew 1024 b p] := by
  have e : mapE [] 1024 p = 0 := by unfold mapE; rw [if_neg (by simp [mayB]; omega)]; rfl
  exact ⟨e, by unfold mapA; rw [e]; rfl⟩
theorem m2 (p q : Int) (b c : Nat) (h : q ≤ 7) : mapE [pgNew 1024 b p] 1280 q = 0 ∧ mapA [pgNew 1024 b p] 1280 c q = twoP b c p q := by
  have e : mapE [pgNew 1024 b p] 1280 q = 0 := by unfold mapE; rw [if_neg (by simp [mayB]; omega)]; rfl
  exact ⟨e, by unfold mapA; rw [e]; rfl⟩
theorem okAt_two (b c : Nat) (p q need x : Int) (h : 1024 ≤ x) : okAt (twoP b c p q) need x = if x < 1280 then hasP p need else if x < 1536 then hasP q need else false := by
  unfold okAt pageAt atAddr twoP hasP
  simp only [pgNew, List.find?_cons, List.find?_nil]
  by_cases h1 : x < 1280
  · rw [if_pos h1, show ((1024 : Int) == x - x % 256) = true by simp; omega]
  · rw [if_neg h1, show ((1024 : Int) == x - x % 256) = false by simp; omega]
    by_cases h2 : x < 1536
    · rw [if_pos h2, show ((1280 : Int) == x - x % 256) = true by simp; omega]
    · rw [if_neg h2, show ((1280 : Int) == x - x % 256) = false by simp; omega]
theorem fits_two (b c : Nat) (p q need addr : Int) (n : Nat) (h0 : 1024 ≤ addr) (h1 : addr < 1536) (hn : 1 ≤ n) : fitsB (twoP b c p q) addr n need = mayL p q addr (addr + n) need := by
  rw [Bool.eq_iff_iff]
  unfold mayL
  constructor
  · intro h
    have g : ∀ k, k < n → okAt (twoP b c p q) need (addr + k) = true := fun k hk => fitsB_at hk h
    have gl := g (n - 1) (by omega)
    have g0 := g 0 (by omega)
    rw [okAt_two _ _ _ _ _ _ (by omega)] at g0 gl
    simp only [Bool.and_eq_true, Bool.or_eq_true, decide_eq_true_eq]
    refine ⟨⟨?_, ?_⟩, ?_⟩
    · by_cases a : 1280 ≤ addr
      · exact .inl a
      · rw [if_pos (by omega)] at g0; exact .inr g0
    · by_cases a : addr + n ≤ 1280
      · exact .inl a
      · rw [if_neg (by omega)] at gl
        split at gl
        · exact .inr gl
        · cases gl
    · by_cases a : addr + ((n - 1 : Nat) : Int) < 1280
      · omega
      · rw [if_neg a] at gl
        split at gl
        · omega
        · cases gl
  · intro h
    simp only [Bool.and_eq_true, Bool.or_eq_true, decide_eq_true_eq] at h
    unfold fitsB
    rw [List.all_eq_true]
    intro k hk
    have hk := List.mem_range.1 hk
    rw [okAt_two _ _ _ _ _ _ (by omega)]
    by_cases a : addr + (k : Int) < 1280
    · rw [if_pos a]
      rcases h.1.1 with g | g
      · omega
      · exact g
    · rw [if_neg a, if_pos (by omega)]
      rcases h.1.2 with g | g
      · omega
      · exact g
theorem fitsE_two (b c : Nat) (p q need addr : Int) (n : Nat) (h0 : 1024 ≤ addr) (h1 : addr < 1536) (hn : 1 ≤ n) : (fitsE (twoP b c p q) addr n need == 0) = mayL p q addr (addr + n) need := by
  rw [← fits_two b c p q need addr n h0 h1 hn]
  unfold fitsE
  cases fitsB (twoP b c p q) addr n need <;> rfl
theorem getE_two (b c : Nat) (p q need addr : Int) (n : Nat) (h0 : 1024 ≤ addr) (h1 : addr < 1536) (hn : 1 ≤ n) (hn2 : n ≤ 1048576) : (getE (twoP b c p q) addr n need == 0) = mayL p q addr (addr + n) need := by
  rw [← fitsE_two b c p q need addr n h0 h1 hn]
  unfold getE
  rw [if_neg (by omega), Int.toNat_natCast]
theorem lawMay (p q addr e need : Int) (w : World) : Calls Try.prog 14 #[.int .u8 p, .int .u8 q, .int .u32 addr, .int .u32 e, .int .u8 need] w fun x w' => x = .returned (.bool (mayL p q addr e need)) ∧ w = w' := by
  have hp : (bits .and .u8 p need == need) = hasP p need := rfl
  have hq : (bits .and .u8 q need == need) = hasP q need := rfl
  have Hu := Lib.hid (show mayL p q addr e need = ((decide (1280 ≤ addr) || hasP p need) && (decide (e ≤ 1280) || hasP q need) && decide (e ≤ 1536)) from rfl)
  by_cases a : 1280 ≤ addr <;> by_cases b : e ≤ 1280 <;> by_cases c : e ≤ 1536
  all_goals
    have Ha := Lib.hid a
    have Hb := Lib.hid b
    have Hc := Lib.hid c
    cases hh : hasP p need
    all_goals
      cases gg : hasP q need
      all_goals
        have Hh := Lib.hid hh
        have Hg := Lib.hid gg
        first
        | omega
        | (go_enter Try.func14, Try.ntmps14
           go_wp2
           go_ret
           exact ⟨ret_bool (by rw [Hu.out, Hh.out, Hg.out]; simp [Ha.out, Hb.out, Hc.out]), rfl⟩)
def zeroS (n : Nat) : ByteArray := strOfNums (List.replicate n 0)
theorem zeroS_size (n : Nat) : (zeroS n).size = n := by unfold zeroS; rw [strOfNums_size, List.length_replicate]
theorem run_zeroS (n : Nat) (W : World) (c : Nat) : (convert 32 9 (.slice (some ⟨W.heap.size, 0, none⟩) n c)).run Try.prog (W.alloc (.cells (fillL [] n).toArray 5)) = .ok (.string (zeroS n)) (W.alloc (.cells (fillL [] n).toArray 5)) := by
  refine run_convert_bytes_arg (P := Try.prog) _ 32 5 Try.underlying32 Try.underlying5 W.heap.size 0 n c (List.replicate n 0) List.length_replicate (fun i hi => ?_) 9 Try.underlying9
  unfold World.cell?
  rw [heap_alloc_new, fillL_zero]
  simp [hi]
set_option maxRecDepth 100000 in
theorem spacePerms (p q at_ n : Int) (hp : (Lit.int .u8 p).wf = true) (hq : (Lit.int .u8 q).wf = true) (ha : (Lit.int .u16 at_).wf = true) (hn : (Lit.int .u8 n).wf = true) (w : World) :
    Calls Try.prog 3 #[.int .u8 p, .int .u8 q, .int .u16 at_, .int .u8 n] w fun e w' => e = .returned (.bool true) ∧ Below w.heap.size w w' := by
  have p0 := bounds_u8 hp
  have q0 := bounds_u8 hq
  have a0 := bounds_u16 ha
  have n0 := bounds_u8 hn
  clear hp hq ha hn
  obtain ⟨m, hm⟩ : ∃ m : Nat, 1 + n % 40 = (m : Int) := ⟨(1 + n % 40).toNat, by omega⟩
  obtain ⟨addr, haddr⟩ : ∃ addr : Int, 1024 + at_ % 512 = addr := ⟨_, rfl⟩
  have g0 : 1024 ≤ addr := by omega
  have g1 : addr < 1536 := by omega
  have g2 : 1 ≤ m := by omega
  have g3 : m ≤ 40 := by omega
  obtain ⟨p', hp'⟩ : ∃ x : Int, p % 8 = x := ⟨_, rfl⟩
  obtain ⟨q', hq'⟩ : ∃ x : Int, q % 8 = x := ⟨_, rfl⟩
  have p1 : 0 ≤ p' ∧ p' ≤ 7 := by omega
  have q1 : 0 ≤ q' ∧ q' ≤ 7 := by omega
  have hmk := fun W => run_made m (by omega) W
  have hzs := fun W c => run_zeroS m W c
  go_enter Try.func3, Try.ntmps3
  go_wp2_with fail
  refine (o_new _).mono ?_
  rintro e w1 ⟨rfl, h1⟩
  go_wp2_with fail
  refine (o_map h1 1024 p' (by omega) (by omega) p1.1 (by omega)).mono ?_
  rintro e w2 ⟨rfl, h2⟩
  rw [(m1 p' 0 p1.2).1]
  rw [(m1 p' _ p1.2).2] at h2
  go_wp2_with fail
  refine (o_map h2 1280 q' (by omega) (by omega) q1.1 (by omega)).mono ?_
  rintro e w3 ⟨rfl, h3⟩
  rw [(m2 p' q' _ 0 q1.2).1]
  rw [(m2 p' q' _ _ q1.2).2] at h3
  have e1 := getE_two w1.heap.size w2.heap.size p' q' 1 addr m g0 g1 g2 (by omega)
  have e2 := getE_two w1.heap.size w2.heap.size p' q' 0 addr m g0 g1 g2 (by omega)
  have e3 := getE_two w1.heap.size w2.heap.size p' q' 4 addr 8 g0 g1 (by omega) (by omega)
  have e4 := fitsE_two w1.heap.size w2.heap.size p' q' 2 addr m g0 g1 g2
  simp only [Int.cast_ofNat_Int] at e3
  go_wp2_with fail
  refine (o_read h3 addr m (by omega) (by omega)).mono ?_
  rintro e w4 ⟨rfl, h4⟩
  go_wp2_with fail
  refine (o_look h4 addr m (by omega) (by omega)).mono ?_
  rintro e w5 ⟨rfl, h5⟩
  go_wp2_with fail
  refine (o_fetch h5 addr (by omega) (by omega)).mono ?_
  rintro e w6 ⟨rfl, h6⟩
  go_wp2_with fail
  have h6' := h6.below ((Below.refl _ _).alloc (Nat.le_refl _) (.cells (fillL [] m).toArray 5))
  refine (o_write h6' addr (zeroS m) (by omega) (by omega) (by rw [zeroS_size]; omega)).mono ?_
  rintro e w7 ⟨rfl, h7⟩
  rw [zeroS_size]
  clear hmk hzs
  go_wp2_with (first
    | (go_at_call 14; (with_reducible refine (lawMay _ _ _ _ _ _).mono ?_); rintro e w8 ⟨rfl, rfl⟩)
    | (go_at_call 15; (with_reducible refine (alive _).mono ?_); rintro e w8 ⟨rfl, hb⟩))
  go_ret
  exact ⟨rfl, h7.bel.trans ((by assumption : Below w7.heap.size w7 _).mono h7.bel.size)⟩
end Go.Proofs.Ytldmglodjafklaa.Sp
