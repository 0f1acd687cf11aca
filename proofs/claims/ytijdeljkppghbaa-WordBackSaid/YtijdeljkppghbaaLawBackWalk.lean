/- The plain laws and the walk of aediculelaw01.WordBack. -/
import Derived.Test.YtijdeljkppghbaaWordBoth
import Derived.Test.YtijdeljkppghbaaWordAlive
import Derived.OpenShut
namespace Go.Proofs.Ytijdeljkppghbaa.Word
open Go.RowKit
set_option linter.unusedVariables false
theorem hexD_half (n : Int) (h0 : 0 ≤ n) (h1 : n < 16) : halfB (hexD n) = true ∧ halfV (hexD n) = n := by
  have : n = 0 ∨ n = 1 ∨ n = 2 ∨ n = 3 ∨ n = 4 ∨ n = 5 ∨ n = 6 ∨ n = 7 ∨ n = 8 ∨ n = 9 ∨ n = 10 ∨ n = 11 ∨ n = 12 ∨ n = 13 ∨ n = 14 ∨ n = 15 := by omega
  rcases this with rfl | rfl | rfl | rfl | rfl | rfl | rfl | rfl | rfl | rfl | rfl | rfl | rfl | rfl | rfl | rfl <;> decide
theorem half_hexD (c : Int) (h : halfB c = true) : hexD (halfV c) = c := by
  unfold halfB at h
  unfold halfV hexD
  by_cases a : 48 ≤ c ∧ c ≤ 57
  · rw [if_pos a, if_pos (by omega)]; omega
  · by_cases b : 97 ≤ c ∧ c ≤ 102
    · rw [if_neg a, if_pos b, if_neg (by omega)]; omega
    · simp [a, b] at h
theorem unhex_hex (l : List Int) (h : ∀ x, x ∈ l → 0 ≤ x ∧ x < 256) : unhexL (hexL l) = some l := by
  induction l with
  | nil => rfl
  | cons x xs ih =>
    have hx := h x (by simp)
    have h1 := hexD_half (x / 16) (by omega) (by omega)
    have h2 := hexD_half (x % 16) (by omega) (by omega)
    simp only [hexL, unhexL, h1.1, h2.1, Bool.and_self, if_true, h1.2, h2.2, ih fun y hy => h y (by simp [hy]), Option.map_some]
    congr 2
    omega
theorem hex_unhex (l : List Int) : ∀ u, unhexL l = some u → hexL u = l := by
  induction l using unhexL.induct with
  | case1 => intro u h; simp [unhexL] at h; subst h; rfl
  | case2 x => intro u h; simp [unhexL] at h
  | case3 x y r hb ih =>
    intro u h
    simp only [unhexL, hb, if_true] at h
    cases hr : unhexL r with
    | none => rw [hr] at h; simp at h
    | some t =>
      rw [hr] at h
      simp at h
      subst h
      have hb' : halfB x = true ∧ halfB y = true := by simpa using hb
      have v0 := halfV_bd x
      have v1 := halfV_bd y
      show hexD ((16 * halfV x + halfV y) / 16) :: hexD ((16 * halfV x + halfV y) % 16) :: hexL t = _
      rw [show (16 * halfV x + halfV y) / 16 = halfV x by omega, show (16 * halfV x + halfV y) % 16 = halfV y by omega, half_hexD x hb'.1, half_hexD y hb'.2, ih t hr]
  | case4 x y r hb => intro u h; simp only [unhexL, hb] at h; simp at h
theorem hexD_bd (n : Int) (h0 : 0 ≤ n) (h1 : n < 16) : 0 ≤ hexD n ∧ hexD n < 256 := by unfold hexD; split <;> omega
theorem hexL_bd (l : List Int) (h : ∀ x, x ∈ l → 0 ≤ x ∧ x < 256) : ∀ x, x ∈ hexL l → 0 ≤ x ∧ x < 256 := by
  induction l with
  | nil => intro x hx; simp [hexL] at hx
  | cons y ys ih =>
    intro x hx
    have hy := h y (by simp)
    simp only [hexL, List.mem_cons] at hx
    rcases hx with rfl | rfl | hx
    · exact hexD_bd _ (by omega) (by omega)
    · exact hexD_bd _ (by omega) (by omega)
    · exact ih (fun z hz => h z (by simp [hz])) x hx
theorem unhexL_bd (l : List Int) : ∀ u, unhexL l = some u → (∀ x, x ∈ u → 0 ≤ x ∧ x < 256) ∧ 2 * u.length = l.length := by
  induction l using unhexL.induct with
  | case1 => intro u h; simp [unhexL] at h; subst h; simp
  | case2 x => intro u h; simp [unhexL] at h
  | case3 x y r hb ih =>
    intro u h
    simp only [unhexL, hb, if_true] at h
    cases hr : unhexL r with
    | none => rw [hr] at h; simp at h
    | some t =>
      rw [hr] at h
      simp at h
      subst h
      have v0 := halfV_bd x
      have v1 := halfV_bd y
      have := ih t hr
      refine ⟨fun z hz => ?_, by simp; omega⟩
      simp only [List.mem_cons] at hz
      rcases hz with rfl | hz
      · omega
      · exact this.1 z hz
  | case4 x y r hb => intro u h; simp only [unhexL, hb] at h; simp at h
theorem nums_hexO (s : ByteArray) : nums (hexO s) = hexL (nums s) := nums_strOfNums _ (hexL_bd _ (nums_bd s))
theorem hexO_size (s : ByteArray) : (hexO s).size = 2 * s.size := by rw [← nums_length, nums_hexO, hexL_length, nums_length]
theorem unhexO_hexO (s : ByteArray) : unhexO (hexO s) = s := by
  unfold unhexO
  rw [nums_hexO, unhex_hex _ (nums_bd s)]
  exact strOfNums_nums s
theorem unhexE_hexO (s : ByteArray) : unhexE (hexO s) = 0 := by
  unfold unhexE
  rw [nums_hexO, unhex_hex _ (nums_bd s)]
theorem unhexO_none {d : ByteArray} (h : unhexL (nums d) = none) : unhexO d = ByteArray.empty ∧ unhexE d = 2 := by
  unfold unhexO unhexE; rw [h]; exact ⟨rfl, rfl⟩
theorem unhexO_some {d : ByteArray} {u : List Int} (h : unhexL (nums d) = some u) : hexO (unhexO d) = d ∧ unhexE d = 0 ∧ (unhexO d).size ≤ d.size := by
  have hb := unhexL_bd _ u h
  have e : unhexO d = strOfNums u := by unfold unhexO; rw [h]
  refine ⟨?_, by unfold unhexE; rw [h], ?_⟩
  · unfold hexO
    rw [e, nums_strOfNums _ hb.1, hex_unhex _ u h, strOfNums_nums]
  · rw [e, strOfNums_size]
    have := hb.2
    rw [nums_length] at this
    omega
theorem getV_putL (v : Int) (n : Nat) (h0 : 0 ≤ v) (h1 : v ≤ 4294967295) (hn : n = 1 ∧ v < 256 ∨ n = 2 ∧ v < 65536 ∨ n = 3 ∧ v < 16777216 ∨ n = 4) : getV ((putL v).take n) = v := by
  rcases hn with ⟨rfl, _⟩ | ⟨rfl, _⟩ | ⟨rfl, _⟩ | rfl <;> simp only [putL, List.take_succ_cons, List.take_zero, getV] <;> omega
theorem put_facts (v : Int) (n : Nat) (h0 : 0 ≤ v) (h1 : v ≤ 4294967295) (hn : n = 1 ∧ v < 256 ∨ n = 2 ∧ v < 65536 ∨ n = 3 ∧ v < 16777216 ∨ n = 4) :
    putE v n = 0 ∧ (putO v n).size = n ∧ getO (putO v n) = v ∧ getE (putO v n) = 0 := by
  have hf : putFits v n := by unfold putFits; omega
  have e : putO v n = putS v n := by unfold putO; rw [if_pos hf]; rfl
  have hz : (putS v n).size = n := by rw [putS, strOfNums_size, List.length_take]; simp [putL]; omega
  refine ⟨by unfold putE; rw [if_pos hf], by rw [e, hz], ?_, ?_⟩
  · unfold getO; rw [e, hz, if_pos (by omega), nums_putS v h0 h1, getV_putL v n h0 h1 hn]
  · unfold getE; rw [e, hz, if_pos (by omega)]
theorem putHigh_facts (v : Int) (h0 : 0 ≤ v) (h1 : v ≤ 4294967295) : putHE v 4 = 0 ∧ (putHO v 4).size = 4 ∧ getHO (putHO v 4) = v ∧ getHE (putHO v 4) = 0 := by
  have e : putHO v 4 = putHS v 4 := by unfold putHO; rw [if_pos (by omega)]; rfl
  have hz : (putHS v 4).size = 4 := by rw [putHS, strOfNums_size]; rfl
  have hn : nums (putHS v 4) = ((putL v).take 4).reverse := nums_strOfNums _ (reverse_bd (putL_bd v h0 h1 4))
  refine ⟨by unfold putHE; rw [if_pos (by omega)], by rw [e, hz], ?_, ?_⟩
  · unfold getHO; rw [e, hz, if_pos (by omega), hn, List.reverse_reverse, getV_putL v 4 h0 h1 (by omega)]
  · unfold getHE; rw [e, hz, if_pos (by omega)]
theorem wordBack_big (v n : Int) (s d : ByteArray) (hs : s.size < 140737488355328) (hd : d.size < 140737488355328) (hb : 4096 < (s.size : Int) + (d.size : Int)) (w : World) :
    Calls Try.prog 7 #[.int .u32 v, .int .u8 n, .string s, .string d] w fun e w' => e = .returned (.bool true) ∧ Below w.heap.size w w' := by
  go_enter Try.func7, Try.ntmps7
  go_wp2_with (go_at_call 18; (with_reducible refine (alive _).mono ?_); rintro e w1 ⟨rfl, hb⟩)
  go_ret
  exact ⟨rfl, by assumption⟩
set_option maxRecDepth 100000 in
theorem wordBack1_none (v n : Int) (s d : ByteArray) (h0 : 0 ≤ v) (h1 : v ≤ 4294967295) (n0 : 0 ≤ n) (n1 : n ≤ 255) (hn : n % 4 = 0) (hb : s.size + d.size ≤ 4096) (hu : unhexL (nums d) = none) (w : World) :
    Calls Try.prog 7 #[.int .u32 v, .int .u8 n, .string s, .string d] w fun e w' => e = .returned (.bool true) ∧ Below w.heap.size w w' := by
  have hs : s.size ≤ 65536 := by omega
  have hd : d.size ≤ 65536 := by omega
  have l0 : 0 ≤ (v % 256) := by omega
  have l1 : (v % 256) ≤ 4294967295 := by omega
  obtain ⟨p1, p2, p3, p4⟩ := put_facts (v % 256) 1 l0 l1 (by omega)
  have p5 : (putO (v % 256) 1).size ≤ 65536 := by rw [show putO (v % 256) 1 = putO (v % 256) ((1 : Nat) : Int) from rfl, p2]; omega
  obtain ⟨q1, q2, q3, q4⟩ := putHigh_facts v h0 h1
  have q5 : (putHO v 4).size ≤ 65536 := by omega
  have x1 := hexO_size s
  have x2 := unhexO_hexO s
  have x3 := unhexE_hexO s
  have x4 : (hexO s).size ≤ 65536 := by omega
  obtain ⟨u1, u2⟩ := unhexO_none hu
  have P5 := Lib.hid p5
  have Q5 := Lib.hid q5
  have X4 := Lib.hid x4
  skip
  clear p5 q5 x4 hu
  simp only [Int.cast_ofNat_Int] at p1 p2 p3 p4
  go_enter Try.func7, Try.ntmps7
  go_wp2_with (first
    | (go_at_call 18; (with_reducible refine (alive _).mono ?_); rintro e w1 ⟨rfl, hb⟩)
    | (go_at_call 20; (with_reducible refine (put_any (v % 256) 1 l0 l1 _).mono ?_); rintro e w1 ⟨rfl, hb⟩)
    | (go_at_call 24; (with_reducible refine (get_any (putO (v % 256) 1) P5.out _).mono ?_); rintro e w1 ⟨rfl, hb⟩)
    | (go_at_call 22; (with_reducible refine (putHigh_any v 4 h0 h1 _).mono ?_); rintro e w1 ⟨rfl, hb⟩)
    | (go_at_call 26; (with_reducible refine (getHigh_any (putHO v 4) Q5.out _).mono ?_); rintro e w1 ⟨rfl, hb⟩)
    | (go_at_call 30; (with_reducible refine (hex_any s hs _).mono ?_); rintro e w1 ⟨rfl, hb⟩)
    | (go_at_call 28; (with_reducible refine (unhex_any (hexO s) X4.out _).mono ?_); rintro e w1 ⟨rfl, hb⟩)
    | (go_at_call 28; (with_reducible refine (unhex_any d hd _).mono ?_); rintro e w1 ⟨rfl, hb⟩))
  go_ret
  exact ⟨rfl, by repeat (first | exact Below.refl _ _ | assumption | refine below_th (by assumption) ?_)⟩
set_option maxRecDepth 100000 in
theorem wordBack1_some (v n : Int) (s d : ByteArray) (h0 : 0 ≤ v) (h1 : v ≤ 4294967295) (n0 : 0 ≤ n) (n1 : n ≤ 255) (hn : n % 4 = 0) (hb : s.size + d.size ≤ 4096) (u : List Int) (hu : unhexL (nums d) = some u) (w : World) :
    Calls Try.prog 7 #[.int .u32 v, .int .u8 n, .string s, .string d] w fun e w' => e = .returned (.bool true) ∧ Below w.heap.size w w' := by
  have hs : s.size ≤ 65536 := by omega
  have hd : d.size ≤ 65536 := by omega
  have l0 : 0 ≤ (v % 256) := by omega
  have l1 : (v % 256) ≤ 4294967295 := by omega
  obtain ⟨p1, p2, p3, p4⟩ := put_facts (v % 256) 1 l0 l1 (by omega)
  have p5 : (putO (v % 256) 1).size ≤ 65536 := by rw [show putO (v % 256) 1 = putO (v % 256) ((1 : Nat) : Int) from rfl, p2]; omega
  obtain ⟨q1, q2, q3, q4⟩ := putHigh_facts v h0 h1
  have q5 : (putHO v 4).size ≤ 65536 := by omega
  have x1 := hexO_size s
  have x2 := unhexO_hexO s
  have x3 := unhexE_hexO s
  have x4 : (hexO s).size ≤ 65536 := by omega
  obtain ⟨u1, u2, u3⟩ := unhexO_some hu
  have uz : (unhexO d).size ≤ 65536 := by omega
  have P5 := Lib.hid p5
  have Q5 := Lib.hid q5
  have X4 := Lib.hid x4
  have UZ := Lib.hid uz
  clear p5 q5 x4 hu uz u3
  simp only [Int.cast_ofNat_Int] at p1 p2 p3 p4
  go_enter Try.func7, Try.ntmps7
  go_wp2_with (first
    | (go_at_call 18; (with_reducible refine (alive _).mono ?_); rintro e w1 ⟨rfl, hb⟩)
    | (go_at_call 20; (with_reducible refine (put_any (v % 256) 1 l0 l1 _).mono ?_); rintro e w1 ⟨rfl, hb⟩)
    | (go_at_call 24; (with_reducible refine (get_any (putO (v % 256) 1) P5.out _).mono ?_); rintro e w1 ⟨rfl, hb⟩)
    | (go_at_call 22; (with_reducible refine (putHigh_any v 4 h0 h1 _).mono ?_); rintro e w1 ⟨rfl, hb⟩)
    | (go_at_call 26; (with_reducible refine (getHigh_any (putHO v 4) Q5.out _).mono ?_); rintro e w1 ⟨rfl, hb⟩)
    | (go_at_call 30; (with_reducible refine (hex_any s hs _).mono ?_); rintro e w1 ⟨rfl, hb⟩)
    | (go_at_call 28; (with_reducible refine (unhex_any (hexO s) X4.out _).mono ?_); rintro e w1 ⟨rfl, hb⟩)
    | (go_at_call 28; (with_reducible refine (unhex_any d hd _).mono ?_); rintro e w1 ⟨rfl, hb⟩)
    | (go_at_call 30; (with_reducible refine (hex_any (unhexO d) UZ.out _).mono ?_); rintro e w1 ⟨rfl, hb⟩))
  go_ret
  exact ⟨rfl, by repeat (first | exact Below.refl _ _ | assumption | refine below_th (by assumption) ?_)⟩
set_option maxRecDepth 100000 in
theorem wordBack2_none (v n : Int) (s d : ByteArray) (h0 : 0 ≤ v) (h1 : v ≤ 4294967295) (n0 : 0 ≤ n) (n1 : n ≤ 255) (hn : n % 4 = 1) (hb : s.size + d.size ≤ 4096) (hu : unhexL (nums d) = none) (w : World) :
    Calls Try.prog 7 #[.int .u32 v, .int .u8 n, .string s, .string d] w fun e w' => e = .returned (.bool true) ∧ Below w.heap.size w w' := by
  have hs : s.size ≤ 65536 := by omega
  have hd : d.size ≤ 65536 := by omega
  have l0 : 0 ≤ (v % 65536) := by omega
  have l1 : (v % 65536) ≤ 4294967295 := by omega
  obtain ⟨p1, p2, p3, p4⟩ := put_facts (v % 65536) 2 l0 l1 (by omega)
  have p5 : (putO (v % 65536) 2).size ≤ 65536 := by rw [show putO (v % 65536) 2 = putO (v % 65536) ((2 : Nat) : Int) from rfl, p2]; omega
  obtain ⟨q1, q2, q3, q4⟩ := putHigh_facts v h0 h1
  have q5 : (putHO v 4).size ≤ 65536 := by omega
  have x1 := hexO_size s
  have x2 := unhexO_hexO s
  have x3 := unhexE_hexO s
  have x4 : (hexO s).size ≤ 65536 := by omega
  obtain ⟨u1, u2⟩ := unhexO_none hu
  have P5 := Lib.hid p5
  have Q5 := Lib.hid q5
  have X4 := Lib.hid x4
  skip
  clear p5 q5 x4 hu
  simp only [Int.cast_ofNat_Int] at p1 p2 p3 p4
  go_enter Try.func7, Try.ntmps7
  go_wp2_with (first
    | (go_at_call 18; (with_reducible refine (alive _).mono ?_); rintro e w1 ⟨rfl, hb⟩)
    | (go_at_call 20; (with_reducible refine (put_any (v % 65536) 2 l0 l1 _).mono ?_); rintro e w1 ⟨rfl, hb⟩)
    | (go_at_call 24; (with_reducible refine (get_any (putO (v % 65536) 2) P5.out _).mono ?_); rintro e w1 ⟨rfl, hb⟩)
    | (go_at_call 22; (with_reducible refine (putHigh_any v 4 h0 h1 _).mono ?_); rintro e w1 ⟨rfl, hb⟩)
    | (go_at_call 26; (with_reducible refine (getHigh_any (putHO v 4) Q5.out _).mono ?_); rintro e w1 ⟨rfl, hb⟩)
    | (go_at_call 30; (with_reducible refine (hex_any s hs _).mono ?_); rintro e w1 ⟨rfl, hb⟩)
    | (go_at_call 28; (with_reducible refine (unhex_any (hexO s) X4.out _).mono ?_); rintro e w1 ⟨rfl, hb⟩)
    | (go_at_call 28; (with_reducible refine (unhex_any d hd _).mono ?_); rintro e w1 ⟨rfl, hb⟩))
  go_ret
  exact ⟨rfl, by repeat (first | exact Below.refl _ _ | assumption | refine below_th (by assumption) ?_)⟩
set_option maxRecDepth 100000 in
theorem wordBack2_some (v n : Int) (s d : ByteArray) (h0 : 0 ≤ v) (h1 : v ≤ 4294967295) (n0 : 0 ≤ n) (n1 : n ≤ 255) (hn : n % 4 = 1) (hb : s.size + d.size ≤ 4096) (u : List Int) (hu : unhexL (nums d) = some u) (w : World) :
    Calls Try.prog 7 #[.int .u32 v, .int .u8 n, .string s, .string d] w fun e w' => e = .returned (.bool true) ∧ Below w.heap.size w w' := by
  have hs : s.size ≤ 65536 := by omega
  have hd : d.size ≤ 65536 := by omega
  have l0 : 0 ≤ (v % 65536) := by omega
  have l1 : (v % 65536) ≤ 4294967295 := by omega
  obtain ⟨p1, p2, p3, p4⟩ := put_facts (v % 65536) 2 l0 l1 (by omega)
  have p5 : (putO (v % 65536) 2).size ≤ 65536 := by rw [show putO (v % 65536) 2 = putO (v % 65536) ((2 : Nat) : Int) from rfl, p2]; omega
  obtain ⟨q1, q2, q3, q4⟩ := putHigh_facts v h0 h1
  have q5 : (putHO v 4).size ≤ 65536 := by omega
  have x1 := hexO_size s
  have x2 := unhexO_hexO s
  have x3 := unhexE_hexO s
  have x4 : (hexO s).size ≤ 65536 := by omega
  obtain ⟨u1, u2, u3⟩ := unhexO_some hu
  have uz : (unhexO d).size ≤ 65536 := by omega
  have P5 := Lib.hid p5
  have Q5 := Lib.hid q5
  have X4 := Lib.hid x4
  have UZ := Lib.hid uz
  clear p5 q5 x4 hu uz u3
  simp only [Int.cast_ofNat_Int] at p1 p2 p3 p4
  go_enter Try.func7, Try.ntmps7
  go_wp2_with (first
    | (go_at_call 18; (with_reducible refine (alive _).mono ?_); rintro e w1 ⟨rfl, hb⟩)
    | (go_at_call 20; (with_reducible refine (put_any (v % 65536) 2 l0 l1 _).mono ?_); rintro e w1 ⟨rfl, hb⟩)
    | (go_at_call 24; (with_reducible refine (get_any (putO (v % 65536) 2) P5.out _).mono ?_); rintro e w1 ⟨rfl, hb⟩)
    | (go_at_call 22; (with_reducible refine (putHigh_any v 4 h0 h1 _).mono ?_); rintro e w1 ⟨rfl, hb⟩)
    | (go_at_call 26; (with_reducible refine (getHigh_any (putHO v 4) Q5.out _).mono ?_); rintro e w1 ⟨rfl, hb⟩)
    | (go_at_call 30; (with_reducible refine (hex_any s hs _).mono ?_); rintro e w1 ⟨rfl, hb⟩)
    | (go_at_call 28; (with_reducible refine (unhex_any (hexO s) X4.out _).mono ?_); rintro e w1 ⟨rfl, hb⟩)
    | (go_at_call 28; (with_reducible refine (unhex_any d hd _).mono ?_); rintro e w1 ⟨rfl, hb⟩)
    | (go_at_call 30; (with_reducible refine (hex_any (unhexO d) UZ.out _).mono ?_); rintro e w1 ⟨rfl, hb⟩))
  go_ret
  exact ⟨rfl, by repeat (first | exact Below.refl _ _ | assumption | refine below_th (by assumption) ?_)⟩
set_option maxRecDepth 100000 in
theorem wordBack3_none (v n : Int) (s d : ByteArray) (h0 : 0 ≤ v) (h1 : v ≤ 4294967295) (n0 : 0 ≤ n) (n1 : n ≤ 255) (hn : n % 4 = 2) (hb : s.size + d.size ≤ 4096) (hu : unhexL (nums d) = none) (w : World) :
    Calls Try.prog 7 #[.int .u32 v, .int .u8 n, .string s, .string d] w fun e w' => e = .returned (.bool true) ∧ Below w.heap.size w w' := by
  have hs : s.size ≤ 65536 := by omega
  have hd : d.size ≤ 65536 := by omega
  have l0 : 0 ≤ (v % 16777216) := by omega
  have l1 : (v % 16777216) ≤ 4294967295 := by omega
  obtain ⟨p1, p2, p3, p4⟩ := put_facts (v % 16777216) 3 l0 l1 (by omega)
  have p5 : (putO (v % 16777216) 3).size ≤ 65536 := by rw [show putO (v % 16777216) 3 = putO (v % 16777216) ((3 : Nat) : Int) from rfl, p2]; omega
  obtain ⟨q1, q2, q3, q4⟩ := putHigh_facts v h0 h1
  have q5 : (putHO v 4).size ≤ 65536 := by omega
  have x1 := hexO_size s
  have x2 := unhexO_hexO s
  have x3 := unhexE_hexO s
  have x4 : (hexO s).size ≤ 65536 := by omega
  obtain ⟨u1, u2⟩ := unhexO_none hu
  have P5 := Lib.hid p5
  have Q5 := Lib.hid q5
  have X4 := Lib.hid x4
  skip
  clear p5 q5 x4 hu
  simp only [Int.cast_ofNat_Int] at p1 p2 p3 p4
  go_enter Try.func7, Try.ntmps7
  go_wp2_with (first
    | (go_at_call 18; (with_reducible refine (alive _).mono ?_); rintro e w1 ⟨rfl, hb⟩)
    | (go_at_call 20; (with_reducible refine (put_any (v % 16777216) 3 l0 l1 _).mono ?_); rintro e w1 ⟨rfl, hb⟩)
    | (go_at_call 24; (with_reducible refine (get_any (putO (v % 16777216) 3) P5.out _).mono ?_); rintro e w1 ⟨rfl, hb⟩)
    | (go_at_call 22; (with_reducible refine (putHigh_any v 4 h0 h1 _).mono ?_); rintro e w1 ⟨rfl, hb⟩)
    | (go_at_call 26; (with_reducible refine (getHigh_any (putHO v 4) Q5.out _).mono ?_); rintro e w1 ⟨rfl, hb⟩)
    | (go_at_call 30; (with_reducible refine (hex_any s hs _).mono ?_); rintro e w1 ⟨rfl, hb⟩)
    | (go_at_call 28; (with_reducible refine (unhex_any (hexO s) X4.out _).mono ?_); rintro e w1 ⟨rfl, hb⟩)
    | (go_at_call 28; (with_reducible refine (unhex_any d hd _).mono ?_); rintro e w1 ⟨rfl, hb⟩))
  go_ret
  exact ⟨rfl, by repeat (first | exact Below.refl _ _ | assumption | refine below_th (by assumption) ?_)⟩
set_option maxRecDepth 100000 in
theorem wordBack3_some (v n : Int) (s d : ByteArray) (h0 : 0 ≤ v) (h1 : v ≤ 4294967295) (n0 : 0 ≤ n) (n1 : n ≤ 255) (hn : n % 4 = 2) (hb : s.size + d.size ≤ 4096) (u : List Int) (hu : unhexL (nums d) = some u) (w : World) :
    Calls Try.prog 7 #[.int .u32 v, .int .u8 n, .string s, .string d] w fun e w' => e = .returned (.bool true) ∧ Below w.heap.size w w' := by
  have hs : s.size ≤ 65536 := by omega
  have hd : d.size ≤ 65536 := by omega
  have l0 : 0 ≤ (v % 16777216) := by omega
  have l1 : (v % 16777216) ≤ 4294967295 := by omega
  obtain ⟨p1, p2, p3, p4⟩ := put_facts (v % 16777216) 3 l0 l1 (by omega)
  have p5 : (putO (v % 16777216) 3).size ≤ 65536 := by rw [show putO (v % 16777216) 3 = putO (v % 16777216) ((3 : Nat) : Int) from rfl, p2]; omega
  obtain ⟨q1, q2, q3, q4⟩ := putHigh_facts v h0 h1
  have q5 : (putHO v 4).size ≤ 65536 := by omega
  have x1 := hexO_size s
  have x2 := unhexO_hexO s
  have x3 := unhexE_hexO s
  have x4 : (hexO s).size ≤ 65536 := by omega
  obtain ⟨u1, u2, u3⟩ := unhexO_some hu
  have uz : (unhexO d).size ≤ 65536 := by omega
  have P5 := Lib.hid p5
  have Q5 := Lib.hid q5
  have X4 := Lib.hid x4
  have UZ := Lib.hid uz
  clear p5 q5 x4 hu uz u3
  simp only [Int.cast_ofNat_Int] at p1 p2 p3 p4
  go_enter Try.func7, Try.ntmps7
  go_wp2_with (first
    | (go_at_call 18; (with_reducible refine (alive _).mono ?_); rintro e w1 ⟨rfl, hb⟩)
    | (go_at_call 20; (with_reducible refine (put_any (v % 16777216) 3 l0 l1 _).mono ?_); rintro e w1 ⟨rfl, hb⟩)
    | (go_at_call 24; (with_reducible refine (get_any (putO (v % 16777216) 3) P5.out _).mono ?_); rintro e w1 ⟨rfl, hb⟩)
    | (go_at_call 22; (with_reducible refine (putHigh_any v 4 h0 h1 _).mono ?_); rintro e w1 ⟨rfl, hb⟩)
    | (go_at_call 26; (with_reducible refine (getHigh_any (putHO v 4) Q5.out _).mono ?_); rintro e w1 ⟨rfl, hb⟩)
    | (go_at_call 30; (with_reducible refine (hex_any s hs _).mono ?_); rintro e w1 ⟨rfl, hb⟩)
    | (go_at_call 28; (with_reducible refine (unhex_any (hexO s) X4.out _).mono ?_); rintro e w1 ⟨rfl, hb⟩)
    | (go_at_call 28; (with_reducible refine (unhex_any d hd _).mono ?_); rintro e w1 ⟨rfl, hb⟩)
    | (go_at_call 30; (with_reducible refine (hex_any (unhexO d) UZ.out _).mono ?_); rintro e w1 ⟨rfl, hb⟩))
  go_ret
  exact ⟨rfl, by repeat (first | exact Below.refl _ _ | assumption | refine below_th (by assumption) ?_)⟩
set_option maxRecDepth 100000 in
theorem wordBack4_none (v n : Int) (s d : ByteArray) (h0 : 0 ≤ v) (h1 : v ≤ 4294967295) (n0 : 0 ≤ n) (n1 : n ≤ 255) (hn : n % 4 = 3) (hb : s.size + d.size ≤ 4096) (hu : unhexL (nums d) = none) (w : World) :
    Calls Try.prog 7 #[.int .u32 v, .int .u8 n, .string s, .string d] w fun e w' => e = .returned (.bool true) ∧ Below w.heap.size w w' := by
  have hs : s.size ≤ 65536 := by omega
  have hd : d.size ≤ 65536 := by omega
  have l0 : 0 ≤ v := by omega
  have l1 : v ≤ 4294967295 := by omega
  obtain ⟨p1, p2, p3, p4⟩ := put_facts v 4 l0 l1 (by omega)
  have p5 : (putO v 4).size ≤ 65536 := by rw [show putO v 4 = putO v ((4 : Nat) : Int) from rfl, p2]; omega
  obtain ⟨q1, q2, q3, q4⟩ := putHigh_facts v h0 h1
  have q5 : (putHO v 4).size ≤ 65536 := by omega
  have x1 := hexO_size s
  have x2 := unhexO_hexO s
  have x3 := unhexE_hexO s
  have x4 : (hexO s).size ≤ 65536 := by omega
  obtain ⟨u1, u2⟩ := unhexO_none hu
  have P5 := Lib.hid p5
  have Q5 := Lib.hid q5
  have X4 := Lib.hid x4
  skip
  clear p5 q5 x4 hu
  simp only [Int.cast_ofNat_Int] at p1 p2 p3 p4
  go_enter Try.func7, Try.ntmps7
  go_wp2_with (first
    | (go_at_call 18; (with_reducible refine (alive _).mono ?_); rintro e w1 ⟨rfl, hb⟩)
    | (go_at_call 20; (with_reducible refine (put_any v 4 l0 l1 _).mono ?_); rintro e w1 ⟨rfl, hb⟩)
    | (go_at_call 24; (with_reducible refine (get_any (putO v 4) P5.out _).mono ?_); rintro e w1 ⟨rfl, hb⟩)
    | (go_at_call 22; (with_reducible refine (putHigh_any v 4 h0 h1 _).mono ?_); rintro e w1 ⟨rfl, hb⟩)
    | (go_at_call 26; (with_reducible refine (getHigh_any (putHO v 4) Q5.out _).mono ?_); rintro e w1 ⟨rfl, hb⟩)
    | (go_at_call 30; (with_reducible refine (hex_any s hs _).mono ?_); rintro e w1 ⟨rfl, hb⟩)
    | (go_at_call 28; (with_reducible refine (unhex_any (hexO s) X4.out _).mono ?_); rintro e w1 ⟨rfl, hb⟩)
    | (go_at_call 28; (with_reducible refine (unhex_any d hd _).mono ?_); rintro e w1 ⟨rfl, hb⟩))
  go_ret
  exact ⟨rfl, by repeat (first | exact Below.refl _ _ | assumption | refine below_th (by assumption) ?_)⟩
set_option maxRecDepth 100000 in
theorem wordBack4_some (v n : Int) (s d : ByteArray) (h0 : 0 ≤ v) (h1 : v ≤ 4294967295) (n0 : 0 ≤ n) (n1 : n ≤ 255) (hn : n % 4 = 3) (hb : s.size + d.size ≤ 4096) (u : List Int) (hu : unhexL (nums d) = some u) (w : World) :
    Calls Try.prog 7 #[.int .u32 v, .int .u8 n, .string s, .string d] w fun e w' => e = .returned (.bool true) ∧ Below w.heap.size w w' := by
  have hs : s.size ≤ 65536 := by omega
  have hd : d.size ≤ 65536 := by omega
  have l0 : 0 ≤ v := by omega
  have l1 : v ≤ 4294967295 := by omega
  obtain ⟨p1, p2, p3, p4⟩ := put_facts v 4 l0 l1 (by omega)
  have p5 : (putO v 4).size ≤ 65536 := by rw [show putO v 4 = putO v ((4 : Nat) : Int) from rfl, p2]; omega
  obtain ⟨q1, q2, q3, q4⟩ := putHigh_facts v h0 h1
  have q5 : (putHO v 4).size ≤ 65536 := by omega
  have x1 := hexO_size s
  have x2 := unhexO_hexO s
  have x3 := unhexE_hexO s
  have x4 : (hexO s).size ≤ 65536 := by omega
  obtain ⟨u1, u2, u3⟩ := unhexO_some hu
  have uz : (unhexO d).size ≤ 65536 := by omega
  have P5 := Lib.hid p5
  have Q5 := Lib.hid q5
  have X4 := Lib.hid x4
  have UZ := Lib.hid uz
  clear p5 q5 x4 hu uz u3
  simp only [Int.cast_ofNat_Int] at p1 p2 p3 p4
  go_enter Try.func7, Try.ntmps7
  go_wp2_with (first
    | (go_at_call 18; (with_reducible refine (alive _).mono ?_); rintro e w1 ⟨rfl, hb⟩)
    | (go_at_call 20; (with_reducible refine (put_any v 4 l0 l1 _).mono ?_); rintro e w1 ⟨rfl, hb⟩)
    | (go_at_call 24; (with_reducible refine (get_any (putO v 4) P5.out _).mono ?_); rintro e w1 ⟨rfl, hb⟩)
    | (go_at_call 22; (with_reducible refine (putHigh_any v 4 h0 h1 _).mono ?_); rintro e w1 ⟨rfl, hb⟩)
    | (go_at_call 26; (with_reducible refine (getHigh_any (putHO v 4) Q5.out _).mono ?_); rintro e w1 ⟨rfl, hb⟩)
    | (go_at_call 30; (with_reducible refine (hex_any s hs _).mono ?_); rintro e w1 ⟨rfl, hb⟩)
    | (go_at_call 28; (with_reducible refine (unhex_any (hexO s) X4.out _).mono ?_); rintro e w1 ⟨rfl, hb⟩)
    | (go_at_call 28; (with_reducible refine (unhex_any d hd _).mono ?_); rintro e w1 ⟨rfl, hb⟩)
    | (go_at_call 30; (with_reducible refine (hex_any (unhexO d) UZ.out _).mono ?_); rintro e w1 ⟨rfl, hb⟩))
  go_ret
  exact ⟨rfl, by repeat (first | exact Below.refl _ _ | assumption | refine below_th (by assumption) ?_)⟩
theorem wordBack (v n : Int) (s d : ByteArray) (hv : (Lit.int .u32 v).wf = true) (hn : (Lit.int .u8 n).wf = true) (hs : s.size < 140737488355328) (hd : d.size < 140737488355328) (w : World) :
    Calls Try.prog 7 #[.int .u32 v, .int .u8 n, .string s, .string d] w fun e w' => e = .returned (.bool true) ∧ Below w.heap.size w w' := by
  have v0 := bounds_u32 hv
  have n0 := bounds_u8 hn
  by_cases h : s.size + d.size ≤ 4096
  · have : n % 4 = 0 ∨ n % 4 = 1 ∨ n % 4 = 2 ∨ n % 4 = 3 := by omega
    cases hu : unhexL (nums d) with
    | none =>
      rcases this with g | g | g | g
      · exact wordBack1_none v n s d v0.1 v0.2 n0.1 n0.2 g h hu w
      · exact wordBack2_none v n s d v0.1 v0.2 n0.1 n0.2 g h hu w
      · exact wordBack3_none v n s d v0.1 v0.2 n0.1 n0.2 g h hu w
      · exact wordBack4_none v n s d v0.1 v0.2 n0.1 n0.2 g h hu w
    | some u =>
      rcases this with g | g | g | g
      · exact wordBack1_some v n s d v0.1 v0.2 n0.1 n0.2 g h u hu w
      · exact wordBack2_some v n s d v0.1 v0.2 n0.1 n0.2 g h u hu w
      · exact wordBack3_some v n s d v0.1 v0.2 n0.1 n0.2 g h u hu w
      · exact wordBack4_some v n s d v0.1 v0.2 n0.1 n0.2 g h u hu w
  · exact wordBack_big v n s d hs hd (by omega) w
end Go.Proofs.Ytijdeljkppghbaa.Word
