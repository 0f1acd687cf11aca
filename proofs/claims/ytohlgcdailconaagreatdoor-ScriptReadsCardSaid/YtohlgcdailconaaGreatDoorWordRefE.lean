/- The walks of aediculeref01's Hex, digit, Unhex. -/
import Derived.Test.YtohlgcdailconaaGreatDoorWordRefC
import Derived.IntWalk
namespace Go.Proofs.YtohlgcdailconaaGreatDoor.WordRef
open Go.RowKit Word
set_option linter.unusedVariables false
def hexRelR (s : ByteArray) (W : World) (sv si : Value) (wr : World) : Prop :=
  ∃ k : Nat, k ≤ s.size ∧ si = .int .i64 k ∧ Buf wr W.heap.size 5 sv (hexL ((nums s).take k)) ∧ Below W.heap.size W wr
theorem hex (s : ByteArray) (hs : s.size ≤ 65536) (w : World) :
    Calls Tryz.prog 37 #[.string s] w fun e w' => e = .returned (.string (strOfNums (hexL (nums s)))) ∧ Below w.heap.size w w' := by
  obtain ⟨i0, hi, hz0, hz1, hz2⟩ := info_parts info_u8
  have Hi := Lib.hid hi
  have Hz0 := Lib.hid hz0
  have Hz1 := Lib.hid hz1
  have Hz2 := Lib.hid hz2
  clear hi hz0 hz1 hz2
  go_enter Tryz.func37, Tryz.ntmps37
  go_wp2
  go_loopw [3, 4] (fun v i wr => hexRelR s w v i wr) (fun _ i _ => s.size - (intOf i).toNat)
  case atStart => exact ⟨0, by omega, rfl, Buf.nil _ _ _, Below.refl _ _⟩
  case round =>
    obtain ⟨k, hk, rfl, hown, hbel⟩ := hrel
    have Ho := Lib.hid hown
    have Hb := Lib.hid hbel
    have hbase := hbel.size
    by_cases hk2 : k < s.size
    · have hb8 := byte_bd (s[k]'hk2)
      have hts := take_succ_nums s k hk2
      have hlen : (hexL ((nums s).take k)).length = 2 * k := by rw [hexL_length, List.length_take, nums_length]; omega
      have hix : ∀ w, (Instr.index 9 (.string s) (.int .i64 k)).run Tryz.prog w = .ok (.int .u8 ((s[k]'hk2).toNat : Int)) w := by intro w; go_simp
      generalize ((s[k]'hk2).toNat : Int) = x at *
      have hd1 := fun w => digits_at (x / 16) (by omega) (by omega) w
      have hd2 := fun w => digits_at (x % 16) (by omega) (by omega) w
      have hq1 : IntKind.u8.wrap (x.tdiv 16) = x / 16 := by rw [IntKind.wrap_u8', Int.tdiv_eq_ediv_of_nonneg (by omega)]; omega
      have hq2 : x.tmod 16 = x % 16 := Int.tmod_eq_emod_of_nonneg (by omega)
      have Hts := Lib.hid (congrArg hexL hts)
      have Hl := Lib.hid hlen
      clear hts hlen hown hbel
      go_wp2
      go_region_law (refine step_append_lies _ (by rfl) _ _ _ (by rfl) (w.heap.size) 5 i0 (.int .u8 0) 1 1 Tryz.underlying46 Hi.out Hz0.out Hz1.out Hz2.out rfl (by omega) u3 _ _ (by rfl) (World.ownsRow.drew (World.ownsRow.alloc Ho.out _)) ⟨wr.heap.size, 0, none⟩ 2 2 [.int .u8 (hexD (x / 16)), .int .u8 (hexD (x % 16))] (by rfl) (by rfl) (World.news_of_block (cs := #[.int .u8 (hexD (x / 16)), .int .u8 (hexD (x % 16))]) (t := 5) (fr := (0, 0)) (heap_alloc_new _ _)) (fun x hx => by simp at hx; rcases hx with rfl | rfl <;> rfl) (by omega) (by rw [Hl.out]; unfold maxLen; omega) (by rw [Hl.out]; omega) (by simp; omega) (wr.heap.size + 1) (by simp) ?_; intro gg cap' w' hown' hgro hat hlt)
      go_wp2
      all_goals
        refine ⟨⟨k + 1, by omega, by go_num, ?_, ?_⟩, by simp [intOf]; omega⟩
        · rw [Hts.out, hexL_snoc]; exact Buf.app hown'
        · exact ((Hb.out.alloc hbase _).drew).grown hgro (by simp; omega) (fun k hk => Buf.lt Ho.out k hk)
    · obtain rfl : k = s.size := by omega
      have hcs := Buf.string (P := Tryz.prog) Ho.out 46 9 Tryz.underlying46 Tryz.underlying5 Tryz.underlying9
      clear hown hbel
      go_wp2
      go_ret
      refine ⟨ret_str ?_, Hb.out⟩
      rw [List.take_of_length_le (by rw [nums_length]; omega)]
theorem digitA0 (w : World) : (Instr.index 9 (.string ⟨#[48, 49, 50, 51, 52, 53, 54, 55, 56, 57, 97, 98, 99, 100, 101, 102]⟩) (.int .u8 0)).run Tryz.prog w = .ok (.int .u8 48) w := by kernel_rfl
theorem digitA1 (w : World) : (Instr.index 9 (.string ⟨#[48, 49, 50, 51, 52, 53, 54, 55, 56, 57, 97, 98, 99, 100, 101, 102]⟩) (.int .u8 1)).run Tryz.prog w = .ok (.int .u8 49) w := by kernel_rfl
theorem digitA2 (w : World) : (Instr.index 9 (.string ⟨#[48, 49, 50, 51, 52, 53, 54, 55, 56, 57, 97, 98, 99, 100, 101, 102]⟩) (.int .u8 2)).run Tryz.prog w = .ok (.int .u8 50) w := by kernel_rfl
theorem digitA3 (w : World) : (Instr.index 9 (.string ⟨#[48, 49, 50, 51, 52, 53, 54, 55, 56, 57, 97, 98, 99, 100, 101, 102]⟩) (.int .u8 3)).run Tryz.prog w = .ok (.int .u8 51) w := by kernel_rfl
theorem digitA4 (w : World) : (Instr.index 9 (.string ⟨#[48, 49, 50, 51, 52, 53, 54, 55, 56, 57, 97, 98, 99, 100, 101, 102]⟩) (.int .u8 4)).run Tryz.prog w = .ok (.int .u8 52) w := by kernel_rfl
theorem digitA5 (w : World) : (Instr.index 9 (.string ⟨#[48, 49, 50, 51, 52, 53, 54, 55, 56, 57, 97, 98, 99, 100, 101, 102]⟩) (.int .u8 5)).run Tryz.prog w = .ok (.int .u8 53) w := by kernel_rfl
theorem digitA6 (w : World) : (Instr.index 9 (.string ⟨#[48, 49, 50, 51, 52, 53, 54, 55, 56, 57, 97, 98, 99, 100, 101, 102]⟩) (.int .u8 6)).run Tryz.prog w = .ok (.int .u8 54) w := by kernel_rfl
theorem digitA7 (w : World) : (Instr.index 9 (.string ⟨#[48, 49, 50, 51, 52, 53, 54, 55, 56, 57, 97, 98, 99, 100, 101, 102]⟩) (.int .u8 7)).run Tryz.prog w = .ok (.int .u8 55) w := by kernel_rfl
theorem digitA8 (w : World) : (Instr.index 9 (.string ⟨#[48, 49, 50, 51, 52, 53, 54, 55, 56, 57, 97, 98, 99, 100, 101, 102]⟩) (.int .u8 8)).run Tryz.prog w = .ok (.int .u8 56) w := by kernel_rfl
theorem digitA9 (w : World) : (Instr.index 9 (.string ⟨#[48, 49, 50, 51, 52, 53, 54, 55, 56, 57, 97, 98, 99, 100, 101, 102]⟩) (.int .u8 9)).run Tryz.prog w = .ok (.int .u8 57) w := by kernel_rfl
theorem digitA10 (w : World) : (Instr.index 9 (.string ⟨#[48, 49, 50, 51, 52, 53, 54, 55, 56, 57, 97, 98, 99, 100, 101, 102]⟩) (.int .u8 10)).run Tryz.prog w = .ok (.int .u8 97) w := by kernel_rfl
theorem digitA11 (w : World) : (Instr.index 9 (.string ⟨#[48, 49, 50, 51, 52, 53, 54, 55, 56, 57, 97, 98, 99, 100, 101, 102]⟩) (.int .u8 11)).run Tryz.prog w = .ok (.int .u8 98) w := by kernel_rfl
theorem digitA12 (w : World) : (Instr.index 9 (.string ⟨#[48, 49, 50, 51, 52, 53, 54, 55, 56, 57, 97, 98, 99, 100, 101, 102]⟩) (.int .u8 12)).run Tryz.prog w = .ok (.int .u8 99) w := by kernel_rfl
theorem digitA13 (w : World) : (Instr.index 9 (.string ⟨#[48, 49, 50, 51, 52, 53, 54, 55, 56, 57, 97, 98, 99, 100, 101, 102]⟩) (.int .u8 13)).run Tryz.prog w = .ok (.int .u8 100) w := by kernel_rfl
theorem digitA14 (w : World) : (Instr.index 9 (.string ⟨#[48, 49, 50, 51, 52, 53, 54, 55, 56, 57, 97, 98, 99, 100, 101, 102]⟩) (.int .u8 14)).run Tryz.prog w = .ok (.int .u8 101) w := by kernel_rfl
theorem digitA15 (w : World) : (Instr.index 9 (.string ⟨#[48, 49, 50, 51, 52, 53, 54, 55, 56, 57, 97, 98, 99, 100, 101, 102]⟩) (.int .u8 15)).run Tryz.prog w = .ok (.int .u8 102) w := by kernel_rfl
def digV (c : Int) : Int := if halfB c then halfV c else 16
theorem digV_at (c : Int) (k : Int) (h0 : 0 ≤ k) (h1 : k < 16) (h : hexD k = c) : digV c = k := by
  subst h
  have : k = 0 ∨ k = 1 ∨ k = 2 ∨ k = 3 ∨ k = 4 ∨ k = 5 ∨ k = 6 ∨ k = 7 ∨ k = 8 ∨ k = 9 ∨ k = 10 ∨ k = 11 ∨ k = 12 ∨ k = 13 ∨ k = 14 ∨ k = 15 := by omega
  rcases this with rfl | rfl | rfl | rfl | rfl | rfl | rfl | rfl | rfl | rfl | rfl | rfl | rfl | rfl | rfl | rfl <;> decide
theorem digV_none (c : Int) (h : ∀ k : Nat, k < 16 → hexD k ≠ c) : digV c = 16 := by
  have g : ∀ k : Int, 0 ≤ k → k < 16 → hexD k ≠ c := fun k h0 h1 => by
    obtain ⟨k, rfl⟩ := Int.eq_ofNat_of_zero_le h0
    exact h k (by omega)
  unfold digV halfB
  by_cases a : 48 ≤ c ∧ c ≤ 57
  · exact absurd (by unfold hexD; rw [if_pos (by omega)]; omega) (g (c - 48) (by omega) (by omega))
  · by_cases b : 97 ≤ c ∧ c ≤ 102
    · exact absurd (by unfold hexD; rw [if_neg (by omega)]; omega) (g (c - 87) (by omega) (by omega))
    · simp [a, b]
def digRel (c : Int) (si : Value) : Prop := ∃ k : Nat, k ≤ 16 ∧ si = .int .u8 k ∧ ∀ j : Nat, j < k → hexD j ≠ c
theorem ret_u8 {a b : Int} (h : a = b) : Ending.returned (.int .u8 a) = .returned (.int .u8 b) := by rw [h]
theorem digit (c : Int) (h0 : 0 ≤ c) (h1 : c < 256) (w : World) : Calls Tryz.prog 95 #[.int .u8 c] w fun e w' => e = .returned (.int .u8 (digV c)) ∧ w = w' := by
  go_enter Tryz.func95, Tryz.ntmps95
  go_wp2
  go_loop [3] (fun i => digRel c i) (fun i => 16 - (intOf i).toNat)
  case atStart => exact ⟨0, by omega, rfl, fun j hj => absurd hj (by omega)⟩
  case round =>
    obtain ⟨k, hk, rfl, hno⟩ := hrel
    have Hno := Lib.hid hno
    clear hno
    by_cases hk2 : k < 16
    · have hd1 := fun w => digits_at (k : Int) (by omega) (by omega) w
      by_cases hc : hexD k = c
      · have he : (hexD k == c) = true := by rw [hc]; simp
        have Hd := Lib.hid (digV_at c k (by omega) (by omega) hc)
        clear hc
        go_wp2
        go_ret
        exact ⟨ret_u8 Hd.out.symm, rfl⟩
      · have he : (hexD k == c) = false := beq_eq_false_iff_ne.2 hc
        have Hc := Lib.hid hc
        clear hc
        go_wp2
        refine ⟨⟨k + 1, by omega, by go_num, fun j hj => ?_⟩, by simp [intOf]; omega⟩
        by_cases e : j = k
        · rw [e]; exact Hc.out
        · exact Hno.out j (by omega)
    · obtain rfl : k = 16 := by omega
      have Hd := Lib.hid (digV_none c Hno.out)
      go_wp2
      go_ret
      exact ⟨ret_u8 Hd.out.symm, rfl⟩
theorem unhexOdd (s : ByteArray) (hs : s.size ≤ 65536) (ho : ((s.size : Int) % 2 != 0) = true) (w : World) :
    Calls Tryz.prog 80 #[.string s] w fun e w' => e = .returned (.tuple #[.string ByteArray.empty, .int .i64 2]) ∧ w = w' := by
  go_enter Tryz.func80, Tryz.ntmps80
  go_wp2
  go_ret2
  exact ⟨rfl, rfl⟩
theorem own_drewN {w : World} {base : Nat} {e : TypeId} {size : Nat} {v : Value} {n : Nat} {xs : List Value} (h : w.ownsRow base e size v n xs) (m : Nat) : (w.drewN m).ownsRow base e size v n xs := h
theorem quiet_same {P : Program} {f : FuncId} {args : Array Value} {w : World} {n : Nat} {v : Value} (h : Calls P f args (w.drewN n) fun e w' => e = .returned v ∧ w.drewN n = w') : Calls P f args (w.drewN n) fun e w'' => e = .returned v ∧ ∃ m, w'' = w.drewN m :=
  h.mono fun _ _ ⟨he, hm⟩ => ⟨he, n, hm.symm⟩
theorem digV_yes (c : Int) (h : halfB c = true) : digV c = halfV c := by unfold digV; rw [if_pos h]
theorem digV_no (c : Int) (h : halfB c = false) : digV c = 16 := by unfold digV; rw [h]; rfl
theorem drop_two (s : ByteArray) (k : Nat) (h : k + 2 ≤ s.size) : (nums s).drop k = ((s[k]'(by omega)).toNat : Int) :: ((s[k + 1]'(by omega)).toNat : Int) :: (nums s).drop (k + 2) := by
  have hl : k + 2 ≤ (nums s).length := by rw [nums_length]; exact h
  rw [List.drop_eq_getElem_cons (by omega : k < (nums s).length), List.drop_eq_getElem_cons (by omega : k + 1 < (nums s).length)]
  rw [nums_get s k (by omega), nums_get s (k + 1) (by omega), List.getD, List.getD, List.getElem?_eq_getElem (by omega), List.getElem?_eq_getElem (by omega)]
  rfl
def unhexRelR (s : ByteArray) (W : World) (sb si : Value) (wr : World) : Prop :=
  ∃ (k : Nat) (done : List Int), 2 * k ≤ s.size ∧ si = .int .i64 ((2 * k : Nat) : Int) ∧ done.length = k ∧ unhexL (nums s) = (unhexL ((nums s).drop (2 * k))).map (fun r => done ++ r) ∧ Buf wr W.heap.size 5 sb done ∧ Below W.heap.size W wr
theorem unhex (s : ByteArray) (hs : s.size ≤ 65536) (ho : ((s.size : Int) % 2 != 0) = false) (w : World) :
    Calls Tryz.prog 80 #[.string s] w fun e w' => e = .returned (unhexOut (nums s)) ∧ Below w.heap.size w w' := by
  obtain ⟨i0, hi, hz0, hz1, hz2⟩ := info_parts info_u8
  have Hi := Lib.hid hi
  have Hz0 := Lib.hid hz0
  have Hz1 := Lib.hid hz1
  have Hz2 := Lib.hid hz2
  clear hi hz0 hz1 hz2
  have he : s.size % 2 = 0 := by simp at ho; omega
  have He := Lib.hid he
  clear he
  go_enter Tryz.func80, Tryz.ntmps80
  go_wp2
  go_loopw [4, 5, 6, 7] (fun sb si _ _ wr => unhexRelR s w sb si wr) (fun _ i _ _ _ => s.size - (intOf i).toNat)
  case atStart => exact ⟨0, [], by omega, rfl, rfl, by simp, Buf.nil _ _ _, Below.refl _ _⟩
  case round =>
    obtain ⟨k, done, hk, rfl, hdl, hspec, hbuf, hbel⟩ := hrel
    have Ho := Lib.hid hbuf
    have Hb := Lib.hid hbel
    have hbase := hbel.size
    obtain ⟨j, hj⟩ : ∃ j : Nat, 2 * k = j := ⟨_, rfl⟩
    rw [hj] at hspec hk ⊢
    by_cases hz : j < s.size
    · have hz2 : j + 1 < s.size := by have := He.out; omega
      have c0 := byte_bd (s[j]'hz)
      have c1 := byte_bd (s[j + 1]'hz2)
      have hd := drop_two s j (by omega)
      rw [hd] at hspec
      have hi0 : (0 : Int) ≤ (j : Int) := by omega
      have hw1 : IntKind.i64.wrap ((j : Int) + 1) = (j : Int) + 1 := IntWalk.i64_in _ (by omega)
      have hix : ∀ (m : Nat) (hm : m < s.size) (w : World), (Instr.index 9 (.string s) (.int .i64 m)).run Tryz.prog w = .ok (.int .u8 ((s[m]'hm).toNat : Int)) w := by intro m hm w; go_simp
      have hx0 := hix j hz
      have hx1 := hix (j + 1) hz2
      rw [show ((j + 1 : Nat) : Int) = (j : Int) + 1 by omega] at hx1
      clear hix
      generalize ((s[j]'hz).toNat : Int) = x at *
      generalize ((s[j + 1]'hz2).toNat : Int) = y at *
      have Hs := Lib.hid hspec
      have Hj := Lib.hid hj
      have Hdl := Lib.hid hdl
      clear hbuf hbel hspec hd hj hdl
      by_cases b0 : halfB x = true
      · by_cases b1 : halfB y = true
        · have v0 := halfV_bd x
          have v1 := halfV_bd y
          have e0 := digV_yes x b0
          have e1 := digV_yes y b1
          have Hst := Lib.hid (unhex_step done x y ((nums s).drop (j + 2)) b0 b1)
          generalize halfV x = p at *
          generalize halfV y = q at *
          have g0 : (p == 16) = false := beq_eq_false_iff_ne.2 (by omega)
          have g1 : (q == 16) = false := beq_eq_false_iff_ne.2 (by omega)
          clear b0 b1
          go_wp2_with fail
          go_quiet ((go_at_call 95; exact quiet_same (digit _ (by omega) (by omega) _)))
          clear hw1 hx0 hx1
          go_wp2_with (at_builtin; refine wpList_append_lies _ (by rfl) _ _ _ (by rfl) (w.heap.size) 5 i0 (.int .u8 0) 1 1 Tryz.underlying46 Hi.out Hz0.out Hz1.out Hz2.out rfl (by omega) u4 _ _ (by rfl) (World.ownsRow.alloc (own_drewN Ho.out _) _) ⟨wr.heap.size, 0, none⟩ 1 1 [.int .u8 (16 * p + q)] (by rfl) (by rfl) (World.news_of_block (cs := #[.int .u8 (16 * p + q)]) (t := 5) (fr := (0, 0)) (heap_alloc_new _ _)) (fun x hx => by simp at hx; subst hx; rfl) (by omega) (by have := Hj.out; rw [Hdl.out]; unfold maxLen; omega) (by have := Hj.out; rw [Hdl.out]; omega) (by simp; omega) (wr.heap.size + 1) (by simp) ?_; intro gg cap' w' hown' hgro hat hlt)
          refine ⟨⟨k + 1, done ++ [16 * p + q], by have := Hj.out; omega, congrArg _ (by have := Hj.out; omega), by rw [List.length_append, Hdl.out]; rfl, ?_, Buf.app hown', ?_⟩, by simp [intOf]; omega⟩
          · rw [Hs.out, Hst.out, show 2 * (k + 1) = j + 2 by have := Hj.out; omega]
          · exact ((below_drewN Hb.out _).alloc hbase _).grown hgro (by simp; omega) (fun k hk => Buf.lt Ho.out k hk)
        · have b1' : halfB y = false := by simpa using b1
          have e1 := digV_no y b1'
          have Hu := Lib.hid (show unhexL (nums s) = none by rw [Hs.out]; simp [unhexL, b1'])
          clear b1 b1'
          by_cases e0 : digV x = 16
          · have e0' : (digV x == 16) = true := by rw [e0]; rfl
            go_wp2_with fail
            go_quiet ((go_at_call 95; exact quiet_same (digit _ (by omega) (by omega) _)))
            go_wp2
            go_ret2
            exact ⟨unhexOut_none Hu.out, below_drewN Hb.out _⟩
          · have e0' : (digV x == 16) = false := beq_eq_false_iff_ne.2 e0
            clear e0
            go_wp2_with fail
            go_quiet ((go_at_call 95; exact quiet_same (digit _ (by omega) (by omega) _)))
            go_wp2
            go_ret2
            exact ⟨unhexOut_none Hu.out, below_drewN Hb.out _⟩
      · have b0' : halfB x = false := by simpa using b0
        have e0 := digV_no x b0'
        have Hu := Lib.hid (show unhexL (nums s) = none by rw [Hs.out]; simp [unhexL, b0'])
        clear b0 b0'
        go_wp2_with fail
        go_quiet ((go_at_call 95; exact quiet_same (digit _ (by omega) (by omega) _)))
        go_wp2
        go_ret2
        exact ⟨unhexOut_none Hu.out, below_drewN Hb.out _⟩
    · obtain rfl : j = s.size := by omega
      have hu : unhexL (nums s) = some done := by rw [hspec, List.drop_of_length_le (by rw [nums_length]; omega)]; simp [unhexL]
      have Hu := Lib.hid hu
      have hcs := Buf.string (P := Tryz.prog) Ho.out 46 9 Tryz.underlying46 Tryz.underlying5 Tryz.underlying9
      clear hbuf hbel hspec hj hdl hu
      go_wp2
      go_ret2
      exact ⟨unhexOut_some Hu.out, Hb.out⟩
end Go.Proofs.YtohlgcdailconaaGreatDoor.WordRef
