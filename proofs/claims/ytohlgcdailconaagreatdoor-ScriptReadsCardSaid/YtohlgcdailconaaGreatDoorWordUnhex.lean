/- The walks of word.half and word.Unhex. -/
import Derived.Test.YtohlgcdailconaaGreatDoorWordHex
namespace Go.Proofs.YtohlgcdailconaaGreatDoor.Word
open Go.RowKit
set_option linter.unusedVariables false
def halfB (c : Int) : Bool := decide (48 ≤ c ∧ c ≤ 57) || decide (97 ≤ c ∧ c ≤ 102)
def halfV (c : Int) : Int := if 48 ≤ c ∧ c ≤ 57 then c - 48 else if 97 ≤ c ∧ c ≤ 102 then c - 87 else 0
theorem halfV_bd (c : Int) : 0 ≤ halfV c ∧ halfV c < 16 := by unfold halfV; split <;> (try split) <;> omega
theorem ret_half {a b : Int} {c d : Bool} (h : a = b) (g : c = d) : Ending.returned (.tuple #[.int .u8 a, .bool c]) = .returned (.tuple #[.int .u8 b, .bool d]) := by rw [h, g]
theorem half (c : Int) (h0 : 0 ≤ c) (h1 : c < 256) (w : World) : Calls Tryz.prog 79 #[.int .u8 c] w fun e w' => e = .returned (.tuple #[.int .u8 (halfV c), .bool (halfB c)]) ∧ w = w' := by
  by_cases a1 : 48 ≤ c
  · by_cases a2 : c ≤ 57
    · go_enter Tryz.func79, Tryz.ntmps79
      go_wp2
      go_ret2
      exact ⟨ret_half (by unfold halfV; rw [if_pos ⟨a1, a2⟩]) (by simp [halfB, a1, a2]), rfl⟩
    · by_cases b1 : 97 ≤ c
      · by_cases b2 : c ≤ 102
        · go_enter Tryz.func79, Tryz.ntmps79
          go_wp2
          go_ret2
          exact ⟨ret_half (by unfold halfV; rw [if_neg (by omega), if_pos ⟨b1, b2⟩]; omega) (by simp [halfB, b1, b2]), rfl⟩
        · go_enter Tryz.func79, Tryz.ntmps79
          go_wp2
          go_ret2
          exact ⟨ret_half (by unfold halfV; rw [if_neg (by omega), if_neg (by omega)]) (by simp [halfB]; omega), rfl⟩
      · go_enter Tryz.func79, Tryz.ntmps79
        go_wp2
        go_ret2
        exact ⟨ret_half (by unfold halfV; rw [if_neg (by omega), if_neg (by omega)]) (by simp [halfB]; omega), rfl⟩
  · go_enter Tryz.func79, Tryz.ntmps79
    go_wp2
    go_ret2
    exact ⟨ret_half (by unfold halfV; rw [if_neg (by omega), if_neg (by omega)]) (by simp [halfB]; omega), rfl⟩
def unhexL : List Int → Option (List Int)
  | [] => some []
  | [_] => none
  | h :: l :: r => if halfB h && halfB l then (unhexL r).map (fun t => (16 * halfV h + halfV l) :: t) else none
def unhexOut (l : List Int) : Value := match unhexL l with | some l => .tuple #[.string (strOfNums l), .int .i64 0] | none => .tuple #[.string ByteArray.empty, .int .i64 2]
theorem unhexOut_some {l r : List Int} (h : unhexL l = some r) : Ending.returned (.tuple #[.string (strOfNums r), .int .i64 0]) = .returned (unhexOut l) := by unfold unhexOut; rw [h]
theorem unhexOut_none {l : List Int} (h : unhexL l = none) : Ending.returned (.tuple #[.string ByteArray.empty, .int .i64 2]) = .returned (unhexOut l) := by unfold unhexOut; rw [h]
theorem unhex_odd (l : List Int) (h : l.length % 2 = 1) : unhexL l = none := by
  induction l using unhexL.induct with
  | case1 => simp at h
  | case2 x => rfl
  | case3 h l r hb ih => simp only [unhexL, hb, if_true]; rw [ih (by simp at h; omega)]; rfl
  | case4 h l r hb => simp only [unhexL, hb]; rfl
theorem unhexOdd (s : ByteArray) (hs : s.size ≤ 1048576) (ho : ((s.size : Int) % 2 != 0) = true) (w : World) :
    Calls Tryz.prog 59 #[.string s] w fun e w' => e = .returned (.tuple #[.string ByteArray.empty, .int .i64 2]) ∧ w = w' := by
  go_enter Tryz.func59, Tryz.ntmps59
  go_wp2
  go_ret2
  exact ⟨rfl, rfl⟩
theorem join8 (a b : Int) (a0 : 0 ≤ a) (a1 : a < 16) (b0 : 0 ≤ b) (b1 : b < 16) : bits .or .u8 (a * 16) b = 16 * a + b := by
  obtain ⟨a, rfl⟩ := Int.eq_ofNat_of_zero_le a0
  obtain ⟨b, rfl⟩ := Int.eq_ofNat_of_zero_le b0
  have := u8_or_nat (a * 16) b (by omega) (by omega)
  rw [nat_join 4 (a * 16) b (by omega) (by omega)] at this
  rw [show ((a : Int) * 16) = ((a * 16 : Nat) : Int) by omega, this]
  omega
theorem unhex_step (done : List Int) (x y : Int) (r : List Int) (hx : halfB x = true) (hy : halfB y = true) : (unhexL (x :: y :: r)).map (fun r => done ++ r) = (unhexL r).map (fun r => (done ++ [16 * halfV x + halfV y]) ++ r) := by
  simp only [unhexL, hx, hy, Bool.and_self, if_true]
  cases unhexL r <;> simp
def unhexRel (s : ByteArray) (W : World) (base : Nat) (sv bv : Value) (wr : World) : Prop :=
  ∃ (t : ByteArray) (done : List Int), sv = .string t ∧ t.size % 2 = 0 ∧ done.length + t.size ≤ s.size ∧ unhexL (nums s) = (unhexL (nums t)).map (fun r => done ++ r) ∧ Buf wr base 5 bv done ∧ Below base W wr ∧ base ≤ wr.heap.size
set_option maxRecDepth 100000 in
theorem unhex (s : ByteArray) (hs : s.size ≤ 1048576) (ho : ((s.size : Int) % 2 != 0) = false) (w : World) :
    Calls Tryz.prog 59 #[.string s] w fun e w' => e = .returned (unhexOut (nums s)) ∧ Below w.heap.size w w' := by
  obtain ⟨i0, hi, hz0, hz1, hz2⟩ := info_parts info_u8
  have Hi := Lib.hid hi
  have Hz0 := Lib.hid hz0
  have Hz1 := Lib.hid hz1
  have Hz2 := Lib.hid hz2
  clear hi hz0 hz1 hz2
  go_enter Tryz.func59, Tryz.ntmps59
  go_wp2
  go_loopw [0, 4, 5, 6, 7, 8] (fun sv bv _ _ _ _ wr => unhexRel s w w.heap.size sv bv wr) (fun sv _ _ _ _ _ _ => match sv with | .string t => t.size | _ => 0)
  case atStart => exact ⟨s, [], rfl, by simp at ho; omega, by simp, by simp, Buf.nil _ _ _, Below.refl _ _, Nat.le_refl _⟩
  case round =>
    obtain ⟨t, done, rfl, ht2, hlen, hspec, hbuf, hbel, hbase⟩ := hrel
    have Ho := Lib.hid hbuf
    have Hb := Lib.hid hbel
    by_cases hz : t.size = 0
    · have hn : nums t = [] := nums_empty t hz
      have hspec2 : unhexL (nums s) = some done := by rw [hspec, hn]; simp [unhexL]
      have Hs := Lib.hid hspec2
      have hem : t.toList.isEmpty = true := by rw [ByteArray.toList_eq, List.isEmpty_iff_length_eq_zero, Array.length_toList]; exact hz
      have hcv := fun (dst : TypeId) (hd : Tryz.prog.underlying dst = some .string) => Buf.string (P := Tryz.prog) hbuf 46 dst Tryz.underlying46 Tryz.underlying5 hd
      have hcs := hcv 9 Tryz.underlying9
      clear hcv hbuf hbel hspec ht2 hspec2 hn
      go_wp2
      go_ret2
      exact ⟨unhexOut_some Hs.out, Hb.out⟩
    · have hz2 : 2 ≤ t.size := by omega
      have p0 : 0 < t.size := by omega
      have p1 : 1 < t.size := by omega
      have hne : t.toList.isEmpty = false := nonempty_str t (by omega)
      have c0 : 0 ≤ ((t[0]'p0).toNat : Int) ∧ ((t[0]'p0).toNat : Int) < 256 := byte_bd _
      have c1 : 0 ≤ ((t[1]'p1).toNat : Int) ∧ ((t[1]'p1).toNat : Int) < 256 := byte_bd _
      have hn2 := nums_two t hz2
      rw [hn2] at hspec
      have Hs := Lib.hid hspec
      have Ht2 := Lib.hid ht2
      clear hbuf hbel hspec ht2 hn2
      by_cases b0 : halfB ((t[0]'p0).toNat : Int) = true
      · by_cases b1 : halfB ((t[1]'p1).toNat : Int) = true
        · have v0 := halfV_bd ((t[0]'p0).toNat : Int)
          have v1 := halfV_bd ((t[1]'p1).toNat : Int)
          have hj := join8 _ _ v0.1 v0.2 v1.1 v1.2
          go_wp2_with (first | (go_at_call 79; refine (half _ (by omega) (by omega) _).mono ?_; rintro e w1 ⟨rfl, rfl⟩) | (at_builtin; refine wpList_append_lies _ (by rfl) _ _ _ (by rfl) w.heap.size 5 i0 (.int .u8 0) 1 1 Tryz.underlying46 Hi.out Hz0.out Hz1.out Hz2.out rfl (by omega) u4 _ _ (by rfl) (World.ownsRow.alloc Ho.out _) ⟨wr.heap.size, 0, none⟩ 1 1 [.int .u8 (16 * halfV ((t[0]'p0).toNat : Int) + halfV ((t[1]'p1).toNat : Int))] (by rfl) (by rfl) (World.news_of_block (cs := #[.int .u8 (16 * halfV ((t[0]'p0).toNat : Int) + halfV ((t[1]'p1).toNat : Int))]) (t := 5) (fr := (0, 0)) (heap_alloc_new wr _)) (fun x hx => by simp at hx; subst hx; rfl) (by omega) (by unfold maxLen; omega) (by omega) (by simp; omega) (wr.heap.size + 1) (by simp) ?_; intro gg cap' w' hown' hgro hat hlt))
          have hsz : (t.extract 2 t.size).size = t.size - 2 := by rw [ByteArray.size_extract]; omega
          refine ⟨⟨_, done ++ [16 * halfV ((t[0]'p0).toNat : Int) + halfV ((t[1]'p1).toNat : Int)], rfl, ?_, ?_, ?_, Buf.app hown', ?_, ?_⟩, ?_⟩
          · have := Ht2.out; rw [hsz]; omega
          · rw [hsz, List.length_append]; simp; omega
          · rw [Hs.out]; exact unhex_step done _ _ _ b0 b1
          · exact (Hb.out.alloc hbase _).grown hgro (by simp; omega) (fun k hk => Buf.lt Ho.out k hk)
          · exact Nat.le_trans hbase (Nat.le_trans (by simp) hgro.size)
          · show (t.extract 2 t.size).size < t.size
            rw [hsz]; omega
        · have b1' : halfB ((t[1]'p1).toNat : Int) = false := by simpa using b1
          clear b1
          have hu : unhexL (nums s) = none := by rw [Hs.out]; simp [unhexL, b0, b1']
          have Hu := Lib.hid hu
          clear hu
          go_wp2_with (go_at_call 79; refine (half _ (by omega) (by omega) _).mono ?_; rintro e w1 ⟨rfl, rfl⟩)
          go_ret2
          exact ⟨unhexOut_none Hu.out, Hb.out⟩
      · have b0' : halfB ((t[0]'p0).toNat : Int) = false := by simpa using b0
        clear b0
        have hu : unhexL (nums s) = none := by rw [Hs.out]; simp [unhexL, b0']
        have Hu := Lib.hid hu
        clear hu
        go_wp2_with (go_at_call 79; refine (half _ (by omega) (by omega) _).mono ?_; rintro e w1 ⟨rfl, rfl⟩)
        go_ret2
        exact ⟨unhexOut_none Hu.out, Hb.out⟩
end Go.Proofs.YtohlgcdailconaaGreatDoor.Word
