/- Scripts in plain words: which lines acts have, which act a line is, what is written, what is read. -/
import Derived.Test.YtohlgcdailconaaGreatDoorWordHex
import Derived.Test.YtohlgcdailconaaGreatDoorWordUnhex
import Derived.Lib.ItoaNum
import Derived.Lib.AtoiAll
import Derived.Lib.Split
import Derived.Lib.SplitLaws
import Derived.Lib.Join
namespace Go.Proofs.YtohlgcdailconaaGreatDoor.Scr
open Go.RowKit
set_option linter.unusedVariables false
abbrev Tx := List UInt8
def str (l : Tx) : Value := .string ⟨l.toArray⟩
theorem str_of (s : ByteArray) : Value.string s = str s.data.toList := rfl
theorem str_inj {a b : Tx} (h : str a = str b) : a = b := by
  unfold str at h
  simp only [Value.string.injEq, ByteArray.mk.injEq] at h
  exact List.toArray_inj h
/-- How acts of a kind are told: the word, how many numbers, whether bytes. -/
structure Fm where
  word : Tx
  n : Nat
  text : Bool
instance : Inhabited Fm := ⟨⟨[], 0, false⟩⟩
def forms : List Fm := [⟨[], 0, false⟩, ⟨[108, 111, 97, 100], 1, false⟩, ⟨[114, 117, 110], 2, false⟩, ⟨[116, 105, 99, 107], 0, false⟩, ⟨[97, 114, 114, 105, 118, 101], 0, true⟩, ⟨[115, 119, 97, 112], 1, false⟩, ⟨[108, 111, 115, 101], 1, false⟩, ⟨[114, 101, 108, 101, 97, 115, 101], 1, false⟩]
def form (d : Int) : Fm := forms.getD d.toNat default
structure Ac where
  d : Int
  n : Int
  m : Int
  t : Tx
structure Ac.ok (a : Ac) : Prop where
  d0 : 0 ≤ a.d
  d1 : a.d ≤ 255
  n0 : -9223372036854775808 ≤ a.n
  n1 : a.n ≤ 9223372036854775807
  m0 : -9223372036854775808 ≤ a.m
  m1 : a.m ≤ 9223372036854775807
  t1 : a.t.length ≤ 1048576
def acC (a : Ac) : List Value := [.int .u8 a.d, .int .i64 a.n, .int .i64 a.m, str a.t]
structure Sc where
  pages : Int
  exts : List Int
  key : Tx
  imgs : List Tx
  acts : List Ac
def hexT (t : Tx) : Tx := (strOfNums (Word.hexL (nums ⟨t.toArray⟩))).data.toList
def unhexT (t : Tx) : Option Tx := (Word.unhexL (nums ⟨t.toArray⟩)).map fun l => (strOfNums l).data.toList
/-- The number of a word. -/
def numT (t : Tx) : Option Int := match Lib.atoiAll t with | .ok v => if Lib.itoa v = t then some v else none | _ => none
/-- The bytes of a word. -/
def bytesT : Tx → Option Tx
  | [] => none
  | c :: r => if c = 120 then unhexT r else none
/-- The words of a line. -/
def wordsT (t : Tx) : Option (List Tx) := if [] ∈ Lib.split t [32] then none else some (Lib.split t [32])
def mayA (a : Ac) : Bool := decide (0 < a.d) && decide (a.d < 8) && (decide (a.n = 0) || decide (0 < ((form a.d).n : Int))) && (decide (a.m = 0) || decide (1 < ((form a.d).n : Int))) && (decide (a.t = []) || (form a.d).text)
def wordsA (a : Ac) : List Tx := (form a.d).word :: (([a.n, a.m].take (form a.d).n).map Lib.itoa ++ if (form a.d).text then [120 :: hexT a.t] else [])
def lineA (a : Ac) : Tx := Lib.join (wordsA a) [32]
def actsT (l : List Ac) : Tx := l.flatMap fun a => lineA a ++ [10]
end Go.Proofs.YtohlgcdailconaaGreatDoor.Scr
