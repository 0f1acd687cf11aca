/- Short names. -/
import Derived.Lib.Hide
import Derived.Below
import Derived.Test.YtnpicaigdfnmfaaGreatProg
set_option linter.unusedVariables false
namespace Go.Proofs.YtnpicaigdfnmfaaGreat
theorem Lh {p : Prop} (h : p) : Go.RowKit.Hid p := Go.Lib.hid h
section
variable {α : Type} {a x : α} {l : List α} {i : Nat}
theorem Za (h : i < l.toArray.size) : l.toArray[i] = l[i]'(by simpa using h) := List.getElem_toArray h
theorem Zb (h : i + 1 < (a :: l).length) : (a :: l)[i + 1] = l[i]'(Nat.lt_of_succ_lt_succ h) := List.getElem_cons_succ ..
theorem Zc (h : 0 < (a :: l).length) : (a :: l)[0] = a := rfl
theorem Zd : l.toArray.setIfInBounds i x = (l.set i x).toArray := List.setIfInBounds_toArray ..
theorem Ze : (a :: l).set 0 x = x :: l := rfl
theorem Zf : (a :: l).set (i + 1) x = a :: l.set i x := rfl
theorem Ba {w : Go.World} (o : Go.Obj) : Go.RowKit.Below w.heap.size w (w.alloc o) := (Go.RowKit.Below.refl _ _).alloc (Nat.le_refl _) o
theorem Br {n : Nat} {w : Go.World} : Go.RowKit.Below n w w := Go.RowKit.Below.refl _ _
theorem Zg (h : i < l.length) : l[i]? = some l[i] := List.getElem?_eq_getElem h
end
end Go.Proofs.YtnpicaigdfnmfaaGreat
