/- word.Quote, word.Unquote. -/
import Derived.Test.YtafbphiedaijmaaDoorFront
import Derived.Test.YtafbphiedaijmaaDoorBuild
namespace Go.Proofs.YtafbphiedaijmaaDoor
open Go.RowKit Go.Lib

/-- Each mark twice. -/
def dbl : List UInt8 → List UInt8
  | [] => []
  | c :: l => if c = 39 then 39 :: 39 :: dbl l else c :: dbl l
theorem dbl_append (a b : List UInt8) : dbl (a ++ b) = dbl a ++ dbl b := by
  induction a with
  | nil => rfl
  | cons c a ih => simp only [List.cons_append, dbl]; split <;> simp [ih]
theorem dbl_le (l : List UInt8) : l.length ≤ (dbl l).length ∧ (dbl l).length ≤ 2 * l.length := by
  induction l with
  | nil => simp [dbl]
  | cons c l ih => simp only [dbl]; split <;> simp <;> omega
/-- A text within marks. -/
def quoteL (l : List UInt8) : List UInt8 := 39 :: dbl l ++ [39]
def quoteR (s : ByteArray) : ByteArray × Int := if rightL s.data.toList then (⟨(quoteL s.data.toList).toArray⟩, 0) else (⟨#[]⟩, 3)

end Go.Proofs.YtafbphiedaijmaaDoor
