/- Rows of bytes in the words of Sl, Own. -/
import Derived.Test.YtafbphiedaijmaaDoorSl
import Derived.Test.YtafbphiedaijmaaDoorBy
import Derived.Test.YtafbphiedaijmaaDoorRow
namespace Go.Proofs.YtafbphiedaijmaaDoor
open Go.RowKit Go.Lib

theorem u8E_flat (l : List UInt8) : l.flatMap u8E = Lib.byteCells l := by
  induction l with
  | nil => rfl
  | cons a t ih => simp only [List.flatMap_cons, ih]; simp [u8E, Lib.byteCells]
theorem OwnB.u {B : Nat} {w : World} {v : Value} {l : List UInt8} (h : OwnB B w v l) : OwnU B w v l := by
  unfold OwnU Own; rw [u8E_flat]; exact h
theorem Own.b {B : Nat} {w : World} {v : Value} {l : List UInt8} (h : OwnU B w v l) : OwnB B w v l := by
  unfold OwnU Own at h; rw [u8E_flat] at h; exact h
end Go.Proofs.YtafbphiedaijmaaDoor
