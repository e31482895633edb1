/- Rows of bytes of the call's own: what they convert to; one byte appended. -/
import Derived.Test.YtafbphiedaijmaaDoorBuild
import Derived.Laws.BytesString
import Derived.Laws.IdiomStrings
import Derived.Laws.Concat
namespace Go.Proofs.YtafbphiedaijmaaDoor
open Go.RowKit

/-- v is a slice of the call's own with just these bytes. -/
def OwnB (B : Nat) (w : World) (v : Value) (l : List UInt8) : Prop := w.ownsRow B 5 1 v l.length (Lib.byteCells l)
theorem OwnB.nil (B : Nat) (w : World) : OwnB B w (.slice none 0 0) [] := World.ownsRow_nil _ _ _ _
theorem OwnB.below {B : Nat} {w w' : World} {v : Value} {l : List UInt8} (h : OwnB B w v l) (hb : Below w.heap.size w w') : OwnB B w' v l := by
  refine World.ownsRow.kept h (row := none) ⟨hb.os, hb.tape, hb.output, hb.size, fun i hi _ => hb.block i hi⟩ ?_
  cases v.ownBlock <;> simp
theorem OwnB.slice {B : Nat} {w : World} {v : Value} {l : List UInt8} (h : OwnB B w v l) : ∃ A c, v = .slice A l.length c := by
  rcases h.2 with ⟨rfl, h0⟩ | ⟨g, cap, cur, rfl, _⟩
  · exact ⟨none, 0, by rw [h0]⟩
  · exact ⟨_, _, rfl⟩

theorem conv_own {B : Nat} {w : World} {v : Value} {l : List UInt8} (h : OwnB B w v l) : (convert 27 9 v).run Tryd.prog w = .ok (.string ⟨l.toArray⟩) w := by
  rcases h.2 with ⟨rfl, h0⟩ | ⟨g, cap, cur, rfl, _⟩
  · have : l = [] := List.eq_nil_of_length_eq_zero h0
    subst this
    rw [run_convert_bytes_string w _ _ 5 none 0 0 Tryd.underlying27 Tryd.underlying5 Tryd.underlying9]
    rfl
  · refine run_convert_bytes_back w _ _ 5 _ _ l Tryd.underlying27 Tryd.underlying5 Tryd.underlying9 ?_
    intro j hj
    refine h.cells (g := g) rfl j _ ?_
    simp [Lib.byteCells, hj]

theorem byteCells_snoc (l : List UInt8) (c : UInt8) : Lib.byteCells (l ++ [c]) = Lib.byteCells l ++ [.int .u8 c.toNat] := by simp [Lib.byteCells]
end Go.Proofs.YtafbphiedaijmaaDoor
