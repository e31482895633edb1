/- regestalaw03.live: what must be whatever is asked. -/
import Derived.Test.YtafbphiedaijmaaDoorVal
import Derived.Test.YtafbphiedaijmaaDoorUnq
namespace Go.Proofs.YtafbphiedaijmaaDoor
open Go.RowKit Go.Lib

theorem r1 : unquoteR ⟨#[39, 120, 39]⟩ = (⟨#[120]⟩, 3, 0) := by decide +kernel

theorem OwnB.open {B : Nat} {w : World} {v : Value} {l : List UInt8} (h : OwnB B w v l) (hne : l ≠ []) :
    ∃ g c, v = .slice (some ⟨g, 0, none⟩) l.length c ∧ B ≤ g ∧ g < w.heap.size ∧ l.length ≤ c ∧ ∀ j x, l[j]? = some x → w.cell? ⟨g, j, none⟩ = some (.int .u8 x.toNat) := by
  rcases h.2 with ⟨rfl, h0⟩ | ⟨g, cap, cur, rfl, hB, hg, hc, _⟩
  · exact absurd (List.eq_nil_of_length_eq_zero h0) hne
  · refine ⟨g, cap, rfl, hB, ?_, hc, fun j x hj => ?_⟩
    · by_cases hlt : g < w.heap.size
      · exact hlt
      · rw [Array.getElem?_eq_none (by omega)] at hg; cases hg
    · have := World.ownsRow.cells h (g := g) rfl j (.int .u8 x.toNat) (by simp [Lib.byteCells, hj])
      rwa [addr_add] at this
theorem b_m1 : bytesV 1 (-1) ⟨#[]⟩ = [1, 127, 255, 255, 255, 255, 255, 255, 255] := by decide +kernel
theorem v_m1 : valB 1 (-1) ⟨#[]⟩ = true := by decide +kernel

end Go.Proofs.YtafbphiedaijmaaDoor
