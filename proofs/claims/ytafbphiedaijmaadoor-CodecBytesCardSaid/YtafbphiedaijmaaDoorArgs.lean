/- Arguments that are values, or three of them: opened. -/
import Derived.Test.YtafbphiedaijmaaDoorCardLaw
namespace Go.Proofs.YtafbphiedaijmaaDoor
open Go.ChangeShapes Go.WideShapes Go.ChangeAt Go.RowKit Go.Joins

section
variable {H : Type} {enc : TypeId × Value → H} {w : World} {base : Nat} {spare : Nat → Bool} {held : Bool}
theorem cellsVal : Tryd.prog.cellsOf 43 = 3 := by kernel_rfl
set_option maxRecDepth 100000 in
theorem value_of_cells {fuel : Nat} {cs : List Value} {x : DataW H × List MemPlace} (h : DataW.trod enc Tryd.prog w base spare held fuel 43 cs = some x) :
    ∃ k n s, cs = [.int .u8 k, .int .i64 n, .string s] ∧ (Lit.int .u8 k).wf = true ∧ (Lit.int .i64 n).wf = true ∧ s.size ≤ maxLen := by
  obtain ⟨xs, n, _, _, hl, hn, hf⟩ := DataW.trod_struct Tryd.underlying43 h
  rw [cellsVal] at hl
  match cs, hl with
  | [c0, c1, c2], _ =>
    have c36 : Tryd.prog.cellsOf 41 = 1 := by kernel_rfl
    have c2' : Tryd.prog.cellsOf 2 = 1 := by kernel_rfl
    have c9 : Tryd.prog.cellsOf 9 = 1 := by kernel_rfl
    have h0 := hf 0 _ rfl
    have h1 := hf 1 _ rfl
    have h2 := hf 2 _ rfl
    match xs, hn with
    | [y0, y1, y2], _ =>
      simp only [List.getElem?_cons_zero, List.getElem?_cons_succ] at h0 h1 h2
      obtain ⟨k, e0, _, b0⟩ := DataW.trod_int Tryd.underlying41 h0
      obtain ⟨m, e1, _, b1⟩ := DataW.trod_int Tryd.underlying2 h1
      obtain ⟨s, e2, _, b2⟩ := DataW.trod_string Tryd.underlying9 h2
      simp [c36, c2', c9] at e0 e1 e2
      exact ⟨k, m, s, by rw [e0, e1, e2], b0, b1, b2⟩
theorem open_value {r : Reach} {b0 : Nat} {v : Value} {d : DataW H} {p : List MemPlace} (hv : Value.okWide Tryd.prog w r b0 43 v) (h : DataW.Trod enc Tryd.prog w base spare held 43 v d p) :
    ∃ k n s, v = .agg #[.int .u8 k, .int .i64 n, .string s] ∧ (Lit.int .u8 k).wf = true ∧ (Lit.int .i64 n).wf = true ∧ s.size ≤ maxLen := by
  obtain ⟨cs, rfl, hsz⟩ := okWide_struct Tryd.underlying43 hv
  obtain ⟨fuel, hf⟩ := h
  obtain ⟨k, n, s, e, h1, h2, h3⟩ := value_of_cells hf
  refine ⟨k, n, s, ?_, h1, h2, h3⟩
  have e' : cs.toList = [.int .u8 k, .int .i64 n, .string s] := e
  rw [show cs = cs.toList.toArray from rfl, e']
end
end Go.Proofs.YtafbphiedaijmaaDoor
