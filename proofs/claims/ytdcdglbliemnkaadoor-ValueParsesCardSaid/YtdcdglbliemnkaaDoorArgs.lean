/- Arguments that are values, or three of them: opened. -/
import Derived.Test.YtdcdglbliemnkaaDoorCardLaw
namespace Go.Proofs.YtdcdglbliemnkaaDoor
open Go.ChangeShapes Go.WideShapes Go.ChangeAt Go.RowKit Go.Joins

section
variable {H : Type} {enc : TypeId × Value → H} {w : World} {base : Nat} {spare : Nat → Bool} {held : Bool}
theorem cellsVal : Tryd.prog.cellsOf 38 = 3 := by kernel_rfl
theorem cellsArr : Tryd.prog.cellsOf 48 = 9 := by kernel_rfl

set_option maxRecDepth 100000 in
theorem value_of_cells {fuel : Nat} {cs : List Value} {x : DataW H × List MemPlace} (h : DataW.trod enc Tryd.prog w base spare held fuel 38 cs = some x) :
    ∃ k n s, cs = [.int .u8 k, .int .i64 n, .string s] ∧ (Lit.int .u8 k).wf = true ∧ (Lit.int .i64 n).wf = true ∧ s.size ≤ maxLen := by
  obtain ⟨xs, n, _, _, hl, hn, hf⟩ := DataW.trod_struct Tryd.underlying38 h
  rw [cellsVal] at hl
  match cs, hl with
  | [c0, c1, c2], _ =>
    have c36 : Tryd.prog.cellsOf 36 = 1 := by kernel_rfl
    have c2' : Tryd.prog.cellsOf 2 = 1 := by kernel_rfl
    have c9 : Tryd.prog.cellsOf 9 = 1 := by kernel_rfl
    have h0 := hf 0 _ rfl
    have h1 := hf 1 _ rfl
    have h2 := hf 2 _ rfl
    match xs, hn with
    | [y0, y1, y2], _ =>
      simp only [List.getElem?_cons_zero, List.getElem?_cons_succ] at h0 h1 h2
      obtain ⟨k, e0, _, b0⟩ := DataW.trod_int Tryd.underlying36 h0
      obtain ⟨m, e1, _, b1⟩ := DataW.trod_int Tryd.underlying2 h1
      obtain ⟨s, e2, _, b2⟩ := DataW.trod_string Tryd.underlying9 h2
      simp [c36, c2', c9] at e0 e1 e2
      exact ⟨k, m, s, by rw [e0, e1, e2], b0, b1, b2⟩
theorem open_value {r : Reach} {b0 : Nat} {v : Value} {d : DataW H} {p : List MemPlace} (hv : Value.okWide Tryd.prog w r b0 38 v) (h : DataW.Trod enc Tryd.prog w base spare held 38 v d p) :
    ∃ k n s, v = .agg #[.int .u8 k, .int .i64 n, .string s] ∧ (Lit.int .u8 k).wf = true ∧ (Lit.int .i64 n).wf = true ∧ s.size ≤ maxLen := by
  obtain ⟨cs, rfl, hsz⟩ := okWide_struct Tryd.underlying38 hv
  obtain ⟨fuel, hf⟩ := h
  obtain ⟨k, n, s, e, h1, h2, h3⟩ := value_of_cells hf
  refine ⟨k, n, s, ?_, h1, h2, h3⟩
  have e' : cs.toList = [.int .u8 k, .int .i64 n, .string s] := e
  rw [show cs = cs.toList.toArray from rfl, e']
set_option maxRecDepth 100000 in
theorem open_three {r : Reach} {b0 : Nat} {v : Value} {d : DataW H} {p : List MemPlace} (hv : Value.okWide Tryd.prog w r b0 48 v) (h : DataW.Trod enc Tryd.prog w base spare held 48 v d p) :
    ∃ k0 n0 s0 k1 n1 s1 k2 n2 s2, v = .agg #[.int .u8 k0, .int .i64 n0, .string s0, .int .u8 k1, .int .i64 n1, .string s1, .int .u8 k2, .int .i64 n2, .string s2] := by
  have hv' : ∃ cs, v = .agg cs ∧ cs.size = Tryd.prog.cellsOf 48 := by
    have := hv
    unfold Value.okWide at this
    rw [Tryd.underlying48] at this
    obtain ⟨cs, h1, h2, _⟩ := this
    exact ⟨cs, h1, h2⟩
  obtain ⟨cs, rfl, hsz⟩ := hv'
  obtain ⟨fuel, hf⟩ := h
  obtain ⟨xs, m, _, _, hl, hn, hel⟩ := DataW.trod_array Tryd.underlying48 hf
  rw [cellsArr] at hl
  match xs, hn with
  | [x0, x1, x2], _ =>
    have g0 := hel 0 (by decide)
    have g1 := hel 1 (by decide)
    have g2 := hel 2 (by decide)
    simp only [cellsVal] at g0 g1 g2
    obtain ⟨k0, n0, s0, e0, _⟩ := value_of_cells (x := x0) g0
    obtain ⟨k1, n1, s1, e1, _⟩ := value_of_cells (x := x1) g1
    obtain ⟨k2, n2, s2, e2, _⟩ := value_of_cells (x := x2) g2
    refine ⟨k0, n0, s0, k1, n1, s1, k2, n2, s2, ?_⟩
    have hl' : cs.toList.length = 9 := hl
    have e0' : (cs.toList.drop 0).take 3 = _ := e0
    have e1' : (cs.toList.drop 3).take 3 = _ := e1
    have e2' : (cs.toList.drop 6).take 3 = _ := e2
    rw [show cs = cs.toList.toArray from rfl]
    generalize cs.toList = l at *
    match l, hl' with
    | [a, b, c, d, e, f, g, h, i], _ =>
      simp at e0' e1' e2'
      obtain ⟨rfl, rfl, rfl⟩ := e0'
      obtain ⟨rfl, rfl, rfl⟩ := e1'
      obtain ⟨rfl, rfl, rfl⟩ := e2'
      rfl
end
end Go.Proofs.YtdcdglbliemnkaaDoor
