/- A row of the table, opened: an argument by value, or an element of a slice. -/
import Derived.Test.YtafbphiedaijmaaDoorOpens
import Derived.Test.YtafbphiedaijmaaDoorOpenS
import Derived.Test.YtafbphiedaijmaaDoorCodS
namespace Go.Proofs.YtafbphiedaijmaaDoor
open Go.ChangeShapes Go.WideShapes Go.ChangeAt Go.RowKit Go.Joins Go.Deep Go.Lib
section
variable {H : Type} {enc : TypeId × Value → H} {w : World} {base : Nat} {held : Bool}
theorem cellsRow' : Tryd.prog.cellsOf 26 = 3 := by kernel_rfl
theorem cellsVals' : Tryd.prog.cellsOf 22 = 1 := by kernel_rfl
theorem cellsSpan' : Tryd.prog.cellsOf 24 = 2 := by kernel_rfl

set_option maxRecDepth 100000 in
theorem row_cells (fuel : Nat) (cs : List Value) (x : DataW H × List MemPlace) (h : DataW.trod enc Tryd.prog w base (fun _ => true) held fuel 26 cs = some x) :
    ∃ (v : Value) (r : Rw) (y z : DataW H), cs = [v, .int .i64 r.f, .int .i64 r.t] ∧ Sl 3 Vl.enc w v r.l ∧ r.ok ∧ r.l.length ≤ maxLen ∧ x.1 = .agg [y, z] ∧ (r.l = [] ∨ ∃ el sp : List (DataW H), y = .slice el sp ∧ el.length = r.l.length) := by
  obtain ⟨xs, n, _, hx, hl, hn, hf⟩ := DataW.trod_struct Tryd.underlying26 h
  rw [cellsRow'] at hl
  match cs, hl with
  | [c0, c1, c2], _ =>
    have h0 := hf 0 _ rfl
    have h1 := hf 1 _ rfl
    match xs, hn with
    | [y0, y1], _ =>
      simp only [List.getElem?_cons_zero, List.getElem?_cons_succ] at h0 h1
      obtain ⟨v, l, e0, hs, hq, hm, hd⟩ := open_slc (Q := Vl.ok) Tryd.underlying22 cellsVal' (by decide) Vl.enc_length (fun fuel cs x hh => val_cells fuel cs x hh) h0
      obtain ⟨zs, m, _, _, hl2, hn2, hf2⟩ := DataW.trod_struct Tryd.underlying24 h1
      simp [cellsVals', cellsSpan'] at e0 hf2
      match zs, hn2 with
      | [z0, z1], _ =>
        have c2' : Tryd.prog.cellsOf 3 = 1 := by kernel_rfl
        have g0 := hf2 0 _ rfl
        have g1 := hf2 1 _ rfl
        simp only [List.getElem?_cons_zero, List.getElem?_cons_succ] at g0 g1
        obtain ⟨f, e1, _, b1⟩ := DataW.trod_int Tryd.underlying3 g0
        obtain ⟨t, e2, _, b2⟩ := DataW.trod_int Tryd.underlying3 g1
        simp [c2'] at e1 e2
        refine ⟨v, ⟨l, f, t⟩, y0.1, y1.1, ?_, hs, ⟨hq, wf_i64' b1, wf_i64' b2⟩, hm, by rw [hx]; rfl, hd⟩
        rw [e0, e1, e2]
set_option maxRecDepth 100000 in
theorem open_row {r : Reach} {b0 : Nat} {v : Value} {d : DataW H} {p : List MemPlace} (hv : Value.okWide Tryd.prog w r b0 26 v) (h : DataW.Trod enc Tryd.prog w base (fun _ => true) held 26 v d p) :
    ∃ (u : Value) (a : Rw), v = .agg #[u, .int .i64 a.f, .int .i64 a.t] ∧ Sl 3 Vl.enc w u a.l ∧ a.ok ∧ a.l.length ≤ maxLen := by
  obtain ⟨cs, rfl, _⟩ := okWide_struct Tryd.underlying26 hv
  obtain ⟨fuel, hf⟩ := h
  obtain ⟨u, a, _, _, e, h1, h2, h3, _⟩ := row_cells _ _ _ hf
  have e' : cs.toList = [u, .int .i64 a.f, .int .i64 a.t] := by simpa [Value.cells] using e
  refine ⟨u, a, ?_, h1, h2, h3⟩
  rw [show cs = #[u, .int .i64 a.f, .int .i64 a.t] from by apply Array.toList_inj.1; exact e']
end
end Go.Proofs.YtafbphiedaijmaaDoor
