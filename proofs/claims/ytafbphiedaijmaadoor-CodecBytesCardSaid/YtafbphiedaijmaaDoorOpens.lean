/- Arguments opened: values, slices of values, slices of bytes. -/
import Derived.Test.YtafbphiedaijmaaDoorVs
import Derived.Test.YtafbphiedaijmaaDoorOpenS
import Derived.ProofKit
import Derived.OpenShut
import Derived.SizedLaws
import Derived.Lib.SmallJoins
import Derived.ChangeSlices
namespace Go.Proofs.YtafbphiedaijmaaDoor
open Go.ChangeShapes Go.WideShapes Go.ChangeAt Go.RowKit Go.Joins

section
variable {H : Type} {enc : TypeId × Value → H} {w : World} {base : Nat} {spare : Nat → Bool} {held : Bool}
theorem cellsVal' : Tryd.prog.cellsOf 43 = 3 := by kernel_rfl

set_option maxRecDepth 100000 in
theorem val_cells (fuel : Nat) (cs : List Value) (x : DataW H × List MemPlace) (h : DataW.trod enc Tryd.prog w base spare held fuel 43 cs = some x) : ∃ a : Vl, cs = a.enc ∧ a.ok := by
  obtain ⟨xs, n, _, _, hl, hn, hf⟩ := DataW.trod_struct Tryd.underlying43 h
  rw [cellsVal'] at hl
  match cs, hl with
  | [c0, c1, c2], _ =>
    have c36 : Tryd.prog.cellsOf 41 = 1 := by kernel_rfl
    have c2' : Tryd.prog.cellsOf 2 = 1 := by kernel_rfl
    have c9 : Tryd.prog.cellsOf 9 = 1 := by kernel_rfl
    have h0 := hf 0 _ rfl
    have h1 := hf 1 _ rfl
    have h2 := hf 2 _ rfl
    match xs, hn with
    | [y0, y1, y2], _ =>
      simp only [List.getElem?_cons_zero, List.getElem?_cons_succ] at h0 h1 h2
      obtain ⟨k, e0, _, b0⟩ := DataW.trod_int Tryd.underlying41 h0
      obtain ⟨m, e1, _, b1⟩ := DataW.trod_int Tryd.underlying2 h1
      obtain ⟨s, e2, _, b2⟩ := DataW.trod_string Tryd.underlying9 h2
      simp [c36, c2', c9] at e0 e1 e2
      refine ⟨⟨k, m, s⟩, by rw [e0, e1, e2]; rfl, wf_i64' b1, (wf_u8' b0).1, (wf_u8' b0).2, b2⟩
set_option maxRecDepth 100000 in
theorem open_vals {r : Reach} {b0 : Nat} {v : Value} {d : DataW H} {p : List MemPlace} (hv : Value.okWide Tryd.prog w r b0 22 v) (h : DataW.Trod enc Tryd.prog w base (fun _ => true) held 22 v d p) :
    ∃ l : List Vl, Sl 3 Vl.enc w v l ∧ (∀ a ∈ l, a.ok) ∧ l.length ≤ maxLen := by
  obtain ⟨l, h1, h2, h3, _⟩ := open_sl (Q := Vl.ok) Tryd.underlying22 cellsVal' (by decide) Vl.enc_length (fun fuel cs x hh => val_cells fuel cs x hh) hv h
  exact ⟨l, h1, h2, h3⟩
theorem cellsByte' : Tryd.prog.cellsOf 5 = 1 := by kernel_rfl
set_option maxRecDepth 100000 in
theorem open_u8s {r : Reach} {b0 : Nat} {v : Value} {d : DataW H} {p : List MemPlace} (hv : Value.okWide Tryd.prog w r b0 27 v) (h : DataW.Trod enc Tryd.prog w base (fun _ => true) held 27 v d p) :
    ∃ l : List UInt8, SlU w v l ∧ (l = [] ∨ ∃ e s : List (DataW H), d = .slice e s ∧ e.length = l.length) := by
  obtain ⟨l, h1, _, h3, h4⟩ := open_sl (Q := fun _ => True) (enc := u8E) Tryd.underlying27 cellsByte' (by decide) u8E_length (fun fuel cs x hh => by
    obtain ⟨k, e0, _, b0⟩ := DataW.trod_int Tryd.underlying5 hh
    have hb := wf_u8' b0
    refine ⟨UInt8.ofNat k.toNat, ?_, trivial⟩
    rw [e0]
    simp [u8E]
    omega) hv h
  exact ⟨l, h1, h4⟩
end
end Go.Proofs.YtafbphiedaijmaaDoor
