/- Deeds of the table, opened: an argument that is a slice of deeds, of bits. -/
import Derived.Test.YtaledjcbblgmeaaDkL
import Derived.Test.YtaledjcbblgmeaaOpenS
namespace Go.Proofs.Ytaledjcbblgmeaa
open Go.ChangeShapes Go.WideShapes Go.ChangeAt Go.RowKit Go.Joins Go.Deep
section
variable {H : Type} {enc : TypeId × Value → H} {w : World} {base : Nat} {held : Bool}
theorem cellsU8' : Try.prog.cellsOf 5 = 1 := by kernel_rfl
theorem cellsBool' : Try.prog.cellsOf 4 = 1 := by kernel_rfl
theorem cellsInt' : Try.prog.cellsOf 3 = 1 := by kernel_rfl
theorem cellsDeed' : Try.prog.cellsOf 50 = 4 := by kernel_rfl
theorem cellsU8s' : Try.prog.cellsOf 31 = 1 := by kernel_rfl
theorem cellsBools' : Try.prog.cellsOf 36 = 1 := by kernel_rfl
theorem u8_cells (fuel : Nat) (cs : List Value) (x : DataW H × List MemPlace) (h : DataW.trod enc Try.prog w base (fun _ => true) held fuel 5 cs = some x) : ∃ a, cs = u8E a ∧ True := by
  obtain ⟨k, e0, _, b0⟩ := DataW.trod_int Try.underlying5 h
  have hb := wf_u8' b0
  refine ⟨UInt8.ofNat k.toNat, ?_, trivial⟩
  rw [e0]
  simp [u8E]
  omega
theorem bool_cells (fuel : Nat) (cs : List Value) (x : DataW H × List MemPlace) (h : DataW.trod enc Try.prog w base (fun _ => true) held fuel 4 cs = some x) : ∃ a, cs = boE a ∧ True := by
  obtain ⟨b, e0, _⟩ := DataW.trod_bool Try.underlying4 h
  exact ⟨b, e0, trivial⟩
set_option maxRecDepth 100000 in
theorem deed_cells (fuel : Nat) (cs : List Value) (x : DataW H × List MemPlace) (h : DataW.trod enc Try.prog w base (fun _ => true) held fuel 50 cs = some x) : ∃ a : De, cs = a.enc ∧ a.ok w := by
  obtain ⟨xs, n, _, _, hl, hn, hf⟩ := DataW.trod_struct Try.underlying50 h
  rw [cellsDeed'] at hl
  match cs, hl with
  | [c0, c1, c2, c3], _ =>
    have h0 := hf 0 _ rfl
    have h1 := hf 1 _ rfl
    have h2 := hf 2 _ rfl
    have h3 := hf 3 _ rfl
    match xs, hn with
    | [y0, y1, y2, y3], _ =>
      simp only [List.getElem?_cons_zero, List.getElem?_cons_succ] at h0 h1 h2 h3
      obtain ⟨k, e0, _, b0⟩ := DataW.trod_int Try.underlying3 h0
      obtain ⟨i, e1, _, b1⟩ := DataW.trod_int Try.underlying3 h1
      obtain ⟨vB, b, e2, hb, _⟩ := open_slc (Q := fun _ => True) Try.underlying31 cellsU8' (by decide) u8E_length (fun fuel cs x hh => u8_cells fuel cs x hh) h2
      obtain ⟨vK, keep, e3, hk, _⟩ := open_slc (Q := fun _ => True) Try.underlying36 cellsBool' (by decide) boE_length (fun fuel cs x hh => bool_cells fuel cs x hh) h3
      simp [cellsInt', cellsU8s', cellsBools'] at e0 e1 e2 e3
      exact ⟨⟨k, i, vB, vK⟩, by rw [e0, e1, e2, e3]; rfl, wf_i64' b1, b, keep, hb, hk⟩
set_option maxRecDepth 100000 in
theorem open_deeds {r : Reach} {b0 : Nat} {v : Value} {d : DataW H} {p : List MemPlace} (hv : Value.okWide Try.prog w r b0 22 v) (h : DataW.Trod enc Try.prog w base (fun _ => true) held 22 v d p) :
    ∃ l : List De, Sl 4 De.enc w v l ∧ (∀ a ∈ l, a.ok w) ∧ l.length ≤ maxLen := by
  obtain ⟨l, h1, h2, h3, _⟩ := open_sl (Q := De.ok w) Try.underlying22 cellsDeed' (by decide) De.enc_length (fun fuel cs x hh => deed_cells fuel cs x hh) hv h
  exact ⟨l, h1, h2, h3⟩
set_option maxRecDepth 100000 in
theorem open_bits {r : Reach} {b0 : Nat} {v : Value} {d : DataW H} {p : List MemPlace} (hv : Value.okWide Try.prog w r b0 36 v) (h : DataW.Trod enc Try.prog w base (fun _ => true) held 36 v d p) :
    ∃ l : List Bool, Sl 1 boE w v l ∧ l.length ≤ maxLen := by
  obtain ⟨l, h1, _, h3, _⟩ := open_sl (Q := fun _ => True) Try.underlying36 cellsBool' (by decide) boE_length (fun fuel cs x hh => bool_cells fuel cs x hh) hv h
  exact ⟨l, h1, h3⟩
set_option maxRecDepth 100000 in
theorem okWide_array {t e : TypeId} {n : Nat} {r : Reach} {b0 : Nat} {v : Value} (ht : Try.prog.underlying t = some (.array n e)) (hv : Value.okWide Try.prog w r b0 t v) : ∃ cs, v = .agg cs := by
  have := hv
  unfold Value.okWide at this
  rw [ht] at this
  obtain ⟨cs, h1, _⟩ := this
  exact ⟨cs, h1⟩
theorem two_of {l : List Value} {a b : Value} (hl : l.length = 2) (h0 : (l.drop 0).take 1 = [a]) (h1 : (l.drop 1).take 1 = [b]) : l = [a, b] := by
  match l, hl with
  | [x, y], _ =>
    simp at h0 h1
    rw [h0, h1]
set_option maxRecDepth 100000 in
theorem open_u8x2 {r : Reach} {b0 : Nat} {v : Value} {d : DataW H} {p : List MemPlace} (hv : Value.okWide Try.prog w r b0 23 v) (h : DataW.Trod enc Try.prog w base (fun _ => true) held 23 v d p) :
    ∃ a b : UInt8, v = .agg #[.int .u8 a.toNat, .int .u8 b.toNat] := by
  obtain ⟨cs, rfl⟩ := okWide_array Try.underlying23 hv
  obtain ⟨fuel, hf⟩ := h
  obtain ⟨xs, m, _, _, hl, hn, hel⟩ := DataW.trod_array Try.underlying23 hf
  have c2 : Try.prog.cellsOf 23 = 2 := by kernel_rfl
  rw [c2] at hl
  match xs, hn with
  | [x0, x1], _ =>
    have g0 := hel 0 (by decide)
    have g1 := hel 1 (by decide)
    simp only [cellsU8'] at g0 g1
    obtain ⟨a, e0, _⟩ := u8_cells _ _ x0 g0
    obtain ⟨b, e1, _⟩ := u8_cells _ _ x1 g1
    refine ⟨a, b, ?_⟩
    have e' : cs.toList = _ := two_of hl e0 e1
    rw [show cs = cs.toList.toArray from rfl, e']
set_option maxRecDepth 100000 in
theorem open_boolx2 {r : Reach} {b0 : Nat} {v : Value} {d : DataW H} {p : List MemPlace} (hv : Value.okWide Try.prog w r b0 24 v) (h : DataW.Trod enc Try.prog w base (fun _ => true) held 24 v d p) :
    ∃ a b : Bool, v = .agg #[.bool a, .bool b] := by
  obtain ⟨cs, rfl⟩ := okWide_array Try.underlying24 hv
  obtain ⟨fuel, hf⟩ := h
  obtain ⟨xs, m, _, _, hl, hn, hel⟩ := DataW.trod_array Try.underlying24 hf
  have c2 : Try.prog.cellsOf 24 = 2 := by kernel_rfl
  rw [c2] at hl
  match xs, hn with
  | [x0, x1], _ =>
    have g0 := hel 0 (by decide)
    have g1 := hel 1 (by decide)
    simp only [cellsBool'] at g0 g1
    obtain ⟨a, e0, _⟩ := bool_cells _ _ x0 g0
    obtain ⟨b, e1, _⟩ := bool_cells _ _ x1 g1
    refine ⟨a, b, ?_⟩
    have e' : cs.toList = _ := two_of hl e0 e1
    rw [show cs = cs.toList.toArray from rfl, e']
set_option maxRecDepth 100000 in
theorem open_byte {r : Reach} {b0 : Nat} {v : Value} {d : DataW H} {p : List MemPlace} (hv : Value.okWide Try.prog w r b0 5 v) (h : DataW.Trod enc Try.prog w base (fun _ => true) held 5 v d p) :
    ∃ a : UInt8, v = .int .u8 a.toNat := by
  obtain ⟨fuel, hf⟩ := h
  obtain ⟨a, e, _⟩ := u8_cells _ _ _ hf
  obtain ⟨n, rfl⟩ := okWide_int Try.underlying5 hv
  refine ⟨a, ?_⟩
  have e' : [Value.int .u8 n] = [.int .u8 a.toNat] := e
  exact List.head_eq_of_cons_eq e'
end
end Go.Proofs.Ytaledjcbblgmeaa
