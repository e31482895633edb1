/- A row of the table, opened: an argument by value, or an element of a slice. -/
import Derived.Test.YtafbphiedaijmaaOpens
import Derived.Test.YtafbphiedaijmaaCodS
namespace Go.Proofs.Ytafbphiedaijmaa
open Go.ChangeShapes Go.WideShapes Go.ChangeAt Go.RowKit Go.Joins Go.Deep Go.Lib
section
variable {α H : Type} {ench : TypeId × Value → H} {P : Program} {w : World} {base : Nat} {held : Bool} {size : Nat} {enc : α → List Value}
/-- A slice in cells, opened: an element's reading says what data it is. -/
theorem open_slc {Q : α → Prop} {t e : TypeId} {fuel : Nat} {cs : List Value} {x : DataW H × List MemPlace} (ht : P.underlying t = some (.slice e)) (hC : P.cellsOf e = size) (hpos : 0 < size) (hs : ∀ x, (enc x).length = size)
    (hel : ∀ (fuel : Nat) (cs : List Value) (x : DataW H × List MemPlace), DataW.trod ench P w base (fun _ => true) held fuel e cs = some x → ∃ a, cs = enc a ∧ Q a)
    (hf : DataW.trod ench P w base (fun _ => true) held fuel t cs = some x) :
    ∃ (v : Value) (l : List α), cs = [v] ∧ Sl size enc w v l ∧ (∀ a ∈ l, Q a) ∧ l.length ≤ maxLen ∧ (l = [] ∨ ∃ el sp : List (DataW H), x.1 = .slice el sp ∧ el.length = l.length) := by
  rcases open_slice ht hf with ⟨hcs, hx⟩ | ⟨a, len, cap, m, n, D, Pl, hcs, hb, hl, hm, hmm, hx, hi⟩
  · exact ⟨_, [], hcs, Sl.nil _ _ _, fun a h => by simp at h, by simp, .inl rfl⟩
  · rw [if_pos rfl] at hmm
    have hq : ∀ i, i < len → ∃ x : α, Q x ∧ ∀ j u, (enc x)[j]? = some u → w.cell? (a.add (i * size + j)) = some u := by
      intro i hil
      obtain ⟨cs', hc, ht'⟩ := hi i (by omega)
      obtain ⟨x, rfl, hQ⟩ := hel _ _ _ ht'
      refine ⟨x, hQ, fun j u hu => ?_⟩
      obtain ⟨_, hcl, hat⟩ := World.cells?_some hc
      rw [hC] at hat
      have hj : j < size := by rw [← hs x]; exact (List.getElem?_eq_some_iff.1 hu).1
      have := hat j hj
      rw [Go.Deep.add_add] at this
      rw [this]
      exact hu
    by_cases h0 : len = 0
    · subst h0
      refine ⟨_, [], hcs, ⟨some a, cap, rfl, by simp, (fun h => by cases h), (fun h => by simp at h)⟩, fun a h => by simp at h, by simp, .inl rfl⟩
    · obtain ⟨x0, _, hx0⟩ := hq 0 (by omega)
      have hpl : ∃ b off, a = ⟨b, off, none⟩ := by
        obtain ⟨b, off, spot⟩ := a
        have hz : ∃ u, (enc x0)[0]? = some u := ⟨(enc x0)[0]'(by rw [hs]; omega), List.getElem?_eq_getElem _⟩
        obtain ⟨u, hu⟩ := hz
        have hcell := hx0 0 u hu
        have hspot : spot = none := by simpa [Addr.add] using World.cell?_spot hcell
        exact ⟨b, off, by rw [hspot]⟩
      obtain ⟨b, off, rfl⟩ := hpl
      have hg : b < w.heap.size := by
        have hz : ∃ u, (enc x0)[0]? = some u := ⟨(enc x0)[0]'(by rw [hs]; omega), List.getElem?_eq_getElem _⟩
        obtain ⟨u, hu⟩ := hz
        have hcell := hx0 0 u hu
        rw [plain_add] at hcell
        exact World.block_lt_of_cell? _ _ hcell
      obtain ⟨f, hfq⟩ : ∃ f : Nat → α, ∀ i, i < len → Q (f i) ∧ ∀ j u, (enc (f i))[j]? = some u → w.cell? ((⟨b, off, none⟩ : Addr).add (i * size + j)) = some u :=
        ⟨fun i => if h : i < len then (hq i h).choose else x0, fun i hi => by
          have e : (if h : i < len then (hq i h).choose else x0) = (hq i hi).choose := dif_pos hi
          simp only [e]
          exact (hq i hi).choose_spec⟩
      have hll : ((List.range len).map f).length = len := by simp
      refine ⟨_, (List.range len).map f, hcs, ⟨_, cap, by rw [hll], by rw [hll]; exact hl, (fun h => by cases h), fun _ => ⟨b, off, rfl, hg, fun k x hk j u hu => ?_⟩⟩, fun a ha => ?_, by rw [hll]; omega, .inr ⟨_, _, congrArg Prod.fst hx, by simp⟩⟩
      · have hkl : k < len := by
          have := (List.getElem?_eq_some_iff.1 hk).1
          rwa [hll] at this
        rw [List.getElem?_map, List.getElem?_range hkl] at hk
        simp only [Option.map_some, Option.some.injEq] at hk
        subst hk
        have := (hfq k hkl).2 j u hu
        rwa [plain_add, ← Nat.add_assoc] at this
      · obtain ⟨i, hi', rfl⟩ := List.mem_map.1 ha
        exact (hfq i (List.mem_range.1 hi')).1
end

section
variable {H : Type} {enc : TypeId × Value → H} {w : World} {base : Nat} {held : Bool}
theorem cellsRow' : Try.prog.cellsOf 26 = 3 := by kernel_rfl
theorem cellsVals' : Try.prog.cellsOf 22 = 1 := by kernel_rfl
theorem cellsSpan' : Try.prog.cellsOf 24 = 2 := by kernel_rfl

set_option maxRecDepth 100000 in
theorem row_cells (fuel : Nat) (cs : List Value) (x : DataW H × List MemPlace) (h : DataW.trod enc Try.prog w base (fun _ => true) held fuel 26 cs = some x) :
    ∃ (v : Value) (r : Rw) (y z : DataW H), cs = [v, .int .i64 r.f, .int .i64 r.t] ∧ Sl 3 Vl.enc w v r.l ∧ r.ok ∧ r.l.length ≤ maxLen ∧ x.1 = .agg [y, z] ∧ (r.l = [] ∨ ∃ el sp : List (DataW H), y = .slice el sp ∧ el.length = r.l.length) := by
  obtain ⟨xs, n, _, hx, hl, hn, hf⟩ := DataW.trod_struct Try.underlying26 h
  rw [cellsRow'] at hl
  match cs, hl with
  | [c0, c1, c2], _ =>
    have h0 := hf 0 _ rfl
    have h1 := hf 1 _ rfl
    match xs, hn with
    | [y0, y1], _ =>
      simp only [List.getElem?_cons_zero, List.getElem?_cons_succ] at h0 h1
      obtain ⟨v, l, e0, hs, hq, hm, hd⟩ := open_slc (Q := Vl.ok) Try.underlying22 cellsVal' (by decide) Vl.enc_length (fun fuel cs x hh => val_cells fuel cs x hh) h0
      obtain ⟨zs, m, _, _, hl2, hn2, hf2⟩ := DataW.trod_struct Try.underlying24 h1
      simp [cellsVals', cellsSpan'] at e0 hf2
      match zs, hn2 with
      | [z0, z1], _ =>
        have c2' : Try.prog.cellsOf 3 = 1 := by kernel_rfl
        have g0 := hf2 0 _ rfl
        have g1 := hf2 1 _ rfl
        simp only [List.getElem?_cons_zero, List.getElem?_cons_succ] at g0 g1
        obtain ⟨f, e1, _, b1⟩ := DataW.trod_int Try.underlying3 g0
        obtain ⟨t, e2, _, b2⟩ := DataW.trod_int Try.underlying3 g1
        simp [c2'] at e1 e2
        refine ⟨v, ⟨l, f, t⟩, y0.1, y1.1, ?_, hs, ⟨hq, wf_i64' b1, wf_i64' b2⟩, hm, by rw [hx]; rfl, hd⟩
        rw [e0, e1, e2]
set_option maxRecDepth 100000 in
theorem open_row {r : Reach} {b0 : Nat} {v : Value} {d : DataW H} {p : List MemPlace} (hv : Value.okWide Try.prog w r b0 26 v) (h : DataW.Trod enc Try.prog w base (fun _ => true) held 26 v d p) :
    ∃ (u : Value) (a : Rw), v = .agg #[u, .int .i64 a.f, .int .i64 a.t] ∧ Sl 3 Vl.enc w u a.l ∧ a.ok ∧ a.l.length ≤ maxLen := by
  obtain ⟨cs, rfl, _⟩ := okWide_struct Try.underlying26 hv
  obtain ⟨fuel, hf⟩ := h
  obtain ⟨u, a, _, _, e, h1, h2, h3, _⟩ := row_cells _ _ _ hf
  have e' : cs.toList = [u, .int .i64 a.f, .int .i64 a.t] := by simpa [Value.cells] using e
  refine ⟨u, a, ?_, h1, h2, h3⟩
  rw [show cs = #[u, .int .i64 a.f, .int .i64 a.t] from by apply Array.toList_inj.1; exact e']
end
end Go.Proofs.Ytafbphiedaijmaa
