/- Slices in cells, opened, whatever their elements. No program in sight. -/
import Derived.Test.YtafbphiedaijmaaDoorSl
import Derived.ProofKit
import Derived.OpenShut
import Derived.SizedLaws
import Derived.Lib.SmallJoins
import Derived.ChangeSlices
namespace Go.Proofs.YtafbphiedaijmaaDoor
open Go.ChangeShapes Go.WideShapes Go.ChangeAt Go.RowKit Go.Joins Go.Deep
theorem wf_u8' {n : Int} (h : (Lit.int .u8 n).wf = true) : 0 ≤ n ∧ n ≤ 255 := by
  simp [Lit.wf, IntKind.min, IntKind.max, IntKind.signed, IntKind.bits] at h
  omega
theorem wf_i64' {n : Int} (h : (Lit.int .i64 n).wf = true) : -9223372036854775808 ≤ n ∧ n ≤ 9223372036854775807 := by
  simp [Lit.wf, IntKind.min, IntKind.max, IntKind.signed, IntKind.bits] at h
  omega
section
variable {α H : Type} {ench : TypeId × Value → H} {P : Program} {w : World} {base : Nat} {held : Bool} {size : Nat} {enc : α → List Value}
/-- A slice in cells, opened: an element's reading says what data it is. -/
theorem open_slc {Q : α → Prop} {t e : TypeId} {fuel : Nat} {cs : List Value} {x : DataW H × List MemPlace} (ht : P.underlying t = some (.slice e)) (hC : P.cellsOf e = size) (hpos : 0 < size) (hs : ∀ x, (enc x).length = size)
    (hel : ∀ (fuel : Nat) (cs : List Value) (x : DataW H × List MemPlace), DataW.trod ench P w base (fun _ => true) held fuel e cs = some x → ∃ a, cs = enc a ∧ Q a)
    (hf : DataW.trod ench P w base (fun _ => true) held fuel t cs = some x) :
    ∃ (v : Value) (l : List α), cs = [v] ∧ Sl size enc w v l ∧ (∀ a ∈ l, Q a) ∧ l.length ≤ maxLen ∧ (l = [] ∨ ∃ el sp : List (DataW H), x.1 = .slice el sp ∧ el.length = l.length) := by
  rcases open_slice ht hf with ⟨hcs, hx⟩ | ⟨a, len, cap, m, n, D, Pl, hcs, hb, hl, hm, hmm, hx, hi⟩
  · exact ⟨_, [], hcs, Sl.nil _ _ _, fun a h => by simp at h, by simp, .inl rfl⟩
  · rw [if_pos rfl] at hmm
    have hq : ∀ i, i < len → ∃ x : α, Q x ∧ ∀ j u, (enc x)[j]? = some u → w.cell? (a.add (i * size + j)) = some u := by
      intro i hil
      obtain ⟨cs', hc, ht'⟩ := hi i (by omega)
      obtain ⟨x, rfl, hQ⟩ := hel _ _ _ ht'
      refine ⟨x, hQ, fun j u hu => ?_⟩
      obtain ⟨_, hcl, hat⟩ := World.cells?_some hc
      rw [hC] at hat
      have hj : j < size := by rw [← hs x]; exact (List.getElem?_eq_some_iff.1 hu).1
      have := hat j hj
      rw [Go.Deep.add_add] at this
      rw [this]
      exact hu
    by_cases h0 : len = 0
    · subst h0
      refine ⟨_, [], hcs, ⟨some a, cap, rfl, by simp, (fun h => by cases h), (fun h => by simp at h)⟩, fun a h => by simp at h, by simp, .inl rfl⟩
    · obtain ⟨x0, _, hx0⟩ := hq 0 (by omega)
      have hpl : ∃ b off, a = ⟨b, off, none⟩ := by
        obtain ⟨b, off, spot⟩ := a
        have hz : ∃ u, (enc x0)[0]? = some u := ⟨(enc x0)[0]'(by rw [hs]; omega), List.getElem?_eq_getElem _⟩
        obtain ⟨u, hu⟩ := hz
        have hcell := hx0 0 u hu
        have hspot : spot = none := by simpa [Addr.add] using World.cell?_spot hcell
        exact ⟨b, off, by rw [hspot]⟩
      obtain ⟨b, off, rfl⟩ := hpl
      have hg : b < w.heap.size := by
        have hz : ∃ u, (enc x0)[0]? = some u := ⟨(enc x0)[0]'(by rw [hs]; omega), List.getElem?_eq_getElem _⟩
        obtain ⟨u, hu⟩ := hz
        have hcell := hx0 0 u hu
        rw [plain_add] at hcell
        exact World.block_lt_of_cell? _ _ hcell
      obtain ⟨f, hfq⟩ : ∃ f : Nat → α, ∀ i, i < len → Q (f i) ∧ ∀ j u, (enc (f i))[j]? = some u → w.cell? ((⟨b, off, none⟩ : Addr).add (i * size + j)) = some u :=
        ⟨fun i => if h : i < len then (hq i h).choose else x0, fun i hi => by
          have e : (if h : i < len then (hq i h).choose else x0) = (hq i hi).choose := dif_pos hi
          simp only [e]
          exact (hq i hi).choose_spec⟩
      have hll : ((List.range len).map f).length = len := by simp
      refine ⟨_, (List.range len).map f, hcs, ⟨_, cap, by rw [hll], by rw [hll]; exact hl, (fun h => by cases h), fun _ => ⟨b, off, rfl, hg, fun k x hk j u hu => ?_⟩⟩, fun a ha => ?_, by rw [hll]; omega, .inr ⟨_, _, congrArg Prod.fst hx, by simp⟩⟩
      · have hkl : k < len := by
          have := (List.getElem?_eq_some_iff.1 hk).1
          rwa [hll] at this
        rw [List.getElem?_map, List.getElem?_range hkl] at hk
        simp only [Option.map_some, Option.some.injEq] at hk
        subst hk
        have := (hfq k hkl).2 j u hu
        rwa [plain_add, ← Nat.add_assoc] at this
      · obtain ⟨i, hi', rfl⟩ := List.mem_map.1 ha
        exact (hfq i (List.mem_range.1 hi')).1
end

end Go.Proofs.YtafbphiedaijmaaDoor
