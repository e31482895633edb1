/- What the tables of unicode/utf8 hold, as their texts lay them. -/
import Derived.Test.YtafbphiedaijmaaDoorWordA
namespace Go.Proofs.YtafbphiedaijmaaDoor
open Go.RowKit Go.Lib

/-- The library's variables as their texts lay them, and a third one that holds some number. -/
structure Env (w : World) : Prop where
  tabs : Lib.Utf8Tabs 0 1 w
  mx : ∃ m, w.cell? ⟨2, 0, none⟩ = some (.int .i64 m)
  sz : 3 ≤ w.heap.size
theorem Env.below {w w' : World} (h : Env w) (hb : Below w.heap.size w w') : Env w' := by
  have hz := h.sz
  have hk : ∀ b o : Nat, b < 3 → w'.cell? ⟨b, o, none⟩ = w.cell? ⟨b, o, none⟩ := fun b o hb3 => hb.cell (p := ⟨b, o, none⟩) (by show b < _; omega)
  obtain ⟨m, hm⟩ := h.mx
  refine ⟨⟨fun c hc => ?_, fun i hi => ⟨?_, ?_⟩⟩, ⟨m, ?_⟩, by have := hb.size; omega⟩
  · rw [hk _ _ (by decide)]; exact h.tabs.1 c hc
  · rw [hk _ _ (by decide)]; exact (h.tabs.2 i hi).1
  · rw [hk _ _ (by decide)]; exact (h.tabs.2 i hi).2
  · rw [hk _ _ (by decide)]; exact hm

theorem decodeGo_drop {s : ByteArray} {pos : Nat} (h : pos < s.size) : Lib.decodeGo (s.extract pos s.size) = decodeL (s.data.toList.drop pos) := by
  have hx := Lib.extract_to_end s pos
  have hne : ¬ (s.extract pos s.size).size = 0 := by
    intro e
    have : (s.extract pos s.size).data.toList.length = 0 := by simpa using e
    rw [hx, List.length_drop] at this
    simp at this
    omega
  unfold Lib.decodeGo
  rw [if_neg hne, ← hx]
  rfl

end Go.Proofs.YtafbphiedaijmaaDoor
