/- value.Digits, value.digits. -/
import Derived.Test.YtafbphiedaijmaaDoorProg
import Derived.Test.YtafbphiedaijmaaDoorDig
import Derived.Test.YtafbphiedaijmaaDoorBlk
import Derived.Below
import Derived.Laws.OwnMore
import Derived.Deep.Draws
import Derived.Laws.Rows
import Derived.Laws.BytesString
import Derived.WalkKit
import Derived.WalkLawsBesides
import Derived.WalkSpells
import Derived.Outline
import Derived.Lib.Hide
namespace Go.Proofs.YtafbphiedaijmaaDoor
open Go.RowKit Go.Lib

theorem addr_off (g i j : Nat) : (⟨g, i, none⟩ : Addr).add j = ⟨g, i + j, none⟩ := by unfold Addr.add; split <;> simp_all

theorem digL_snoc (u : Nat) : digL u = (if u < 10 then [] else digL (u / 10)) ++ [UInt8.ofNat (48 + u % 10)] := by
  by_cases h : u < 10
  · rw [digL_small h, if_pos h, Nat.mod_eq_of_lt h]; rfl
  · rw [digL_big h, if_neg h]

/-- The room of a number's digits, from a place on. -/
def Room (C : Array Value) (a : Nat) (D : List UInt8) : Prop := C.size = 20 ∧ a + D.length = 20 ∧ ∀ j x, D[j]? = some x → C[a + j]? = some (.int .u8 x.toNat)
theorem Room.put {C : Array Value} {a : Nat} {D : List UInt8} (h : Room C (a + 1) D) (c : UInt8) : Room (C.setIfInBounds a (.int .u8 c.toNat)) a (c :: D) := by
  obtain ⟨h1, h2, h3⟩ := h
  refine ⟨by simpa using h1, by simp; omega, fun j x hj => ?_⟩
  cases j with
  | zero =>
    simp only [List.getElem?_cons_zero, Option.some.injEq] at hj
    subst hj
    rw [Nat.add_zero, Array.getElem?_setIfInBounds_self_of_lt (by omega)]
  | succ j =>
    simp only [List.getElem?_cons_succ] at hj
    rw [Array.getElem?_setIfInBounds_ne (by omega), show a + (j + 1) = a + 1 + j by omega]
    exact h3 j x hj

theorem conv_digits (w : World) (g a : Nat) (C : Array Value) (D : List UInt8) (t : TypeId) (hB : Blk w g t C) (h : Room C a D) (n : Nat) (hn : n = D.length) : (convert 27 9 (.slice (some ⟨g, a, none⟩) n n)).run Tryd.prog w = .ok (.string ⟨D.toArray⟩) w := by
  subst hn
  refine run_convert_bytes_back _ _ _ 5 ⟨g, a, none⟩ _ D Tryd.underlying27 Tryd.underlying5 Tryd.underlying9 ?_
  intro j hj
  rw [addr_off, hB.cell, h.2.2 j _ (List.getElem?_eq_getElem hj)]

end Go.Proofs.YtafbphiedaijmaaDoor
