/- value.Digits, value.digits. -/
import Derived.Test.YtbideikffodclaaDoorProg
import Derived.Test.YtbideikffodclaaDoorDig
import Derived.Below
import Derived.Laws.OwnMore
import Derived.Deep.Draws
import Derived.Laws.Rows
import Derived.Laws.BytesString
import Derived.WalkKit
import Derived.WalkLawsBesides
import Derived.WalkSpells
import Derived.Outline
import Derived.Lib.Hide
namespace Go.Proofs.YtbideikffodclaaDoor
open Go.RowKit Go.Lib

/-- A block known whole. -/
def Blk (w : World) (g : Nat) (t : TypeId) (cs : Array Value) : Prop := w.heap[g]? = some (.cells cs t (0, 0))
section
variable {w w' : World} {g : Nat} {t : TypeId} {cs : Array Value}
theorem Blk.lt (h : Blk w g t cs) : g < w.heap.size := by
  rcases Nat.lt_or_ge g w.heap.size with hlt | hge
  · exact hlt
  · unfold Blk at h; rw [Array.getElem?_eq_none hge] at h; cases h
theorem Blk.cell (h : Blk w g t cs) (i : Nat) : w.cell? ⟨g, i, none⟩ = cs[i]? := cell_of_row w g i cs t (0, 0) h
theorem Blk.frozen (h : Blk w g t cs) (i : Nat) : w.frozen? ⟨g, i, none⟩ = false := by
  unfold Blk at h
  simp [World.frozen?, h]
theorem Blk.new (w : World) (t : TypeId) (cs : Array Value) : Blk (w.alloc (.cells cs t)) w.heap.size t cs := heap_alloc_new w _
theorem Blk.drewN (h : Blk w g t cs) (n : Nat) : Blk (w.drewN n) g t cs := h
theorem Blk.alloc (h : Blk w g t cs) (o : Obj) : Blk (w.alloc o) g t cs := (Below.heap_alloc w o g h.lt).trans h
theorem Blk.set_ (h : Blk w g t cs) (i : Nat) (u : Value) : Blk (w.setCell ⟨g, i, none⟩ u) g t (cs.setIfInBounds i u) := by
  unfold Blk at h ⊢
  simp [World.setCell, Array.getElem?_modify, h]
theorem Blk.far (h : Blk w g t cs) {p : Addr} (hp : g ≠ p.block) (u : Value) : Blk (w.setCell p u) g t cs := (Below.heap_setCell w p u g hp).trans h
theorem Blk.below {B : Nat} (h : Blk w g t cs) (hb : Below B w w') (hg : g < B) : Blk w' g t cs := (hb.block g hg).trans h
theorem Blk.grown {row : Option Nat} (h : Blk w g t cs) (hb : w.grownBy w' row) (hg : some g ≠ row) : Blk w' g t cs := (hb.block g h.lt hg).trans h
end
theorem addr_off (g i j : Nat) : (⟨g, i, none⟩ : Addr).add j = ⟨g, i + j, none⟩ := by unfold Addr.add; split <;> simp_all

theorem digL_snoc (u : Nat) : digL u = (if u < 10 then [] else digL (u / 10)) ++ [UInt8.ofNat (48 + u % 10)] := by
  by_cases h : u < 10
  · rw [digL_small h, if_pos h, Nat.mod_eq_of_lt h]; rfl
  · rw [digL_big h, if_neg h]

/-- The room of a number's digits, from a place on. -/
def Room (C : Array Value) (a : Nat) (D : List UInt8) : Prop := C.size = 20 ∧ a + D.length = 20 ∧ ∀ j x, D[j]? = some x → C[a + j]? = some (.int .u8 x.toNat)
theorem Room.put {C : Array Value} {a : Nat} {D : List UInt8} (h : Room C (a + 1) D) (c : UInt8) : Room (C.setIfInBounds a (.int .u8 c.toNat)) a (c :: D) := by
  obtain ⟨h1, h2, h3⟩ := h
  refine ⟨by simpa using h1, by simp; omega, fun j x hj => ?_⟩
  cases j with
  | zero =>
    simp only [List.getElem?_cons_zero, Option.some.injEq] at hj
    subst hj
    rw [Nat.add_zero, Array.getElem?_setIfInBounds_self_of_lt (by omega)]
  | succ j =>
    simp only [List.getElem?_cons_succ] at hj
    rw [Array.getElem?_setIfInBounds_ne (by omega), show a + (j + 1) = a + 1 + j by omega]
    exact h3 j x hj

theorem conv_digits (w : World) (g a : Nat) (C : Array Value) (D : List UInt8) (t : TypeId) (hB : Blk w g t C) (h : Room C a D) (n : Nat) (hn : n = D.length) : (convert 34 9 (.slice (some ⟨g, a, none⟩) n n)).run Tryd.prog w = .ok (.string ⟨D.toArray⟩) w := by
  subst hn
  refine run_convert_bytes_back _ _ _ 5 ⟨g, a, none⟩ _ D Tryd.underlying34 Tryd.underlying5 Tryd.underlying9 ?_
  intro j hj
  rw [addr_off, hB.cell, h.2.2 j _ (List.getElem?_eq_getElem hj)]

end Go.Proofs.YtbideikffodclaaDoor
