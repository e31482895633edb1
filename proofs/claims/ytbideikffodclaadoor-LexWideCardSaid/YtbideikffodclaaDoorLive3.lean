/- regestalaw03.live: what must be whatever is asked. -/
import Derived.Test.YtbideikffodclaaDoorVal
import Derived.Test.YtbideikffodclaaDoorUnq
namespace Go.Proofs.YtbideikffodclaaDoor
open Go.RowKit Go.Lib

theorem r1 : unquoteR ⟨#[39, 120, 39]⟩ = (⟨#[120]⟩, 3, 0) := by decide +kernel

set_option maxHeartbeats 1000000 in
theorem parse_x (w : World) (hE : Env w) : Calls Tryd.prog 35 #[.string ⟨#[39, 120, 39]⟩] w fun e w' => e = .returned (.tuple #[.agg #[.int .u8 2, .int .i64 0, .string ⟨#[120]⟩], .int .i64 0]) ∧ Below w.heap.size w w' := by
  have hb0 : ∀ o, Below w.heap.size w (w.alloc o) := fun o => (Below.refl _ _).alloc (Nat.le_refl _) o
  go_enter Tryd.func35, Tryd.ntmps35
  go_wp2_with fail
  refine (word_unquote _ _ (by decide) (hE.below (hb0 _))).mono ?_
  rintro e w1 ⟨rfl, hb1⟩
  rw [r1]
  have hlt : w.heap.size < w1.heap.size := by have := hb1.size; simp at this; omega
  have d0 : w1.cell? ⟨w.heap.size, 0, none⟩ = some (.int .u8 0) := by rw [hb1.cell (p := ⟨w.heap.size, 0, none⟩) (by simp)]; simp [go_sem]
  have d1 : w1.cell? ⟨w.heap.size, 1, none⟩ = some (.int .i64 0) := by rw [hb1.cell (p := ⟨w.heap.size, 1, none⟩) (by simp)]; simp [go_sem]
  have d2 : w1.cell? ⟨w.heap.size, 2, none⟩ = some (.string ⟨#[]⟩) := by rw [hb1.cell (p := ⟨w.heap.size, 2, none⟩) (by simp)]; simp [go_sem]
  have f0 : w1.frozen? ⟨w.heap.size, 0, none⟩ = false := by rw [hb1.frozen (p := ⟨w.heap.size, 0, none⟩) (by simp)]; simp [go_sem]
  have f1 : w1.frozen? ⟨w.heap.size, 1, none⟩ = false := by rw [hb1.frozen (p := ⟨w.heap.size, 1, none⟩) (by simp)]; simp [go_sem]
  have f2 : w1.frozen? ⟨w.heap.size, 2, none⟩ = false := by rw [hb1.frozen (p := ⟨w.heap.size, 2, none⟩) (by simp)]; simp [go_sem]
  have c1 := keepS' (hb0 _) hb1
  clear hb1
  have s0 : ∀ v, (w1.setCell ⟨w.heap.size, 0, none⟩ v).cell? ⟨w.heap.size, 0, none⟩ = some v := fun v => World.cell?_setCell_same _ _ _ d0
  have s1 : ∀ u v, ((w1.setCell ⟨w.heap.size, 0, none⟩ u).setCell ⟨w.heap.size, 1, none⟩ v).cell? ⟨w.heap.size, 1, none⟩ = some v := fun u v => World.cell?_setCell_same _ _ _ (by rw [World.cell?_setCell_other _ _ _ _ (by simp)]; exact d1)
  have s2 : ∀ u x v, (((w1.setCell ⟨w.heap.size, 0, none⟩ u).setCell ⟨w.heap.size, 1, none⟩ x).setCell ⟨w.heap.size, 2, none⟩ v).cell? ⟨w.heap.size, 2, none⟩ = some v := fun u x v => World.cell?_setCell_same _ _ _ (by rw [World.cell?_setCell_other _ _ _ _ (by simp), World.cell?_setCell_other _ _ _ _ (by simp)]; exact d2)
  go_wp2
  refine bodyPost_ret (by simp [results, Tryd.results35, go_sem, s0, s1, s2]; try rfl) rfl ?_
  exact ⟨rfl, ((c1.setCell (p := ⟨w.heap.size, 0, none⟩) (Nat.le_refl _) _).setCell (p := ⟨w.heap.size, 1, none⟩) (Nat.le_refl _) _).setCell (p := ⟨w.heap.size, 2, none⟩) (Nat.le_refl _) _⟩

set_option maxHeartbeats 1000000 in
theorem digits_7 (w : World) : Calls Tryd.prog 40 #[.string ⟨#[48, 48, 55]⟩, .bool false] w fun e w' => e = .returned (.tuple #[.int .i64 0, .bool false]) ∧ w = w' := by
  go_enter Tryd.func40, Tryd.ntmps40
  go_wp2
  go_ret2
  exact ⟨rfl, rfl⟩

set_option maxHeartbeats 1000000 in
theorem parse_7 (w : World) : Calls Tryd.prog 35 #[.string ⟨#[48, 48, 55]⟩] w fun e w' => e = .returned (.tuple #[.agg #[.int .u8 0, .int .i64 0, .string ⟨#[]⟩], .int .i64 3]) ∧ Below w.heap.size w w' := by
  have hb0 : ∀ o, Below w.heap.size w (w.alloc o) := fun o => (Below.refl _ _).alloc (Nat.le_refl _) o
  go_enter Tryd.func35, Tryd.ntmps35
  go_wp2_with fail
  refine (digits_7 _).mono ?_
  rintro e w1 ⟨rfl, rfl⟩
  go_wp2
  go_returns
  exact ⟨rfl, hb0 _⟩

theorem OwnB.open {B : Nat} {w : World} {v : Value} {l : List UInt8} (h : OwnB B w v l) (hne : l ≠ []) :
    ∃ g c, v = .slice (some ⟨g, 0, none⟩) l.length c ∧ B ≤ g ∧ g < w.heap.size ∧ l.length ≤ c ∧ ∀ j x, l[j]? = some x → w.cell? ⟨g, j, none⟩ = some (.int .u8 x.toNat) := by
  rcases h.2 with ⟨rfl, h0⟩ | ⟨g, cap, cur, rfl, hB, hg, hc, _⟩
  · exact absurd (List.eq_nil_of_length_eq_zero h0) hne
  · refine ⟨g, cap, rfl, hB, ?_, hc, fun j x hj => ?_⟩
    · by_cases hlt : g < w.heap.size
      · exact hlt
      · rw [Array.getElem?_eq_none (by omega)] at hg; cases hg
    · have := World.ownsRow.cells h (g := g) rfl j (.int .u8 x.toNat) (by simp [Lib.byteCells, hj])
      rwa [addr_add] at this
theorem b_m1 : bytesV 1 (-1) ⟨#[]⟩ = [1, 127, 255, 255, 255, 255, 255, 255, 255] := by decide +kernel
theorem v_m1 : valB 1 (-1) ⟨#[]⟩ = true := by decide +kernel

end Go.Proofs.YtbideikffodclaaDoor
