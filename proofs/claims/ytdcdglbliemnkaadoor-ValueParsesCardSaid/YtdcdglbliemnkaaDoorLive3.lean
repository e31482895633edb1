/- regestalaw03.live: what must be whatever is asked. -/
import Derived.Test.YtdcdglbliemnkaaDoorVal
import Derived.Test.YtdcdglbliemnkaaDoorUnq
namespace Go.Proofs.YtdcdglbliemnkaaDoor
open Go.RowKit Go.Lib

theorem r1 : unquoteR ⟨#[39, 120, 39]⟩ = (⟨#[120]⟩, 3, 0) := by decide +kernel

set_option maxHeartbeats 1000000 in
theorem parse_x (w : World) (hE : Env w) : Calls Tryd.prog 42 #[.string ⟨#[39, 120, 39]⟩] w fun e w' => e = .returned (.tuple #[.agg #[.int .u8 2, .int .i64 0, .string ⟨#[120]⟩], .int .i64 0]) ∧ Below w.heap.size w w' := by
  have hb0 : ∀ o, Below w.heap.size w (w.alloc o) := fun o => (Below.refl _ _).alloc (Nat.le_refl _) o
  go_enter Tryd.func42, Tryd.ntmps42
  go_wp2_with fail
  refine (word_unquote _ _ (by decide) (hE.below (hb0 _))).mono ?_
  rintro e w1 ⟨rfl, hb1⟩
  rw [r1]
  have hlt : w.heap.size < w1.heap.size := by have := hb1.size; simp at this; omega
  have d0 : w1.cell? ⟨w.heap.size, 0, none⟩ = some (.int .u8 0) := by rw [hb1.cell (p := ⟨w.heap.size, 0, none⟩) (by simp)]; simp [go_sem]
  have d1 : w1.cell? ⟨w.heap.size, 1, none⟩ = some (.int .i64 0) := by rw [hb1.cell (p := ⟨w.heap.size, 1, none⟩) (by simp)]; simp [go_sem]
  have d2 : w1.cell? ⟨w.heap.size, 2, none⟩ = some (.string ⟨#[]⟩) := by rw [hb1.cell (p := ⟨w.heap.size, 2, none⟩) (by simp)]; simp [go_sem]
  have f0 : w1.frozen? ⟨w.heap.size, 0, none⟩ = false := by rw [hb1.frozen (p := ⟨w.heap.size, 0, none⟩) (by simp)]; simp [go_sem]
  have f1 : w1.frozen? ⟨w.heap.size, 1, none⟩ = false := by rw [hb1.frozen (p := ⟨w.heap.size, 1, none⟩) (by simp)]; simp [go_sem]
  have f2 : w1.frozen? ⟨w.heap.size, 2, none⟩ = false := by rw [hb1.frozen (p := ⟨w.heap.size, 2, none⟩) (by simp)]; simp [go_sem]
  have c1 := keepS' (hb0 _) hb1
  clear hb1
  have s0 : ∀ v, (w1.setCell ⟨w.heap.size, 0, none⟩ v).cell? ⟨w.heap.size, 0, none⟩ = some v := fun v => World.cell?_setCell_same _ _ _ d0
  have s1 : ∀ u v, ((w1.setCell ⟨w.heap.size, 0, none⟩ u).setCell ⟨w.heap.size, 1, none⟩ v).cell? ⟨w.heap.size, 1, none⟩ = some v := fun u v => World.cell?_setCell_same _ _ _ (by rw [World.cell?_setCell_other _ _ _ _ (by simp)]; exact d1)
  have s2 : ∀ u x v, (((w1.setCell ⟨w.heap.size, 0, none⟩ u).setCell ⟨w.heap.size, 1, none⟩ x).setCell ⟨w.heap.size, 2, none⟩ v).cell? ⟨w.heap.size, 2, none⟩ = some v := fun u x v => World.cell?_setCell_same _ _ _ (by rw [World.cell?_setCell_other _ _ _ _ (by simp), World.cell?_setCell_other _ _ _ _ (by simp)]; exact d2)
  go_wp2
  refine bodyPost_ret (by simp [results, Tryd.results42, go_sem, s0, s1, s2]; try rfl) rfl ?_
  exact ⟨rfl, ((c1.setCell (p := ⟨w.heap.size, 0, none⟩) (Nat.le_refl _) _).setCell (p := ⟨w.heap.size, 1, none⟩) (Nat.le_refl _) _).setCell (p := ⟨w.heap.size, 2, none⟩) (Nat.le_refl _) _⟩

set_option maxHeartbeats 1000000 in
theorem digits_7 (w : World) : Calls Tryd.prog 67 #[.string ⟨#[48, 48, 55]⟩, .bool false] w fun e w' => e = .returned (.tuple #[.int .i64 0, .bool false]) ∧ w = w' := by
  go_enter Tryd.func67, Tryd.ntmps67
  go_wp2
  go_ret2
  exact ⟨rfl, rfl⟩

set_option maxHeartbeats 1000000 in
theorem parse_7 (w : World) : Calls Tryd.prog 42 #[.string ⟨#[48, 48, 55]⟩] w fun e w' => e = .returned (.tuple #[.agg #[.int .u8 0, .int .i64 0, .string ⟨#[]⟩], .int .i64 3]) ∧ Below w.heap.size w w' := by
  have hb0 : ∀ o, Below w.heap.size w (w.alloc o) := fun o => (Below.refl _ _).alloc (Nat.le_refl _) o
  go_enter Tryd.func42, Tryd.ntmps42
  go_wp2_with fail
  refine (digits_7 _).mono ?_
  rintro e w1 ⟨rfl, rfl⟩
  go_wp2
  go_returns
  exact ⟨rfl, hb0 _⟩

theorem room_cells (w : World) : ∀ j u, (Lib.byteCells [45, 57])[j]? = some u → (w.alloc (.cells #[.int .u8 0, .int .u8 0, .int .u8 0, .int .u8 0, .int .u8 0, .int .u8 0, .int .u8 0, .int .u8 0, .int .u8 0, .int .u8 0, .int .u8 0, .int .u8 0, .int .u8 0, .int .u8 0, .int .u8 0, .int .u8 0, .int .u8 0, .int .u8 0, .int .u8 45, .int .u8 57] 83)).cell? ⟨w.heap.size, 18 + j, none⟩ = some u := by
  intro j u h
  have hh := heap_alloc_new w (.cells #[.int .u8 0, .int .u8 0, .int .u8 0, .int .u8 0, .int .u8 0, .int .u8 0, .int .u8 0, .int .u8 0, .int .u8 0, .int .u8 0, .int .u8 0, .int .u8 0, .int .u8 0, .int .u8 0, .int .u8 0, .int .u8 0, .int .u8 0, .int .u8 0, .int .u8 45, .int .u8 57] 83)
  unfold World.cell?
  simp only [hh]
  match j, h with
  | 0, h => exact h
  | 1, h => exact h
  | j + 2, h => simp [Lib.byteCells] at h
theorem conv_room (w : World) : ∀ W, W = w.alloc (.cells #[.int .u8 0, .int .u8 0, .int .u8 0, .int .u8 0, .int .u8 0, .int .u8 0, .int .u8 0, .int .u8 0, .int .u8 0, .int .u8 0, .int .u8 0, .int .u8 0, .int .u8 0, .int .u8 0, .int .u8 0, .int .u8 0, .int .u8 0, .int .u8 0, .int .u8 45, .int .u8 57] 83) → (convert 39 9 (.slice (some ⟨w.heap.size, 18, none⟩) 2 2)).run Tryd.prog W = .ok (.string ⟨#[45, 57]⟩) W := by
  rintro W rfl
  refine run_convert_bytes_back _ _ _ 5 ⟨w.heap.size, 18, none⟩ 2 [45, 57] Tryd.underlying39 Tryd.underlying5 Tryd.underlying9 ?_
  intro j hj
  have e : (⟨w.heap.size, 18, none⟩ : Addr).add j = ⟨w.heap.size, 18 + j, none⟩ := by unfold Addr.add; split <;> simp_all
  rw [e]
  refine room_cells w j _ ?_
  match j, hj with
  | 0, _ => rfl
  | 1, _ => rfl
  | j + 2, hj => simp at hj; omega

set_option maxRecDepth 100000 in
set_option maxHeartbeats 2000000 in
theorem digits_m9 (w : World) : Calls Tryd.prog 48 #[.int .i64 (-9)] w fun e w' => e = .returned (.string ⟨#[45, 57]⟩) ∧ Below w.heap.size w w' := by
  have a1 : IntKind.u64.wrap (-9) = 18446744073709551607 := by decide
  have a2 : IntKind.u64.wrap (-18446744073709551607) = 9 := by decide
  have a3 : IntKind.u64.wrap 0 = 0 := by decide
  have hcv := conv_room w _ rfl
  go_enter Tryd.func48, Tryd.ntmps48
  go_wp2
  refine wp_loop_rounds 2 ?_
  iterate 1 (rw [rounds_succ]; go_wp2)
  go_ret
  exact ⟨rfl, (Below.refl _ _).alloc (Nat.le_refl _) _⟩

theorem OwnB.open {B : Nat} {w : World} {v : Value} {l : List UInt8} (h : OwnB B w v l) (hne : l ≠ []) :
    ∃ g c, v = .slice (some ⟨g, 0, none⟩) l.length c ∧ B ≤ g ∧ g < w.heap.size ∧ l.length ≤ c ∧ ∀ j x, l[j]? = some x → w.cell? ⟨g, j, none⟩ = some (.int .u8 x.toNat) := by
  rcases h.2 with ⟨rfl, h0⟩ | ⟨g, cap, cur, rfl, hB, hg, hc, _⟩
  · exact absurd (List.eq_nil_of_length_eq_zero h0) hne
  · refine ⟨g, cap, rfl, hB, ?_, hc, fun j x hj => ?_⟩
    · by_cases hlt : g < w.heap.size
      · exact hlt
      · rw [Array.getElem?_eq_none (by omega)] at hg; cases hg
    · have := World.ownsRow.cells h (g := g) rfl j (.int .u8 x.toNat) (by simp [Lib.byteCells, hj])
      rwa [addr_add] at this
theorem b_m1 : bytesV 1 (-1) ⟨#[]⟩ = [1, 127, 255, 255, 255, 255, 255, 255, 255] := by decide +kernel
theorem v_m1 : valB 1 (-1) ⟨#[]⟩ = true := by decide +kernel

set_option maxHeartbeats 2000000 in
theorem live3 (w : World) (hE : Env w) : Calls Tryd.prog 35 #[] w fun e w' => e = .returned (.bool true) ∧ Below w.heap.size w w' := by
  go_enter Tryd.func35, Tryd.ntmps35
  go_wp2_with fail
  refine (value_bytes 1 (-1) ⟨#[]⟩ _ (by decide) (by decide) v_m1).mono ?_
  rintro e w1 ⟨⟨v, rfl, hO⟩, hb1⟩
  rw [b_m1] at hO
  obtain ⟨g, c, rfl, _, hg, _, hcell⟩ := hO.open (by simp)
  have x0 := hcell 0 1 rfl
  have x1 := hcell 1 127 rfl
  have x8 := hcell 8 255 rfl
  clear hcell hO
  go_wp2_with fail
  refine (parse_x _ (hE.below hb1)).mono ?_
  rintro e w2 ⟨rfl, hb2⟩
  have y0 : w2.cell? ⟨g, 0, none⟩ = some (.int .u8 1) := (hb2.cell (p := ⟨g, 0, none⟩) hg).trans x0
  have y1 : w2.cell? ⟨g, 1, none⟩ = some (.int .u8 127) := (hb2.cell (p := ⟨g, 1, none⟩) hg).trans x1
  have y8 : w2.cell? ⟨g, 8, none⟩ = some (.int .u8 255) := (hb2.cell (p := ⟨g, 8, none⟩) hg).trans x8
  have hg2 : g < w2.heap.size := by have := hb2.size; omega
  have c2 := keepS' hb1 hb2
  clear x0 x1 x8 hb1 hb2 hg
  go_wp2_with fail
  refine (parse_7 _).mono ?_
  rintro e w3 ⟨rfl, hb3⟩
  have z0 : w3.cell? ⟨g, 0, none⟩ = some (.int .u8 1) := by rw [hb3.cell (p := ⟨g, 0, none⟩) (by simp; omega), World.cell?_alloc_lt _ _ _ hg2]; exact y0
  have z1 : w3.cell? ⟨g, 1, none⟩ = some (.int .u8 127) := by rw [hb3.cell (p := ⟨g, 1, none⟩) (by simp; omega), World.cell?_alloc_lt _ _ _ hg2]; exact y1
  have z8 : w3.cell? ⟨g, 8, none⟩ = some (.int .u8 255) := by rw [hb3.cell (p := ⟨g, 8, none⟩) (by simp; omega), World.cell?_alloc_lt _ _ _ hg2]; exact y8
  have zs : w3.cell? ⟨w2.heap.size, 2, none⟩ = some (.string ⟨#[120]⟩) := by rw [hb3.cell (p := ⟨w2.heap.size, 2, none⟩) (by simp)]; simp [go_sem]
  have hl2 : w2.heap.size < w3.heap.size := by have := hb3.size; simp at this; omega
  have hl3 : g < w3.heap.size := by omega
  have c3 : Below w.heap.size w w3 := keepS' (c2.alloc c2.size _) hb3
  clear y0 y1 y8 hb3 c2
  go_wp2_with fail
  refine (digits_m9 _).mono ?_
  rintro e w4 ⟨rfl, hb4⟩
  go_wp2
  go_ret
  exact ⟨rfl, keepS' (c3.alloc c3.size _) hb4⟩
end Go.Proofs.YtdcdglbliemnkaaDoor
