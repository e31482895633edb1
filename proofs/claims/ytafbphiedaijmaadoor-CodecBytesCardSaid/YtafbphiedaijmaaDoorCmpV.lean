/- value.Compare: cmp.Compare at Kind and int64, cmp.Or at int. -/
import Derived.Test.YtafbphiedaijmaaDoorWordB
import Derived.Deep.QuietTactic
import Derived.BigQuiet
import Derived.Deep.LoopGhost
import Derived.StillTailTactics
import Derived.Deep.RegionWith
namespace Go.Proofs.YtafbphiedaijmaaDoor
open Go.RowKit

/-- How two numbers stand to one another. -/
def cmpI (a b : Int) : Int := if a < b then -1 else if b < a then 1 else 0

theorem cmp_kind (a b : Int) (w : World) :
    Calls Tryd.prog 45 #[.int .u8 a, .int .u8 b] w fun e w' => e = .returned (.int .i64 (cmpI a b)) ∧ w = w' := by
  by_cases h1 : a < b
  · go_enter Tryd.func45, Tryd.ntmps45
    go_wp2
    go_ret
    exact ⟨ret_int (by rw [cmpI, if_pos (by omega)]), rfl⟩
  · by_cases h2 : b < a
    · go_enter Tryd.func45, Tryd.ntmps45
      go_wp2
      go_ret
      exact ⟨ret_int (by rw [cmpI, if_neg (by omega), if_pos (by omega)]), rfl⟩
    · go_enter Tryd.func45, Tryd.ntmps45
      go_wp2
      go_ret
      exact ⟨ret_int (by rw [cmpI, if_neg (by omega), if_neg (by omega)]), rfl⟩

theorem cmp_i64 (a b : Int) (w : World) :
    Calls Tryd.prog 46 #[.int .i64 a, .int .i64 b] w fun e w' => e = .returned (.int .i64 (cmpI a b)) ∧ w = w' := by
  by_cases h1 : a < b
  · go_enter Tryd.func46, Tryd.ntmps46
    go_wp2
    go_ret
    exact ⟨ret_int (by rw [cmpI, if_pos (by omega)]), rfl⟩
  · by_cases h2 : b < a
    · go_enter Tryd.func46, Tryd.ntmps46
      go_wp2
      go_ret
      exact ⟨ret_int (by rw [cmpI, if_neg (by omega), if_pos (by omega)]), rfl⟩
    · go_enter Tryd.func46, Tryd.ntmps46
      go_wp2
      go_ret
      exact ⟨ret_int (by rw [cmpI, if_neg (by omega), if_neg (by omega)]), rfl⟩

/-- The first that is not 0. -/
def orI : List Int → Int
  | [] => 0
  | x :: l => if x = 0 then orI l else x

/-- cmp.Or of three: the first that is not 0. -/
theorem cmp_or3 (g : Nat) (x y z : Int) (w : World) (h0 : w.cell? ⟨g, 0, none⟩ = some (.int .i64 x)) (h1 : w.cell? ⟨g, 1, none⟩ = some (.int .i64 y)) (h2 : w.cell? ⟨g, 2, none⟩ = some (.int .i64 z)) :
    Calls Tryd.prog 31 #[.slice (some ⟨g, 0, none⟩) 3 3] w fun e w' => e = .returned (.int .i64 (orI [x, y, z])) ∧ w = w' := by
  by_cases hx : x = 0
  · subst hx
    by_cases hy : y = 0
    · subst hy
      by_cases hz : z = 0
      · subst hz
        go_enter Tryd.func31, Tryd.ntmps31
        go_wp2
        refine wp_loop_rounds 4 ?_
        iterate 4 (rw [rounds_succ]; go_wp2)
        go_ret
        exact ⟨rfl, rfl⟩
      · go_enter Tryd.func31, Tryd.ntmps31
        go_wp2
        refine wp_loop_rounds 4 ?_
        iterate 3 (rw [rounds_succ]; go_wp2)
        go_ret
        exact ⟨ret_int (by simp [orI, hz]), rfl⟩
    · go_enter Tryd.func31, Tryd.ntmps31
      go_wp2
      refine wp_loop_rounds 4 ?_
      iterate 2 (rw [rounds_succ]; go_wp2)
      go_ret
      exact ⟨ret_int (by simp [orI, hy]), rfl⟩
  · go_enter Tryd.func31, Tryd.ntmps31
    go_wp2
    refine wp_loop_rounds 4 ?_
    iterate 1 (rw [rounds_succ]; go_wp2)
    go_ret
    exact ⟨ret_int (by simp [orI, hx]), rfl⟩
theorem same_ {P : Program} {f : FuncId} {args : Array Value} {w : World} {v : Value} (h : Calls P f args w fun e w' => e = .returned v ∧ w = w') : Calls P f args w fun e w' => e = .returned v ∧ w' = w :=
  h.mono fun _ _ ⟨he, hw⟩ => ⟨he, hw.symm⟩

set_option maxRecDepth 100000 in
set_option maxHeartbeats 400000 in
theorem value_compare (k1 n1 k2 n2 : Int) (s1 s2 : ByteArray) (w : World) :
    Calls Tryd.prog 33 #[.agg #[.int .u8 k1, .int .i64 n1, .string s1], .agg #[.int .u8 k2, .int .i64 n2, .string s2]] w fun e w' =>
      e = .returned (.int .i64 (orI [cmpI k1 k2, cmpI n1 n2, Lib.compareBytes s1.data.toList s2.data.toList])) ∧ Below w.heap.size w w' := by
  go_enter Tryd.func33, Tryd.ntmps33
  go_wp2
  refine wp_region_still_tail 15 (by kernel_rfl) (by kernel_rfl) ?_
  simp only [List.take_succ_cons, List.take_zero, List.drop_succ_cons, List.drop_zero]
  change wpStill _ _ (World.drew _) _ _ _
  iterate 4 still_step
  still_call (same_ (cmp_kind _ _ _))
  iterate 4 still_step
  still_call (same_ (cmp_i64 _ _ _))
  iterate 4 still_step
  still_call (same_ (word_compare _ _ _))
  refine wpStill_nil ?_
  go_wp2_with fail
  refine (cmp_or3 _ (cmpI k1 k2) (cmpI n1 n2) (Lib.compareBytes s1.data.toList s2.data.toList) _ ?_ ?_ ?_).mono ?_
  · simp [go_sem]
  · simp [go_sem]
  · simp [go_sem]
  rintro e w' ⟨rfl, rfl⟩
  go_wp2
  go_ret
  refine ⟨rfl, ?_⟩
  exact (((((Below.refl _ _).alloc (Nat.le_refl _) _).alloc (by simp) _).drew).alloc (by simp; omega) _)

end Go.Proofs.YtafbphiedaijmaaDoor
