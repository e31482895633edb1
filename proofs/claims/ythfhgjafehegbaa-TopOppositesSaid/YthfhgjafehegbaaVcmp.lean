/- value.Compare, expr.Compares. -/
import Derived.Test.YthfhgjafehegbaaCmp
import Derived.StillTailTactics
import Derived.Deep.RegionWith
namespace Go.Proofs.Ythfhgjafehegbaa
open Go.RowKit

theorem same_ {P : Program} {f : FuncId} {args : Array Value} {w : World} {v : Value} (h : Calls P f args w fun e w' => e = .returned v ∧ w = w') : Calls P f args w fun e w' => e = .returned v ∧ w' = w :=
  h.mono fun _ _ ⟨he, hw⟩ => ⟨he, hw.symm⟩

structure Val where
  k : Int
  n : Int
  s : ByteArray

def Val.v (x : Val) : Value := .agg #[.int .u8 x.k, .int .i64 x.n, .string x.s]
def cmpV (x y : Val) : Int := orI [cmpI x.k y.k, cmpI x.n y.n, Lib.compareBytes x.s.data.toList y.s.data.toList]

set_option maxHeartbeats 400000 in
theorem value_compare (k1 n1 k2 n2 : Int) (s1 s2 : ByteArray) (w : World) :
    Calls Try.prog 5 #[.agg #[.int .u8 k1, .int .i64 n1, .string s1], .agg #[.int .u8 k2, .int .i64 n2, .string s2]] w fun e w' =>
      e = .returned (.int .i64 (orI [cmpI k1 k2, cmpI n1 n2, Lib.compareBytes s1.data.toList s2.data.toList])) ∧ Below w.heap.size w w' := by
  go_enter Try.func5, Try.ntmps5
  go_wp2
  refine wp_region_still_tail 15 (by kernel_rfl) (by kernel_rfl) ?_
  simp only [List.take_succ_cons, List.take_zero, List.drop_succ_cons, List.drop_zero]
  change wpStill _ _ (World.drew _) _ _ _
  iterate 4 still_step
  still_call (same_ (cmp_kind _ _ _))
  iterate 4 still_step
  still_call (same_ (cmp_i64 _ _ _))
  iterate 4 still_step
  still_call (same_ (word_compare _ _ _))
  refine wpStill_nil ?_
  go_wp2_with fail
  refine (cmp_or3 _ (cmpI k1 k2) (cmpI n1 n2) (Lib.compareBytes s1.data.toList s2.data.toList) _ ?_ ?_ ?_).mono ?_
  · simp [go_sem]
  · simp [go_sem]
  · simp [go_sem]
  rintro e w' ⟨rfl, rfl⟩
  go_wp2
  go_ret
  refine ⟨rfl, ?_⟩
  exact (((((Below.refl _ _).alloc (Nat.le_refl _) _).alloc (by simp) _).drew).alloc (by simp; omega) _)

/-- Whether a comparison does, by its kind and by how two values stand to one another. -/
def opB (o c : Int) : Bool :=
  if o = 1 then c == 0 else if o = 2 then c != 0 else if o = 3 then decide (c < 0) else if o = 4 then decide (c ≤ 0) else if o = 5 then decide (0 < c) else if o = 6 then decide (0 ≤ c) else false

set_option maxHeartbeats 400000 in
theorem compares_ne (o k1 n1 k2 n2 : Int) (s1 s2 : ByteArray) (w : World) (h : k1 ≠ k2) :
    Calls Try.prog 4 #[.int .u8 o, .agg #[.int .u8 k1, .int .i64 n1, .string s1], .agg #[.int .u8 k2, .int .i64 n2, .string s2]] w fun e w' =>
      e = .returned (.bool false) ∧ Below w.heap.size w w' := by
  go_enter Try.func4, Try.ntmps4
  go_wp2
  go_ret
  refine ⟨rfl, ?_⟩
  exact (((Below.refl _ _).alloc (Nat.le_refl _) _).alloc (by simp) _)

set_option maxHeartbeats 400000 in
theorem compares_eq (o k n1 n2 : Int) (s1 s2 : ByteArray) (w : World) :
    Calls Try.prog 4 #[.int .u8 o, .agg #[.int .u8 k, .int .i64 n1, .string s1], .agg #[.int .u8 k, .int .i64 n2, .string s2]] w fun e w' =>
      e = .returned (.bool (opB o (orI [cmpI k k, cmpI n1 n2, Lib.compareBytes s1.data.toList s2.data.toList]))) ∧ Below w.heap.size w w' := by
  go_enter Try.func4, Try.ntmps4
  go_wp2_with fail
  refine (value_compare _ _ _ _ _ _ _).mono ?_
  rintro e w' ⟨rfl, hb⟩
  have hb' := (((Below.refl w.heap.size w).alloc (Nat.le_refl _) (.cells #[.int .u8 k, .int .i64 n1, .string s1] 24)).alloc (by simp) (.cells #[.int .u8 k, .int .i64 n2, .string s2] 24)).trans (hb.mono (by simp; omega))
  clear hb
  go_wp2
  all_goals
    go_ret
    refine ⟨ret_bool ?_, hb'⟩
    simp_all [opB]

end Go.Proofs.Ythfhgjafehegbaa
