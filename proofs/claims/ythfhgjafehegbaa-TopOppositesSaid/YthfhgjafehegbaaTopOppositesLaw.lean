/- The law TopOpposites: of two values of one kind a comparison holds just if its opposite does not; of two kinds none holds. No condition. -/
import Derived.Test.YthfhgjafehegbaaRows
import Derived.Test.YthfhgjafehegbaaOpp
import Derived.Test.YthfhgjafehegbaaLaw
namespace Go.Proofs.Ythfhgjafehegbaa
open Go.ChangeShapes Go.WideShapes Go.ChangeAt Go.RowKit Go.Joins

theorem own : ownKnob Try.prog.godebug = none := by kernel_rfl
theorem laidOut : laidOutB Try.prog = true := by kernel_rfl
theorem cellsVal : Try.prog.cellsOf 24 = 3 := by kernel_rfl

theorem walk (k1 n1 k2 n2 : Int) (s1 s2 : ByteArray) (w : World) :
    Calls Try.prog 3 #[.agg #[.int .u8 k1, .int .i64 n1, .string s1], .agg #[.int .u8 k2, .int .i64 n2, .string s2]] w fun e w' => e = .returned (.bool true) ∧ Below w.heap.size w w' := by
  by_cases h : k1 = k2
  · subst h
    exact opposites_eq k1 n1 n2 s1 s2 w
  · exact opposites_ne k1 n1 k2 n2 s1 s2 w h

set_option maxRecDepth 100000 in
theorem lifted (os : Os) (started : os.Started) (H : Type) (enc : TypeId × Value → H) :
    ReturnsInHanded {} Try.checked os 3 .any (Rows.topOppositesSpec.pre6 enc Try.prog Try.f3 Rows.topOppositesRow.domain false) (Rows.topOppositesSpec.post enc Try.prog Try.f3 false true false false) := by
  refine returnsInHanded_of_change (C := Try.checked) own started (by kernel_rfl) Try.func3
    (ChangeSpec.witness6 (enc := enc) (C := Try.checked) false ⟨#[], #[.agg #[.int .u8 0, .int .i64 0, .string ⟨#[]⟩], .agg #[.int .u8 0, .int .i64 0, .string ⟨#[]⟩]], []⟩ 8 (by kernel_rfl) (by kernel_rfl) (by kernel_rfl) (by kernel_rfl)) ?_
  intro W base args ds gs before hval0 hW hcnd _
  have hval : ∀ (j : Nat) t v, Try.f3.params[j]? = some t → args[j]? = some v → Value.okWide Try.prog W .any base t v := hval0
  have hW' := hW
  obtain ⟨p, q, hA0, hV, rfl, hfz, hnd⟩ := hW
  have hA : DataW.TrodAll enc Try.prog W 0 (fun _ => true) true Try.f3.params.toList args.toList ds p := hA0
  rw [Try.params3] at hA hval
  obtain ⟨v0, v1, d0, d1, p0, p1, rfl, rfl, rfl, h0, h1⟩ := trodAll_two hA
  obtain ⟨rfl, rfl⟩ := trodVars_none hV
  obtain ⟨c0, c1, c2, y0, y1, y2, m, rfl, rfl, rfl, hy0, hy1, hy2⟩ := open_agg3 Try.underlying24 (by kernel_rfl) cellsVal (hval 0 24 v0 rfl rfl) h0
  obtain ⟨z0, z1, z2, x0, x1, x2, m', rfl, rfl, rfl, hx0, hx1, hx2⟩ := open_agg3 Try.underlying24 (by kernel_rfl) cellsVal (hval 1 24 v1 rfl rfl) h1
  obtain ⟨k1, e0, rfl, _⟩ := DataW.trod_int Try.underlying22 hy0
  obtain ⟨n1, e1, rfl, _⟩ := DataW.trod_int Try.underlying2 hy1
  obtain ⟨s1, e2, rfl, _⟩ := DataW.trod_string Try.underlying9 hy2
  obtain ⟨k2, e3, rfl, _⟩ := DataW.trod_int Try.underlying22 hx0
  obtain ⟨n2, e4, rfl, _⟩ := DataW.trod_int Try.underlying2 hx1
  obtain ⟨s2, e5, rfl, _⟩ := DataW.trod_string Try.underlying9 hx2
  simp at e0 e1 e2 e3 e4 e5
  subst e0 e1 e2 e3 e4 e5
  clear hA0 hval0
  refine (walk k1 n1 k2 n2 s1 s2 W).mono fun e W' ⟨he, hb⟩ => ?_
  subst he
  exact ⟨_, rfl, law_post laidOut (by kernel_rfl) rfl Try.underlying4 hW' rfl rfl hb⟩

theorem topOpposites_holds : Rows.TopOppositesSaid :=
  OpenClaim.holds_of_wide 3 Try.f3 rfl rfl rfl rfl rfl rfl rfl ⟨rfl, rfl, rfl, rfl, rfl⟩ rfl rfl rfl rfl rfl (by kernel_rfl) Try.func3 (by kernel_rfl)
    (of_decide_eq_true (by kernel_rfl)) (by unfold Func.isWrapper; rw [if_neg (of_decide_eq_false (by kernel_rfl))]; exact ⟨rfl, rfl⟩)
    (fun os started H enc _ => lifted os started H enc)
#print axioms topOpposites_holds
end Go.Proofs.Ythfhgjafehegbaa
