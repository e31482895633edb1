/- The law DiskSome: behind a crash each sector is as it was flushed, or as some write behind that said. No condition. -/
import Derived.Test.YtaledjcbblgmeaaRows
import Derived.Test.YtaledjcbblgmeaaDiskSomeW
import Derived.Test.YtaledjcbblgmeaaDkO
import Derived.Test.YtaledjcbblgmeaaLaw
namespace Go.Proofs.Ytaledjcbblgmeaa
open Go.ChangeShapes Go.WideShapes Go.ChangeAt Go.RowKit Go.Joins

theorem own : ownKnob Try.prog.godebug = none := by kernel_rfl
theorem laidOut : laidOutB Try.prog = true := by kernel_rfl

set_option maxRecDepth 100000 in
theorem lifted (os : Os) (started : os.Started) (H : Type) (enc : TypeId × Value → H) :
    ReturnsInHanded {} Try.checked os 3 .any (Rows.diskSomeSpec.pre6 enc Try.prog Try.f3 Rows.diskSomeRow.domain false) (Rows.diskSomeSpec.post enc Try.prog Try.f3 false true false false) := by
  refine returnsInHanded_of_change (C := Try.checked) own started (by kernel_rfl) Try.func3
    (ChangeSpec.witness6 (enc := enc) (C := Try.checked) false ⟨#[], #[.slice none 0 0, .agg #[.int .u8 0, .int .u8 0], .agg #[.bool false, .bool false]], []⟩ 8 (by kernel_rfl) (by kernel_rfl) (by kernel_rfl) (by kernel_rfl)) ?_
  intro W base args ds gs before hval0 hW hcnd hsz
  have hval : ∀ (j : Nat) t v, Try.f3.params[j]? = some t → args[j]? = some v → Value.okWide Try.prog W .any base t v := hval0
  have hW' := hW
  obtain ⟨p, q, hA0, hV, rfl, hfz, hnd⟩ := hW
  have hA : DataW.TrodAll enc Try.prog W 0 (fun _ => true) true Try.f3.params.toList args.toList ds p := hA0
  rw [Try.params3] at hA hval
  obtain ⟨v0, v1, v2, d0, d1, d2, p0, p1, p2, rfl, rfl, rfl, h0, h1, h2⟩ := trodAll_three hA
  obtain ⟨rfl, rfl⟩ := trodVars_none hV
  obtain ⟨l, hl, hr, hm⟩ := open_deeds (hval 0 22 v0 rfl rfl) h0
  obtain ⟨x0, x1, rfl⟩ := open_u8x2 (hval 1 23 v1 rfl rfl) h1
  obtain ⟨k0, k1, rfl⟩ := open_boolx2 (hval 2 24 v2 rfl rfl) h2
  clear hA0 hval0
  refine (diskSome_walk v0 l x0 x1 k0 k1 W hl hr hm).mono fun e W' ⟨he, hb⟩ => ?_
  subst he
  exact ⟨_, rfl, law_post laidOut (by kernel_rfl) rfl Try.underlying4 hW' rfl rfl hb⟩

theorem diskSome_holds : Rows.DiskSomeSaid :=
  OpenClaim.holds_of_wide 3 Try.f3 rfl rfl rfl rfl rfl rfl rfl ⟨rfl, rfl, rfl, rfl, rfl⟩ rfl rfl rfl rfl rfl (by kernel_rfl) Try.func3 (by kernel_rfl)
    (of_decide_eq_true (by kernel_rfl)) (by unfold Func.isWrapper; rw [if_neg (of_decide_eq_false (by kernel_rfl))]; exact ⟨rfl, rfl⟩)
    (fun os started H enc _ => lifted os started H enc)
#print axioms diskSome_holds
end Go.Proofs.Ytaledjcbblgmeaa
