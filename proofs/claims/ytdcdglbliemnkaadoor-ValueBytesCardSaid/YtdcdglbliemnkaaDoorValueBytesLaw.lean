/- The law ValueBytes: the row, and its tied card. No condition. -/
import Derived.Test.YtdcdglbliemnkaaDoorVBytes
import Derived.Test.YtdcdglbliemnkaaDoorCardLaw
import Derived.Test.YtdcdglbliemnkaaDoorArgs
import Derived.Test.YtdcdglbliemnkaaDoorSized
namespace Go.Proofs.YtdcdglbliemnkaaDoor
open Go.ChangeShapes Go.WideShapes Go.ChangeAt Go.RowKit Go.Joins

set_option maxRecDepth 100000 in
theorem valueBytes_lifted (os : Os) (started : os.Started) (H : Type) (enc : TypeId × Value → H) :
    ReturnsInHanded {} Tryd.checked os 11 .any (fun w args => (Rows.valueBytesSpec.pre enc Tryd.prog Tryd.f11 [] false w args ∧ laidMetH Tryd.prog listed w) ∧ sizedMet enc Tryd.prog Tryd.f11 (OpenSpec.ofChange Rows.valueBytesSpec) false w args)
      (Rows.valueBytesSpec.post enc Tryd.prog Tryd.f11 false true false false) := by
  refine handed_sized (C := Tryd.checked) (X := fun w _ => laidMetH Tryd.prog listed w) (fun _ _ _ hh h => h.of_heap hh) own started (by kernel_rfl) Tryd.func11
    (ChangeSpec.witness_shaped (enc := enc) (C := Tryd.checked) (os := os) (X := fun w _ => laidMetH Tryd.prog listed w) false (World.laidAll Tryd.prog os listed) #[.agg #[.int .u8 0, .int .i64 0, .string ⟨#[]⟩], .slice none 0 0] 8 (World.laidAll_os _ _ _)
      (wit_shaped os _) (by kernel_rfl) (by kernel_rfl) (by kernel_rfl) (wit_laid os _)) ?_
  intro W base args ds gs before hval0 hW hsz hL hS
  have hval : ∀ (j : Nat) t v, Tryd.f11.params[j]? = some t → args[j]? = some v → Value.okWide Tryd.prog W .any base t v := hval0
  have hW' := hW
  obtain ⟨p, q, hA0, hV, rfl, _, _⟩ := hW
  have hA : DataW.TrodAll enc Tryd.prog W 0 (fun _ => true) true Tryd.f11.params.toList args.toList ds p := hA0
  rw [Tryd.params11] at hA hval
  obtain ⟨v0, v1, d0, d1, p0, p1, rfl, rfl, rfl, h0, h1⟩ := trodAll_two hA
  obtain ⟨rfl, rfl⟩ := trodVars_none hV
  obtain ⟨k0, n0, t0, rfl, bk0, bn0, bt0⟩ := open_value (hval 0 38 v0 rfl rfl) h0
  have sk0 := bounds_u8 bk0
  have sn0 := bounds_i64 bn0
  have st0 : t0.size ≤ 9223372036854775807 := bt0
  obtain ⟨l1, hb1, hor1⟩ := open_bytes (hval 1 39 v1 rfl rfl) h1
  have hl1 : l1.length ≤ 140737488351232 := by
    rcases hor1 with rfl | ⟨es, sp, hd, hel⟩
    · simp
    · subst hd
      have h := sized_slice hsz (j := 1) (t := 39) (e := 5) (elems := es) (spare := sp) (by kernel_rfl) (by rfl) Tryd.underlying39
      rw [show Tryd.checked.prog.bytesOf 5 = 1 from bytesByte1] at h
      unfold reachBytes at h
      omega
  clear hA0 hval0
  refine (valueBytes_walk k0 n0 t0 v1 l1 W sn0.1 sn0.2 st0 hb1 hl1 (env_of_laid hL hS)).mono fun e W' ⟨he, hb⟩ => ?_
  subst he
  exact ⟨_, rfl, law_post laidOut (by kernel_rfl) rfl Tryd.underlying4 hW' rfl rfl hb⟩

theorem valueBytes_row : Rows.ValueBytesSaid :=
  OpenClaim.holds_of_wide 11 Tryd.f11 rfl rfl rfl rfl rfl rfl rfl ⟨rfl, rfl, rfl, rfl, rfl⟩ rfl rfl rfl rfl rfl (by kernel_rfl) Tryd.func11 (by kernel_rfl)
    (of_decide_eq_true (by kernel_rfl)) (by unfold Func.isWrapper; rw [if_neg (of_decide_eq_false (by kernel_rfl))]; exact ⟨rfl, rfl⟩)
    (fun os started H enc _ => valueBytes_lifted os started H enc)
theorem valueBytes_holds : Rows.ValueBytesCardSaid :=
  Claim7.holds_tied_plain_at .later [] [.data, .pinned] true (true, "49ddce8984fa1204f3fd600b6314584d323b7fbc7c8c9756f44e3fe6e2840fb7") false
    valueBytes_row (fun _ h => by cases h) (by kernel_rfl) (fun _ h => by cases h) valueBytes_row_tie rfl ⟨rfl, rfl⟩ (by kernel_rfl) rfl
    (fun f fn hf hfn => by
      obtain rfl : f = 11 := Option.some.inj ((show Tryd.prog.funcNamed "regesta/regestalaw03.ValueBytes" = some 11 by kernel_rfl).symm.trans hf) |>.symm
      obtain rfl : fn = Tryd.f11 := (Option.some.inj (Tryd.func11.symm.trans hfn)).symm
      exact ⟨by kernel_rfl, fun j t ht => by
        rw [Tryd.params11] at ht
        have hm : t ∈ [38, 39] := by simpa using Array.mem_of_getElem? ht
        have hall : ([38, 39].all fun u => !Tryd.prog.wantsStandIn u) = true := by kernel_rfl
        exact (show Tryd.prog.wantsStandIn t = false by simpa using List.all_eq_true.1 hall t hm)⟩)
    (by kernel_rfl)
#print axioms valueBytes_holds
end Go.Proofs.YtdcdglbliemnkaaDoor
