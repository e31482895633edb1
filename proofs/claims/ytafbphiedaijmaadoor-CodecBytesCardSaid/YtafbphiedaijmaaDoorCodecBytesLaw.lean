/- The law CodecBytes: the row, and its tied card. No condition. -/
import Derived.Test.YtafbphiedaijmaaDoorCodBytesW
import Derived.Test.YtafbphiedaijmaaDoorCardLaw
import Derived.Test.YtafbphiedaijmaaDoorSized
import Derived.Test.YtafbphiedaijmaaDoorOpenRow
namespace Go.Proofs.YtafbphiedaijmaaDoor
open Go.ChangeShapes Go.WideShapes Go.ChangeAt Go.RowKit Go.Joins

set_option maxRecDepth 100000 in
theorem codecBytes_lifted (os : Os) (started : os.Started) (H : Type) (enc : TypeId × Value → H) :
    ReturnsInHanded {} Tryd.checked os 3 .any (fun w args => (Rows.codecBytesSpec.pre enc Tryd.prog Tryd.f3 [] false w args ∧ laidMetH Tryd.prog listed w) ∧ sizedMet enc Tryd.prog Tryd.f3 (OpenSpec.ofChange Rows.codecBytesSpec) false w args)
      (Rows.codecBytesSpec.post enc Tryd.prog Tryd.f3 false true false false) := by
  refine handed_sized (C := Tryd.checked) (X := fun w _ => laidMetH Tryd.prog listed w) (fun _ _ _ hh h => h.of_heap hh) own started (by kernel_rfl) Tryd.func3
    (ChangeSpec.witness_shaped (enc := enc) (C := Tryd.checked) (os := os) (X := fun w _ => laidMetH Tryd.prog listed w) false (World.laidAll Tryd.prog os listed) #[.agg #[.slice none 0 0, .int .i64 0, .int .i64 0], .slice none 0 0] 8 (World.laidAll_os _ _ _)
      (wit_shaped os _) (by kernel_rfl) (by kernel_rfl) (by kernel_rfl) (wit_laid os _)) ?_
  intro W base args ds gs before hval0 hW hsz hL hS
  have hval : ∀ (j : Nat) t v, Tryd.f3.params[j]? = some t → args[j]? = some v → Value.okWide Tryd.prog W .any base t v := hval0
  have hW' := hW
  obtain ⟨p, q, hA0, hV, rfl, _, _⟩ := hW
  have hA : DataW.TrodAll enc Tryd.prog W 0 (fun _ => true) true Tryd.f3.params.toList args.toList ds p := hA0
  rw [Tryd.params3] at hA hval
  obtain ⟨v0, v1, d0, d1, p0, p1, rfl, rfl, rfl, h0, h1⟩ := trodAll_two hA
  obtain ⟨rfl, rfl⟩ := trodVars_none hV
  obtain ⟨u0, a0, rfl, hw0, ow0, lw0⟩ := open_row (hval 0 26 v0 rfl rfl) h0
  obtain ⟨l1, hb1, hor1⟩ := open_u8s (hval 1 27 v1 rfl rfl) h1
  have hl1 : l1.length ≤ 140737488351232 := by
    rcases hor1 with rfl | ⟨es, sp, hd, hel⟩
    · simp
    · subst hd
      have h := sized_slice hsz (j := 1) (t := 27) (e := 5) (elems := es) (spare := sp) (by kernel_rfl) (by rfl) Tryd.underlying27
      rw [show Tryd.checked.prog.bytesOf 5 = 1 from bytesByte1] at h
      unfold reachBytes at h
      omega
  clear hA0 hval0
  refine (codecBytes_walk a0 u0 v1 l1 W hw0 hb1 ow0 lw0 (Nat.le_trans hl1 (by omega)) (env_of_laid hL hS)).mono fun e W' ⟨he, hb⟩ => ?_
  subst he
  exact ⟨_, rfl, law_post laidOut (by kernel_rfl) rfl Tryd.underlying4 hW' rfl rfl hb⟩

theorem codecBytes_row : Rows.CodecBytesSaid :=
  OpenClaim.holds_of_wide 3 Tryd.f3 rfl rfl rfl rfl rfl rfl rfl ⟨rfl, rfl, rfl, rfl, rfl⟩ rfl rfl rfl rfl rfl (by kernel_rfl) Tryd.func3 (by kernel_rfl)
    (of_decide_eq_true (by kernel_rfl)) (by unfold Func.isWrapper; rw [if_neg (of_decide_eq_false (by kernel_rfl))]; exact ⟨rfl, rfl⟩)
    (fun os started H enc _ => codecBytes_lifted os started H enc)
theorem codecBytes_holds : Rows.CodecBytesCardSaid :=
  Claim7.holds_tied_plain_at .later [] [.data, .pinned] true (true, "a2b380a979687f906b2aa33b40fecb251f4b099048d324b90c79eff2c6d1bfe8") true
    codecBytes_row (fun _ h => by cases h) (by kernel_rfl) (fun _ h => by cases h) codecBytes_row_tie rfl ⟨rfl, rfl⟩ (by kernel_rfl) rfl
    (fun f fn hf hfn => by
      obtain rfl : f = 3 := Option.some.inj ((show Tryd.prog.funcNamed "regesta/regestalaw04.CodecBytes" = some 3 by kernel_rfl).symm.trans hf) |>.symm
      obtain rfl : fn = Tryd.f3 := (Option.some.inj (Tryd.func3.symm.trans hfn)).symm
      exact ⟨by kernel_rfl, fun j t ht => by
        rw [Tryd.params3] at ht
        have hm : t ∈ [26, 27] := by simpa using Array.mem_of_getElem? ht
        have hall : ([26, 27].all fun u => !Tryd.prog.wantsStandIn u) = true := by kernel_rfl
        exact (show Tryd.prog.wantsStandIn t = false by simpa using List.all_eq_true.1 hall t hm)⟩)
    (by kernel_rfl)
#print axioms codecBytes_holds
end Go.Proofs.YtafbphiedaijmaaDoor
