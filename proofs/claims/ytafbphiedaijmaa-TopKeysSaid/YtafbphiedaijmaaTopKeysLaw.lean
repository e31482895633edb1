/- The law TopKeys: the bytes of a row begin with those of its key; rows of one key stand together. No condition. -/
import Derived.Test.YtafbphiedaijmaaRows
import Derived.Test.YtafbphiedaijmaaTopKeysW
import Derived.Test.YtafbphiedaijmaaOpenRow
import Derived.Test.YtafbphiedaijmaaLaw
namespace Go.Proofs.Ytafbphiedaijmaa
open Go.ChangeShapes Go.WideShapes Go.ChangeAt Go.RowKit Go.Joins

theorem own : ownKnob Try.prog.godebug = none := by kernel_rfl
theorem laidOut : laidOutB Try.prog = true := by kernel_rfl

section
variable {H : Type} {enc : TypeId × Value → H} {w : World} {base : Nat} {held : Bool}
theorem cellsRows : Try.prog.cellsOf 59 = 9 := by kernel_rfl
set_option maxRecDepth 100000 in
theorem open_rows {r : Reach} {b0 : Nat} {v : Value} {d : DataW H} {p : List MemPlace} (hv : Value.okWide Try.prog w r b0 59 v) (h : DataW.Trod enc Try.prog w base (fun _ => true) held 59 v d p) :
    ∃ (u0 u1 u2 : Value) (a b c : Rw), v = .agg #[u0, .int .i64 a.f, .int .i64 a.t, u1, .int .i64 b.f, .int .i64 b.t, u2, .int .i64 c.f, .int .i64 c.t] ∧ (Sl 3 Vl.enc w u0 a.l ∧ a.ok ∧ a.l.length ≤ maxLen) ∧ (Sl 3 Vl.enc w u1 b.l ∧ b.ok ∧ b.l.length ≤ maxLen) ∧ (Sl 3 Vl.enc w u2 c.l ∧ c.ok ∧ c.l.length ≤ maxLen) := by
  have hv' : ∃ cs, v = .agg cs ∧ cs.size = Try.prog.cellsOf 59 := by
    have := hv
    unfold Value.okWide at this
    rw [Try.underlying59] at this
    obtain ⟨cs, h1, h2, _⟩ := this
    exact ⟨cs, h1, h2⟩
  obtain ⟨cs, rfl, hsz⟩ := hv'
  obtain ⟨fuel, hf⟩ := h
  obtain ⟨xs, m, _, _, hl, hn, hel⟩ := DataW.trod_array Try.underlying59 hf
  rw [cellsRows] at hl
  match xs, hn with
  | [x0, x1, x2], _ =>
    have g0 := hel 0 (by decide)
    have g1 := hel 1 (by decide)
    have g2 := hel 2 (by decide)
    simp only [cellsRow'] at g0 g1 g2
    obtain ⟨u0, a, _, _, e0, h01, h02, h03, _⟩ := row_cells _ _ _ g0
    obtain ⟨u1, b, _, _, e1, h11, h12, h13, _⟩ := row_cells _ _ _ g1
    obtain ⟨u2, c, _, _, e2, h21, h22, h23, _⟩ := row_cells _ _ _ g2
    refine ⟨u0, u1, u2, a, b, c, ?_, ⟨h01, h02, h03⟩, ⟨h11, h12, h13⟩, ⟨h21, h22, h23⟩⟩
    have hl' : cs.toList.length = 9 := hl
    have e0' : (cs.toList.drop 0).take 3 = _ := e0
    have e1' : (cs.toList.drop 3).take 3 = _ := e1
    have e2' : (cs.toList.drop 6).take 3 = _ := e2
    rw [show cs = cs.toList.toArray from rfl]
    generalize cs.toList = l at *
    match l, hl' with
    | [a, b, c, d, e, f, g, h, i], _ =>
      simp at e0' e1' e2'
      obtain ⟨rfl, rfl, rfl⟩ := e0'
      obtain ⟨rfl, rfl, rfl⟩ := e1'
      obtain ⟨rfl, rfl, rfl⟩ := e2'
      rfl
end

set_option maxRecDepth 100000 in
theorem lifted (os : Os) (started : os.Started) (H : Type) (enc : TypeId × Value → H) :
    ReturnsInHanded {} Try.checked os 8 .any (Rows.topKeysSpec.pre6 enc Try.prog Try.f8 Rows.topKeysRow.domain false) (Rows.topKeysSpec.post enc Try.prog Try.f8 false true false false) := by
  refine returnsInHanded_of_change (C := Try.checked) own started (by kernel_rfl) Try.func8
    (ChangeSpec.witness6 (enc := enc) (C := Try.checked) false ⟨#[], #[.agg #[.slice none 0 0, .int .i64 0, .int .i64 0, .slice none 0 0, .int .i64 0, .int .i64 0, .slice none 0 0, .int .i64 0, .int .i64 0]], []⟩ 8 (by kernel_rfl) (by kernel_rfl) (by kernel_rfl) (by kernel_rfl)) ?_
  intro W base args ds gs before hval0 hW hcnd hsz
  have hval : ∀ (j : Nat) t v, Try.f8.params[j]? = some t → args[j]? = some v → Value.okWide Try.prog W .any base t v := hval0
  have hW' := hW
  obtain ⟨p, q, hA0, hV, rfl, hfz, hnd⟩ := hW
  have hA : DataW.TrodAll enc Try.prog W 0 (fun _ => true) true Try.f8.params.toList args.toList ds p := hA0
  rw [Try.params8] at hA hval
  obtain ⟨v0, d0, rfl, rfl, h0⟩ := trodAll_one hA
  obtain ⟨rfl, rfl⟩ := trodVars_none hV
  obtain ⟨u0, u1, u2, a, b, c, rfl, ⟨h01, h02, h03⟩, ⟨h11, h12, h13⟩, ⟨h21, h22, h23⟩⟩ := open_rows (hval 0 59 v0 rfl rfl) h0
  clear hA0 hval0
  refine (topKeys_walk a b c u0 u1 u2 W h01 h11 h21 h02 h12 h22 h03 h13 h23).mono fun e W' ⟨he, hb⟩ => ?_
  subst he
  exact ⟨_, rfl, law_post laidOut (by kernel_rfl) rfl Try.underlying4 hW' rfl rfl hb⟩

theorem topKeys_holds : Rows.TopKeysSaid :=
  OpenClaim.holds_of_wide 8 Try.f8 rfl rfl rfl rfl rfl rfl rfl ⟨rfl, rfl, rfl, rfl, rfl⟩ rfl rfl rfl rfl rfl (by kernel_rfl) Try.func8 (by kernel_rfl)
    (of_decide_eq_true (by kernel_rfl)) (by unfold Func.isWrapper; rw [if_neg (of_decide_eq_false (by kernel_rfl))]; exact ⟨rfl, rfl⟩)
    (fun os started H enc _ => lifted os started H enc)
#print axioms topKeys_holds
end Go.Proofs.Ytafbphiedaijmaa
