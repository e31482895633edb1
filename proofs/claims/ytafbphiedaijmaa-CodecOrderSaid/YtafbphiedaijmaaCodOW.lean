/- The walk of CodecOrder. -/
import Derived.Test.YtafbphiedaijmaaCodL
import Derived.Test.YtafbphiedaijmaaCodO
import Derived.Deep.DeepCutAuto
import Derived.Deep.RegionWith
namespace Go.Proofs.Ytafbphiedaijmaa
open Go.RowKit Go.Lib
attribute [local go_sem ↓] Go.wp_at_zero Go.wp_at_succ

/-- Two rows, each cut, in the boxes g and h. -/
def TwoRows (g h : Nat) (a b : Rw) (w0 w : World) : Prop := ∃ A n c A' n' c', Blk w g 26 #[.slice A n c, .int .i64 a.f, .int .i64 a.t] ∧ Blk w h 26 #[.slice A' n' c', .int .i64 b.f, .int .i64 b.t] ∧ Sl 3 Vl.enc w (.slice A n c) a.l ∧ Sl 3 Vl.enc w (.slice A' n' c') b.l ∧ Below w0.heap.size w0 w

set_option maxRecDepth 100000 in
set_option maxHeartbeats 8000000 in
theorem codecOrder_walk (a b : Rw) (va vb : Value) (w : World) (ha : Sl 3 Vl.enc w va a.l) (hb : Sl 3 Vl.enc w vb b.l) (hoa : a.ok) (hob : b.ok) (hla : a.l.length ≤ 9223372036854775807) (hlb : b.l.length ≤ 9223372036854775807) :
    Calls Try.prog 4 #[.agg #[va, .int .i64 a.f, .int .i64 a.t], .agg #[vb, .int .i64 b.f, .int .i64 b.t]] w fun e w' => e = .returned (.bool true) ∧ Below w.heap.size w w' := by
  obtain ⟨A, ca, rfl⟩ := ha.slice
  obtain ⟨B, cb, rfl⟩ := hb.slice
  obtain ⟨W0, hW0⟩ : ∃ W0, W0 = (w.alloc (.cells #[.slice A a.l.length ca, .int .i64 a.f, .int .i64 a.t] 26)).alloc (.cells #[.slice B b.l.length cb, .int .i64 b.f, .int .i64 b.t] 26) := ⟨_, rfl⟩
  have q0 : Below w.heap.size w W0 := by rw [hW0]; exact ((Below.refl _ _).alloc (Nat.le_refl _) _).alloc (by simp) _
  have b1 : Blk W0.drew w.heap.size 26 #[.slice A a.l.length ca, .int .i64 a.f, .int .i64 a.t] := by rw [hW0]; exact ((Blk.new _ _ _).alloc _).drew
  have b2 : Blk W0.drew (w.heap.size + 1) 26 #[.slice B b.l.length cb, .int .i64 b.f, .int .i64 b.t] := by
    rw [hW0]
    have := Blk.new (w.alloc (.cells #[.slice A a.l.length ca, .int .i64 a.f, .int .i64 a.t] 26)) 26 #[.slice B b.l.length cb, .int .i64 b.f, .int .i64 b.t]
    have h2 := this.drew
    simpa using h2
  have hltA : 0 < a.l.length → ∀ g1 o1, A = some ⟨g1, o1, none⟩ → g1 < w.heap.size := fun h g1 o1 e => by subst e; exact ha.lt h
  have hltB : 0 < b.l.length → ∀ g1 o1, B = some ⟨g1, o1, none⟩ → g1 < w.heap.size := fun h g1 o1 e => by subst e; exact hb.lt h
  have sa : Sl 3 Vl.enc W0.drew (.slice A a.l.length ca) a.l := (ha.below q0).drew
  have sb : Sl 3 Vl.enc W0.drew (.slice B b.l.length cb) b.l := (hb.below q0).drew
  have qq : Below w.heap.size w W0.drew := q0.drew
  have HFA := Lib.hid (fun w h => few4 a A a.l.length ca w h hla)
  have HFB := Lib.hid (fun w h => few4 b B b.l.length cb w h hlb)
  have HW0 := Lib.hid hW0
  have xr := b1.cell
  have yr := b2.cell
  have xf := b1.frozen
  have yf := b2.frozen
  have HLA := Lib.hid hltA
  have HLB := Lib.hid hltB
  clear hW0 ha hb q0 hltA hltB
  go_enter Try.func4, Try.ntmps4
  go_upto_region 1 with fail
  rw [← HW0.out]
  go_cut [] (fun wx => TwoRows w.heap.size (w.heap.size + 1) a.few b.few w wx)
  case first =>
    go_region_with (first
      | (go_at_call_of 9 (Value.slice A a.l.length ca); refine (HFA.out _ sa).mono ?_; rintro e w6 ⟨n6, c6, rfl, hs6, hb6⟩; have sa := hs6; have sb := sb.below hb6; have qq := keepS' qq hb6; have b1 := b1.below hb6 b1.lt; have b2 := b2.below hb6 b2.lt; have xr := b1.cell; have yr := b2.cell; have xf := b1.frozen; have yf := b2.frozen)
      | (go_at_call_of 9 (Value.slice B b.l.length cb); refine (HFB.out _ sb).mono ?_; rintro e w6 ⟨n6, c6, rfl, hs6, hb6⟩; have sb := hs6; have sa := sa.below hb6; have qq := keepS' qq hb6; have b1 := b1.below hb6 b1.lt; have b2 := b2.below hb6 b2.lt; have xr := b1.cell; have yr := b2.cell; have xf := b1.frozen; have yf := b2.frozen))
    all_goals
      go_wp2_with fail
      go_meet
      have pa : ∀ k, w.heap.size ≤ k → 0 < a.few.l.length → ∀ g1 o1, A = some ⟨g1, o1, none⟩ → g1 ≠ k := fun k hk h g1 o1 e => by
        have := HLA.out (by unfold Rw.few at h; simp at h; omega) g1 o1 e
        omega
      have pb : ∀ k, w.heap.size ≤ k → 0 < b.few.l.length → ∀ g1 o1, B = some ⟨g1, o1, none⟩ → g1 ≠ k := fun k hk h g1 o1 e => by
        have := HLB.out (by unfold Rw.few at h; simp at h; omega) g1 o1 e
        omega
      have k1 : w.heap.size ≤ w.heap.size := Nat.le_refl _
      have k2 : w.heap.size ≤ w.heap.size + 1 := by omega
      exact ⟨_, _, _, _, _, _, ((((((b1.set_ 0 _).set_ 1 _).set_ 2 _).far (p := ⟨w.heap.size + 1, 0, none⟩) (by simp) _).far (p := ⟨w.heap.size + 1, 1, none⟩) (by simp) _).far (p := ⟨w.heap.size + 1, 2, none⟩) (by simp) _),
        ((((((b2.far (p := ⟨w.heap.size, 0, none⟩) (by simp) _).far (p := ⟨w.heap.size, 1, none⟩) (by simp) _).far (p := ⟨w.heap.size, 2, none⟩) (by simp) _).set_ 0 _).set_ 1 _).set_ 2 _),
        Sl.far (p := ⟨w.heap.size + 1, 2, none⟩) (Sl.far (p := ⟨w.heap.size + 1, 1, none⟩) (Sl.far (p := ⟨w.heap.size + 1, 0, none⟩) (Sl.far (p := ⟨w.heap.size, 2, none⟩) (Sl.far (p := ⟨w.heap.size, 1, none⟩) (Sl.far (p := ⟨w.heap.size, 0, none⟩) sa _ (pa _ k1)) _ (pa _ k1)) _ (pa _ k1)) _ (pa _ k2)) _ (pa _ k2)) _ (pa _ k2),
        Sl.far (p := ⟨w.heap.size + 1, 2, none⟩) (Sl.far (p := ⟨w.heap.size + 1, 1, none⟩) (Sl.far (p := ⟨w.heap.size + 1, 0, none⟩) (Sl.far (p := ⟨w.heap.size, 2, none⟩) (Sl.far (p := ⟨w.heap.size, 1, none⟩) (Sl.far (p := ⟨w.heap.size, 0, none⟩) sb _ (pb _ k1)) _ (pb _ k1)) _ (pb _ k1)) _ (pb _ k2)) _ (pb _ k2)) _ (pb _ k2),
        (((((qq.setCell (p := ⟨w.heap.size, 0, none⟩) k1 _).setCell (p := ⟨w.heap.size, 1, none⟩) k1 _).setCell (p := ⟨w.heap.size, 2, none⟩) k1 _).setCell (p := ⟨w.heap.size + 1, 0, none⟩) k2 _).setCell (p := ⟨w.heap.size + 1, 1, none⟩) k2 _).setCell (p := ⟨w.heap.size + 1, 2, none⟩) k2 _⟩
  case rest =>
    obtain ⟨A', n1, c1, B', n2, c2, d1, d2, s1, s2, q⟩ := hcut
    have hoa' := Rw.few_ok hoa
    have hob' := Rw.few_ok hob
    have hla' := a.few_le
    have hlb' := b.few_le
    clear HFA HFB xr yr xf yf b1 b2 sa sb qq HLA HLB
    generalize a.few = a at *
    generalize b.few = b at *
    obtain rfl : n1 = a.l.length := s1.len.1
    obtain rfl : n2 = b.l.length := s2.len.1
    have xr := d1.cell
    have yr := d2.cell
    cases hab : a.b with
    | false =>
      go_wp2_with fail
      refine (codec_encode_no a _ _ s1 (by omega) hab).mono ?_
      rintro e w2 ⟨rfl, hb2⟩
      have q2 := keepS' q hb2
      have e1 := d1.below hb2 d1.lt
      have e2 := d2.below hb2 d2.lt
      have t2 := s2.below hb2
      have yr2 := e2.cell
      clear hb2 xr yr
      cases hbb : b.b with
      | false =>
        go_wp2_with fail
        refine (codec_encode_no b _ _ t2 (by omega) hbb).mono ?_
        rintro e w3 ⟨rfl, hb3⟩
        have q3 := keepS' q2 hb3
        go_wp2_with fail
        refine (live4 _).mono ?_
        rintro e w4 ⟨rfl, hb4⟩
        go_wp2
        go_ret
        exact ⟨rfl, keepS' q3 hb4⟩
      | true =>
        go_wp2_with fail
        refine (codec_encode b _ _ hob' t2 (by omega) hbb).mono ?_
        rintro e w3 ⟨⟨vy, rfl, _⟩, hb3⟩
        have q3 := keepS' q2 hb3
        go_wp2_with fail
        refine (live4 _).mono ?_
        rintro e w4 ⟨rfl, hb4⟩
        go_wp2
        go_ret
        exact ⟨rfl, keepS' q3 hb4⟩
    | true =>
      go_wp2_with fail
      refine (codec_encode a _ _ hoa' s1 (by omega) hab).mono ?_
      rintro e w2 ⟨⟨vx, rfl, hO2⟩, hb2⟩
      have q2 := keepS' q hb2
      have e1 := d1.below hb2 d1.lt
      have e2 := d2.below hb2 d2.lt
      have t1 := s1.below hb2
      have t2 := s2.below hb2
      have yr2 := e2.cell
      clear hb2 xr yr
      cases hbb : b.b with
      | false =>
        go_wp2_with fail
        refine (codec_encode_no b _ _ t2 (by omega) hbb).mono ?_
        rintro e w3 ⟨rfl, hb3⟩
        have q3 := keepS' q2 hb3
        go_wp2_with fail
        refine (live4 _).mono ?_
        rintro e w4 ⟨rfl, hb4⟩
        go_wp2
        go_ret
        exact ⟨rfl, keepS' q3 hb4⟩
      | true =>
        have hord := rows_order hab hoa' hbb hob'
        have hfree : ∀ X, a.bytes ++ X = b.bytes → X = [] := fun X h => rows_free hab hoa' hbb hob' h
        have HCm := Lib.hid (fun w h1 h2 => codec_compare a b (.slice A' a.l.length c1) (.slice B' b.l.length c2) w h1 h2 (by omega) (by omega))
        have hbla := Rw.bytes_le hab
        have hblb := Rw.bytes_le hbb
        have HEB := Lib.hid (fun w h => codec_encode b (.slice B' b.l.length c2) w hob' h (by omega) hbb)
        generalize a.bytes = X at *
        generalize b.bytes = Y at *
        generalize rowC a b = C at *
        have HFR := Lib.hid hfree
        have HORD := Lib.hid hord
        clear hfree hord hab hbb
        go_wp2_with fail
        refine (HEB.out _ t2).mono ?_
        rintro e w3 ⟨⟨vy, rfl, hP3⟩, hb3⟩
        have q3 := keepS' q2 hb3
        have f1 := e1.below hb3 e1.lt
        have f2 := e2.below hb3 e2.lt
        have u1 := t1.below hb3
        have u2 := t2.below hb3
        have hO3 := hO2.below hb3
        have xr3 := f1.cell
        have yr3 := f2.cell
        clear hb3 yr2 hO2 HEB
        go_wp2_with fail
        refine (HCm.out _ u1 u2).mono ?_
        rintro e w4 ⟨rfl, hb4⟩
        have q4 := keepS' q3 hb4
        have hcx := conv_own ((hO3.below hb4).b.below (Below.refl _ _).drew)
        have hcy := conv_own ((hP3.below hb4).b.below (Below.refl _ _).drew)
        clear hb4 xr3 yr3 hO3 hP3 HCm
        go_wp2_with fail
        go_region_held3 (fun w' => w' = w4.drew) (first | rfl | assumption | (subst_vars; rfl)) (fail)
        have q5 : Below w.heap.size w w4.drew := q4.drew
        clear hcx hcy q4
        obtain ⟨L1, L2⟩ := less_of HORD.out
        have hbeg : X.length < Y.length → (((ByteArray.mk Y.toArray).extract 0 X.length).toList == X) = false := by
          intro h
          refine beq_eq_false_iff_ne.2 (fun e => ?_)
          rw [Lib.toList_data, Lib.extract_data, List.drop_zero, Nat.sub_zero] at e
          have h2 := HFR.out (Y.drop X.length) (by
            have e' : Y.take X.length = X := e
            calc X ++ Y.drop X.length = Y.take X.length ++ Y.drop X.length := by rw [e']
              _ = Y := List.take_append_drop _ _)
          have := congrArg List.length h2
          rw [List.length_drop] at this
          simp at this
          omega
        have HBG := Lib.hid hbeg
        clear hbeg
        have hc3 : C < 0 ∨ C = 0 ∨ 0 < C := by omega
        by_cases hxy : X.length < Y.length
        all_goals
          first
          | (have hb1 := HBG.out hxy
             have hxyI : (X.length : Int) < (Y.length : Int) := by omega)
          | (have hxyI : decide (X.length < Y.length) = false := by simpa using hxy)
          rcases hc3 with hc | hc | hc
          case inr.inl =>
            obtain rfl : X = Y := cb_eq _ _ (HORD.out.trans hc)
            first
            | exact absurd hxy (Nat.lt_irrefl _)
            | (have h0 : decide (C < 0) = false := decide_eq_false (by omega)
               have h1 : decide (0 < C) = false := decide_eq_false (by omega)
               subst hc
               go_wp2_with fail
               refine (live4 _).mono ?_
               rintro e w6 ⟨rfl, hb6⟩
               have q6 := keepS' q5 hb6
               go_wp2
               go_ret
               exact ⟨rfl, q6⟩)
          all_goals
            have g0 : decide (C < 0) = true ∨ decide (C < 0) = false := by cases decide (C < 0) <;> simp
            have g1 : decide (0 < C) = true ∨ decide (0 < C) = false := by cases decide (0 < C) <;> simp
            first
            | (have h0 : decide (C < 0) = true := decide_eq_true (by omega))
            | (have h0 : decide (C < 0) = false := decide_eq_false (by omega))
            first
            | (have h1 : decide (0 < C) = true := decide_eq_true (by omega))
            | (have h1 : decide (0 < C) = false := decide_eq_false (by omega))
            rw [h0] at L1
            rw [h1] at L2
            have hne : X ≠ Y := fun e => by
              rw [e] at L1 L2
              rw [L1] at L2
              cases L2
            have hnb : (X == Y) = false := beq_eq_false_iff_ne.2 hne
            clear g0 g1 hc
            go_wp2_with fail
            refine (live4 _).mono ?_
            rintro e w6 ⟨rfl, hb6⟩
            have q6 := keepS' q5 hb6
            go_wp2
            all_goals first | (go_ret; exact ⟨rfl, q6⟩) | (go_ret; refine ⟨?_, q6⟩; simp [hnb]) | (go_ret; refine ⟨?_, q6⟩; rw [hnb]; rfl)
end Go.Proofs.Ytafbphiedaijmaa
