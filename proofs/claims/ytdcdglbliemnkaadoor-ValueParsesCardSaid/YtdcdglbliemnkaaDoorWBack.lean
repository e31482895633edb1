/- The walk of WordBack: Unquote takes Quote back, whatever follows it but a mark. -/
import Derived.Test.YtdcdglbliemnkaaDoorLive
import Derived.Test.YtdcdglbliemnkaaDoorRefB
namespace Go.Proofs.YtdcdglbliemnkaaDoor
open Go.RowKit Go.Lib

theorem unq_dbl : ∀ (l r : List UInt8), (∀ d r', r = d :: r' → d ≠ 39) → unq (dbl l ++ 39 :: r) = some (l, (dbl l).length)
  | [], [], _ => rfl
  | [], d :: r, h => by
    show unq (39 :: d :: r) = _
    rw [unq_one (h d r rfl)]
    rfl
  | c :: l, r, h => by
    have ih := unq_dbl l r h
    by_cases hc : c = 39
    · subst hc
      simp only [dbl, if_true, List.cons_append]
      rw [unq_two, ih]
      rfl
    · simp only [dbl, if_neg hc, List.cons_append]
      rw [unq_ne hc, ih]
      rfl

theorem quoteR_right {s : ByteArray} (h : rightL s.data.toList = true) : (quoteR s).2 = 0 ∧ (quoteR s).1.data.toList = quoteL s.data.toList := by
  rw [quoteR, h]; exact ⟨rfl, rfl⟩
theorem quoteR_wrong {s : ByteArray} (h : rightL s.data.toList = false) : (quoteR s).2 = 3 ∧ (quoteR s).1 = ⟨#[]⟩ := by
  rw [quoteR, h]; exact ⟨rfl, rfl⟩
theorem back (s x : ByteArray) (r : List UInt8) (h : rightL s.data.toList = true) (hx : x.data.toList = quoteL s.data.toList ++ r) (hr : ∀ d r', r = d :: r' → d ≠ 39) : unquoteR x = (s, ((quoteR s).1.size : Int), 0) := by
  have hq : (quoteR s).1.size = (quoteL s.data.toList).length := by rw [← (quoteR_right h).2]; simp
  have hu := unq_dbl s.data.toList r hr
  have e : x.data.toList = 39 :: (dbl s.data.toList ++ 39 :: r) := by rw [hx]; simp [quoteL]
  rw [unquoteR_some e hu, h, hq]
  have hl : (quoteL s.data.toList).length = (dbl s.data.toList).length + 2 := by simp [quoteL]
  rw [hl]
  simp
theorem head_of {t : ByteArray} (h : ∀ hp : 0 < t.size, ¬ (t[0]'hp).toNat = 39) : ∀ d r', t.data.toList = d :: r' → d ≠ 39 := by
  intro d r' e hd
  have hp : 0 < t.size := by
    have := congrArg List.length e
    simp at this
    omega
  have h0 := drop_cons hp
  rw [List.drop_zero, e] at h0
  have := (List.cons.inj h0).1
  exact h hp (by rw [← this, hd]; rfl)

theorem app_list (a b : ByteArray) : (a ++ b).data.toList = a.data.toList ++ b.data.toList := by simp
theorem app_size (a b : ByteArray) : (a ++ b).size = a.size + b.size := by simp

set_option maxHeartbeats 1000000 in
theorem wordBack_walk (s t : ByteArray) (w : World) (hs : s.size ≤ 9223372036854775807) (ht : t.size ≤ 9223372036854775807) (hE : Env w) :
    Calls Tryd.prog 3 #[.string s, .string t] w fun e w' => e = .returned (.bool true) ∧ Below w.heap.size w w' := by
  have hz := shortS_le s
  have hy := shortS_le t
  go_enter Tryd.func3, Tryd.ntmps3
  go_wp2_with fail
  refine (word_short _ _ hs).mono ?_
  rintro e w0 ⟨rfl, rfl⟩
  go_wp2_with fail
  refine (word_short _ _ ht).mono ?_
  rintro e w0 ⟨rfl, rfl⟩
  generalize shortS s = S at *
  generalize shortS t = T at *
  go_wp2_with fail
  refine (word_quote S _ (by omega)).mono ?_
  rintro e w1 ⟨rfl, c1⟩
  by_cases hr : rightL S.data.toList = true
  · obtain ⟨q0, q1⟩ := quoteR_right hr
    have hs32 := right_short hr
    have hqs : (quoteR S).1.size ≤ 66 := by
      have e : (quoteR S).1.size = (quoteL S.data.toList).length := by rw [← q1]; simp
      rw [e]
      have := (dbl_le S.data.toList).2
      simp [quoteL]
      omega
    have HB := Lib.hid (fun x r hx hh => back S x r hr hx hh)
    have hq0 : ((quoteR S).2 == 0) = true := by rw [q0]; rfl
    have hq1 : ((quoteR S).2 != 0) = false := by rw [q0]; rfl
    have HQ := Lib.hid q1
    generalize quoteR S = Q at *
    obtain ⟨q, z⟩ := Q
    dsimp only at q0 hq0 hq1 HQ hqs HB
    clear q1 hr hs32
    by_cases hT : ∃ hp : 0 < T.size, (T[0]'hp).toNat = 39
    · obtain ⟨hp, hT⟩ := hT
      have hT' : (((T[0]'hp).toNat : Int) == 39) = true := by rw [hT]; rfl
      clear hT
      go_wp2_with fail
      refine (word_unquote _ _ (by rw [app_size, app_size, show (ByteArray.mk #[32]).size = 1 from rfl]; omega) (hE.below c1)).mono ?_
      rintro e w2 ⟨rfl, hb2⟩
      rw [HB.out (q ++ (⟨#[32]⟩ ++ T)) (32 :: T.data.toList) (by rw [app_list, app_list, HQ.out]; rfl) (fun d r' e => by have := (List.cons.inj e).1; rw [← this]; decide)]
      have c2 := keepS' c1 hb2
      clear c1 hb2
      go_wp2_with fail
      refine (live2 _ (hE.below c2)).mono ?_
      rintro e w3 ⟨rfl, hb3⟩
      have c3 := keepS' c2 hb3
      clear c2 hb3
      go_wp2
      go_ret
      exact ⟨rfl, c3⟩
    · have hh := head_of (fun hp e => hT ⟨hp, e⟩)
      by_cases hp : 0 < T.size
      · have hT' : (((T[0]'hp).toNat : Int) == 39) = false := beq_eq_false_iff_ne.2 (fun e => hT ⟨hp, by omega⟩)
        clear hT
        go_wp2_with fail
        refine (word_unquote _ _ (by rw [app_size]; omega) (hE.below c1)).mono ?_
        rintro e w2 ⟨rfl, hb2⟩
        rw [HB.out (q ++ T) T.data.toList (by rw [app_list, HQ.out]) hh]
        have c2 := keepS' c1 hb2
        clear c1 hb2
        go_wp2_with fail
        refine (live2 _ (hE.below c2)).mono ?_
        rintro e w3 ⟨rfl, hb3⟩
        have c3 := keepS' c2 hb3
        clear c2 hb3
        go_wp2
        go_ret
        exact ⟨rfl, c3⟩
      · clear hT
        go_wp2_with fail
        refine (word_unquote _ _ (by rw [app_size]; omega) (hE.below c1)).mono ?_
        rintro e w2 ⟨rfl, hb2⟩
        rw [HB.out (q ++ T) T.data.toList (by rw [app_list, HQ.out]) hh]
        have c2 := keepS' c1 hb2
        clear c1 hb2
        go_wp2_with fail
        refine (live2 _ (hE.below c2)).mono ?_
        rintro e w3 ⟨rfl, hb3⟩
        have c3 := keepS' c2 hb3
        clear c2 hb3
        go_wp2
        go_ret
        exact ⟨rfl, c3⟩
  · have hr' : rightL S.data.toList = false := by simpa using hr
    obtain ⟨q0, q1⟩ := quoteR_wrong hr'
    have hq0 : ((quoteR S).2 == 0) = false := by rw [q0]; rfl
    have hq1 : ((quoteR S).2 != 0) = true := by rw [q0]; rfl
    have HR := Lib.hid hr'
    generalize quoteR S = Q at *
    obtain ⟨q, z⟩ := Q
    dsimp only at q0 hq0 hq1 q1
    subst q1
    clear hr hr'
    go_wp2_with fail
    refine (live2 _ (hE.below c1)).mono ?_
    rintro e w2 ⟨rfl, hb2⟩
    have c2 := keepS' c1 hb2
    clear c1 hb2
    go_wp2_with fail
    refine (word_right _ _).mono ?_
    rintro e w3 ⟨rfl, hb3⟩
    rw [HR.out]
    have c3 := keepS' c2 hb3
    clear c2 hb3
    go_wp2
    go_ret
    exact ⟨rfl, c3⟩
end Go.Proofs.YtdcdglbliemnkaaDoor
