/- The walk of WordFront: Front begins the text, and has as many runes as it may. -/
import Derived.Test.YtdcdglbliemnkaaDoorLive
import Derived.Test.YtdcdglbliemnkaaDoorRunes
import Derived.Test.YtdcdglbliemnkaaDoorWordB
namespace Go.Proofs.YtdcdglbliemnkaaDoor
open Go.RowKit Go.Lib

theorem front_count : ∀ (f : Nat) (l : List UInt8) (n : Int), l.length ≤ f → 0 ≤ n → (runesD f (l.take (frontD f l n)) : Int) ≤ n ∧ ((runesD f (l.take (frontD f l n)) : Int) = n ∨ frontD f l n = l.length)
  | 0, l, n, h, hn => by simp [runesD, frontD]; omega
  | f + 1, l, n, h, hn => by
    by_cases hne : l = []
    · subst hne; simp [runesD, frontD]; omega
    · by_cases hn0 : n ≤ 0
      · rw [frontD_stop hn0]
        simp [runesD]
        omega
      · rw [frontD_step hne hn0]
        have hw := decodeL_width l
        have hle := decodeL_le l hne
        have hk := frontD_le f (l.drop (decodeL l).2) (n - 1)
        rw [List.length_drop] at hk
        have ih := front_count f (l.drop (decodeL l).2) (n - 1) (by rw [List.length_drop]; omega) (by omega)
        rw [List.length_drop] at ih
        generalize frontD f (l.drop (decodeL l).2) (n - 1) = k at *
        have hd := decodeL_take l ((decodeL l).2 + k) (by omega) (by omega)
        have hne2 : ¬ l.take ((decodeL l).2 + k) = [] := by
          intro e
          have := congrArg List.length e
          rw [List.length_take, List.length_nil] at this
          omega
        have e1 : runesD (f + 1) (l.take ((decodeL l).2 + k)) = 1 + runesD f ((l.drop (decodeL l).2).take k) := by
          rw [runesD, if_neg hne2, hd, List.drop_take, Nat.add_sub_cancel_left]
        rw [e1]
        omega
theorem front_runes (l : List UInt8) (n : Int) (hn : 0 ≤ n) : (runesL (l.take (frontN l n)) : Int) ≤ n ∧ ((runesL (l.take (frontN l n)) : Int) = n ∨ frontN l n = l.length) := by
  have h := front_count l.length l n (Nat.le_refl _) hn
  unfold runesL
  rw [runesD_fuel (l.take (frontN l n)).length l.length _ (Nat.le_refl _) (by rw [List.length_take]; omega)]
  exact h
theorem runesD_le : ∀ (f : Nat) (l : List UInt8), runesD f l ≤ f
  | 0, _ => by simp [runesD]
  | f + 1, l => by
    unfold runesD
    split
    · omega
    · have := runesD_le f (l.drop (decodeL l).2)
      omega
theorem runesL_le (l : List UInt8) : runesL l ≤ l.length := runesD_le _ _

/-- What the law asks at the end. -/
theorem front_facts (t : ByteArray) (n : Int) (hn : 0 ≤ n) (F : ByteArray) (hF : F = t.extract 0 (frontN t.data.toList n)) : F.size ≤ t.size ∧ t.extract 0 F.size = F ∧
    runesL F.data.toList + runesL (List.take (t.size - F.size) (List.drop F.size t.data.toList)) = runesL t.data.toList ∧
    (runesL F.data.toList : Int) ≤ n ∧ ((runesL F.data.toList : Int) = n ∨ (((runesL F.data.toList : Int) == n) = false ∧ F = t)) := by
  have hl := frontD_le t.data.toList.length t.data.toList n
  have hl' : frontN t.data.toList n ≤ t.size := by unfold frontN; simpa using hl
  have hs : F.size = frontN t.data.toList n := by rw [hF, ByteArray.size_extract]; omega
  have hd : F.data.toList = t.data.toList.take (frontN t.data.toList n) := by rw [hF, Lib.extract_data]; simp
  obtain ⟨f1, f2⟩ := front_runes t.data.toList n hn
  refine ⟨by omega, by rw [hs, hF], ?_, by rw [hd]; exact f1, ?_⟩
  · rw [hd, hs, List.take_of_length_le (l := List.drop _ _) (by rw [List.length_drop]; simp)]
    exact runes_split _ _
  · rw [hd]
    rcases f2 with e | e
    · exact .inl e
    · by_cases q : (runesL (t.data.toList.take (frontN t.data.toList n)) : Int) = n
      · exact .inl q
      refine .inr ⟨beq_eq_false_iff_ne.2 q, ?_⟩
      apply ByteArray.ext
      apply Array.ext'
      rw [hd, e, List.take_length]

set_option maxHeartbeats 2000000 in
theorem wordFront_walk (s : ByteArray) (n : Int) (w : World) (hs : s.size ≤ 9223372036854775807) (hn : 0 ≤ n) (hn' : n ≤ 255) (hE : Env w) :
    Calls Tryd.prog 4 #[.string s, .int .u8 n] w fun e w' => e = .returned (.bool true) ∧ Below w.heap.size w w' := by
  have hz := shortS_le s
  go_enter Tryd.func4, Tryd.ntmps4
  go_wp2_with fail
  refine (word_short _ _ hs).mono ?_
  rintro e w0 ⟨rfl, rfl⟩
  generalize shortS s = S at *
  go_wp2_with fail
  refine (word_front S n _ (by omega) (by omega) (by omega)).mono ?_
  rintro e w1 ⟨rfl, hb1⟩
  obtain ⟨F, hF⟩ : ∃ F, F = S.extract 0 (frontN S.data.toList n) := ⟨_, rfl⟩
  obtain ⟨f1, f2, f3, f4, f5⟩ := front_facts S n hn F hF
  have HS := Lib.hid f3
  rw [← hF]
  clear hF f3
  go_wp2_with fail
  refine (word_len _ _ (by omega)).mono ?_
  rintro e w2 ⟨rfl, hb2⟩
  have hkb := runesL_le F.data.toList
  have hcb := runesL_le S.data.toList
  have hs1 : F.data.toList.length = F.size := by simp
  have hs2 : S.data.toList.length = S.size := by simp
  have f1' : (F.size : Int) ≤ S.size := by omega
  have hx : (S.extract F.size S.size).size < 9223372036854775807 := by rw [ByteArray.size_extract]; omega
  have hsum : (IntKind.i64.wrap ((runesL (List.take (S.size - F.size) (List.drop F.size S.data.toList)) : Int) + (runesL F.data.toList : Int)) == (runesL S.data.toList : Int)) = true := by
    have h := HS.out
    rw [IntWalk.i64_in _ (by omega), show ((runesL (List.take (S.size - F.size) (List.drop F.size S.data.toList)) : Int) + (runesL F.data.toList : Int)) = (runesL S.data.toList : Int) by omega]
    simp
  rw [IntWalk.i64_left] at hsum
  clear hs1 hs2 hcb HS
  have c2 := keepS' hb1 hb2
  go_wp2_with fail
  refine (live2 _ (hE.below c2)).mono ?_
  rintro e w3 ⟨rfl, hb3⟩
  have c3 := keepS' c2 hb3
  clear hb1 hb2 hb3 c2
  rcases f5 with f5 | f5
  · have f5' : ((runesL F.data.toList : Int) == n) = true := by rw [f5]; simp
    clear f5
    go_wp2_with fail
    refine (word_len _ _ hx).mono ?_
    rintro e w4 ⟨rfl, hb4⟩
    go_wp2_with fail
    refine (word_len _ _ (by omega)).mono ?_
    rintro e w5 ⟨rfl, hb5⟩
    go_wp2
    go_ret
    exact ⟨rfl, keepS' (keepS' c3 hb4) hb5⟩
  · obtain ⟨hq, hFS⟩ := f5
    have hFl : F.toList = S.toList := by rw [hFS]
    have hFb : (F.toList == S.toList) = true := by rw [hFS]; exact beq_self_eq_true _
    clear hFS
    go_wp2_with fail
    refine (word_len _ _ hx).mono ?_
    rintro e w4 ⟨rfl, hb4⟩
    go_wp2_with fail
    refine (word_len _ _ (by omega)).mono ?_
    rintro e w5 ⟨rfl, hb5⟩
    go_wp2
    go_ret
    exact ⟨rfl, keepS' (keepS' c3 hb4) hb5⟩
end Go.Proofs.YtdcdglbliemnkaaDoor
