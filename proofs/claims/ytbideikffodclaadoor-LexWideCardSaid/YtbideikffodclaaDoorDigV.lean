/- The reference's Digits, number; value.digits. -/
import Derived.Test.YtbideikffodclaaDoorDigW
import Derived.Laws.Concat
namespace Go.Proofs.YtbideikffodclaaDoor
open Go.RowKit Go.Lib

set_option maxHeartbeats 1000000 in
theorem ref_Digits_small (n : Int) (w : World) (h1 : 0 ≤ n) (h2 : n < 10) :
    Calls Tryd.prog 46 #[.int .i64 n] w fun e w' => e = .returned (.string ⟨(digL n.natAbs).toArray⟩) ∧ w = w' := by
  rw [digL_small (by omega)]
  rcases (show n = 0 ∨ n = 1 ∨ n = 2 ∨ n = 3 ∨ n = 4 ∨ n = 5 ∨ n = 6 ∨ n = 7 ∨ n = 8 ∨ n = 9 by omega) with rfl | rfl | rfl | rfl | rfl | rfl | rfl | rfl | rfl | rfl
  all_goals
    go_enter Tryd.func46, Tryd.ntmps46
    go_wp2
    go_ret
    exact ⟨rfl, rfl⟩

theorem mk_size (l : List UInt8) : (ByteArray.mk l.toArray).size = l.length := rfl
theorem dec_le (n : Int) (h1 : -9223372036854775808 ≤ n) (h2 : n ≤ 9223372036854775807) : (decL n).length ≤ 20 := by
  have := digL_length n.natAbs 19 (by omega) (by omega)
  unfold decL
  split
  · simp; omega
  · omega
theorem cat_arr (a b : List UInt8) : (⟨a.toArray⟩ : ByteArray) ++ ⟨b.toArray⟩ = ⟨(a ++ b).toArray⟩ := by
  apply ByteArray.ext
  simp [ByteArray.data_append]

set_option maxRecDepth 100000 in
set_option maxHeartbeats 1000000 in
theorem ref_Digits (k : Nat) : ∀ (n : Int) (w : World), n.natAbs < k → -9223372036854775808 ≤ n → n ≤ 9223372036854775807 →
    Calls Tryd.prog 46 #[.int .i64 n] w fun e w' => e = .returned (.string ⟨(decL n).toArray⟩) ∧ w = w' := by
  induction k with
  | zero => intro n w h; omega
  | succ k ih =>
    intro n w hk h1 h2
    by_cases h0 : 0 ≤ n
    · obtain ⟨m, rfl⟩ := Int.eq_ofNat_of_zero_le h0
      have HD : Hid (decL (m : Int) = digL m) := Lib.hid (by rw [decL, if_neg (by omega)]; rfl)
      by_cases hs : m < 10
      · rw [HD.out]
        exact ref_Digits_small (m : Int) w (by omega) (by omega)
      · obtain ⟨X, hX⟩ : ∃ X, X = digL (m / 10) := ⟨_, rfl⟩
        obtain ⟨Y, hY⟩ : ∃ Y, Y = digL (m % 10) := ⟨_, rfl⟩
        have HC : Hid (∀ w, Calls Tryd.prog 46 #[.int .i64 ((m : Int) / 10)] w fun e w' => e = .returned (.string ⟨X.toArray⟩) ∧ w = w') := Lib.hid (fun w => by
          have h := ih ((m / 10 : Nat) : Int) w (by omega) (by omega) (by omega)
          rw [show decL ((m / 10 : Nat) : Int) = X by rw [decL, if_neg (by omega), hX]; rfl] at h
          exact h)
        have HL : Hid (∀ w, Calls Tryd.prog 46 #[.int .i64 ((m : Int) % 10)] w fun e w' => e = .returned (.string ⟨Y.toArray⟩) ∧ w = w') := Lib.hid (fun w => by
          have h := ref_Digits_small ((m % 10 : Nat) : Int) w (by omega) (by omega)
          rw [show digL ((m % 10 : Nat) : Int).natAbs = Y by rw [hY]; rfl] at h
          exact h)
        have HE : Hid (digL m = X ++ Y) := Lib.hid (by rw [digL_big hs, hX, hY, digL_small (n := m % 10) (by omega)])
        have hz : X.length + Y.length ≤ 9223372036854775807 := by
          have h1 := digL_length (m / 10) 19 (by omega) (by omega)
          have h2 := digL_length (m % 10) 19 (by omega) (by omega)
          rw [hX, hY]; omega
        have hs' : ¬ (m : Int) < 10 := by omega
        clear ih hk hs hX hY
        go_enter Tryd.func46, Tryd.ntmps46
        go_wp2_with fail
        refine (HC.out _).mono ?_
        rintro e w' ⟨rfl, rfl⟩
        go_wp2_with fail
        refine (HL.out _).mono ?_
        rintro e w' ⟨rfl, rfl⟩
        go_wp2
        go_ret
        exact ⟨by rw [HD.out, HE.out, ← cat_arr]; rfl, rfl⟩
    · obtain ⟨m, rfl⟩ : ∃ m : Nat, n = -(m : Int) := ⟨n.natAbs, by omega⟩
      have HD : Hid (decL (-(m : Int)) = 45 :: digL m) := Lib.hid (by rw [decL, if_pos (by omega), Int.natAbs_neg]; rfl)
      have hn0 : -(m : Int) < 0 := by omega
      have hn0' : ¬ 0 ≤ -(m : Int) := h0
      have hn1 : decide (-(m : Int) < 0) = true := by simpa using hn0
      have hn2 : decide (0 ≤ -(m : Int)) = false := by simpa using h0
      obtain ⟨Q, hQ⟩ : ∃ Q : Int, Q = -((m / 10 : Nat) : Int) := ⟨_, rfl⟩
      obtain ⟨R, hR⟩ : ∃ R : Int, R = -((m % 10 : Nat) : Int) := ⟨_, rfl⟩
      have hq : (-(m : Int)).tdiv 10 = Q := by rw [Int.neg_tdiv, Int.tdiv_eq_ediv_of_nonneg (by omega), hQ]; omega
      have hr : (-(m : Int)).tmod 10 = R := by rw [Int.neg_tmod, Int.tmod_eq_emod_of_nonneg (by omega), hR]; omega
      obtain ⟨T, hT⟩ : ∃ T : Int, T = ((m % 10 : Nat) : Int) := ⟨_, rfl⟩
      have hr' : -R = T := by omega
      have hT0 : 0 ≤ T := by omega
      have hT9 : T < 10 := by omega
      have hR1 : -10 < R := by omega
      have hR0 : R ≤ 0 := by omega
      obtain ⟨Y, hY⟩ : ∃ Y, Y = digL (m % 10) := ⟨_, rfl⟩
      have HL : Hid (∀ w, Calls Tryd.prog 46 #[.int .i64 T] w fun e w' => e = .returned (.string ⟨Y.toArray⟩) ∧ w = w') := Lib.hid (fun w => by
        have h := ref_Digits_small T w hT0 hT9
        rw [show digL T.natAbs = Y by rw [hY, hT]; rfl] at h
        exact h)
      have hYl : 1 + Y.length ≤ 9223372036854775807 := by
        have h2 := digL_length (m % 10) 19 (by omega) (by omega)
        rw [hY]; omega
      by_cases hs : m < 10
      · have hQ0 : Q = 0 := by omega
        subst hQ0
        have HE : Hid (digL m = Y) := Lib.hid (by rw [hY, Nat.mod_eq_of_lt hs])
        clear ih hk hQ hR h0 hs hY hT
        go_enter Tryd.func46, Tryd.ntmps46
        go_wp2_with fail
        refine (HL.out _).mono ?_
        rintro e w' ⟨rfl, rfl⟩
        go_wp2
        go_ret
        exact ⟨by rw [HD.out, HE.out, show (45 :: Y) = [45] ++ Y from rfl, ← cat_arr]; rfl, rfl⟩
      · have hQ0 : (Q == 0) = false := beq_eq_false_iff_ne.2 (by omega)
        obtain ⟨X, hX⟩ : ∃ X, X = 45 :: digL (m / 10) := ⟨_, rfl⟩
        have HE : Hid (45 :: digL m = X ++ Y) := Lib.hid (by rw [digL_big hs, hX, hY, digL_small (n := m % 10) (by omega)]; rfl)
        have HC : Hid (∀ w, Calls Tryd.prog 46 #[.int .i64 Q] w fun e w' => e = .returned (.string ⟨X.toArray⟩) ∧ w = w') := Lib.hid (fun w => by
          have h := ih Q w (by omega) (by omega) (by omega)
          rw [show decL Q = X by rw [decL, if_pos (by omega), hX, show Q.natAbs = m / 10 by omega]] at h
          exact h)
        have hz : X.length + Y.length ≤ 9223372036854775807 := by
          have h1 := digL_length (m / 10) 19 (by omega) (by omega)
          have h2 := digL_length (m % 10) 19 (by omega) (by omega)
          rw [hX, hY]; simp only [List.length_cons]; omega
        have hQ1 : -9223372036854775808 ≤ Q := by omega
        have hQ2 : Q ≤ -1 := by omega
        have hw : RowKit.wrap64 Q = Q := by unfold RowKit.wrap64; omega
        clear ih hk hQ hR h0 hs hY hT hX hYl
        go_enter Tryd.func46, Tryd.ntmps46
        go_wp2_with fail
        refine (HC.out _).mono ?_
        rintro e w' ⟨rfl, rfl⟩
        go_wp2_with fail
        refine (HL.out _).mono ?_
        rintro e w' ⟨rfl, rfl⟩
        go_wp2
        go_ret
        exact ⟨by rw [HD.out, HE.out, ← cat_arr]; rfl, rfl⟩
end Go.Proofs.YtbideikffodclaaDoor
