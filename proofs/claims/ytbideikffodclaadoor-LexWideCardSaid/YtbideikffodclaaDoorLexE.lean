/- regestaref10: letter, digit, run. -/
import Derived.Test.YtbideikffodclaaDoorLexD
namespace Go.Proofs.YtbideikffodclaaDoor
open Go.RowKit Go.Lib

set_option maxHeartbeats 1000000 in
theorem ref_letter (r : Int) (w : World) :
    Calls Tryd.prog 26 #[.int .u8 r] w fun e w' => e = .returned (.bool (ltrI r)) ∧ w = w' := by
  by_cases h1 : 97 ≤ r <;> by_cases h2 : r ≤ 122 <;> by_cases h3 : 65 ≤ r <;> by_cases h4 : r ≤ 90
  all_goals first
    | (exfalso; omega)
    | (have H : Hid (ltrI r = decide (97 ≤ r ∧ r ≤ 122 ∨ 65 ≤ r ∧ r ≤ 90)) := Lib.hid (by unfold ltrI; rw [Bool.eq_iff_iff]; simp)
       rw [H.out]
       go_enter Tryd.func26, Tryd.ntmps26
       go_wp2
       go_ret
       exact ⟨ret_bool (by simp [h1, h2, h3, h4]), rfl⟩)

set_option maxHeartbeats 1000000 in
theorem ref_digit (r : Int) (w : World) :
    Calls Tryd.prog 29 #[.int .u8 r] w fun e w' => e = .returned (.bool (digI r)) ∧ w = w' := by
  by_cases h1 : 48 ≤ r <;> by_cases h2 : r ≤ 57
  all_goals first
    | (exfalso; omega)
    | (have H : Hid (digI r = decide (48 ≤ r ∧ r ≤ 57)) := Lib.hid (by unfold digI; rw [Bool.eq_iff_iff]; simp)
       rw [H.out]
       go_enter Tryd.func29, Tryd.ntmps29
       go_wp2
       go_ret
       exact ⟨ret_bool (by simp [h1, h2]), rfl⟩)


set_option maxRecDepth 100000 in
set_option maxHeartbeats 2000000 in
theorem ref_run_digit (s : ByteArray) (w : World) (hs : s.size ≤ 1000000) :
    Calls Tryd.prog 27 #[.string s, .bool false] w fun e w' => e = .returned (.int .i64 (runN isD s.data.toList)) ∧ w = w' := by
  obtain ⟨ANS, hANS⟩ : ∃ a, a = runN isD s.data.toList := ⟨_, rfl⟩
  rw [← hANS]
  have HA := Lib.hid hANS
  clear hANS
  go_enter Tryd.func27, Tryd.ntmps27
  go_wp2
  go_loop [5] (fun t => ∃ k : Nat, t = .int .i64 k ∧ k ≤ s.size ∧ Hid ((s.data.toList.take k).all isD = true)) (fun t => s.size - (RowKit.intOf t).toNat)
  case atStart => exact ⟨0, rfl, by omega, Lib.hid (by simp)⟩
  case round =>
    obtain ⟨k, rfl, hk, H⟩ := hrel
    by_cases hp : k < s.size
    · have HD := Lib.hid (fun w => ref_digit ((s[k]'hp).toNat : Int) w)
      have HL := Lib.hid (fun w => ref_letter ((s[k]'hp).toNat : Int) w)
      rw [digI_B] at HD
      rw [ltrI_B] at HL
      have HN : isD (s[k]'hp) = true → Hid ((s.data.toList.take (k + 1)).all isD = true) := fun hc => Lib.hid (by rw [take_snoc_at hp, List.all_append, H.out]; simp [hc])
      have HV : isD (s[k]'hp) = false → Hid (ANS = k) := fun hc => Lib.hid (by rw [HA.out]; exact runN_stop hp H.out hc)
      cases hd : isD (s[k]'hp) with
      | true =>
        have H3 := HN hd
        rw [hd] at HD
        clear HN HV hd HL H HA
        go_wp2_with fail
        refine (HD.out _).mono ?_
        rintro e w' ⟨rfl, rfl⟩
        go_wp2
        go_round
        case rel => exact ⟨k + 1, by go_num, by omega, H3⟩
        case measure => simp [RowKit.intOf]; omega
      | false =>
        have H3 := HV hd
        rw [hd] at HD
        clear HN HV hd HL H HA
        go_wp2_with fail
        refine (HD.out _).mono ?_
        rintro e w' ⟨rfl, rfl⟩
        go_wp2
        go_ret
        exact ⟨by rw [H3.out]; rfl, rfl⟩

    · have HV : Hid (ANS = k) := Lib.hid (by
        have H2 := H.out
        rw [List.take_of_length_le (by simp; omega)] at H2
        rw [HA.out, runN_all H2]; simp; omega)
      clear H HA
      go_wp2
      go_ret
      exact ⟨by rw [HV.out]; rfl, rfl⟩

set_option maxRecDepth 100000 in
set_option maxHeartbeats 2000000 in
theorem ref_run_word (s : ByteArray) (w : World) (hs : s.size ≤ 1000000) :
    Calls Tryd.prog 27 #[.string s, .bool true] w fun e w' => e = .returned (.int .i64 (runN wordB s.data.toList)) ∧ w = w' := by
  obtain ⟨ANS, hANS⟩ : ∃ a, a = runN wordB s.data.toList := ⟨_, rfl⟩
  rw [← hANS]
  have HA := Lib.hid hANS
  clear hANS
  go_enter Tryd.func27, Tryd.ntmps27
  go_wp2
  go_loop [5] (fun t => ∃ k : Nat, t = .int .i64 k ∧ k ≤ s.size ∧ Hid ((s.data.toList.take k).all wordB = true)) (fun t => s.size - (RowKit.intOf t).toNat)
  case atStart => exact ⟨0, rfl, by omega, Lib.hid (by simp)⟩
  case round =>
    obtain ⟨k, rfl, hk, H⟩ := hrel
    by_cases hp : k < s.size
    · have HD := Lib.hid (fun w => ref_digit ((s[k]'hp).toNat : Int) w)
      have HL := Lib.hid (fun w => ref_letter ((s[k]'hp).toNat : Int) w)
      rw [digI_B] at HD
      rw [ltrI_B] at HL
      have HN : wordB (s[k]'hp) = true → Hid ((s.data.toList.take (k + 1)).all wordB = true) := fun hc => Lib.hid (by rw [take_snoc_at hp, List.all_append, H.out]; simp [hc])
      have HV : wordB (s[k]'hp) = false → Hid (ANS = k) := fun hc => Lib.hid (by rw [HA.out]; exact runN_stop hp H.out hc)
      have h95 : (((s[k]'hp).toNat : Int) == 95) = ((s[k]'hp) == 95) := by
        by_cases hc : (s[k]'hp) = 95
        · rw [hc]; rfl
        · have : ¬ (s[k]'hp).toNat = 95 := fun e => hc (UInt8.toNat_inj.1 e)
          rw [beq_eq_false_iff_ne.2 hc]
          exact beq_eq_false_iff_ne.2 (by omega)
      cases hd : isD (s[k]'hp) with
      | true =>
        have H3 := HN (by unfold wordB; rw [hd]; simp)
        rw [hd] at HD
        clear HN HV hd HL H HA h95
        go_wp2_with fail
        refine (HD.out _).mono ?_
        rintro e w' ⟨rfl, rfl⟩
        go_wp2
        go_round
        case rel => exact ⟨k + 1, by go_num, by omega, H3⟩
        case measure => simp [RowKit.intOf]; omega
      | false =>
        rw [hd] at HD
        cases hl : letB (s[k]'hp) with
        | true =>
          have H3 := HN (by unfold wordB; rw [hl]; simp)
          rw [hl] at HL
          clear HN HV hd hl H HA h95
          go_wp2_with fail
          refine (HD.out _).mono ?_
          rintro e w' ⟨rfl, rfl⟩
          go_wp2_with fail
          refine (HL.out _).mono ?_
          rintro e w' ⟨rfl, rfl⟩
          go_wp2
          go_round
          case rel => exact ⟨k + 1, by go_num, by omega, H3⟩
          case measure => simp [RowKit.intOf]; omega
        | false =>
          rw [hl] at HL
          cases hu : ((s[k]'hp) == 95) with
          | true =>
            have H3 := HN (by unfold wordB; rw [hu]; simp)
            rw [hu] at h95
            clear HN HV hd hl hu H HA
            go_wp2_with fail
            refine (HD.out _).mono ?_
            rintro e w' ⟨rfl, rfl⟩
            go_wp2_with fail
            refine (HL.out _).mono ?_
            rintro e w' ⟨rfl, rfl⟩
            go_wp2
            go_round
            case rel => exact ⟨k + 1, by go_num, by omega, H3⟩
            case measure => simp [RowKit.intOf]; omega
          | false =>
            have H3 := HV (by unfold wordB; rw [hd, hl, hu]; rfl)
            rw [hu] at h95
            clear HN HV hd hl hu H HA
            go_wp2_with fail
            refine (HD.out _).mono ?_
            rintro e w' ⟨rfl, rfl⟩
            go_wp2_with fail
            refine (HL.out _).mono ?_
            rintro e w' ⟨rfl, rfl⟩
            go_wp2
            go_ret
            exact ⟨by rw [H3.out]; rfl, rfl⟩

    · have HV : Hid (ANS = k) := Lib.hid (by
        have H2 := H.out
        rw [List.take_of_length_le (by simp; omega)] at H2
        rw [HA.out, runN_all H2]; simp; omega)
      clear H HA
      go_wp2
      go_ret
      exact ⟨by rw [HV.out]; rfl, rfl⟩
end Go.Proofs.YtbideikffodclaaDoor
