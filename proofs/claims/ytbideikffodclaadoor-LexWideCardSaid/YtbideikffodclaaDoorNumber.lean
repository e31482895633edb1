/- The reference's number. -/
import Derived.Test.YtbideikffodclaaDoorDigM
namespace Go.Proofs.YtbideikffodclaaDoor
open Go.RowKit Go.Lib

theorem numStep_range (neg : Bool) (a : Int) (c : UInt8) (h1 : -9223372036854775808 ≤ a) (h2 : a ≤ 9223372036854775807) : -9223372036854775808 ≤ numStep neg a c ∧ numStep neg a c ≤ 9223372036854775807 := by
  unfold numStep
  split
  · rw [IntKind.wrap_i64]; omega
  · exact ⟨h1, h2⟩
theorem numFold_range (neg : Bool) (l : List UInt8) : -9223372036854775808 ≤ l.foldl (numStep neg) 0 ∧ l.foldl (numStep neg) 0 ≤ 9223372036854775807 := by
  induction l using snoc_ind with
  | h0 => exact ⟨by simp, by simp⟩
  | h1 l c ih =>
    rw [List.foldl_append]
    exact numStep_range neg _ c ih.1 ih.2
theorem numR_range (l : List UInt8) : -9223372036854775808 ≤ numR l ∧ numR l ≤ 9223372036854775807 := numFold_range _ _

set_option maxRecDepth 100000 in
set_option maxHeartbeats 2000000 in
theorem ref_number (s : ByteArray) (w : World) (hsz : s.size ≤ 9223372036854775807) :
    Calls Tryd.prog 37 #[.string s] w fun e w' => e = .returned (.int .i64 (numR s.data.toList)) ∧ w = w' := by
  obtain ⟨neg, hneg⟩ : ∃ b, b = (s.data.toList.head? == some 45) := ⟨_, rfl⟩
  obtain ⟨R, hR⟩ : ∃ R, R = numR s.data.toList := ⟨_, rfl⟩
  have hRl : R = (s.data.toList.take 25).foldl (numStep neg) 0 := by rw [hR, numR, ← hneg]
  rw [← hR]
  have HR := Lib.hid hRl
  have HN := Lib.hid hneg
  clear hR hRl hneg
  go_enter Tryd.func37, Tryd.ntmps37
  go_wp2
  go_loop [3, 4] (fun n i => ∃ (k : Nat) (a : Int), i = .int .i64 k ∧ n = .int .i64 a ∧ k ≤ s.size ∧ k ≤ 25 ∧ -9223372036854775808 ≤ a ∧ a ≤ 9223372036854775807 ∧ Hid (a = (s.data.toList.take k).foldl (numStep neg) 0)) (fun _ i => s.size - (RowKit.intOf i).toNat)
  case atStart => exact ⟨0, 0, rfl, rfl, by omega, by omega, by omega, by omega, Lib.hid rfl⟩
  case round =>
    obtain ⟨k, a, rfl, rfl, hk, hk25, ha1, ha2, H⟩ := hrel
    by_cases hp : k < s.size
    · by_cases h25 : k < 25
      · have hp0 : 0 < s.size := by omega
        have hst : (s.data.toList.take (k + 1)).foldl (numStep neg) 0 = numStep neg a (s[k]'hp) := by
          rw [take_snoc_at hp, List.foldl_append, ← H.out]; rfl
        have hnr := numStep_range neg a (s[k]'hp) ha1 ha2
        have hh := HN.out
        rw [head_at hp0] at hh
        by_cases hc : 48 ≤ (s[k]'hp).toNat ∧ (s[k]'hp).toNat ≤ 57
        · have hcd : isD (s[k]'hp) = true := by unfold isD; simp; omega
          have hcl := hc.1
          have hch := hc.2
          by_cases h45 : (s[0]'hp0).toNat = 45
          · have hn1 : neg = true := by rw [hh, show s[0]'hp0 = 45 from UInt8.toNat_inj.1 h45]; rfl
            have k45 : (((s[0]'hp0).toNat : Int) == 45) = true := by simp [h45]
            rw [hn1, numStep, if_pos hcd, if_pos rfl, IntWalk.i64_left, IntWalk.i64_left] at hst
            rw [hn1, numStep, if_pos hcd, if_pos rfl, IntWalk.i64_left, IntWalk.i64_left] at hnr
            rw [← hn1] at hst
            generalize hcn : (s[k]'hp).toNat = c at *
            have HS := Lib.hid hst
            have hr1 := hnr.1
            have hr2 := hnr.2
            clear hst hh h45 hcd hn1 H hnr hc
            go_wp2
            go_round
            case rel => exact ⟨k + 1, _, by go_num, rfl, by omega, by omega, hr1, hr2, Lib.hid HS.out.symm⟩
            case measure => simp [RowKit.intOf]; omega
          · have hn1 : neg = false := by
              rw [hh]
              apply beq_eq_false_iff_ne.2
              intro e
              exact h45 (by rw [Option.some.inj e]; rfl)
            have k45 : (((s[0]'hp0).toNat : Int) == 45) = false := beq_eq_false_iff_ne.2 (by omega)
            rw [hn1, numStep, if_pos hcd, if_neg (by decide), IntWalk.i64_left, IntWalk.i64_left] at hst
            rw [hn1, numStep, if_pos hcd, if_neg (by decide), IntWalk.i64_left, IntWalk.i64_left] at hnr
            rw [← hn1] at hst
            generalize hcn : (s[k]'hp).toNat = c at *
            have HS := Lib.hid hst
            have hr1 := hnr.1
            have hr2 := hnr.2
            clear hst hh h45 hcd hn1 H hnr hc
            go_wp2
            go_round
            case rel => exact ⟨k + 1, _, by go_num, rfl, by omega, by omega, hr1, hr2, Lib.hid HS.out.symm⟩
            case measure => simp [RowKit.intOf]; omega
        · have HS : Hid (a = (s.data.toList.take (k + 1)).foldl (numStep neg) 0) := Lib.hid (by
            rw [hst, numStep, if_neg]
            unfold isD
            simp
            omega)
          clear hst hh H hnr
          by_cases hc1 : (s[k]'hp).toNat < 48
          · clear hc
            go_wp2
            go_round
            case rel => exact ⟨k + 1, a, by go_num, rfl, by omega, by omega, ha1, ha2, HS⟩
            case measure => simp [RowKit.intOf]; omega
          · have hc2 : 57 < (s[k]'hp).toNat := by omega
            have hc3 : 48 ≤ (s[k]'hp).toNat := by omega
            clear hc
            go_wp2
            go_round
            case rel => exact ⟨k + 1, a, by go_num, rfl, by omega, by omega, ha1, ha2, HS⟩
            case measure => simp [RowKit.intOf]; omega
      · have HV : Hid (R = a) := Lib.hid (by rw [HR.out, H.out, show k = 25 by omega])
        clear H
        go_wp2
        go_ret
        exact ⟨by rw [HV.out]; rfl, rfl⟩
    · have HV : Hid (R = a) := Lib.hid (by
        have hl : s.data.toList.length = s.size := by simp
        rw [HR.out, H.out, List.take_of_length_le (by omega), List.take_of_length_le (by omega)])
      clear H
      go_wp2
      go_ret
      exact ⟨by rw [HV.out]; rfl, rfl⟩
end Go.Proofs.YtbideikffodclaaDoor
