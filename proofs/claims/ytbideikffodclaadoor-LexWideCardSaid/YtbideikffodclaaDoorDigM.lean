/- value.digits of a number below 0. -/
import Derived.Test.YtbideikffodclaaDoorDigN
namespace Go.Proofs.YtbideikffodclaaDoor
open Go.RowKit Go.Lib

theorem dig_good (v c : Nat) (h1 : 48 ≤ c) (h2 : c ≤ 57) (h3 : v * 10 + (c - 48) ≤ 9223372036854775808) :
    ∃ X : Int, -(v : Int) * 10 + -((c : Int) - 48) = X ∧ -9223372036854775808 ≤ -(v : Int) * 10 ∧ -9223372036854775808 ≤ -(v : Int) * 10 + -((c : Int) - 48) ∧ -9223372036854775808 ≤ X ∧ X ≤ 0 ∧ X.tdiv 10 = -(v : Int) ∧ -9223372036854775808 ≤ -(v : Int) := by
  refine ⟨_, rfl, by omega, by omega, by omega, by omega, ?_, by omega⟩
  rw [show -(v : Int) * 10 + -((c : Int) - 48) = -((v : Int) * 10 + ((c : Int) - 48)) by omega, Int.neg_tdiv, Int.tdiv_eq_ediv_of_nonneg (by omega)]
  omega
theorem dig_under (v c : Nat) (hv : v ≤ 9223372036854775808) (h1 : 48 ≤ c) (h2 : c ≤ 57) (h3 : 9223372036854775808 < v * 10 + (c - 48)) (h4 : v * 10 + (c - 48) < 10000000000000000000) :
    ∃ X Q : Int, RowKit.wrap64 (RowKit.wrap64 (-(v : Int) * 10) + -((c : Int) - 48)) = X ∧ X / 10 = Q ∧ 0 ≤ Q ∧ Q ≤ 9223372036854775807 ∧ RowKit.wrap64 Q = Q ∧ (Q == -(v : Int)) = false ∧ 0 < X ∧ X ≤ 9223372036854775807 := by
  obtain ⟨Y, hY⟩ : ∃ Y : Nat, (Y : Int) = 18446744073709551616 - ((v : Int) * 10 + ((c : Int) - 48)) := ⟨(18446744073709551616 - ((v : Int) * 10 + ((c : Int) - 48))).toNat, by omega⟩
  refine ⟨(Y : Int), ((Y / 10 : Nat) : Int), ?_, rfl, by omega, by omega, by unfold RowKit.wrap64; omega, beq_eq_false_iff_ne.2 (by omega), by omega, by omega⟩
  unfold RowKit.wrap64
  omega

set_option maxRecDepth 100000 in
set_option maxHeartbeats 2000000 in
theorem value_digits_minus (s : ByteArray) (w : World) :
    Calls Tryd.prog 40 #[.string s, .bool true] w fun e w' => e = .returned (.tuple #[.int .i64 (digR s.data.toList true).1, .bool (digR s.data.toList true).2]) ∧ w = w' := by
  have hsz : s.data.toList.length = s.size := by simp
  by_cases h0 : s.size = 0
  · obtain rfl : s = ⟨#[]⟩ := ByteArray.ext (Array.eq_empty_of_size_eq_zero h0)
    go_enter Tryd.func40, Tryd.ntmps40
    go_wp2
    go_ret2
    exact ⟨rfl, rfl⟩
  · have hp0 : 0 < s.size := by omega
    have hE : s.toList.isEmpty = false := by
      rw [Lib.toList_data]
      cases hl : s.data.toList with
      | nil => rw [hl] at hsz; simp at hsz; omega
      | cons a t => rfl
    by_cases h20 : 20 ≤ s.size
    · have HD : Hid (digR s.data.toList true = (0, false)) := Lib.hid (digR_bad (.inr (.inl (by rw [hsz]; exact h20))))
      have h20' : (20 : Int) ≤ (s.size : Int) := by omega
      clear hsz h0
      go_enter Tryd.func40, Tryd.ntmps40
      go_wp2
      go_ret2
      exact ⟨by rw [HD.out]; rfl, rfl⟩
    · have h20' : ¬ (20 : Int) ≤ (s.size : Int) := by omega
      by_cases h48 : (s[0]'hp0).toNat = 48
      · have HD : Hid (digR s.data.toList true = (0, false)) := Lib.hid (digR_bad (.inr (.inr ⟨by rw [head_at hp0]; exact congrArg some (UInt8.toNat_inj.1 h48), .inr rfl⟩)))
        have k1 : (((s[0]'hp0).toNat : Int) == 48) = true := by simp [h48]
        clear hsz h0 h48
        go_enter Tryd.func40, Tryd.ntmps40
        go_wp2
        all_goals
          go_ret2
          exact ⟨by rw [HD.out]; rfl, rfl⟩
      · have HG := Lib.hid (digR_good (l := s.data.toList) (below := true) (by
          rintro (e | e | ⟨e, _⟩)
          · rw [e] at hsz; simp at hsz; omega
          · omega
          · rw [head_at hp0] at e
            exact h48 (by rw [Option.some.inj e]; rfl)))
        have HL := Lib.hid hsz
        have k1 : (((s[0]'hp0).toNat : Int) == 48) = false := beq_eq_false_iff_ne.2 (by omega)
        clear hsz h0 h48
        iterate 1
          go_enter Tryd.func40, Tryd.ntmps40
          go_wp2
          go_loop [6, 32] (fun n i => ∃ (k v : Nat), i = .int .i64 k ∧ n = .int .i64 (-(v : Int)) ∧ k ≤ s.size ∧ v ≤ 9223372036854775808 ∧ Hid ((s.data.toList.take k).all isD = true ∧ valN (s.data.toList.take k) = v)) (fun _ i => s.size - (RowKit.intOf i).toNat)
          case atStart => exact ⟨0, 0, rfl, rfl, by omega, by omega, Lib.hid ⟨by simp, rfl⟩⟩
          case round =>
            obtain ⟨k, v, rfl, rfl, hk, hv, H⟩ := hrel
            by_cases hp : k < s.size
            · have H2 := H.out
              have ht := take_snoc_at hp
              have hall : ∀ p, s.data.toList.all p = true → p (s[k]'hp) = true := fun p h => by
                have := List.all_eq_true.1 h (s[k]'hp) (byte_mem hp)
                exact this
              by_cases hc : 48 ≤ (s[k]'hp).toNat ∧ (s[k]'hp).toNat ≤ 57
              · have hcd : isD (s[k]'hp) = true := by unfold isD; simp; omega
                have hs2 : valN (s.data.toList.take (k + 1)) = v * 10 + ((s[k]'hp).toNat - 48) := by rw [ht, valN_snoc, H2.2]
                have ha2 : (s.data.toList.take (k + 1)).all isD = true := by rw [ht, List.all_append, H2.1]; simp [hcd]
                have hlt := valN_lt _ ha2
                have hlt' : valN (s.data.toList.take (k + 1)) < 10 ^ 19 := Nat.lt_of_lt_of_le hlt (Nat.pow_le_pow_right (by omega) (by rw [List.length_take]; omega))
                have hmono := valN_mono (s.data.toList.take (k + 1)) (s.data.toList.drop (k + 1))
                rw [List.take_append_drop] at hmono
                by_cases hb : v * 10 + ((s[k]'hp).toNat - 48) ≤ 9223372036854775808
                · have hcl := hc.1
                  have hch := hc.2
                  generalize hcn : (s[k]'hp).toNat = c at *
                  have HN : Hid ((s.data.toList.take (k + 1)).all isD = true ∧ valN (s.data.toList.take (k + 1)) = v * 10 + (c - 48)) := Lib.hid ⟨ha2, hs2⟩
                  obtain ⟨X, hS, hbJ, hbI, hX2, hX1, hQt, hQ2⟩ := dig_good v c hcl hch hb
                  clear H2 ht hall hs2 ha2 hlt hlt' hmono hcd H
                  by_cases hX0 : X = 0
                  · subst hX0
                    have hv0 : v = 0 := by omega
                    have hc48 : c = 48 := by omega
                    subst hv0
                    subst hc48
                    go_wp2
                    go_round
                    case rel => exact ⟨k + 1, 0, by go_num, rfl, by omega, by omega, HN.out⟩
                    case measure => simp [RowKit.intOf]; omega
                  · have hXn : X < 0 := by omega
                    have HS := Lib.hid hS
                    go_wp2
                    go_round
                    case rel => exact ⟨k + 1, v * 10 + (c - 48), by go_num, congrArg (Value.int .i64) (by have := HS.out; omega), by omega, by omega, HN.out⟩
                    case measure => simp [RowKit.intOf]; omega
                · have hcl := hc.1
                  have hch := hc.2
                  have HD : Hid (digR s.data.toList true = (0, false)) := Lib.hid (digR_no (fun h => by
                    have := h.2
                    unfold limN at this
                    simp at this
                    omega))
                  generalize hcn : (s[k]'hp).toNat = c at *
                  obtain ⟨X, Q, hN, hQt, hQ2, hQ3, hQw, hQv, hX1, hX2⟩ := dig_under v c hv hcl hch (by omega) (by omega)
                  clear H2 ht hall hs2 ha2 hlt hlt' hmono hcd H
                  go_wp2
                  go_ret2
                  exact ⟨by rw [HD.out]; rfl, rfl⟩
              · have HD : Hid (digR s.data.toList true = (0, false)) := Lib.hid (digR_no (fun h => hc (by have := hall _ h.1; unfold isD at this; simpa using this)))
                clear H2 ht hall HG HL H
                by_cases hc1 : (s[k]'hp).toNat < 48
                · clear hc
                  go_wp2
                  go_ret2
                  exact ⟨by rw [HD.out]; rfl, rfl⟩
                · have hc2 : 57 < (s[k]'hp).toNat := by omega
                  clear hc
                  go_wp2
                  go_ret2
                  exact ⟨by rw [HD.out]; rfl, rfl⟩
            · have HV : Hid (digR s.data.toList true = (-(v : Int), true)) := Lib.hid (by
                have H2 := H.out
                rw [List.take_of_length_le (by rw [HL.out]; omega)] at H2
                rw [HG.out H2.1 (by rw [H2.2]; exact hv), H2.2]
                rfl)
              clear H HG HL
              go_wp2
              go_ret2
              exact ⟨by rw [HV.out]; rfl, rfl⟩
end Go.Proofs.YtbideikffodclaaDoor
