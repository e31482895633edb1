/- value.digits, the reference's number. -/
import Derived.Test.YtbideikffodclaaDoorDigV
namespace Go.Proofs.YtbideikffodclaaDoor
open Go.RowKit Go.Lib

theorem ret_two {a b : Int} {c d : Bool} (h : (a, c) = (b, d)) : Ending.returned (.tuple #[.int .i64 a, .bool c]) = .returned (.tuple #[.int .i64 b, .bool d]) := by
  simp only [Prod.mk.injEq] at h
  rw [h.1, h.2]
theorem head_at {s : ByteArray} (h : 0 < s.size) : s.data.toList.head? = some (s[0]'h) := by
  have hs : 0 < s.data.toList.length := by simpa using h
  rw [List.head?_eq_getElem?, List.getElem?_eq_getElem hs]
  rfl
theorem take_snoc_at {s : ByteArray} {i : Nat} (h : i < s.size) : s.data.toList.take (i + 1) = s.data.toList.take i ++ [s[i]] := by
  have hs : i < s.data.toList.length := by simpa using h
  rw [List.take_add_one, List.getElem?_eq_getElem hs]
  rfl
theorem byte_mem {s : ByteArray} {k : Nat} (h : k < s.size) : (s[k]'h) ∈ s.data.toList := by
  have hs : k < s.data.toList.length := by simpa using h
  have : s.data.toList[k] ∈ s.data.toList := List.getElem_mem hs
  exact this
theorem digR_bad {l : List UInt8} {below : Bool} (h : l = [] ∨ 20 ≤ l.length ∨ (l.head? = some 48 ∧ (1 < l.length ∨ below = true))) : digR l below = (0, false) := by rw [digR, if_pos h]
theorem digR_no {l : List UInt8} {below : Bool} (h : ¬ (l.all isD = true ∧ valN l ≤ limN below)) : digR l below = (0, false) := by
  unfold digR
  by_cases hb : l = [] ∨ 20 ≤ l.length ∨ (l.head? = some 48 ∧ (1 < l.length ∨ below = true))
  · rw [if_pos hb]
  · rw [if_neg hb, if_neg h]
theorem digR_good {l : List UInt8} {below : Bool} (h : ¬ (l = [] ∨ 20 ≤ l.length ∨ (l.head? = some 48 ∧ (1 < l.length ∨ below = true)))) (h2 : l.all isD = true) (h3 : valN l ≤ limN below) : digR l below = (sgnI below (valN l), true) := by
  rw [digR, if_neg h, if_pos ⟨h2, h3⟩]

theorem dig_over (v c : Nat) (hv : v ≤ 9223372036854775807) (h1 : 48 ≤ c) (h2 : c ≤ 57) (h3 : 9223372036854775807 < v * 10 + (c - 48)) (h4 : v * 10 + (c - 48) < 10000000000000000000) :
    ∃ X Q : Int, RowKit.wrap64 (RowKit.wrap64 ((v : Int) * 10) + ((c : Int) - 48)) = X ∧ X.tdiv 10 = Q ∧ -9223372036854775808 ≤ Q ∧ Q ≤ 0 ∧ RowKit.wrap64 Q = Q ∧ (Q == (v : Int)) = false ∧ X < 0 ∧ -9223372036854775808 ≤ X := by
  obtain ⟨Y, hY⟩ : ∃ Y : Nat, (Y : Int) = 18446744073709551616 - ((v : Int) * 10 + ((c : Int) - 48)) := ⟨(18446744073709551616 - ((v : Int) * 10 + ((c : Int) - 48))).toNat, by omega⟩
  refine ⟨-(Y : Int), -((Y / 10 : Nat) : Int), ?_, ?_, by omega, by omega, by unfold RowKit.wrap64; omega, beq_eq_false_iff_ne.2 (by omega), by omega, by omega⟩
  · unfold RowKit.wrap64
    omega
  · rw [Int.neg_tdiv, Int.tdiv_eq_ediv_of_nonneg (by omega)]
    rfl

set_option maxRecDepth 100000 in
set_option maxHeartbeats 2000000 in
theorem value_digits_plus (s : ByteArray) (w : World) :
    Calls Tryd.prog 40 #[.string s, .bool false] w fun e w' => e = .returned (.tuple #[.int .i64 (digR s.data.toList false).1, .bool (digR s.data.toList false).2]) ∧ w = w' := by
  have hsz : s.data.toList.length = s.size := by simp
  by_cases h0 : s.size = 0
  · obtain rfl : s = ⟨#[]⟩ := ByteArray.ext (Array.eq_empty_of_size_eq_zero h0)
    go_enter Tryd.func40, Tryd.ntmps40
    go_wp2
    go_ret2
    exact ⟨rfl, rfl⟩
  · have hp0 : 0 < s.size := by omega
    have hE : s.toList.isEmpty = false := by
      rw [Lib.toList_data]
      cases hl : s.data.toList with
      | nil => rw [hl] at hsz; simp at hsz; omega
      | cons a t => rfl
    by_cases h20 : 20 ≤ s.size
    · have HD : Hid (digR s.data.toList false = (0, false)) := Lib.hid (digR_bad (.inr (.inl (by omega))))
      have h20' : (20 : Int) ≤ (s.size : Int) := by omega
      clear hsz h0
      go_enter Tryd.func40, Tryd.ntmps40
      go_wp2
      go_ret2
      exact ⟨by rw [HD.out]; rfl, rfl⟩
    · have h20' : ¬ (20 : Int) ≤ (s.size : Int) := by omega
      by_cases h48 : (s[0]'hp0).toNat = 48 ∧ 1 < s.size
      · have HD : Hid (digR s.data.toList false = (0, false)) := Lib.hid (digR_bad (.inr (.inr ⟨by rw [head_at hp0]; exact congrArg some (UInt8.toNat_inj.1 h48.1), .inl (by omega)⟩)))
        have k1 : (((s[0]'hp0).toNat : Int) == 48) = true := by simp [h48.1]
        have k2 : (1 : Int) < (s.size : Int) := by omega
        clear hsz h0 h48
        go_enter Tryd.func40, Tryd.ntmps40
        go_wp2
        go_ret2
        exact ⟨by rw [HD.out]; rfl, rfl⟩
      · have HG := Lib.hid (digR_good (l := s.data.toList) (below := false) (by
          rintro (e | e | ⟨e, e2 | e2⟩)
          · rw [e] at hsz; simp at hsz; omega
          · omega
          · rw [head_at hp0] at e
            exact h48 ⟨by rw [Option.some.inj e]; rfl, by omega⟩
          · cases e2))
        have HL := Lib.hid hsz
        by_cases k48 : (s[0]'hp0).toNat = 48
        all_goals
          first
          | (have k1 : (((s[0]'hp0).toNat : Int) == 48) = true := by simp [k48]
             have k2 : decide ((1 : Int) < (s.size : Int)) = false := by have : ¬ 1 < s.size := fun e => h48 ⟨k48, e⟩
                                                                         simp; omega
             have k3 : True := trivial
             clear hsz h0 h48 k48)
          | (have k1 : (((s[0]'hp0).toNat : Int) == 48) = false := beq_eq_false_iff_ne.2 (by omega)
             have k2 : True := trivial
             have k3 : True := trivial
             clear hsz h0 h48 k48)
          go_enter Tryd.func40, Tryd.ntmps40
          go_wp2
          go_loop [6, 32] (fun n i => ∃ (k v : Nat), i = .int .i64 k ∧ n = .int .i64 v ∧ k ≤ s.size ∧ v ≤ 9223372036854775807 ∧ Hid ((s.data.toList.take k).all isD = true ∧ valN (s.data.toList.take k) = v)) (fun _ i => s.size - (RowKit.intOf i).toNat)
          case atStart => exact ⟨0, 0, rfl, rfl, by omega, by omega, Lib.hid ⟨by simp, rfl⟩⟩
          case round =>
            obtain ⟨k, v, rfl, rfl, hk, hv, H⟩ := hrel
            by_cases hp : k < s.size
            · have H2 := H.out
              have ht := take_snoc_at hp
              have hall : ∀ p, s.data.toList.all p = true → p (s[k]'hp) = true := fun p h => by
                have := List.all_eq_true.1 h (s[k]'hp) (byte_mem hp)
                exact this
              by_cases hc : 48 ≤ (s[k]'hp).toNat ∧ (s[k]'hp).toNat ≤ 57
              · have hcd : isD (s[k]'hp) = true := by unfold isD; simp; omega
                have hs2 : valN (s.data.toList.take (k + 1)) = v * 10 + ((s[k]'hp).toNat - 48) := by rw [ht, valN_snoc, H2.2]
                have ha2 : (s.data.toList.take (k + 1)).all isD = true := by rw [ht, List.all_append, H2.1]; simp [hcd]
                have hlt := valN_lt _ ha2
                have hlt' : valN (s.data.toList.take (k + 1)) < 10 ^ 19 := Nat.lt_of_lt_of_le hlt (Nat.pow_le_pow_right (by omega) (by rw [List.length_take]; omega))
                have hmono := valN_mono (s.data.toList.take (k + 1)) (s.data.toList.drop (k + 1))
                rw [List.take_append_drop] at hmono
                by_cases hb : v * 10 + ((s[k]'hp).toNat - 48) ≤ 9223372036854775807
                · have hcl := hc.1
                  have hch := hc.2
                  generalize hcn : (s[k]'hp).toNat = c at *
                  have hbI : (v : Int) * 10 + ((c : Int) - 48) ≤ 9223372036854775807 := by omega
                  have hbJ : (v : Int) * 10 ≤ 9223372036854775807 := by omega
                  have HN : Hid ((s.data.toList.take (k + 1)).all isD = true ∧ valN (s.data.toList.take (k + 1)) = v * 10 + (c - 48)) := Lib.hid ⟨ha2, hs2⟩
                  clear H2 ht hall hs2 ha2 hlt hlt' hmono hcd H
                  go_wp2
                  all_goals
                    go_round
                    case rel => exact ⟨k + 1, v * 10 + (c - 48), by go_num, congrArg (Value.int .i64) (by omega), by omega, by omega, HN.out⟩
                    case measure => simp [RowKit.intOf]; omega
                · have hcl := hc.1
                  have hch := hc.2
                  have HD : Hid (digR s.data.toList false = (0, false)) := Lib.hid (digR_no (fun h => by
                    have := h.2
                    unfold limN at this
                    simp at this
                    omega))
                  generalize hcn : (s[k]'hp).toNat = c at *
                  obtain ⟨X, Q, hN, hQt, hQ2, hQ3, hQw, hQv, hX1, hX2⟩ := dig_over v c hv hcl hch (by omega) (by omega)
                  clear H2 ht hall hs2 ha2 hlt hlt' hmono hcd H
                  go_wp2
                  go_ret2
                  exact ⟨by rw [HD.out]; rfl, rfl⟩
              · have HD : Hid (digR s.data.toList false = (0, false)) := Lib.hid (digR_no (fun h => hc (by have := hall _ h.1; unfold isD at this; simpa using this)))
                clear H2 ht hall HG HL H
                by_cases hc1 : (s[k]'hp).toNat < 48
                · clear hc
                  go_wp2
                  go_ret2
                  exact ⟨by rw [HD.out]; rfl, rfl⟩
                · have hc2 : 57 < (s[k]'hp).toNat := by omega
                  clear hc
                  go_wp2
                  go_ret2
                  exact ⟨by rw [HD.out]; rfl, rfl⟩
            · have HV : Hid (digR s.data.toList false = ((v : Int), true)) := Lib.hid (by
                have H2 := H.out
                rw [List.take_of_length_le (by rw [HL.out]; omega)] at H2
                rw [HG.out H2.1 (by rw [H2.2]; exact hv), H2.2]
                rfl)
              clear H HG HL
              go_wp2
              go_ret2
              exact ⟨by rw [HV.out]; rfl, rfl⟩
end Go.Proofs.YtbideikffodclaaDoor
