/- The reference's Name. -/
import Derived.Test.YtdcdglbliemnkaaDoorRefKey
namespace Go.Proofs.YtdcdglbliemnkaaDoor
open Go.RowKit Go.Lib

theorem lttB_yes {c : UInt8} (h1 : 97 ≤ c.toNat) (h2 : c.toNat ≤ 122) : lttB c = true := by
  unfold lttB lttI
  rw [decide_eq_true (show (97 : Int) ≤ (c.toNat : Int) by omega), decide_eq_true (show (c.toNat : Int) ≤ 122 by omega)]; rfl
theorem lttB_no {c : UInt8} (h : c.toNat < 97 ∨ 122 < c.toNat) : lttB c = false := by
  unfold lttB lttI
  rcases h with h | h
  · rw [decide_eq_false (show ¬ (97 : Int) ≤ (c.toNat : Int) by omega)]; rfl
  · rw [decide_eq_false (show ¬ (c.toNat : Int) ≤ 122 by omega)]; simp
theorem furB_eq (c : UInt8) : furB c = (lttB c || (decide (48 ≤ (c.toNat : Int)) && decide ((c.toNat : Int) ≤ 57)) || ((c.toNat : Int) == 95)) := rfl

set_option maxHeartbeats 2000000 in
theorem ref_name (s : ByteArray) (w : World) (hs : s.size ≤ 4611686018427387904) (hE : Env w) :
    Calls Tryd.prog 28 #[.string s] w fun e w' => e = .returned (.bool (nameB s)) ∧ Below w.heap.size w w' := by
  by_cases h0 : s.size < 1
  · have H : Hid (nameB s = false) := Lib.hid (by unfold nameB; rw [decide_eq_false (show ¬ 1 ≤ s.size by omega)]; rfl)
    go_enter Tryd.func28, Tryd.ntmps28
    go_wp2
    go_ret
    exact ⟨ret_bool H.out.symm, Below.refl _ _⟩
  · by_cases h8 : 8 < s.size
    · have H : Hid (nameB s = false) := Lib.hid (by unfold nameB; rw [decide_eq_false (show ¬ s.size ≤ 8 by omega)]; simp)
      go_enter Tryd.func28, Tryd.ntmps28
      go_wp2
      go_ret
      exact ⟨ret_bool H.out.symm, Below.refl _ _⟩
    · have HK := Lib.hid (ref_key s)
      cases hk : keyB s with
      | true =>
        have H : Hid (nameB s = false) := Lib.hid (by unfold nameB; rw [hk]; simp)
        have HK2 := Lib.hid hk
        clear hk
        go_enter Tryd.func28, Tryd.ntmps28
        go_wp2_with fail
        refine (HK.out _ hE).mono ?_
        rintro e w1 ⟨rfl, hb1⟩
        rw [HK2.out]
        go_wp2
        go_ret
        exact ⟨ret_bool H.out.symm, hb1⟩
      | false =>
        have HK2 := Lib.hid hk
        obtain ⟨ANS, hA⟩ : ∃ a, nameAt s.data.toList 0 = a := ⟨_, rfl⟩
        have H : Hid (nameB s = ANS) := Lib.hid (by unfold nameB; rw [decide_eq_true (show 1 ≤ s.size by omega), decide_eq_true (show s.size ≤ 8 by omega), hk, ← hA]; rfl)
        have HA := Lib.hid hA
        clear hk hA
        go_enter Tryd.func28, Tryd.ntmps28
        go_wp2_with fail
        refine (HK.out _ hE).mono ?_
        rintro e w1 ⟨rfl, hb1⟩
        rw [HK2.out]
        clear HK HK2
        go_wp2
        go_loopw [3] (fun t wr => ∃ i : Nat, t = .int .i64 i ∧ i ≤ s.size ∧ Hid (nameAt s.data.toList i = ANS) ∧ wr = w1) (fun t _ => s.size - (RowKit.intOf t).toNat)
        case atStart => exact ⟨0, rfl, by omega, HA, rfl⟩
        case round =>
          obtain ⟨i, rfl, hi, HN, rfl⟩ := hrel
          by_cases hp : i < s.size
          · have hst := nameAt_step hp
            rw [HN.out, furB_eq] at hst
            by_cases hl : 97 ≤ (s[i]'hp).toNat ∧ (s[i]'hp).toNat ≤ 122
            · obtain ⟨l1, l2⟩ := hl
              rw [lttB_yes l1 l2] at hst
              have H3 : Hid (nameAt s.data.toList (i + 1) = ANS) := Lib.hid (by rw [hst]; simp)
              clear hst
              go_wp2
              go_roundw
              case rel => exact ⟨i + 1, by go_num, by omega, H3, trivial⟩
              case measure => simp [RowKit.intOf]; omega
            · rw [lttB_no (by omega)] at hst
              by_cases hz : i = 0
              · have H3 : Hid (false = nameB s) := Lib.hid (by rw [H.out, hst, decide_eq_false (show ¬ (i ≠ 0) from fun h => h hz)]; rfl)
                subst hz
                rcases (show (s[0]'hp).toNat < 97 ∨ (97 ≤ (s[0]'hp).toNat ∧ 122 < (s[0]'hp).toNat) by omega) with h1 | ⟨h1, h2⟩
                · clear hst hl
                  go_wp2
                  go_ret
                  exact ⟨ret_bool H3.out, hb1⟩
                · have h2' : ¬ ((s[0]'hp).toNat : Int) ≤ 122 := by omega
                  have h2d : decide (((s[0]'hp).toNat : Int) ≤ 122) = false := decide_eq_false h2'
                  clear hst hl
                  go_wp2
                  go_ret
                  exact ⟨ret_bool H3.out, hb1⟩
              · have hz' : ((i : Int) == 0) = false := beq_eq_false_iff_ne.2 (by omega)
                rw [decide_eq_true hz] at hst
                rcases (show ((s[i]'hp).toNat < 97 ∧ (s[i]'hp).toNat = 95) ∨ ((s[i]'hp).toNat < 97 ∧ (s[i]'hp).toNat < 48) ∨ ((s[i]'hp).toNat < 97 ∧ 48 ≤ (s[i]'hp).toNat ∧ (s[i]'hp).toNat ≤ 57) ∨ ((s[i]'hp).toNat < 97 ∧ 57 < (s[i]'hp).toNat ∧ (s[i]'hp).toNat ≠ 95) ∨ (97 ≤ (s[i]'hp).toNat ∧ 122 < (s[i]'hp).toNat) by omega) with ⟨h1, h2⟩ | ⟨h1, h2⟩ | ⟨h1, h2, h3⟩ | ⟨h1, h2, h3⟩ | ⟨h1, h2⟩
                · have e95 : (((s[i]'hp).toNat : Int) == 95) = true := by rw [h2]; rfl
                  have n95 : (((s[i]'hp).toNat : Int) != 95) = false := by rw [h2]; rfl
                  have H3 : Hid (nameAt s.data.toList (i + 1) = ANS) := Lib.hid (by rw [hst, e95]; simp)
                  clear hst hl h2
                  go_wp2
                  go_roundw
                  case rel => exact ⟨i + 1, by go_num, by omega, H3, trivial⟩
                  case measure => simp [RowKit.intOf]; omega
                · have e95 : (((s[i]'hp).toNat : Int) == 95) = false := beq_eq_false_iff_ne.2 (by omega)
                  have n95 : (((s[i]'hp).toNat : Int) != 95) = true := by rw [bne_iff_ne]; omega
                  have H3 : Hid (false = nameB s) := Lib.hid (by rw [H.out, hst, e95, decide_eq_false (show ¬ (48 : Int) ≤ ((s[i]'hp).toNat : Int) by omega)]; simp)
                  clear hst hl
                  go_wp2
                  go_ret
                  exact ⟨ret_bool H3.out, hb1⟩
                · have e95 : (((s[i]'hp).toNat : Int) == 95) = false := beq_eq_false_iff_ne.2 (by omega)
                  have n95 : (((s[i]'hp).toNat : Int) != 95) = true := by rw [bne_iff_ne]; omega
                  have H3 : Hid (nameAt s.data.toList (i + 1) = ANS) := Lib.hid (by rw [hst, e95, decide_eq_true (show (48 : Int) ≤ ((s[i]'hp).toNat : Int) by omega), decide_eq_true (show ((s[i]'hp).toNat : Int) ≤ 57 by omega)]; simp)
                  clear hst hl
                  go_wp2
                  go_roundw
                  case rel => exact ⟨i + 1, by go_num, by omega, H3, trivial⟩
                  case measure => simp [RowKit.intOf]; omega
                · have e95 : (((s[i]'hp).toNat : Int) == 95) = false := beq_eq_false_iff_ne.2 (by omega)
                  have n95 : (((s[i]'hp).toNat : Int) != 95) = true := by rw [bne_iff_ne]; omega
                  have H3 : Hid (false = nameB s) := Lib.hid (by rw [H.out, hst, e95, decide_eq_false (show ¬ ((s[i]'hp).toNat : Int) ≤ 57 by omega)]; simp)
                  have h48 : ¬ (s[i]'hp).toNat < 48 := by omega
                  clear h3
                  clear hst hl
                  go_wp2
                  go_ret
                  exact ⟨ret_bool H3.out, hb1⟩
                · have e95 : (((s[i]'hp).toNat : Int) == 95) = false := beq_eq_false_iff_ne.2 (by omega)
                  have n95 : (((s[i]'hp).toNat : Int) != 95) = true := by rw [bne_iff_ne]; omega
                  have H3 : Hid (false = nameB s) := Lib.hid (by rw [H.out, hst, e95, decide_eq_false (show ¬ ((s[i]'hp).toNat : Int) ≤ 57 by omega)]; simp)
                  have h57 : 57 < (s[i]'hp).toNat := by omega
                  have h2' : ¬ ((s[i]'hp).toNat : Int) ≤ 122 := by omega
                  have h2d : decide (((s[i]'hp).toNat : Int) ≤ 122) = false := decide_eq_false h2'
                  have h48 : ¬ (s[i]'hp).toNat < 48 := by omega
                  clear hst hl
                  go_wp2
                  go_ret
                  exact ⟨ret_bool H3.out, hb1⟩
          · have H3 : Hid (true = nameB s) := Lib.hid (by rw [H.out, ← HN.out, nameAt_end hp])
            go_wp2
            go_ret
            exact ⟨ret_bool H3.out, hb1⟩
end Go.Proofs.YtdcdglbliemnkaaDoor
