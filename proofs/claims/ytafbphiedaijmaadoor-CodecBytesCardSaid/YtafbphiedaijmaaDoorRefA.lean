/- The reference's Right, Quote, Unquote. -/
import Derived.Test.YtafbphiedaijmaaDoorUnq
import Derived.Test.YtafbphiedaijmaaDoorRightEq
import Derived.Laws.BytesString
import Derived.OwnWalk
namespace Go.Proofs.YtafbphiedaijmaaDoor
open Go.RowKit Go.Lib

set_option maxHeartbeats 1000000 in
theorem ref_right (s : ByteArray) (w : World) (hs : s.size ≤ 9223372036854775807) (hE : Env w) :
    Calls Tryd.prog 44 #[.string s] w fun e w' => e = .returned (.bool (rightL s.data.toList)) ∧ Below w.heap.size w w' := by
  rw [← right_eq]
  have HE := Lib.hid hE
  clear hE
  cases hv : validD s.data.toList with
  | false =>
    have HR : Hid (refRightL s.data.toList = false) := Lib.hid (by rw [refRightL, hv]; rfl)
    have HV := Lib.hid hv
    clear hv
    go_enter Tryd.func44, Tryd.ntmps44
    go_wp2_with fail
    refine (Tryd.utf8_ValidString _ _ (by omega) HE.out.tabs).mono ?_
    rintro e w1 ⟨rfl, hb1⟩
    rw [HV.out]
    go_wp2
    go_ret
    exact ⟨ret_bool HR.out.symm, hb1⟩
  | true =>
    by_cases h8 : runesL s.data.toList ≤ 8
    · have HR : Hid (refRightL s.data.toList = s.data.toList.all okB) := Lib.hid (by rw [refRightL, hv, decide_eq_true h8]; rfl)
      have HV := Lib.hid hv
      have HL := Lib.hid (ref_len s)
      generalize runesL s.data.toList = N at HL h8
      have h8' : ¬ (8 : Int) < (N : Int) := by omega
      clear hv
      go_enter Tryd.func44, Tryd.ntmps44
      go_wp2_with fail
      refine (Tryd.utf8_ValidString _ _ (by omega) HE.out.tabs).mono ?_
      rintro e w1 ⟨rfl, hb1⟩
      rw [HV.out]
      have HE1 := Lib.hid (HE.out.below hb1)
      go_wp2_with fail
      refine (HL.out _ (by omega) HE1.out).mono ?_
      rintro e w2 ⟨rfl, hb2⟩
      have hb := hb1.trans (hb2.mono hb1.size)
      clear hb1 hb2 HE HE1
      go_wp2
      go_loop [3] (fun t => ∃ i : Nat, t = .int .i64 i ∧ i ≤ s.size ∧ Hid ((s.data.toList.drop i).all okB = s.data.toList.all okB)) (fun t => s.size - (RowKit.intOf t).toNat)
      case atStart => exact ⟨0, rfl, by omega, Lib.hid rfl⟩
      case round =>
        obtain ⟨i, rfl, hi, H⟩ := hrel
        by_cases hp : i < s.size
        · have H2 := H.out
          rw [drop_cons hp, List.all_cons] at H2
          by_cases hc : (s[i]'hp).toNat < 32
          · have H3 : Hid (false = refRightL s.data.toList) := Lib.hid (by rw [HR.out, ← H2]; unfold okB; simp [hc])
            clear H2 H
            go_wp2
            go_ret
            exact ⟨ret_bool H3.out, hb⟩
          · by_cases hc2 : (s[i]'hp).toNat = 127
            · have H3 : Hid (false = refRightL s.data.toList) := Lib.hid (by rw [HR.out, ← H2]; unfold okB; simp [hc2])
              have k1 : (((s[i]'hp).toNat : Int) == 127) = true := by simp [hc2]
              clear H2 H
              go_wp2
              go_ret
              exact ⟨ret_bool H3.out, hb⟩
            · have H3 : Hid ((s.data.toList.drop (i + 1)).all okB = s.data.toList.all okB) := Lib.hid (by rw [← H2]; have : okB (s[i]'hp) = true := by unfold okB; simp; omega
                                                                                                          rw [this]; rfl)
              have k1 : (((s[i]'hp).toNat : Int) == 127) = false := beq_eq_false_iff_ne.2 (by omega)
              clear H2 H
              go_wp2
              go_round
              case rel => exact ⟨i + 1, by go_num, by omega, H3⟩
              case measure => simp [RowKit.intOf]; omega
        · have H2 := H.out
          rw [drop_nil hp] at H2
          have H3 : Hid (true = refRightL s.data.toList) := Lib.hid (by rw [HR.out, ← H2]; rfl)
          clear H2 H
          go_wp2
          go_ret
          exact ⟨ret_bool H3.out, hb⟩
    · have HR : Hid (refRightL s.data.toList = false) := Lib.hid (by rw [refRightL, decide_eq_false h8]; simp)
      have HV := Lib.hid hv
      have HL := Lib.hid (ref_len s)
      generalize runesL s.data.toList = N at HL h8
      have h8' : (8 : Int) < (N : Int) := by omega
      clear hv
      go_enter Tryd.func44, Tryd.ntmps44
      go_wp2_with fail
      refine (Tryd.utf8_ValidString _ _ (by omega) HE.out.tabs).mono ?_
      rintro e w1 ⟨rfl, hb1⟩
      rw [HV.out]
      have HE1 := Lib.hid (HE.out.below hb1)
      go_wp2_with fail
      refine (HL.out _ (by omega) HE1.out).mono ?_
      rintro e w2 ⟨rfl, hb2⟩
      have hb := hb1.trans (hb2.mono hb1.size)
      go_wp2
      go_ret
      exact ⟨ret_bool HR.out.symm, hb⟩
end Go.Proofs.YtafbphiedaijmaaDoor
