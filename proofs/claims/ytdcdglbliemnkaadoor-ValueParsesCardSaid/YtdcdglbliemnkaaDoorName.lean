/- word.letter, word.further, word.Name; the reference's Key and Name. -/
import Derived.Test.YtdcdglbliemnkaaDoorKey
namespace Go.Proofs.YtdcdglbliemnkaaDoor
open Go.RowKit Go.Lib

def lttI (r : Int) : Bool := decide (97 ≤ r) && decide (r ≤ 122)
def furI (r : Int) : Bool := lttI r || (decide (48 ≤ r) && decide (r ≤ 57)) || r == 95

theorem word_letter (r : Int) (w : World) :
    Calls Tryd.prog 58 #[.int .i32 r] w fun e w' => e = .returned (.bool (lttI r)) ∧ w = w' := by
  rcases (show r < 97 ∨ (97 ≤ r ∧ r ≤ 122) ∨ 122 < r by omega) with h | ⟨h, h'⟩ | h
  all_goals
    have H : Hid (lttI r = _) := Lib.hid (by unfold lttI; first | rw [decide_eq_true (show 97 ≤ r by omega), decide_eq_true (show r ≤ 122 by omega)] | rw [decide_eq_true (show 97 ≤ r by omega), decide_eq_false (show ¬ r ≤ 122 by omega)] | rw [decide_eq_false (show ¬ 97 ≤ r by omega)])
    go_enter Tryd.func58, Tryd.ntmps58
    go_wp2
    go_ret
    refine ⟨ret_bool ?_, rfl⟩
    rw [H.out]
    simp
    try omega

theorem word_further (r : Int) (w : World) :
    Calls Tryd.prog 59 #[.int .i32 r] w fun e w' => e = .returned (.bool (furI r)) ∧ w = w' := by
  cases hl : lttI r with
  | true =>
    have H : Hid (furI r = true) := Lib.hid (by unfold furI; rw [hl]; rfl)
    have HL := Lib.hid hl
    clear hl
    go_enter Tryd.func59, Tryd.ntmps59
    go_wp2_with fail
    refine (word_letter _ _).mono ?_
    rintro e w1 ⟨rfl, rfl⟩
    rw [HL.out]
    go_wp2
    go_ret
    exact ⟨ret_bool H.out.symm, rfl⟩
  | false =>
    have H : Hid (furI r = ((decide (48 ≤ r) && decide (r ≤ 57)) || r == 95)) := Lib.hid (by unfold furI; rw [hl]; rfl)
    have HL := Lib.hid hl
    clear hl
    rcases (show r < 48 ∨ (48 ≤ r ∧ r ≤ 57) ∨ (57 < r ∧ r ≠ 95) ∨ r = 95 by omega) with h | ⟨h, h'⟩ | ⟨h, h'⟩ | h
    · have e95 : (r == 95) = false := beq_eq_false_iff_ne.2 (by omega)
      have H2 : Hid (furI r = false) := Lib.hid (by rw [H.out, decide_eq_false (show ¬ 48 ≤ r by omega), e95]; rfl)
      go_enter Tryd.func59, Tryd.ntmps59
      go_wp2_with fail
      refine (word_letter _ _).mono ?_
      rintro e w1 ⟨rfl, rfl⟩
      rw [HL.out]
      go_wp2
      go_ret
      exact ⟨ret_bool H2.out.symm, rfl⟩
    · have H2 : Hid (furI r = true) := Lib.hid (by rw [H.out, decide_eq_true h, decide_eq_true h']; rfl)
      go_enter Tryd.func59, Tryd.ntmps59
      go_wp2_with fail
      refine (word_letter _ _).mono ?_
      rintro e w1 ⟨rfl, rfl⟩
      rw [HL.out]
      go_wp2
      go_ret
      exact ⟨ret_bool H2.out.symm, rfl⟩
    · have e95 : (r == 95) = false := beq_eq_false_iff_ne.2 h'
      have H2 : Hid (furI r = false) := Lib.hid (by rw [H.out, decide_eq_false (show ¬ r ≤ 57 by omega), e95]; simp)
      have e57 : decide (r ≤ 57) = false := decide_eq_false (by omega)
      clear h'
      go_enter Tryd.func59, Tryd.ntmps59
      go_wp2_with fail
      refine (word_letter _ _).mono ?_
      rintro e w1 ⟨rfl, rfl⟩
      rw [HL.out]
      go_wp2
      go_ret
      exact ⟨ret_bool H2.out.symm, rfl⟩
    · subst h
      have H2 : Hid (furI 95 = true) := Lib.hid (by decide)
      go_enter Tryd.func59, Tryd.ntmps59
      go_wp2_with fail
      refine (word_letter _ _).mono ?_
      rintro e w1 ⟨rfl, rfl⟩
      rw [HL.out]
      go_wp2
      go_ret
      exact ⟨ret_bool H2.out.symm, rfl⟩

/-- A byte of a name; its first one. -/
def furB (c : UInt8) : Bool := furI c.toNat
def lttB (c : UInt8) : Bool := lttI c.toNat
def nameL (l : List UInt8) : Bool := match l with
  | [] => true
  | c :: r => lttB c && (furB c && r.all furB)
def nameB (s : ByteArray) : Bool := decide (1 ≤ s.size) && decide (s.size ≤ 8) && !keyB s && nameL s.data.toList
/-- .. from place i on. -/
def nameAt (l : List UInt8) (i : Nat) : Bool := if i = 0 then nameL l else (l.drop i).all furB
theorem fur_high {r : Int} (h : 128 ≤ r) : furI r = false := by
  unfold furI lttI
  rw [decide_eq_false (show ¬ r ≤ 122 by omega), decide_eq_false (show ¬ r ≤ 57 by omega), beq_eq_false_iff_ne.2 (show r ≠ 95 by omega)]
  simp
theorem ltt_fur {r : Int} (h : lttI r = true) : furI r = true := by unfold furI; rw [h]; rfl
theorem nameAt_step {s : ByteArray} {i : Nat} (hp : i < s.size) : nameAt s.data.toList i = ((decide (i ≠ 0) || lttB (s[i]'hp)) && (furB (s[i]'hp) && nameAt s.data.toList (i + 1))) := by
  unfold nameAt
  rw [if_neg (show ¬ i + 1 = 0 by omega)]
  by_cases h : i = 0
  · subst h
    have := drop_cons hp
    rw [List.drop_zero] at this
    rw [if_pos rfl, this]
    simp [nameL]
  · rw [if_neg h, drop_cons hp]
    simp [h]
theorem nameAt_end {s : ByteArray} {i : Nat} (hp : ¬ i < s.size) : nameAt s.data.toList i = true := by
  unfold nameAt
  have := drop_nil hp
  split
  · rename_i h; subst h
    rw [List.drop_zero] at this
    rw [this]; rfl
  · rw [this]; rfl

set_option maxHeartbeats 2000000 in
theorem word_name (s : ByteArray) (w : World) (hs : s.size ≤ 4611686018427387904) :
    Calls Tryd.prog 27 #[.string s] w fun e w' => e = .returned (.bool (nameB s)) ∧ Below w.heap.size w w' := by
  by_cases h0 : s.size = 0
  · have H : Hid (nameB s = false) := Lib.hid (by unfold nameB; rw [decide_eq_false (show ¬ 1 ≤ s.size by omega)]; rfl)
    have hl' : s.toList = [] := by rw [Lib.toList_data]; exact List.eq_nil_of_length_eq_zero (by simpa using h0)
    go_enter Tryd.func27, Tryd.ntmps27
    go_wp2
    go_ret
    exact ⟨ret_bool H.out.symm, Below.refl _ _⟩
  · have hp0 : 0 < s.size := by omega
    have hl := drop_cons hp0
    rw [List.drop_zero] at hl
    have hne : s.toList.isEmpty = false := by rw [Lib.toList_data, hl]; rfl
    have hne' : ¬ s.toList = [] := by rw [Lib.toList_data, hl]; simp
    clear hl
    by_cases h8 : s.size ≤ 8
    · have HK := Lib.hid (word_key s)
      cases hk : keyB s with
      | true =>
        have H : Hid (nameB s = false) := Lib.hid (by unfold nameB; rw [hk]; simp)
        have HK2 := Lib.hid hk
        clear hk
        go_enter Tryd.func27, Tryd.ntmps27
        go_wp2_with fail
        refine (HK.out _).mono ?_
        rintro e w1 ⟨rfl, hb1⟩
        rw [HK2.out]
        go_wp2
        go_ret
        exact ⟨ret_bool H.out.symm, hb1⟩
      | false =>
        have HK2 := Lib.hid hk
        obtain ⟨ANS, hA⟩ : ∃ a, nameAt s.data.toList 0 = a := ⟨_, rfl⟩
        have H : Hid (nameB s = ANS) := Lib.hid (by unfold nameB; rw [decide_eq_true (show 1 ≤ s.size by omega), decide_eq_true h8, hk, ← hA]; rfl)
        have HA := Lib.hid hA
        clear hk hA
        go_enter Tryd.func27, Tryd.ntmps27
        go_wp2_with fail
        refine (HK.out _).mono ?_
        rintro e w1 ⟨rfl, hb1⟩
        rw [HK2.out]
        clear HK HK2
        go_wp2
        go_loopw [3] (fun _ wr => ∃ pos : Nat, wr = w1.iter s pos ∧ pos ≤ s.size ∧ Hid (nameAt s.data.toList pos = ANS)) (fun _ wr => s.size - wr.iterPos w1.heap.size)
        case atStart => exact ⟨0, rfl, by omega, HA⟩
        case round =>
          obtain ⟨pos, rfl, hpos, HN⟩ := hrel
          by_cases hp : pos < s.size
          · have hnx : ∀ ty, (Instr.next (.pointer (some ⟨w1.heap.size, 0, none⟩)) true ty).run Tryd.prog (w1.iter s pos) = _ := fun ty => run_next_any w1 s pos ty hp
            have hst := nameAt_step hp
            have hbl : Below w1.heap.size w1 (w1.iter s (pos + (Utf8.decode s pos).2)) := below_iter _ _ _
            have hbb := hb1.trans (hbl.mono hb1.size)
            by_cases ha : (s[pos]'hp).toNat < 128
            · rw [decode_ascii s pos hp ha] at hnx hbb
              rw [HN.out] at hst
              have HF := Lib.hid (word_further ((s[pos]'hp).toNat : Int))
              have HL := Lib.hid (word_letter ((s[pos]'hp).toNat : Int))
              cases hf : furI (s[pos]'hp).toNat with
              | true =>
                have HF2 := Lib.hid hf
                by_cases hz : pos = 0
                · subst hz
                  cases hlt : lttI (s[0]'hp).toNat with
                  | true =>
                    have H3 : Hid (nameAt s.data.toList 1 = ANS) := Lib.hid (by rw [hst]; unfold furB lttB; rw [hf, hlt]; rfl)
                    have HL2 := Lib.hid hlt
                    clear hst hf hlt
                    go_wp2_with fail
                    refine (HL.out _).mono ?_
                    rintro e w2 ⟨rfl, rfl⟩
                    rw [HL2.out]
                    go_wp2_with fail
                    refine (HF.out _).mono ?_
                    rintro e w2 ⟨rfl, rfl⟩
                    rw [HF2.out]
                    go_wp2
                    go_roundw
                    case rel => exact ⟨1, rfl, by omega, H3⟩
                    case measure => simp; omega
                  | false =>
                    have H3 : Hid (false = nameB s) := Lib.hid (by rw [H.out, hst]; unfold furB lttB; rw [hlt]; rfl)
                    have HL2 := Lib.hid hlt
                    clear hst hf hlt
                    go_wp2_with fail
                    refine (HL.out _).mono ?_
                    rintro e w2 ⟨rfl, rfl⟩
                    rw [HL2.out]
                    go_wp2
                    go_ret
                    exact ⟨ret_bool H3.out, hbb⟩
                · have hz' : ((pos : Int) == 0) = false := beq_eq_false_iff_ne.2 (by omega)
                  have H3 : Hid (nameAt s.data.toList (pos + 1) = ANS) := Lib.hid (by rw [hst]; unfold furB lttB; rw [hf]; simp [hz])
                  clear hst hf
                  go_wp2_with fail
                  refine (HF.out _).mono ?_
                  rintro e w2 ⟨rfl, rfl⟩
                  rw [HF2.out]
                  go_wp2
                  go_roundw
                  case rel => exact ⟨pos + 1, rfl, by omega, H3⟩
                  case measure => simp; omega
              | false =>
                have HF2 := Lib.hid hf
                have H3 : Hid (false = nameB s) := Lib.hid (by rw [H.out, hst]; unfold furB; rw [hf]; simp)
                by_cases hz : pos = 0
                · subst hz
                  cases hlt : lttI (s[0]'hp).toNat with
                  | true => rw [ltt_fur hlt] at hf; cases hf
                  | false =>
                    have HL2 := Lib.hid hlt
                    clear hst hf hlt
                    go_wp2_with fail
                    refine (HL.out _).mono ?_
                    rintro e w2 ⟨rfl, rfl⟩
                    rw [HL2.out]
                    go_wp2
                    go_ret
                    exact ⟨ret_bool H3.out, hbb⟩
                · have hz' : ((pos : Int) == 0) = false := beq_eq_false_iff_ne.2 (by omega)
                  clear hst hf
                  go_wp2_with fail
                  refine (HF.out _).mono ?_
                  rintro e w2 ⟨rfl, rfl⟩
                  rw [HF2.out]
                  go_wp2
                  go_ret
                  exact ⟨ret_bool H3.out, hbb⟩
            · have hh := (decode_high s pos hp (by omega)).1
              rw [HN.out] at hst
              have H3 : Hid (false = nameB s) := Lib.hid (by rw [H.out, hst]; unfold furB; rw [fur_high (by omega)]; simp)
              generalize Utf8.decode s pos = d at *
              obtain ⟨R, K⟩ := d
              dsimp only at hnx hbb hh
              have HF := Lib.hid (word_further (R : Int))
              have HL := Lib.hid (word_letter (R : Int))
              have HF2 := Lib.hid (fur_high (r := (R : Int)) (by omega))
              have HL2 : Hid (lttI (R : Int) = false) := Lib.hid (by unfold lttI; rw [decide_eq_false (show ¬ (R : Int) ≤ 122 by omega)]; simp)
              clear hst
              by_cases hz : pos = 0
              · subst hz
                rw [Nat.zero_add] at hbb
                simp only [Nat.zero_add] at hnx
                go_wp2_with fail
                refine (HL.out _).mono ?_
                rintro e w2 ⟨rfl, rfl⟩
                rw [HL2.out]
                go_wp2
                go_ret
                exact ⟨ret_bool H3.out, hbb⟩
              · have hz' : ((pos : Int) == 0) = false := beq_eq_false_iff_ne.2 (by omega)
                go_wp2_with fail
                refine (HF.out _).mono ?_
                rintro e w2 ⟨rfl, rfl⟩
                rw [HF2.out]
                go_wp2
                go_ret
                exact ⟨ret_bool H3.out, hbb⟩
          · have hnx : ∀ ty, (Instr.next (.pointer (some ⟨w1.heap.size, 0, none⟩)) true ty).run Tryd.prog (w1.iter s pos) = _ := fun ty => run_next_end w1 s pos ty hp
            have H3 : Hid (true = nameB s) := Lib.hid (by rw [H.out, ← HN.out, nameAt_end hp])
            have hbl : Below w1.heap.size w1 (w1.iter s pos) := below_iter _ _ _
            have hbb := hb1.trans (hbl.mono hb1.size)
            clear HN
            go_wp2
            go_ret
            exact ⟨ret_bool H3.out, hbb⟩
    · have H : Hid (nameB s = false) := Lib.hid (by unfold nameB; rw [decide_eq_false h8]; simp)
      go_enter Tryd.func27, Tryd.ntmps27
      go_wp2
      go_ret
      exact ⟨ret_bool H.out.symm, Below.refl _ _⟩
end Go.Proofs.YtdcdglbliemnkaaDoor
