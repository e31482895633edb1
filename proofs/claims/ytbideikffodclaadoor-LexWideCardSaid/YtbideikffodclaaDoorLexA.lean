/- lex: classes of runes, the front of a text, signs. -/
import Derived.Test.YtbideikffodclaaDoorLexS
namespace Go.Proofs.YtbideikffodclaaDoor
open Go.RowKit Go.Lib

def ltrI (r : Int) : Bool := (decide (97 ≤ r) && decide (r ≤ 122)) || (decide (65 ≤ r) && decide (r ≤ 90))
def digI (r : Int) : Bool := decide (48 ≤ r) && decide (r ≤ 57)
def wrdI (r : Int) : Bool := ltrI r || digI r || r == 95
theorem ltrI_B (c : UInt8) : ltrI (c.toNat : Int) = letB c := by
  unfold ltrI letB
  rw [Bool.eq_iff_iff]
  simp
  omega
theorem digI_B (c : UInt8) : digI (c.toNat : Int) = isD c := by
  unfold digI isD
  rw [Bool.eq_iff_iff]
  simp
  omega
theorem wrdI_B (c : UInt8) : wrdI (c.toNat : Int) = wordB c := by
  have h : ((c.toNat : Int) == 95) = (c == 95) := by
    by_cases hc : c = 95
    · subst hc; rfl
    · have : ¬ c.toNat = 95 := fun e => hc (UInt8.toNat_inj.1 e)
      rw [beq_eq_false_iff_ne.2 hc]
      exact beq_eq_false_iff_ne.2 (by omega)
  unfold wrdI wordB
  rw [ltrI_B, digI_B, h]

theorem low_split (r : Int) : (ltrI r = true → r < 128) ∧ (digI r = true → r < 128) ∧ (wrdI r = true → r < 128) := by
  have h1 : ltrI r = true → r < 128 := by unfold ltrI; simp; omega
  have h2 : digI r = true → r < 128 := by unfold digI; simp; omega
  refine ⟨h1, h2, fun h => ?_⟩
  unfold wrdI at h
  simp only [Bool.or_eq_true, beq_iff_eq] at h
  rcases h with (h | h) | h
  · exact h1 h
  · exact h2 h
  · omega

set_option maxHeartbeats 1000000 in
theorem lex_letter (r : Int) (w : World) :
    Calls Tryd.prog 21 #[.int .i32 r] w fun e w' => e = .returned (.bool (ltrI r)) ∧ w = w' := by
  by_cases h1 : 97 ≤ r <;> by_cases h2 : r ≤ 122 <;> by_cases h3 : 65 ≤ r <;> by_cases h4 : r ≤ 90
  all_goals first
    | (exfalso; omega)
    | (have H : Hid (ltrI r = decide (97 ≤ r ∧ r ≤ 122 ∨ 65 ≤ r ∧ r ≤ 90)) := Lib.hid (by unfold ltrI; rw [Bool.eq_iff_iff]; simp)
       rw [H.out]
       go_enter Tryd.func21, Tryd.ntmps21
       go_wp2
       go_ret
       exact ⟨ret_bool (by simp [h1, h2, h3, h4]), rfl⟩)

set_option maxHeartbeats 1000000 in
theorem lex_digit (r : Int) (w : World) :
    Calls Tryd.prog 23 #[.int .i32 r] w fun e w' => e = .returned (.bool (digI r)) ∧ w = w' := by
  by_cases h1 : 48 ≤ r <;> by_cases h2 : r ≤ 57
  all_goals first
    | (exfalso; omega)
    | (have H : Hid (digI r = decide (48 ≤ r ∧ r ≤ 57)) := Lib.hid (by unfold digI; rw [Bool.eq_iff_iff]; simp)
       rw [H.out]
       go_enter Tryd.func23, Tryd.ntmps23
       go_wp2
       go_ret
       exact ⟨ret_bool (by simp [h1, h2]), rfl⟩)

set_option maxHeartbeats 1000000 in
theorem lex_named1 (r : Int) (w : World) :
    Calls Tryd.prog 33 #[.int .i32 r] w fun e w' => e = .returned (.bool (wrdI r)) ∧ w = w' := by
  have H1 := Lib.hid (fun w => lex_letter r w)
  have H2 := Lib.hid (fun w => lex_digit r w)
  have HW : Hid (wrdI r = (ltrI r || digI r || r == 95)) := Lib.hid rfl
  cases h1 : ltrI r with
  | true =>
    rw [h1] at H1 HW
    clear h1
    go_enter Tryd.func33, Tryd.ntmps33
    go_wp2_with fail
    refine (H1.out _).mono ?_
    rintro e w' ⟨rfl, rfl⟩
    go_wp2
    go_ret
    exact ⟨ret_bool (by rw [HW.out]; rfl), rfl⟩
  | false =>
    rw [h1] at H1 HW
    cases h2 : digI r with
    | true =>
      rw [h2] at H2 HW
      clear h1 h2
      go_enter Tryd.func33, Tryd.ntmps33
      go_wp2_with fail
      refine (H1.out _).mono ?_
      rintro e w' ⟨rfl, rfl⟩
      go_wp2_with fail
      refine (H2.out _).mono ?_
      rintro e w' ⟨rfl, rfl⟩
      go_wp2
      go_ret
      exact ⟨ret_bool (by rw [HW.out]; rfl), rfl⟩
    | false =>
      rw [h2] at H2 HW
      clear h1 h2
      go_enter Tryd.func33, Tryd.ntmps33
      go_wp2_with fail
      refine (H1.out _).mono ?_
      rintro e w' ⟨rfl, rfl⟩
      go_wp2_with fail
      refine (H2.out _).mono ?_
      rintro e w' ⟨rfl, rfl⟩
      go_wp2
      go_ret
      exact ⟨ret_bool (by rw [HW.out]; rfl), rfl⟩

theorem decN_low (n b0 b1 b2 b3 : Nat) (h : b0 < 128) : decodeN n b0 b1 b2 b3 = (b0, 1) := by unfold decodeN; rw [if_pos h]
theorem decN_high (n b0 b1 b2 b3 : Nat) (h : 128 ≤ b0) : 128 ≤ (decodeN n b0 b1 b2 b3).1 := by
  unfold decodeN
  rw [if_neg (by omega)]
  repeat' split
  all_goals first | (simp; done) | (simp; omega)
theorem dec_low {s : ByteArray} {p : Nat} (h : p < s.size) (hc : (s[p]'h).toNat < 128) : Utf8.decode s p = ((s[p]'h).toNat, 1) := by
  rw [Lib.decode_N, getD_at h]
  exact decN_low _ _ _ _ _ hc
theorem dec_high {s : ByteArray} {p : Nat} (h : p < s.size) (hc : 128 ≤ (s[p]'h).toNat) : 128 ≤ (Utf8.decode s p).1 := by
  rw [Lib.decode_N, getD_at h]
  exact decN_high _ _ _ _ _ hc

theorem runN_stop {p : UInt8 → Bool} {s : ByteArray} {k : Nat} (h : k < s.size) (ha : (s.data.toList.take k).all p = true) (hc : p (s[k]'h) = false) : runN p s.data.toList = k := by
  unfold runN
  have hs : k < s.data.toList.length := by simpa using h
  rw [← List.take_append_drop k s.data.toList, drop_cons h, List.takeWhile_append_of_pos (fun x hx => List.all_eq_true.1 ha x hx), List.takeWhile_cons_of_neg (by simp [hc])]
  simp
  omega
theorem runN_all {p : UInt8 → Bool} {l : List UInt8} (ha : l.all p = true) : runN p l = l.length := by
  unfold runN
  have := List.takeWhile_append_of_pos (l₂ := []) (fun x hx => List.all_eq_true.1 ha x hx)
  rw [List.append_nil] at this
  rw [this]; simp

set_option maxHeartbeats 1000000 in
theorem front_word (s : ByteArray) (w : World) :
    Calls Tryd.prog 32 #[.string s, .func (.func 33) #[] #[]] w fun e w' => e = .returned (.int .i64 (runN wordB s.data.toList)) ∧ Below w.heap.size w w' := by
  obtain ⟨ANS, hANS⟩ : ∃ a, a = runN wordB s.data.toList := ⟨_, rfl⟩
  rw [← hANS]
  have HA := Lib.hid hANS
  have HC := Lib.hid lex_named1
  have HP := Lib.hid wrdI_B
  have HL := Lib.hid (fun r => (low_split r).2.2)
  clear hANS
  go_enter Tryd.func32, Tryd.ntmps32
  go_wp2
  go_loopw [] (fun wr => ∃ pos : Nat, wr = w.iter s pos ∧ pos ≤ s.size ∧ Hid ((s.data.toList.take pos).all wordB = true)) (fun wr => s.size - wr.iterPos w.heap.size)
  case atStart => exact ⟨0, rfl, by omega, Lib.hid (by simp)⟩
  case round =>
    obtain ⟨pos, rfl, hps, H⟩ := hrel
    by_cases hp : pos < s.size
    · have hnx : ∀ ty, (Instr.next (.pointer (some ⟨w.heap.size, 0, none⟩)) true ty).run Tryd.prog (w.iter s pos) = _ := fun ty => run_next_any w s pos ty hp
      have hR : Hid (((Utf8.decode s pos).1 < 128 → Utf8.decode s pos = ((s[pos]'hp).toNat, 1)) ∧ (128 ≤ (Utf8.decode s pos).1 → 128 ≤ (s[pos]'hp).toNat)) := Lib.hid (by
        by_cases hc : (s[pos]'hp).toNat < 128
        · have := dec_low hp hc
          exact ⟨fun _ => this, fun h => by rw [this] at h; exact absurd h (by simp; omega)⟩
        · have := dec_high hp (by omega)
          exact ⟨fun h => by omega, fun _ => by omega⟩)
      have hw := decodeL_width (s.data.toList.drop pos)
      have hd := decodeL_drop s pos
      rw [hd] at hw
      generalize Utf8.decode s pos = d at *
      obtain ⟨R, K⟩ := d
      dsimp only at hnx hw
      cases hpr : wrdI (R : Int) with
      | true =>
        have hlt := HL.out _ hpr
        have h1 := hR.out.1 (by omega)
        simp only [Prod.mk.injEq] at h1
        have hK := h1.2
        subst hK
        have hpc : wordB (s[pos]'hp) = true := by rw [← HP.out, ← h1.1]; exact hpr
        have H3 : Hid ((s.data.toList.take (pos + 1)).all wordB = true) := Lib.hid (by rw [take_snoc_at hp, List.all_append, H.out]; simp [hpc])
        have HCR := Lib.hid (fun w => HC.out (R : Int) w)
        rw [hpr] at HCR
        clear hd hR h1 hpr H hpc
        go_wp2_with fail
        refine (HCR.out _).mono ?_
        rintro e w' ⟨rfl, rfl⟩
        go_wp2
        go_roundw
        case rel => exact ⟨pos + 1, rfl, by omega, H3⟩
        case measure => simp; omega
      | false =>
        have hpc : wordB (s[pos]'hp) = false := by
          rw [← HP.out]
          by_cases hc : R < 128
          · have h1 := hR.out.1 hc
            simp only [Prod.mk.injEq] at h1
            rw [← h1.1]; exact hpr
          · have h2 := hR.out.2 (by omega)
            cases hq : wrdI ((s[pos]'hp).toNat : Int) with
            | false => rfl
            | true => have := HL.out _ hq; omega
        have HV : Hid (ANS = pos) := Lib.hid (by rw [HA.out]; exact runN_stop hp H.out hpc)
        have HCR := Lib.hid (fun w => HC.out (R : Int) w)
        rw [hpr] at HCR
        clear hd hR hpr H hpc HA
        go_wp2_with fail
        refine (HCR.out _).mono ?_
        rintro e w' ⟨rfl, rfl⟩
        go_wp2
        go_ret
        exact ⟨by rw [HV.out]; rfl, below_iter _ _ _⟩
    · have hnx : ∀ ty, (Instr.next (.pointer (some ⟨w.heap.size, 0, none⟩)) true ty).run Tryd.prog (w.iter s pos) = _ := fun ty => run_next_end w s pos ty hp
      have HV : Hid (ANS = s.size) := Lib.hid (by
        have H2 := H.out
        rw [List.take_of_length_le (by simp; omega)] at H2
        rw [HA.out, runN_all H2]; simp)
      clear H HA
      go_wp2
      go_ret
      exact ⟨by rw [HV.out]; rfl, below_iter _ _ _⟩
set_option maxHeartbeats 1000000 in
theorem front_digit (s : ByteArray) (w : World) :
    Calls Tryd.prog 32 #[.string s, .func (.func 23) #[] #[]] w fun e w' => e = .returned (.int .i64 (runN isD s.data.toList)) ∧ Below w.heap.size w w' := by
  obtain ⟨ANS, hANS⟩ : ∃ a, a = runN isD s.data.toList := ⟨_, rfl⟩
  rw [← hANS]
  have HA := Lib.hid hANS
  have HC := Lib.hid lex_digit
  have HP := Lib.hid digI_B
  have HL := Lib.hid (fun r => (low_split r).2.1)
  clear hANS
  go_enter Tryd.func32, Tryd.ntmps32
  go_wp2
  go_loopw [] (fun wr => ∃ pos : Nat, wr = w.iter s pos ∧ pos ≤ s.size ∧ Hid ((s.data.toList.take pos).all isD = true)) (fun wr => s.size - wr.iterPos w.heap.size)
  case atStart => exact ⟨0, rfl, by omega, Lib.hid (by simp)⟩
  case round =>
    obtain ⟨pos, rfl, hps, H⟩ := hrel
    by_cases hp : pos < s.size
    · have hnx : ∀ ty, (Instr.next (.pointer (some ⟨w.heap.size, 0, none⟩)) true ty).run Tryd.prog (w.iter s pos) = _ := fun ty => run_next_any w s pos ty hp
      have hR : Hid (((Utf8.decode s pos).1 < 128 → Utf8.decode s pos = ((s[pos]'hp).toNat, 1)) ∧ (128 ≤ (Utf8.decode s pos).1 → 128 ≤ (s[pos]'hp).toNat)) := Lib.hid (by
        by_cases hc : (s[pos]'hp).toNat < 128
        · have := dec_low hp hc
          exact ⟨fun _ => this, fun h => by rw [this] at h; exact absurd h (by simp; omega)⟩
        · have := dec_high hp (by omega)
          exact ⟨fun h => by omega, fun _ => by omega⟩)
      have hw := decodeL_width (s.data.toList.drop pos)
      have hd := decodeL_drop s pos
      rw [hd] at hw
      generalize Utf8.decode s pos = d at *
      obtain ⟨R, K⟩ := d
      dsimp only at hnx hw
      cases hpr : digI (R : Int) with
      | true =>
        have hlt := HL.out _ hpr
        have h1 := hR.out.1 (by omega)
        simp only [Prod.mk.injEq] at h1
        have hK := h1.2
        subst hK
        have hpc : isD (s[pos]'hp) = true := by rw [← HP.out, ← h1.1]; exact hpr
        have H3 : Hid ((s.data.toList.take (pos + 1)).all isD = true) := Lib.hid (by rw [take_snoc_at hp, List.all_append, H.out]; simp [hpc])
        have HCR := Lib.hid (fun w => HC.out (R : Int) w)
        rw [hpr] at HCR
        clear hd hR h1 hpr H hpc
        go_wp2_with fail
        refine (HCR.out _).mono ?_
        rintro e w' ⟨rfl, rfl⟩
        go_wp2
        go_roundw
        case rel => exact ⟨pos + 1, rfl, by omega, H3⟩
        case measure => simp; omega
      | false =>
        have hpc : isD (s[pos]'hp) = false := by
          rw [← HP.out]
          by_cases hc : R < 128
          · have h1 := hR.out.1 hc
            simp only [Prod.mk.injEq] at h1
            rw [← h1.1]; exact hpr
          · have h2 := hR.out.2 (by omega)
            cases hq : digI ((s[pos]'hp).toNat : Int) with
            | false => rfl
            | true => have := HL.out _ hq; omega
        have HV : Hid (ANS = pos) := Lib.hid (by rw [HA.out]; exact runN_stop hp H.out hpc)
        have HCR := Lib.hid (fun w => HC.out (R : Int) w)
        rw [hpr] at HCR
        clear hd hR hpr H hpc HA
        go_wp2_with fail
        refine (HCR.out _).mono ?_
        rintro e w' ⟨rfl, rfl⟩
        go_wp2
        go_ret
        exact ⟨by rw [HV.out]; rfl, below_iter _ _ _⟩
    · have hnx : ∀ ty, (Instr.next (.pointer (some ⟨w.heap.size, 0, none⟩)) true ty).run Tryd.prog (w.iter s pos) = _ := fun ty => run_next_end w s pos ty hp
      have HV : Hid (ANS = s.size) := Lib.hid (by
        have H2 := H.out
        rw [List.take_of_length_le (by simp; omega)] at H2
        rw [HA.out, runN_all H2]; simp)
      clear H HA
      go_wp2
      go_ret
      exact ⟨by rw [HV.out]; rfl, below_iter _ _ _⟩
end Go.Proofs.YtbideikffodclaaDoor
