/- The reference's Right is word.Right. No program in sight. -/
import Derived.Test.YtafbphiedaijmaaDoorWordS
namespace Go.Proofs.YtafbphiedaijmaaDoor
open Go.Lib

def okB (c : UInt8) : Bool := !(decide (c.toNat < 32) || c.toNat == 127)
def refRightL (l : List UInt8) : Bool := validD l && decide (runesL l ≤ 8) && l.all okB

theorem shapes (l : List UInt8) (hl : l ≠ []) :
    (∃ c, decodeL l = (c.toNat, 1) ∧ c.toNat < 128 ∧ l.take 1 = [c]) ∨
    (128 ≤ (decodeL l).1 ∧ 2 ≤ (decodeL l).2 ∧ ∀ x ∈ l.take (decodeL l).2, 128 ≤ x.toNat) ∨
    decodeL l = (65533, 1) := by
  have h0 : 0 < l.length := List.length_pos_iff.2 hl
  rw [decodeL_N]
  rcases decodeN_shape l.length (l.getD 0 0).toNat (l.getD 1 0).toNat (l.getD 2 0).toNat (l.getD 3 0).toNat with ⟨c, e⟩ | ⟨c1, c2, c3, cv, e⟩ | ⟨c1, c2, c3, c4, cv, cs, e⟩ | ⟨c1, c2, c3, c4, c5, cv, cw, e⟩ | e
  · exact .inl ⟨l.getD 0 0, e, c, takeA l h0⟩
  · refine .inr (.inl ?_)
    rw [e]
    refine ⟨by dsimp only; omega, by simp, ?_⟩
    rw [takeB l c2]
    intro x hx
    simp only [List.mem_cons, List.not_mem_nil, or_false] at hx
    rcases hx with rfl | rfl <;> omega
  · refine .inr (.inl ?_)
    rw [e]
    refine ⟨by dsimp only; omega, by simp, ?_⟩
    rw [takeC l c2]
    intro x hx
    simp only [List.mem_cons, List.not_mem_nil, or_false] at hx
    rcases hx with rfl | rfl | rfl <;> omega
  · refine .inr (.inl ?_)
    rw [e]
    refine ⟨by dsimp only; omega, by simp, ?_⟩
    rw [takeD l c2]
    intro x hx
    simp only [List.mem_cons, List.not_mem_nil, or_false] at hx
    rcases hx with rfl | rfl | rfl | rfl <;> omega
  · exact .inr (.inr e)

theorem fffd_decode (l : List UInt8) (h : hasPrefix l [239, 191, 189] = true) : decodeL l = (65533, 3) := by
  obtain ⟨r, rfl⟩ : ∃ r, l = 239 :: 191 :: 189 :: r := by
    obtain ⟨r, hr⟩ := List.isPrefixOf_iff_prefix.1 h
    exact ⟨r, hr.symm⟩
  rw [decodeL_N]
  simp [decodeN]
theorem fffd_prefix (l : List UInt8) (hl : l ≠ []) (h1 : (decodeL l).1 = 65533) (h2 : ¬ (decodeL l).2 = 1) : hasPrefix l [239, 191, 189] = true := by
  have h := encode_decode l hl (fun e => h2 e.2)
  rw [h1] at h
  have e : encodeRune ((65533 : Nat) : Int) = [239, 191, 189] := by decide
  rw [e] at h
  unfold hasPrefix
  rw [List.isPrefixOf_iff_prefix, h]
  exact List.take_prefix _ _

theorem right_eqD : ∀ (f : Nat) (l : List UInt8) (n : Nat), l.length ≤ f → n ≤ 8 → rightD f l n = (validGoD f l && decide (n + runesD f l ≤ 8) && l.all okB)
  | 0, l, n, hl, hn => by
    have : l = [] := List.eq_nil_of_length_eq_zero (by omega)
    subst this
    simp [rightD, validGoD, runesD, hn]
  | f + 1, l, n, hl, hn => by
    by_cases hne : l = []
    · subst hne
      simp [rightD, validGoD, runesD, hn]
    · rw [rightD_step hne, validGoD, if_neg hne, runesD, if_neg hne]
      have hw := decodeL_width l
      have hsp : l.all okB = ((l.take (decodeL l).2).all okB && (l.drop (decodeL l).2).all okB) := by rw [← List.all_append, List.take_append_drop]
      have ih := right_eqD f (l.drop (decodeL l).2) (n + 1) (by rw [List.length_drop]; omega)
      have hP1 : hasPrefix l [239, 191, 189] = true → decodeL l = (65533, 3) := fffd_decode l
      have hP2 := fffd_prefix l hne
      rcases shapes l hne with ⟨c, hd, hc, ht⟩ | ⟨h1, h2, h3⟩ | hd
      · rw [hd] at ih hsp ⊢
        dsimp only at ih hsp ⊢
        have n1 : ¬ c.toNat = 65533 := by omega
        rw [if_neg (show ¬ (c.toNat = 65533 ∧ hasPrefix l [239, 191, 189] = false) from fun e => n1 e.1), if_neg (show ¬ (c.toNat = 65533 ∧ 1 = 1) from fun e => n1 e.1), hsp, ht]
        by_cases hb : c.toNat < 32 ∨ c.toNat = 127
        · rw [if_pos hb]
          have : okB c = false := by unfold okB; rcases hb with hb | hb <;> simp [hb]
          simp [this]
        · rw [if_neg hb]
          have hk : okB c = true := by unfold okB; simp; omega
          by_cases h8 : 8 < n + 1
          · rw [if_pos h8]
            rw [decide_eq_false (show ¬ n + (1 + runesD f (l.drop 1)) ≤ 8 by omega)]
            simp
          · rw [if_neg h8, ih (by omega)]
            simp [hk, Nat.add_assoc]
      · generalize decodeL l = d at *
        obtain ⟨R, K⟩ := d
        dsimp only at *
        have hall : (l.take K).all okB = true := by
          rw [List.all_eq_true]
          intro x hx
          have := h3 x hx
          unfold okB
          simp
          omega
        have nv : ¬ (R = 65533 ∧ K = 1) := by omega
        have nb : ¬ (R < 32 ∨ R = 127) := by omega
        have np : ¬ (R = 65533 ∧ hasPrefix l [239, 191, 189] = false) := fun e => by
          have := hP2 e.1 (by omega)
          rw [this] at e
          exact absurd e.2 (by simp)
        rw [if_neg np, if_neg nb, if_neg nv, hsp, hall]
        by_cases h8 : 8 < n + 1
        · rw [if_pos h8]
          rw [decide_eq_false (show ¬ n + (1 + runesD f (l.drop K)) ≤ 8 by omega)]
          simp
        · rw [if_neg h8, ih (by omega)]
          simp [Nat.add_assoc]
      · have hp : hasPrefix l [239, 191, 189] = false := by
          cases h : hasPrefix l [239, 191, 189] with
          | false => rfl
          | true => rw [hP1 h] at hd; simp at hd
        rw [hd]
        simp [hp]

theorem right_eq (l : List UInt8) : refRightL l = rightL l := by
  rw [rightL, right_eqD l.length l 0 (Nat.le_refl _) (by omega), refRightL, validD, runesL, Nat.zero_add]
end Go.Proofs.YtafbphiedaijmaaDoor
