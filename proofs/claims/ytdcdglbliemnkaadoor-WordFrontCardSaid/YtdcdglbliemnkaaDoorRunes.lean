/- A text's first runes and what follows them; how long a quoted text is. No program in sight. -/
import Derived.Test.YtdcdglbliemnkaaDoorQuote
namespace Go.Proofs.YtdcdglbliemnkaaDoor
open Go.Lib

set_option maxRecDepth 100000 in
set_option maxHeartbeats 2000000 in
theorem decodeN_take (n m b0 b1 b2 b3 c1 c2 c3 : Nat) (hm : 1 ≤ m) (hmn : m ≤ n) (hw : (decodeN n b0 b1 b2 b3).2 ≤ m)
    (e1 : 1 < m → c1 = b1) (e2 : 2 < m → c2 = b2) (e3 : 3 < m → c3 = b3) : decodeN m b0 c1 c2 c3 = decodeN n b0 b1 b2 b3 := by
  rcases (show m = 1 ∨ m = 2 ∨ m = 3 ∨ 3 < m by omega) with rfl | rfl | rfl | h
  · clear e1 e2 e3
    unfold decodeN at hw ⊢
    repeat' split
    all_goals first | rfl | (exfalso; omega) | (exfalso; simp_all)
  · have E1 := e1 (by omega)
    subst E1
    clear e1 e2 e3
    unfold decodeN at hw ⊢
    repeat' split
    all_goals first | rfl | (exfalso; omega) | (exfalso; simp_all)
  · have E1 := e1 (by omega)
    have E2 := e2 (by omega)
    subst E1 E2
    clear e1 e2 e3
    unfold decodeN at hw ⊢
    repeat' split
    all_goals first | rfl | (exfalso; omega) | (exfalso; simp_all)
  · have E1 := e1 (by omega)
    have E2 := e2 (by omega)
    have E3 := e3 (by omega)
    subst E1 E2 E3
    unfold decodeN
    simp only [show (1 < m) = True from eq_true (by omega), show (2 < m) = True from eq_true (by omega), show (3 < m) = True from eq_true (by omega), show (1 < n) = True from eq_true (by omega), show (2 < n) = True from eq_true (by omega), show (3 < n) = True from eq_true (by omega)]

theorem getD_take (l : List UInt8) (m i : Nat) (h : i < m) : (l.take m).getD i 0 = l.getD i 0 := by
  simp only [List.getD_eq_getElem?_getD, List.getElem?_take, if_pos h]

theorem decodeL_take (l : List UInt8) (m : Nat) (hm : (decodeL l).2 ≤ m) (hl : m ≤ l.length) : decodeL (l.take m) = decodeL l := by
  have h1 := decodeL_width l
  rw [decodeL_N] at hm h1
  rw [decodeL_N (l.take m), decodeL_N l, List.length_take, Nat.min_eq_left hl, getD_take l m 0 (by omega)]
  exact decodeN_take _ _ _ _ _ _ _ _ _ (by omega) hl hm (fun h => by rw [getD_take _ _ _ h]) (fun h => by rw [getD_take _ _ _ h]) (fun h => by rw [getD_take _ _ _ h])

theorem runesD_fuel : ∀ (f g : Nat) (l : List UInt8), l.length ≤ f → l.length ≤ g → runesD f l = runesD g l
  | 0, g, l, hf, _ => by
    have : l = [] := List.eq_nil_of_length_eq_zero (by omega)
    subst this
    cases g <;> simp [runesD]
  | f + 1, 0, l, _, hg => by
    have : l = [] := List.eq_nil_of_length_eq_zero (by omega)
    subst this
    simp [runesD]
  | f + 1, g + 1, l, hf, hg => by
    unfold runesD
    split
    · rfl
    · have hw := decodeL_width l
      rw [runesD_fuel f g _ (by rw [List.length_drop]; omega) (by rw [List.length_drop]; omega)]

theorem frontD_le : ∀ (f : Nat) (l : List UInt8) (n : Int), frontD f l n ≤ l.length
  | 0, l, n => by simp [frontD]
  | f + 1, l, n => by
    unfold frontD
    split
    · omega
    · rename_i h
      have hne : l ≠ [] := fun e => h (.inl e)
      have := decodeL_le l hne
      have ih := frontD_le f (l.drop (decodeL l).2) (n - 1)
      rw [List.length_drop] at ih
      omega

theorem runes_front : ∀ (f : Nat) (l : List UInt8) (n : Int), l.length ≤ f → runesD f (l.take (frontD f l n)) + runesD f (l.drop (frontD f l n)) = runesD f l
  | 0, l, n, h => by simp [runesD]
  | f + 1, l, n, h => by
    by_cases hne : l = []
    · subst hne; simp [runesD]
    · by_cases hn : n ≤ 0
      · rw [frontD_stop hn]; simp [runesD]
      · rw [frontD_step hne hn]
        have hw := decodeL_width l
        have hle := decodeL_le l hne
        have hk := frontD_le f (l.drop (decodeL l).2) (n - 1)
        rw [List.length_drop] at hk
        have ih := runes_front f (l.drop (decodeL l).2) (n - 1) (by rw [List.length_drop]; omega)
        generalize frontD f (l.drop (decodeL l).2) (n - 1) = k at *
        have hd := decodeL_take l ((decodeL l).2 + k) (by omega) (by omega)
        have hne2 : ¬ l.take ((decodeL l).2 + k) = [] := by
          intro e
          have := congrArg List.length e
          rw [List.length_take, List.length_nil] at this
          omega
        have e1 : runesD (f + 1) (l.take ((decodeL l).2 + k)) = 1 + runesD f ((l.drop (decodeL l).2).take k) := by
          rw [runesD, if_neg hne2, hd, List.drop_take, Nat.add_sub_cancel_left]
        have e2 : runesD (f + 1) l = 1 + runesD f (l.drop (decodeL l).2) := by rw [runesD, if_neg hne]
        rw [e1, e2, runesD_fuel (f + 1) f _ (by rw [List.length_drop]; omega) (by rw [List.length_drop]; omega), ← List.drop_drop]
        omega

theorem runes_split (l : List UInt8) (n : Int) : runesL (l.take (frontN l n)) + runesL (l.drop (frontN l n)) = runesL l := by
  have h := runes_front l.length l n (Nat.le_refl _)
  unfold runesL
  rw [runesD_fuel (l.take (frontN l n)).length l.length _ (Nat.le_refl _) (by rw [List.length_take]; omega), runesD_fuel (l.drop (frontN l n)).length l.length _ (Nat.le_refl _) (by rw [List.length_drop]; omega)]
  exact h

/-- How many marks. -/
def marksL : List UInt8 → Nat
  | [] => 0
  | c :: l => (if c = 39 then 1 else 0) + marksL l
theorem marks_le (l : List UInt8) : marksL l ≤ l.length := by
  induction l with
  | nil => simp [marksL]
  | cons c l ih => simp only [marksL, List.length_cons]; split <;> omega
theorem dbl_length (l : List UInt8) : (dbl l).length = l.length + marksL l := by
  induction l with
  | nil => rfl
  | cons c l ih => simp only [dbl, marksL]; split <;> simp [ih] <;> omega
theorem quoteL_length (l : List UInt8) : (quoteL l).length = l.length + 2 + marksL l := by
  simp only [quoteL, List.length_cons, List.length_append, List.length_nil, dbl_length]
  omega
end Go.Proofs.YtdcdglbliemnkaaDoor
