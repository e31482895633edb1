/- Numbers' texts: no program in sight. -/
import Derived.Test.YtafbphiedaijmaaDoorWordS
import Derived.IntWalk
namespace Go.Proofs.YtafbphiedaijmaaDoor
open Go.Lib

/-- A number's digits. -/
def digL (n : Nat) : List UInt8 := if h : n < 10 then [UInt8.ofNat (48 + n)] else digL (n / 10) ++ [UInt8.ofNat (48 + n % 10)]
termination_by n
decreasing_by omega
theorem digL_small {n : Nat} (h : n < 10) : digL n = [UInt8.ofNat (48 + n)] := by rw [digL, dif_pos h]
theorem digL_big {n : Nat} (h : ¬ n < 10) : digL n = digL (n / 10) ++ [UInt8.ofNat (48 + n % 10)] := by rw [digL, dif_neg h]
/-- A number's text. -/
def decL (n : Int) : List UInt8 := if n < 0 then 45 :: digL n.natAbs else digL n.natAbs

def isD (c : UInt8) : Bool := decide (48 ≤ c.toNat) && decide (c.toNat ≤ 57)
/-- What digits come to. -/
def valN (l : List UInt8) : Nat := l.foldl (fun a c => a * 10 + (c.toNat - 48)) 0
theorem valN_snoc (l : List UInt8) (c : UInt8) : valN (l ++ [c]) = valN l * 10 + (c.toNat - 48) := by simp [valN]
theorem valN_nil : valN [] = 0 := rfl

theorem snoc_ind {P : List UInt8 → Prop} (h0 : P []) (h1 : ∀ l c, P l → P (l ++ [c])) (l : List UInt8) : P l := by
  obtain ⟨k, hk⟩ : ∃ k, l.length = k := ⟨_, rfl⟩
  induction k generalizing l with
  | zero => rw [List.eq_nil_of_length_eq_zero hk]; exact h0
  | succ k ih =>
    rcases List.eq_nil_or_concat l with rfl | ⟨l', c, rfl⟩
    · simp at hk
    · rw [List.concat_eq_append] at *
      exact h1 l' c (ih l' (by simp at hk; omega))

theorem digC (k : Nat) (h : k < 10) : (UInt8.ofNat (48 + k)).toNat = 48 + k := by
  rw [UInt8.toNat_ofNat']
  omega
theorem digL_facts (n : Nat) : (digL n).all isD = true ∧ valN (digL n) = n ∧ digL n ≠ [] ∧ ((digL n).head? = some 48 → n = 0) := by
  induction n using Nat.strongRecOn with
  | _ n ih =>
    by_cases h : n < 10
    · rw [digL_small h]
      have e := digC n h
      refine ⟨?_, ?_, by simp, ?_⟩
      · simp only [List.all_cons, List.all_nil, isD, e, Bool.and_true, Bool.and_eq_true, decide_eq_true_eq]; omega
      · simp only [valN, List.foldl_cons, List.foldl_nil, e]; omega
      · intro hh
        simp only [List.head?_cons, Option.some.injEq] at hh
        have := congrArg UInt8.toNat hh
        rw [e] at this
        simp at this
        omega
    · obtain ⟨h1, h2, h3, h4⟩ := ih (n / 10) (by omega)
      have e := digC (n % 10) (by omega)
      rw [digL_big h]
      refine ⟨?_, ?_, by simp, ?_⟩
      · rw [List.all_append, h1]
        simp only [List.all_cons, List.all_nil, isD, e, Bool.and_true, Bool.true_and, Bool.and_eq_true, decide_eq_true_eq]; omega
      · rw [valN_snoc, h2, e]; omega
      · intro hh
        have : (digL (n / 10)).head? = some 48 := by
          cases hd : digL (n / 10) with
          | nil => exact absurd hd h3
          | cons a t => rw [hd] at hh; simpa using hh
        have := h4 this
        omega
theorem digL_length (n : Nat) : ∀ k, n < 10 ^ k → 0 < k → (digL n).length ≤ k := by
  induction n using Nat.strongRecOn with
  | _ n ih =>
    intro k hk h0
    by_cases h : n < 10
    · rw [digL_small h]; simp; omega
    · rw [digL_big h]
      obtain ⟨k, rfl⟩ : ∃ j, k = j + 1 := ⟨k - 1, by omega⟩
      have : 0 < k := by
        rcases Nat.eq_zero_or_pos k with rfl | hp
        · simp at hk; omega
        · exact hp
      have := ih (n / 10) (by omega) k (by rw [Nat.pow_succ] at hk; omega) this
      simp
      omega
/-- Digits without a 0 ahead are their number's. -/
theorem digL_val (l : List UInt8) : l.all isD = true → l ≠ [] → (l.head? = some 48 → l.length = 1) → digL (valN l) = l := by
  induction l using snoc_ind with
  | h0 => intro _ h; exact absurd rfl h
  | h1 l c ih =>
    intro ha _ hz
    rw [List.all_append] at ha
    simp only [List.all_cons, List.all_nil, Bool.and_true, Bool.and_eq_true, isD, decide_eq_true_eq] at ha
    obtain ⟨h1, h2, h3⟩ := ha
    have hc : UInt8.ofNat (48 + (c.toNat - 48)) = c := by rw [show 48 + (c.toNat - 48) = c.toNat by omega]; simp
    by_cases hl : l = []
    · subst hl
      have e : valN ([] ++ [c]) = c.toNat - 48 := by rw [valN_snoc, valN_nil]; omega
      rw [e, digL_small (by omega), hc]
      rfl
    · have hpos : 0 < l.length := List.length_pos_iff.2 hl
      have hne : ¬ l.head? = some 48 := by
        intro e
        have : (l ++ [c]).head? = some 48 := by cases l with
          | nil => exact absurd rfl hl
          | cons a t => simpa using e
        exact hl (by simpa using hz this)
      have hi := ih h1 hl (fun e => absurd e hne)
      have hv : 1 ≤ valN l := by
        rcases Nat.eq_zero_or_pos (valN l) with h0 | hp
        · rw [h0, digL_small (by omega)] at hi
          rw [← hi] at hne
          exact absurd rfl hne
        · exact hp
      rw [valN_snoc, digL_big (by omega)]
      rw [show (valN l * 10 + (c.toNat - 48)) / 10 = valN l by omega, show (valN l * 10 + (c.toNat - 48)) % 10 = c.toNat - 48 by omega, hi, hc]

theorem valN_mono (l m : List UInt8) : valN l ≤ valN (l ++ m) := by
  induction m using snoc_ind with
  | h0 => simp
  | h1 m c ih => rw [← List.append_assoc, valN_snoc]; omega
theorem valN_lt (l : List UInt8) : l.all isD = true → valN l < 10 ^ l.length := by
  induction l using snoc_ind with
  | h0 => intro _; decide
  | h1 l c ih =>
    intro ha
    rw [List.all_append] at ha
    simp only [List.all_cons, List.all_nil, Bool.and_true, Bool.and_eq_true, isD, decide_eq_true_eq] at ha
    have := ih ha.1
    rw [valN_snoc, show (l ++ [c]).length = l.length + 1 by simp, Nat.pow_succ]
    generalize 10 ^ l.length = P at *
    omega

/-- The greatest number, below 0 or not. -/
def limN (below : Bool) : Nat := if below then 9223372036854775808 else 9223372036854775807
def sgnI (below : Bool) (n : Nat) : Int := if below then -(n : Int) else n
/-- What value.digits hands back. -/
def digR (l : List UInt8) (below : Bool) : Int × Bool :=
  if l = [] ∨ 20 ≤ l.length ∨ (l.head? = some 48 ∧ (1 < l.length ∨ below = true)) then (0, false)
  else if l.all isD = true ∧ valN l ≤ limN below then (sgnI below (valN l), true) else (0, false)

theorem digR_yes {l : List UInt8} {below : Bool} {n : Int} (h : digR l below = (n, true)) : l = digL (valN l) ∧ n = sgnI below (valN l) ∧ valN l ≤ limN below ∧ (below = true → 1 ≤ valN l) := by
  unfold digR at h
  split at h
  · simp at h
  · rename_i hn
    split at h
    · rename_i hd
      simp only [Prod.mk.injEq, and_true] at h
      have e := digL_val l hd.1 (fun e => hn (.inl e)) (fun e => by
        have : ¬ 1 < l.length := fun k => hn (.inr (.inr ⟨e, .inl k⟩))
        have : l ≠ [] := fun e => hn (.inl e)
        have := List.length_pos_iff.2 this
        omega)
      refine ⟨e.symm, h.symm, hd.2, fun hb => ?_⟩
      rcases Nat.eq_zero_or_pos (valN l) with h0 | hp
      · rw [h0, digL_small (by omega)] at e
        exact absurd (.inr (.inr ⟨by rw [← e]; rfl, .inr hb⟩)) hn
      · exact hp
    · simp at h
theorem digR_of (m : Nat) (below : Bool) (h : m ≤ limN below) (hb : below = true → 1 ≤ m) : digR (digL m) below = (sgnI below m, true) := by
  obtain ⟨h1, h2, h3, h4⟩ := digL_facts m
  have hlen := digL_length m 19 (by unfold limN at h; split at h <;> omega) (by omega)
  unfold digR
  rw [if_neg, if_pos ⟨h1, by rw [h2]; exact h⟩, h2]
  rintro (e | e | ⟨e, e2⟩)
  · exact h3 e
  · omega
  · have h0 := h4 e
    subst h0
    rcases e2 with e2 | e2
    · rw [digL_small (by omega)] at e2; simp at e2
    · have := hb e2; omega

/-- What the reference makes of a text's digits. -/
def numStep (neg : Bool) (a : Int) (c : UInt8) : Int := if isD c then IntKind.i64.wrap (IntKind.i64.wrap (a * 10) + (if neg then -((c.toNat : Int) - 48) else (c.toNat : Int) - 48)) else a
def numR (l : List UInt8) : Int := (l.take 25).foldl (numStep (l.head? == some 45)) 0

theorem numStep_exact {neg : Bool} {v : Nat} {c : UInt8} (hc : isD c = true) (h : v * 10 + (c.toNat - 48) ≤ limN neg) : numStep neg (sgnI neg v) c = sgnI neg (v * 10 + (c.toNat - 48)) := by
  unfold numStep
  rw [if_pos hc, IntKind.wrap_i64, IntKind.wrap_i64]
  unfold isD at hc
  simp at hc
  unfold limN at h
  unfold sgnI
  cases neg with
  | true => simp at h ⊢; omega
  | false => simp at h ⊢; omega
theorem numFold (neg : Bool) (l : List UInt8) : l.all isD = true → valN l ≤ limN neg → l.foldl (numStep neg) 0 = sgnI neg (valN l) := by
  induction l using snoc_ind with
  | h0 => intro _ _; cases neg <;> rfl
  | h1 l c ih =>
    intro ha hv
    rw [List.all_append] at ha
    simp only [List.all_cons, List.all_nil, Bool.and_true, Bool.and_eq_true] at ha
    rw [valN_snoc] at hv
    rw [List.foldl_append, ih ha.1 (by omega), List.foldl_cons, List.foldl_nil, numStep_exact ha.2 hv, valN_snoc]
theorem numR_dec (n : Int) (h1 : -9223372036854775808 ≤ n) (h2 : n ≤ 9223372036854775807) : numR (decL n) = n := by
  obtain ⟨d1, d2, d3, d4⟩ := digL_facts n.natAbs
  have hlen := digL_length n.natAbs 19 (by omega) (by omega)
  unfold decL
  split
  · unfold numR
    rw [List.take_of_length_le (by simp; omega)]
    rw [show ((45 :: digL n.natAbs).head? == some 45) = true from rfl, List.foldl_cons, show numStep true 0 45 = 0 from rfl, numFold true _ d1 (by rw [d2]; unfold limN; simp; omega), d2]
    unfold sgnI
    simp
    omega
  · unfold numR
    have hh : ((digL n.natAbs).head? == some 45) = false := by
      cases hd : digL n.natAbs with
      | nil => exact absurd hd d3
      | cons a t =>
        rw [hd] at d1
        simp only [List.all_cons, Bool.and_eq_true, isD, decide_eq_true_eq] at d1
        simp only [List.head?_cons]
        apply beq_eq_false_iff_ne.2
        intro e
        have : a = 45 := by simpa using e
        subst this
        have := d1.1.1
        revert this
        decide
    rw [List.take_of_length_le (by omega), hh, numFold false _ d1 (by rw [d2]; unfold limN; simp; omega), d2]
    unfold sgnI
    simp
    omega
/-- A text is a number's just if the reference finds it so. -/
theorem dec_iff {l : List UInt8} (h : ∃ n : Int, -9223372036854775808 ≤ n ∧ n ≤ 9223372036854775807 ∧ decL n = l) : decL (numR l) = l := by
  obtain ⟨n, h1, h2, rfl⟩ := h
  rw [numR_dec n h1 h2]
end Go.Proofs.YtafbphiedaijmaaDoor
