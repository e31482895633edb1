/- More between tokens, and capitals, change nothing but places: the plain law. -/
import Derived.Test.YtbideikffodclaaDoorLPlaces
namespace Go.Proofs.YtbideikffodclaaDoor
open Go.RowKit Go.Lib

/-- The token that a list of bytes begins with. -/
def nextL (l : List UInt8) : Tk × Nat := nextR (l.getD 0 0) ⟨l.toArray⟩
/-- Tokens without places. -/
def tokL : Nat → List UInt8 → List Tk → List Tk × Int
  | 0, _, acc => (acc, 0)
  | _ + 1, [], acc => (acc, 0)
  | f + 1, c :: r, acc =>
    if spB c = true then tokL f r acc
    else if (nextL (c :: r)).2 = 0 then ([], 8)
    else if 100 ≤ acc.length then ([], 4)
    else tokL f ((c :: r).drop (nextL (c :: r)).2) (acc ++ [(nextL (c :: r)).1])
def bare (R : TR) : List Tk × Int := (R.l.map (·.1), R.e)

theorem nextL_at {s : ByteArray} {p : Nat} (hp : p < s.size) : nextL (s.data.toList.drop p) = nextR (s[p]'hp) (s.extract p s.size) := by
  unfold nextL
  have h1 : (s.data.toList.drop p).getD 0 0 = (s[p]'hp) := by rw [drop_cons hp]; rfl
  have h2 : (⟨(s.data.toList.drop p).toArray⟩ : ByteArray) = s.extract p s.size := by
    apply ByteArray.ext
    apply Array.ext'
    rw [Lib.extract_to_end]
  rw [h1, h2]
theorem tokL_of {s : ByteArray} : ∀ (f p : Nat) (acc : List (Tk × Nat)), bare (tokD s f p acc) = tokL f (s.data.toList.drop p) (acc.map (·.1))
  | 0, p, acc => rfl
  | f + 1, p, acc => by
    by_cases hp : p < s.size
    · have hd := drop_cons hp
      have hnx := nextL_at hp
      rw [hd] at hnx
      cases hsp : spB (s[p]'hp) with
      | true =>
        rw [tokD_sp hp hsp, hd, tokL, if_pos hsp]
        exact tokL_of f (p + 1) acc
      | false =>
        rw [hd, tokL, if_neg (by simp [hsp]), hnx]
        by_cases hn : (nextR (s[p]'hp) (s.extract p s.size)).2 = 0
        · rw [tokD_bad hp hsp hn, if_pos hn]; rfl
        · rw [if_neg hn]
          by_cases hl : 100 ≤ acc.length
          · rw [tokD_full hp hsp hn hl, if_pos (by simpa using hl)]; rfl
          · rw [tokD_tok hp hsp hn hl, if_neg (by simpa using hl), tokL_of f]
            congr 1
            · rw [← hd, List.drop_drop]
            · simp
    · rw [tokD_end (by omega), drop_nil hp, tokL]
      rfl
theorem tokL_more : ∀ (f : Nat) (l : List UInt8) (acc : List Tk) (g : Nat), l.length ≤ f → tokL (f + g) l acc = tokL f l acc
  | 0, [], acc, g, _ => by cases g <;> rfl
  | 0, c :: r, acc, g, h => by simp at h
  | f + 1, [], acc, g, _ => by rw [show f + 1 + g = (f + g) + 1 by omega]; rfl
  | f + 1, c :: r, acc, g, h => by
    rw [show f + 1 + g = (f + g) + 1 by omega, tokL, tokL]
    split
    · exact tokL_more f r acc g (by simpa using h)
    · split
      · rfl
      · split
        · rfl
        · rename_i hn _
          exact tokL_more f _ _ g (by rw [List.length_drop]; simp at h ⊢; omega)

/-- A letter, as it is written in the wide text. -/
def up (i : Nat) (c : UInt8) : UInt8 := if (97 ≤ c.toNat ∧ c.toNat ≤ 122) ∧ i % 2 = 0 then c - 32 else c
/-- The wide text, with its end. -/
def wideL : Nat → List UInt8 → List UInt8
  | _, [] => [10]
  | i, c :: r => if c = 32 then 9 :: 10 :: 32 :: wideL (i + 1) r else up i c :: wideL (i + 1) r

theorem up_val (i : Nat) (c : UInt8) : (up i c).toNat = if (97 ≤ c.toNat ∧ c.toNat ≤ 122) ∧ i % 2 = 0 then c.toNat - 32 else c.toNat := by
  unfold up
  split
  · rename_i h
    rw [UInt8.toNat_sub_of_le]
    · rfl
    · rw [UInt8.le_iff_toNat_le]
      show (32 : UInt8).toNat ≤ _
      have : (32 : UInt8).toNat = 32 := rfl
      omega
  · rfl
theorem up_let (i : Nat) (c : UInt8) : letB (up i c) = letB c := by
  rw [Bool.eq_iff_iff]
  unfold letB
  simp only [up_val, Bool.or_eq_true, Bool.and_eq_true, decide_eq_true_eq]
  split <;> omega
theorem up_same {i : Nat} {c : UInt8} (h : letB c = false) : up i c = c := by
  unfold up
  rw [if_neg]
  rintro ⟨⟨h1, h2⟩, _⟩
  have : letB c = true := by unfold letB; simp [h1, h2]
  rw [h] at this
  cases this
theorem up_fold (i : Nat) (c : UInt8) : foldC (up i c) = foldC c := by
  unfold up
  split
  · rename_i h
    apply UInt8.toNat_inj.1
    have hv : (c - 32).toNat = c.toNat - 32 := by
      have := up_val i c
      unfold up at this
      rw [if_pos h, if_pos h] at this
      exact this
    rw [foldC_yes (by omega) (by omega), foldC_no (by omega)]
    omega
  · rfl
theorem up_word (i : Nat) (c : UInt8) : wordB (up i c) = wordB c := by
  cases hl : letB c with
  | true => rw [letB_word hl, letB_word (by rw [up_let]; exact hl)]
  | false => rw [up_same hl]
theorem letB_not {c : UInt8} (h : letB c = true) : isD c = false ∧ c ≠ 45 ∧ c ≠ 39 ∧ spB c = false ∧ c ≠ 32 := by
  unfold letB at h
  simp only [Bool.or_eq_true, Bool.and_eq_true, decide_eq_true_eq] at h
  have hn : ∀ n : UInt8, c = n → c.toNat = n.toNat := fun n e => by rw [e]
  refine ⟨?_, fun e => ?_, fun e => ?_, ?_, fun e => ?_⟩
  · unfold isD; simp; omega
  · have := hn _ e; simp at this; omega
  · have := hn _ e; simp at this; omega
  · cases hs : spB c with
    | false => rfl
    | true =>
      have := spB_low hs
      unfold spB at hs
      simp only [Bool.or_eq_true, beq_iff_eq] at hs
      rcases hs with ((e | e) | e) | e <;> (have := hn _ e; simp at this; omega)
  · have := hn _ e; simp at this; omega

theorem runN_cons (p : UInt8 → Bool) (c : UInt8) (r : List UInt8) : runN p (c :: r) = if p c = true then runN p r + 1 else 0 := by
  unfold runN
  rw [List.takeWhile_cons]
  split <;> simp
theorem runN_nil (p : UInt8 → Bool) : runN p [] = 0 := rfl
theorem wordB_32 : wordB 32 = false := by decide
theorem wide_word : ∀ (l : List UInt8) (i : Nat), runN wordB (wideL i l) = runN wordB l ∧ foldL ((wideL i l).take (runN wordB l)) = foldL (l.take (runN wordB l)) ∧ (wideL i l).drop (runN wordB l) = wideL (i + runN wordB l) (l.drop (runN wordB l))
  | [], i => ⟨rfl, rfl, rfl⟩
  | c :: r, i => by
    by_cases h : c = 32
    · subst h
      have e1 : runN wordB (9 :: 10 :: 32 :: wideL (i + 1) r) = 0 := by rw [runN_cons, if_neg (by decide)]
      have e2 : runN wordB (32 :: r) = 0 := by rw [runN_cons, if_neg (by decide)]
      rw [wideL, if_pos rfl, e1, e2]
      refine ⟨rfl, rfl, ?_⟩
      rw [List.drop_zero, List.drop_zero, wideL, if_pos rfl]
    · rw [wideL, if_neg h, runN_cons, runN_cons, up_word]
      obtain ⟨h1, h2, h3⟩ := wide_word r (i + 1)
      by_cases hw : wordB c = true
      · rw [if_pos hw, if_pos hw, h1]
        refine ⟨rfl, ?_, ?_⟩
        · rw [List.take_succ_cons, List.take_succ_cons]
          unfold foldL at h2 ⊢
          rw [List.map_cons, List.map_cons, up_fold, h2]
        · rw [List.drop_succ_cons, List.drop_succ_cons, h3]
          congr 1
          omega
      · rw [if_neg hw, if_neg hw]
        refine ⟨rfl, rfl, ?_⟩
        rw [List.drop_zero, List.drop_zero, wideL, if_neg h]
        rfl
theorem isD_let {c : UInt8} (h : isD c = true) : letB c = false := by
  unfold isD at h
  simp at h
  unfold letB
  simp
  omega
theorem up_dig (i : Nat) (c : UInt8) : isD (up i c) = isD c := by
  cases hl : letB c with
  | true =>
    have h1 := (letB_not hl).1
    have h2 := (letB_not (c := up i c) (by rw [up_let]; exact hl)).1
    rw [h1, h2]
  | false => rw [up_same hl]
theorem wide_dig : ∀ (l : List UInt8) (i : Nat), runN isD (wideL i l) = runN isD l ∧ (wideL i l).take (runN isD l) = l.take (runN isD l) ∧ (wideL i l).drop (runN isD l) = wideL (i + runN isD l) (l.drop (runN isD l))
  | [], i => ⟨rfl, rfl, rfl⟩
  | c :: r, i => by
    by_cases h : c = 32
    · subst h
      have e1 : runN isD (9 :: 10 :: 32 :: wideL (i + 1) r) = 0 := by rw [runN_cons, if_neg (by decide)]
      have e2 : runN isD (32 :: r) = 0 := by rw [runN_cons, if_neg (by decide)]
      rw [wideL, if_pos rfl, e1, e2]
      refine ⟨rfl, rfl, ?_⟩
      rw [List.drop_zero, List.drop_zero, wideL, if_pos rfl]
    · rw [wideL, if_neg h, runN_cons, runN_cons, up_dig]
      obtain ⟨h1, h2, h3⟩ := wide_dig r (i + 1)
      by_cases hw : isD c = true
      · rw [if_pos hw, if_pos hw, h1]
        refine ⟨rfl, ?_, ?_⟩
        · rw [List.take_succ_cons, List.take_succ_cons, h2, up_same (isD_let hw)]
        · rw [List.drop_succ_cons, List.drop_succ_cons, h3]
          congr 1
          omega
      · rw [if_neg hw, if_neg hw]
        refine ⟨rfl, rfl, ?_⟩
        rw [List.drop_zero, List.drop_zero, wideL, if_neg h]
        rfl

theorem find_congr {α : Type} {p q : α → Bool} : ∀ (L : List α), (∀ x ∈ L, p x = q x) → L.find? p = L.find? q
  | [], _ => rfl
  | a :: L, h => by
    rw [List.find?_cons, List.find?_cons, h a (List.mem_cons_self ..), find_congr L (fun x hx => h x (List.mem_cons_of_mem _ hx))]
theorem pre_one (l : List UInt8) (b : UInt8) : hasPrefix l [b] = (l.head? == some b) := by
  cases l with
  | nil => rfl
  | cons a t => simp [hasPrefix, List.isPrefixOf, eq_comm, Bool.beq_comm]
theorem pre_two (c : UInt8) (r : List UInt8) (a b : UInt8) : hasPrefix (c :: r) [a, b] = (a == c && hasPrefix r [b]) := rfl
theorem wide_head (j : Nat) (r : List UInt8) (b : UInt8) (hb : b = 61 ∨ b = 62) : hasPrefix (wideL j r) [b] = hasPrefix r [b] := by
  rw [pre_one, pre_one]
  cases r with
  | nil => rcases hb with rfl | rfl <;> rfl
  | cons d t =>
    rw [wideL]
    by_cases h : d = 32
    · subst h
      rw [if_pos rfl]
      rcases hb with rfl | rfl <;> rfl
    · rw [if_neg h]
      cases hl : letB d with
      | false => rw [up_same hl]; rfl
      | true =>
        have hn : ∀ x : UInt8, letB x = true → (x = b) → False := by
          intro x hx e
          subst e
          rcases hb with rfl | rfl <;> (revert hx; decide)
        have h1 : (List.head? (up j d :: wideL (j + 1) t) == some b) = false := beq_eq_false_iff_ne.2 (fun e => hn _ (by rw [up_let]; exact hl) (by simpa using e))
        have h2 : (List.head? (d :: t) == some b) = false := beq_eq_false_iff_ne.2 (fun e => hn _ hl (by simpa using e))
        rw [h1, h2]
theorem wide_sign (c : UInt8) (j : Nat) (r : List UInt8) : signR ⟨(c :: wideL j r).toArray⟩ = signR ⟨(c :: r).toArray⟩ := by
  unfold signR
  congr 1
  apply find_congr
  intro x hx
  show hasPrefix (c :: wideL j r) x.data.toList = hasPrefix (c :: r) x.data.toList
  simp only [signs, List.mem_cons, List.not_mem_nil, or_false] at hx
  rcases hx with rfl | rfl | rfl | rfl | rfl | rfl | rfl | rfl | rfl | rfl
  · show hasPrefix (c :: wideL j r) [60, 61] = hasPrefix (c :: r) [60, 61]
    rw [pre_two, pre_two, wide_head _ _ _ (.inl rfl)]
  · show hasPrefix (c :: wideL j r) [62, 61] = hasPrefix (c :: r) [62, 61]
    rw [pre_two, pre_two, wide_head _ _ _ (.inl rfl)]
  · show hasPrefix (c :: wideL j r) [60, 62] = hasPrefix (c :: r) [60, 62]
    rw [pre_two, pre_two, wide_head _ _ _ (.inr rfl)]
  all_goals
    rw [show ∀ l : List UInt8, ∀ a : UInt8, hasPrefix (c :: l) [a] = (a == c) from fun l a => by simp [hasPrefix, List.isPrefixOf]]
    rw [show ∀ l : List UInt8, ∀ a : UInt8, hasPrefix (c :: l) [a] = (a == c) from fun l a => by simp [hasPrefix, List.isPrefixOf]]

theorem wide_next {c : UInt8} {r : List UInt8} {i : Nat} (hsp : spB c = false) (h39 : c ≠ 39) :
    nextL (wideL i (c :: r)) = nextL (c :: r) ∧ ((nextL (c :: r)).2 ≠ 0 → (wideL i (c :: r)).drop (nextL (c :: r)).2 = wideL (i + (nextL (c :: r)).2) ((c :: r).drop (nextL (c :: r)).2)) := by
  have h32 : c ≠ 32 := by
    rintro rfl
    revert hsp; decide
  have hw : wideL i (c :: r) = up i c :: wideL (i + 1) r := by rw [wideL, if_neg h32]
  have hext : ∀ (l : List UInt8) (n : Nat), (ByteArray.extract ⟨l.toArray⟩ 0 n).data.toList = l.take n := fun l n => by rw [Lib.extract_data]; simp
  have hext1 : ∀ (l : List UInt8), (ByteArray.extract ⟨l.toArray⟩ 1 (ByteArray.mk l.toArray).size).data.toList = l.drop 1 := fun l => by rw [Lib.extract_to_end]
  unfold nextL
  rw [show (wideL i (c :: r)).getD 0 0 = up i c by rw [hw]; rfl, show (c :: r).getD 0 0 = c from rfl]
  unfold nextR
  rw [up_let]
  by_cases hl : letB c = true
  · rw [if_pos hl, if_pos hl]
    obtain ⟨w1, w2, w3⟩ := wide_word (c :: r) i
    unfold namedR
    simp only [hext]
    rw [w1, w2]
    refine ⟨rfl, ?_⟩
    split
    · intro h; exact absurd rfl h
    · intro _; exact w3
  · have hl' : letB c = false := by simpa using hl
    rw [if_neg hl, if_neg hl, up_same hl']
    by_cases hd : isD c = true ∨ c = 45
    · rw [if_pos hd, if_pos hd]
      obtain ⟨w1, w2, w3⟩ := wide_dig r (i + 1)
      have hN : numberN ⟨(wideL i (c :: r)).toArray⟩ = numberN ⟨(c :: r).toArray⟩ := by
        unfold numberN
        rw [hext1, hext1, hw, List.drop_succ_cons, List.drop_succ_cons, List.drop_zero, List.drop_zero, w1]
      have hNv : numberN ⟨(c :: r).toArray⟩ = runN isD r + 1 := by
        unfold numberN
        rw [hext1, List.drop_succ_cons, List.drop_zero]
        omega
      have hE : (ByteArray.extract ⟨(wideL i (c :: r)).toArray⟩ 0 (numberN ⟨(c :: r).toArray⟩)) = (ByteArray.extract ⟨(c :: r).toArray⟩ 0 (numberN ⟨(c :: r).toArray⟩)) := by
        apply ByteArray.ext
        apply Array.ext'
        rw [hext, hext, hNv, hw, up_same hl', List.take_succ_cons, List.take_succ_cons, w2]
      unfold numberR
      rw [hN, hE]
      generalize numberN ⟨(c :: r).toArray⟩ = M at *
      refine ⟨rfl, ?_⟩
      generalize parseR (ByteArray.extract ⟨(c :: r).toArray⟩ 0 M) = P at *
      split
      · intro _
        show (wideL i (c :: r)).drop M = wideL (i + M) ((c :: r).drop M)
        rw [hNv, hw, List.drop_succ_cons, List.drop_succ_cons, w3]
        congr 1
        omega
      · intro h; exact absurd rfl h
    · rw [if_neg hd, if_neg hd, if_neg h39, if_neg h39]
      unfold signedR
      have hS : signR ⟨(wideL i (c :: r)).toArray⟩ = signR ⟨(c :: r).toArray⟩ := by
        rw [hw, up_same hl']
        exact wide_sign c (i + 1) r
      rw [hS]
      refine ⟨rfl, fun hn => ?_⟩
      have hne : signR ⟨(c :: r).toArray⟩ ≠ ⟨#[]⟩ := fun e => by rw [e] at hn; exact hn rfl
      obtain ⟨m1, m2⟩ := signR_some hne
      have m2' : hasPrefix (c :: r) (signR ⟨(c :: r).toArray⟩).data.toList = true := m2
      show (wideL i (c :: r)).drop (signR ⟨(c :: r).toArray⟩).size = wideL (i + (signR ⟨(c :: r).toArray⟩).size) ((c :: r).drop (signR ⟨(c :: r).toArray⟩).size)
      generalize signR ⟨(c :: r).toArray⟩ = X at *
      have two : ∀ a b : UInt8, (b = 61 ∨ b = 62) → hasPrefix (c :: r) [a, b] = true → (wideL i (c :: r)).drop 2 = wideL (i + 2) ((c :: r).drop 2) := by
        intro a b hb hp
        rw [pre_two] at hp
        simp only [Bool.and_eq_true] at hp
        cases r with
        | nil => simp [hasPrefix, List.isPrefixOf] at hp
        | cons d t =>
          have hdb : d = b := by
            have := hp.2
            rw [pre_one] at this
            simpa using this
          have hd32 : d ≠ 32 := by rw [hdb]; rcases hb with rfl | rfl <;> decide
          rw [hw, List.drop_succ_cons, List.drop_succ_cons, wideL, if_neg hd32, List.drop_succ_cons, List.drop_succ_cons]
          rfl
      have one : (wideL i (c :: r)).drop 1 = wideL (i + 1) ((c :: r).drop 1) := by rw [hw]; rfl
      simp only [signs, List.mem_cons, List.not_mem_nil, or_false] at m1
      rcases m1 with rfl | rfl | rfl | rfl | rfl | rfl | rfl | rfl | rfl | rfl
      · exact two 60 61 (.inl rfl) m2'
      · exact two 62 61 (.inl rfl) m2'
      · exact two 60 62 (.inr rfl) m2'
      all_goals exact one

theorem wide_len : ∀ (l : List UInt8) (i : Nat), l.length + 1 ≤ (wideL i l).length ∧ (wideL i l).length ≤ 3 * l.length + 1
  | [], _ => by simp [wideL]
  | c :: r, i => by
    have := wide_len r (i + 1)
    rw [wideL]
    split <;> (simp; omega)
/-- The same tokens. -/
theorem wide_tok (n : Nat) : ∀ (l : List UInt8), l.length ≤ n → (∀ x ∈ l, x ≠ 39) → ∀ (i f g : Nat) (acc : List Tk), l.length ≤ g → (wideL i l).length ≤ f → tokL f (wideL i l) acc = tokL g l acc := by
  induction n with
  | zero =>
    intro l hl _ i f g acc _ hf
    have : l = [] := List.eq_nil_of_length_eq_zero (by omega)
    subst this
    obtain ⟨f, rfl⟩ : ∃ k, f = k + 1 := ⟨f - 1, by simp [wideL] at hf; omega⟩
    rw [wideL, tokL, if_pos (by decide)]
    cases f <;> cases g <;> rfl
  | succ n ih =>
    intro l hl h39 i f g acc hg hf
    cases l with
    | nil =>
      obtain ⟨f, rfl⟩ : ∃ k, f = k + 1 := ⟨f - 1, by simp [wideL] at hf; omega⟩
      rw [wideL, tokL, if_pos (by decide)]
      cases f <;> cases g <;> rfl
    | cons c r =>
      obtain ⟨g, rfl⟩ : ∃ k, g = k + 1 := ⟨g - 1, by simp at hg; omega⟩
      have hr : r.length ≤ n := by simpa using hl
      have hg' : r.length ≤ g := by simpa using hg
      have h39r : ∀ x ∈ r, x ≠ 39 := fun x hx => h39 x (List.mem_cons_of_mem _ hx)
      by_cases h32 : c = 32
      · subst h32
        rw [wideL, if_pos rfl] at hf ⊢
        obtain ⟨f, rfl⟩ : ∃ k, f = k + 3 := ⟨f - 3, by simp at hf; omega⟩
        have hf' : (wideL (i + 1) r).length ≤ f := by simpa using hf
        rw [tokL, if_pos (by decide), tokL, if_pos (by decide), tokL, if_pos (by decide), tokL, if_pos (by decide)]
        exact ih r hr h39r _ _ _ _ hg' hf'
      · cases hsp : spB c with
        | true =>
          have hl : letB c = false := by
            cases h : letB c with
            | false => rfl
            | true => rw [(letB_not h).2.2.2.1] at hsp; cases hsp
          rw [wideL, if_neg h32, up_same hl] at hf ⊢
          obtain ⟨f, rfl⟩ : ∃ k, f = k + 1 := ⟨f - 1, by simp at hf; omega⟩
          rw [tokL, if_pos hsp, tokL, if_pos hsp]
          exact ih r hr h39r _ _ _ _ hg' (by simpa using hf)
        | false =>
          obtain ⟨w1, w2⟩ := wide_next (r := r) (i := i) hsp (h39 c (List.mem_cons_self ..))
          have hcons : wideL i (c :: r) = up i c :: wideL (i + 1) r := by rw [wideL, if_neg h32]
          have hspu : spB (up i c) = false := by
            cases hl : letB c with
            | true => exact (letB_not (c := up i c) (by rw [up_let]; exact hl)).2.2.2.1
            | false => rw [up_same hl]; exact hsp
          obtain ⟨f, rfl⟩ : ∃ k, f = k + 1 := ⟨f - 1, by rw [hcons] at hf; simp at hf; omega⟩
          rw [hcons, tokL, if_neg (show ¬ spB (up i c) = true by simp [hspu]), tokL, if_neg (show ¬ spB c = true by simp [hsp]), ← hcons, w1]
          by_cases hn : (nextL (c :: r)).2 = 0
          · rw [if_pos hn, if_pos hn]
          · rw [if_neg hn, if_neg hn, w2 hn]
            split
            · rfl
            · have hlen := congrArg List.length (w2 hn)
              rw [List.length_drop] at hlen
              refine ih _ (by rw [List.length_drop]; simp; omega) (fun x hx => h39 x (List.mem_of_mem_drop hx)) _ _ _ _ (by rw [List.length_drop]; simp; omega) (by rw [← hlen]; omega)
end Go.Proofs.YtbideikffodclaaDoor
