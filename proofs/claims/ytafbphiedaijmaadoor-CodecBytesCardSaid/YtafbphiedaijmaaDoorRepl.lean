/- strings.ReplaceAll, byte by byte. No program in sight. -/
import Derived.Lib.Replace
import Derived.Lib.CountLaws
import Derived.Lib.IndexLaws
import Derived.Test.YtafbphiedaijmaaDoorWordS
namespace Go.Proofs.YtafbphiedaijmaaDoor
open Go.Lib

section
variable {old new : List UInt8}
theorem repl_def (h : old ≠ new) (l : List UInt8) : replaceAll l old new = replaceK old new (count l old) l := by
  have hb : (old == new) = false := by simpa using h
  rw [replaceAll, replace, hb, replaceNum, if_neg (by simp), if_pos (Or.inl (by decide))]
theorem repl_nil (h : old ≠ new) (h0 : old ≠ []) : replaceAll [] old new = [] := by
  have hi : index [] old = -1 := by
    rcases index_spec [] old with ⟨h1, _⟩ | ⟨i, h1, h2, h3, _⟩
    · exact h1
    · have : i = 0 := by simpa using h2
      subst this
      cases old with
      | nil => exact absurd rfl h0
      | cons a t => simp [occAt] at h3
  rw [repl_def h, count_miss hi]
  rfl
theorem repl_hit (h : old ≠ new) (h0 : old ≠ []) (l : List UInt8) (ho : old.isPrefixOf l = true) : replaceAll l old new = new ++ replaceAll (l.drop old.length) old new := by
  have hi : index l old = (0 : Nat) := index_first (Nat.zero_le _) (by simpa [occAt] using ho) (fun j hj => absurd hj (Nat.not_lt_zero _))
  rw [repl_def h, repl_def h, count_hit h0 hi, Nat.add_comm, replaceK_hit _ _ _ _ _ hi]
  simp
theorem repl_miss (h : old ≠ new) (h0 : old ≠ []) (c : UInt8) (l : List UInt8) (ho : old.isPrefixOf (c :: l) = false) : replaceAll (c :: l) old new = c :: replaceAll l old new := by
  have hi : index (c :: l) old = if index l old == -1 then -1 else index l old + 1 := by rw [index, ho]; rfl
  rw [repl_def h, repl_def h]
  rcases index_spec l old with ⟨h1, _⟩ | ⟨i, h1, _, _, _⟩
  · rw [h1] at hi
    have hi' : index (c :: l) old = -1 := by simpa using hi
    rw [count_miss h1, count_miss hi']
    rfl
  · have hne : ¬ ((index l old == -1) = true) := fun e => by have := beq_iff_eq.1 e; omega
    rw [if_neg hne, h1] at hi
    have hi' : index (c :: l) old = ((i + 1 : Nat) : Int) := by rw [hi]; omega
    rw [count_hit h0 h1, count_hit h0 hi', Nat.add_comm, Nat.add_comm 1 (count (l.drop _) _), replaceK_hit _ _ _ _ _ h1, replaceK_hit _ _ _ _ _ hi']
    have e : (c :: l).drop (i + 1 + old.length) = l.drop (i + old.length) := by rw [show i + 1 + old.length = (i + old.length) + 1 by omega]; rfl
    rw [e]
    simp
end

/-- Marks that are doubled, each once again: what stands between the marks. -/
theorem repl_unq : ∀ (k : Nat) (l : List UInt8), l.length ≤ k → ∀ t n, unq l = some (t, n) → n ≤ l.length ∧ replaceAll (l.take n) [39, 39] [39] = t
  | 0, l, hk, t, n, h => by
    have : l = [] := List.eq_nil_of_length_eq_zero (by omega)
    subst this
    simp [unq] at h
  | k + 1, [], _, t, n, h => by simp [unq] at h
  | k + 1, [c], _, t, n, h => by
    simp only [unq] at h
    split at h
    · simp only [Option.some.injEq, Prod.mk.injEq] at h
      obtain ⟨rfl, rfl⟩ := h
      exact ⟨by simp, repl_nil (by decide) (by decide)⟩
    · cases h
  | k + 1, c :: d :: r, hk, t, n, h => by
    simp only [unq] at h
    split at h
    · rename_i hc
      obtain ⟨p, hp, he⟩ := Option.map_eq_some_iff.1 h
      simp only [Prod.mk.injEq] at he
      obtain ⟨rfl, rfl⟩ := he
      obtain ⟨h1, h2⟩ := repl_unq k (d :: r) (by simp at hk ⊢; omega) p.1 p.2 hp
      refine ⟨by simp at h1 ⊢; omega, ?_⟩
      rw [List.take_succ_cons, repl_miss (by decide) (by decide) _ _ (by
          have hb : (39 == c) = false := beq_eq_false_iff_ne.2 (fun e => hc e.symm)
          simp [List.isPrefixOf, hb]), h2]
    · rename_i hc
      have hc' : c = 39 := by simpa using hc
      subst hc'
      split at h
      · simp only [Option.some.injEq, Prod.mk.injEq] at h
        obtain ⟨rfl, rfl⟩ := h
        exact ⟨by simp, repl_nil (by decide) (by decide)⟩
      · rename_i hd
        have hd' : d = 39 := by simpa using hd
        subst hd'
        obtain ⟨p, hp, he⟩ := Option.map_eq_some_iff.1 h
        simp only [Prod.mk.injEq] at he
        obtain ⟨rfl, rfl⟩ := he
        obtain ⟨h1, h2⟩ := repl_unq k r (by simp at hk ⊢; omega) p.1 p.2 hp
        refine ⟨by simp at h1 ⊢; omega, ?_⟩
        rw [List.take_succ_cons, List.take_succ_cons, repl_hit (by decide) (by decide) _ rfl]
        simp [h2]

/-- What word.Unquote hands back. -/
def unquoteR (s : ByteArray) : ByteArray × Int × Int := match s.data.toList with
  | [] => (⟨#[]⟩, 0, 8)
  | c :: r => if c ≠ 39 then (⟨#[]⟩, 0, 8) else match unq r with
    | none => (⟨#[]⟩, s.size, 8)
    | some (t, n) => if rightL t then (⟨t.toArray⟩, n + 2, 0) else (⟨#[]⟩, 0, 3)
theorem unq_le : ∀ (k : Nat) (l : List UInt8), l.length ≤ k → ∀ t n, unq l = some (t, n) → n + 1 ≤ l.length ∧ t.length ≤ n
  | 0, l, hk, t, n, h => by
    have : l = [] := List.eq_nil_of_length_eq_zero (by omega)
    subst this
    simp [unq] at h
  | k + 1, [], _, t, n, h => by simp [unq] at h
  | k + 1, [c], _, t, n, h => by
    simp only [unq] at h
    split at h
    · simp only [Option.some.injEq, Prod.mk.injEq] at h
      obtain ⟨rfl, rfl⟩ := h
      simp
    · cases h
  | k + 1, c :: d :: r, hk, t, n, h => by
    simp only [unq] at h
    split at h
    · obtain ⟨p, hp, he⟩ := Option.map_eq_some_iff.1 h
      simp only [Prod.mk.injEq] at he
      obtain ⟨rfl, rfl⟩ := he
      have := unq_le k (d :: r) (by simp at hk ⊢; omega) p.1 p.2 hp
      simp at this ⊢
      omega
    · split at h
      · simp only [Option.some.injEq, Prod.mk.injEq] at h
        obtain ⟨rfl, rfl⟩ := h
        simp
      · obtain ⟨p, hp, he⟩ := Option.map_eq_some_iff.1 h
        simp only [Prod.mk.injEq] at he
        obtain ⟨rfl, rfl⟩ := he
        have := unq_le k r (by simp at hk ⊢; omega) p.1 p.2 hp
        simp at this ⊢
        omega
end Go.Proofs.YtafbphiedaijmaaDoor
