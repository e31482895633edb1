/- The walk of WordBack: Unquote takes Quote back, whatever follows it but a mark. -/
import Derived.Test.YtbideikffodclaaDoorLive
import Derived.Test.YtbideikffodclaaDoorRefB
namespace Go.Proofs.YtbideikffodclaaDoor
open Go.RowKit Go.Lib

theorem unq_dbl : ∀ (l r : List UInt8), (∀ d r', r = d :: r' → d ≠ 39) → unq (dbl l ++ 39 :: r) = some (l, (dbl l).length)
  | [], [], _ => rfl
  | [], d :: r, h => by
    show unq (39 :: d :: r) = _
    rw [unq_one (h d r rfl)]
    rfl
  | c :: l, r, h => by
    have ih := unq_dbl l r h
    by_cases hc : c = 39
    · subst hc
      simp only [dbl, if_true, List.cons_append]
      rw [unq_two, ih]
      rfl
    · simp only [dbl, if_neg hc, List.cons_append]
      rw [unq_ne hc, ih]
      rfl

theorem quoteR_right {s : ByteArray} (h : rightL s.data.toList = true) : (quoteR s).2 = 0 ∧ (quoteR s).1.data.toList = quoteL s.data.toList := by
  rw [quoteR, h]; exact ⟨rfl, rfl⟩
theorem quoteR_wrong {s : ByteArray} (h : rightL s.data.toList = false) : (quoteR s).2 = 3 ∧ (quoteR s).1 = ⟨#[]⟩ := by
  rw [quoteR, h]; exact ⟨rfl, rfl⟩
theorem back (s x : ByteArray) (r : List UInt8) (h : rightL s.data.toList = true) (hx : x.data.toList = quoteL s.data.toList ++ r) (hr : ∀ d r', r = d :: r' → d ≠ 39) : unquoteR x = (s, ((quoteR s).1.size : Int), 0) := by
  have hq : (quoteR s).1.size = (quoteL s.data.toList).length := by rw [← (quoteR_right h).2]; simp
  have hu := unq_dbl s.data.toList r hr
  have e : x.data.toList = 39 :: (dbl s.data.toList ++ 39 :: r) := by rw [hx]; simp [quoteL]
  rw [unquoteR_some e hu, h, hq]
  have hl : (quoteL s.data.toList).length = (dbl s.data.toList).length + 2 := by simp [quoteL]
  rw [hl]
  simp
theorem head_of {t : ByteArray} (h : ∀ hp : 0 < t.size, ¬ (t[0]'hp).toNat = 39) : ∀ d r', t.data.toList = d :: r' → d ≠ 39 := by
  intro d r' e hd
  have hp : 0 < t.size := by
    have := congrArg List.length e
    simp at this
    omega
  have h0 := drop_cons hp
  rw [List.drop_zero, e] at h0
  have := (List.cons.inj h0).1
  exact h hp (by rw [← this, hd]; rfl)

theorem app_list (a b : ByteArray) : (a ++ b).data.toList = a.data.toList ++ b.data.toList := by simp
theorem app_size (a b : ByteArray) : (a ++ b).size = a.size + b.size := by simp

end Go.Proofs.YtbideikffodclaaDoor
