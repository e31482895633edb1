/- Comparing is turned when its two sides are, and goes on over three. No program in sight. -/
import Derived.Test.YtafbphiedaijmaaDoorCmpV
namespace Go.Proofs.YtafbphiedaijmaaDoor
open Go.Lib

/-- What three comparisons have to do with one another. -/
def Tr (x y z : Int) : Prop := (x = 0 → z = y) ∧ (y = 0 → z = x) ∧ (x < 0 → y < 0 → z < 0)
theorem Tr.or {x y z x' y' z' : Int} (h : Tr x y z) (h' : Tr x' y' z') : Tr (if x = 0 then x' else x) (if y = 0 then y' else y) (if z = 0 then z' else z) := by
  obtain ⟨a1, a2, a3⟩ := h
  obtain ⟨b1, b2, b3⟩ := h'
  by_cases hx : x = 0
  · have hz := a1 hx
    by_cases hy : y = 0
    · rw [if_pos hx, if_pos hy, if_pos (by omega)]
      exact ⟨b1, b2, b3⟩
    · rw [if_pos hx, if_neg hy, if_neg (by omega), hz]
      exact ⟨fun _ => rfl, fun h => absurd h hy, fun _ h => h⟩
  · by_cases hy : y = 0
    · have hz := a2 hy
      rw [if_neg hx, if_pos hy, if_neg (by omega), hz]
      exact ⟨fun h => absurd h hx, fun _ => rfl, fun h _ => h⟩
    · rw [if_neg hx, if_neg hy]
      refine ⟨fun h => absurd h hx, fun h => absurd h hy, fun h1 h2 => ?_⟩
      have := a3 h1 h2
      rw [if_neg (by omega)]
      exact this
theorem cmpI_tr (a b c : Int) : Tr (cmpI a b) (cmpI b c) (cmpI a c) := by
  unfold Tr cmpI
  repeat' split
  all_goals omega
theorem cmpI_turn (a b : Int) : cmpI b a = - cmpI a b := by
  unfold cmpI
  repeat' split
  all_goals omega
theorem cmpI_range (a b : Int) : -1 ≤ cmpI a b ∧ cmpI a b ≤ 1 := by
  unfold cmpI
  repeat' split
  all_goals omega
theorem u8lt (a b : UInt8) : (a < b) = (a.toNat < b.toNat) := propext UInt8.lt_iff_toNat_lt
theorem cb_step (a b : UInt8) (r bs : List UInt8) : compareBytes (a :: r) (b :: bs) = if cmpI a.toNat b.toNat = 0 then compareBytes r bs else cmpI a.toNat b.toNat := by
  simp only [compareBytes, u8lt]
  by_cases h1 : a.toNat < b.toNat
  · have c : cmpI a.toNat b.toNat = -1 := by unfold cmpI; rw [if_pos (by omega)]
    rw [if_pos h1, c]; rfl
  · by_cases h2 : b.toNat < a.toNat
    · have c : cmpI a.toNat b.toNat = 1 := by unfold cmpI; rw [if_neg (by omega), if_pos (by omega)]
      rw [if_neg h1, if_pos h2, c]; rfl
    · have c : cmpI a.toNat b.toNat = 0 := by unfold cmpI; rw [if_neg (by omega), if_neg (by omega)]
      rw [if_neg h1, if_neg h2, c]; rfl
theorem cb_tr : ∀ a b c : List UInt8, Tr (compareBytes a b) (compareBytes b c) (compareBytes a c)
  | [], [], [] => by simp [Tr, compareBytes]
  | [], [], _ :: _ => by simp [Tr, compareBytes]
  | [], _ :: _, [] => by simp [Tr, compareBytes]
  | _ :: _, [], [] => by simp [Tr, compareBytes]
  | _ :: _, [], _ :: _ => by simp [Tr, compareBytes]
  | [], b :: bs, c :: cs => by
    simp only [Tr, compareBytes]
    refine ⟨?_, ?_, ?_⟩ <;> intros <;> first | trivial | omega
  | a :: r, b :: bs, [] => by
    simp only [Tr, compareBytes]
    refine ⟨?_, ?_, ?_⟩ <;> intros <;> first | trivial | omega
  | a :: r, b :: bs, c :: cs => by
    rw [cb_step, cb_step, cb_step]
    exact (cmpI_tr _ _ _).or (cb_tr r bs cs)
theorem cb_turn : ∀ a b : List UInt8, compareBytes b a = - compareBytes a b
  | [], [] => rfl
  | [], _ :: _ => rfl
  | _ :: _, [] => rfl
  | a :: r, b :: bs => by
    rw [cb_step, cb_step, cmpI_turn a.toNat b.toNat, cb_turn r bs]
    generalize cmpI a.toNat b.toNat = x
    by_cases hx : x = 0
    · rw [if_pos hx, if_pos (by omega)]
    · rw [if_neg hx, if_neg (by omega)]
theorem cb_range : ∀ a b : List UInt8, -1 ≤ compareBytes a b ∧ compareBytes a b ≤ 1
  | [], [] => by simp [compareBytes]
  | [], _ :: _ => by simp [compareBytes]
  | _ :: _, [] => by simp [compareBytes]
  | a :: r, b :: bs => by
    have ih := cb_range r bs
    simp only [compareBytes]
    repeat' split
    all_goals omega

/-- How two values stand to one another. -/
def cV (k1 n1 : Int) (s1 : ByteArray) (k2 n2 : Int) (s2 : ByteArray) : Int := orI [cmpI k1 k2, cmpI n1 n2, compareBytes s1.data.toList s2.data.toList]
theorem cV_eq (k1 n1 : Int) (s1 : ByteArray) (k2 n2 : Int) (s2 : ByteArray) : cV k1 n1 s1 k2 n2 s2 = if cmpI k1 k2 = 0 then (if cmpI n1 n2 = 0 then (if compareBytes s1.data.toList s2.data.toList = 0 then 0 else compareBytes s1.data.toList s2.data.toList) else cmpI n1 n2) else cmpI k1 k2 := rfl
theorem cV_tr (k1 n1 : Int) (s1 : ByteArray) (k2 n2 : Int) (s2 : ByteArray) (k3 n3 : Int) (s3 : ByteArray) : Tr (cV k1 n1 s1 k2 n2 s2) (cV k2 n2 s2 k3 n3 s3) (cV k1 n1 s1 k3 n3 s3) := by
  rw [cV_eq, cV_eq, cV_eq]
  exact (cmpI_tr k1 k2 k3).or ((cmpI_tr n1 n2 n3).or ((cb_tr _ _ _).or ⟨fun _ => rfl, fun _ => rfl, fun h _ => h⟩))
theorem cV_turn (k1 n1 : Int) (s1 : ByteArray) (k2 n2 : Int) (s2 : ByteArray) : cV k2 n2 s2 k1 n1 s1 = - cV k1 n1 s1 k2 n2 s2 := by
  rw [cV_eq, cV_eq, cmpI_turn k1 k2, cmpI_turn n1 n2, cb_turn s1.data.toList s2.data.toList]
  generalize cmpI k1 k2 = x
  generalize cmpI n1 n2 = y
  generalize compareBytes s1.data.toList s2.data.toList = z
  by_cases hx : x = 0 <;> by_cases hy : y = 0 <;> by_cases hz : z = 0 <;> simp [hx, hy, hz]
theorem cV_range (k1 n1 : Int) (s1 : ByteArray) (k2 n2 : Int) (s2 : ByteArray) : -1 ≤ cV k1 n1 s1 k2 n2 s2 ∧ cV k1 n1 s1 k2 n2 s2 ≤ 1 := by
  rw [cV_eq]
  have h1 := cmpI_range k1 k2
  have h2 := cmpI_range n1 n2
  have h3 := cb_range s1.data.toList s2.data.toList
  repeat' split
  all_goals omega
theorem cV_self (k n : Int) (s : ByteArray) : cV k n s k n s = 0 := by
  have := cV_turn k n s k n s
  omega
end Go.Proofs.YtafbphiedaijmaaDoor
