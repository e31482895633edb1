/- word.letter, word.further, word.Name; the reference's Key and Name. -/
import Derived.Test.YtbideikffodclaaDoorKey
namespace Go.Proofs.YtbideikffodclaaDoor
open Go.RowKit Go.Lib

def lttI (r : Int) : Bool := decide (97 ≤ r) && decide (r ≤ 122)
def furI (r : Int) : Bool := lttI r || (decide (48 ≤ r) && decide (r ≤ 57)) || r == 95

/-- A byte of a name; its first one. -/
def furB (c : UInt8) : Bool := furI c.toNat
def lttB (c : UInt8) : Bool := lttI c.toNat
def nameL (l : List UInt8) : Bool := match l with
  | [] => true
  | c :: r => lttB c && (furB c && r.all furB)
def nameB (s : ByteArray) : Bool := decide (1 ≤ s.size) && decide (s.size ≤ 8) && !keyB s && nameL s.data.toList
/-- .. from place i on. -/
def nameAt (l : List UInt8) (i : Nat) : Bool := if i = 0 then nameL l else (l.drop i).all furB
theorem fur_high {r : Int} (h : 128 ≤ r) : furI r = false := by
  unfold furI lttI
  rw [decide_eq_false (show ¬ r ≤ 122 by omega), decide_eq_false (show ¬ r ≤ 57 by omega), beq_eq_false_iff_ne.2 (show r ≠ 95 by omega)]
  simp
theorem ltt_fur {r : Int} (h : lttI r = true) : furI r = true := by unfold furI; rw [h]; rfl
theorem nameAt_step {s : ByteArray} {i : Nat} (hp : i < s.size) : nameAt s.data.toList i = ((decide (i ≠ 0) || lttB (s[i]'hp)) && (furB (s[i]'hp) && nameAt s.data.toList (i + 1))) := by
  unfold nameAt
  rw [if_neg (show ¬ i + 1 = 0 by omega)]
  by_cases h : i = 0
  · subst h
    have := drop_cons hp
    rw [List.drop_zero] at this
    rw [if_pos rfl, this]
    simp [nameL]
  · rw [if_neg h, drop_cons hp]
    simp [h]
theorem nameAt_end {s : ByteArray} {i : Nat} (hp : ¬ i < s.size) : nameAt s.data.toList i = true := by
  unfold nameAt
  have := drop_nil hp
  split
  · rename_i h; subst h
    rw [List.drop_zero] at this
    rw [this]; rfl
  · rw [this]; rfl

end Go.Proofs.YtbideikffodclaaDoor
