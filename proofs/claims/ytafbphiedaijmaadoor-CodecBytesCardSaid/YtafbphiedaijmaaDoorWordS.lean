/- What the functions of package word compute, over lists of bytes. No program in sight. -/
import Derived.Lib.ValidU
import Derived.Lib.TrimUEq
import Derived.Lib.MapLaws
import Derived.Lib.Strings
import Derived.Lib.Replace
import Derived.Lib.RuneCount
namespace Go.Proofs.YtafbphiedaijmaaDoor
open Go.Lib

/-- word.Right, from what is left on: at most so many rounds, n runes having come. -/
def rightD : Nat → List UInt8 → Nat → Bool
  | 0, _, _ => true
  | f + 1, l, n =>
    if l = [] then true
    else if (decodeL l).1 = 65533 ∧ hasPrefix l [239, 191, 189] = false then false
    else if (decodeL l).1 < 32 ∨ (decodeL l).1 = 127 then false
    else if 8 < n + 1 then false
    else rightD f (l.drop (decodeL l).2) (n + 1)
def rightL (l : List UInt8) : Bool := rightD l.length l 0

theorem rightD_nil (f n : Nat) : rightD f [] n = true := by cases f <;> simp [rightD]
theorem rightD_step {f n : Nat} {l : List UInt8} (h : l ≠ []) : rightD (f + 1) l n =
    if (decodeL l).1 = 65533 ∧ hasPrefix l [239, 191, 189] = false then false
    else if (decodeL l).1 < 32 ∨ (decodeL l).1 = 127 then false
    else if 8 < n + 1 then false
    else rightD f (l.drop (decodeL l).2) (n + 1) := by rw [rightD, if_neg h]

theorem width4 (l : List UInt8) : (decodeL l).2 ≤ 4 := by
  rw [decodeL_N]
  unfold decodeN
  repeat' split
  all_goals simp
theorem rightD_short : ∀ (f : Nat) (l : List UInt8) (n : Nat), rightD f l n = true → l.length ≤ f → n ≤ 8 → l.length ≤ 4 * (8 - n)
  | 0, l, n, _, h, _ => by omega
  | f + 1, l, n, h, hl, hn => by
    by_cases hne : l = []
    · subst hne; simp
    · rw [rightD_step hne] at h
      split at h
      · cases h
      · split at h
        · cases h
        · split at h
          · cases h
          · have hw := decodeL_width l
            have h4 := width4 l
            have ih := rightD_short f (l.drop (decodeL l).2) (n + 1) h (by rw [List.length_drop]; omega) (by omega)
            rw [List.length_drop] at ih
            omega
/-- A text that may be a value is short. -/
theorem right_short {l : List UInt8} (h : rightL l = true) : l.length ≤ 32 := by
  have := rightD_short l.length l 0 h (Nat.le_refl _) (by omega)
  omega

/-- How many runes. -/
def runesD : Nat → List UInt8 → Nat
  | 0, _ => 0
  | f + 1, l => if l = [] then 0 else 1 + runesD f (l.drop (decodeL l).2)
def runesL (l : List UInt8) : Nat := runesD l.length l

/-- How many bytes the first n runes have. -/
def frontD : Nat → List UInt8 → Int → Nat
  | 0, _, _ => 0
  | f + 1, l, n => if l = [] ∨ n ≤ 0 then 0 else (decodeL l).2 + frontD f (l.drop (decodeL l).2) (n - 1)
def frontN (l : List UInt8) (n : Int) : Nat := frontD l.length l n

/-- The text up to the mark that ends it, behind the first mark, and where that mark stands. -/
def unq : List UInt8 → Option (List UInt8 × Nat)
  | [] => none
  | [c] => if c = 39 then some ([], 0) else none
  | c :: d :: r => if c ≠ 39 then (unq (d :: r)).map fun p => (c :: p.1, p.2 + 1) else if d ≠ 39 then some ([], 0) else (unq r).map fun p => (39 :: p.1, p.2 + 2)
/-- Where the mark stands that ends a text, counted from a place on. -/
def closesAt (l : List UInt8) (i : Nat) : Option Nat := (unq l).map fun p => i + p.2
theorem closesAt_nil (i : Nat) : closesAt [] i = none := rfl
theorem closesAt_ne {c : UInt8} {r : List UInt8} {i : Nat} (h : c ≠ 39) : closesAt (c :: r) i = closesAt r (i + 1) := by
  cases r with
  | nil => simp [closesAt, unq, h]
  | cons d r =>
    simp only [closesAt, unq, if_pos h, Option.map_map]
    congr 1
    funext p
    simp
    omega
theorem closesAt_end {i : Nat} : closesAt [39] i = some i := rfl
theorem closesAt_one {d : UInt8} {r : List UInt8} {i : Nat} (h : d ≠ 39) : closesAt (39 :: d :: r) i = some i := by
  simp [closesAt, unq, h]
theorem closesAt_two {r : List UInt8} {i : Nat} : closesAt (39 :: 39 :: r) i = closesAt r (i + 2) := by
  simp only [closesAt, unq, ne_eq, not_true_eq_false, if_false, Option.map_map]
  congr 1
  funext p
  simp
  omega
end Go.Proofs.YtafbphiedaijmaaDoor
