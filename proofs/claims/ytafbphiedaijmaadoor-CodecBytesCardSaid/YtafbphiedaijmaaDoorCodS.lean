/- Rows as data: what codec computes. No program in sight. -/
import Derived.Test.YtafbphiedaijmaaDoorVs
namespace Go.Proofs.YtafbphiedaijmaaDoor
open Go.RowKit Go.Lib

structure Rw where
  l : List Vl
  f : Int
  t : Int
deriving DecidableEq
def Rw.ok (r : Rw) : Prop := (∀ x ∈ r.l, x.ok) ∧ (-9223372036854775808 ≤ r.f ∧ r.f ≤ 9223372036854775807) ∧ (-9223372036854775808 ≤ r.t ∧ r.t ≤ 9223372036854775807)
def spanB (f t : Int) : Bool := decide (-1000 ≤ f) && decide (f < t) && decide (t ≤ 1000)
theorem spanB_iff {f t : Int} : spanB f t = true ↔ -1000 ≤ f ∧ f < t ∧ t ≤ 1000 := by unfold spanB; simp [and_assoc]
/-- Can a row be? -/
def Rw.b (r : Rw) : Bool := decide (1 ≤ r.l.length) && decide (r.l.length ≤ 4) && r.l.all Vl.b && spanB r.f r.t
theorem Rw.b_iff {r : Rw} : r.b = true ↔ (1 ≤ r.l.length ∧ r.l.length ≤ 4) ∧ (∀ x ∈ r.l, x.b = true) ∧ spanB r.f r.t = true := by
  unfold Rw.b; simp [and_assoc]
/-- A point's two bytes. -/
def twoL (p : Int) : List UInt8 := [UInt8.ofNat ((p + 1000).toNat / 256), UInt8.ofNat ((p + 1000).toNat % 256)]
def Rw.bytes (r : Rw) : List UInt8 := r.l.flatMap Vl.bytes ++ [0] ++ twoL r.f ++ twoL r.t
theorem Rw.bytes_le {r : Rw} (h : r.b = true) : r.bytes.length ≤ 141 := by
  obtain ⟨⟨_, h1⟩, h2, _⟩ := Rw.b_iff.1 h
  have := flat_bytes_le r.l h2
  unfold Rw.bytes twoL
  simp only [List.length_append, List.length_cons, List.length_nil]
  omega

/-- Which of two comes first. -/
def cmpW (a b : Vl) : Int := cV a.k a.n a.s b.k b.n b.s
def valsC : List Vl → List Vl → Int
  | [], [] => 0
  | [], _ :: _ => -1
  | _ :: _, [] => 1
  | a :: l, b :: m => if cmpW a b = 0 then valsC l m else cmpW a b
def rowC (a b : Rw) : Int := orI [valsC a.l b.l, cmpI a.f b.f, cmpI a.t b.t]
theorem valsC_at (l m : List Vl) (k : Nat) {a b : Vl} (ha : l[k]? = some a) (hb : m[k]? = some b) : valsC (l.drop k) (m.drop k) = if cmpW a b = 0 then valsC (l.drop (k + 1)) (m.drop (k + 1)) else cmpW a b := by
  obtain ⟨h1, e1⟩ := List.getElem?_eq_some_iff.1 ha
  obtain ⟨h2, e2⟩ := List.getElem?_eq_some_iff.1 hb
  rw [List.drop_eq_getElem_cons h1, List.drop_eq_getElem_cons h2, e1, e2, valsC]
theorem valsC_end (l m : List Vl) (k : Nat) (h : l.length ≤ k ∨ m.length ≤ k) (hl : k ≤ l.length) (hm : k ≤ m.length) : valsC (l.drop k) (m.drop k) = cmpI l.length m.length := by
  unfold cmpI
  rcases Nat.lt_or_ge k l.length with h1 | h1
  · have h2 : m.length = k := by omega
    have em : m.drop k = [] := List.drop_eq_nil_of_le (by omega)
    rw [List.drop_eq_getElem_cons h1, em, valsC, if_neg (by omega), if_pos (by omega)]
  · have e : l.drop k = [] := List.drop_eq_nil_of_le h1
    rw [e]
    rcases Nat.lt_or_ge k m.length with h2 | h2
    · rw [List.drop_eq_getElem_cons h2, valsC, if_pos (by omega)]
    · have em : m.drop k = [] := List.drop_eq_nil_of_le h2
      rw [em, valsC, if_neg (by omega), if_neg (by omega)]
def Rw.key (r : Rw) : List UInt8 := match r.l with
  | [] => []
  | a :: _ => if a.b = true then a.bytes else []
end Go.Proofs.YtafbphiedaijmaaDoor
