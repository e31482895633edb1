/- What lex computes, over bytes. No program in sight. -/
import Derived.Test.YtbideikffodclaaDoorParse
import Derived.Test.YtbideikffodclaaDoorFold
namespace Go.Proofs.YtbideikffodclaaDoor
open Go.Lib

def letB (c : UInt8) : Bool := (decide (97 ≤ c.toNat) && decide (c.toNat ≤ 122)) || (decide (65 ≤ c.toNat) && decide (c.toNat ≤ 90))
def wordB (c : UInt8) : Bool := letB c || isD c || c == 95
/-- How many bytes at the begin are of a class. -/
def runN (p : UInt8 → Bool) (l : List UInt8) : Nat := (l.takeWhile p).length
def signs : List ByteArray := [⟨#[60, 61]⟩, ⟨#[62, 61]⟩, ⟨#[60, 62]⟩, ⟨#[40]⟩, ⟨#[41]⟩, ⟨#[44]⟩, ⟨#[61]⟩, ⟨#[60]⟩, ⟨#[62]⟩, ⟨#[42]⟩]
/-- The sign that a text begins with. -/
def signR (s : ByteArray) : ByteArray := (signs.find? fun x => hasPrefix s.data.toList x.data.toList).getD ⟨#[]⟩
structure Tk where
  k : Int
  t : ByteArray
  n : Int
deriving DecidableEq
def noT : Tk × Nat := (⟨0, ⟨#[]⟩, 0⟩, 0)
def namedR (s : ByteArray) : Tk × Nat :=
  if 12 < runN wordB s.data.toList then noT else (⟨1, ⟨(foldL (s.extract 0 (runN wordB s.data.toList)).data.toList).toArray⟩, 0⟩, runN wordB s.data.toList)
def numberN (s : ByteArray) : Nat := 1 + runN isD (s.extract 1 s.size).data.toList
def numberR (s : ByteArray) : Tk × Nat :=
  if (parseR (s.extract 0 (numberN s))).e = 0 then (⟨2, s.extract 0 (numberN s), (parseR (s.extract 0 (numberN s))).n⟩, numberN s) else noT
def quotedR (s : ByteArray) : Tk × Nat :=
  if (unquoteR s).2.2 = 0 then (⟨3, (unquoteR s).1, 0⟩, (unquoteR s).2.1.toNat) else noT
def signedR (s : ByteArray) : Tk × Nat := (⟨4, signR s, 0⟩, (signR s).size)
/-- The token that a text begins with, whose first byte is c, and how many bytes it has; none: 0. -/
def nextR (c : UInt8) (s : ByteArray) : Tk × Nat :=
  if letB c = true then namedR s else if isD c = true ∨ c = 45 then numberR s else if c = 39 then quotedR s else signedR s
def spB (c : UInt8) : Bool := c == 32 || c == 9 || c == 10 || c == 13
/-- A text's tokens, each with its place; or where it goes wrong, and how. -/
structure TR where
  l : List (Tk × Nat)
  i : Nat
  e : Int
deriving DecidableEq
def tokD (s : ByteArray) : Nat → Nat → List (Tk × Nat) → TR
  | 0, _, acc => ⟨acc, 0, 0⟩
  | f + 1, p, acc =>
    if s.size ≤ p then ⟨acc, 0, 0⟩
    else if spB (s.data.toList.getD p 0) = true then tokD s f (p + 1) acc
    else if (nextR (s.data.toList.getD p 0) (s.extract p s.size)).2 = 0 then ⟨[], p, 8⟩
    else if 100 ≤ acc.length then ⟨[], p, 4⟩
    else tokD s f (p + (nextR (s.data.toList.getD p 0) (s.extract p s.size)).2) (acc ++ [((nextR (s.data.toList.getD p 0) (s.extract p s.size)).1, p)])
def tokR (s : ByteArray) : TR := if 400 < s.size then ⟨[], 0, 4⟩ else tokD s s.size 0 []
end Go.Proofs.YtbideikffodclaaDoor
