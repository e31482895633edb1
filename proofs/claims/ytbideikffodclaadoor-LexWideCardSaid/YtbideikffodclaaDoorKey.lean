/- The map of key words; word.keys, word.Key. -/
import Derived.Test.YtbideikffodclaaDoorWordB
import Derived.MapKept
import Derived.Carry
namespace Go.Proofs.YtbideikffodclaaDoor
open Go.RowKit

/-- The key words. -/
def kw : List ByteArray := [⟨#[99, 114, 101, 97, 116, 101]⟩, ⟨#[116, 97, 98, 108, 101]⟩, ⟨#[105, 110, 116]⟩, ⟨#[116, 101, 120, 116]⟩, ⟨#[114, 101, 102, 101, 114, 101, 110, 99, 101, 115]⟩, ⟨#[105, 110, 115, 101, 114, 116]⟩, ⟨#[105, 110, 116, 111]⟩, ⟨#[118, 97, 108, 117, 101, 115]⟩, ⟨#[102, 114, 111, 109]⟩, ⟨#[116, 111]⟩, ⟨#[117, 112, 100, 97, 116, 101]⟩, ⟨#[115, 101, 116]⟩, ⟨#[119, 104, 101, 114, 101]⟩, ⟨#[100, 101, 108, 101, 116, 101]⟩, ⟨#[115, 101, 108, 101, 99, 116]⟩, ⟨#[105, 110]⟩, ⟨#[106, 111, 105, 110]⟩, ⟨#[111, 110]⟩, ⟨#[97, 115]⟩, ⟨#[111, 102]⟩, ⟨#[98, 101, 116, 119, 101, 101, 110]⟩, ⟨#[97, 110, 100]⟩, ⟨#[111, 114, 100, 101, 114]⟩, ⟨#[98, 101, 103, 105, 110]⟩, ⟨#[99, 111, 109, 109, 105, 116]⟩, ⟨#[114, 111, 108, 108, 98, 97, 99, 107]⟩, ⟨#[112, 114, 117, 110, 101]⟩, ⟨#[111, 114]⟩, ⟨#[110, 111, 116]⟩]
def esL : List ByteArray → Nat → List MapEntry
  | [], _ => []
  | s :: l, i => ⟨.string s, .bool true, i⟩ :: esL l (i + 1)
/-- The map of the first i of them. -/
def esOf (i : Nat) : Array MapEntry := (esL (kw.take i) 0).toArray
/-- Is it a key word? -/
def keyB (s : ByteArray) : Bool := kw.any fun k => s == k

theorem esL_snoc : ∀ (l : List ByteArray) (s : ByteArray) (i : Nat), esL (l ++ [s]) i = esL l i ++ [⟨.string s, .bool true, i + l.length⟩]
  | [], _, _ => by simp [esL]
  | x :: l, s, i => by
    simp only [List.cons_append, esL, esL_snoc l s (i + 1), List.length_cons]
    rw [show i + 1 + l.length = i + (l.length + 1) by omega]
theorem esOf_succ (i : Nat) (s : ByteArray) (h : kw[i]? = some s) : (esOf i).push ⟨.string s, .bool true, i⟩ = esOf (i + 1) := by
  have hi : i < kw.length := (List.getElem?_eq_some_iff.1 h).1
  have ht : kw.take (i + 1) = kw.take i ++ [s] := by rw [List.take_add_one, h]; rfl
  unfold esOf
  rw [ht, esL_snoc, List.length_take, Nat.min_eq_left (by omega), Nat.zero_add]
  simp

theorem findNow_esL (s : ByteArray) : ∀ (l : List ByteArray) (i j : Nat), ∃ r, Instr.findNow .string (.string s) (esL l i) j = some r ∧ (r = none → l.any (fun k => s == k) = false) ∧ (∀ q, r = some q → q.2 = .bool true ∧ l.any (fun k => s == k) = true)
  | [], i, j => ⟨none, rfl, fun _ => rfl, fun q h => by cases h⟩
  | k :: l, i, j => by
    simp only [esL, Instr.findNow, Instr.sameNow]
    cases h : s == k with
    | true => exact ⟨_, rfl, fun h => (by cases h), fun q hq => by cases hq; exact ⟨rfl, by simp [h]⟩⟩
    | false =>
      obtain ⟨r, h1, h2, h3⟩ := findNow_esL s l (i + 1) (j + 1)
      exact ⟨r, h1, fun hr => by simp [h, h2 hr], fun q hq => ⟨(h3 q hq).1, by simp [h, (h3 q hq).2]⟩⟩

theorem alloc_turn (w : World) (A B : Obj) : ({ w.alloc A with heap := (w.alloc A).heap.setIfInBounds w.heap.size B } : World) = w.alloc B := by
  have h : (w.heap.push A).setIfInBounds w.heap.size B = w.heap.push B := by
    apply Array.ext'
    simp [Array.setIfInBounds, Array.toList_push]
  show ({ heap := (w.heap.push A).setIfInBounds w.heap.size B, tape := w.tape, drawn := w.drawn, os := w.os, output := w.output } : World) = _
  rw [h]
  rfl

end Go.Proofs.YtbideikffodclaaDoor
