/- The map of key words; word.keys, word.Key. -/
import Derived.Test.YtdcdglbliemnkaaDoorWordB
import Derived.MapKept
import Derived.Carry
namespace Go.Proofs.YtdcdglbliemnkaaDoor
open Go.RowKit

/-- The key words. -/
def kw : List ByteArray := [⟨#[99, 114, 101, 97, 116, 101]⟩, ⟨#[116, 97, 98, 108, 101]⟩, ⟨#[105, 110, 116]⟩, ⟨#[116, 101, 120, 116]⟩, ⟨#[114, 101, 102, 101, 114, 101, 110, 99, 101, 115]⟩, ⟨#[105, 110, 115, 101, 114, 116]⟩, ⟨#[105, 110, 116, 111]⟩, ⟨#[118, 97, 108, 117, 101, 115]⟩, ⟨#[102, 114, 111, 109]⟩, ⟨#[116, 111]⟩, ⟨#[117, 112, 100, 97, 116, 101]⟩, ⟨#[115, 101, 116]⟩, ⟨#[119, 104, 101, 114, 101]⟩, ⟨#[100, 101, 108, 101, 116, 101]⟩, ⟨#[115, 101, 108, 101, 99, 116]⟩, ⟨#[105, 110]⟩, ⟨#[106, 111, 105, 110]⟩, ⟨#[111, 110]⟩, ⟨#[97, 115]⟩, ⟨#[111, 102]⟩, ⟨#[98, 101, 116, 119, 101, 101, 110]⟩, ⟨#[97, 110, 100]⟩, ⟨#[111, 114, 100, 101, 114]⟩, ⟨#[98, 101, 103, 105, 110]⟩, ⟨#[99, 111, 109, 109, 105, 116]⟩, ⟨#[114, 111, 108, 108, 98, 97, 99, 107]⟩, ⟨#[112, 114, 117, 110, 101]⟩, ⟨#[111, 114]⟩, ⟨#[110, 111, 116]⟩]
def esL : List ByteArray → Nat → List MapEntry
  | [], _ => []
  | s :: l, i => ⟨.string s, .bool true, i⟩ :: esL l (i + 1)
/-- The map of the first i of them. -/
def esOf (i : Nat) : Array MapEntry := (esL (kw.take i) 0).toArray
/-- Is it a key word? -/
def keyB (s : ByteArray) : Bool := kw.any fun k => s == k

theorem esL_snoc : ∀ (l : List ByteArray) (s : ByteArray) (i : Nat), esL (l ++ [s]) i = esL l i ++ [⟨.string s, .bool true, i + l.length⟩]
  | [], _, _ => by simp [esL]
  | x :: l, s, i => by
    simp only [List.cons_append, esL, esL_snoc l s (i + 1), List.length_cons]
    rw [show i + 1 + l.length = i + (l.length + 1) by omega]
theorem esOf_succ (i : Nat) (s : ByteArray) (h : kw[i]? = some s) : (esOf i).push ⟨.string s, .bool true, i⟩ = esOf (i + 1) := by
  have hi : i < kw.length := (List.getElem?_eq_some_iff.1 h).1
  have ht : kw.take (i + 1) = kw.take i ++ [s] := by rw [List.take_add_one, h]; rfl
  unfold esOf
  rw [ht, esL_snoc, List.length_take, Nat.min_eq_left (by omega), Nat.zero_add]
  simp

theorem findNow_esL (s : ByteArray) : ∀ (l : List ByteArray) (i j : Nat), ∃ r, Instr.findNow .string (.string s) (esL l i) j = some r ∧ (r = none → l.any (fun k => s == k) = false) ∧ (∀ q, r = some q → q.2 = .bool true ∧ l.any (fun k => s == k) = true)
  | [], i, j => ⟨none, rfl, fun _ => rfl, fun q h => by cases h⟩
  | k :: l, i, j => by
    simp only [esL, Instr.findNow, Instr.sameNow]
    cases h : s == k with
    | true => exact ⟨_, rfl, fun h => (by cases h), fun q hq => by cases hq; exact ⟨rfl, by simp [h]⟩⟩
    | false =>
      obtain ⟨r, h1, h2, h3⟩ := findNow_esL s l (i + 1) (j + 1)
      exact ⟨r, h1, fun hr => by simp [h, h2 hr], fun q hq => ⟨(h3 q hq).1, by simp [h, (h3 q hq).2]⟩⟩

set_option maxRecDepth 100000 in
theorem run_insertNew (W : World) (b : Nat) (es : Array MapEntry) (c : Nat) (s : ByteArray) (v : Value) (hb : W.heap[b]? = some (.map es c)) (hf : (Instr.findKey 9 (.string s) es.toList).run Tryd.prog W = .ok none W) :
    (Instr.mapUpdate 68 (.map (some b)) (.string s) v).run Tryd.prog W = .ok () { W with heap := W.heap.setIfInBounds b (.map (es.push { key := .string s, val := v, born := c }) (c + 1)) } := by
  have hk : (Instr.checkKey false 10000 9 (.string s)).run Tryd.prog W = .ok () W := MapKept.run_checkKey (P := Tryd.prog) (w := W) Tryd.underlying9 (k := .string s) trivial false 9999
  unfold Instr.mapUpdate
  rw [Sem.run_bind, run_underlying Tryd.underlying68]
  dsimp only [Result.andThen]
  rw [Sem.run_bind, MapKept.run_getObj_map hb]
  dsimp only [Result.andThen]
  rw [Sem.run_bind, hk]
  dsimp only [Result.andThen]
  rw [Sem.run_bind, hf]
  dsimp only [Result.andThen]
  simp [setObj, Sem.run, hb]

theorem alloc_turn (w : World) (A B : Obj) : ({ w.alloc A with heap := (w.alloc A).heap.setIfInBounds w.heap.size B } : World) = w.alloc B := by
  have h : (w.heap.push A).setIfInBounds w.heap.size B = w.heap.push B := by
    apply Array.ext'
    simp [Array.setIfInBounds, Array.toList_push]
  show ({ heap := (w.heap.push A).setIfInBounds w.heap.size B, tape := w.tape, drawn := w.drawn, os := w.os, output := w.output } : World) = _
  rw [h]
  rfl

theorem run_keyInsert (w : World) (i : Nat) (s : ByteArray) (h : kw[i]? = some s) (hn : ((kw.take i).any fun k => s == k) = false) :
    (Instr.mapUpdate 68 (.map (some w.heap.size)) (.string s) (.bool true)).run Tryd.prog (w.alloc (.map (esOf i) i)) = .ok () (w.alloc (.map (esOf (i + 1)) (i + 1))) := by
  have hb : (w.alloc (.map (esOf i) i)).heap[w.heap.size]? = some (.map (esOf i) i) := heap_alloc_new w _
  have hf : (Instr.findKey 9 (.string s) (esOf i).toList).run Tryd.prog (w.alloc (.map (esOf i) i)) = .ok none (w.alloc (.map (esOf i) i)) := by
    obtain ⟨r, h1, h2, h3⟩ := findNow_esL s (kw.take i) 0 0
    cases r with
    | none => exact MapKept.run_findKey Tryd.underlying9 h1
    | some q => have := (h3 q rfl).2; rw [hn] at this; cases this
  rw [run_insertNew _ _ _ _ s (.bool true) hb hf, esOf_succ i s h, alloc_turn]

theorem run_keyLookup (w' : World) (b : Nat) (s : ByteArray) (hb : w'.heap[b]? = some (.map (esOf 29) 29)) :
    (Instr.lookup 68 (.map (some b)) (.string s) false).run Tryd.prog w' = .ok (.bool (keyB s)) w' := by
  obtain ⟨r, h1, h2, h3⟩ := findNow_esL s (kw.take 29) 0 0
  have hz : (zeroValue 4).run Tryd.prog w' = .ok (.bool false) w' := by kernel_rfl
  have e : (esOf 29).toList = esL (kw.take 29) 0 := rfl
  have ek : kw.take 29 = kw := rfl
  have hf : ∀ a, Instr.findNow .string (.string s) (esL (kw.take 29) 0) 0 = some a → (Instr.findKey 9 (.string s) (esOf 29).toList).run Tryd.prog w' = .ok a w' := fun a ha => MapKept.run_findKey Tryd.underlying9 ha
  have hk := MapKept.run_checkKey (P := Tryd.prog) (w := w') Tryd.underlying9 (k := .string s) trivial (esOf 29).isEmpty 9999
  simp only [Instr.lookup, Sem.run_bind, run_underlying Tryd.underlying68, Result.andThen, MapKept.run_getObj_map hb, hk, Sem.run_pure]
  rw [hf _ h1]
  rw [ek] at h2 h3
  cases r with
  | none => simp [hz, keyB, h2 rfl]
  | some q => simp [keyB, (h3 q rfl).1, (h3 q rfl).2]

set_option maxHeartbeats 4000000 in
set_option maxRecDepth 100000 in
theorem word_keys (w : World) :
    Calls Tryd.prog 60 #[] w fun e w' => e = .returned (.map (some w.heap.size)) ∧ w.alloc (.map (esOf 29) 29) = w' := by
  have hmm : (Instr.makeMap 68 none).run Tryd.prog w = .ok (.map (some w.heap.size)) (w.alloc (.map (esOf 0) 0)) := run_makeMap _ w
  have h0 := run_keyInsert w 0 ⟨#[99, 114, 101, 97, 116, 101]⟩ rfl (by decide +kernel)
  have h1 := run_keyInsert w 1 ⟨#[116, 97, 98, 108, 101]⟩ rfl (by decide +kernel)
  have h2 := run_keyInsert w 2 ⟨#[105, 110, 116]⟩ rfl (by decide +kernel)
  have h3 := run_keyInsert w 3 ⟨#[116, 101, 120, 116]⟩ rfl (by decide +kernel)
  have h4 := run_keyInsert w 4 ⟨#[114, 101, 102, 101, 114, 101, 110, 99, 101, 115]⟩ rfl (by decide +kernel)
  have h5 := run_keyInsert w 5 ⟨#[105, 110, 115, 101, 114, 116]⟩ rfl (by decide +kernel)
  have h6 := run_keyInsert w 6 ⟨#[105, 110, 116, 111]⟩ rfl (by decide +kernel)
  have h7 := run_keyInsert w 7 ⟨#[118, 97, 108, 117, 101, 115]⟩ rfl (by decide +kernel)
  have h8 := run_keyInsert w 8 ⟨#[102, 114, 111, 109]⟩ rfl (by decide +kernel)
  have h9 := run_keyInsert w 9 ⟨#[116, 111]⟩ rfl (by decide +kernel)
  have h10 := run_keyInsert w 10 ⟨#[117, 112, 100, 97, 116, 101]⟩ rfl (by decide +kernel)
  have h11 := run_keyInsert w 11 ⟨#[115, 101, 116]⟩ rfl (by decide +kernel)
  have h12 := run_keyInsert w 12 ⟨#[119, 104, 101, 114, 101]⟩ rfl (by decide +kernel)
  have h13 := run_keyInsert w 13 ⟨#[100, 101, 108, 101, 116, 101]⟩ rfl (by decide +kernel)
  have h14 := run_keyInsert w 14 ⟨#[115, 101, 108, 101, 99, 116]⟩ rfl (by decide +kernel)
  have h15 := run_keyInsert w 15 ⟨#[105, 110]⟩ rfl (by decide +kernel)
  have h16 := run_keyInsert w 16 ⟨#[106, 111, 105, 110]⟩ rfl (by decide +kernel)
  have h17 := run_keyInsert w 17 ⟨#[111, 110]⟩ rfl (by decide +kernel)
  have h18 := run_keyInsert w 18 ⟨#[97, 115]⟩ rfl (by decide +kernel)
  have h19 := run_keyInsert w 19 ⟨#[111, 102]⟩ rfl (by decide +kernel)
  have h20 := run_keyInsert w 20 ⟨#[98, 101, 116, 119, 101, 101, 110]⟩ rfl (by decide +kernel)
  have h21 := run_keyInsert w 21 ⟨#[97, 110, 100]⟩ rfl (by decide +kernel)
  have h22 := run_keyInsert w 22 ⟨#[111, 114, 100, 101, 114]⟩ rfl (by decide +kernel)
  have h23 := run_keyInsert w 23 ⟨#[98, 101, 103, 105, 110]⟩ rfl (by decide +kernel)
  have h24 := run_keyInsert w 24 ⟨#[99, 111, 109, 109, 105, 116]⟩ rfl (by decide +kernel)
  have h25 := run_keyInsert w 25 ⟨#[114, 111, 108, 108, 98, 97, 99, 107]⟩ rfl (by decide +kernel)
  have h26 := run_keyInsert w 26 ⟨#[112, 114, 117, 110, 101]⟩ rfl (by decide +kernel)
  have h27 := run_keyInsert w 27 ⟨#[111, 114]⟩ rfl (by decide +kernel)
  have h28 := run_keyInsert w 28 ⟨#[110, 111, 116]⟩ rfl (by decide +kernel)
  go_enter Tryd.func60, Tryd.ntmps60
  go_wp2
  go_ret
  exact ⟨rfl, rfl⟩

theorem word_key (s : ByteArray) (w : World) :
    Calls Tryd.prog 29 #[.string s] w fun e w' => e = .returned (.bool (keyB s)) ∧ Below w.heap.size w w' := by
  have hl := run_keyLookup (w.alloc (.map (esOf 29) 29)) w.heap.size s (heap_alloc_new w _)
  go_enter Tryd.func29, Tryd.ntmps29
  go_wp2_with fail
  refine (word_keys _).mono ?_
  rintro e w' ⟨rfl, rfl⟩
  go_wp2
  go_ret
  exact ⟨rfl, (Below.refl _ _).alloc (Nat.le_refl _) _⟩
end Go.Proofs.YtdcdglbliemnkaaDoor
