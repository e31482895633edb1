/- What a call changed: these blocks alone, and new ones; rows whose elements are stored. No program in sight. -/
import Derived.Test.YtafbphiedaijmaaDoorBlk
import Derived.Test.YtafbphiedaijmaaDoorSl
import Derived.Laws.CopyRow
import Derived.Laws.Tables
namespace Go.Proofs.YtafbphiedaijmaaDoor
open Go.RowKit

/-- The world behind differs from the one ahead in these blocks alone, and in new ones. -/
structure Mod (F : Nat → Prop) (w w' : World) : Prop where
  os : w'.os = w.os
  tape : w'.tape = w.tape
  output : w'.output = w.output
  size : w.heap.size ≤ w'.heap.size
  block : ∀ k, k < w.heap.size → ¬ F k → w'.heap[k]? = w.heap[k]?

section
variable {F G H : Nat → Prop} {a b c w w' : World} {B : Nat}
theorem Mod.refl (F : Nat → Prop) (w : World) : Mod F w w := ⟨rfl, rfl, rfl, Nat.le_refl _, fun _ _ _ => rfl⟩
theorem Mod.trans (h : Mod F a b) (k : Mod G b c) (hG : ∀ i, G i → F i ∨ a.heap.size ≤ i) : Mod F a c :=
  ⟨k.os.trans h.os, k.tape.trans h.tape, k.output.trans h.output, Nat.le_trans h.size k.size, fun i hi hn => (k.block i (Nat.lt_of_lt_of_le hi h.size) (fun hg => by
    rcases hG i hg with h1 | h1
    · exact hn h1
    · omega)).trans (h.block i hi hn)⟩
theorem Mod.wider (h : Mod F a b) (hF : ∀ i, F i → G i) : Mod G a b := ⟨h.os, h.tape, h.output, h.size, fun i hi hn => h.block i hi (fun hf => hn (hF i hf))⟩
theorem Mod.of_below (F : Nat → Prop) (h : Below w.heap.size w w') : Mod F w w' := ⟨h.os, h.tape, h.output, h.size, fun i hi _ => h.block i hi⟩
theorem Mod.below (hb : Below B a w) (h : Mod F w w') (hF : ∀ i, F i → B ≤ i) (hB : B ≤ w.heap.size) : Below B a w' :=
  hb.trans ⟨h.os, h.tape, h.output, h.size, fun i hi => h.block i (by omega) (fun hf => by have := hF i hf; omega)⟩
theorem Mod.then_below (h : Mod F a w) (hb : Below w.heap.size w w') : Mod F a w' := h.trans (Mod.of_below F hb) (fun _ hi => .inl hi)
theorem Mod.then_belowB (h : Mod F a w) (hb : Below B w w') (hF : ∀ i, B ≤ i → i < w.heap.size → F i ∨ a.heap.size ≤ i) : Mod F a w' :=
  ⟨hb.os.trans h.os, hb.tape.trans h.tape, hb.output.trans h.output, Nat.le_trans h.size hb.size, fun i hi hn => (hb.block i (by
    rcases Nat.lt_or_ge i B with h1 | h1
    · exact h1
    · rcases hF i h1 (Nat.lt_of_lt_of_le hi h.size) with h2 | h2
      · exact absurd h2 hn
      · omega)).trans (h.block i hi hn)⟩
theorem Mod.grown {row : Option Nat} (h : w.grownBy w' row) (hr : ∀ k, row = some k → F k) : Mod F w w' :=
  ⟨h.os, h.tape, h.output, h.size, fun i hi hn => h.block i hi (fun e => hn (hr i e.symm))⟩
theorem Mod.then_grown (h : Mod F a w) {row : Option Nat} (hg : w.grownBy w' row) (hr : ∀ k, row = some k → F k ∨ a.heap.size ≤ k) : Mod F a w' :=
  h.trans (G := fun k => row = some k) (Mod.grown hg fun _ e => e) hr
theorem Mod.set (w : World) (p : Addr) (u : Value) : Mod (· = p.block) w (w.setCell p u) :=
  ⟨rfl, rfl, rfl, by simp [World.setCell], fun i _ hn => Below.heap_setCell w p u i hn⟩
theorem Mod.then_set (h : Mod F a w) {p : Addr} (hp : F p.block ∨ a.heap.size ≤ p.block) (u : Value) : Mod F a (w.setCell p u) :=
  h.trans (Mod.set w p u) (fun i e => by subst e; exact hp)
theorem Mod.setRow (w : World) (g : Nat) (cs : Array Value) : Mod (· = g) w (w.setRow g cs) :=
  ⟨rfl, rfl, rfl, by simp [World.setRow], fun i _ hn => setRow_other w g i cs hn⟩
theorem Mod.then_setRow (h : Mod F a w) {g : Nat} (hp : F g ∨ a.heap.size ≤ g) (cs : Array Value) : Mod F a (w.setRow g cs) :=
  h.trans (Mod.setRow w g cs) (fun i e => by subst e; exact hp)
theorem Mod.then_alloc (h : Mod F a w) (o : Obj) : Mod F a (w.alloc o) := h.then_below ((Below.refl _ _).alloc (Nat.le_refl _) o)
theorem Mod.then_drew (h : Mod F a w) : Mod F a w.drew := ⟨h.os, h.tape, h.output, h.size, h.block⟩
theorem Mod.then_drewN (h : Mod F a w) (n : Nat) : Mod F a (w.drewN n) := ⟨h.os, h.tape, h.output, h.size, h.block⟩
/-- What lies in none of the blocks is as it was. -/
theorem Blk.mod {g : Nat} {t : TypeId} {cs : Array Value} (h : Blk w g t cs) (m : Mod F w w') (hg : ¬ F g) : Blk w' g t cs := (m.block g h.lt hg).trans h
theorem Mod.cell (m : Mod F w w') {p : Addr} (hl : p.block < w.heap.size) (hp : ¬ F p.block) : w'.cell? p = w.cell? p := World.cell?_of_block (m.block _ hl hp)
variable {α : Type} {size : Nat} {enc : α → List Value} {e : TypeId} {v : Value} {l : List α}
theorem Own.mod (h : Own B e size enc w v l) (m : Mod F w w') (hn : ∀ g, v.ownBlock = some g → ¬ F g) : Own B e size enc w' v l := by
  refine ⟨h.1, ?_⟩
  rcases h.2 with h0 | ⟨g, cap, cur, rfl, hb, hgg, rest⟩
  · exact .inl h0
  · exact .inr ⟨g, cap, cur, rfl, hb, (m.block g (Array.getElem?_eq_some_iff.1 hgg).1 (hn g rfl)).trans hgg, rest⟩
theorem Sl.mod {A : Option Addr} {n c : Nat} (h : Sl size enc w (.slice A n c) l) (m : Mod F w w') (hn : 0 < l.length → ∀ g o, A = some ⟨g, o, none⟩ → ¬ F g) : Sl size enc w' (.slice A n c) l := by
  obtain ⟨A', c', h1, h2, h3, h4⟩ := h
  refine ⟨A', c', h1, h2, h3, fun hp => ?_⟩
  obtain ⟨g, o, e, hlt, hc⟩ := h4 hp
  have hA : A = A' := by simp only [Value.slice.injEq] at h1; exact h1.1
  exact ⟨g, o, e, by have := m.size; omega, fun k x hx j u hu => (m.cell (p := ⟨g, _, none⟩) hlt (hn hp g o (hA.trans e))).trans (hc k x hx j u hu)⟩
theorem Own.ne_blk {g : Nat} {t : TypeId} {cs : Array Value} (h : Own B e size enc w v l) (hb : Blk w g t cs) (hne : e ≠ t) : v.ownBlock ≠ some g := by
  rcases h.2 with ⟨rfl, _⟩ | ⟨g', cap, cur, rfl, _, hg, _⟩
  · simp [Value.ownBlock]
  · intro he
    have : g' = g := by simpa [Value.ownBlock] using he
    subst this
    unfold Blk at hb
    rw [hg] at hb
    injection hb with hb
    injection hb with _ ht
    exact hne ht
theorem Own.some_ {A : Option Addr} {n c : Nat} (h : Own B e size enc w (.slice A n c) l) (hp : 0 < l.length) : ∃ g, A = some ⟨g, 0, none⟩ ∧ n = l.length ∧ n ≤ c ∧ g < w.heap.size ∧ B ≤ g := by
  rcases h.2 with ⟨h0, hl⟩ | ⟨g, cap, cur, h0, hb, hg, hc, _⟩
  · rw [hl] at hp; omega
  · simp only [Value.slice.injEq] at h0
    obtain ⟨rfl, rfl, rfl⟩ := h0
    exact ⟨g, rfl, rfl, hc, (Array.getElem?_eq_some_iff.1 hg).1, hb⟩
theorem Own.own_lt {o n c : Nat} (g : Nat) (h : Own B e size enc w (.slice (some ⟨g, o, none⟩) n c) l) : B ≤ g ∧ g < w.heap.size := by
  rcases h.2 with ⟨h0, _⟩ | ⟨g', cap, cur, h0, hb, hg, _⟩
  · cases h0
  · simp only [Value.slice.injEq, Option.some.injEq, Addr.mk.injEq, and_true] at h0
    obtain ⟨⟨rfl, _⟩, _⟩ := h0
    exact ⟨hb, (Array.getElem?_eq_some_iff.1 hg).1⟩
theorem Own.blk {A : Option Addr} {g n c : Nat} (hA : A = some ⟨g, 0, none⟩) : (Value.slice A n c).ownBlock = some g := by subst hA; rfl
/-- A row's base may be laid lower. -/
theorem Own.lower (h : Own B e size enc w v l) {B' : Nat} (hB : B' ≤ B) : Own B' e size enc w v l := by
  refine ⟨h.1, ?_⟩
  rcases h.2 with h0 | ⟨g, cap, cur, rfl, hb, rest⟩
  · exact .inl h0
  · exact .inr ⟨g, cap, cur, rfl, by omega, rest⟩
/-- A row's base may be laid higher, if its block is. -/
theorem Own.higher (h : Own B e size enc w v l) {B' : Nat} (hB : ∀ g, v.ownBlock = some g → B' ≤ g) : Own B' e size enc w v l := by
  refine ⟨h.1, ?_⟩
  rcases h.2 with h0 | ⟨g, cap, cur, rfl, hb, rest⟩
  · exact .inl h0
  · exact .inr ⟨g, cap, cur, rfl, hB g rfl, rest⟩
end

/-- A block that is known whole reads as a slice; it is a row of the call's own. -/
theorem Sl.of_blk {α : Type} {size : Nat} {enc : α → List Value} {w : World} {g : Nat} {e : TypeId} {cs : Array Value} {l : List α} {n c : Nat} (h : Blk w g e cs) (hs : ∀ x, (enc x).length = size) (hcs : cs = (l.flatMap enc).toArray) (hn : n = l.length) (hc : n ≤ c) :
    Sl size enc w (.slice (some ⟨g, 0, none⟩) n c) l := by
  subst hn hcs
  refine ⟨_, _, rfl, hc, (fun h => by cases h), fun _ => ⟨g, 0, rfl, h.lt, fun k x hx j u hu => ?_⟩⟩
  have hj : j < size := by rw [← hs x]; exact (List.getElem?_eq_some_iff.1 hu).1
  rw [h.cell, List.getElem?_toArray, Nat.zero_add, flat_at hs l hx j hj]
  exact hu
theorem Own.of_blk {α : Type} {size : Nat} {enc : α → List Value} {w : World} {B g : Nat} {e : TypeId} {cs : Array Value} {l : List α} {n : Nat} (h : Blk w g e cs) (hs : ∀ x, (enc x).length = size) (hcs : cs = (l.flatMap enc).toArray) (hn : n = l.length) (hB : B ≤ g) (hm : l.length ≤ maxLen) :
    Own B e size enc w (.slice (some ⟨g, 0, none⟩) n n) l := by
  subst hn hcs
  refine ⟨flat_length hs l, .inr ⟨g, l.length, _, rfl, hB, h, Nat.le_refl _, hm, by simp only [List.size_toArray]; exact flat_length hs l, ?_⟩⟩
  rw [← flat_length hs l]
  exact List.take_length

/-! A thing whose blocks are F becomes one whose blocks are G: what lay in F, or what is new. -/
def Upd (F : Nat → Prop) (w : World) (G : Nat → Prop) (w' : World) : Prop := Mod F w w' ∧ ∀ i, G i → F i ∨ w.heap.size ≤ i
section
variable {F G H K : Nat → Prop} {a b c w w' : World} {B : Nat}
theorem Upd.refl (F : Nat → Prop) (w : World) : Upd F w F w := ⟨Mod.refl _ _, fun _ h => .inl h⟩
theorem Upd.trans (h : Upd F a G b) (k : Upd G b H c) : Upd F a H c := by
  refine ⟨h.1.trans k.1 h.2, fun i hi => ?_⟩
  rcases k.2 i hi with h1 | h1
  · exact h.2 i h1
  · exact .inr (by have := h.1.size; omega)
theorem Upd.below (h : Upd F a G w) (hb : Below w.heap.size w w') : Upd F a G w' := ⟨h.1.then_below hb, h.2⟩
/-- What was apart from it stays apart. -/
theorem Upd.apart (h : Upd F a G b) (hK : ∀ i, K i → i < a.heap.size) (hd : ∀ i, F i → ¬ K i) : ∀ i, G i → ¬ K i := fun i hi hk => by
  rcases h.2 i hi with h1 | h1
  · exact hd i h1 hk
  · have := hK i hk; omega
end

/-! An element is stored into a row. -/
theorem flat_set {α : Type} {size : Nat} {enc : α → List Value} (hs : ∀ x, (enc x).length = size) : ∀ (l : List α) (k : Nat) (x : α), k < l.length →
    (l.set k x).flatMap enc = (l.flatMap enc).take (k * size) ++ enc x ++ (l.flatMap enc).drop (k * size + size)
  | [], _, _, h => by simp at h
  | a :: t, 0, x, _ => by
    have ha := hs a
    simp only [List.set_cons_zero, List.flatMap_cons, Nat.zero_mul, List.take_zero, List.nil_append, Nat.zero_add]
    rw [List.drop_append_of_le_length (by omega), List.drop_eq_nil_of_le (by omega), List.nil_append]
  | a :: t, k + 1, x, h => by
    have ha := hs a
    simp only [List.set_cons_succ, List.flatMap_cons]
    rw [flat_set hs t k x (by simpa using h)]
    obtain ⟨m, hm⟩ : ∃ m, m = k * size := ⟨_, rfl⟩
    have e1 : (k + 1) * size = (enc a).length + m := by rw [Nat.succ_mul, ha, hm]; omega
    rw [e1, ← hm, Nat.add_assoc, List.take_length_add_append, List.drop_length_add_append]
    simp only [List.append_assoc]

section
variable {α : Type} {size : Nat} {enc : α → List Value} {B : Nat} {e : TypeId} {w : World} {l : List α} {P : Program}
theorem info_size {t : TypeId} {n : Nat} (h : (P.info? t).map (·.size) = some n) : ∃ i, P.info? t = some i ∧ i.size = n := by
  cases hq : P.info? t with
  | none => rw [hq] at h; cases h
  | some i => exact ⟨i, rfl, by rw [hq] at h; simpa using h⟩
/-- x goes into the place k of a row: its cells, wherever they come from. -/
theorem run_storeElem {A : Option Addr} {n c : Nat} (h : Own B e size enc w (.slice A n c) l) (hs : ∀ x, (enc x).length = size) (h1 : ∀ x, ∀ u ∈ enc x, u.oneCell' = true) {g : Nat} (hA : A = some ⟨g, 0, none⟩) {k : Nat} (hk : k < l.length) (x : α)
    (ty : TypeId) (hi : (P.info? ty).map (·.size) = some size) (cs : Array Value) (hcs : cs = (enc x).toArray) :
    ∃ w', (storeVar ty ⟨g, k * size, none⟩ (.agg cs)).run P w = .ok () w' ∧ Own B e size enc w' (.slice A n c) (l.set k x) ∧ Mod (· = g) w w' := by
  subst hA hcs
  rcases h.2 with ⟨h0, _⟩ | ⟨g', cap, cur, h0, hb, hgg, hnc, hcm, hcz, htk⟩
  · cases h0
  · simp only [Value.slice.injEq, Option.some.injEq, Addr.mk.injEq, and_true] at h0
    obtain ⟨rfl, rfl, rfl⟩ := h0
    have hx := hs x
    have hfl := flat_length (enc := enc) hs l
    have hkn : k * size + size ≤ l.length * size := by
      have : (k + 1) * size ≤ l.length * size := Nat.mul_le_mul_right _ hk
      rwa [Nat.succ_mul] at this
    have hnc' : l.length * size ≤ c * size := Nat.mul_le_mul_right _ hnc
    have hrun := run_storeCells_at P g (k * size) e (enc x) 0 cur w hgg (by omega) (h1 x)
    simp only [Nat.add_zero] at hrun
    obtain ⟨i, hq, hsz⟩ := info_size hi
    have hst : (storeVar ty ⟨g, k * size, none⟩ (.agg (enc x).toArray)).run P w = .ok () (w.setRow g (cur.toList.take (k * size) ++ enc x ++ cur.toList.drop (k * size + (enc x).length)).toArray) := by
      simpa [storeVar, sizeOf, typeInfo, hq, Value.cells, hsz, hx] using hrun
    refine ⟨_, hst, ⟨?_, .inr ⟨g, c, _, by rw [List.length_set], hb, setRow_heap w g cur _ e _ hgg, by rw [List.length_set]; exact hnc, hcm, ?_, ?_⟩⟩, Mod.setRow _ _ _⟩
    · rw [flat_length hs, List.length_set]
    · simp only [List.size_toArray, List.length_append, List.length_take, List.length_drop, Array.length_toList]
      omega
    · have e1 : (l.set k x).length * size = l.length * size := by rw [List.length_set]
      have e2 : ((l.set k x).flatMap enc).length = l.length * size := by rw [flat_length hs, List.length_set]
      rw [e1]
      have e3 : (l.set k x).flatMap enc = (cur.toList.take (l.length * size)).take (k * size) ++ enc x ++ (cur.toList.take (l.length * size)).drop (k * size + size) := by
        rw [flat_set hs l k x hk, htk]
      rw [e3, List.take_take, List.drop_take]
      simp only [hx]
      have hcz' : cur.toList.length = c * size := by simpa using hcz
      rw [List.take_append, List.take_append]
      simp only [List.length_append, List.length_take, hx, hcz']
      rw [List.take_of_length_le (l := List.take (k * size) cur.toList) (by rw [List.length_take]; omega), List.take_of_length_le (l := enc x) (by omega)]
      rw [show min (k * size) (l.length * size) = k * size by omega]
      congr 2
      omega
end
end Go.Proofs.YtafbphiedaijmaaDoor
