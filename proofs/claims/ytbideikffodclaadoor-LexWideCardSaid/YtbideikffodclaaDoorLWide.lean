/- The walk of LexWide. -/
import Derived.Below
import Derived.Laws.OwnMore
import Derived.Laws.Rows
import Derived.Deep.AppendLies
import Derived.Deep.Draws
import Derived.Maps.AppendAt
import Derived.RegionTactic
import Derived.OwnWalk
import Derived.Lib.Hide
import Derived.OpenShut
import Derived.Deep.Slices
import Derived.ProofKit
import Derived.SizedLaws
import Derived.Lib.SmallJoins
import Derived.ChangeSlices
import Derived.Test.YtbideikffodclaaDoorRow
import Derived.Test.YtbideikffodclaaDoorLexWS
namespace Go.Proofs.YtbideikffodclaaDoor
open Go.RowKit

theorem plain_add (g i j : Nat) : (⟨g, i, none⟩ : Addr).add j = ⟨g, i + j, none⟩ := by unfold Addr.add; split <;> simp_all

section
variable {α : Type} {size : Nat} {enc : α → List Value}
/-- Elements of size cells each: the cells of all. -/
theorem flat_length (hs : ∀ x, (enc x).length = size) (l : List α) : (l.flatMap enc).length = l.length * size := by
  induction l with
  | nil => simp
  | cons a t ih => rw [List.flatMap_cons, List.length_append, hs, ih, List.length_cons, Nat.succ_mul]; omega
theorem flat_at (hs : ∀ x, (enc x).length = size) (l : List α) {k : Nat} {x : α} (h : l[k]? = some x) (j : Nat) (hj : j < size) : (l.flatMap enc)[k * size + j]? = (enc x)[j]? := by
  induction l generalizing k with
  | nil => simp at h
  | cons a t ih =>
    cases k with
    | zero =>
      simp only [List.getElem?_cons_zero, Option.some.injEq] at h
      subst h
      rw [List.flatMap_cons, List.getElem?_append_left (by rw [hs]; omega)]
      simp
    | succ k =>
      simp only [List.getElem?_cons_succ] at h
      have e : (k + 1) * size + j = size + (k * size + j) := by rw [Nat.succ_mul]; omega
      rw [List.flatMap_cons, List.getElem?_append_right (by rw [hs]; omega), hs, show (k + 1) * size + j - size = k * size + j by omega]
      exact ih h

/-- v is a slice that reads as just these elements, from a place of a block on. -/
def Sl (size : Nat) (enc : α → List Value) (w : World) (v : Value) (l : List α) : Prop :=
  ∃ A c, v = .slice A l.length c ∧ l.length ≤ c ∧ (A = none → c = 0) ∧ (0 < l.length → ∃ g o, A = some ⟨g, o, none⟩ ∧ g < w.heap.size ∧
    ∀ k x, l[k]? = some x → ∀ j u, (enc x)[j]? = some u → w.cell? ⟨g, o + k * size + j, none⟩ = some u)
theorem Sl.nil (size : Nat) (enc : α → List Value) (w : World) : Sl size enc w (.slice none 0 0) [] := ⟨none, 0, rfl, by simp, fun _ => rfl, (fun h => by simp at h)⟩
theorem Sl.keep {w w' : World} {v : Value} {l : List α} (h : Sl size enc w v l) (hz : w.heap.size ≤ w'.heap.size) (hk : ∀ p : Addr, p.block < w.heap.size → w'.cell? p = w.cell? p) : Sl size enc w' v l := by
  obtain ⟨A, c, h1, h2, h3, h4⟩ := h
  refine ⟨A, c, h1, h2, h3, fun hp => ?_⟩
  obtain ⟨g, o, e, hg, hc⟩ := h4 hp
  exact ⟨g, o, e, by omega, fun k x hx j u hu => (hk ⟨g, _, none⟩ hg).trans (hc k x hx j u hu)⟩
theorem Sl.below {w w' : World} {v : Value} {l : List α} (h : Sl size enc w v l) (hb : Below w.heap.size w w') : Sl size enc w' v l := h.keep hb.size fun _ hp => hb.cell hp
theorem Sl.drew {w : World} {v : Value} {l : List α} (h : Sl size enc w v l) : Sl size enc w.drew v l := h
theorem Sl.drewN {w : World} {v : Value} {l : List α} (h : Sl size enc w v l) (n : Nat) : Sl size enc (w.drewN n) v l := h
theorem Sl.alloc {w : World} {v : Value} {l : List α} (h : Sl size enc w v l) (o : Obj) : Sl size enc (w.alloc o) v l := h.below ((Below.refl _ _).alloc (Nat.le_refl _) o)
theorem Sl.slice {w : World} {v : Value} {l : List α} (h : Sl size enc w v l) : ∃ A c, v = .slice A l.length c := by
  obtain ⟨A, c, h1, _⟩ := h
  exact ⟨A, c, h1⟩
/-- The k-th element's cells. -/
theorem Sl.at_ {w : World} {A : Option Addr} {n c : Nat} {l : List α} (h : Sl size enc w (.slice A n c) l) {k : Nat} {x : α} (hk : l[k]? = some x) :
    ∃ g o, A = some ⟨g, o, none⟩ ∧ g < w.heap.size ∧ ∀ j u, (enc x)[j]? = some u → w.cell? ⟨g, o + k * size + j, none⟩ = some u := by
  obtain ⟨A', c', h1, h2, h3, h4⟩ := h
  have hp : 0 < l.length := by have := (List.getElem?_eq_some_iff.1 hk).1; omega
  obtain ⟨g, o, e, hg, hc⟩ := h4 hp
  simp only [Value.slice.injEq] at h1
  exact ⟨g, o, h1.1.trans e, hg, fun j u hu => hc k x hk j u hu⟩
theorem Sl.cell {w : World} {g o n c : Nat} {l : List α} (h : Sl size enc w (.slice (some ⟨g, o, none⟩) n c) l) {k : Nat} {x : α} (hk : l[k]? = some x) (j : Nat) (u : Value) (hu : (enc x)[j]? = some u) : w.cell? ⟨g, o + k * size + j, none⟩ = some u := by
  obtain ⟨g', o', e, _, hc⟩ := h.at_ hk
  simp only [Option.some.injEq, Addr.mk.injEq, and_true] at e
  obtain ⟨rfl, rfl⟩ := e
  exact hc j u hu
theorem Sl.len {w : World} {A : Option Addr} {n c : Nat} {l : List α} (h : Sl size enc w (.slice A n c) l) : n = l.length ∧ n ≤ c := by
  obtain ⟨A', c', h1, h2, _⟩ := h
  simp only [Value.slice.injEq] at h1
  obtain ⟨_, rfl, rfl⟩ := h1
  exact ⟨rfl, h2⟩
theorem Sl.lt {w : World} {g o n c : Nat} {l : List α} (h : Sl size enc w (.slice (some ⟨g, o, none⟩) n c) l) (hp : 0 < l.length) : g < w.heap.size := by
  obtain ⟨g', o', e, hg, _⟩ := h.at_ (List.getElem?_eq_getElem hp)
  simp only [Option.some.injEq, Addr.mk.injEq, and_true] at e
  obtain ⟨rfl, rfl⟩ := e
  exact hg
theorem Sl.take {w : World} {A : Option Addr} {n c : Nat} {l : List α} (h : Sl size enc w (.slice A n c) l) {m : Nat} (hm : m ≤ n) : Sl size enc w (.slice A m c) (l.take m) := by
  obtain ⟨A', c', h1, h2, h3, h4⟩ := h
  simp only [Value.slice.injEq] at h1
  obtain ⟨rfl, rfl, rfl⟩ := h1
  have hl : (l.take m).length = m := by rw [List.length_take]; omega
  refine ⟨A, c, by rw [hl], by omega, h3, fun hp => ?_⟩
  obtain ⟨g, o, e, hg, hc⟩ := h4 (by omega)
  refine ⟨g, o, e, hg, fun k x hx j u hu => hc k x ?_ j u hu⟩
  rw [List.getElem?_take] at hx
  split at hx
  · exact hx
  · cases hx
theorem Sl.drop {w : World} {A : Option Addr} {n c : Nat} {l : List α} (h : Sl size enc w (.slice A n c) l) {k : Nat} (hk : k ≤ n) :
    Sl size enc w (.slice (if c = k then A else A.map (·.add (k * size))) (n - k) (c - k)) (l.drop k) := by
  obtain ⟨A', c', h1, h2, h3, h4⟩ := h
  simp only [Value.slice.injEq] at h1
  obtain ⟨rfl, rfl, rfl⟩ := h1
  refine ⟨_, _, by rw [List.length_drop], by rw [List.length_drop]; omega, fun hn => ?_, fun hp => ?_⟩
  · by_cases hck : c = k
    · omega
    · rw [if_neg hck] at hn
      have : A = none := by cases A with | none => rfl | some a => simp at hn
      have := h3 this
      omega
  · rw [List.length_drop] at hp
    obtain ⟨g, o, e, hg, hc⟩ := h4 (by omega)
    rw [if_neg (by omega), e]
    refine ⟨g, o + k * size, by simp [plain_add], hg, fun i x hx j u hu => ?_⟩
    rw [List.getElem?_drop] at hx
    have := hc (k + i) x hx j u hu
    rwa [show o + (k + i) * size + j = o + k * size + i * size + j by rw [Nat.add_mul]; omega] at this
theorem Sl.grown {w w' : World} {A : Option Addr} {n c : Nat} {l : List α} (h : Sl size enc w (.slice A n c) l) {row : Option Nat} (hg : w.grownBy w' row) (hr : 0 < l.length → ∀ g o, A = some ⟨g, o, none⟩ → some g ≠ row) : Sl size enc w' (.slice A n c) l := by
  obtain ⟨A', c', h1, h2, h3, h4⟩ := h
  refine ⟨A', c', h1, h2, h3, fun hp => ?_⟩
  obtain ⟨g, o, e, hlt, hc⟩ := h4 hp
  have hA : A = A' := by simp only [Value.slice.injEq] at h1; exact h1.1
  refine ⟨g, o, e, by have := hg.size; omega, fun k x hx j u hu => hg.cell (hc k x hx j u hu) (hr hp g o (hA.trans e))⟩
theorem grownBy_set (w : World) (p : Addr) (u : Value) : w.grownBy (w.setCell p u) (some p.block) := ⟨rfl, rfl, rfl, by simp [World.setCell], fun i _ hne => Below.heap_setCell w p u i (fun e => hne (by rw [e]))⟩
theorem Sl.far {w : World} {A : Option Addr} {n c : Nat} {l : List α} (h : Sl size enc w (.slice A n c) l) {p : Addr} (u : Value) (hp : 0 < l.length → ∀ g o, A = some ⟨g, o, none⟩ → g ≠ p.block) : Sl size enc (w.setCell p u) (.slice A n c) l :=
  h.grown (grownBy_set w p u) (fun h0 g o e he => hp h0 g o e (Option.some.inj he))
/-- A new block that holds one slice's elements. -/
theorem Sl.new (w : World) (e : TypeId) (l : List α) (hs : ∀ x, (enc x).length = size) (cs : Array Value) (hcs : cs = (l.flatMap enc).toArray) (n : Nat) (hn : n = l.length) :
    Sl size enc (w.alloc (.cells cs e)) (.slice (some ⟨w.heap.size, 0, none⟩) n n) l := by
  subst hn hcs
  refine ⟨_, _, rfl, Nat.le_refl _, (fun h => by cases h), fun _ => ⟨w.heap.size, 0, rfl, by simp, fun k x hx j u hu => ?_⟩⟩
  have hj : j < size := by rw [← hs x]; exact (List.getElem?_eq_some_iff.1 hu).1
  have hb := cell_of_row (w.alloc (.cells (l.flatMap enc).toArray e)) w.heap.size (0 + k * size + j) _ e (0, 0) (heap_alloc_new w _)
  rw [hb, List.getElem?_toArray, Nat.zero_add, flat_at hs l hx j hj]
  exact hu

/-- v is a slice of the call's own (its block from B on) with just these elements. -/
def Own (B : Nat) (e : TypeId) (size : Nat) (enc : α → List Value) (w : World) (v : Value) (l : List α) : Prop := w.ownsRow B e size v l.length (l.flatMap enc)
section
variable {B : Nat} {e : TypeId} {w w' : World} {v : Value} {l : List α}
theorem Own.nil (B : Nat) (e : TypeId) (size : Nat) (enc : α → List Value) (w : World) : Own B e size enc w (.slice none 0 0) [] := World.ownsRow_nil _ _ _ _
theorem Own.kept (h : Own B e size enc w v l) {row : Option Nat} (hg : w.grownBy w' row) (hne : v.ownBlock = none ∨ v.ownBlock ≠ row) : Own B e size enc w' v l := World.ownsRow.kept h hg hne
theorem Own.below (h : Own B e size enc w v l) (hb : Below w.heap.size w w') : Own B e size enc w' v l := by
  refine World.ownsRow.kept h (row := none) ⟨hb.os, hb.tape, hb.output, hb.size, fun i hi _ => hb.block i hi⟩ ?_
  cases v.ownBlock <;> simp
theorem Own.alloc (h : Own B e size enc w v l) (o : Obj) : Own B e size enc (w.alloc o) v l := World.ownsRow.alloc h o
theorem Own.drewN (h : Own B e size enc w v l) (n : Nat) : Own B e size enc (w.drewN n) v l := h
theorem Own.drew (h : Own B e size enc w v l) : Own B e size enc w.drew v l := h
theorem Own.lt (h : Own B e size enc w v l) : ∀ k, v.ownBlock = some k → B ≤ k ∧ k < w.heap.size := World.ownsRow.lt h
theorem Own.far (h : Own B e size enc w v l) {p : Addr} (hp : v.ownBlock ≠ some p.block) (u : Value) : Own B e size enc (w.setCell p u) v l := by
  have hg : w.grownBy (w.setCell p u) (some p.block) := ⟨rfl, rfl, rfl, by simp [World.setCell], fun i hi hne => Below.heap_setCell w p u i (fun e => hne (by rw [e]))⟩
  exact h.kept hg (.inr hp)
theorem Own.slice (h : Own B e size enc w v l) : ∃ A c, v = .slice A l.length c := by
  rcases h.2 with ⟨rfl, h0⟩ | ⟨g, cap, cur, rfl, _⟩
  · exact ⟨none, 0, by rw [h0]⟩
  · exact ⟨_, _, rfl⟩
theorem Own.sl (h : Own B e size enc w v l) (hs : ∀ x, (enc x).length = size) : Sl size enc w v l := by
  rcases h.2 with ⟨rfl, h0⟩ | ⟨g, cap, cur, rfl, hB, hg, hc, _⟩
  · have : l = [] := List.eq_nil_of_length_eq_zero h0
    subst this
    exact Sl.nil _ _ _
  · refine ⟨_, _, rfl, hc, (fun h => by cases h), fun _ => ⟨g, 0, rfl, (Array.getElem?_eq_some_iff.1 hg).1, fun k x hx j u hu => ?_⟩⟩
    have hj : j < size := by rw [← hs x]; exact (List.getElem?_eq_some_iff.1 hu).1
    have := World.ownsRow.cells h (g := g) rfl (k * size + j) u (by rw [flat_at hs l hx j hj]; exact hu)
    rwa [plain_add, ← Nat.add_assoc] at this
/-- A row of the call's own whose block holds another kind of elements lies elsewhere. -/
theorem Own.ne_of {β : Type} {B' size' : Nat} {enc' : β → List Value} {e' : TypeId} {v' : Value} {l' : List β} (h : Own B e size enc w v l) (h' : Own B' e' size' enc' w v' l') (hne : e ≠ e') : v.ownBlock = none ∨ v.ownBlock ≠ v'.ownBlock := by
  rcases h.2 with ⟨rfl, _⟩ | ⟨g, cap, cur, rfl, _, hg, _⟩
  · exact .inl rfl
  · right
    rcases h'.2 with ⟨rfl, _⟩ | ⟨g', cap', cur', rfl, _, hg', _⟩
    · simp [Value.ownBlock]
    · intro he
      have : g = g' := by simpa [Value.ownBlock] using he
      subst this
      rw [hg] at hg'
      injection hg' with hg'
      injection hg' with _ ht
      exact hne ht
theorem Own.grow {W : World} (h : Own W.heap.size e size enc w v l) (hb : Below W.heap.size W w) (hg : w.grownBy w' v.ownBlock) : Below W.heap.size W w' := hb.grown hg hb.size (fun k hk => (h.lt k hk).1)
theorem Own.apart (h : Own B e size enc w v l) {k : Nat} {o : Obj} (hk : w.heap[k]? = some o) (ho : ∀ cur, o ≠ .cells cur e (0, 0)) : some k ≠ v.ownBlock := by
  rcases h.2 with ⟨rfl, _⟩ | ⟨g, cap, cur, rfl, _, hg, _⟩
  · simp [Value.ownBlock]
  · intro he
    have : k = g := by simpa [Value.ownBlock] using he
    subst this
    rw [hk] at hg
    exact ho cur (Option.some.inj hg)
theorem Own.new (w : World) (B : Nat) (hB : B ≤ w.heap.size) (e : TypeId) (l : List α) (cs : Array Value) (hcs : cs = (l.flatMap enc).toArray) (hs : ∀ x, (enc x).length = size) (hm : l.length ≤ maxLen) (n : Nat) (hn : n = l.length) :
    Own B e size enc (w.alloc (.cells cs e)) (.slice (some ⟨w.heap.size, 0, none⟩) n n) l := by
  subst hn hcs
  refine ⟨flat_length hs l, .inr ⟨w.heap.size, l.length, _, rfl, hB, heap_alloc_new w _, Nat.le_refl _, hm, by simp only [List.size_toArray]; exact flat_length hs l, ?_⟩⟩
  rw [← flat_length hs l]
  exact List.take_length
end

section
variable {P : Program} (w : World)
theorem run_app (B : Nat) (t ty e : TypeId) (i : TypeInfo) (z : Value) (size bytes : Nat) (enc : α → List Value) (ht : P.underlying t = some (.slice e)) (hi : P.info? e = some i) (hz : i.zero = some z)
    (hsize : i.size = size) (hby : i.bytes = bytes) (hzs : z.cells.size = size) (hsz : 0 < size) (hs : ∀ x, (enc x).length = size) (h1 : ∀ x, ∀ u ∈ enc x, u.oneCell' = true)
    (v x : Value) (l m : List α) (hown : Own B e size enc w v l) (hx : Sl size enc w x m)
    (h63 : l.length + m.length ≤ maxLen) (hbytes : (l.length + m.length) * bytes ≤ 140737488355328) (hbase : B ≤ w.heap.size) :
    ∃ v' w', (Builtin.append_ #[t, t] ty #[v, x]).run P w = .ok v' w' ∧ Own B e size enc w' v' (l ++ m) ∧ w.grownBy w' v.ownBlock ∧ (v'.ownBlock = v.ownBlock ∨ v'.ownBlock = some w.heap.size) := by
  obtain ⟨A, c, rfl, _, hA0, hA⟩ := hx
  have hmn : Own B e size enc w v (l ++ []) := by rw [List.append_nil]; exact hown
  rcases A with _ | ad
  · have hm0 : m = [] := by
      rcases Nat.eq_zero_or_pos m.length with h0 | h0
      · exact List.eq_nil_of_length_eq_zero h0
      · obtain ⟨g, o, h, _⟩ := hA h0
        cases h
    subst hm0
    refine ⟨v, w, ?_, hmn, World.grownBy.refl w _, .inl rfl⟩
    rcases hown.2 with ⟨rfl, _⟩ | ⟨g, cap, cur, rfl, _, _, hnc, _⟩
    · simp [Builtin.append_, run_underlying ht, sizeOf, typeInfo, hi, Builtin.lenOf, Builtin.firstCells]
    · simp [Builtin.append_, run_underlying ht, sizeOf, typeInfo, hi, Builtin.lenOf, Builtin.firstCells, hnc, storeCells]
  · have hcells : ∀ j u, (m.flatMap enc)[j]? = some u → w.cell? (ad.add j) = some u := by
      intro j u hu
      rcases Nat.eq_zero_or_pos m.length with h0 | h0
      · have hm0 : m = [] := List.eq_nil_of_length_eq_zero h0
        subst hm0
        simp at hu
      · obtain ⟨g, o, h, _, hc⟩ := hA h0
        injection h with h
        subst h
        have hjl : j < m.length * size := by
          have := (List.getElem?_eq_some_iff.1 hu).1
          rwa [flat_length hs] at this
        have hk : j / size < m.length := (Nat.div_lt_iff_lt_mul hsz).2 hjl
        have hr : j % size < size := Nat.mod_lt _ hsz
        have hd : j / size * size + j % size = j := by rw [Nat.mul_comm]; exact Nat.div_add_mod j size
        have hmk : m[j / size]? = some (m[j / size]) := List.getElem?_eq_getElem hk
        have hf := flat_at hs m hmk (j % size) hr
        rw [hd] at hf
        have := hc _ _ hmk (j % size) u (by rw [← hf]; exact hu)
        rwa [Nat.add_assoc, hd, ← plain_add] at this
    have hmem : ∀ u ∈ m.flatMap enc, u.oneCell' = true := fun u hu => by
      obtain ⟨x, _, hx⟩ := List.mem_flatMap.1 hu
      exact h1 x u hx
    obtain ⟨v', w', hrun, h2, h3, _, h5⟩ := run_append_own_at (P := P) w B t ty e i z size bytes ht hi hz hsize hby hzs hsz v l.length _ hown ad m.length c _ (flat_length hs m) hcells hmem h63 hbytes hbase
    refine ⟨v', w', hrun, ?_, h3, h5⟩
    unfold Own
    rw [List.length_append, List.flatMap_append]
    exact h2

theorem wp_app {o : Oper} {a : Act} {K : Act → World → Prop} {Q : Exit → Act → World → Prop} (s x : Operand) (t : TypeId)
    (ho : o.op = .call { callee := .builtin .append, args := #[s, x], argTypes := #[t, t] })
    (B : Nat) (e : TypeId) (i : TypeInfo) (z : Value) (size bytes : Nat) (enc : α → List Value) (ht : P.underlying t = some (.slice e)) (hi : P.info? e = some i) (hz : i.zero = some z)
    (hsize : i.size = size) (hby : i.bytes = bytes) (hzs : z.cells.size = size) (hsz : 0 < size) (hs : ∀ x, (enc x).length = size) (h1 : ∀ x, ∀ u ∈ enc x, u.oneCell' = true)
    (v y : Value) (l m : List α) (hv : a.eval s = v) (hown : Own B e size enc w v l) (hy : a.eval x = y) (hx : Sl size enc w y m)
    (h63 : l.length + m.length ≤ maxLen) (hbytes : (l.length + m.length) * bytes ≤ 140737488355328) (hbase : B ≤ w.heap.size)
    (h : ∀ v' w', Own B e size enc w' v' (l ++ m) → w.grownBy w' v.ownBlock → (v'.ownBlock = v.ownBlock ∨ v'.ownBlock = some w.heap.size) → K (a.put o.dst v') w') : o.wp P a w K Q := by
  obtain ⟨v', w', hrun, h2, h3, h4⟩ := run_app (P := P) w B t o.type e i z size bytes enc ht hi hz hsize hby hzs hsz hs h1 v y l m hown hx h63 hbytes hbase
  unfold Oper.wp execOp
  simp only [ho, resolve, invoke, builtin, Sem.run_bind, Sem.run_pure, Result.andThen_ok, List.map_toArray, List.map_cons, List.map_nil, hv, hy, hrun]
  exact h v' w' h2 h3 h4

/-- The append of a plain region. -/
theorem wpList_app {ops : Array Oper} {rest : List Oper} {o : Oper} {a : Act} {Q : Exit → Act → World → Prop} (hgd : o.guard = none) (s x : Operand) (t : TypeId)
    (ho : o.op = .call { callee := .builtin .append, args := #[s, x], argTypes := #[t, t] })
    (B : Nat) (e : TypeId) (i : TypeInfo) (z : Value) (size bytes : Nat) (enc : α → List Value) (ht : P.underlying t = some (.slice e)) (hi : P.info? e = some i) (hz : i.zero = some z)
    (hsize : i.size = size) (hby : i.bytes = bytes) (hzs : z.cells.size = size) (hsz : 0 < size) (hs : ∀ x, (enc x).length = size) (h1 : ∀ x, ∀ u ∈ enc x, u.oneCell' = true)
    (v y : Value) (l m : List α) (hv : a.eval s = v) (hown : Own B e size enc w v l) (hy : a.eval x = y) (hx : Sl size enc w y m)
    (h63 : l.length + m.length ≤ maxLen) (hbytes : (l.length + m.length) * bytes ≤ 140737488355328) (hbase : B ≤ w.heap.size)
    (h : ∀ v' w', Own B e size enc w' v' (l ++ m) → w.grownBy w' v.ownBlock → (v'.ownBlock = v.ownBlock ∨ v'.ownBlock = some w.heap.size) → wpList P ops Q rest (a.put o.dst v') w') : wpList P ops Q (o :: rest) a w :=
  wpList_plain hgd fun _ hK => wp_app w s x t ho B e i z size bytes enc ht hi hz hsize hby hzs hsz hs h1 v y l m hv hown hy hx h63 hbytes hbase fun v' w' h2 h3 h4 => hK _ _ (h v' w' h2 h3 h4)

/-- The append of a region that draws its order. -/
theorem step_app {ops : Array Oper} {o : Oper} {a : Act} {K : Act → World → Prop} {Q : Exit → Act → World → Prop} {E : Prop} (hgd : o.guard = none) (s x : Operand) (t : TypeId)
    (ho : o.op = .call { callee := .builtin .append, args := #[s, x], argTypes := #[t, t] })
    (B : Nat) (e : TypeId) (i : TypeInfo) (z : Value) (size bytes : Nat) (enc : α → List Value) (ht : P.underlying t = some (.slice e)) (hi : P.info? e = some i) (hz : i.zero = some z)
    (hsize : i.size = size) (hby : i.bytes = bytes) (hzs : z.cells.size = size) (hsz : 0 < size) (hs : ∀ x, (enc x).length = size) (h1 : ∀ x, ∀ u ∈ enc x, u.oneCell' = true)
    (v y : Value) (l m : List α) (hv : a.eval s = v) (hown : Own B e size enc w v l) (hy : a.eval x = y) (hx : Sl size enc w y m)
    (h63 : l.length + m.length ≤ maxLen) (hbytes : (l.length + m.length) * bytes ≤ 140737488355328) (hbase : B ≤ w.heap.size)
    (h : ∀ v' w', Own B e size enc w' v' (l ++ m) → w.grownBy w' v.ownBlock → (v'.ownBlock = v.ownBlock ∨ v'.ownBlock = some w.heap.size) → K (a.put o.dst v') w') :
    if Region.wanted o (yielded ops a.tmps) = true then Oper.wp P o a w K Q else E := by
  have hw : Region.wanted o (yielded ops a.tmps) = true := by simp [Region.wanted, hgd]
  rw [if_pos hw]
  exact wp_app w s x t ho B e i z size bytes enc ht hi hz hsize hby hzs hsz hs h1 v y l m hv hown hy hx h63 hbytes hbase h
end
end

section
open Go.ChangeShapes Go.WideShapes Go.ChangeAt Go.Joins Go.Deep
variable {α H : Type} {ench : TypeId × Value → H} {P : Program} {w : World} {base : Nat} {held : Bool} {size : Nat} {enc : α → List Value}
/-- An argument that is a slice, opened: an element's reading says what data it is. -/
theorem open_sl {Q : α → Prop} {t e : TypeId} {r : Reach} {b0 : Nat} {v : Value} {d : DataW H} {p : List MemPlace} (ht : P.underlying t = some (.slice e)) (hC : P.cellsOf e = size) (hpos : 0 < size) (hs : ∀ x, (enc x).length = size)
    (hel : ∀ (fuel : Nat) (cs : List Value) (x : DataW H × List MemPlace), DataW.trod ench P w base (fun _ => true) held fuel e cs = some x → ∃ a, cs = enc a ∧ Q a)
    (hv : Value.okWide P w r b0 t v) (h : DataW.Trod ench P w base (fun _ => true) held t v d p) :
    ∃ l : List α, Sl size enc w v l ∧ (∀ a ∈ l, Q a) ∧ l.length ≤ maxLen ∧ (l = [] ∨ ∃ el sp : List (DataW H), d = .slice el sp ∧ el.length = l.length) := by
  obtain ⟨a', l', c', rfl⟩ := okWide_slice ht hv
  obtain ⟨fuel, hf⟩ := h
  rcases open_slice ht hf with ⟨hcs, hx⟩ | ⟨a, len, cap, m, n, D, Pl, hcs, hb, hl, hm, hmm, hx, hi⟩
  · have hv' : Value.slice a' l' c' = .slice none 0 0 := by simpa [Value.cells] using hcs
    rw [hv']
    exact ⟨[], Sl.nil _ _ _, fun a h => by simp at h, by simp, .inl rfl⟩
  · have hv' : Value.slice a' l' c' = .slice (some a) len cap := by simpa [Value.cells] using hcs
    rw [hv']
    rw [if_pos rfl] at hmm
    have hq : ∀ i, i < len → ∃ x : α, Q x ∧ ∀ j u, (enc x)[j]? = some u → w.cell? (a.add (i * size + j)) = some u := by
      intro i hil
      obtain ⟨cs', hc, ht'⟩ := hi i (by omega)
      obtain ⟨x, rfl, hQ⟩ := hel _ _ _ ht'
      refine ⟨x, hQ, fun j u hu => ?_⟩
      obtain ⟨_, hcl, hat⟩ := World.cells?_some hc
      rw [hC] at hat
      have hj : j < size := by rw [← hs x]; exact (List.getElem?_eq_some_iff.1 hu).1
      have := hat j hj
      rw [Go.Deep.add_add] at this
      rw [this]
      exact hu
    by_cases h0 : len = 0
    · subst h0
      refine ⟨[], ⟨some a, cap, rfl, by simp, (fun h => by cases h), (fun h => by simp at h)⟩, fun a h => by simp at h, by simp, .inl rfl⟩
    · obtain ⟨x0, _, hx0⟩ := hq 0 (by omega)
      have hpl : ∃ b off, a = ⟨b, off, none⟩ := by
        obtain ⟨b, off, spot⟩ := a
        have hz : ∃ u, (enc x0)[0]? = some u := ⟨(enc x0)[0]'(by rw [hs]; omega), List.getElem?_eq_getElem _⟩
        obtain ⟨u, hu⟩ := hz
        have hcell := hx0 0 u hu
        have hspot : spot = none := by simpa [Addr.add] using World.cell?_spot hcell
        exact ⟨b, off, by rw [hspot]⟩
      obtain ⟨b, off, rfl⟩ := hpl
      have hg : b < w.heap.size := by
        have hz : ∃ u, (enc x0)[0]? = some u := ⟨(enc x0)[0]'(by rw [hs]; omega), List.getElem?_eq_getElem _⟩
        obtain ⟨u, hu⟩ := hz
        have hcell := hx0 0 u hu
        rw [plain_add] at hcell
        exact World.block_lt_of_cell? _ _ hcell
      obtain ⟨f, hfq⟩ : ∃ f : Nat → α, ∀ i, i < len → Q (f i) ∧ ∀ j u, (enc (f i))[j]? = some u → w.cell? ((⟨b, off, none⟩ : Addr).add (i * size + j)) = some u :=
        ⟨fun i => if h : i < len then (hq i h).choose else x0, fun i hi => by
          have e : (if h : i < len then (hq i h).choose else x0) = (hq i hi).choose := dif_pos hi
          simp only [e]
          exact (hq i hi).choose_spec⟩
      have hll : ((List.range len).map f).length = len := by simp
      refine ⟨(List.range len).map f, ⟨_, cap, by rw [hll], by rw [hll]; exact hl, (fun h => by cases h), fun _ => ⟨b, off, rfl, hg, fun k x hk j u hu => ?_⟩⟩, fun a ha => ?_, by rw [hll]; omega, .inr ⟨_, _, by rw [← (Prod.mk.inj hx).1], by simp⟩⟩
      · have hkl : k < len := by
          have := (List.getElem?_eq_some_iff.1 hk).1
          rwa [hll] at this
        rw [List.getElem?_map, List.getElem?_range hkl] at hk
        simp only [Option.map_some, Option.some.injEq] at hk
        subst hk
        have := (hfq k hkl).2 j u hu
        rwa [plain_add, ← Nat.add_assoc] at this
      · obtain ⟨i, hi', rfl⟩ := List.mem_map.1 ha
        exact (hfq i (List.mem_range.1 hi')).1
end
end Go.Proofs.YtbideikffodclaaDoor
namespace Go.Proofs.YtbideikffodclaaDoor
open Go.RowKit Go.Lib

def u8E (c : UInt8) : List Value := [.int .u8 c.toNat]
theorem u8E_length (c : UInt8) : (u8E c).length = 1 := rfl
theorem u8E_one (c : UInt8) : ∀ u ∈ u8E c, u.oneCell' = true := by
  intro u hu
  simp only [u8E, List.mem_cons, List.not_mem_nil, or_false] at hu
  subst hu; rfl
theorem u8E_flat (l : List UInt8) : l.flatMap u8E = Lib.byteCells l := by
  induction l with
  | nil => rfl
  | cons a t ih => simp only [List.flatMap_cons, ih]; simp [u8E, Lib.byteCells]
abbrev OwnU (B : Nat) (w : World) (v : Value) (l : List UInt8) : Prop := Own B 5 1 u8E w v l
theorem OwnB.u {B : Nat} {w : World} {v : Value} {l : List UInt8} (h : OwnB B w v l) : OwnU B w v l := by
  unfold OwnU Own; rw [u8E_flat]; exact h
theorem Own.b {B : Nat} {w : World} {v : Value} {l : List UInt8} (h : OwnU B w v l) : OwnB B w v l := by
  unfold OwnU Own at h; rw [u8E_flat] at h; exact h
abbrev SlU (w : World) (v : Value) (l : List UInt8) : Prop := Sl 1 u8E w v l
end Go.Proofs.YtbideikffodclaaDoor
namespace Go.Proofs.YtbideikffodclaaDoor
open Go.RowKit Go.Lib

def wideB : Nat → List UInt8 → List UInt8
  | _, [] => []
  | i, c :: r => (if c = 32 then [9, 10, 32] else [up i c]) ++ wideB (i + 1) r
theorem wideL_B : ∀ (l : List UInt8) (i : Nat), wideL i l = wideB i l ++ [10]
  | [], _ => rfl
  | c :: r, i => by
    rw [wideL, wideB, wideL_B r]
    split <;> rfl
theorem wideB_snoc : ∀ (l : List UInt8) (c : UInt8) (i : Nat), wideB i (l ++ [c]) = wideB i l ++ (if c = 32 then [9, 10, 32] else [up (i + l.length) c])
  | [], c, i => by simp [wideB]
  | d :: r, c, i => by
    rw [List.cons_append, wideB, wideB, wideB_snoc r c (i + 1), List.append_assoc, List.length_cons, show i + 1 + r.length = i + (r.length + 1) by omega]
theorem wideB_le (l : List UInt8) (i : Nat) : (wideB i l).length ≤ 3 * l.length := by
  have h := wide_len l i
  rw [wideL_B] at h
  simp at h
  omega

/-- The same tokens, of a text that is not too long. -/
theorem wide_law {s S : ByteArray} (hs : s.size ≤ 150) (h39 : ∀ x ∈ s.data.toList, x ≠ 39) (hS : S.data.toList = 32 :: wideL 0 s.data.toList) (h400 : S.size ≤ 400) : bare (tokR S) = bare (tokR s) := by
  have hl : s.data.toList.length = s.size := by simp
  have hL : S.data.toList.length = S.size := by simp
  have hw := wide_len s.data.toList 0
  have hlen : S.size = (wideL 0 s.data.toList).length + 1 := by rw [← hL, hS]; rfl
  have h1 := tokL_of (s := S) S.size 0 []
  have h2 := tokL_of (s := s) s.size 0 []
  rw [List.drop_zero, List.map_nil] at h1 h2
  unfold tokR
  rw [if_neg (by omega), if_neg (by omega), h1, h2, hS, hlen, tokL, if_pos (by decide)]
  exact wide_tok _ _ (Nat.le_refl _) h39 _ _ _ _ (by omega) (Nat.le_refl _)
theorem bare_at {R R' : TR} (h : bare R' = bare R) : R'.e = R.e ∧ R'.l.length = R.l.length ∧ ∀ (k : Nat) (T : Tk) (i : Nat), R.l[k]? = some (T, i) → ∃ i', R'.l[k]? = some (T, i') := by
  unfold bare at h
  obtain ⟨h1, h2⟩ := Prod.mk.inj h
  have h3 := congrArg List.length h1
  simp at h3
  refine ⟨h2, h3, fun k T i hk => ?_⟩
  have h4 := congrArg (fun l => l[k]?) h1
  simp only [List.getElem?_map, hk, Option.map_some] at h4
  cases hq : R'.l[k]? with
  | none => rw [hq] at h4; simp at h4
  | some p =>
    rw [hq] at h4
    simp at h4
    exact ⟨p.2, by rw [← h4]⟩

theorem one_u8 (w : World) (x : Int) : ∀ j u, ([Value.int .u8 x] : List Value)[j]? = some u → (w.alloc (.cells #[.int .u8 x] 5)).cell? ((⟨w.heap.size, 0, none⟩ : Addr).add j) = some u := fun j u h => by
  rw [addr_off, (Blk.new w _ _).cell, Nat.zero_add]
  show ([Value.int .u8 x] : List Value).toArray[j]? = some u
  simpa using h
theorem two_u8 (w : World) (x y : Int) : ∀ j u, ([Value.int .u8 x, .int .u8 y] : List Value)[j]? = some u → (w.alloc (.cells #[.int .u8 x, .int .u8 y] 5)).cell? ((⟨w.heap.size, 0, none⟩ : Addr).add j) = some u := fun j u h => by
  rw [addr_off, (Blk.new w _ _).cell, Nat.zero_add]
  show ([Value.int .u8 x, .int .u8 y] : List Value).toArray[j]? = some u
  simpa using h
theorem ownB_more {B : Nat} {w : World} {v : Value} {l m : List UInt8} {cs : List Value} (hc : cs = Lib.byteCells m) (h : w.ownsRow B 5 1 v (l.length + m.length) (Lib.byteCells l ++ cs)) : OwnB B w v (l ++ m) := by
  unfold OwnB
  rw [List.length_append, show Lib.byteCells (l ++ m) = Lib.byteCells l ++ Lib.byteCells m by simp [Lib.byteCells], ← hc]
  exact h

set_option maxRecDepth 100000 in
set_option maxHeartbeats 8000000 in
theorem lexWide_walk (s0 : ByteArray) (w : World) (hE : Env w) :
    Calls Tryd.prog 5 #[.string s0] w fun e w' => e = .returned (.bool true) ∧ Below w.heap.size w w' := by
  obtain ⟨i0, hi, hz0, hz1, hz2⟩ := info_parts infoByte
  have HE := Lib.hid hE
  clear hE
  by_cases h150 : 150 < s0.size
  all_goals
    first
    | (obtain ⟨s, hs⟩ : ∃ s, s = s0.extract 0 150 := ⟨_, rfl⟩
       have hsz : s.size ≤ 150 := by rw [hs]; simp; omega
       have hI : (150 : Int) < (s0.size : Int) := by omega)
    | (obtain ⟨s, hs⟩ : ∃ s, s = s0 := ⟨_, rfl⟩
       subst hs
       have hsz : s.size ≤ 150 := by omega
       have hI : ¬ (150 : Int) < (s.size : Int) := by omega)
    go_enter Tryd.func5, Tryd.ntmps5
    go_wp2
    first
    | (rw [← hs]
       clear hs)
    | (have hs : True := trivial)
    go_loopw [3, 4] (fun v t wr => ∃ k : Nat, t = .int .i64 k ∧ k ≤ s.size ∧ OwnB w.heap.size wr v (wideB 0 (s.data.toList.take k)) ∧ Below w.heap.size w wr ∧ Hid (∀ x ∈ s.data.toList.take k, x ≠ 39)) (fun _ t _ => s.size - (RowKit.intOf t).toNat)
    case atStart => exact ⟨0, rfl, by omega, OwnB.nil _ _, Below.refl _ _, Lib.hid (fun x hx => by simp at hx)⟩
    case round =>
      obtain ⟨k, rfl, hk, hown, hB, HN⟩ := hrel
      obtain ⟨A, cp, rfl⟩ := hown.slice
      have hwl := wideB_le (s.data.toList.take k) 0
      rw [List.length_take] at hwl
      by_cases hp : k < s.size
      · by_cases h39 : (s[k]'hp).toNat = 39
        · have k39 : (((s[k]'hp).toNat : Int) == 39) = true := by simp [h39]
          clear hown
          go_wp2_with fail
          refine (live10 _ (HE.out.below hB)).mono ?_
          rintro e w3 ⟨rfl, hb3⟩
          go_wp2
          go_ret
          exact ⟨rfl, keepS' hB hb3⟩
        · have k39 : (((s[k]'hp).toNat : Int) == 39) = false := beq_eq_false_iff_ne.2 (by omega)
          have hsn := wideB_snoc (s.data.toList.take k) (s[k]'hp) 0
          rw [← take_snoc_at hp, List.length_take, Nat.zero_add, Nat.min_eq_left (by simp; omega)] at hsn
          have HN2 : Hid (∀ x ∈ s.data.toList.take (k + 1), x ≠ 39) := Lib.hid (fun x hx => by
            rw [take_snoc_at hp, List.mem_append] at hx
            rcases hx with hx | hx
            · exact HN.out x hx
            · have : x = (s[k]'hp) := by simpa using hx
              rw [this]
              intro e
              exact h39 (by rw [e]; rfl))
          have hXb : (wideB 0 (s.data.toList.take k)).length ≤ 450 := by omega
          clear hwl
          generalize wideB 0 (s.data.toList.take k) = X at *
          by_cases h32 : (s[k]'hp).toNat = 32
          · have k32 : (((s[k]'hp).toNat : Int) == 32) = true := by simp [h32]
            rw [if_pos (show (s[k]'hp) = 32 from UInt8.toNat_inj.1 h32)] at hsn
            clear h39
            have HOW := Lib.hid (hown.u.alloc (.cells #[.int .u8 9, .int .u8 10] 5))
            have HX2 := Lib.hid (Sl.new wr 5 [(9 : UInt8), 10] u8E_length #[.int .u8 9, .int .u8 10] rfl 2 rfl)
            go_wp2_with (at_builtin; refine wpList_app _ rfl _ _ 34 (by rfl) w.heap.size 5 i0 (.int .u8 0) 1 1 u8E Tryd.underlying34 hi hz0 hz1 hz2 rfl (by decide) u8E_length u8E_one _ _ _ [9, 10] (by rfl) HOW.out (by rfl) HX2.out (by unfold maxLen; simp; omega) (by simp; omega) (hB.alloc hB.size _).size ?_)
            intro v2 w2 hown2 hgrow2 _
            have hB2 : Below w.heap.size w w2 := (hB.alloc hB.size _).grown hgrow2 (hB.alloc hB.size _).size (fun k hk => (hown.lt k hk).1)
            have hX2 : (X ++ [9, 10]).length ≤ 452 := by simp; omega
            have hX3 : (X ++ [9, 10]) ++ [32] = X ++ [9, 10, 32] := by simp
            generalize X ++ [9, 10] = Y at *
            obtain ⟨AY, cY, rfl⟩ := hown2.slice
            have HOY := Lib.hid (hown2.alloc (.cells #[.int .u8 32] 5))
            have HX3 := Lib.hid (Sl.new w2 5 [(32 : UInt8)] u8E_length #[.int .u8 32] rfl 1 rfl)
            have HY3 := Lib.hid hX3
            clear hown2 hgrow2 hown HOW HX2 hX3
            go_wp2_with (at_builtin; refine wpList_app _ rfl _ _ 34 (by rfl) w.heap.size 5 i0 (.int .u8 0) 1 1 u8E Tryd.underlying34 hi hz0 hz1 hz2 rfl (by decide) u8E_length u8E_one _ _ _ [32] (by rfl) HOY.out (by rfl) HX3.out (by unfold maxLen; simp; omega) (by simp; omega) (hB2.alloc hB2.size _).size ?_)
            intro v3 w3 hown3 hgrow3 _
            have hB3 : Below w.heap.size w w3 := (hB2.alloc hB2.size _).grown hgrow3 (hB2.alloc hB2.size _).size (fun k hk => (HOY.out.lt k hk).1)
            have hO3 : OwnB w.heap.size w3 v3 (Y ++ [32]) := hown3.b
            rw [HY3.out, ← hsn] at hO3
            have HO3 := Lib.hid hO3
            clear hown3 hgrow3 hO3 hsn
            go_wp2
            go_roundw
            case rel => exact ⟨k + 1, by go_num, by omega, HO3.out, hB3, HN2⟩
            case measure => simp [RowKit.intOf]; omega

          · have k32 : (((s[k]'hp).toNat : Int) == 32) = false := beq_eq_false_iff_ne.2 (by omega)
            rw [if_neg (show ¬ (s[k]'hp) = 32 from fun e => h32 (by rw [e]; rfl))] at hsn
            have hup := up_val k (s[k]'hp)
            have HSN := Lib.hid hsn
            clear hsn h39 h32
            by_cases hlo : 97 ≤ (s[k]'hp).toNat
            · by_cases hhi : (s[k]'hp).toNat ≤ 122
              · by_cases hev : k % 2 = 0
                · have hev' : ((k : Int) % 2 == 0) = true := by simp; omega
                  have HUP : Hid ([.int .u8 (((s[k]'hp).toNat : Int) - 32)] = Lib.byteCells [up k (s[k]'hp)]) := Lib.hid (by
                    show _ = [Value.int .u8 ((up k (s[k]'hp)).toNat : Int)]
                    rw [hup]
                    first | (rw [if_pos (by omega)]; congr 2; omega) | (rw [if_neg (by omega)]))
                  clear hup
                  go_wp2_with (at_builtin; refine wpList_append_own _ rfl _ _ 34 rfl w.heap.size 5 i0 (.int .u8 0) 1 1 Tryd.underlying34 hi hz0 hz1 hz2 rfl (by decide) _ _ _ rfl (hown.alloc _) ⟨wr.heap.size, 0, none⟩ 1 1 [.int .u8 _] rfl rfl (one_u8 wr _) (by simp [Value.oneCell']) (by unfold maxLen; omega) (by omega) (hB.alloc hB.size _).size ?_)
                  intro v2 w2 hown2 hgrow2 _
                  have hO2 : OwnB w.heap.size w2 v2 (X ++ [up k (s[k]'hp)]) := ownB_more (m := [up k (s[k]'hp)]) HUP.out hown2
                  have hB2 : Below w.heap.size w w2 := (hB.alloc hB.size _).grown hgrow2 (hB.alloc hB.size _).size (fun k hk => (hown.lt k hk).1)
                  rw [← HSN.out] at hO2
                  have HO2 := Lib.hid hO2
                  clear hown2 hgrow2 hO2 hown
                  go_wp2
                  go_roundw
                  case rel => exact ⟨k + 1, by go_num, by omega, HO2.out, hB2, HN2⟩
                  case measure => simp [RowKit.intOf]; omega

                · have hev' : ((k : Int) % 2 == 0) = false := beq_eq_false_iff_ne.2 (by omega)
                  have HUP : Hid ([.int .u8 (((s[k]'hp).toNat : Int))] = Lib.byteCells [up k (s[k]'hp)]) := Lib.hid (by
                    show _ = [Value.int .u8 ((up k (s[k]'hp)).toNat : Int)]
                    rw [hup]
                    first | (rw [if_pos (by omega)]; congr 2; omega) | (rw [if_neg (by omega)]))
                  clear hup
                  go_wp2_with (at_builtin; refine wpList_append_own _ rfl _ _ 34 rfl w.heap.size 5 i0 (.int .u8 0) 1 1 Tryd.underlying34 hi hz0 hz1 hz2 rfl (by decide) _ _ _ rfl (hown.alloc _) ⟨wr.heap.size, 0, none⟩ 1 1 [.int .u8 _] rfl rfl (one_u8 wr _) (by simp [Value.oneCell']) (by unfold maxLen; omega) (by omega) (hB.alloc hB.size _).size ?_)
                  intro v2 w2 hown2 hgrow2 _
                  have hO2 : OwnB w.heap.size w2 v2 (X ++ [up k (s[k]'hp)]) := ownB_more (m := [up k (s[k]'hp)]) HUP.out hown2
                  have hB2 : Below w.heap.size w w2 := (hB.alloc hB.size _).grown hgrow2 (hB.alloc hB.size _).size (fun k hk => (hown.lt k hk).1)
                  rw [← HSN.out] at hO2
                  have HO2 := Lib.hid hO2
                  clear hown2 hgrow2 hO2 hown
                  go_wp2
                  go_roundw
                  case rel => exact ⟨k + 1, by go_num, by omega, HO2.out, hB2, HN2⟩
                  case measure => simp [RowKit.intOf]; omega

              · have hhi' : decide (((s[k]'hp).toNat : Int) ≤ 122) = false := by simp; omega
                have HUP : Hid ([.int .u8 (((s[k]'hp).toNat : Int))] = Lib.byteCells [up k (s[k]'hp)]) := Lib.hid (by
                  show _ = [Value.int .u8 ((up k (s[k]'hp)).toNat : Int)]
                  rw [hup]
                  first | (rw [if_pos (by omega)]; congr 2; omega) | (rw [if_neg (by omega)]))
                clear hup
                go_wp2_with (at_builtin; refine wpList_append_own _ rfl _ _ 34 rfl w.heap.size 5 i0 (.int .u8 0) 1 1 Tryd.underlying34 hi hz0 hz1 hz2 rfl (by decide) _ _ _ rfl (hown.alloc _) ⟨wr.heap.size, 0, none⟩ 1 1 [.int .u8 _] rfl rfl (one_u8 wr _) (by simp [Value.oneCell']) (by unfold maxLen; omega) (by omega) (hB.alloc hB.size _).size ?_)
                intro v2 w2 hown2 hgrow2 _
                have hO2 : OwnB w.heap.size w2 v2 (X ++ [up k (s[k]'hp)]) := ownB_more (m := [up k (s[k]'hp)]) HUP.out hown2
                have hB2 : Below w.heap.size w w2 := (hB.alloc hB.size _).grown hgrow2 (hB.alloc hB.size _).size (fun k hk => (hown.lt k hk).1)
                rw [← HSN.out] at hO2
                have HO2 := Lib.hid hO2
                clear hown2 hgrow2 hO2 hown
                go_wp2
                go_roundw
                case rel => exact ⟨k + 1, by go_num, by omega, HO2.out, hB2, HN2⟩
                case measure => simp [RowKit.intOf]; omega

            · have hlo' : decide ((97 : Int) ≤ ((s[k]'hp).toNat : Int)) = false := by simp; omega
              have HUP : Hid ([.int .u8 (((s[k]'hp).toNat : Int))] = Lib.byteCells [up k (s[k]'hp)]) := Lib.hid (by
                show _ = [Value.int .u8 ((up k (s[k]'hp)).toNat : Int)]
                rw [hup]
                first | (rw [if_pos (by omega)]; congr 2; omega) | (rw [if_neg (by omega)]))
              clear hup
              go_wp2_with (at_builtin; refine wpList_append_own _ rfl _ _ 34 rfl w.heap.size 5 i0 (.int .u8 0) 1 1 Tryd.underlying34 hi hz0 hz1 hz2 rfl (by decide) _ _ _ rfl (hown.alloc _) ⟨wr.heap.size, 0, none⟩ 1 1 [.int .u8 _] rfl rfl (one_u8 wr _) (by simp [Value.oneCell']) (by unfold maxLen; omega) (by omega) (hB.alloc hB.size _).size ?_)
              intro v2 w2 hown2 hgrow2 _
              have hO2 : OwnB w.heap.size w2 v2 (X ++ [up k (s[k]'hp)]) := ownB_more (m := [up k (s[k]'hp)]) HUP.out hown2
              have hB2 : Below w.heap.size w w2 := (hB.alloc hB.size _).grown hgrow2 (hB.alloc hB.size _).size (fun k hk => (hown.lt k hk).1)
              rw [← HSN.out] at hO2
              have HO2 := Lib.hid hO2
              clear hown2 hgrow2 hO2 hown
              go_wp2
              go_roundw
              case rel => exact ⟨k + 1, by go_num, by omega, HO2.out, hB2, HN2⟩
              case measure => simp [RowKit.intOf]; omega

      · have hks : s.data.toList.take k = s.data.toList := List.take_of_length_le (by simp; omega)
        have hXe : wideB 0 s.data.toList = wideB 0 (s.data.toList.take k) := by rw [hks]
        have h39 : ∀ x ∈ s.data.toList, x ≠ 39 := by have h := HN.out; rw [hks] at h; exact h
        generalize wideB 0 (s.data.toList.take k) = X at *
        have hX450 : X.length ≤ 450 := by omega
        have hlist : (ByteArray.mk #[32] ++ ByteArray.mk X.toArray ++ ByteArray.mk #[10]).data.toList = 32 :: wideL 0 s.data.toList := by rw [wideL_B, hXe]; simp
        have hSz : (ByteArray.mk #[32] ++ ByteArray.mk X.toArray ++ ByteArray.mk #[10]).size = X.length + 2 := by
          rw [ByteArray.size_append, ByteArray.size_append]
          show 1 + X.length + 1 = _
          omega
        have H1 := Lib.hid (fun w hE => lex_tokens s w (by omega) hE)
        have H2 := Lib.hid (fun w hE => lex_tokens (ByteArray.mk #[32] ++ ByteArray.mk X.toArray ++ ByteArray.mk #[10]) w (by omega) hE)
        have hLl := tokR_len s
        have hLl' := tokR_len (ByteArray.mk #[32] ++ ByteArray.mk X.toArray ++ ByteArray.mk #[10])
        have hcase : ((tokR (ByteArray.mk #[32] ++ ByteArray.mk X.toArray ++ ByteArray.mk #[10])).e = 4 ∧ 390 < X.length) ∨ bare (tokR (ByteArray.mk #[32] ++ ByteArray.mk X.toArray ++ ByteArray.mk #[10])) = bare (tokR s) := by
          by_cases h400 : 400 < (ByteArray.mk #[32] ++ ByteArray.mk X.toArray ++ ByteArray.mk #[10]).size
          · refine .inl ⟨?_, by omega⟩
            unfold tokR
            rw [if_pos h400]
          · exact .inr (wide_law hsz h39 hlist (by omega))
        generalize tokR (ByteArray.mk #[32] ++ ByteArray.mk X.toArray ++ ByteArray.mk #[10]) = R' at *
        generalize tokR s = R at *
        obtain ⟨L, i1, er⟩ := R
        obtain ⟨L', i2, er'⟩ := R'
        dsimp only at hLl hLl' hcase H1 H2
        have hXa : 1 + X.length ≤ 9223372036854775807 := by omega
        have hXb : 1 + X.length + 1 ≤ 9223372036854775807 := by omega
        have HOW := Lib.hid hown
        have hcase2 : ((er' == 4) = true ∧ (390 : Int) < (X.length : Int)) ∨ (er' = er ∧ L'.length = L.length ∧ (∀ (k : Nat) (T : Tk) (i : Nat), L[k]? = some (T, i) → ∃ i', L'[k]? = some (T, i')) ∧ ((er == 4) = false ∨ ((er == 4) = true ∧ ¬ (390 : Int) < (X.length : Int)))) := by
          rcases hcase with ⟨h1, h2⟩ | hb
          · exact .inl ⟨by simp [h1], by omega⟩
          · obtain ⟨b1, b2, b3⟩ := bare_at hb
            dsimp only at b1 b2 b3
            by_cases h4 : er = 4
            · by_cases hx : 390 < X.length
              · exact .inl ⟨by simp [b1, h4], by omega⟩
              · exact .inr ⟨b1, b2, b3, .inr ⟨by simp [h4], by omega⟩⟩
            · exact .inr ⟨b1, b2, b3, .inl (beq_eq_false_iff_ne.2 h4)⟩
        clear hcase hlist hSz hown h39 hXe hks hwl HN
        go_wp2_with fail
        refine (H1.out _ (HE.out.below hB)).mono ?_
        rintro e w1 ⟨⟨va, rfl, hA⟩, hb1⟩
        have sA := hA.sl
        have hcv := conv_own (HOW.out.below hb1)
        have q1 := keepS' hB hb1
        clear hA hb1
        go_wp2_with fail
        refine (H2.out _ (HE.out.below q1)).mono ?_
        rintro e w2 ⟨⟨vb, rfl, hBt⟩, hb2⟩
        have sB := hBt.sl
        have sA2 := sA.below hb2
        have q2 := keepS' q1 hb2
        clear hBt hb2 sA hcv
        rcases hcase2 with ⟨h1, h2⟩ | ⟨rfl, hlen, hall, hend⟩
        · go_wp2_with fail
          refine (live10 _ (HE.out.below q2)).mono ?_
          rintro e w3 ⟨rfl, hb3⟩
          go_wp2
          go_ret
          exact ⟨rfl, keepS' q2 hb3⟩
        · obtain ⟨A1, c1, rfl⟩ := sA2.len
          obtain ⟨A2, c2, rfl⟩ := sB.len
          have HAl := Lib.hid hall
          have hlenI : ((L.length : Int) == (L'.length : Int)) = true := by simp; omega
          have HLen := Lib.hid hlen
          clear hall hlen
          rcases hend with h4 | ⟨h4, hx⟩
          all_goals
            go_wp2
            go_loopw [12] (fun t wr => ∃ k n : Nat, t = .int .i64 k ∧ k ≤ L.length ∧ wr = w2.drewN n) (fun t _ => L.length - (RowKit.intOf t).toNat)
            case atStart => exact ⟨0, 0, rfl, by omega, rfl⟩
            case round =>
              obtain ⟨k, n, rfl, hk, rfl⟩ := hrel
              by_cases hp : k < L.length
              · have hkT : L[k]? = some (L[k].1, L[k].2) := List.getElem?_eq_getElem hp
                obtain ⟨i', hkT'⟩ := HAl.out _ _ _ hkT
                obtain ⟨g, c, e1, _, a0, a1, a2, a3⟩ := sA2.at_ hkT
                obtain ⟨g', c', e2, _, b0, b1, b2, b3⟩ := sB.at_ hkT'
                simp only [Value.slice.injEq, true_and] at e1 e2
                obtain ⟨rfl, rfl⟩ := e1
                obtain ⟨rfl, rfl⟩ := e2
                generalize L[k].1 = T at *
                have hpI : (k : Int) < (L.length : Int) := by omega
                have hpI' : (k : Int) < (L'.length : Int) := by have := HLen.out; omega
                have hpN' : k < L'.length := by have := HLen.out; omega
                clear hkT hkT'
                go_wp2_with fail
                go_quiet (fail)
                go_wp2
                go_roundw
                case rel => exact ⟨k + 1, n + nq, by go_num, by omega, rfl⟩
                case measure => simp [RowKit.intOf]; omega
              · have q3 := keepS' q2 (drewN_below w2 n)
                go_wp2_with fail
                refine (live10 _ (HE.out.below q3)).mono ?_
                rintro e w3 ⟨rfl, hb3⟩
                go_wp2
                go_ret
                exact ⟨rfl, keepS' q3 hb3⟩
end Go.Proofs.YtbideikffodclaaDoor
