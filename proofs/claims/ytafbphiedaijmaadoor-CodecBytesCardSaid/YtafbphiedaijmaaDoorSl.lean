/- Slices whose elements are read as data: what a slice holds, a row of the call's own, append. No program in sight. -/
import Derived.Below
import Derived.Laws.OwnMore
import Derived.Laws.Rows
import Derived.Deep.AppendLies
import Derived.Deep.Draws
import Derived.Maps.AppendAt
import Derived.RegionTactic
import Derived.OwnWalk
import Derived.Lib.Hide
import Derived.OpenShut
import Derived.Deep.Slices
import Derived.ProofKit
import Derived.SizedLaws
import Derived.Lib.SmallJoins
import Derived.ChangeSlices
namespace Go.Proofs.YtafbphiedaijmaaDoor
open Go.RowKit

theorem plain_add (g i j : Nat) : (⟨g, i, none⟩ : Addr).add j = ⟨g, i + j, none⟩ := by unfold Addr.add; split <;> simp_all

section
variable {α : Type} {size : Nat} {enc : α → List Value}
/-- Elements of size cells each: the cells of all. -/
theorem flat_length (hs : ∀ x, (enc x).length = size) (l : List α) : (l.flatMap enc).length = l.length * size := by
  induction l with
  | nil => simp
  | cons a t ih => rw [List.flatMap_cons, List.length_append, hs, ih, List.length_cons, Nat.succ_mul]; omega
theorem flat_at (hs : ∀ x, (enc x).length = size) (l : List α) {k : Nat} {x : α} (h : l[k]? = some x) (j : Nat) (hj : j < size) : (l.flatMap enc)[k * size + j]? = (enc x)[j]? := by
  induction l generalizing k with
  | nil => simp at h
  | cons a t ih =>
    cases k with
    | zero =>
      simp only [List.getElem?_cons_zero, Option.some.injEq] at h
      subst h
      rw [List.flatMap_cons, List.getElem?_append_left (by rw [hs]; omega)]
      simp
    | succ k =>
      simp only [List.getElem?_cons_succ] at h
      have e : (k + 1) * size + j = size + (k * size + j) := by rw [Nat.succ_mul]; omega
      rw [List.flatMap_cons, List.getElem?_append_right (by rw [hs]; omega), hs, show (k + 1) * size + j - size = k * size + j by omega]
      exact ih h

/-- v is a slice that reads as just these elements, from a place of a block on. -/
def Sl (size : Nat) (enc : α → List Value) (w : World) (v : Value) (l : List α) : Prop :=
  ∃ A c, v = .slice A l.length c ∧ l.length ≤ c ∧ (A = none → c = 0) ∧ (0 < l.length → ∃ g o, A = some ⟨g, o, none⟩ ∧ g < w.heap.size ∧
    ∀ k x, l[k]? = some x → ∀ j u, (enc x)[j]? = some u → w.cell? ⟨g, o + k * size + j, none⟩ = some u)
theorem Sl.nil (size : Nat) (enc : α → List Value) (w : World) : Sl size enc w (.slice none 0 0) [] := ⟨none, 0, rfl, by simp, fun _ => rfl, (fun h => by simp at h)⟩
theorem Sl.keep {w w' : World} {v : Value} {l : List α} (h : Sl size enc w v l) (hz : w.heap.size ≤ w'.heap.size) (hk : ∀ p : Addr, p.block < w.heap.size → w'.cell? p = w.cell? p) : Sl size enc w' v l := by
  obtain ⟨A, c, h1, h2, h3, h4⟩ := h
  refine ⟨A, c, h1, h2, h3, fun hp => ?_⟩
  obtain ⟨g, o, e, hg, hc⟩ := h4 hp
  exact ⟨g, o, e, by omega, fun k x hx j u hu => (hk ⟨g, _, none⟩ hg).trans (hc k x hx j u hu)⟩
theorem Sl.below {w w' : World} {v : Value} {l : List α} (h : Sl size enc w v l) (hb : Below w.heap.size w w') : Sl size enc w' v l := h.keep hb.size fun _ hp => hb.cell hp
theorem Sl.drew {w : World} {v : Value} {l : List α} (h : Sl size enc w v l) : Sl size enc w.drew v l := h
theorem Sl.drewN {w : World} {v : Value} {l : List α} (h : Sl size enc w v l) (n : Nat) : Sl size enc (w.drewN n) v l := h
theorem Sl.alloc {w : World} {v : Value} {l : List α} (h : Sl size enc w v l) (o : Obj) : Sl size enc (w.alloc o) v l := h.below ((Below.refl _ _).alloc (Nat.le_refl _) o)
theorem Sl.slice {w : World} {v : Value} {l : List α} (h : Sl size enc w v l) : ∃ A c, v = .slice A l.length c := by
  obtain ⟨A, c, h1, _⟩ := h
  exact ⟨A, c, h1⟩
/-- The k-th element's cells. -/
theorem Sl.at_ {w : World} {A : Option Addr} {n c : Nat} {l : List α} (h : Sl size enc w (.slice A n c) l) {k : Nat} {x : α} (hk : l[k]? = some x) :
    ∃ g o, A = some ⟨g, o, none⟩ ∧ g < w.heap.size ∧ ∀ j u, (enc x)[j]? = some u → w.cell? ⟨g, o + k * size + j, none⟩ = some u := by
  obtain ⟨A', c', h1, h2, h3, h4⟩ := h
  have hp : 0 < l.length := by have := (List.getElem?_eq_some_iff.1 hk).1; omega
  obtain ⟨g, o, e, hg, hc⟩ := h4 hp
  simp only [Value.slice.injEq] at h1
  exact ⟨g, o, h1.1.trans e, hg, fun j u hu => hc k x hk j u hu⟩
theorem Sl.cell {w : World} {g o n c : Nat} {l : List α} (h : Sl size enc w (.slice (some ⟨g, o, none⟩) n c) l) {k : Nat} {x : α} (hk : l[k]? = some x) (j : Nat) (u : Value) (hu : (enc x)[j]? = some u) : w.cell? ⟨g, o + k * size + j, none⟩ = some u := by
  obtain ⟨g', o', e, _, hc⟩ := h.at_ hk
  simp only [Option.some.injEq, Addr.mk.injEq, and_true] at e
  obtain ⟨rfl, rfl⟩ := e
  exact hc j u hu
theorem Sl.len {w : World} {A : Option Addr} {n c : Nat} {l : List α} (h : Sl size enc w (.slice A n c) l) : n = l.length ∧ n ≤ c := by
  obtain ⟨A', c', h1, h2, _⟩ := h
  simp only [Value.slice.injEq] at h1
  obtain ⟨_, rfl, rfl⟩ := h1
  exact ⟨rfl, h2⟩
theorem Sl.lt {w : World} {g o n c : Nat} {l : List α} (h : Sl size enc w (.slice (some ⟨g, o, none⟩) n c) l) (hp : 0 < l.length) : g < w.heap.size := by
  obtain ⟨g', o', e, hg, _⟩ := h.at_ (List.getElem?_eq_getElem hp)
  simp only [Option.some.injEq, Addr.mk.injEq, and_true] at e
  obtain ⟨rfl, rfl⟩ := e
  exact hg
theorem Sl.take {w : World} {A : Option Addr} {n c : Nat} {l : List α} (h : Sl size enc w (.slice A n c) l) {m : Nat} (hm : m ≤ n) : Sl size enc w (.slice A m c) (l.take m) := by
  obtain ⟨A', c', h1, h2, h3, h4⟩ := h
  simp only [Value.slice.injEq] at h1
  obtain ⟨rfl, rfl, rfl⟩ := h1
  have hl : (l.take m).length = m := by rw [List.length_take]; omega
  refine ⟨A, c, by rw [hl], by omega, h3, fun hp => ?_⟩
  obtain ⟨g, o, e, hg, hc⟩ := h4 (by omega)
  refine ⟨g, o, e, hg, fun k x hx j u hu => hc k x ?_ j u hu⟩
  rw [List.getElem?_take] at hx
  split at hx
  · exact hx
  · cases hx
theorem Sl.drop {w : World} {A : Option Addr} {n c : Nat} {l : List α} (h : Sl size enc w (.slice A n c) l) {k : Nat} (hk : k ≤ n) :
    Sl size enc w (.slice (if c = k then A else A.map (·.add (k * size))) (n - k) (c - k)) (l.drop k) := by
  obtain ⟨A', c', h1, h2, h3, h4⟩ := h
  simp only [Value.slice.injEq] at h1
  obtain ⟨rfl, rfl, rfl⟩ := h1
  refine ⟨_, _, by rw [List.length_drop], by rw [List.length_drop]; omega, fun hn => ?_, fun hp => ?_⟩
  · by_cases hck : c = k
    · omega
    · rw [if_neg hck] at hn
      have : A = none := by cases A with | none => rfl | some a => simp at hn
      have := h3 this
      omega
  · rw [List.length_drop] at hp
    obtain ⟨g, o, e, hg, hc⟩ := h4 (by omega)
    rw [if_neg (by omega), e]
    refine ⟨g, o + k * size, by simp [plain_add], hg, fun i x hx j u hu => ?_⟩
    rw [List.getElem?_drop] at hx
    have := hc (k + i) x hx j u hu
    rwa [show o + (k + i) * size + j = o + k * size + i * size + j by rw [Nat.add_mul]; omega] at this
theorem Sl.grown {w w' : World} {A : Option Addr} {n c : Nat} {l : List α} (h : Sl size enc w (.slice A n c) l) {row : Option Nat} (hg : w.grownBy w' row) (hr : 0 < l.length → ∀ g o, A = some ⟨g, o, none⟩ → some g ≠ row) : Sl size enc w' (.slice A n c) l := by
  obtain ⟨A', c', h1, h2, h3, h4⟩ := h
  refine ⟨A', c', h1, h2, h3, fun hp => ?_⟩
  obtain ⟨g, o, e, hlt, hc⟩ := h4 hp
  have hA : A = A' := by simp only [Value.slice.injEq] at h1; exact h1.1
  refine ⟨g, o, e, by have := hg.size; omega, fun k x hx j u hu => hg.cell (hc k x hx j u hu) (hr hp g o (hA.trans e))⟩
theorem grownBy_set (w : World) (p : Addr) (u : Value) : w.grownBy (w.setCell p u) (some p.block) := ⟨rfl, rfl, rfl, by simp [World.setCell], fun i _ hne => Below.heap_setCell w p u i (fun e => hne (by rw [e]))⟩
theorem Sl.far {w : World} {A : Option Addr} {n c : Nat} {l : List α} (h : Sl size enc w (.slice A n c) l) {p : Addr} (u : Value) (hp : 0 < l.length → ∀ g o, A = some ⟨g, o, none⟩ → g ≠ p.block) : Sl size enc (w.setCell p u) (.slice A n c) l :=
  h.grown (grownBy_set w p u) (fun h0 g o e he => hp h0 g o e (Option.some.inj he))
/-- A new block that holds one slice's elements. -/
theorem Sl.new (w : World) (e : TypeId) (l : List α) (hs : ∀ x, (enc x).length = size) (cs : Array Value) (hcs : cs = (l.flatMap enc).toArray) (n : Nat) (hn : n = l.length) :
    Sl size enc (w.alloc (.cells cs e)) (.slice (some ⟨w.heap.size, 0, none⟩) n n) l := by
  subst hn hcs
  refine ⟨_, _, rfl, Nat.le_refl _, (fun h => by cases h), fun _ => ⟨w.heap.size, 0, rfl, by simp, fun k x hx j u hu => ?_⟩⟩
  have hj : j < size := by rw [← hs x]; exact (List.getElem?_eq_some_iff.1 hu).1
  have hb := cell_of_row (w.alloc (.cells (l.flatMap enc).toArray e)) w.heap.size (0 + k * size + j) _ e (0, 0) (heap_alloc_new w _)
  rw [hb, List.getElem?_toArray, Nat.zero_add, flat_at hs l hx j hj]
  exact hu

/-- v is a slice of the call's own (its block from B on) with just these elements. -/
def Own (B : Nat) (e : TypeId) (size : Nat) (enc : α → List Value) (w : World) (v : Value) (l : List α) : Prop := w.ownsRow B e size v l.length (l.flatMap enc)
section
variable {B : Nat} {e : TypeId} {w w' : World} {v : Value} {l : List α}
theorem Own.nil (B : Nat) (e : TypeId) (size : Nat) (enc : α → List Value) (w : World) : Own B e size enc w (.slice none 0 0) [] := World.ownsRow_nil _ _ _ _
theorem Own.kept (h : Own B e size enc w v l) {row : Option Nat} (hg : w.grownBy w' row) (hne : v.ownBlock = none ∨ v.ownBlock ≠ row) : Own B e size enc w' v l := World.ownsRow.kept h hg hne
theorem Own.below (h : Own B e size enc w v l) (hb : Below w.heap.size w w') : Own B e size enc w' v l := by
  refine World.ownsRow.kept h (row := none) ⟨hb.os, hb.tape, hb.output, hb.size, fun i hi _ => hb.block i hi⟩ ?_
  cases v.ownBlock <;> simp
theorem Own.alloc (h : Own B e size enc w v l) (o : Obj) : Own B e size enc (w.alloc o) v l := World.ownsRow.alloc h o
theorem Own.drewN (h : Own B e size enc w v l) (n : Nat) : Own B e size enc (w.drewN n) v l := h
theorem Own.drew (h : Own B e size enc w v l) : Own B e size enc w.drew v l := h
theorem Own.lt (h : Own B e size enc w v l) : ∀ k, v.ownBlock = some k → B ≤ k ∧ k < w.heap.size := World.ownsRow.lt h
theorem Own.far (h : Own B e size enc w v l) {p : Addr} (hp : v.ownBlock ≠ some p.block) (u : Value) : Own B e size enc (w.setCell p u) v l := by
  have hg : w.grownBy (w.setCell p u) (some p.block) := ⟨rfl, rfl, rfl, by simp [World.setCell], fun i hi hne => Below.heap_setCell w p u i (fun e => hne (by rw [e]))⟩
  exact h.kept hg (.inr hp)
theorem Own.slice (h : Own B e size enc w v l) : ∃ A c, v = .slice A l.length c := by
  rcases h.2 with ⟨rfl, h0⟩ | ⟨g, cap, cur, rfl, _⟩
  · exact ⟨none, 0, by rw [h0]⟩
  · exact ⟨_, _, rfl⟩
theorem Own.sl (h : Own B e size enc w v l) (hs : ∀ x, (enc x).length = size) : Sl size enc w v l := by
  rcases h.2 with ⟨rfl, h0⟩ | ⟨g, cap, cur, rfl, hB, hg, hc, _⟩
  · have : l = [] := List.eq_nil_of_length_eq_zero h0
    subst this
    exact Sl.nil _ _ _
  · refine ⟨_, _, rfl, hc, (fun h => by cases h), fun _ => ⟨g, 0, rfl, (Array.getElem?_eq_some_iff.1 hg).1, fun k x hx j u hu => ?_⟩⟩
    have hj : j < size := by rw [← hs x]; exact (List.getElem?_eq_some_iff.1 hu).1
    have := World.ownsRow.cells h (g := g) rfl (k * size + j) u (by rw [flat_at hs l hx j hj]; exact hu)
    rwa [plain_add, ← Nat.add_assoc] at this
/-- A row of the call's own whose block holds another kind of elements lies elsewhere. -/
theorem Own.ne_of {β : Type} {B' size' : Nat} {enc' : β → List Value} {e' : TypeId} {v' : Value} {l' : List β} (h : Own B e size enc w v l) (h' : Own B' e' size' enc' w v' l') (hne : e ≠ e') : v.ownBlock = none ∨ v.ownBlock ≠ v'.ownBlock := by
  rcases h.2 with ⟨rfl, _⟩ | ⟨g, cap, cur, rfl, _, hg, _⟩
  · exact .inl rfl
  · right
    rcases h'.2 with ⟨rfl, _⟩ | ⟨g', cap', cur', rfl, _, hg', _⟩
    · simp [Value.ownBlock]
    · intro he
      have : g = g' := by simpa [Value.ownBlock] using he
      subst this
      rw [hg] at hg'
      injection hg' with hg'
      injection hg' with _ ht
      exact hne ht
theorem Own.grow {W : World} (h : Own W.heap.size e size enc w v l) (hb : Below W.heap.size W w) (hg : w.grownBy w' v.ownBlock) : Below W.heap.size W w' := hb.grown hg hb.size (fun k hk => (h.lt k hk).1)
theorem Own.apart (h : Own B e size enc w v l) {k : Nat} {o : Obj} (hk : w.heap[k]? = some o) (ho : ∀ cur, o ≠ .cells cur e (0, 0)) : some k ≠ v.ownBlock := by
  rcases h.2 with ⟨rfl, _⟩ | ⟨g, cap, cur, rfl, _, hg, _⟩
  · simp [Value.ownBlock]
  · intro he
    have : k = g := by simpa [Value.ownBlock] using he
    subst this
    rw [hk] at hg
    exact ho cur (Option.some.inj hg)
theorem Own.new (w : World) (B : Nat) (hB : B ≤ w.heap.size) (e : TypeId) (l : List α) (cs : Array Value) (hcs : cs = (l.flatMap enc).toArray) (hs : ∀ x, (enc x).length = size) (hm : l.length ≤ maxLen) (n : Nat) (hn : n = l.length) :
    Own B e size enc (w.alloc (.cells cs e)) (.slice (some ⟨w.heap.size, 0, none⟩) n n) l := by
  subst hn hcs
  refine ⟨flat_length hs l, .inr ⟨w.heap.size, l.length, _, rfl, hB, heap_alloc_new w _, Nat.le_refl _, hm, by simp only [List.size_toArray]; exact flat_length hs l, ?_⟩⟩
  rw [← flat_length hs l]
  exact List.take_length
end

section
variable {P : Program} (w : World)
theorem run_app (B : Nat) (t ty e : TypeId) (i : TypeInfo) (z : Value) (size bytes : Nat) (enc : α → List Value) (ht : P.underlying t = some (.slice e)) (hi : P.info? e = some i) (hz : i.zero = some z)
    (hsize : i.size = size) (hby : i.bytes = bytes) (hzs : z.cells.size = size) (hsz : 0 < size) (hs : ∀ x, (enc x).length = size) (h1 : ∀ x, ∀ u ∈ enc x, u.oneCell' = true)
    (v x : Value) (l m : List α) (hown : Own B e size enc w v l) (hx : Sl size enc w x m)
    (h63 : l.length + m.length ≤ maxLen) (hbytes : (l.length + m.length) * bytes ≤ 140737488355328) (hbase : B ≤ w.heap.size) :
    ∃ v' w', (Builtin.append_ #[t, t] ty #[v, x]).run P w = .ok v' w' ∧ Own B e size enc w' v' (l ++ m) ∧ w.grownBy w' v.ownBlock ∧ (v'.ownBlock = v.ownBlock ∨ v'.ownBlock = some w.heap.size) := by
  obtain ⟨A, c, rfl, _, hA0, hA⟩ := hx
  have hmn : Own B e size enc w v (l ++ []) := by rw [List.append_nil]; exact hown
  rcases A with _ | ad
  · have hm0 : m = [] := by
      rcases Nat.eq_zero_or_pos m.length with h0 | h0
      · exact List.eq_nil_of_length_eq_zero h0
      · obtain ⟨g, o, h, _⟩ := hA h0
        cases h
    subst hm0
    refine ⟨v, w, ?_, hmn, World.grownBy.refl w _, .inl rfl⟩
    rcases hown.2 with ⟨rfl, _⟩ | ⟨g, cap, cur, rfl, _, _, hnc, _⟩
    · simp [Builtin.append_, run_underlying ht, sizeOf, typeInfo, hi, Builtin.lenOf, Builtin.firstCells]
    · simp [Builtin.append_, run_underlying ht, sizeOf, typeInfo, hi, Builtin.lenOf, Builtin.firstCells, hnc, storeCells]
  · have hcells : ∀ j u, (m.flatMap enc)[j]? = some u → w.cell? (ad.add j) = some u := by
      intro j u hu
      rcases Nat.eq_zero_or_pos m.length with h0 | h0
      · have hm0 : m = [] := List.eq_nil_of_length_eq_zero h0
        subst hm0
        simp at hu
      · obtain ⟨g, o, h, _, hc⟩ := hA h0
        injection h with h
        subst h
        have hjl : j < m.length * size := by
          have := (List.getElem?_eq_some_iff.1 hu).1
          rwa [flat_length hs] at this
        have hk : j / size < m.length := (Nat.div_lt_iff_lt_mul hsz).2 hjl
        have hr : j % size < size := Nat.mod_lt _ hsz
        have hd : j / size * size + j % size = j := by rw [Nat.mul_comm]; exact Nat.div_add_mod j size
        have hmk : m[j / size]? = some (m[j / size]) := List.getElem?_eq_getElem hk
        have hf := flat_at hs m hmk (j % size) hr
        rw [hd] at hf
        have := hc _ _ hmk (j % size) u (by rw [← hf]; exact hu)
        rwa [Nat.add_assoc, hd, ← plain_add] at this
    have hmem : ∀ u ∈ m.flatMap enc, u.oneCell' = true := fun u hu => by
      obtain ⟨x, _, hx⟩ := List.mem_flatMap.1 hu
      exact h1 x u hx
    obtain ⟨v', w', hrun, h2, h3, _, h5⟩ := run_append_own_at (P := P) w B t ty e i z size bytes ht hi hz hsize hby hzs hsz v l.length _ hown ad m.length c _ (flat_length hs m) hcells hmem h63 hbytes hbase
    refine ⟨v', w', hrun, ?_, h3, h5⟩
    unfold Own
    rw [List.length_append, List.flatMap_append]
    exact h2

theorem wp_app {o : Oper} {a : Act} {K : Act → World → Prop} {Q : Exit → Act → World → Prop} (s x : Operand) (t : TypeId)
    (ho : o.op = .call { callee := .builtin .append, args := #[s, x], argTypes := #[t, t] })
    (B : Nat) (e : TypeId) (i : TypeInfo) (z : Value) (size bytes : Nat) (enc : α → List Value) (ht : P.underlying t = some (.slice e)) (hi : P.info? e = some i) (hz : i.zero = some z)
    (hsize : i.size = size) (hby : i.bytes = bytes) (hzs : z.cells.size = size) (hsz : 0 < size) (hs : ∀ x, (enc x).length = size) (h1 : ∀ x, ∀ u ∈ enc x, u.oneCell' = true)
    (v y : Value) (l m : List α) (hv : a.eval s = v) (hown : Own B e size enc w v l) (hy : a.eval x = y) (hx : Sl size enc w y m)
    (h63 : l.length + m.length ≤ maxLen) (hbytes : (l.length + m.length) * bytes ≤ 140737488355328) (hbase : B ≤ w.heap.size)
    (h : ∀ v' w', Own B e size enc w' v' (l ++ m) → w.grownBy w' v.ownBlock → (v'.ownBlock = v.ownBlock ∨ v'.ownBlock = some w.heap.size) → K (a.put o.dst v') w') : o.wp P a w K Q := by
  obtain ⟨v', w', hrun, h2, h3, h4⟩ := run_app (P := P) w B t o.type e i z size bytes enc ht hi hz hsize hby hzs hsz hs h1 v y l m hown hx h63 hbytes hbase
  unfold Oper.wp execOp
  simp only [ho, resolve, invoke, builtin, Sem.run_bind, Sem.run_pure, Result.andThen_ok, List.map_toArray, List.map_cons, List.map_nil, hv, hy, hrun]
  exact h v' w' h2 h3 h4

/-- The append of a plain region. -/
theorem wpList_app {ops : Array Oper} {rest : List Oper} {o : Oper} {a : Act} {Q : Exit → Act → World → Prop} (hgd : o.guard = none) (s x : Operand) (t : TypeId)
    (ho : o.op = .call { callee := .builtin .append, args := #[s, x], argTypes := #[t, t] })
    (B : Nat) (e : TypeId) (i : TypeInfo) (z : Value) (size bytes : Nat) (enc : α → List Value) (ht : P.underlying t = some (.slice e)) (hi : P.info? e = some i) (hz : i.zero = some z)
    (hsize : i.size = size) (hby : i.bytes = bytes) (hzs : z.cells.size = size) (hsz : 0 < size) (hs : ∀ x, (enc x).length = size) (h1 : ∀ x, ∀ u ∈ enc x, u.oneCell' = true)
    (v y : Value) (l m : List α) (hv : a.eval s = v) (hown : Own B e size enc w v l) (hy : a.eval x = y) (hx : Sl size enc w y m)
    (h63 : l.length + m.length ≤ maxLen) (hbytes : (l.length + m.length) * bytes ≤ 140737488355328) (hbase : B ≤ w.heap.size)
    (h : ∀ v' w', Own B e size enc w' v' (l ++ m) → w.grownBy w' v.ownBlock → (v'.ownBlock = v.ownBlock ∨ v'.ownBlock = some w.heap.size) → wpList P ops Q rest (a.put o.dst v') w') : wpList P ops Q (o :: rest) a w :=
  wpList_plain hgd fun _ hK => wp_app w s x t ho B e i z size bytes enc ht hi hz hsize hby hzs hsz hs h1 v y l m hv hown hy hx h63 hbytes hbase fun v' w' h2 h3 h4 => hK _ _ (h v' w' h2 h3 h4)

/-- The append of a region that draws its order. -/
theorem step_app {ops : Array Oper} {o : Oper} {a : Act} {K : Act → World → Prop} {Q : Exit → Act → World → Prop} {E : Prop} (hgd : o.guard = none) (s x : Operand) (t : TypeId)
    (ho : o.op = .call { callee := .builtin .append, args := #[s, x], argTypes := #[t, t] })
    (B : Nat) (e : TypeId) (i : TypeInfo) (z : Value) (size bytes : Nat) (enc : α → List Value) (ht : P.underlying t = some (.slice e)) (hi : P.info? e = some i) (hz : i.zero = some z)
    (hsize : i.size = size) (hby : i.bytes = bytes) (hzs : z.cells.size = size) (hsz : 0 < size) (hs : ∀ x, (enc x).length = size) (h1 : ∀ x, ∀ u ∈ enc x, u.oneCell' = true)
    (v y : Value) (l m : List α) (hv : a.eval s = v) (hown : Own B e size enc w v l) (hy : a.eval x = y) (hx : Sl size enc w y m)
    (h63 : l.length + m.length ≤ maxLen) (hbytes : (l.length + m.length) * bytes ≤ 140737488355328) (hbase : B ≤ w.heap.size)
    (h : ∀ v' w', Own B e size enc w' v' (l ++ m) → w.grownBy w' v.ownBlock → (v'.ownBlock = v.ownBlock ∨ v'.ownBlock = some w.heap.size) → K (a.put o.dst v') w') :
    if Region.wanted o (yielded ops a.tmps) = true then Oper.wp P o a w K Q else E := by
  have hw : Region.wanted o (yielded ops a.tmps) = true := by simp [Region.wanted, hgd]
  rw [if_pos hw]
  exact wp_app w s x t ho B e i z size bytes enc ht hi hz hsize hby hzs hsz hs h1 v y l m hv hown hy hx h63 hbytes hbase h
end
end

section
open Go.ChangeShapes Go.WideShapes Go.ChangeAt Go.Joins Go.Deep
variable {α H : Type} {ench : TypeId × Value → H} {P : Program} {w : World} {base : Nat} {held : Bool} {size : Nat} {enc : α → List Value}
/-- An argument that is a slice, opened: an element's reading says what data it is. -/
theorem open_sl {Q : α → Prop} {t e : TypeId} {r : Reach} {b0 : Nat} {v : Value} {d : DataW H} {p : List MemPlace} (ht : P.underlying t = some (.slice e)) (hC : P.cellsOf e = size) (hpos : 0 < size) (hs : ∀ x, (enc x).length = size)
    (hel : ∀ (fuel : Nat) (cs : List Value) (x : DataW H × List MemPlace), DataW.trod ench P w base (fun _ => true) held fuel e cs = some x → ∃ a, cs = enc a ∧ Q a)
    (hv : Value.okWide P w r b0 t v) (h : DataW.Trod ench P w base (fun _ => true) held t v d p) :
    ∃ l : List α, Sl size enc w v l ∧ (∀ a ∈ l, Q a) ∧ l.length ≤ maxLen ∧ (l = [] ∨ ∃ el sp : List (DataW H), d = .slice el sp ∧ el.length = l.length) := by
  obtain ⟨a', l', c', rfl⟩ := okWide_slice ht hv
  obtain ⟨fuel, hf⟩ := h
  rcases open_slice ht hf with ⟨hcs, hx⟩ | ⟨a, len, cap, m, n, D, Pl, hcs, hb, hl, hm, hmm, hx, hi⟩
  · have hv' : Value.slice a' l' c' = .slice none 0 0 := by simpa [Value.cells] using hcs
    rw [hv']
    exact ⟨[], Sl.nil _ _ _, fun a h => by simp at h, by simp, .inl rfl⟩
  · have hv' : Value.slice a' l' c' = .slice (some a) len cap := by simpa [Value.cells] using hcs
    rw [hv']
    rw [if_pos rfl] at hmm
    have hq : ∀ i, i < len → ∃ x : α, Q x ∧ ∀ j u, (enc x)[j]? = some u → w.cell? (a.add (i * size + j)) = some u := by
      intro i hil
      obtain ⟨cs', hc, ht'⟩ := hi i (by omega)
      obtain ⟨x, rfl, hQ⟩ := hel _ _ _ ht'
      refine ⟨x, hQ, fun j u hu => ?_⟩
      obtain ⟨_, hcl, hat⟩ := World.cells?_some hc
      rw [hC] at hat
      have hj : j < size := by rw [← hs x]; exact (List.getElem?_eq_some_iff.1 hu).1
      have := hat j hj
      rw [Go.Deep.add_add] at this
      rw [this]
      exact hu
    by_cases h0 : len = 0
    · subst h0
      refine ⟨[], ⟨some a, cap, rfl, by simp, (fun h => by cases h), (fun h => by simp at h)⟩, fun a h => by simp at h, by simp, .inl rfl⟩
    · obtain ⟨x0, _, hx0⟩ := hq 0 (by omega)
      have hpl : ∃ b off, a = ⟨b, off, none⟩ := by
        obtain ⟨b, off, spot⟩ := a
        have hz : ∃ u, (enc x0)[0]? = some u := ⟨(enc x0)[0]'(by rw [hs]; omega), List.getElem?_eq_getElem _⟩
        obtain ⟨u, hu⟩ := hz
        have hcell := hx0 0 u hu
        have hspot : spot = none := by simpa [Addr.add] using World.cell?_spot hcell
        exact ⟨b, off, by rw [hspot]⟩
      obtain ⟨b, off, rfl⟩ := hpl
      have hg : b < w.heap.size := by
        have hz : ∃ u, (enc x0)[0]? = some u := ⟨(enc x0)[0]'(by rw [hs]; omega), List.getElem?_eq_getElem _⟩
        obtain ⟨u, hu⟩ := hz
        have hcell := hx0 0 u hu
        rw [plain_add] at hcell
        exact World.block_lt_of_cell? _ _ hcell
      obtain ⟨f, hfq⟩ : ∃ f : Nat → α, ∀ i, i < len → Q (f i) ∧ ∀ j u, (enc (f i))[j]? = some u → w.cell? ((⟨b, off, none⟩ : Addr).add (i * size + j)) = some u :=
        ⟨fun i => if h : i < len then (hq i h).choose else x0, fun i hi => by
          have e : (if h : i < len then (hq i h).choose else x0) = (hq i hi).choose := dif_pos hi
          simp only [e]
          exact (hq i hi).choose_spec⟩
      have hll : ((List.range len).map f).length = len := by simp
      refine ⟨(List.range len).map f, ⟨_, cap, by rw [hll], by rw [hll]; exact hl, (fun h => by cases h), fun _ => ⟨b, off, rfl, hg, fun k x hk j u hu => ?_⟩⟩, fun a ha => ?_, by rw [hll]; omega, .inr ⟨_, _, by rw [← (Prod.mk.inj hx).1], by simp⟩⟩
      · have hkl : k < len := by
          have := (List.getElem?_eq_some_iff.1 hk).1
          rwa [hll] at this
        rw [List.getElem?_map, List.getElem?_range hkl] at hk
        simp only [Option.map_some, Option.some.injEq] at hk
        subst hk
        have := (hfq k hkl).2 j u hu
        rwa [plain_add, ← Nat.add_assoc] at this
      · obtain ⟨i, hi', rfl⟩ := List.mem_map.1 ha
        exact (hfq i (List.mem_range.1 hi')).1
end
end Go.Proofs.YtafbphiedaijmaaDoor
