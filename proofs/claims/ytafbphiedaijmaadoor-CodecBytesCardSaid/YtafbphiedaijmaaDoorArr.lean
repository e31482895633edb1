/- Operations over blocks that are known whole (arrays and structs of many cells): what they yield, the world behind them a letter. No program in sight. -/
import Derived.Test.YtafbphiedaijmaaDoorMod
import Derived.Great.BuildSlice
import Derived.Great.FillDense
import Derived.Deep.MidRow
import Derived.Laws.CopyOwn
import Derived.Still
namespace Go.Proofs.YtafbphiedaijmaaDoor
open Go.RowKit

section
variable {P : Program} {o : Oper} {a : Act} {w : World} {K : Act → World → Prop} {Q : Exit → Act → World → Prop}
theorem splice_length {α : Type} (L cs : List α) (off : Nat) (h : off + cs.length ≤ L.length) : (splice L off cs).length = L.length := length_splice L off cs h
theorem splice_at {α : Type} (L cs : List α) (off : Nat) (h : off + cs.length ≤ L.length) (j : Nat) : (splice L off cs)[j]? = if off ≤ j ∧ j < off + cs.length then cs[j - off]? else L[j]? := by
  unfold splice
  by_cases h1 : j < off
  · rw [if_neg (by omega), List.getElem?_append_left (by simp; omega), List.getElem?_take, if_pos h1]
  · rw [List.getElem?_append_right (by simp; omega)]
    simp only [List.length_take]
    rw [show min off L.length = off by omega]
    by_cases h2 : j < off + cs.length
    · rw [if_pos ⟨by omega, h2⟩, List.getElem?_append_left (by omega)]
    · rw [if_neg (by omega), List.getElem?_append_right (by omega), List.getElem?_drop]
      congr 1
      omega
theorem splice_whole {α : Type} (L cs : List α) (h : cs.length = L.length) : splice L 0 cs = cs := by
  unfold splice
  rw [List.take_zero, List.nil_append, Nat.zero_add, h, List.drop_length, List.append_nil]

/-- A new variable, all zero. -/
theorem wp_alloc_blk (ty : TypeId) (ho : o.op = .alloc ty) (cs : Array Value) (hz : ((P.info? ty).bind (·.zero)).map (·.cells) = some cs)
    (h : ∀ w', Blk w' w.heap.size ty cs → Below w.heap.size w w' → w'.heap.size = w.heap.size + 1 → K (a.put o.dst (.pointer (some ⟨w.heap.size, 0, none⟩))) w') : o.wp P a w K Q := by
  cases hq : P.info? ty with
  | none => rw [hq] at hz; cases hz
  | some i =>
    cases hzz : i.zero with
    | none => rw [hq] at hz; simp [hzz] at hz
    | some z =>
      have hcs : z.cells = cs := by rw [hq] at hz; simpa [hzz] using hz
      have hrun : (Instr.alloc ty true (.tuple #[])).run P w = .ok (.pointer (some ⟨w.heap.size, 0, none⟩)) (w.alloc (.cells cs ty)) := by
        simp [Instr.alloc, zeroValue, typeInfo, hq, hzz, newVar, newRow, hcs]
      unfold Oper.wp execOp
      simp only [ho, Sem.run_bind, hrun, Result.andThen_ok]
      exact h _ (Blk.new _ _ _) ((Below.refl _ _).alloc (Nat.le_refl _) _) (by simp)
theorem wpList_alloc_blk {ops : Array Oper} {rest : List Oper} (hg : o.guard = none) (ty : TypeId) (ho : o.op = .alloc ty) (cs : Array Value) (hz : ((P.info? ty).bind (·.zero)).map (·.cells) = some cs)
    (h : ∀ w', Blk w' w.heap.size ty cs → Below w.heap.size w w' → w'.heap.size = w.heap.size + 1 → wpList P ops Q rest (a.put o.dst (.pointer (some ⟨w.heap.size, 0, none⟩))) w') : wpList P ops Q (o :: rest) a w :=
  wpList_plain hg fun _ hK => wp_alloc_blk ty ho cs hz fun w' h1 h2 h3 => hK _ _ (h w' h1 h2 h3)

/-- Cells go into a block that is known whole. -/
theorem wp_store_blk (ty : TypeId) (x y : Operand) (ho : o.op = .store ty x y) (g off : Nat) (hx : a.eval x = .pointer (some ⟨g, off, none⟩)) (u : Value) (hy : a.eval y = u) (news : List Value) (hu : u.cells = news.toArray)
    (t : TypeId) (cs : List Value) (hB : Blk w g t cs.toArray) (hi : (P.info? ty).map (·.size) = some news.length) (hfit : off + news.length ≤ cs.length) (h1 : ∀ v ∈ news, v.oneCell' = true)
    (h : ∀ w', Blk w' g t (splice cs off news).toArray → Mod (· = g) w w' → w'.heap.size = w.heap.size → K (a.put o.dst undef) w') : o.wp P a w K Q := by
  obtain ⟨i, hq, hsz⟩ := info_size hi
  have hrun := run_storeCells_at P g off t news 0 cs.toArray w hB (by simpa using hfit) h1
  simp only [Nat.add_zero] at hrun
  have hst : (Instr.storeAt ty (.pointer (some ⟨g, off, none⟩)) u).run P w = .ok () (w.setRow g (cs.take off ++ news ++ cs.drop (off + news.length)).toArray) := by
    simpa [Instr.storeAt, Instr.sureAddr, storeVar, sizeOf, typeInfo, hq, hu, hsz] using hrun
  unfold Oper.wp execOp
  simp only [ho, hx, hy, Sem.run_bind, hst, Result.andThen_ok]
  refine h _ ?_ (Mod.setRow _ _ _) (by simp)
  unfold Blk
  rw [setRow_heap w g cs.toArray _ t (0, 0) hB]
  simp [splice]
theorem wpList_store_blk {ops : Array Oper} {rest : List Oper} (hg : o.guard = none) (ty : TypeId) (x y : Operand) (ho : o.op = .store ty x y) (g off : Nat) (hx : a.eval x = .pointer (some ⟨g, off, none⟩)) (u : Value) (hy : a.eval y = u) (news : List Value) (hu : u.cells = news.toArray)
    (t : TypeId) (cs : List Value) (hB : Blk w g t cs.toArray) (hi : (P.info? ty).map (·.size) = some news.length) (hfit : off + news.length ≤ cs.length) (h1 : ∀ v ∈ news, v.oneCell' = true)
    (h : ∀ w', Blk w' g t (splice cs off news).toArray → Mod (· = g) w w' → w'.heap.size = w.heap.size → wpList P ops Q rest (a.put o.dst undef) w') : wpList P ops Q (o :: rest) a w :=
  wpList_plain hg fun _ hK => wp_store_blk ty x y ho g off hx u hy news hu t cs hB hi hfit h1 fun w' h1 h2 h3 => hK _ _ (h w' h1 h2 h3)

/-- An element goes into a row of the call's own. -/
theorem wp_store_elem {α : Type} {size : Nat} {enc : α → List Value} {B : Nat} {e : TypeId} {l : List α} {n c : Nat} (ty : TypeId) (x y : Operand) (ho : o.op = .store ty x y) {g : Nat} (h0 : Own B e size enc w (.slice (some ⟨g, 0, none⟩) n c) l)
    (hs : ∀ x, (enc x).length = size) (h1 : ∀ x, ∀ u ∈ enc x, u.oneCell' = true) (k : Nat) (hk : k < l.length) (hx : a.eval x = .pointer (some ⟨g, k * size, none⟩)) (d : α) (hy : a.eval y = .agg (enc d).toArray)
    (hi : (P.info? ty).map (·.size) = some size)
    (h : ∀ w', Own B e size enc w' (.slice (some ⟨g, 0, none⟩) n c) (l.set k d) → Mod (· = g) w w' → K (a.put o.dst undef) w') : o.wp P a w K Q := by
  obtain ⟨w', hrun, h2, h3⟩ := run_storeElem (P := P) h0 hs h1 rfl hk d ty hi _ rfl
  unfold Oper.wp execOp
  simp only [ho, hx, hy, Instr.storeAt, Instr.sureAddr, Sem.run_bind, Sem.run_pure, Result.andThen_ok, hrun]
  exact h w' h2 h3
theorem wpList_store_elem {α : Type} {size : Nat} {enc : α → List Value} {B : Nat} {e : TypeId} {l : List α} {n c : Nat} {ops : Array Oper} {rest : List Oper} (hg : o.guard = none) (ty : TypeId) (x y : Operand) (ho : o.op = .store ty x y) {g : Nat} (h0 : Own B e size enc w (.slice (some ⟨g, 0, none⟩) n c) l)
    (hs : ∀ x, (enc x).length = size) (h1 : ∀ x, ∀ u ∈ enc x, u.oneCell' = true) (k : Nat) (hk : k < l.length) (hx : a.eval x = .pointer (some ⟨g, k * size, none⟩)) (d : α) (hy : a.eval y = .agg (enc d).toArray)
    (hi : (P.info? ty).map (·.size) = some size)
    (h : ∀ w', Own B e size enc w' (.slice (some ⟨g, 0, none⟩) n c) (l.set k d) → Mod (· = g) w w' → wpList P ops Q rest (a.put o.dst undef) w') : wpList P ops Q (o :: rest) a w :=
  wpList_plain hg fun _ hK => wp_store_elem ty x y ho h0 hs h1 k hk hx d hy hi fun w' h1 h2 => hK _ _ (h w' h1 h2)

/-- An element of many cells is read. -/
theorem Sl.range {α : Type} {size : Nat} {enc : α → List Value} {g f n c : Nat} {l : List α} (h : Sl size enc w (.slice (some ⟨g, f, none⟩) n c) l) {k : Nat} {x : α} (hk : l[k]? = some x) : w.rangeAt g (f + k * size) (enc x) :=
  fun j v hv => h.cell hk j v hv
theorem Blk.range {g : Nat} {t : TypeId} {cs : List Value} (h : Blk w g t cs.toArray) (off : Nat) (news : List Value) (hn : ∀ j v, news[j]? = some v → cs[off + j]? = some v) : w.rangeAt g off news :=
  fun j v hv => by rw [h.cell, List.getElem?_toArray]; exact hn j v hv

/-- A slice of one element that was made at once. -/
theorem wp_one (t e : TypeId) (k : Nat) (ho : o.op = .buildSlice t 1 #[(0, .tmp k)]) (news : List Value) (hx : a.eval (.tmp k) = .agg news.toArray)
    (hu : P.underlying t = some (.slice e)) (hi : (P.info? e).map (·.size) = some news.length) (hz : ((P.info? e).bind (·.zero)).isSome = true) (hpos : 0 < news.length) (hsm : news.length ≤ 16777216)
    (h : ∀ w', Blk w' w.heap.size e news.toArray → Below w.heap.size w w' → w'.heap.size = w.heap.size + 1 → K (a.put o.dst (.slice (some ⟨w.heap.size, 0, none⟩) 1 1)) w') : o.wp P a w K Q := by
  obtain ⟨i, hq, hsz⟩ := info_size hi
  rw [hq] at hz
  obtain ⟨z, hzz⟩ := Option.isSome_iff_exists.1 hz
  have hzz' : i.zero = some z := by simpa using hzz
  refine wp_buildSlice t e 1 #[(0, .tmp k)] ho news.toArray i z hu hq hzz' (by rw [hsz]; omega) (by rw [hsz]; omega) ?_ ?_
  · have hf := Great.fill_whole (s := news.length) hpos [.agg news.toArray] ((Array.range (1 * i.size)).map (z.cells[· % z.cells.size]!)) (by
      intro v hv
      obtain rfl := List.mem_singleton.1 hv
      simp [Value.cells]) (by simp [hsz])
    have e1 : (#[(0, Operand.tmp k)].map fun (i, x) => (i, a.eval x)).toList = ([Value.agg news.toArray].zipIdx 0).map fun x => (x.2, x.1) := by simp [hx]
    rw [e1, hsz]
    rw [hsz] at hf
    rw [hf]
    simp [Value.cells]
  · exact h _ (Blk.new _ _ _) ((Below.refl _ _).alloc (Nat.le_refl _) _) (by simp)
theorem wpList_one {ops : Array Oper} {rest : List Oper} (hg : o.guard = none) (t e : TypeId) (k : Nat) (ho : o.op = .buildSlice t 1 #[(0, .tmp k)]) (news : List Value) (hx : a.eval (.tmp k) = .agg news.toArray)
    (hu : P.underlying t = some (.slice e)) (hi : (P.info? e).map (·.size) = some news.length) (hz : ((P.info? e).bind (·.zero)).isSome = true) (hpos : 0 < news.length) (hsm : news.length ≤ 16777216)
    (h : ∀ w', Blk w' w.heap.size e news.toArray → Below w.heap.size w w' → w'.heap.size = w.heap.size + 1 → wpList P ops Q rest (a.put o.dst (.slice (some ⟨w.heap.size, 0, none⟩) 1 1)) w') : wpList P ops Q (o :: rest) a w :=
  wpList_plain hg fun _ hK => wp_one t e k ho news hx hu hi hz hpos hsm fun w' h1 h2 h3 => hK _ _ (h w' h1 h2 h3)

/-- The same of an element of one cell, or of more. -/
theorem wp_oneV (t e : TypeId) (k : Nat) (ho : o.op = .buildSlice t 1 #[(0, .tmp k)]) (u : Value) (news : List Value) (hx : a.eval (.tmp k) = u) (hc : u.cells = news.toArray)
    (hu : P.underlying t = some (.slice e)) (hi : (P.info? e).map (·.size) = some news.length) (hz : ((P.info? e).bind (·.zero)).isSome = true) (hpos : 0 < news.length) (hsm : news.length ≤ 16777216)
    (h : ∀ w', Blk w' w.heap.size e news.toArray → Below w.heap.size w w' → w'.heap.size = w.heap.size + 1 → K (a.put o.dst (.slice (some ⟨w.heap.size, 0, none⟩) 1 1)) w') : o.wp P a w K Q := by
  obtain ⟨i, hq, hsz⟩ := info_size hi
  rw [hq] at hz
  obtain ⟨z, hzz⟩ := Option.isSome_iff_exists.1 hz
  have hzz' : i.zero = some z := by simpa using hzz
  refine wp_buildSlice t e 1 #[(0, .tmp k)] ho news.toArray i z hu hq hzz' (by rw [hsz]; omega) (by rw [hsz]; omega) ?_ ?_
  · have hf := Great.fill_whole (s := news.length) hpos [u] ((Array.range (1 * i.size)).map (z.cells[· % z.cells.size]!)) (by
      intro v hv
      obtain rfl := List.mem_singleton.1 hv
      simp [hc]) (by simp [hsz])
    have e1 : (#[(0, Operand.tmp k)].map fun (i, x) => (i, a.eval x)).toList = ([u].zipIdx 0).map fun x => (x.2, x.1) := by simp [hx]
    rw [e1, hsz]
    rw [hsz] at hf
    rw [hf]
    simp [hc]
  · exact h _ (Blk.new _ _ _) ((Below.refl _ _).alloc (Nat.le_refl _) _) (by simp)
/-- A slice without elements that is not nil. -/
theorem wp_empty (t e : TypeId) (ho : o.op = .buildSlice t 0 #[]) (hu : P.underlying t = some (.slice e)) (hi : ((P.info? e).map (·.size)).isSome = true)
    (h : ∀ w', Blk w' w.heap.size e #[] → Below w.heap.size w w' → w'.heap.size = w.heap.size + 1 → K (a.put o.dst (.slice (some ⟨w.heap.size, 0, none⟩) 0 0)) w') : o.wp P a w K Q := by
  cases hq : P.info? e with
  | none => rw [hq] at hi; cases hi
  | some i =>
    have hrun : (Instr.buildSlice t 0 #[]).run P w = .ok (.slice (some ⟨w.heap.size, 0, none⟩) 0 0) (w.alloc (.cells #[] e)) := by
      simp [Instr.buildSlice, run_underlying hu, sizeOf, typeInfo, hq, newRow, Instr.fill, show Array.range 0 = #[] from rfl]
    unfold Oper.wp execOp
    simp only [ho, List.map_toArray, List.map_nil, Sem.run_bind]
    rw [hrun]
    exact h _ (Blk.new _ _ _) ((Below.refl _ _).alloc (Nat.le_refl _) _) (by simp)
theorem wpList_empty {ops : Array Oper} {rest : List Oper} (hg : o.guard = none) (t e : TypeId) (ho : o.op = .buildSlice t 0 #[]) (hu : P.underlying t = some (.slice e)) (hi : ((P.info? e).map (·.size)).isSome = true)
    (h : ∀ w', Blk w' w.heap.size e #[] → Below w.heap.size w w' → w'.heap.size = w.heap.size + 1 → wpList P ops Q rest (a.put o.dst (.slice (some ⟨w.heap.size, 0, none⟩) 0 0)) w') : wpList P ops Q (o :: rest) a w :=
  wpList_plain hg fun _ hK => wp_empty t e ho hu hi fun w' h1 h2 h3 => hK _ _ (h w' h1 h2 h3)

/-- make([]T, n): n zeros. -/
theorem made_flat {α : Type} {size : Nat} {enc : α → List Value} (hs : ∀ x, (enc x).length = size) (hpos : 0 < size) (z : α) (n : Nat) : madeCells (enc z).toArray (n * size) = ((List.replicate n z).flatMap enc).toArray := by
  apply Array.ext_getElem?
  intro j
  have hl : ((List.replicate n z).flatMap enc).length = n * size := by rw [flat_length hs, List.length_replicate]
  by_cases hj : j < n * size
  · have hk : j / size < n := (Nat.div_lt_iff_lt_mul hpos).2 hj
    have hr : j % size < size := Nat.mod_lt _ hpos
    have hd : j / size * size + j % size = j := by rw [Nat.mul_comm]; exact Nat.div_add_mod j size
    have hf := flat_at hs (List.replicate n z) (k := j / size) (x := z) (by rw [List.getElem?_replicate, if_pos hk]) (j % size) hr
    rw [hd] at hf
    have hz := hs z
    have e1 : ((List.replicate n z).flatMap enc).toArray[j]? = (enc z)[j % size]? := by rw [← hf]; simp
    rw [e1]
    simp only [madeCells, List.size_toArray, hz, Array.getElem?_map, Array.getElem?_range, hj, if_true, Option.map_some]
    rw [List.getElem?_eq_getElem (by omega), getElem!_pos _ _ (by simp; omega)]
    simp
  · rw [Array.getElem?_eq_none (by rw [size_madeCells]; omega), Array.getElem?_eq_none (by simp only [List.size_toArray]; omega)]
theorem wpList_make_blk {α : Type} {size : Nat} {enc : α → List Value} {ops : Array Oper} {rest : List Oper} (hg : o.guard = none) (l c : Operand) (t e : TypeId) (ho : o.op = .makeSlice t l c) (hu : P.underlying t = some (.slice e))
    (hs : ∀ x, (enc x).length = size) (hpos : 0 < size) (z : α) (bytes : Nat) (hi : (P.info? e).map (fun i => (i.zero.map (·.cells), i.size, i.bytes)) = some (some (enc z).toArray, size, bytes)) (n : Nat) (hl : a.eval l = .int .i64 n) (hc : a.eval c = .int .i64 n)
    (hb : bytes * n ≤ 281474976710656) (h63 : n ≤ maxLen)
    (h : ∀ w', Blk w' w.heap.size e ((List.replicate n z).flatMap enc).toArray → Below w.heap.size w w' → w'.heap.size = w.heap.size + 1 → wpList P ops Q rest (a.put o.dst (.slice (some ⟨w.heap.size, 0, none⟩) n n)) w') : wpList P ops Q (o :: rest) a w := by
  cases hq : P.info? e with
  | none => rw [hq] at hi; cases hi
  | some i =>
    rw [hq] at hi
    simp only [Option.map_some, Option.some.injEq, Prod.mk.injEq] at hi
    obtain ⟨h1, h2, h3⟩ := hi
    cases hz : i.zero with
    | none => rw [hz] at h1; cases h1
    | some zv =>
      have hzc : zv.cells = (enc z).toArray := by rw [hz] at h1; simpa using h1
      have h63' : (n : Int) ≤ 9223372036854775807 := by
        have h := h63
        simp [maxLen] at h
        omega
      have hb' : (i.bytes : Int) * (n : Int) ≤ 281474976710656 := by
        have h : ((i.bytes * n : Nat) : Int) ≤ 281474976710656 := by rw [h3]; omega
        rwa [Int.natCast_mul] at h
      have hr := run_make (P := P) w t e i zv hu hq hz .i64 .i64 n n (by omega) (Int.le_refl _) hb' h63'
      simp only [Int.toNat_natCast, hzc, h2, made_flat hs hpos] at hr
      refine wpList_plain hg fun K hK => ?_
      unfold Oper.wp
      simp only [execOp, ho, hl, hc, Sem.run_bind, hr, Result.andThen_ok]
      exact hK _ _ (h _ (Blk.new _ _ _) ((Below.refl _ _).alloc (Nat.le_refl _) _) (by simp))

/-- Many cells are read ahead of a region's tail. -/
theorem wpStill_load {ops : Array Oper} {Q : Act → Prop} {rest : List Oper} (hg : o.guard = none) (ty : TypeId) (x : Operand) (ho : o.op = .load ty x) (b off : Nat) (hx : a.eval x = .pointer (some ⟨b, off, none⟩))
    (cs : List Value) (d : TypeDesc) (hc : w.rangeAt b off cs) (hu : P.underlying ty = some d) (hd : d.isRow = true) (hi : (P.info? ty).map (·.size) = some cs.length)
    (h : wpStill P ops w Q rest (a.put o.dst (.agg cs.toArray))) : wpStill P ops w Q (o :: rest) a := by
  have hw : Region.wanted o (yielded ops a.tmps) = true := by simp [Region.wanted, hg]
  unfold wpStill
  rw [if_pos hw]
  unfold Oper.still execOp
  simp only [ho, hx, Instr.loadAt, Instr.sureAddr, Sem.run_bind, Sem.run_pure, Result.andThen_ok, run_loadVar_mid w b off ty cs d hc hu hd hi, Oper.stillUpon_value]
  exact h

/-- Cells are copied into a block that is known whole. -/
theorem wpList_copy_blk {ops : Array Oper} {rest : List Oper} (hgd : o.guard = none) (d s : Operand) (dT sT : TypeId)
    (ho : o.op = .call { callee := .builtin .copy, args := #[d, s], argTypes := #[dT, sT] }) (elem : TypeId) (hu : P.underlying dT = some (.slice elem)) (hsz : (P.info? elem).map (·.size) = some 1)
    (g off dLen dCap : Nat) (sp : Option Addr) (sLen sCap : Nat) (hd : a.eval d = .slice (some ⟨g, off, none⟩) dLen dCap) (hs : a.eval s = .slice sp sLen sCap)
    (t : TypeId) (cs : List Value) (hB : Blk w g t cs.toArray) (news : List Value) (hn : news.length = Nat.min sLen dLen)
    (hsrc : 0 < news.length → ∃ ad, sp = some ad ∧ ∀ j v, news[j]? = some v → w.cell? (ad.add j) = some v) (hfit : off + news.length ≤ cs.length) (h1 : ∀ v ∈ news, v.oneCell' = true)
    (h : ∀ w', Blk w' g t (splice cs off news).toArray → Mod (· = g) w w' → w'.heap.size = w.heap.size → wpList P ops Q rest (a.put o.dst (goInt news.length)) w') : wpList P ops Q (o :: rest) a w := by
  by_cases h0 : news.length = 0
  · obtain rfl : news = [] := List.eq_nil_of_length_eq_zero h0
    refine wpList_copy_nothing hgd d s dT sT ho elem hu hsz _ sp dLen dCap sLen sCap hd hs (by simpa using hn.symm) ?_
    refine h w ?_ (Mod.refl _ _) rfl
    have : splice cs off [] = cs := by simp [splice]
    rw [this]
    exact hB
  · obtain ⟨ad, rfl, hc⟩ := hsrc (by omega)
    refine wpList_copy_own hgd d s dT sT ho elem hu hsz g off dLen dCap ad sLen sCap hd hs cs.toArray t hB news hn hc (by simpa using hfit) h1 ?_
    refine h _ ?_ (Mod.setRow _ _ _) (by simp)
    unfold Blk
    rw [setRow_heap w g cs.toArray _ t (0, 0) hB]
    simp [splice]
end
end Go.Proofs.YtafbphiedaijmaaDoor
