/- A region that draws its order and whose operation m hits what others read: what m waits for may be taken first under a condition S that m alone breaks. No program in sight. -/
import Derived.OrdersHeld
import Derived.Tactics
import Derived.KernelRfl
namespace Go.Proofs.Ytaledjcbblgmeaa

section
variable {P : Program} {ops : Array Oper} {Q : Exit → Act → World → Prop} {md : Region.Mode} {S : World → Prop} {m : Nat}

/-- Whatever comes up: behind it S holds, or m has come up. -/
def wpEnd (P : Program) (md : Region.Mode) (ops : Array Oper) (Q : Exit → Act → World → Prop) (S : World → Prop) (m : Nat) : Nat → Array Bool → Act → World → Prop
  | 0, l, a, w => Region.ready md ops l = [] ∧ Q .normal a w
  | n + 1, l, a, w => (Region.ready md ops l = [] → Q .normal a w) ∧
    ∀ i ∈ Region.ready md ops l, wpOp P ops Q i (fun a' w' => (S w' ∨ (l.setIfInBounds i true).getD m true = true) ∧ wpEnd P md ops Q S m n (l.setIfInBounds i true) a' w') a w
theorem wpEnd.any : ∀ (n : Nat) (l : Array Bool) (a : Act) (w : World), wpEnd P md ops Q S m n l a w → wpAny P md ops Q n l a w
  | 0, _, _, _, h => h
  | n + 1, _, _, _, h => ⟨h.1, fun i hi => wpOp_mono (fun a' w' h' => wpEnd.any n _ a' w' h'.2) (h.2 i hi)⟩

/-- What has come up waited for nothing that has not. -/
def closedB (md : Region.Mode) (ops : Array Oper) (l : Array Bool) : Bool :=
  (List.range ops.size).all fun j => !l.getD j true || ((ops[j]?).map (·.after.all fun e => !Region.binds md e || l.getD e.on false)).getD true
theorem closedB_at {l : Array Bool} (h : closedB md ops l = true) {j : Nat} {o : Oper} (ho : ops[j]? = some o) (hj : l.getD j true = true) : ∀ e ∈ o.after, Region.binds md e = true → l.getD e.on false = true := by
  intro e he hb
  have := List.all_eq_true.1 h j (List.mem_range.2 (Array.getElem?_eq_some_iff.1 ho).1)
  simp only [hj, ho, Bool.not_true, Bool.false_or, Option.map_some, Option.getD_some, Array.all_eq_true_iff_forall_mem, Bool.or_eq_true, Bool.not_eq_true'] at this
  rcases this e he with h1 | h1
  · rw [hb] at h1; cases h1
  · exact h1
theorem closedB_set {l : Array Bool} (h : closedB md ops l = true) {j : Nat} (hj : j ∈ Region.ready md ops l) : closedB md ops (l.setIfInBounds j true) = true := by
  unfold closedB
  refine List.all_eq_true.2 fun k hk => ?_
  have hk' := List.mem_range.1 hk
  have ho : ops[k]? = some ops[k] := Array.getElem?_eq_getElem hk'
  rw [ho]
  simp only [Option.map_some, Option.getD_some, Bool.or_eq_true, Bool.not_eq_true', Array.all_eq_true_iff_forall_mem]
  by_cases hkj : k = j
  · subst hkj
    right
    obtain ⟨_, o, ho', hall⟩ := mem_ready.1 hj
    rw [ho] at ho'
    obtain rfl := Option.some.inj ho'
    intro e he
    by_cases hb : Region.binds md e = true
    · exact .inr (getD_set_true (hall e he hb))
    · exact .inl (by simpa using hb)
  · by_cases hl : l.getD k true = true
    · right
      intro e he
      by_cases hb : Region.binds md e = true
      · exact .inr (getD_set_true (closedB_at h ho hl e he hb))
      · exact .inl (by simpa using hb)
    · left
      rw [getD_set_ne true (Ne.symm hkj)]
      simpa using hl

/-- Each of a list waits for the next one. -/
def pathB (md : Region.Mode) (ops : Array Oper) : List Nat → Bool
  | j :: k :: t => ((ops[j]?).map (·.after.any fun e => Region.binds md e && e.on == k)).getD false && decide (k < ops.size) && pathB md ops (k :: t)
  | _ => true
theorem path_listed {l : Array Bool} (hl : l.size = ops.size) (hc : closedB md ops l = true) : ∀ (p : List Nat) (j i : Nat), pathB md ops (j :: p) = true → (j :: p).getLast? = some i → j < ops.size → l.getD j true = true → l.getD i true = true
  | [], j, i, _, hi, _, hj => by
    obtain rfl : j = i := by simpa using hi
    exact hj
  | k :: t, j, i, hp, hi, hjs, hj => by
    have ho : ops[j]? = some ops[j] := Array.getElem?_eq_getElem hjs
    simp only [pathB, ho, Option.map_some, Option.getD_some, Bool.and_eq_true, decide_eq_true_eq] at hp
    obtain ⟨⟨h1, hk⟩, h2⟩ := hp
    obtain ⟨e, he, hb⟩ := Array.any_eq_true'.1 h1
    simp only [Bool.and_eq_true, beq_iff_eq] at hb
    have h3 := closedB_at hc ho hj e he hb.1
    rw [hb.2] at h3
    have h4 : l.getD k true = true := by
      have hkl : k < l.size := by omega
      simpa [hkl] using h3
    rw [List.getLast?_cons_cons] at hi
    exact path_listed hl hc t k i h2 hi hk h4

theorem wpEnd_first {Y : World → Prop} {i : Nat} {oi : Oper} {v : Value} (hi : ops[i]? = some oi) (hsel : ∀ (j : Nat) (o : Oper) cs b, ops[j]? = some o → o.op ≠ .select cs b)
    (hQ : ∀ c a w, Q (.panic c) (a.put oi.dst v) w → Q (.panic c) a w) (him : i ≠ m)
    (key : ∀ (l : Array Bool) (w : World), l.size = ops.size → closedB md ops l = true → l.getD i true = false → (S w ∨ l.getD m true = true) → Y w) :
    ∀ (n : Nat) (l : Array Bool) (a : Act) (w : World), l.size = ops.size → closedB md ops l = true →
      (∀ j oj, ops[j]? = some oj → j ≠ i → l.getD j true = false → (∀ e ∈ oj.after, Region.binds md e = true → e.on ≠ i) → oi.apart ops oj = true) →
      i ∈ Region.ready md ops l → YieldsIf P ops Y oi v a → (S w ∨ l.getD m true = true) →
      wpEnd P md ops Q S m n (l.setIfInBounds i true) (a.put oi.dst v) w → wpEnd P md ops Q S m (n + 1) l a w := by
  intro n
  induction n with
  | zero =>
    intro l a w hs hc _ hr hy hS H
    refine ⟨fun h => (by rw [h] at hr; cases hr), fun j hj => ?_⟩
    by_cases hji : j = i
    · subst hji
      exact hy.wpOp hi (key l w hs hc (mem_ready.1 hr).1 hS) ⟨hS.imp id (fun h => by rwa [getD_set_ne true him]), H⟩
    · have := ready_mono hj hji
      rw [H.1] at this
      cases this
  | succ n ih =>
    intro l a w hs hc hfree hr hy hS H
    have hSw := key l w hs hc (mem_ready.1 hr).1 hS
    refine ⟨fun h => (by rw [h] at hr; cases hr), fun j hj => ?_⟩
    by_cases hji : j = i
    · subst hji
      exact hy.wpOp hi hSw ⟨hS.imp id (fun h => by rwa [getD_set_ne true him]), H⟩
    · have h1 := H.2 j (ready_mono hj hji)
      obtain ⟨hjun, oj, hoj, hall⟩ := mem_ready.1 hj
      have hiun := (mem_ready.1 hr).1
      have hnot : ∀ e ∈ oj.after, Region.binds md e = true → e.on ≠ i := fun e he hb heq => by
        have h2 := hall e he hb
        rw [heq] at h2
        have hlt : i < l.size := by rw [hs]; exact (Array.getElem?_eq_some_iff.1 hi).1
        simp [hlt] at hiun h2
        rw [hiun] at h2
        cases h2
      have h2 := wpOp_putIf hoj (hfree j oj hoj hji hjun hnot) (fun cs b => hsel i oi cs b hi) (fun cs b => hsel j oj cs b hoj) hQ hy h1
      have hc' := closedB_set hc hj
      refine wpOp_mono (fun a' w' h3 => ?_) h2
      obtain ⟨hy', hT, h4⟩ := h3
      have hT' : S w' ∨ (l.setIfInBounds j true).getD m true = true := hT.imp id fun h => by
        rwa [Array.setIfInBounds_comm _ _ (Ne.symm hji), getD_set_ne true him] at h
      refine ⟨hT', ih (l.setIfInBounds j true) a' w' (by simpa using hs) hc' ?_ (ready_mono hr (Ne.symm hji)) hy' hT' ?_⟩
      · intro k ok hk hki hun hno
        refine hfree k ok hk hki ?_ hno
        by_cases hjk : j = k
        · subst hjk; exact hjun
        · rw [getD_set_ne true hjk] at hun; exact hun
      · rw [Array.setIfInBounds_comm _ _ hji]
        exact h4

/-! The moves. -/
/-- What m waits for yields under S: it is taken first. -/
theorem wpEnd_take {i : Nat} {oi : Oper} {v : Value} {n : Nat} {l : Array Bool} {a : Act} {w : World} (p : List Nat) (hi : ops[i]? = some oi)
    (hs : (Region.noSelect ops && decide (l.size = ops.size) && decide (m < ops.size) && closedB md ops l && Region.free md ops l i && (Region.ready md ops l).contains i && pathB md ops (m :: p) && decide ((m :: p).getLast? = some i) && decide (i ≠ m)) = true)
    (hQ : ∀ c a w, Q (.panic c) (a.put oi.dst v) w → Q (.panic c) a w) (hy : YieldsIf P ops S oi v a) (hS : S w)
    (h : wpEnd P md ops Q S m n (l.setIfInBounds i true) (a.put oi.dst v) w) : wpEnd P md ops Q S m (n + 1) l a w := by
  simp only [Bool.and_eq_true, decide_eq_true_eq] at hs
  obtain ⟨⟨⟨⟨⟨⟨⟨⟨h1, h2⟩, h3⟩, h4⟩, h5⟩, h6⟩, h7⟩, h8⟩, h9⟩ := hs
  refine wpEnd_first hi (Region.noSelect_spec h1) hQ h9 (fun l w hs hc h0 h => ?_) n l a w h2 h4 (Region.free_spec hi h5) (by simpa using h6) hy (.inl hS) h
  rcases h with h | h
  · exact h
  · rw [path_listed hs hc p m i h7 h8 h3 h] at h0
    cases h0
/-- What yields in whatever world is taken first. -/
theorem wpEnd_pure {i : Nat} {oi : Oper} {v : Value} {n : Nat} {l : Array Bool} {a : Act} {w : World} (hi : ops[i]? = some oi)
    (hs : (Region.noSelect ops && decide (l.size = ops.size) && closedB md ops l && Region.free md ops l i && (Region.ready md ops l).contains i && decide (i ≠ m)) = true)
    (hQ : ∀ c a w, Q (.panic c) (a.put oi.dst v) w → Q (.panic c) a w) (hy : YieldsIf P ops (fun _ => True) oi v a) (hS : S w ∨ l.getD m true = true)
    (h : wpEnd P md ops Q S m n (l.setIfInBounds i true) (a.put oi.dst v) w) : wpEnd P md ops Q S m (n + 1) l a w := by
  simp only [Bool.and_eq_true, decide_eq_true_eq] at hs
  obtain ⟨⟨⟨⟨⟨h1, h2⟩, h4⟩, h5⟩, h6⟩, h9⟩ := hs
  exact wpEnd_first hi (Region.noSelect_spec h1) hQ h9 (fun _ _ _ _ _ _ => trivial) n l a w h2 h4 (Region.free_spec hi h5) (by simpa using h6) hy hS h
theorem wpEnd_one {i : Nat} {o : Oper} {n : Nat} {l : Array Bool} {a : Act} {w : World} (hr : Region.ready md ops l = [i]) (ho : ops[i]? = some o) (hg : o.guard = none)
    (h : ∀ K : Act → World → Prop, (∀ a' w', (S w' ∨ (l.setIfInBounds i true).getD m true = true) → wpEnd P md ops Q S m n (l.setIfInBounds i true) a' w' → K a' w') → o.wp P a w K Q) : wpEnd P md ops Q S m (n + 1) l a w := by
  refine ⟨(fun h0 => by rw [hr] at h0; cases h0), fun j hj => ?_⟩
  rw [hr] at hj
  obtain rfl := List.mem_singleton.1 hj
  have hw : Region.wanted o (yielded ops a.tmps) = true := by simp [Region.wanted, hg]
  unfold wpOp
  simp only [ho, hw, if_true]
  exact .inl (h _ fun a' w' h1 h2 => ⟨h1, h2⟩)
/-- One of two, whichever comes up. -/
theorem wpEnd_two {i j : Nat} {n : Nat} {l : Array Bool} {a : Act} {w : World} (hr : Region.ready md ops l = [i, j]) (oi oj : Oper) (hi : ops[i]? = some oi) (hj : ops[j]? = some oj) (hgi : oi.guard = none) (hgj : oj.guard = none)
    (h1 : ∀ K : Act → World → Prop, (∀ a' w', (S w' ∨ (l.setIfInBounds i true).getD m true = true) → wpEnd P md ops Q S m n (l.setIfInBounds i true) a' w' → K a' w') → oi.wp P a w K Q)
    (h2 : ∀ K : Act → World → Prop, (∀ a' w', (S w' ∨ (l.setIfInBounds j true).getD m true = true) → wpEnd P md ops Q S m n (l.setIfInBounds j true) a' w' → K a' w') → oj.wp P a w K Q) : wpEnd P md ops Q S m (n + 1) l a w := by
  refine ⟨(fun h0 => by rw [hr] at h0; cases h0), fun k hk => ?_⟩
  rw [hr] at hk
  have hwi : Region.wanted oi (yielded ops a.tmps) = true := by simp [Region.wanted, hgi]
  have hwj : Region.wanted oj (yielded ops a.tmps) = true := by simp [Region.wanted, hgj]
  rcases List.mem_cons.1 hk with rfl | hk
  · unfold wpOp
    simp only [hi, hwi, if_true]
    exact .inl (h1 _ fun a' w' h1 h2 => ⟨h1, h2⟩)
  · obtain rfl := List.mem_singleton.1 hk
    unfold wpOp
    simp only [hj, hwj, if_true]
    exact .inl (h2 _ fun a' w' h1 h2 => ⟨h1, h2⟩)
theorem wpEnd_done {l : Array Bool} {a : Act} {w : World} (hr : Region.ready md ops l = []) (h : Q .normal a w) : ∀ n, wpEnd P md ops Q S m n l a w
  | 0 => ⟨hr, h⟩
  | _ + 1 => ⟨fun _ => h, by rw [hr]; simp⟩
theorem wp_region_end (S : World → Prop) (m : Nat) {id : Nat} {a : Act} {w : World} {l : List Oper} (hm : P.follows .mixedOrders = true)
    (h : wpEnd P .any l.toArray Q S m l.toArray.size (Array.replicate l.toArray.size false) a w.drew) : (Code.region id l.toArray true).wp P Q a w :=
  wp_region_any hm (wpEnd.any _ _ _ _ h)
end
end Go.Proofs.Ytaledjcbblgmeaa
