/- The order of rows' bytes is that of rows; no row's bytes begin another one's. No program in sight. -/
import Derived.Test.YtafbphiedaijmaaDoorCodE
namespace Go.Proofs.YtafbphiedaijmaaDoor
open Go.RowKit Go.Lib

theorem cb_app : ∀ (p q L M : List UInt8), (∀ t, p ++ t ≠ q) → (∀ t, q ++ t ≠ p) → compareBytes (p ++ L) (q ++ M) = compareBytes p q
  | [], q, _, _, h, _ => absurd rfl (h q)
  | a :: p, [], _, _, _, h => absurd rfl (h (a :: p))
  | a :: p, b :: q, L, M, h, k => by
    rw [List.cons_append, List.cons_append, cb_cons, cb_cons]
    by_cases e : cmpI a.toNat b.toNat = 0
    · have hab : a = b := UInt8.toNat_inj.1 (by have := cmpI_eq e; omega)
      subst hab
      rw [cb_app p q L M (fun t ht => h t (by rw [List.cons_append, ht])) (fun t ht => k t (by rw [List.cons_append, ht]))]
    · unfold or2
      rw [if_neg e, if_neg e]
theorem cb_same : ∀ (p L M : List UInt8), compareBytes (p ++ L) (p ++ M) = compareBytes L M
  | [], _, _ => rfl
  | a :: p, L, M => by
    rw [List.cons_append, List.cons_append, cb_cons, cb_same p L M]
    have : cmpI a.toNat a.toNat = 0 := by unfold cmpI; rw [if_neg (by omega), if_neg (by omega)]
    rw [this]; rfl
/-- Two values' bytes, whatever follows. -/
theorem cb_value {x y : Vl} (hx : x.b = true) (ho : x.ok) (hy : y.b = true) (hp : y.ok) (L M : List UInt8) : compareBytes (x.bytes ++ L) (y.bytes ++ M) = if cmpW x y = 0 then compareBytes L M else cmpW x y := by
  have hord : compareBytes x.bytes y.bytes = cmpW x y := bytes_order hx hy ho.1.1 ho.1.2 hp.1.1 hp.1.2
  by_cases h : cmpW x y = 0
  · rw [if_pos h]
    obtain ⟨h1, h2, h3⟩ := cV_zero h
    have e : x = y := by
      obtain ⟨a, b, c⟩ := x
      obtain ⟨a', b', c'⟩ := y
      dsimp only at h1 h2 h3
      rw [h1, h2, h3]
    subst e
    exact cb_same _ _ _
  · rw [if_neg h, ← hord]
    refine cb_app _ _ _ _ (fun t ht => h ?_) (fun t ht => h ?_)
    · obtain ⟨rfl, _⟩ := read_one (L := t) (M := []) hx ho hy hp (by rw [ht, List.append_nil])
      exact cV_self _ _ _
    · obtain ⟨rfl, _⟩ := read_one (L := t) (M := []) hy hp hx ho (by rw [ht, List.append_nil])
      exact cV_self _ _ _
theorem cb_two {p q : Int} (h1 : -1000 ≤ p) (h2 : p ≤ 1000) (h3 : -1000 ≤ q) (h4 : q ≤ 1000) (L M : List UInt8) : compareBytes (twoL p ++ L) (twoL q ++ M) = or2 (cmpI p q) (compareBytes L M) := by
  obtain ⟨n, rfl⟩ : ∃ n : Nat, p = (n : Int) - 1000 := ⟨(p + 1000).toNat, by omega⟩
  obtain ⟨m, rfl⟩ : ∃ m : Nat, q = (m : Int) - 1000 := ⟨(q + 1000).toNat, by omega⟩
  unfold twoL
  rw [show ((n : Int) - 1000 + 1000).toNat = n by omega, show ((m : Int) - 1000 + 1000).toNat = m by omega]
  have key : ∀ u : Nat, u < 256 → (UInt8.ofNat u).toNat = u := fun u h => by rw [UInt8.toNat_ofNat']; omega
  simp only [List.cons_append, List.nil_append]
  rw [cb_cons, cb_cons, key _ (by omega), key _ (by omega), key _ (by omega), key _ (by omega), ← or2_assoc, ← cmp_split]
  congr 1
  unfold cmpI
  repeat' split
  all_goals first | rfl | omega
theorem cb_vals : ∀ (l m : List Vl) (X Y : List UInt8), (∀ x ∈ l, x.b = true ∧ x.ok) → (∀ x ∈ m, x.b = true ∧ x.ok) → compareBytes (l.flatMap Vl.bytes ++ 0 :: X) (m.flatMap Vl.bytes ++ 0 :: Y) = if valsC l m = 0 then compareBytes X Y else valsC l m
  | [], [], X, Y, _, _ => by
    simp only [List.flatMap_nil, List.nil_append, valsC, if_true]
    rw [cb_cons]
    rfl
  | [], y :: m, X, Y, _, hm => by
    obtain ⟨b, q, hb, hne⟩ := bytes_head (hm y (List.mem_cons_self ..)).1
    rw [List.flatMap_cons, hb, valsC, if_neg (by decide)]
    simp only [List.flatMap_nil, List.nil_append, List.cons_append]
    rw [cb_cons]
    have : cmpI ((0 : UInt8).toNat : Int) (b.toNat : Int) = -1 := by
      unfold cmpI
      rw [if_pos]
      have : b.toNat ≠ 0 := fun h => hne (UInt8.toNat_inj.1 h)
      show (0 : Int) < _
      omega
    rw [this]; rfl
  | x :: l, [], X, Y, hl, _ => by
    obtain ⟨b, q, hb, hne⟩ := bytes_head (hl x (List.mem_cons_self ..)).1
    rw [List.flatMap_cons, hb, valsC, if_neg (by decide)]
    simp only [List.flatMap_nil, List.nil_append, List.cons_append]
    rw [cb_cons]
    have : cmpI (b.toNat : Int) ((0 : UInt8).toNat : Int) = 1 := by
      unfold cmpI
      have : b.toNat ≠ 0 := fun h => hne (UInt8.toNat_inj.1 h)
      rw [if_neg (by show ¬ _ < (0 : Int); omega), if_pos (by show (0 : Int) < _; omega)]
    rw [this]; rfl
  | x :: l, y :: m, X, Y, hl, hm => by
    obtain ⟨hx, ho⟩ := hl x (List.mem_cons_self ..)
    obtain ⟨hy, hp⟩ := hm y (List.mem_cons_self ..)
    rw [List.flatMap_cons, List.flatMap_cons, List.append_assoc, List.append_assoc, cb_value hx ho hy hp, cb_vals l m X Y (fun z hz => hl z (List.mem_cons_of_mem _ hz)) (fun z hz => hm z (List.mem_cons_of_mem _ hz)), valsC]
    by_cases h : cmpW x y = 0
    · rw [if_pos h, if_pos h]
    · rw [if_neg h, if_neg h, if_neg h]
/-- The order of bytes is that of rows. -/
theorem rows_order {r s : Rw} (hr : r.b = true) (ho : r.ok) (hs : s.b = true) (hp : s.ok) : compareBytes r.bytes s.bytes = rowC r s := by
  obtain ⟨_, rb, rs⟩ := Rw.b_iff.1 hr
  obtain ⟨_, sb, ss⟩ := Rw.b_iff.1 hs
  obtain ⟨a1, a2, a3⟩ := spanB_iff.1 rs
  obtain ⟨b1, b2, b3⟩ := spanB_iff.1 ss
  unfold Rw.bytes rowC
  simp only [List.append_assoc, List.singleton_append, List.cons_append, List.nil_append]
  rw [cb_vals _ _ _ _ (fun x hx => ⟨rb x hx, ho.1 x hx⟩) (fun x hx => ⟨sb x hx, hp.1 x hx⟩), cb_two (by omega) (by omega) (by omega) (by omega)]
  have h2 := cb_two (p := r.t) (q := s.t) (by omega) (by omega) (by omega) (by omega) [] []
  rw [List.append_nil, List.append_nil] at h2
  rw [h2, cb_nil, or2_zero]
  unfold orI orI or2 orI
  by_cases h0 : valsC r.l s.l = 0
  · rw [if_pos h0, if_pos h0]
    by_cases h1 : cmpI r.f s.f = 0
    · rw [if_pos h1, if_pos h1]
      split
      · rename_i h3; rw [h3]; rfl
      · rfl
    · rw [if_neg h1, if_neg h1]
  · rw [if_neg h0, if_neg h0]
/-- No row's bytes begin another one's. -/
theorem rows_free {r s : Rw} (hr : r.b = true) (ho : r.ok) (hs : s.b = true) (hp : s.ok) {X : List UInt8} (h : r.bytes ++ X = s.bytes) : X = [] := by
  obtain ⟨_, rb, _⟩ := Rw.b_iff.1 hr
  obtain ⟨_, sb, _⟩ := Rw.b_iff.1 hs
  have key : ∀ (a b : List Vl) (X Y : List UInt8), (∀ x ∈ a, x.b = true ∧ x.ok) → (∀ x ∈ b, x.b = true ∧ x.ok) → a.flatMap Vl.bytes ++ 0 :: X = b.flatMap Vl.bytes ++ 0 :: Y → X = Y := by
    intro a
    induction a with
    | nil =>
      intro b X Y _ hb e
      cases b with
      | nil => simpa using e
      | cons y b =>
        obtain ⟨c, q, hc, hne⟩ := bytes_head (hb y (List.mem_cons_self ..)).1
        rw [List.flatMap_cons, hc] at e
        simp at e
        exact absurd e.1.symm hne
    | cons x a ih =>
      intro b X Y ha hb e
      cases b with
      | nil =>
        obtain ⟨c, q, hc, hne⟩ := bytes_head (ha x (List.mem_cons_self ..)).1
        rw [List.flatMap_cons, hc] at e
        simp at e
        exact absurd e.1 hne
      | cons y b =>
        rw [List.flatMap_cons, List.flatMap_cons, List.append_assoc, List.append_assoc] at e
        obtain ⟨rfl, e2⟩ := read_one (ha x (List.mem_cons_self ..)).1 (ha x (List.mem_cons_self ..)).2 (hb y (List.mem_cons_self ..)).1 (hb y (List.mem_cons_self ..)).2 e
        exact ih b X Y (fun z hz => ha z (List.mem_cons_of_mem _ hz)) (fun z hz => hb z (List.mem_cons_of_mem _ hz)) e2
  unfold Rw.bytes at h
  simp only [List.append_assoc, List.singleton_append, List.cons_append, List.nil_append] at h
  have h2 := key _ _ _ _ (fun x hx => ⟨rb x hx, ho.1 x hx⟩) (fun x hx => ⟨sb x hx, hp.1 x hx⟩) h
  have h3 := congrArg List.length h2
  simp only [List.length_append] at h3
  have e1 : (twoL r.f).length = 2 := rfl
  have e2 : (twoL r.t).length = 2 := rfl
  have e3 : (twoL s.f).length = 2 := rfl
  have e4 : (twoL s.t).length = 2 := rfl
  exact List.eq_nil_of_length_eq_zero (by omega)
end Go.Proofs.YtafbphiedaijmaaDoor
