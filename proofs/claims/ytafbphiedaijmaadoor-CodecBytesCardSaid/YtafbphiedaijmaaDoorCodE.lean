/- The bytes of a row: which bytes say a row, and which. No program in sight. -/
import Derived.Test.YtafbphiedaijmaaDoorReadInv
import Derived.Test.YtafbphiedaijmaaDoorCodS
namespace Go.Proofs.YtafbphiedaijmaaDoor
open Go.RowKit Go.Lib

/-- The number of two bytes. -/
def pointN (a b : UInt8) : Int := (a.toNat * 256 + b.toNat : Nat) - 1000
theorem two_point (a b : UInt8) : twoL (pointN a b) = [a, b] := by
  have ha := a.toNat_lt
  have hb := b.toNat_lt
  have key : ∀ (u : Nat) (x : UInt8), u % 256 = x.toNat → UInt8.ofNat u = x := fun u x h => by
    apply UInt8.toNat_inj.1
    rw [UInt8.toNat_ofNat']
    omega
  unfold twoL pointN
  rw [show ((a.toNat * 256 + b.toNat : Nat) - 1000 + 1000 : Int).toNat = a.toNat * 256 + b.toNat by omega]
  congr 1
  · exact key _ _ (by omega)
  · congr 1
    exact key _ _ (by omega)
theorem point_two {p : Int} (h1 : -1000 ≤ p) (h2 : p ≤ 1000) : ∃ a b, twoL p = [a, b] ∧ pointN a b = p := by
  obtain ⟨n, rfl⟩ : ∃ n : Nat, p = (n : Int) - 1000 := ⟨(p + 1000).toNat, by omega⟩
  refine ⟨_, _, rfl, ?_⟩
  unfold pointN
  rw [show ((n : Int) - 1000 + 1000).toNat = n by omega]
  simp only [UInt8.toNat_ofNat']
  omega

/-- These bytes say this row. -/
def IsRow (l : List UInt8) (r : Rw) : Prop := r.b = true ∧ r.ok ∧ l = r.bytes
theorem bytes_head {x : Vl} (h : x.b = true) : ∃ b r, x.bytes = b :: r ∧ b ≠ 0 := by
  unfold Vl.b at h
  unfold Vl.bytes
  rcases valB_cases h with ⟨h1, _⟩ | ⟨h1, _, _⟩
  · rw [h1]; exact ⟨1, _, rfl, by decide⟩
  · rw [h1]; exact ⟨2, _, rfl, by decide⟩
theorem read_one {x y : Vl} {L M : List UInt8} (hx : x.b = true) (ho : x.ok) (hy : y.b = true) (hp : y.ok) (h : x.bytes ++ L = y.bytes ++ M) : x = y ∧ L = M := by
  have e1 := read_back (k := x.k) (n := x.n) (s := x.s) hx ho.1.1 ho.1.2 L
  have e2 := read_back (k := y.k) (n := y.n) (s := y.s) hy hp.1.1 hp.1.2 M
  have h' : bytesV x.k x.n x.s ++ L = bytesV y.k y.n y.s ++ M := h
  rw [h', e2] at e1
  have hk := congrArg RR.k e1
  have hn := congrArg RR.n e1
  have hs := congrArg RR.s e1
  dsimp only at hk hn hs
  have hxy : x = y := by
    obtain ⟨a, b, c⟩ := x
    obtain ⟨a', b', c'⟩ := y
    dsimp only at hk hn hs
    rw [hk, hn, hs]
  subst hxy
  exact ⟨rfl, List.append_cancel_left h⟩

/-- What follows the values that have been read, of bytes that say a row. -/
def Tail (r : Rw) (rest : List Vl) : List UInt8 := rest.flatMap Vl.bytes ++ [0] ++ twoL r.f ++ twoL r.t
/-- The values that were read are the first ones of whatever row these bytes say. -/
def Inv (l : List UInt8) (acc : List Vl) (L : List UInt8) : Prop :=
  l = acc.flatMap Vl.bytes ++ L ∧ (∀ x ∈ acc, x.b = true ∧ x.ok) ∧ ∀ r, IsRow l r → ∃ rest, r.l = acc ++ rest ∧ L = Tail r rest
theorem Inv.start (l : List UInt8) : Inv l [] l := ⟨by simp, fun x h => by simp at h, fun r h => ⟨r.l, by simp, h.2.2⟩⟩
theorem Inv.none_ {l : List UInt8} {acc : List Vl} (h : Inv l acc []) : ∀ r, ¬ IsRow l r := fun r hr => by
  obtain ⟨rest, _, e⟩ := h.2.2 r hr
  have := congrArg List.length e
  simp [Tail, twoL] at this
theorem Tail.cons {r : Rw} {x : Vl} {rest : List Vl} : Tail r (x :: rest) = x.bytes ++ Tail r rest := by simp [Tail]
theorem Inv.bad {l : List UInt8} {acc : List Vl} {b : UInt8} {L : List UInt8} (h : Inv l acc (b :: L)) (hb : b ≠ 0) (he : (readR (b :: L)).e ≠ 0) : ∀ r, ¬ IsRow l r := fun r hr => by
  obtain ⟨rest, e0, e⟩ := h.2.2 r hr
  cases rest with
  | nil =>
    simp only [Tail, List.flatMap_nil, List.nil_append, List.append_assoc, List.singleton_append, List.cons_append] at e
    exact hb (List.cons.inj e).1
  | cons x rest =>
    obtain ⟨h1, h2, _⟩ := hr
    have hx : x ∈ r.l := by rw [e0]; simp
    have hxb := (Rw.b_iff.1 h1).2.1 x hx
    have hxo := h2.1 x hx
    rw [Tail.cons] at e
    have := read_back (k := x.k) (n := x.n) (s := x.s) hxb hxo.1.1 hxo.1.2 (Tail r rest)
    have e' : b :: L = bytesV x.k x.n x.s ++ Tail r rest := e
    rw [← e'] at this
    rw [this] at he
    exact he rfl
theorem Inv.more {l : List UInt8} {acc : List Vl} {x : Vl} {L : List UInt8} (h : Inv l acc (x.bytes ++ L)) (hx : x.b = true) (ho : x.ok) : Inv l (acc ++ [x]) L := by
  obtain ⟨h1, h2, h3⟩ := h
  refine ⟨by rw [h1]; simp, fun y hy => ?_, fun r hr => ?_⟩
  · rw [List.mem_append] at hy
    rcases hy with hy | hy
    · exact h2 y hy
    · have : y = x := by simpa using hy
      rw [this]; exact ⟨hx, ho⟩
  · obtain ⟨rest, e0, e⟩ := h3 r hr
    cases rest with
    | nil =>
      obtain ⟨b, q, hb, hne⟩ := bytes_head hx
      rw [hb] at e
      simp only [Tail, List.flatMap_nil, List.nil_append, List.append_assoc, List.singleton_append, List.cons_append] at e
      exact absurd (List.cons.inj e).1 hne
    | cons y rest =>
      obtain ⟨g1, g2, _⟩ := hr
      have hy : y ∈ r.l := by rw [e0]; simp
      rw [Tail.cons] at e
      obtain ⟨rfl, e2⟩ := read_one hx ho ((Rw.b_iff.1 g1).2.1 y hy) (g2.1 y hy) e
      exact ⟨rest, by rw [e0]; simp, e2⟩
/-- Behind the values: the row, or none. -/
theorem Inv.end_ {l : List UInt8} {acc : List Vl} {L : List UInt8} (h : Inv l acc (0 :: L)) (r : Rw) (hr : IsRow l r) : r.l = acc ∧ L = twoL r.f ++ twoL r.t := by
  obtain ⟨rest, e0, e⟩ := h.2.2 r hr
  cases rest with
  | nil =>
    simp only [Tail, List.flatMap_nil, List.nil_append, List.append_assoc, List.singleton_append, List.cons_append] at e
    exact ⟨by rw [e0]; simp, (List.cons.inj e).2⟩
  | cons x rest =>
    obtain ⟨h1, h2, _⟩ := hr
    have hx : x ∈ r.l := by rw [e0]; simp
    rw [Tail.cons] at e
    obtain ⟨b, q, hb, hne⟩ := bytes_head ((Rw.b_iff.1 h1).2.1 x hx)
    rw [hb] at e
    exact absurd (List.cons.inj e).1.symm hne
theorem Inv.short {l : List UInt8} {acc : List Vl} {L : List UInt8} (h : Inv l acc (0 :: L)) (hl : L.length ≠ 4) : ∀ r, ¬ IsRow l r := fun r hr => by
  have := (h.end_ r hr).2
  rw [this] at hl
  simp [twoL] at hl
theorem Inv.wrong {l : List UInt8} {acc : List Vl} {a b c d : UInt8} (h : Inv l acc [0, a, b, c, d]) (hb : Rw.b ⟨acc, pointN a b, pointN c d⟩ = false) : ∀ r, ¬ IsRow l r := fun r hr => by
  obtain ⟨e1, e2⟩ := h.end_ r hr
  obtain ⟨g1, g2, g3⟩ := hr
  obtain ⟨_, _, hs⟩ := Rw.b_iff.1 g1
  obtain ⟨s1, s2, s3⟩ := spanB_iff.1 hs
  obtain ⟨a', b', t1, t2⟩ := point_two (p := r.f) (by omega) (by omega)
  obtain ⟨c', d', u1, u2⟩ := point_two (p := r.t) (by omega) (by omega)
  rw [t1, u1] at e2
  simp only [List.cons_append, List.nil_append, List.cons.injEq, and_true] at e2
  obtain ⟨rfl, rfl, rfl, rfl⟩ := e2
  rw [t2, u2, ← e1] at hb
  have : Rw.mk r.l r.f r.t = r := rfl
  rw [this, g1] at hb
  cases hb
theorem Inv.row {l : List UInt8} {acc : List Vl} {a b c d : UInt8} (h : Inv l acc [0, a, b, c, d]) (hb : Rw.b ⟨acc, pointN a b, pointN c d⟩ = true) : IsRow l ⟨acc, pointN a b, pointN c d⟩ := by
  obtain ⟨_, _, hs⟩ := Rw.b_iff.1 hb
  obtain ⟨s1, s2, s3⟩ := spanB_iff.1 hs
  dsimp only at s1 s2 s3
  refine ⟨hb, ⟨fun x hx => (h.2.1 x hx).2, ⟨by simp; omega, by simp; omega⟩, ⟨by simp; omega, by simp; omega⟩⟩, ?_⟩
  rw [h.1]
  unfold Rw.bytes
  simp [two_point]
theorem isRow_one {l : List UInt8} {r s : Rw} (h : IsRow l r) (k : IsRow l s) : r = s := by
  have key : ∀ (a b : List Vl) (X Y : List UInt8), (∀ x ∈ a, x.b = true ∧ x.ok) → (∀ x ∈ b, x.b = true ∧ x.ok) → a.flatMap Vl.bytes ++ 0 :: X = b.flatMap Vl.bytes ++ 0 :: Y → a = b ∧ X = Y := by
    intro a
    induction a with
    | nil =>
      intro b X Y _ hb e
      cases b with
      | nil => simpa using e
      | cons y b =>
        obtain ⟨c, q, hc, hne⟩ := bytes_head (hb y (List.mem_cons_self ..)).1
        rw [List.flatMap_cons, hc] at e
        simp at e
        exact absurd e.1.symm hne
    | cons x a ih =>
      intro b X Y ha hb e
      cases b with
      | nil =>
        obtain ⟨c, q, hc, hne⟩ := bytes_head (ha x (List.mem_cons_self ..)).1
        rw [List.flatMap_cons, hc] at e
        simp at e
        exact absurd e.1 hne
      | cons y b =>
        rw [List.flatMap_cons, List.flatMap_cons, List.append_assoc, List.append_assoc] at e
        obtain ⟨rfl, e2⟩ := read_one (ha x (List.mem_cons_self ..)).1 (ha x (List.mem_cons_self ..)).2 (hb y (List.mem_cons_self ..)).1 (hb y (List.mem_cons_self ..)).2 e
        obtain ⟨h1, h2⟩ := ih b X Y (fun z hz => ha z (List.mem_cons_of_mem _ hz)) (fun z hz => hb z (List.mem_cons_of_mem _ hz)) e2
        exact ⟨by rw [h1], h2⟩
  obtain ⟨r1, r2, r3⟩ := h
  obtain ⟨k1, k2, k3⟩ := k
  obtain ⟨_, rb, rs⟩ := Rw.b_iff.1 r1
  obtain ⟨_, kb, ks⟩ := Rw.b_iff.1 k1
  have e : r.bytes = s.bytes := by rw [← r3, ← k3]
  unfold Rw.bytes at e
  simp only [List.append_assoc, List.singleton_append] at e
  obtain ⟨h1, h2⟩ := key r.l s.l _ _ (fun x hx => ⟨rb x hx, r2.1 x hx⟩) (fun x hx => ⟨kb x hx, k2.1 x hx⟩) e
  obtain ⟨s1, s2, s3⟩ := spanB_iff.1 rs
  obtain ⟨t1, t2, t3⟩ := spanB_iff.1 ks
  obtain ⟨a, b, e1, e2⟩ := point_two (p := r.f) (by omega) (by omega)
  obtain ⟨c, d, e3, e4⟩ := point_two (p := r.t) (by omega) (by omega)
  obtain ⟨a', b', e5, e6⟩ := point_two (p := s.f) (by omega) (by omega)
  obtain ⟨c', d', e7, e8⟩ := point_two (p := s.t) (by omega) (by omega)
  rw [e1, e3, e5, e7] at h2
  have h2' : [a, b, c, d] = [a', b', c', d'] := h2
  simp only [List.cons.injEq, and_true] at h2'
  obtain ⟨rfl, rfl, rfl, rfl⟩ := h2'
  obtain ⟨l, f, t⟩ := r
  obtain ⟨l', f', t'⟩ := s
  dsimp only at *
  rw [h1, ← e2, ← e6, ← e4, ← e8]
end Go.Proofs.YtafbphiedaijmaaDoor
