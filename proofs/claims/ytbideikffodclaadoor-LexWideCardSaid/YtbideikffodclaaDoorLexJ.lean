/- What must be whatever is asked; rows of tokens held against one another. -/
import Derived.Test.YtbideikffodclaaDoorLexH
import Derived.Test.YtbideikffodclaaDoorLexI
import Derived.Deep.QuietTactic
import Derived.BigQuiet
namespace Go.Proofs.YtbideikffodclaaDoor
open Go.RowKit Go.Lib

theorem tok_a : tokR ⟨#[65, 60, 61, 45, 53, 32, 39, 98, 39, 39, 99, 39]⟩ = ⟨[(⟨1, ⟨#[97]⟩, 0⟩, 0), (⟨4, ⟨#[60, 61]⟩, 0⟩, 1), (⟨2, ⟨#[45, 53]⟩, -5⟩, 3), (⟨3, ⟨#[98, 39, 99]⟩, 0⟩, 6)], 0, 0⟩ := by decide +kernel
theorem tok_b : tokR ⟨#[97, 32, 95]⟩ = ⟨[], 2, 8⟩ := by decide +kernel

theorem rowT_length (l : List (Tk × Nat)) : (rowT l).length = l.length * 4 := by
  induction l with
  | nil => rfl
  | cons a t ih => simp only [rowT, List.flatMap_cons, List.length_append, List.length_cons] at ih ⊢; rw [ih]; simp [tokCells]; omega
theorem rowT_at (l : List (Tk × Nat)) (k : Nat) (T : Tk) (i : Nat) (h : l[k]? = some (T, i)) (j : Nat) (hj : j < 4) : (rowT l)[k * 4 + j]? = (tokCells T i)[j]? := by
  induction l generalizing k with
  | nil => simp at h
  | cons a t ih =>
    cases k with
    | zero =>
      simp only [List.getElem?_cons_zero, Option.some.injEq] at h
      subst h
      simp only [rowT, List.flatMap_cons]
      rw [List.getElem?_append_left (by simp [tokCells]; omega)]
      simp
    | succ k =>
      simp only [List.getElem?_cons_succ] at h
      have := ih k h
      simp only [rowT, List.flatMap_cons] at this ⊢
      rw [List.getElem?_append_right (by simp [tokCells]; omega), ← this]
      congr 1
      simp [tokCells]
      omega

/-- v is a slice that reads as just these tokens. -/
def SlT (w : World) (v : Value) (l : List (Tk × Nat)) : Prop := (l = [] ∧ v = .slice none 0 0) ∨ ∃ g c, v = .slice (some ⟨g, 0, none⟩) l.length c ∧ g < w.heap.size ∧ ∀ j u, (rowT l)[j]? = some u → w.cell? ⟨g, j, none⟩ = some u
theorem OwnT.sl {B : Nat} {w : World} {v : Value} {l : List (Tk × Nat)} (h : OwnT B w v l) : SlT w v l := by
  rcases h.2 with ⟨rfl, h0⟩ | ⟨g, cap, cur, rfl, hB, hg, hc, _⟩
  · exact .inl ⟨List.eq_nil_of_length_eq_zero h0, rfl⟩
  · refine .inr ⟨g, cap, rfl, (Array.getElem?_eq_some_iff.1 hg).1, fun j u hu => ?_⟩
    have := World.ownsRow.cells h (g := g) rfl j u hu
    rwa [addr_off, Nat.zero_add] at this
theorem SlT.below {w w' : World} {v : Value} {l : List (Tk × Nat)} (h : SlT w v l) (hb : Below w.heap.size w w') : SlT w' v l := by
  rcases h with h | ⟨g, c, h1, h2, h3⟩
  · exact .inl h
  · exact .inr ⟨g, c, h1, by have := hb.size; omega, fun j u hj => (hb.cell (p := ⟨g, j, none⟩) h2).trans (h3 j u hj)⟩
theorem SlT.len {w : World} {v : Value} {l : List (Tk × Nat)} (h : SlT w v l) : ∃ a c, v = .slice a l.length c := by
  rcases h with ⟨rfl, rfl⟩ | ⟨g, c, rfl, _⟩
  · exact ⟨_, _, rfl⟩
  · exact ⟨_, _, rfl⟩
/-- The cells of the k-th token. -/
theorem SlT.at_ {w : World} {v : Value} {l : List (Tk × Nat)} (h : SlT w v l) {k : Nat} {T : Tk} {i : Nat} (hk : l[k]? = some (T, i)) :
    ∃ g c, v = .slice (some ⟨g, 0, none⟩) l.length c ∧ g < w.heap.size ∧ w.cell? ⟨g, k * 4, none⟩ = some (.int .u8 T.k) ∧ w.cell? ⟨g, k * 4 + 1, none⟩ = some (.string T.t) ∧ w.cell? ⟨g, k * 4 + 2, none⟩ = some (.int .i64 T.n) ∧ w.cell? ⟨g, k * 4 + 3, none⟩ = some (.int .i64 i) := by
  rcases h with ⟨rfl, rfl⟩ | ⟨g, c, h1, h2, h3⟩
  · simp at hk
  · exact ⟨g, c, h1, h2, h3 _ _ (rowT_at l k T i hk 0 (by omega)), h3 _ _ (rowT_at l k T i hk 1 (by omega)), h3 _ _ (rowT_at l k T i hk 2 (by omega)), h3 _ _ (rowT_at l k T i hk 3 (by omega))⟩

set_option maxHeartbeats 1000000 in
theorem short10 (s : ByteArray) (w : World) :
    Calls Tryd.prog 10 #[.string s] w fun e w' => e = .returned (.string (if 410 < s.size then s.extract 0 410 else s)) ∧ w = w' := by
  by_cases h : 410 < s.size
  · have h' : (410 : Int) < (s.size : Int) := by omega
    go_enter Tryd.func10, Tryd.ntmps10
    go_wp2
    go_ret
    exact ⟨rfl, rfl⟩
  · have h' : ¬ (410 : Int) < (s.size : Int) := by omega
    go_enter Tryd.func10, Tryd.ntmps10
    go_wp2
    go_ret
    exact ⟨rfl, rfl⟩

set_option maxHeartbeats 2000000 in
theorem live10 (w : World) (hE : Env w) : Calls Tryd.prog 8 #[] w fun e w' => e = .returned (.bool true) ∧ Below w.heap.size w w' := by
  have HE := Lib.hid hE
  clear hE
  have H1 := Lib.hid (fun w hE => lex_tokens ⟨#[65, 60, 61, 45, 53, 32, 39, 98, 39, 39, 99, 39]⟩ w (by decide) hE)
  have H2 := Lib.hid (fun w hE => lex_tokens ⟨#[97, 32, 95]⟩ w (by decide) hE)
  rw [tok_a] at H1
  rw [tok_b] at H2
  go_enter Tryd.func8, Tryd.ntmps8
  go_wp2_with fail
  refine (H1.out _ HE.out).mono ?_
  rintro e w1 ⟨⟨v, rfl, hO⟩, hb1⟩
  have hS := hO.sl
  go_wp2_with fail
  refine (H2.out _ (HE.out.below hb1)).mono ?_
  rintro e w2 ⟨⟨v2, rfl, hO2⟩, hb2⟩
  have hS2 := hS.below hb2
  obtain ⟨g, c, rfl, hg, a0, a1, a2, a3⟩ := hS2.at_ (k := 0) (T := ⟨1, ⟨#[97]⟩, 0⟩) (i := 0) rfl
  obtain ⟨g', c', e1, _, b0, b1, b2, b3⟩ := hS2.at_ (k := 1) (T := ⟨4, ⟨#[60, 61]⟩, 0⟩) (i := 1) rfl
  obtain ⟨g2, c2, e2, _, d0, d1, d2, d3⟩ := hS2.at_ (k := 2) (T := ⟨2, ⟨#[45, 53]⟩, -5⟩) (i := 3) rfl
  obtain ⟨g3, c3, e3, _, f0, f1, f2, f3⟩ := hS2.at_ (k := 3) (T := ⟨3, ⟨#[98, 39, 99]⟩, 0⟩) (i := 6) rfl
  simp only [Value.slice.injEq, Option.some.injEq, Addr.mk.injEq, and_true, true_and] at e1 e2 e3
  obtain ⟨rfl, rfl⟩ := e1
  obtain ⟨rfl, rfl⟩ := e2
  obtain ⟨rfl, rfl⟩ := e3
  have q2 := keepS' hb1 hb2
  clear hb1 hb2 hS hS2 hO hO2
  go_wp2
  go_ret
  exact ⟨rfl, q2⟩

set_option maxRecDepth 100000 in
set_option maxHeartbeats 4000000 in
theorem ref_same (va vb : Value) (L : List (Tk × Nat)) (w : World) (ha : SlT w va L) (hb : SlT w vb L) (hL : L.length ≤ 1000000) :
    Calls Tryd.prog 16 #[va, vb] w fun e w' => e = .returned (.bool true) ∧ ∃ n, w' = w.drewN n := by
  obtain ⟨A, ca, rfl⟩ := ha.len
  obtain ⟨B, cb, rfl⟩ := hb.len
  have HA := Lib.hid ha
  have HB := Lib.hid hb
  clear ha hb
  go_enter Tryd.func16, Tryd.ntmps16
  go_wp2
  go_loopw [5] (fun t wr => ∃ k n : Nat, t = .int .i64 k ∧ k ≤ L.length ∧ wr = w.drewN n) (fun t _ => L.length - (RowKit.intOf t).toNat)
  case atStart => exact ⟨0, 0, rfl, by omega, rfl⟩
  case round =>
    obtain ⟨k, n, rfl, hk, rfl⟩ := hrel
    by_cases hp : k < L.length
    · have hkT : L[k]? = some (L[k].1, L[k].2) := List.getElem?_eq_getElem hp
      obtain ⟨g, c, e1, _, a0, a1, a2, a3⟩ := HA.out.at_ hkT
      obtain ⟨g', c', e2, _, b0, b1, b2, b3⟩ := HB.out.at_ hkT
      simp only [Value.slice.injEq, true_and] at e1 e2
      obtain ⟨rfl, rfl⟩ := e1
      obtain ⟨rfl, rfl⟩ := e2
      generalize L[k].1 = T at *
      generalize L[k].2 = i at *
      have hpI : (k : Int) < (L.length : Int) := by omega
      clear hkT
      go_wp2_with fail
      go_quiet (fail)
      go_wp2
      go_roundw
      case rel => exact ⟨k + 1, n + nq, by go_num, by omega, rfl⟩
      case measure => simp [RowKit.intOf]; omega
    · have hk' : k = L.length := by omega
      subst hk'
      go_wp2
      go_ret
      exact ⟨rfl, n, rfl⟩
end Go.Proofs.YtbideikffodclaaDoor
