/- Keys and the order of rows. No program in sight. -/
import Derived.Test.YtafbphiedaijmaaCodO
namespace Go.Proofs.Ytafbphiedaijmaa
open Go.RowKit Go.Lib

theorem or3_pos {a b c : Int} (h : orI [a, b, c] ≤ 0) : a ≤ 0 := by
  simp only [orI] at h
  split at h <;> omega
theorem Rw.head {r : Rw} (hb : r.b = true) (ho : r.ok) : ∃ x t, r.l = x :: t ∧ x.b = true ∧ x.ok ∧ r.key = x.bytes := by
  obtain ⟨⟨h1, _⟩, h2, _⟩ := Rw.b_iff.1 hb
  cases hl : r.l with
  | nil => rw [hl] at h1; simp at h1
  | cons x t =>
    have hx := h2 x (by rw [hl]; simp)
    refine ⟨x, t, rfl, hx, ho.1 x (by rw [hl]; simp), ?_⟩
    unfold Rw.key
    rw [hl]
    dsimp only
    rw [if_pos hx]
theorem Rw.key_front {r : Rw} (hb : r.b = true) (ho : r.ok) : ∃ R, r.bytes = r.key ++ R := by
  obtain ⟨x, t, e, _, _, ek⟩ := Rw.head hb ho
  unfold Rw.bytes
  rw [ek, e]
  exact ⟨t.flatMap Vl.bytes ++ [0] ++ twoL r.f ++ twoL r.t, by simp [List.append_assoc]⟩
theorem valsC_head {x y : Vl} {l m : List Vl} (h : valsC (x :: l) (y :: m) ≤ 0) : cmpW x y ≤ 0 := by
  have := valsC_at (x :: l) (y :: m) 0 (a := x) (b := y) rfl rfl
  simp only [List.drop_zero] at this
  rw [this] at h
  split at h <;> omega
theorem cb_bytes {x y : Vl} (hx : x.b = true) (ho : x.ok) (hy : y.b = true) (hp : y.ok) : compareBytes x.bytes y.bytes = cmpW x y := by
  have := cb_value hx ho hy hp [] []
  simp only [List.append_nil] at this
  rw [this]
  split
  · rename_i h; rw [h]; rfl
  · rfl
theorem cb_both {X Y : List UInt8} (h1 : compareBytes X Y ≤ 0) (h2 : compareBytes Y X ≤ 0) : X = Y := by
  rw [cb_turn X Y] at h2
  exact cb_eq _ _ (by omega)
theorem key_between {a b c : Rw} (ha : a.b = true) (oa : a.ok) (hb : b.b = true) (ob : b.ok) (hc : c.b = true) (oc : c.ok)
    (h1 : rowC a b ≤ 0) (h2 : rowC b c ≤ 0) (hk : a.key = c.key) : b.key = a.key := by
  obtain ⟨x, l, el, bx, ox, kx⟩ := Rw.head ha oa
  obtain ⟨y, m, em, by', oy, ky⟩ := Rw.head hb ob
  obtain ⟨z, n, en, bz, oz, kz⟩ := Rw.head hc oc
  have v1 := or3_pos (show orI [valsC a.l b.l, cmpI a.f b.f, cmpI a.t b.t] ≤ 0 from h1)
  have v2 := or3_pos (show orI [valsC b.l c.l, cmpI b.f c.f, cmpI b.t c.t] ≤ 0 from h2)
  rw [el, em] at v1
  rw [em, en] at v2
  have c1 := valsC_head v1
  have c2 := valsC_head v2
  rw [kx, kz] at hk
  rw [kx, ky]
  rw [← cb_bytes bx ox by' oy] at c1
  rw [← cb_bytes by' oy bz oz, ← hk] at c2
  exact (cb_both c1 c2).symm
theorem Rw.key_size {r : Rw} (hb : r.b = true) (ho : r.ok) : 0 < r.key.length := by
  obtain ⟨x, t, _, h, _, e⟩ := Rw.head hb ho
  rw [e]
  have := (bytes_short h).2
  omega
end Go.Proofs.Ytafbphiedaijmaa
