/- The walk of TopOpposites. -/
import Derived.Test.YthfhgjafehegbaaVcmp
import Derived.Deep.RegionHeld3
namespace Go.Proofs.Ythfhgjafehegbaa
open Go.RowKit

theorem bcell {W w1 : World} (hb : Below W.heap.size W w1) : (∀ b o, b < W.heap.size → w1.cell? ⟨b, o, none⟩ = W.cell? ⟨b, o, none⟩) ∧ (∀ b o, b < W.heap.size → w1.frozen? ⟨b, o, none⟩ = W.frozen? ⟨b, o, none⟩) :=
  ⟨fun b o h => hb.cell (p := ⟨b, o, none⟩) h, fun b o h => hb.frozen (p := ⟨b, o, none⟩) h⟩

theorem keepS {W w0 w1 : World} (hs : Below W.heap.size W w0) (hb : Below w0.heap.size w0 w1) : Below W.heap.size W w1 := hs.trans (hb.mono hs.size)

/-- Both ways of a comparison, whatever the kinds. -/
def cB (o k1 n1 k2 n2 : Int) (s1 s2 : ByteArray) : Bool := if k1 = k2 then opB o (orI [cmpI k1 k2, cmpI n1 n2, Lib.compareBytes s1.data.toList s2.data.toList]) else false

theorem compares_any (o k1 n1 k2 n2 : Int) (s1 s2 : ByteArray) (w : World) :
    Calls Try.prog 4 #[.int .u8 o, .agg #[.int .u8 k1, .int .i64 n1, .string s1], .agg #[.int .u8 k2, .int .i64 n2, .string s2]] w fun e w' =>
      e = .returned (.bool (cB o k1 n1 k2 n2 s1 s2)) ∧ Below w.heap.size w w' := by
  by_cases h : k1 = k2
  · subst h
    exact (compares_eq o k1 n1 n2 s1 s2 w).mono fun e w' ⟨he, hb⟩ => ⟨by rw [he, cB, if_pos rfl], hb⟩
  · exact (compares_ne o k1 n1 k2 n2 s1 s2 w h).mono fun e w' ⟨he, hb⟩ => ⟨by rw [he, cB, if_neg h], hb⟩

theorem cB_ne (k1 n1 k2 n2 : Int) (s1 s2 : ByteArray) (h : k1 ≠ k2) (o : Int) : cB o k1 n1 k2 n2 s1 s2 = false := by rw [cB, if_neg h]
theorem cB_12 (k n1 n2 : Int) (s1 s2 : ByteArray) : ¬ cB 1 k n1 k n2 s1 s2 = cB 2 k n1 k n2 s1 s2 := by
  unfold cB
  generalize orI _ = c
  by_cases h : c = 0
  · subst h; rw [if_pos rfl, if_pos rfl]; decide
  · have e : (c == 0) = false := by simpa using h
    simp [opB, bne, e]
theorem cB_36 (k n1 n2 : Int) (s1 s2 : ByteArray) : ¬ cB 3 k n1 k n2 s1 s2 = cB 6 k n1 k n2 s1 s2 := by
  unfold cB
  generalize orI _ = c
  simp [opB]
  by_cases h : c < 0 <;> simp [h] <;> omega
theorem cB_45 (k n1 n2 : Int) (s1 s2 : ByteArray) : ¬ cB 4 k n1 k n2 s1 s2 = cB 5 k n1 k n2 s1 s2 := by
  unfold cB
  generalize orI _ = c
  simp [opB]
  by_cases h : c ≤ 0 <;> simp [h] <;> omega
theorem cB_one : cB 1 1 1 1 1 ⟨#[]⟩ ⟨#[]⟩ = true := by decide +kernel

set_option maxHeartbeats 1000000 in
theorem opposites_ne (k1 n1 k2 n2 : Int) (s1 s2 : ByteArray) (w : World) (hk12 : k1 ≠ k2) :
    Calls Try.prog 3 #[.agg #[.int .u8 k1, .int .i64 n1, .string s1], .agg #[.int .u8 k2, .int .i64 n2, .string s2]] w fun e w' =>
      e = .returned (.bool true) ∧ Below w.heap.size w w' := by
  have hF := cB_ne k1 n1 k2 n2 s1 s2 hk12
  have hE : (k1 == k2) = false := by simpa using hk12
  have hE' : (k1 != k2) = true := by simpa using hk12
  go_enter Try.func3, Try.ntmps3
  go_wp2
  go_loopw [7] (fun i wr => ∃ k : Nat, k ≤ 3 ∧ i = .int .i64 k ∧ wr.cell? ⟨w.heap.size, 0, none⟩ = some (.int .u8 k1) ∧ wr.cell? ⟨w.heap.size, 1, none⟩ = some (.int .i64 n1) ∧ wr.cell? ⟨w.heap.size, 2, none⟩ = some (.string s1) ∧ wr.cell? ⟨w.heap.size + 1, 0, none⟩ = some (.int .u8 k2) ∧ wr.cell? ⟨w.heap.size + 1, 1, none⟩ = some (.int .i64 n2) ∧ wr.cell? ⟨w.heap.size + 1, 2, none⟩ = some (.string s2) ∧ wr.cell? ⟨w.heap.size + 1 + 1, 0, none⟩ = some (.int .u8 1) ∧ wr.cell? ⟨w.heap.size + 1 + 1, 1, none⟩ = some (.int .u8 2) ∧ wr.cell? ⟨w.heap.size + 1 + 1, 2, none⟩ = some (.int .u8 3) ∧ wr.cell? ⟨w.heap.size + 1 + 1, 3, none⟩ = some (.int .u8 6) ∧ wr.cell? ⟨w.heap.size + 1 + 1, 4, none⟩ = some (.int .u8 4) ∧ wr.cell? ⟨w.heap.size + 1 + 1, 5, none⟩ = some (.int .u8 5) ∧ wr.cell? ⟨w.heap.size + 1 + 1 + 1, 0, none⟩ = some (.int .u8 1) ∧ wr.cell? ⟨w.heap.size + 1 + 1 + 1, 1, none⟩ = some (.int .i64 1) ∧ wr.cell? ⟨w.heap.size + 1 + 1 + 1, 2, none⟩ = some (.string ⟨#[]⟩) ∧ Below w.heap.size w wr ∧ w.heap.size + 4 ≤ wr.heap.size)
    (fun i _ => 3 - (intOf i).toNat)
  case atStart =>
    refine ⟨0, by omega, rfl, ?_⟩
    simp [go_sem]
    exact (((((Below.refl _ _).alloc (Nat.le_refl _) _).alloc (by simp) _).alloc (by simp; omega) _).alloc (by simp; omega) _)
  case round =>
    obtain ⟨k, hk, rfl, a0, a1, a2, b0, b1, b2, c0, c1, c2, c3, c4, c5, d0, d1, d2, hb, hz⟩ := hrel
    have z0 : w.heap.size < wr.heap.size := by omega
    have z1 : w.heap.size + 1 < wr.heap.size := by omega
    have z2 : w.heap.size + 1 + 1 < wr.heap.size := by omega
    have z3 : w.heap.size + 1 + 1 + 1 < wr.heap.size := by omega
    rcases (show k = 0 ∨ k = 1 ∨ k = 2 ∨ k = 3 by omega) with rfl | rfl | rfl | rfl
    iterate 3
      · go_wp2
        go_region_held3 (fun w' => (∀ b o, b < wr.heap.size → w'.cell? ⟨b, o, none⟩ = wr.cell? ⟨b, o, none⟩) ∧ Below wr.heap.size wr w')
          (first | exact ⟨fun _ _ _ => rfl, (Below.refl _ _).drew⟩ | (go_split_ands; have q : Below wr.heap.size wr w1 := keepS (by assumption) hb1; exact ⟨(bcell q).1, q⟩))
          (first | (go_at_call 4; refine (compares_any _ _ _ _ _ _ _ _).mono ?_; rintro e w1 ⟨rfl, hb1⟩))
        go_split_ands
        go_wp2
        go_roundw
        case rel =>
          have q : Below wr.heap.size wr w1 := by assumption
          refine ⟨_ + 1, ?_, by go_num, ?_⟩
          · omega
          · refine ⟨?_, ?_, ?_, ?_, ?_, ?_, ?_, ?_, ?_, ?_, ?_, ?_, ?_, ?_, ?_, ?_, ?_⟩
            iterate 15 (first | (rw [(bcell q).1 _ _ (by omega)]; assumption))
            · exact hb.trans (q.mono hb.size)
            · have := q.size; omega
        case measure => simp [intOf]
    · go_wp2_with fail
      refine (compares_any _ _ _ _ _ _ _ _).mono ?_
      rintro e w1 ⟨rfl, hb1⟩
      go_wp2
      go_ret
      exact ⟨ret_bool cB_one, hb.trans (hb1.mono hb.size)⟩

set_option maxHeartbeats 1000000 in
theorem opposites_eq (k1 n1 n2 : Int) (s1 s2 : ByteArray) (w : World) :
    Calls Try.prog 3 #[.agg #[.int .u8 k1, .int .i64 n1, .string s1], .agg #[.int .u8 k1, .int .i64 n2, .string s2]] w fun e w' =>
      e = .returned (.bool true) ∧ Below w.heap.size w w' := by
  have h12 : (cB 1 k1 n1 k1 n2 s1 s2 == cB 2 k1 n1 k1 n2 s1 s2) = false := by simpa using cB_12 k1 n1 n2 s1 s2
  have h36 : (cB 3 k1 n1 k1 n2 s1 s2 == cB 6 k1 n1 k1 n2 s1 s2) = false := by simpa using cB_36 k1 n1 n2 s1 s2
  have h45 : (cB 4 k1 n1 k1 n2 s1 s2 == cB 5 k1 n1 k1 n2 s1 s2) = false := by simpa using cB_45 k1 n1 n2 s1 s2
  have g12 := cB_12 k1 n1 n2 s1 s2
  have g36 := cB_36 k1 n1 n2 s1 s2
  have g45 := cB_45 k1 n1 n2 s1 s2
  go_enter Try.func3, Try.ntmps3
  go_wp2
  go_loopw [7] (fun i wr => ∃ k : Nat, k ≤ 3 ∧ i = .int .i64 k ∧ wr.cell? ⟨w.heap.size, 0, none⟩ = some (.int .u8 k1) ∧ wr.cell? ⟨w.heap.size, 1, none⟩ = some (.int .i64 n1) ∧ wr.cell? ⟨w.heap.size, 2, none⟩ = some (.string s1) ∧ wr.cell? ⟨w.heap.size + 1, 0, none⟩ = some (.int .u8 k1) ∧ wr.cell? ⟨w.heap.size + 1, 1, none⟩ = some (.int .i64 n2) ∧ wr.cell? ⟨w.heap.size + 1, 2, none⟩ = some (.string s2) ∧ wr.cell? ⟨w.heap.size + 1 + 1, 0, none⟩ = some (.int .u8 1) ∧ wr.cell? ⟨w.heap.size + 1 + 1, 1, none⟩ = some (.int .u8 2) ∧ wr.cell? ⟨w.heap.size + 1 + 1, 2, none⟩ = some (.int .u8 3) ∧ wr.cell? ⟨w.heap.size + 1 + 1, 3, none⟩ = some (.int .u8 6) ∧ wr.cell? ⟨w.heap.size + 1 + 1, 4, none⟩ = some (.int .u8 4) ∧ wr.cell? ⟨w.heap.size + 1 + 1, 5, none⟩ = some (.int .u8 5) ∧ wr.cell? ⟨w.heap.size + 1 + 1 + 1, 0, none⟩ = some (.int .u8 1) ∧ wr.cell? ⟨w.heap.size + 1 + 1 + 1, 1, none⟩ = some (.int .i64 1) ∧ wr.cell? ⟨w.heap.size + 1 + 1 + 1, 2, none⟩ = some (.string ⟨#[]⟩) ∧ Below w.heap.size w wr ∧ w.heap.size + 4 ≤ wr.heap.size)
    (fun i _ => 3 - (intOf i).toNat)
  case atStart =>
    refine ⟨0, by omega, rfl, ?_⟩
    simp [go_sem]
    exact (((((Below.refl _ _).alloc (Nat.le_refl _) _).alloc (by simp) _).alloc (by simp; omega) _).alloc (by simp; omega) _)
  case round =>
    obtain ⟨k, hk, rfl, a0, a1, a2, b0, b1, b2, c0, c1, c2, c3, c4, c5, d0, d1, d2, hb, hz⟩ := hrel
    have z0 : w.heap.size < wr.heap.size := by omega
    have z1 : w.heap.size + 1 < wr.heap.size := by omega
    have z2 : w.heap.size + 1 + 1 < wr.heap.size := by omega
    have z3 : w.heap.size + 1 + 1 + 1 < wr.heap.size := by omega
    rcases (show k = 0 ∨ k = 1 ∨ k = 2 ∨ k = 3 by omega) with rfl | rfl | rfl | rfl
    iterate 3
      · go_wp2
        go_region_held3 (fun w' => (∀ b o, b < wr.heap.size → w'.cell? ⟨b, o, none⟩ = wr.cell? ⟨b, o, none⟩) ∧ Below wr.heap.size wr w')
          (first | exact ⟨fun _ _ _ => rfl, (Below.refl _ _).drew⟩ | (go_split_ands; have q : Below wr.heap.size wr w1 := keepS (by assumption) hb1; exact ⟨(bcell q).1, q⟩))
          (first | (go_at_call 4; refine (compares_any _ _ _ _ _ _ _ _).mono ?_; rintro e w1 ⟨rfl, hb1⟩))
        go_split_ands
        go_wp2
        go_roundw
        case rel =>
          have q : Below wr.heap.size wr w1 := by assumption
          refine ⟨_ + 1, ?_, by go_num, ?_⟩
          · omega
          · refine ⟨?_, ?_, ?_, ?_, ?_, ?_, ?_, ?_, ?_, ?_, ?_, ?_, ?_, ?_, ?_, ?_, ?_⟩
            iterate 15 (first | (rw [(bcell q).1 _ _ (by omega)]; assumption))
            · exact hb.trans (q.mono hb.size)
            · have := q.size; omega
        case measure => simp [intOf]
    · go_wp2_with fail
      refine (compares_any _ _ _ _ _ _ _ _).mono ?_
      rintro e w1 ⟨rfl, hb1⟩
      go_wp2
      go_ret
      exact ⟨ret_bool cB_one, hb.trans (hb1.mono hb.size)⟩

end Go.Proofs.Ythfhgjafehegbaa
