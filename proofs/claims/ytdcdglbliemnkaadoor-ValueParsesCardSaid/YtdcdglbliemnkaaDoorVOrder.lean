/- The walk of ValueOrder: the order of bytes is that of values. -/
import Derived.Test.YtdcdglbliemnkaaDoorBytesOrd
import Derived.Test.YtdcdglbliemnkaaDoorLive3
import Derived.Deep.RegionHeld3
namespace Go.Proofs.YtdcdglbliemnkaaDoor
open Go.RowKit Go.Lib

theorem bcell {W w1 : World} (hb : Below W.heap.size W w1) : ∀ b o, b < W.heap.size → w1.cell? ⟨b, o, none⟩ = W.cell? ⟨b, o, none⟩ := fun b o h => hb.cell (p := ⟨b, o, none⟩) h

set_option maxRecDepth 100000 in
set_option maxHeartbeats 1000000 in
theorem value_bytes_no (k n : Int) (s : ByteArray) (w : World) (hv : valB k n s = false) :
    Calls Tryd.prog 34 #[.agg #[.int .u8 k, .int .i64 n, .string s]] w fun e w' => e = .returned (.tuple #[.slice none 0 0, .int .i64 3]) ∧ Below w.heap.size w w' := by
  have hb0 : ∀ o, Below w.heap.size w (w.alloc o) := fun o => (Below.refl _ _).alloc (Nat.le_refl _) o
  have HR := Lib.hid (fun w => value_right k n s w)
  rw [hv] at HR
  go_enter Tryd.func34, Tryd.ntmps34
  go_wp2_with fail
  refine (HR.out _).mono ?_
  rintro e w1 ⟨rfl, hb1⟩
  go_wp2
  go_ret2
  exact ⟨rfl, keepS' (hb0 _) hb1⟩

theorem less_of {a b : List UInt8} {C : Int} (h : compareBytes a b = C) : Op.bytesLess a b = decide (C < 0) ∧ Op.bytesLess b a = decide (0 < C) := by
  have h1 := less_compare a b
  have h2 := less_compare b a
  rw [cb_turn a b] at h2
  rw [h] at h1 h2
  constructor
  · cases hq : Op.bytesLess a b with
    | true => rw [hq, if_pos rfl] at h1; rw [decide_eq_true (by omega)]
    | false =>
      rw [hq, if_neg (by simp)] at h1
      split at h1 <;> rw [decide_eq_false (by omega)]
  · cases hq : Op.bytesLess b a with
    | true => rw [hq, if_pos rfl] at h2; rw [decide_eq_true (by omega)]
    | false =>
      rw [hq, if_neg (by simp)] at h2
      split at h2 <;> rw [decide_eq_false (by omega)]

set_option maxRecDepth 100000 in
set_option maxHeartbeats 4000000 in
theorem valueOrder_walk (k1 n1 : Int) (s1 : ByteArray) (k2 n2 : Int) (s2 : ByteArray) (w : World) (a1 : -9223372036854775808 ≤ n1) (a2 : n1 ≤ 9223372036854775807) (b1 : -9223372036854775808 ≤ n2) (b2 : n2 ≤ 9223372036854775807) (hE : Env w) :
    Calls Tryd.prog 9 #[.agg #[.int .u8 k1, .int .i64 n1, .string s1], .agg #[.int .u8 k2, .int .i64 n2, .string s2]] w fun e w' => e = .returned (.bool true) ∧ Below w.heap.size w w' := by
  have x1 : Below w.heap.size w (w.alloc (.cells #[.int .u8 k1, .int .i64 n1, .string s1] 38)) := (Below.refl _ _).alloc (Nat.le_refl _) _
  obtain ⟨O, hO⟩ : ∃ O, O = (w.alloc (.cells #[.int .u8 k1, .int .i64 n1, .string s1] 38)).alloc (.cells #[.int .u8 k2, .int .i64 n2, .string s2] 38) := ⟨_, rfl⟩
  have c0 : Below w.heap.size w O := by rw [hO]; exact x1.alloc (by simp) _
  have z0 : w.heap.size + 1 < O.heap.size := by rw [hO]; simp
  have p0 : O.cell? ⟨w.heap.size, 0, none⟩ = some (.int .u8 k1) := by rw [hO]; simp [go_sem]
  have p1 : O.cell? ⟨w.heap.size, 1, none⟩ = some (.int .i64 n1) := by rw [hO]; simp [go_sem]
  have p2 : O.cell? ⟨w.heap.size, 2, none⟩ = some (.string s1) := by rw [hO]; simp [go_sem]
  have p3 : O.cell? ⟨w.heap.size + 1, 0, none⟩ = some (.int .u8 k2) := by rw [hO]; simp [go_sem]
  have p4 : O.cell? ⟨w.heap.size + 1, 1, none⟩ = some (.int .i64 n2) := by rw [hO]; simp [go_sem]
  have p5 : O.cell? ⟨w.heap.size + 1, 2, none⟩ = some (.string s2) := by rw [hO]; simp [go_sem]
  have HO := Lib.hid hO
  clear hO x1
  cases v1 : valB k1 n1 s1 with
  | false =>
    have N1 := Lib.hid (fun w => value_bytes_no k1 n1 s1 w v1)
    go_enter Tryd.func9, Tryd.ntmps9
    go_wp2_with fail
    rw [← HO.out]
    refine (N1.out _).mono ?_
    rintro e w1 ⟨rfl, hb1⟩
    have q3 : w1.cell? ⟨w.heap.size + 1, 0, none⟩ = some (.int .u8 k2) := by rw [bcell hb1 _ _ z0]; exact p3
    have q4 : w1.cell? ⟨w.heap.size + 1, 1, none⟩ = some (.int .i64 n2) := by rw [bcell hb1 _ _ z0]; exact p4
    have q5 : w1.cell? ⟨w.heap.size + 1, 2, none⟩ = some (.string s2) := by rw [bcell hb1 _ _ z0]; exact p5
    have c1 := keepS' c0 hb1
    clear hb1 p0 p1 p2 p3 p4 p5 HO
    cases v2 : valB k2 n2 s2 with
    | false =>
      have N2 := Lib.hid (fun w => value_bytes_no k2 n2 s2 w v2)
      go_wp2_with fail
      refine (N2.out _).mono ?_
      rintro e w2 ⟨rfl, hb2⟩
      have c2 := keepS' c1 hb2
      go_wp2_with fail
      refine (live3 _ (hE.below c2)).mono ?_
      rintro e w3 ⟨rfl, hb3⟩
      go_wp2
      go_ret
      exact ⟨rfl, keepS' c2 hb3⟩
    | true =>
      have N2 := Lib.hid (fun w => value_bytes k2 n2 s2 w b1 b2 v2)
      go_wp2_with fail
      refine (N2.out _).mono ?_
      rintro e w2 ⟨⟨y, rfl, _⟩, hb2⟩
      have c2 := keepS' c1 hb2
      go_wp2_with fail
      refine (live3 _ (hE.below c2)).mono ?_
      rintro e w3 ⟨rfl, hb3⟩
      go_wp2
      go_ret
      exact ⟨rfl, keepS' c2 hb3⟩
  | true =>
    have N1 := Lib.hid (fun w => value_bytes k1 n1 s1 w a1 a2 v1)
    go_enter Tryd.func9, Tryd.ntmps9
    go_wp2_with fail
    rw [← HO.out]
    refine (N1.out _).mono ?_
    rintro e w1 ⟨⟨x, rfl, X1⟩, hb1⟩
    have q0 : w1.cell? ⟨w.heap.size, 0, none⟩ = some (.int .u8 k1) := by rw [bcell hb1 _ _ (by omega)]; exact p0
    have q1 : w1.cell? ⟨w.heap.size, 1, none⟩ = some (.int .i64 n1) := by rw [bcell hb1 _ _ (by omega)]; exact p1
    have q2 : w1.cell? ⟨w.heap.size, 2, none⟩ = some (.string s1) := by rw [bcell hb1 _ _ (by omega)]; exact p2
    have q3 : w1.cell? ⟨w.heap.size + 1, 0, none⟩ = some (.int .u8 k2) := by rw [bcell hb1 _ _ z0]; exact p3
    have q4 : w1.cell? ⟨w.heap.size + 1, 1, none⟩ = some (.int .i64 n2) := by rw [bcell hb1 _ _ z0]; exact p4
    have q5 : w1.cell? ⟨w.heap.size + 1, 2, none⟩ = some (.string s2) := by rw [bcell hb1 _ _ z0]; exact p5
    have c1 := keepS' c0 hb1
    have z1 : w.heap.size + 1 < w1.heap.size := by have := hb1.size; omega
    clear hb1 p0 p1 p2 p3 p4 p5 HO
    cases v2 : valB k2 n2 s2 with
    | false =>
      have N2 := Lib.hid (fun w => value_bytes_no k2 n2 s2 w v2)
      go_wp2_with fail
      refine (N2.out _).mono ?_
      rintro e w2 ⟨rfl, hb2⟩
      have c2 := keepS' c1 hb2
      go_wp2_with fail
      refine (live3 _ (hE.below c2)).mono ?_
      rintro e w3 ⟨rfl, hb3⟩
      go_wp2
      go_ret
      exact ⟨rfl, keepS' c2 hb3⟩
    | true =>
      have N2 := Lib.hid (fun w => value_bytes k2 n2 s2 w b1 b2 v2)
      have hord := bytes_order v1 v2 a1 a2 b1 b2
      have hzero := Lib.hid (fun h => cV_zero (k1 := k1) (n1 := n1) (s1 := s1) (k2 := k2) (n2 := n2) (s2 := s2) h)
      have hself := Lib.hid (cV_self k1 n1 s1)
      have HV : Hid (∀ (w : World), Calls Tryd.prog 38 #[.agg #[.int .u8 k1, .int .i64 n1, .string s1], .agg #[.int .u8 k2, .int .i64 n2, .string s2]] w fun e w' => e = .returned (.int .i64 (cV k1 n1 s1 k2 n2 s2)) ∧ Below w.heap.size w w') := Lib.hid (fun w => value_compare k1 n1 k2 n2 s1 s2 w)
      generalize bytesV k1 n1 s1 = bx at *
      generalize bytesV k2 n2 s2 = by' at *
      obtain ⟨L1, L2⟩ := less_of hord
      have hbe : Hid (cV k1 n1 s1 k2 n2 s2 = 0 → bx = by') := Lib.hid (fun h => cb_eq _ _ (hord.trans h))
      have hbn : Hid (cV k1 n1 s1 k2 n2 s2 ≠ 0 → bx ≠ by') := Lib.hid (fun h e => h (by rw [← hord, e]; have := cb_turn by' by'; omega))
      clear hord v1 v2
      go_wp2_with fail
      refine (N2.out _).mono ?_
      rintro e w2 ⟨⟨y, rfl, Y2⟩, hb2⟩
      have r0 : w2.cell? ⟨w.heap.size, 0, none⟩ = some (.int .u8 k1) := by rw [bcell hb2 _ _ (by omega)]; exact q0
      have r1 : w2.cell? ⟨w.heap.size, 1, none⟩ = some (.int .i64 n1) := by rw [bcell hb2 _ _ (by omega)]; exact q1
      have r2 : w2.cell? ⟨w.heap.size, 2, none⟩ = some (.string s1) := by rw [bcell hb2 _ _ (by omega)]; exact q2
      have r3 : w2.cell? ⟨w.heap.size + 1, 0, none⟩ = some (.int .u8 k2) := by rw [bcell hb2 _ _ z1]; exact q3
      have r4 : w2.cell? ⟨w.heap.size + 1, 1, none⟩ = some (.int .i64 n2) := by rw [bcell hb2 _ _ z1]; exact q4
      have r5 : w2.cell? ⟨w.heap.size + 1, 2, none⟩ = some (.string s2) := by rw [bcell hb2 _ _ z1]; exact q5
      have X2 := X1.below hb2
      have c2 := keepS' c1 hb2
      have z2 : w.heap.size + 1 < w2.heap.size := by have := hb2.size; omega
      clear hb2 q0 q1 q2 q3 q4 q5 X1
      go_wp2_with fail
      refine (HV.out _).mono ?_
      rintro e w3 ⟨rfl, hb3⟩
      have t0 : w3.cell? ⟨w.heap.size, 0, none⟩ = some (.int .u8 k1) := by rw [bcell hb3 _ _ (by omega)]; exact r0
      have t1 : w3.cell? ⟨w.heap.size, 1, none⟩ = some (.int .i64 n1) := by rw [bcell hb3 _ _ (by omega)]; exact r1
      have t2 : w3.cell? ⟨w.heap.size, 2, none⟩ = some (.string s1) := by rw [bcell hb3 _ _ (by omega)]; exact r2
      have t3 : w3.cell? ⟨w.heap.size + 1, 0, none⟩ = some (.int .u8 k2) := by rw [bcell hb3 _ _ z2]; exact r3
      have t4 : w3.cell? ⟨w.heap.size + 1, 1, none⟩ = some (.int .i64 n2) := by rw [bcell hb3 _ _ z2]; exact r4
      have t5 : w3.cell? ⟨w.heap.size + 1, 2, none⟩ = some (.string s2) := by rw [bcell hb3 _ _ z2]; exact r5
      have c3 := keepS' c2 hb3
      have X3 := (X2.below hb3).below (Below.refl _ _).drew
      have Y3 := (Y2.below hb3).below (Below.refl _ _).drew
      have z3 : w.heap.size + 1 < w3.heap.size := by have := hb3.size; omega
      have hcx := conv_own X3
      have hcy := conv_own Y3
      clear hb3 r0 r1 r2 r3 r4 r5 X2 Y2
      clear X3 Y3
      go_wp2_with fail
      go_region_held3 (fun w' => w' = w3.drew) (first | rfl | assumption | (subst_vars; rfl)) (fail)
      have c4 : Below w.heap.size w w3.drew := c3.drew
      clear hcx hcy N2 c3
      go_wp2_with fail
      refine (live3 _ (hE.below c4)).mono ?_
      rintro e w4 ⟨rfl, hb4⟩
      have u0 : w4.cell? ⟨w.heap.size, 0, none⟩ = some (.int .u8 k1) := (bcell hb4 _ _ (Nat.lt_of_succ_lt z3)).trans t0
      have u1 : w4.cell? ⟨w.heap.size, 1, none⟩ = some (.int .i64 n1) := (bcell hb4 _ _ (Nat.lt_of_succ_lt z3)).trans t1
      have u2 : w4.cell? ⟨w.heap.size, 2, none⟩ = some (.string s1) := (bcell hb4 _ _ (Nat.lt_of_succ_lt z3)).trans t2
      have u3 : w4.cell? ⟨w.heap.size + 1, 0, none⟩ = some (.int .u8 k2) := (bcell hb4 _ _ z3).trans t3
      have u4 : w4.cell? ⟨w.heap.size + 1, 1, none⟩ = some (.int .i64 n2) := (bcell hb4 _ _ z3).trans t4
      have u5 : w4.cell? ⟨w.heap.size + 1, 2, none⟩ = some (.string s2) := (bcell hb4 _ _ z3).trans t5
      have c5 := keepS' c4 hb4
      clear t0 t1 t2 t3 t4 t5 hb4 c4
      have hc3 : cV k1 n1 s1 k2 n2 s2 < 0 ∨ cV k1 n1 s1 k2 n2 s2 = 0 ∨ 0 < cV k1 n1 s1 k2 n2 s2 := by omega
      rcases hc3 with hc | hc | hc
      · rw [decide_eq_true hc] at L1
        rw [decide_eq_false (by omega)] at L2
        have hne : ¬ (k1 = k2 ∧ n1 = n2 ∧ s1.toList = s2.toList) := by
          rintro ⟨e1, e2, e3⟩
          have e4 : s1 = s2 := by
            apply ByteArray.ext
            apply Array.ext'
            rw [← Lib.toList_data, ← Lib.toList_data, e3]
          subst e1 e2 e4
          have := hself.out
          omega
        have hbq := hbn.out (by omega)
        have hbq' : (bx == by') = false := beq_eq_false_iff_ne.2 hbq
        generalize cV k1 n1 s1 k2 n2 s2 = C at *
        have g0 : decide (C < 0) = true := by first | exact decide_eq_true (by omega) | exact decide_eq_false (by omega)
        have g0' : decide (0 < C) = false := by first | exact decide_eq_true (by omega) | exact decide_eq_false (by omega)
        have g1 : ¬ 0 < C := by omega
        have g2 : (C == 0) = false := beq_eq_false_iff_ne.2 (by omega)
        clear hself hzero HV hbe hbn
        go_wp2
        all_goals first
          | (go_ret
             exact ⟨rfl, c5⟩)
          | (exfalso; exact hne ⟨by assumption, by assumption, by assumption⟩)
      · rw [decide_eq_false (by omega)] at L1
        rw [decide_eq_false (by omega)] at L2
        obtain ⟨e1, e2, e3⟩ := hzero.out hc
        have hbq := hbe.out hc
        clear hbe hbn hzero hself HV
        subst e1 e2 e3 hbq
        rw [hc]
        clear hc
        go_wp2
        go_ret
        exact ⟨rfl, c5⟩
      · rw [decide_eq_false (by omega)] at L1
        rw [decide_eq_true hc] at L2
        have hne : ¬ (k1 = k2 ∧ n1 = n2 ∧ s1.toList = s2.toList) := by
          rintro ⟨e1, e2, e3⟩
          have e4 : s1 = s2 := by
            apply ByteArray.ext
            apply Array.ext'
            rw [← Lib.toList_data, ← Lib.toList_data, e3]
          subst e1 e2 e4
          have := hself.out
          omega
        have hbq := hbn.out (by omega)
        have hbq' : (bx == by') = false := beq_eq_false_iff_ne.2 hbq
        generalize cV k1 n1 s1 k2 n2 s2 = C at *
        have g0 : decide (C < 0) = false := by first | exact decide_eq_true (by omega) | exact decide_eq_false (by omega)
        have g0' : decide (0 < C) = true := by first | exact decide_eq_true (by omega) | exact decide_eq_false (by omega)
        have g1 : ¬ C < 0 := by omega
        have g2 : (C == 0) = false := beq_eq_false_iff_ne.2 (by omega)
        clear hself hzero HV hbe hbn
        go_wp2
        all_goals first
          | (go_ret
             exact ⟨rfl, c5⟩)
          | (exfalso; exact hne ⟨by assumption, by assumption, by assumption⟩)
end Go.Proofs.YtdcdglbliemnkaaDoor
