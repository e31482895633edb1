/- The walk of ValueAhead: what is ahead of what is ahead is ahead; turned, the order is turned. -/
import Derived.Test.YtdcdglbliemnkaaDoorOrder
import Derived.Test.YtdcdglbliemnkaaDoorLive3
import Derived.Deep.RegionHeld3
namespace Go.Proofs.YtdcdglbliemnkaaDoor
open Go.RowKit Go.Lib

theorem bcell {W w1 : World} (hb : Below W.heap.size W w1) : ∀ b o, b < W.heap.size → w1.cell? ⟨b, o, none⟩ = W.cell? ⟨b, o, none⟩ := fun b o h => hb.cell (p := ⟨b, o, none⟩) h

set_option maxRecDepth 100000 in
set_option maxHeartbeats 4000000 in
theorem valueAhead_walk (k0 n0 : Int) (s0 : ByteArray) (k1 n1 : Int) (s1 : ByteArray) (k2 n2 : Int) (s2 : ByteArray) (w : World) (hE : Env w) :
    Calls Tryd.prog 10 #[.agg #[.int .u8 k0, .int .i64 n0, .string s0, .int .u8 k1, .int .i64 n1, .string s1, .int .u8 k2, .int .i64 n2, .string s2]] w fun e w' => e = .returned (.bool true) ∧ Below w.heap.size w w' := by
  have hT := cV_tr k0 n0 s0 k1 n1 s1 k2 n2 s2
  have hU := cV_turn k0 n0 s0 k1 n1 s1
  have hS := cV_self k2 n2 s2
  have r0 := cV_range k0 n0 s0 k1 n1 s1
  have HV : Hid (∀ (k1 n1 k2 n2 : Int) (s1 s2 : ByteArray) (w : World), Calls Tryd.prog 38 #[.agg #[.int .u8 k1, .int .i64 n1, .string s1], .agg #[.int .u8 k2, .int .i64 n2, .string s2]] w fun e w' => e = .returned (.int .i64 (cV k1 n1 s1 k2 n2 s2)) ∧ Below w.heap.size w w') := Lib.hid (fun k1 n1 k2 n2 s1 s2 w => value_compare k1 n1 k2 n2 s1 s2 w)
  have HT := Lib.hid hT
  have HU := Lib.hid hU
  have HS := Lib.hid hS
  clear hT hU hS r0
  obtain ⟨O, hO⟩ : ∃ O, O = w.alloc (.cells #[.int .u8 k0, .int .i64 n0, .string s0, .int .u8 k1, .int .i64 n1, .string s1, .int .u8 k2, .int .i64 n2, .string s2] 48) := ⟨_, rfl⟩
  have c0 : Below w.heap.size w O := by rw [hO]; exact (Below.refl _ _).alloc (Nat.le_refl _) _
  have z0 : w.heap.size < O.heap.size := by rw [hO]; simp
  have a0 : O.cell? ⟨w.heap.size, 0, none⟩ = some (.int .u8 k0) := by rw [hO]; simp [go_sem]
  have a1 : O.cell? ⟨w.heap.size, 1, none⟩ = some (.int .i64 n0) := by rw [hO]; simp [go_sem]
  have a2 : O.cell? ⟨w.heap.size, 2, none⟩ = some (.string s0) := by rw [hO]; simp [go_sem]
  have a3 : O.cell? ⟨w.heap.size, 3, none⟩ = some (.int .u8 k1) := by rw [hO]; simp [go_sem]
  have a4 : O.cell? ⟨w.heap.size, 4, none⟩ = some (.int .i64 n1) := by rw [hO]; simp [go_sem]
  have a5 : O.cell? ⟨w.heap.size, 5, none⟩ = some (.string s1) := by rw [hO]; simp [go_sem]
  have a6 : O.cell? ⟨w.heap.size, 6, none⟩ = some (.int .u8 k2) := by rw [hO]; simp [go_sem]
  have a7 : O.cell? ⟨w.heap.size, 7, none⟩ = some (.int .i64 n2) := by rw [hO]; simp [go_sem]
  have a8 : O.cell? ⟨w.heap.size, 8, none⟩ = some (.string s2) := by rw [hO]; simp [go_sem]
  have HO := Lib.hid hO
  clear hO
  go_enter Tryd.func10, Tryd.ntmps10
  go_wp2_with fail
  rw [← HO.out]
  go_region_held3 (fun w' => (∀ b o, b < O.heap.size → w'.cell? ⟨b, o, none⟩ = O.cell? ⟨b, o, none⟩) ∧ Below O.heap.size O w')
    (first | exact ⟨fun _ _ _ => rfl, (Below.refl _ _).drew⟩ | (go_split_ands; have q : Below O.heap.size O w1 := keepS' (by assumption) hb1; exact ⟨bcell q, q⟩))
    (first | (go_at_call 38; refine (HV.out _ _ _ _ _ _ _).mono ?_); rintro e w1 ⟨rfl, hb1⟩)
  go_split_ands
  have hq : Below O.heap.size O w1 := by assumption
  have q0 : w1.cell? ⟨w.heap.size, 0, none⟩ = some (.int .u8 k0) := by rw [bcell hq _ _ z0]; exact a0
  have q1 : w1.cell? ⟨w.heap.size, 1, none⟩ = some (.int .i64 n0) := by rw [bcell hq _ _ z0]; exact a1
  have q2 : w1.cell? ⟨w.heap.size, 2, none⟩ = some (.string s0) := by rw [bcell hq _ _ z0]; exact a2
  have q3 : w1.cell? ⟨w.heap.size, 3, none⟩ = some (.int .u8 k1) := by rw [bcell hq _ _ z0]; exact a3
  have q4 : w1.cell? ⟨w.heap.size, 4, none⟩ = some (.int .i64 n1) := by rw [bcell hq _ _ z0]; exact a4
  have q5 : w1.cell? ⟨w.heap.size, 5, none⟩ = some (.string s1) := by rw [bcell hq _ _ z0]; exact a5
  have q6 : w1.cell? ⟨w.heap.size, 6, none⟩ = some (.int .u8 k2) := by rw [bcell hq _ _ z0]; exact a6
  have q7 : w1.cell? ⟨w.heap.size, 7, none⟩ = some (.int .i64 n2) := by rw [bcell hq _ _ z0]; exact a7
  have q8 : w1.cell? ⟨w.heap.size, 8, none⟩ = some (.string s2) := by rw [bcell hq _ _ z0]; exact a8
  have e1 : Below w.heap.size w w1 := keepS' c0 hq
  have y1 : w.heap.size < w1.heap.size := by have := hq.size; omega
  clear a0 a1 a2 a3 a4 a5 a6 a7 a8 HO
  have hA := cV_range k0 n0 s0 k1 n1 s1
  have hT := HT.out
  have hD := HU.out
  unfold Tr at hT
  have hC : cV k0 n0 s0 k2 n2 s2 = cV k0 n0 s0 k2 n2 s2 := rfl
  generalize cV k0 n0 s0 k2 n2 s2 = C at *
  generalize cV k1 n1 s1 k2 n2 s2 = B at *
  generalize hAA : cV k0 n0 s0 k1 n1 s1 = A at *
  have hn : IntKind.i64.wrap (-A) = -A := IntWalk.i64_in _ (by omega)
  have hn' : wrap64 (-A) = -A := by rw [← IntWalk.i64_left]; exact hn
  have HD := Lib.hid hD
  clear hC hAA hD HT HU
  rcases (show 0 < A ∨ (A = 0 ∧ 0 < B) ∨ (A = 0 ∧ B ≤ 0 ∧ C ≤ 0) ∨ (A < 0 ∧ 0 < B) ∨ (A < 0 ∧ B ≤ 0 ∧ C < 0) by omega) with v1 | ⟨v1, v2⟩ | ⟨v1, v2, v3⟩ | ⟨v1, v2⟩ | ⟨v1, v2, v3⟩
  · clear hT
    go_wp2_with fail
    refine (live3 _ (hE.below e1)).mono ?_
    rintro e w2 ⟨rfl, hb2⟩
    have p0 : w2.cell? ⟨w.heap.size, 0, none⟩ = some (.int .u8 k0) := by rw [bcell hb2 _ _ y1]; exact q0
    have p1 : w2.cell? ⟨w.heap.size, 1, none⟩ = some (.int .i64 n0) := by rw [bcell hb2 _ _ y1]; exact q1
    have p2 : w2.cell? ⟨w.heap.size, 2, none⟩ = some (.string s0) := by rw [bcell hb2 _ _ y1]; exact q2
    have p3 : w2.cell? ⟨w.heap.size, 3, none⟩ = some (.int .u8 k1) := by rw [bcell hb2 _ _ y1]; exact q3
    have p4 : w2.cell? ⟨w.heap.size, 4, none⟩ = some (.int .i64 n1) := by rw [bcell hb2 _ _ y1]; exact q4
    have p5 : w2.cell? ⟨w.heap.size, 5, none⟩ = some (.string s1) := by rw [bcell hb2 _ _ y1]; exact q5
    have p6 : w2.cell? ⟨w.heap.size, 6, none⟩ = some (.int .u8 k2) := by rw [bcell hb2 _ _ y1]; exact q6
    have p7 : w2.cell? ⟨w.heap.size, 7, none⟩ = some (.int .i64 n2) := by rw [bcell hb2 _ _ y1]; exact q7
    have p8 : w2.cell? ⟨w.heap.size, 8, none⟩ = some (.string s2) := by rw [bcell hb2 _ _ y1]; exact q8
    have y2 : w.heap.size < w2.heap.size := by have := hb2.size; omega
    have e2 := keepS' e1 hb2
    clear hb2
    go_wp2_with fail
    refine (HV.out _ _ _ _ _ _ _).mono ?_
    rintro e w3 ⟨rfl, hb3⟩
    rw [HD.out]
    have u6 : w3.cell? ⟨w.heap.size, 6, none⟩ = some (.int .u8 k2) := by rw [bcell hb3 _ _ y2]; exact p6
    have u7 : w3.cell? ⟨w.heap.size, 7, none⟩ = some (.int .i64 n2) := by rw [bcell hb3 _ _ y2]; exact p7
    have u8 : w3.cell? ⟨w.heap.size, 8, none⟩ = some (.string s2) := by rw [bcell hb3 _ _ y2]; exact p8
    have e3 := keepS' e2 hb3
    clear hb3
    go_wp2_with fail
    refine (HV.out _ _ _ _ _ _ _).mono ?_
    rintro e w4 ⟨rfl, hb4⟩
    rw [HS.out]
    go_wp2
    go_ret
    exact ⟨rfl, keepS' e3 hb4⟩
  · clear hT
    go_wp2_with fail
    refine (live3 _ (hE.below e1)).mono ?_
    rintro e w2 ⟨rfl, hb2⟩
    have p0 : w2.cell? ⟨w.heap.size, 0, none⟩ = some (.int .u8 k0) := by rw [bcell hb2 _ _ y1]; exact q0
    have p1 : w2.cell? ⟨w.heap.size, 1, none⟩ = some (.int .i64 n0) := by rw [bcell hb2 _ _ y1]; exact q1
    have p2 : w2.cell? ⟨w.heap.size, 2, none⟩ = some (.string s0) := by rw [bcell hb2 _ _ y1]; exact q2
    have p3 : w2.cell? ⟨w.heap.size, 3, none⟩ = some (.int .u8 k1) := by rw [bcell hb2 _ _ y1]; exact q3
    have p4 : w2.cell? ⟨w.heap.size, 4, none⟩ = some (.int .i64 n1) := by rw [bcell hb2 _ _ y1]; exact q4
    have p5 : w2.cell? ⟨w.heap.size, 5, none⟩ = some (.string s1) := by rw [bcell hb2 _ _ y1]; exact q5
    have p6 : w2.cell? ⟨w.heap.size, 6, none⟩ = some (.int .u8 k2) := by rw [bcell hb2 _ _ y1]; exact q6
    have p7 : w2.cell? ⟨w.heap.size, 7, none⟩ = some (.int .i64 n2) := by rw [bcell hb2 _ _ y1]; exact q7
    have p8 : w2.cell? ⟨w.heap.size, 8, none⟩ = some (.string s2) := by rw [bcell hb2 _ _ y1]; exact q8
    have y2 : w.heap.size < w2.heap.size := by have := hb2.size; omega
    have e2 := keepS' e1 hb2
    clear hb2
    go_wp2_with fail
    refine (HV.out _ _ _ _ _ _ _).mono ?_
    rintro e w3 ⟨rfl, hb3⟩
    rw [HD.out]
    have u6 : w3.cell? ⟨w.heap.size, 6, none⟩ = some (.int .u8 k2) := by rw [bcell hb3 _ _ y2]; exact p6
    have u7 : w3.cell? ⟨w.heap.size, 7, none⟩ = some (.int .i64 n2) := by rw [bcell hb3 _ _ y2]; exact p7
    have u8 : w3.cell? ⟨w.heap.size, 8, none⟩ = some (.string s2) := by rw [bcell hb3 _ _ y2]; exact p8
    have e3 := keepS' e2 hb3
    clear hb3
    go_wp2_with fail
    refine (HV.out _ _ _ _ _ _ _).mono ?_
    rintro e w4 ⟨rfl, hb4⟩
    rw [HS.out]
    go_wp2
    go_ret
    exact ⟨rfl, keepS' e3 hb4⟩
  · clear hT
    go_wp2_with fail
    refine (live3 _ (hE.below e1)).mono ?_
    rintro e w2 ⟨rfl, hb2⟩
    have p0 : w2.cell? ⟨w.heap.size, 0, none⟩ = some (.int .u8 k0) := by rw [bcell hb2 _ _ y1]; exact q0
    have p1 : w2.cell? ⟨w.heap.size, 1, none⟩ = some (.int .i64 n0) := by rw [bcell hb2 _ _ y1]; exact q1
    have p2 : w2.cell? ⟨w.heap.size, 2, none⟩ = some (.string s0) := by rw [bcell hb2 _ _ y1]; exact q2
    have p3 : w2.cell? ⟨w.heap.size, 3, none⟩ = some (.int .u8 k1) := by rw [bcell hb2 _ _ y1]; exact q3
    have p4 : w2.cell? ⟨w.heap.size, 4, none⟩ = some (.int .i64 n1) := by rw [bcell hb2 _ _ y1]; exact q4
    have p5 : w2.cell? ⟨w.heap.size, 5, none⟩ = some (.string s1) := by rw [bcell hb2 _ _ y1]; exact q5
    have p6 : w2.cell? ⟨w.heap.size, 6, none⟩ = some (.int .u8 k2) := by rw [bcell hb2 _ _ y1]; exact q6
    have p7 : w2.cell? ⟨w.heap.size, 7, none⟩ = some (.int .i64 n2) := by rw [bcell hb2 _ _ y1]; exact q7
    have p8 : w2.cell? ⟨w.heap.size, 8, none⟩ = some (.string s2) := by rw [bcell hb2 _ _ y1]; exact q8
    have y2 : w.heap.size < w2.heap.size := by have := hb2.size; omega
    have e2 := keepS' e1 hb2
    clear hb2
    go_wp2_with fail
    refine (HV.out _ _ _ _ _ _ _).mono ?_
    rintro e w3 ⟨rfl, hb3⟩
    rw [HD.out]
    have u6 : w3.cell? ⟨w.heap.size, 6, none⟩ = some (.int .u8 k2) := by rw [bcell hb3 _ _ y2]; exact p6
    have u7 : w3.cell? ⟨w.heap.size, 7, none⟩ = some (.int .i64 n2) := by rw [bcell hb3 _ _ y2]; exact p7
    have u8 : w3.cell? ⟨w.heap.size, 8, none⟩ = some (.string s2) := by rw [bcell hb3 _ _ y2]; exact p8
    have e3 := keepS' e2 hb3
    clear hb3
    go_wp2_with fail
    refine (HV.out _ _ _ _ _ _ _).mono ?_
    rintro e w4 ⟨rfl, hb4⟩
    rw [HS.out]
    go_wp2
    go_ret
    exact ⟨rfl, keepS' e3 hb4⟩
  · clear hT
    go_wp2_with fail
    refine (live3 _ (hE.below e1)).mono ?_
    rintro e w2 ⟨rfl, hb2⟩
    have p0 : w2.cell? ⟨w.heap.size, 0, none⟩ = some (.int .u8 k0) := by rw [bcell hb2 _ _ y1]; exact q0
    have p1 : w2.cell? ⟨w.heap.size, 1, none⟩ = some (.int .i64 n0) := by rw [bcell hb2 _ _ y1]; exact q1
    have p2 : w2.cell? ⟨w.heap.size, 2, none⟩ = some (.string s0) := by rw [bcell hb2 _ _ y1]; exact q2
    have p3 : w2.cell? ⟨w.heap.size, 3, none⟩ = some (.int .u8 k1) := by rw [bcell hb2 _ _ y1]; exact q3
    have p4 : w2.cell? ⟨w.heap.size, 4, none⟩ = some (.int .i64 n1) := by rw [bcell hb2 _ _ y1]; exact q4
    have p5 : w2.cell? ⟨w.heap.size, 5, none⟩ = some (.string s1) := by rw [bcell hb2 _ _ y1]; exact q5
    have p6 : w2.cell? ⟨w.heap.size, 6, none⟩ = some (.int .u8 k2) := by rw [bcell hb2 _ _ y1]; exact q6
    have p7 : w2.cell? ⟨w.heap.size, 7, none⟩ = some (.int .i64 n2) := by rw [bcell hb2 _ _ y1]; exact q7
    have p8 : w2.cell? ⟨w.heap.size, 8, none⟩ = some (.string s2) := by rw [bcell hb2 _ _ y1]; exact q8
    have y2 : w.heap.size < w2.heap.size := by have := hb2.size; omega
    have e2 := keepS' e1 hb2
    clear hb2
    go_wp2_with fail
    refine (HV.out _ _ _ _ _ _ _).mono ?_
    rintro e w3 ⟨rfl, hb3⟩
    rw [HD.out]
    have u6 : w3.cell? ⟨w.heap.size, 6, none⟩ = some (.int .u8 k2) := by rw [bcell hb3 _ _ y2]; exact p6
    have u7 : w3.cell? ⟨w.heap.size, 7, none⟩ = some (.int .i64 n2) := by rw [bcell hb3 _ _ y2]; exact p7
    have u8 : w3.cell? ⟨w.heap.size, 8, none⟩ = some (.string s2) := by rw [bcell hb3 _ _ y2]; exact p8
    have e3 := keepS' e2 hb3
    clear hb3
    go_wp2_with fail
    refine (HV.out _ _ _ _ _ _ _).mono ?_
    rintro e w4 ⟨rfl, hb4⟩
    rw [HS.out]
    go_wp2
    go_ret
    exact ⟨rfl, keepS' e3 hb4⟩
  · have v4 : C ≤ 0 := by omega
    have v5 : ¬ 0 < A := by omega
    have v6 : ¬ 0 < B := by omega
    have v7 : decide (C ≤ 0) = true := decide_eq_true v4
    clear hT
    go_wp2_with fail
    refine (live3 _ (hE.below e1)).mono ?_
    rintro e w2 ⟨rfl, hb2⟩
    have p0 : w2.cell? ⟨w.heap.size, 0, none⟩ = some (.int .u8 k0) := by rw [bcell hb2 _ _ y1]; exact q0
    have p1 : w2.cell? ⟨w.heap.size, 1, none⟩ = some (.int .i64 n0) := by rw [bcell hb2 _ _ y1]; exact q1
    have p2 : w2.cell? ⟨w.heap.size, 2, none⟩ = some (.string s0) := by rw [bcell hb2 _ _ y1]; exact q2
    have p3 : w2.cell? ⟨w.heap.size, 3, none⟩ = some (.int .u8 k1) := by rw [bcell hb2 _ _ y1]; exact q3
    have p4 : w2.cell? ⟨w.heap.size, 4, none⟩ = some (.int .i64 n1) := by rw [bcell hb2 _ _ y1]; exact q4
    have p5 : w2.cell? ⟨w.heap.size, 5, none⟩ = some (.string s1) := by rw [bcell hb2 _ _ y1]; exact q5
    have p6 : w2.cell? ⟨w.heap.size, 6, none⟩ = some (.int .u8 k2) := by rw [bcell hb2 _ _ y1]; exact q6
    have p7 : w2.cell? ⟨w.heap.size, 7, none⟩ = some (.int .i64 n2) := by rw [bcell hb2 _ _ y1]; exact q7
    have p8 : w2.cell? ⟨w.heap.size, 8, none⟩ = some (.string s2) := by rw [bcell hb2 _ _ y1]; exact q8
    have y2 : w.heap.size < w2.heap.size := by have := hb2.size; omega
    have e2 := keepS' e1 hb2
    clear hb2
    go_wp2_with fail
    refine (HV.out _ _ _ _ _ _ _).mono ?_
    rintro e w3 ⟨rfl, hb3⟩
    rw [HD.out]
    have u6 : w3.cell? ⟨w.heap.size, 6, none⟩ = some (.int .u8 k2) := by rw [bcell hb3 _ _ y2]; exact p6
    have u7 : w3.cell? ⟨w.heap.size, 7, none⟩ = some (.int .i64 n2) := by rw [bcell hb3 _ _ y2]; exact p7
    have u8 : w3.cell? ⟨w.heap.size, 8, none⟩ = some (.string s2) := by rw [bcell hb3 _ _ y2]; exact p8
    have e3 := keepS' e2 hb3
    clear hb3
    go_wp2_with fail
    refine (HV.out _ _ _ _ _ _ _).mono ?_
    rintro e w4 ⟨rfl, hb4⟩
    rw [HS.out]
    go_wp2
    go_ret
    exact ⟨rfl, keepS' e3 hb4⟩
end Go.Proofs.YtdcdglbliemnkaaDoor
