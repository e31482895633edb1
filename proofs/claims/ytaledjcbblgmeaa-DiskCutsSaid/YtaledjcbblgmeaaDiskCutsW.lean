/- The walk of DiskCuts. -/
import Derived.Test.YtaledjcbblgmeaaDkV
namespace Go.Proofs.Ytaledjcbblgmeaa
open Go.RowKit

/-- A disk that is cut, so many steps ahead of its end. -/
def CutSt (D : Dk) (m : Nat) : Prop := D.off = false ∧ D.fuse = some m ∧ D.secs.length = 4
theorem CutSt.look {D : Dk} {m : Nat} (h : CutSt D m) {i : Int} (h0 : 0 ≤ i) (h4 : i < 4) : D.look i = 0 := by
  obtain ⟨h1, h2, h3⟩ := h
  unfold Dk.look
  rw [h1, h3]
  simp only [Bool.false_eq_true, if_false]
  rw [if_neg (by omega)]
theorem CutSt.writeE {D : Dk} {m : Nat} (h : CutSt D (m + 1)) {i : Int} (h0 : 0 ≤ i) (h4 : i < 4) : D.writeE i [] = 0 := by
  unfold Dk.writeE
  rw [if_neg (by simp [h.look h0 h4]), if_neg (by simp), if_pos (by simp [Dk.burnt, h.2.1])]
theorem CutSt.write {D : Dk} {m : Nat} (h : CutSt D (m + 1)) {i : Int} (h0 : 0 ≤ i) (h4 : i < 4) : CutSt (D.write i []) m := by
  unfold Dk.write
  rw [if_neg (by simp [h.look h0 h4]), if_neg (by simp), if_pos (by simp [Dk.burnt, h.2.1])]
  obtain ⟨h1, h2, h3⟩ := h
  unfold Dk.burn
  rw [h2]
  exact ⟨h1, rfl, h3⟩
theorem CutSt.flushE {D : Dk} {m : Nat} (h : CutSt D (m + 1)) : D.flushE = 0 := by
  unfold Dk.flushE
  rw [if_neg (by simp [h.1]), if_pos (by simp [Dk.burnt, h.2.1])]
theorem CutSt.flush {D : Dk} {m : Nat} (h : CutSt D (m + 1)) : CutSt D.flush m := by
  have hl := Dk.flush_len D
  unfold Dk.flush at hl ⊢
  rw [if_neg (by simp [h.1]), if_pos (by simp [Dk.burnt, h.2.1])] at hl ⊢
  obtain ⟨h1, h2, h3⟩ := h
  refine ⟨?_, ?_, hl.trans h3⟩
  · simp only [Dk.burn, h2]; exact h1
  · simp only [Dk.burn, h2]
theorem CutSt.endE {D : Dk} (h : CutSt D 0) {i : Int} (h0 : 0 ≤ i) (h4 : i < 4) : D.writeE i [] = 7 ∧ (D.write i []).off = true := by
  have hb : D.burnt = false := by simp [Dk.burnt, h.2.1]
  constructor
  · unfold Dk.writeE
    rw [if_neg (by simp [h.look h0 h4]), if_neg (by simp), if_neg (by simp [hb])]
  · unfold Dk.write
    rw [if_neg (by simp [h.look h0 h4]), if_neg (by simp), if_neg (by simp [hb])]
    unfold Dk.burn
    rw [h.2.1]
theorem Dk.flushE_off {D : Dk} (h : D.off = true) : D.flushE = 7 := by unfold Dk.flushE; rw [if_pos h]

set_option maxRecDepth 100000 in
set_option maxHeartbeats 8000000 in
theorem diskCuts_walk (v : Value) (l : List De) (n : UInt8) (w : World) (hS : Sl 4 De.enc w v l) (hr : ∀ x ∈ l, x.ok w) (hl : l.length ≤ maxLen) :
    Calls Try.prog 4 #[v, .int .u8 n.toNat] w fun e w' => e = .returned (.bool true) ∧ Below w.heap.size w w' := by
  have HP := Lib.hid (play5 v l w hS hr hl)
  clear hS hr hl
  have hn0 : (0 : Int) ≤ (n.toNat : Int) := by omega
  have hn1 : (n.toNat : Int) ≤ 255 := by have := n.toNat_lt; omega
  go_enter Try.func4, Try.ntmps4
  go_wp2_with fail
  refine HP.out.mono ?_
  rintro e w1 ⟨gd, gr, D, F, rfl, hP, hD4, hDw, hB⟩
  have H1 := Lib.hid (And.intro hP (And.intro hDw (And.intro hB hD4)))
  clear hP hD4 hDw hB HP
  go_wp2_with fail
  refine (live5 w1).mono ?_
  rintro e w2 ⟨rfl, b2⟩
  have p2 := H1.out.1.below b2
  have q2 := H1.out.2.2.1.trans (b2.mono H1.out.2.2.1.size)
  obtain ⟨F1, F2, p3, _, _, _⟩ := p2
  have H2 := Lib.hid (And.intro p3 q2)
  have HDW := H1.out.2.1
  clear p3 q2 b2
  go_wp2_with fail
  refine (disk_Crash w.heap.size gd D F1 [] none 0 0 w2 H2.out.1 (Sl.nil _ _ _) (fun h => by simp at h) (by omega)).mono ?_
  rintro e w4 ⟨rfl, F4, h4, u4⟩
  have q4 : Below w.heap.size w w4 := Mod.below H2.out.2 u4.1 (fun i hi => (H2.out.1.lt i hi).1) H2.out.2.size
  have H4 := Lib.hid (And.intro h4 q4)
  clear h4 u4 q4 H2 HDW
  go_wp2_with fail
  obtain ⟨K, hK⟩ : ∃ K : Nat, (K : Int) = (n.toNat : Int) % 9 := ⟨n.toNat % 9, by omega⟩
  have hK9 : K < 9 := by omega
  rw [← hK]
  clear hK
  (with_reducible refine (disk_Cut w.heap.size gd (D.crash []) F4 K w4 H4.out.1 (by omega)).mono ?_)
  rintro e w5 ⟨rfl, h5, u5⟩
  have q5 : Below w.heap.size w w5 := Mod.below H4.out.2 u5.1 (fun i hi => (H4.out.1.lt i hi).1) H4.out.2.size
  have hC : CutSt ((D.crash []).cut K) K := by
    refine ⟨rfl, by simp [Dk.cut, Dk.crash], ?_⟩
    rw [Dk.cut_len, Dk.crash_len]
    exact H1.out.2.2.2
  have H5 := Lib.hid (And.intro h5 (And.intro q5 (And.intro hC (show ((D.crash []).cut K).wait.length = 0 from by simp [Dk.cut, Dk.crash]))))
  clear h5 u5 q5 hC H4 H1
  go_wp2_with fail
  go_loopw [9] (fun t wr => ∃ (i : Nat) (E : Dk) (G : Nat → Prop), t = .int .i64 i ∧ i ≤ K ∧ DP wr w.heap.size gd E G ∧ CutSt E (K - i) ∧ E.wait.length ≤ i ∧ Below w.heap.size w wr) (fun t _ => K - (RowKit.intOf t).toNat)
  case atStart => exact ⟨0, _, F4, rfl, by omega, H5.out.1, by rw [Nat.sub_zero]; exact H5.out.2.2.1, by rw [H5.out.2.2.2]; omega, H5.out.2.1⟩
  case round =>
    clear H5
    obtain ⟨i, E, G, rfl, hi, hD, hC, hWt, hB⟩ := hrel
    have HH := Lib.hid (And.intro hD (And.intro hC (And.intro hWt hB)))
    have hzr := hB.size
    clear hD hC hWt hB
    by_cases hik : i < K
    · obtain ⟨m, hm⟩ : ∃ m, K - i = m + 1 := ⟨K - i - 1, by omega⟩
      have hC := HH.out.2.1
      rw [hm] at hC
      have hm' : K - (i + 1) = m := by omega
      have HC := Lib.hid hC
      have HM := Lib.hid hm'
      have hikI : (i : Int) < (K : Int) := by omega
      clear hC hm hm'
      have R1 := disk_Off w.heap.size gd E G wr HH.out.1
      rw [HC.out.1] at R1
      have HR1 := Lib.hid R1
      clear R1
      by_cases hpar : (i : Int) % 2 = 0
      · have hp2 : ((i : Int) % 2 == 1) = false := beq_eq_false_iff_ne.2 (by omega)
        go_wp2_with (first
          | (go_at_call 21; refine HR1.out.mono ?_; rintro e w' ⟨rfl, rfl⟩)
          | (go_at_call 19; refine (disk_Write w.heap.size gd E G 0 [] none 0 0 wr HH.out.1 (Sl.nil _ _ _) (fun h => by simp at h) hzr (by have := HH.out.2.2.1; omega)).mono ?_
             rintro e w6 ⟨rfl, G6, h6, u6⟩
             rw [HC.out.writeE (by omega) (by omega)]
             have q6 : Below w.heap.size w w6 := Mod.below HH.out.2.2.2 u6.1 (fun i hi => (HH.out.1.lt i hi).1) hzr
             have H6 := Lib.hid (And.intro h6 (And.intro (HC.out.write (i := 0) (by omega) (by omega)) q6))
             clear h6 u6 q6))
        go_roundw
        case rel => exact ⟨i + 1, _, G6, by go_num, by omega, H6.out.1, by rw [HM.out]; exact H6.out.2.1, Nat.le_trans (Dk.write_wait _ _ _) (by have := HH.out.2.2.1; omega), H6.out.2.2⟩
        case measure => simp [RowKit.intOf]; omega
      · have hpar1 : (i : Int) % 2 = 1 := by omega
        have hp2 : ((i : Int) % 2 == 0) = false := beq_eq_false_iff_ne.2 hpar
        clear hpar
        go_wp2_with (first
          | (go_at_call 21; refine HR1.out.mono ?_; rintro e w' ⟨rfl, rfl⟩)
          | (go_at_call 22; refine (disk_Flush w.heap.size gd E G wr HH.out.1 (by have := HH.out.2.2.1; omega)).mono ?_
             rintro e w6 ⟨rfl, G6, h6, u6⟩
             rw [HC.out.flushE]
             have q6 : Below w.heap.size w w6 := Mod.below HH.out.2.2.2 u6.1 (fun i hi => (HH.out.1.lt i hi).1) hzr
             have H6 := Lib.hid (And.intro h6 (And.intro HC.out.flush q6))
             clear h6 u6 q6))
        go_roundw
        case rel => exact ⟨i + 1, _, G6, by go_num, by omega, H6.out.1, by rw [HM.out]; exact H6.out.2.1, Nat.le_trans (Dk.flush_wait _) (by have := HH.out.2.2.1; omega), H6.out.2.2⟩
        case measure => simp [RowKit.intOf]; omega
    · obtain rfl : i = K := by omega
      have hC := HH.out.2.1
      rw [Nat.sub_self] at hC
      have HC := Lib.hid hC
      have R1 := disk_Off w.heap.size gd E G wr HH.out.1
      rw [HC.out.1] at R1
      have HR1 := Lib.hid R1
      clear hC R1
      go_wp2_with fail
      refine HR1.out.mono ?_
      rintro e w' ⟨rfl, rfl⟩
      go_wp2_with fail
      refine (disk_Write w.heap.size gd E G 1 [] none 0 0 wr HH.out.1 (Sl.nil _ _ _) (fun h => by simp at h) hzr (by have := HH.out.2.2.1; omega)).mono ?_
      rintro e w6 ⟨rfl, G6, h6, u6⟩
      rw [(HC.out.endE (i := 1) (by omega) (by omega)).1]
      have q6 : Below w.heap.size w w6 := Mod.below HH.out.2.2.2 u6.1 (fun i hi => (HH.out.1.lt i hi).1) hzr
      have R2 := disk_Off w.heap.size gd _ G6 w6 h6
      rw [(HC.out.endE (i := 1) (by omega) (by omega)).2] at R2
      have H6 := Lib.hid (And.intro h6 (And.intro R2 q6))
      have hz6 := q6.size
      clear h6 u6 q6 R2
      go_wp2_with fail
      refine H6.out.2.1.mono ?_
      rintro e w' ⟨rfl, rfl⟩
      go_wp2_with fail
      refine (disk_Flush w.heap.size gd _ G6 w6 H6.out.1 (by have := Dk.write_wait E 1 []; have := HH.out.2.2.1; omega)).mono ?_
      rintro e w7 ⟨rfl, G7, h7, u7⟩
      rw [Dk.flushE_off (HC.out.endE (i := 1) (by omega) (by omega)).2]
      have HQ := Lib.hid (Mod.below H6.out.2.2 u7.1 (fun i hi => (H6.out.1.lt i hi).1) hz6)
      clear h7 u7
      go_wp2
      go_ret
      exact ⟨rfl, HQ.out⟩
end Go.Proofs.Ytaledjcbblgmeaa
