/- The walk of ValueTells. -/
import Derived.Test.YtdcdglbliemnkaaDoorPrint
import Derived.Test.YtdcdglbliemnkaaDoorRefD
import Derived.Test.YtdcdglbliemnkaaDoorLive3
import Derived.Deep.RegionHeld3
namespace Go.Proofs.YtdcdglbliemnkaaDoor
open Go.RowKit Go.Lib

set_option maxHeartbeats 1000000 in
theorem ref3_compare (k1 n1 k2 n2 : Int) (s1 s2 : ByteArray) (w : World) :
    Calls Tryd.prog 47 #[.agg #[.int .u8 k1, .int .i64 n1, .string s1], .agg #[.int .u8 k2, .int .i64 n2, .string s2]] w fun e w' => e = .returned (.int .i64 (cV k1 n1 s1 k2 n2 s2)) ∧ Below w.heap.size w w' := by
  have hb0 : ∀ o p, Below w.heap.size w ((w.alloc o).alloc p) := fun o p => ((Below.refl _ _).alloc (Nat.le_refl _) o).alloc (by simp) _
  obtain ⟨C, hC⟩ : ∃ C, C = cV k1 n1 s1 k2 n2 s2 := ⟨_, rfl⟩
  rw [← hC]
  rw [cV_eq] at hC
  unfold cmpI at hC
  by_cases h1 : k1 < k2
  · rw [if_pos h1] at hC
    have HC := Lib.hid hC
    clear hC
    go_enter Tryd.func47, Tryd.ntmps47
    go_wp2
    go_ret
    exact ⟨by rw [HC.out]; rfl, hb0 _ _⟩
  · rw [if_neg h1] at hC
    by_cases h2 : k2 < k1
    · rw [if_pos h2] at hC
      have HC := Lib.hid hC
      clear hC
      go_enter Tryd.func47, Tryd.ntmps47
      go_wp2
      go_ret
      exact ⟨by rw [HC.out]; rfl, hb0 _ _⟩
    · rw [if_neg h2, if_pos rfl] at hC
      by_cases h3 : n1 < n2
      · rw [if_pos h3] at hC
        have HC := Lib.hid hC
        clear hC
        go_enter Tryd.func47, Tryd.ntmps47
        go_wp2
        go_ret
        exact ⟨by rw [HC.out]; rfl, hb0 _ _⟩
      · rw [if_neg h3] at hC
        by_cases h4 : n2 < n1
        · rw [if_pos h4] at hC
          have HC := Lib.hid hC
          clear hC
          go_enter Tryd.func47, Tryd.ntmps47
          go_wp2
          go_ret
          exact ⟨by rw [HC.out]; rfl, hb0 _ _⟩
        · rw [if_neg h4, if_pos rfl] at hC
          have HC : Hid (C = Lib.compareBytes s1.data.toList s2.data.toList) := Lib.hid (by
            rw [hC]
            split
            · rename_i h; exact h.symm
            · rfl)
          clear hC
          go_enter Tryd.func47, Tryd.ntmps47
          go_wp2_with fail
          refine (ref_compare _ _ _).mono ?_
          rintro e w' ⟨rfl, rfl⟩
          go_wp2
          go_ret
          exact ⟨by rw [HC.out]; rfl, hb0 _ _⟩

theorem bsame {W w1 : World} (hb : Below W.heap.size W w1) : ∀ b o, b < W.heap.size → w1.cell? ⟨b, o, none⟩ = W.cell? ⟨b, o, none⟩ := fun b o h => hb.cell (p := ⟨b, o, none⟩) h

set_option maxHeartbeats 4000000 in
theorem valueTells_walk (k0 n0 : Int) (s0 : ByteArray) (k1 n1 : Int) (s1 : ByteArray) (w : World) (a1 : -9223372036854775808 ≤ n0) (a2 : n0 ≤ 9223372036854775807) (a3 : s0.size ≤ 9223372036854775807) (hE : Env w) :
    Calls Tryd.prog 13 #[.agg #[.int .u8 k0, .int .i64 n0, .string s0], .agg #[.int .u8 k1, .int .i64 n1, .string s1]] w fun e w' => e = .returned (.bool true) ∧ Below w.heap.size w w' := by
  have HE := Lib.hid hE
  have H1 := Lib.hid (fun w => value_print k0 n0 s0 w a1 a2)
  have H2 := Lib.hid (fun w hE => ref3_print k0 n0 s0 w a1 a2 a3 hE)
  have H3 := Lib.hid (fun w => value_right k0 n0 s0 w)
  have H4 := Lib.hid (fun w hE => ref3_right k0 n0 s0 w a3 hE)
  have H5 : Hid (∀ w, Calls Tryd.prog 38 #[.agg #[.int .u8 k0, .int .i64 n0, .string s0], .agg #[.int .u8 k1, .int .i64 n1, .string s1]] w fun e w' => e = .returned (.int .i64 (cV k0 n0 s0 k1 n1 s1)) ∧ Below w.heap.size w w') := Lib.hid (fun w => value_compare k0 n0 k1 n1 s0 s1 w)
  have H6 := Lib.hid (fun w => ref3_compare k0 n0 k1 n1 s0 s1 w)
  have H7 := Lib.hid (fun w => value_Digits n0 w a1 a2)
  have H8 := Lib.hid (fun w => ref_Digits (n0.natAbs + 1) n0 w (by omega) a1 a2)
  generalize printR k0 n0 s0 = P at *
  obtain ⟨P1, P2⟩ := P
  generalize valB k0 n0 s0 = V at *
  generalize cV k0 n0 s0 k1 n1 s1 = C at *
  generalize (ByteArray.mk (decL n0).toArray) = D at *
  clear hE
  obtain ⟨O, hO⟩ : ∃ O, O = (w.alloc (.cells #[.int .u8 k0, .int .i64 n0, .string s0] 38)).alloc (.cells #[.int .u8 k1, .int .i64 n1, .string s1] 38) := ⟨_, rfl⟩
  have c0 : Below w.heap.size w O := by rw [hO]; exact ((Below.refl _ _).alloc (Nat.le_refl _) _).alloc (by simp) _
  have B0 : Blk O w.heap.size 38 #[.int .u8 k0, .int .i64 n0, .string s0] := by rw [hO]; exact (Blk.new _ _ _).alloc _
  have B1 : Blk O (w.heap.size + 1) 38 #[.int .u8 k1, .int .i64 n1, .string s1] := by
    rw [hO]
    have h := Blk.new (w.alloc (.cells #[.int .u8 k0, .int .i64 n0, .string s0] 38)) 38 #[.int .u8 k1, .int .i64 n1, .string s1]
    simpa using h
  go_enter Tryd.func13, Tryd.ntmps13
  go_wp2_with fail
  rw [← hO]
  clear hO
  refine (H1.out _).mono ?_
  rintro e w1 ⟨rfl, hb1⟩
  have C0 := B0.below hb1 B0.lt
  have C1 := B1.below hb1 B1.lt
  have x0 := C0.cell
  have x1 := C1.cell
  have c1 := keepS' c0 hb1
  clear hb1 c0 B0 B1
  go_wp2_with fail
  refine (H2.out _ (HE.out.below c1)).mono ?_
  rintro e w2 ⟨rfl, hb2⟩
  have D0 := C0.below hb2 C0.lt
  have D1 := C1.below hb2 C1.lt
  have y0 := D0.cell
  have y1 := D1.cell
  have z0 := D0.lt
  have z1 := D1.lt
  have c2 := keepS' c1 hb2
  have HE2 := Lib.hid (HE.out.below c2)
  clear hb2 c1 C0 C1 x0 x1 D0 D1 HE
  go_wp2_with fail
  go_region_held3 (fun w' => (∀ b o, b < w2.heap.size → w'.cell? ⟨b, o, none⟩ = w2.cell? ⟨b, o, none⟩) ∧ Below w2.heap.size w2 w')
    (first | exact ⟨fun _ _ _ => rfl, (Below.refl _ _).drew⟩ | (go_split_ands; have q : Below w2.heap.size w2 w1 := keepS' (by assumption) hb1; exact ⟨bsame q, q⟩))
    (first
      | (go_at_call 35; go_split_ands; refine (live3 _ (HE2.out.below (by assumption))).mono ?_; rintro e w1 ⟨rfl, hb1⟩)
      | (go_at_call 36; refine (H3.out _).mono ?_; rintro e w1 ⟨rfl, hb1⟩)
      | (go_at_call 46; go_split_ands; refine (H4.out _ (HE2.out.below (by assumption))).mono ?_; rintro e w1 ⟨rfl, hb1⟩)
      | (go_at_call 38; refine (H5.out _).mono ?_; rintro e w1 ⟨rfl, hb1⟩)
      | (go_at_call 47; refine (H6.out _).mono ?_; rintro e w1 ⟨rfl, hb1⟩)
      | (go_at_call 48; refine (H7.out _).mono ?_; rintro e w1 ⟨rfl, hb1⟩)
      | (go_at_call 49; refine (H8.out _).mono ?_; rintro e w1 ⟨rfl, rfl⟩; have hb1 := Below.refl w1.heap.size w1))
  go_split_ands
  have q : Below w2.heap.size w2 w1 := by assumption
  go_wp2
  go_ret
  exact ⟨rfl, keepS' c2 q⟩
end Go.Proofs.YtdcdglbliemnkaaDoor
