/- The reference's Compare of values. -/
import Derived.Test.YtafbphiedaijmaaDoorOrder
namespace Go.Proofs.YtafbphiedaijmaaDoor
open Go.RowKit Go.Lib

set_option maxHeartbeats 1000000 in
theorem ref3_compare (k1 n1 k2 n2 : Int) (s1 s2 : ByteArray) (w : World) :
    Calls Tryd.prog 49 #[.agg #[.int .u8 k1, .int .i64 n1, .string s1], .agg #[.int .u8 k2, .int .i64 n2, .string s2]] w fun e w' => e = .returned (.int .i64 (cV k1 n1 s1 k2 n2 s2)) ∧ Below w.heap.size w w' := by
  have hb0 : ∀ o p, Below w.heap.size w ((w.alloc o).alloc p) := fun o p => ((Below.refl _ _).alloc (Nat.le_refl _) o).alloc (by simp) _
  obtain ⟨C, hC⟩ : ∃ C, C = cV k1 n1 s1 k2 n2 s2 := ⟨_, rfl⟩
  rw [← hC]
  rw [cV_eq] at hC
  unfold cmpI at hC
  by_cases h1 : k1 < k2
  · rw [if_pos h1] at hC
    have HC := Lib.hid hC
    clear hC
    go_enter Tryd.func49, Tryd.ntmps49
    go_wp2
    go_ret
    exact ⟨by rw [HC.out]; rfl, hb0 _ _⟩
  · rw [if_neg h1] at hC
    by_cases h2 : k2 < k1
    · rw [if_pos h2] at hC
      have HC := Lib.hid hC
      clear hC
      go_enter Tryd.func49, Tryd.ntmps49
      go_wp2
      go_ret
      exact ⟨by rw [HC.out]; rfl, hb0 _ _⟩
    · rw [if_neg h2, if_pos rfl] at hC
      by_cases h3 : n1 < n2
      · rw [if_pos h3] at hC
        have HC := Lib.hid hC
        clear hC
        go_enter Tryd.func49, Tryd.ntmps49
        go_wp2
        go_ret
        exact ⟨by rw [HC.out]; rfl, hb0 _ _⟩
      · rw [if_neg h3] at hC
        by_cases h4 : n2 < n1
        · rw [if_pos h4] at hC
          have HC := Lib.hid hC
          clear hC
          go_enter Tryd.func49, Tryd.ntmps49
          go_wp2
          go_ret
          exact ⟨by rw [HC.out]; rfl, hb0 _ _⟩
        · rw [if_neg h4, if_pos rfl] at hC
          have HC : Hid (C = Lib.compareBytes s1.data.toList s2.data.toList) := Lib.hid (by
            rw [hC]
            split
            · rename_i h; exact h.symm
            · rfl)
          clear hC
          go_enter Tryd.func49, Tryd.ntmps49
          go_wp2_with fail
          refine (ref_compare _ _ _).mono ?_
          rintro e w' ⟨rfl, rfl⟩
          go_wp2
          go_ret
          exact ⟨by rw [HC.out]; rfl, hb0 _ _⟩
end Go.Proofs.YtafbphiedaijmaaDoor
