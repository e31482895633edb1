/- word.Front. -/
import Derived.Test.YtafbphiedaijmaaDoorWordA
namespace Go.Proofs.YtafbphiedaijmaaDoor
open Go.RowKit Go.Lib

theorem frontD_end {b : Nat} {n : Int} : frontD b [] n = 0 := by cases b <;> simp [frontD]
theorem frontD_stop {b : Nat} {l : List UInt8} {n : Int} (h : n ≤ 0) : frontD b l n = 0 := by cases b <;> simp [frontD, h]
theorem frontD_step {b : Nat} {l : List UInt8} {n : Int} (hl : l ≠ []) (h : ¬ n ≤ 0) : frontD (b + 1) l n = (decodeL l).2 + frontD b (l.drop (decodeL l).2) (n - 1) := by
  rw [frontD, if_neg]; intro e; rcases e with e | e <;> contradiction
theorem width_le {s : ByteArray} {pos : Nat} (h : pos < s.size) : pos + (decodeL (s.data.toList.drop pos)).2 ≤ s.size := by
  have := decodeL_le _ (drop_ne h)
  rw [List.length_drop] at this
  simp at this
  omega

end Go.Proofs.YtafbphiedaijmaaDoor
