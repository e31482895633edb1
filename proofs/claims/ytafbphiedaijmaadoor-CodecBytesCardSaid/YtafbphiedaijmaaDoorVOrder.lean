/- The walk of ValueOrder: the order of bytes is that of values. -/
import Derived.Test.YtafbphiedaijmaaDoorBytesOrd
import Derived.Test.YtafbphiedaijmaaDoorLive3
import Derived.Deep.RegionHeld3
namespace Go.Proofs.YtafbphiedaijmaaDoor
open Go.RowKit Go.Lib

theorem bcell {W w1 : World} (hb : Below W.heap.size W w1) : ∀ b o, b < W.heap.size → w1.cell? ⟨b, o, none⟩ = W.cell? ⟨b, o, none⟩ := fun b o h => hb.cell (p := ⟨b, o, none⟩) h

set_option maxRecDepth 100000 in
set_option maxHeartbeats 1000000 in
theorem value_bytes_no (k n : Int) (s : ByteArray) (w : World) (hv : valB k n s = false) :
    Calls Tryd.prog 20 #[.agg #[.int .u8 k, .int .i64 n, .string s]] w fun e w' => e = .returned (.tuple #[.slice none 0 0, .int .i64 3]) ∧ Below w.heap.size w w' := by
  have hb0 : ∀ o, Below w.heap.size w (w.alloc o) := fun o => (Below.refl _ _).alloc (Nat.le_refl _) o
  have HR := Lib.hid (fun w => value_right k n s w)
  rw [hv] at HR
  go_enter Tryd.func20, Tryd.ntmps20
  go_wp2_with fail
  refine (HR.out _).mono ?_
  rintro e w1 ⟨rfl, hb1⟩
  go_wp2
  go_ret2
  exact ⟨rfl, keepS' (hb0 _) hb1⟩

theorem less_of {a b : List UInt8} {C : Int} (h : compareBytes a b = C) : Op.bytesLess a b = decide (C < 0) ∧ Op.bytesLess b a = decide (0 < C) := by
  have h1 := less_compare a b
  have h2 := less_compare b a
  rw [cb_turn a b] at h2
  rw [h] at h1 h2
  constructor
  · cases hq : Op.bytesLess a b with
    | true => rw [hq, if_pos rfl] at h1; rw [decide_eq_true (by omega)]
    | false =>
      rw [hq, if_neg (by simp)] at h1
      split at h1 <;> rw [decide_eq_false (by omega)]
  · cases hq : Op.bytesLess b a with
    | true => rw [hq, if_pos rfl] at h2; rw [decide_eq_true (by omega)]
    | false =>
      rw [hq, if_neg (by simp)] at h2
      split at h2 <;> rw [decide_eq_false (by omega)]

end Go.Proofs.YtafbphiedaijmaaDoor
