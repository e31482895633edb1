/- The walk of ValueOrder: the order of bytes is that of values. -/
import Derived.Test.YtbideikffodclaaDoorBytesOrd
import Derived.Test.YtbideikffodclaaDoorLive3
import Derived.Deep.RegionHeld3
namespace Go.Proofs.YtbideikffodclaaDoor
open Go.RowKit Go.Lib

theorem bcell {W w1 : World} (hb : Below W.heap.size W w1) : ∀ b o, b < W.heap.size → w1.cell? ⟨b, o, none⟩ = W.cell? ⟨b, o, none⟩ := fun b o h => hb.cell (p := ⟨b, o, none⟩) h

theorem less_of {a b : List UInt8} {C : Int} (h : compareBytes a b = C) : Op.bytesLess a b = decide (C < 0) ∧ Op.bytesLess b a = decide (0 < C) := by
  have h1 := less_compare a b
  have h2 := less_compare b a
  rw [cb_turn a b] at h2
  rw [h] at h1 h2
  constructor
  · cases hq : Op.bytesLess a b with
    | true => rw [hq, if_pos rfl] at h1; rw [decide_eq_true (by omega)]
    | false =>
      rw [hq, if_neg (by simp)] at h1
      split at h1 <;> rw [decide_eq_false (by omega)]
  · cases hq : Op.bytesLess b a with
    | true => rw [hq, if_pos rfl] at h2; rw [decide_eq_true (by omega)]
    | false =>
      rw [hq, if_neg (by simp)] at h2
      split at h2 <;> rw [decide_eq_false (by omega)]

end Go.Proofs.YtbideikffodclaaDoor
