/- regestalaw02.live: what must be whatever is asked. -/
import Derived.Test.YtdcdglbliemnkaaDoorUnq
import Derived.Test.YtdcdglbliemnkaaDoorName
import Derived.Test.YtdcdglbliemnkaaDoorFold
namespace Go.Proofs.YtdcdglbliemnkaaDoor
open Go.RowKit Go.Lib

theorem keepS' {W w0 w1 : World} (hs : Below W.heap.size W w0) (hb : Below w0.heap.size w0 w1) : Below W.heap.size W w1 := hs.trans (hb.mono hs.size)

theorem q1 : quoteR ⟨#[105, 116, 39, 115]⟩ = (⟨#[39, 105, 116, 39, 39, 115, 39]⟩, 0) := by decide +kernel
theorem q2 : unquoteR ⟨#[39, 97, 39, 39, 98, 39, 99]⟩ = (⟨#[97, 39, 98]⟩, 6, 0) := by decide +kernel
theorem q3 : runesL (ByteArray.mk #[195, 164, 98]).data.toList = 2 := by decide +kernel
theorem q4 : (ByteArray.mk #[195, 164, 98]).extract 0 (frontN (ByteArray.mk #[195, 164, 98]).data.toList 1) = ⟨#[195, 164]⟩ := by decide +kernel
theorem q5 : keyB ⟨#[115, 101, 108, 101, 99, 116]⟩ = true := by decide +kernel
theorem q6 : nameB ⟨#[115, 101, 108, 101, 99, 116]⟩ = false := by decide +kernel
theorem q7 : (foldL (ByteArray.mk #[97, 66]).data.toList).toArray = #[97, 98] := by decide +kernel

set_option maxHeartbeats 1000000 in
theorem live2 (w : World) (hE : Env w) : Calls Tryd.prog 16 #[] w fun e w' => e = .returned (.bool true) ∧ Below w.heap.size w w' := by
  go_enter Tryd.func16, Tryd.ntmps16
  go_wp2_with fail
  refine (word_quote _ _ (by decide)).mono ?_
  rintro e w1 ⟨rfl, hb1⟩
  rw [q1]
  go_wp2_with fail
  refine (word_unquote _ _ (by decide) (hE.below hb1)).mono ?_
  rintro e w2 ⟨rfl, hb2⟩
  rw [q2]
  have c2 := keepS' hb1 hb2
  clear hb1 hb2
  go_wp2_with fail
  refine (word_len _ _ (by decide)).mono ?_
  rintro e w3 ⟨rfl, hb3⟩
  rw [q3]
  have c3 := keepS' c2 hb3
  clear c2 hb3
  go_wp2_with fail
  refine (word_front _ _ _ (by decide) (by decide) (by decide)).mono ?_
  rintro e w4 ⟨rfl, hb4⟩
  rw [q4]
  have c4 := keepS' c3 hb4
  clear c3 hb4
  go_wp2_with fail
  refine (word_key _ _).mono ?_
  rintro e w5 ⟨rfl, hb5⟩
  rw [q5]
  have c5 := keepS' c4 hb5
  clear c4 hb5
  go_wp2_with fail
  refine (word_name _ _ (by decide)).mono ?_
  rintro e w6 ⟨rfl, hb6⟩
  rw [q6]
  have c6 := keepS' c5 hb6
  clear c5 hb6
  go_wp2_with fail
  refine (word_fold _ _ (by decide)).mono ?_
  rintro e w7 ⟨rfl, hb7⟩
  rw [q7]
  have c7 := keepS' c6 hb7
  clear c6 hb7
  go_wp2
  go_ret
  exact ⟨rfl, c7⟩
end Go.Proofs.YtdcdglbliemnkaaDoor
