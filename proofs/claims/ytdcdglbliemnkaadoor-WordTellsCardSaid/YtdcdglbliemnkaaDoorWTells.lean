/- The walk of WordTells: what may be a value, a name, a key word; how many runes; small letters. -/
import Derived.Test.YtdcdglbliemnkaaDoorLive
import Derived.Test.YtdcdglbliemnkaaDoorRefA
import Derived.Test.YtdcdglbliemnkaaDoorRefName
namespace Go.Proofs.YtdcdglbliemnkaaDoor
open Go.RowKit Go.Lib

set_option maxHeartbeats 2000000 in
theorem wordTells_walk (s : ByteArray) (w : World) (hs : s.size ≤ 9223372036854775807) (hE : Env w) :
    Calls Tryd.prog 7 #[.string s] w fun e w' => e = .returned (.bool true) ∧ Below w.heap.size w w' := by
  have hz := shortS_le s
  go_enter Tryd.func7, Tryd.ntmps7
  go_wp2_with fail
  refine (word_short _ _ hs).mono ?_
  rintro e w0 ⟨rfl, rfl⟩
  generalize shortS s = S at *
  go_wp2_with fail
  refine (live2 _ hE).mono ?_
  rintro e w1 ⟨rfl, c1⟩
  go_wp2_with fail
  refine (word_right S _).mono ?_
  rintro e w2 ⟨rfl, hb2⟩
  have c2 := keepS' c1 hb2
  clear c1 hb2
  go_wp2_with fail
  refine (ref_right S _ (by omega) (hE.below c2)).mono ?_
  rintro e w3 ⟨rfl, hb3⟩
  have c3 := keepS' c2 hb3
  clear c2 hb3
  go_wp2_with fail
  refine (word_name S _ (by omega)).mono ?_
  rintro e w4 ⟨rfl, hb4⟩
  have c4 := keepS' c3 hb4
  clear c3 hb4
  go_wp2_with fail
  refine (ref_name S _ (by omega) (hE.below c4)).mono ?_
  rintro e w5 ⟨rfl, hb5⟩
  have c5 := keepS' c4 hb5
  clear c4 hb5
  go_wp2_with fail
  refine (word_key S _).mono ?_
  rintro e w6 ⟨rfl, hb6⟩
  have c6 := keepS' c5 hb6
  clear c5 hb6
  go_wp2_with fail
  refine (ref_key S _ (hE.below c6)).mono ?_
  rintro e w7 ⟨rfl, hb7⟩
  have c7 := keepS' c6 hb7
  clear c6 hb7
  go_wp2_with fail
  refine (word_len S _ (by omega)).mono ?_
  rintro e w8 ⟨rfl, hb8⟩
  have c8 := keepS' c7 hb8
  clear c7 hb8
  go_wp2_with fail
  refine (ref_len S _ (by omega) (hE.below c8)).mono ?_
  rintro e w9 ⟨rfl, hb9⟩
  have c9 := keepS' c8 hb9
  clear c8 hb9
  go_wp2_with fail
  refine (word_fold S _ (by omega)).mono ?_
  rintro e w10 ⟨rfl, hb10⟩
  have c10 := keepS' c9 hb10
  clear c9 hb10
  go_wp2_with fail
  refine (ref_fold S _ (by omega)).mono ?_
  rintro e w11 ⟨rfl, hb11⟩
  have c11 := keepS' c10 hb11
  clear c10 hb11
  go_wp2
  go_ret
  exact ⟨rfl, c11⟩
end Go.Proofs.YtdcdglbliemnkaaDoor
