/- The walks of WordFronts and WordQuotes: each function beside its reference. -/
import Derived.Test.YtdcdglbliemnkaaDoorLive
import Derived.Test.YtdcdglbliemnkaaDoorRefB
namespace Go.Proofs.YtdcdglbliemnkaaDoor
open Go.RowKit Go.Lib

set_option maxHeartbeats 1000000 in
theorem wordFronts_walk (s t : ByteArray) (n : Int) (w : World) (hs : s.size ≤ 9223372036854775807) (ht : t.size ≤ 9223372036854775807) (hn : -9223372036854775808 ≤ n) (hn' : n ≤ 9223372036854775807) (hE : Env w) :
    Calls Tryd.prog 5 #[.string s, .string t, .int .i64 n] w fun e w' => e = .returned (.bool true) ∧ Below w.heap.size w w' := by
  have hz := shortS_le s
  have hy := shortS_le t
  go_enter Tryd.func5, Tryd.ntmps5
  go_wp2_with fail
  refine (word_short _ _ hs).mono ?_
  rintro e w0 ⟨rfl, rfl⟩
  go_wp2_with fail
  refine (word_short _ _ ht).mono ?_
  rintro e w0 ⟨rfl, rfl⟩
  generalize shortS s = S at *
  generalize shortS t = T at *
  go_wp2_with fail
  refine (live2 _ hE).mono ?_
  rintro e w1 ⟨rfl, c1⟩
  go_wp2_with fail
  refine (word_front S n _ (by omega) hn hn').mono ?_
  rintro e w2 ⟨rfl, hb2⟩
  have c2 := keepS' c1 hb2
  clear c1 hb2
  go_wp2_with fail
  refine (ref_front S n _ (by omega) hn hn' (hE.below c2)).mono ?_
  rintro e w3 ⟨rfl, hb3⟩
  have c3 := keepS' c2 hb3
  clear c2 hb3
  go_wp2_with fail
  refine (word_compare _ _ _).mono ?_
  rintro e w4 ⟨rfl, rfl⟩
  go_wp2_with fail
  refine (ref_compare _ _ _).mono ?_
  rintro e w4 ⟨rfl, rfl⟩
  go_wp2
  go_ret
  exact ⟨rfl, c3⟩

set_option maxHeartbeats 1000000 in
theorem wordQuotes_walk (s : ByteArray) (w : World) (hs : s.size ≤ 9223372036854775807) (hE : Env w) :
    Calls Tryd.prog 6 #[.string s] w fun e w' => e = .returned (.bool true) ∧ Below w.heap.size w w' := by
  have hz := shortS_le s
  go_enter Tryd.func6, Tryd.ntmps6
  go_wp2_with fail
  refine (word_short _ _ hs).mono ?_
  rintro e w0 ⟨rfl, rfl⟩
  generalize shortS s = S at *
  go_wp2_with fail
  refine (word_quote S _ (by omega)).mono ?_
  rintro e w1 ⟨rfl, c1⟩
  go_wp2_with fail
  refine (ref_quote S _ (by omega) (hE.below c1)).mono ?_
  rintro e w2 ⟨rfl, hb2⟩
  have c2 := keepS' c1 hb2
  clear c1 hb2
  go_wp2_with fail
  refine (word_unquote S _ (by omega) (hE.below c2)).mono ?_
  rintro e w3 ⟨rfl, hb3⟩
  have c3 := keepS' c2 hb3
  clear c2 hb3
  go_wp2_with fail
  refine (ref_unquote S _ (by omega) (hE.below c3)).mono ?_
  rintro e w4 ⟨rfl, hb4⟩
  have c4 := keepS' c3 hb4
  clear c3 hb4
  go_wp2_with fail
  refine (live2 _ (hE.below c4)).mono ?_
  rintro e w5 ⟨rfl, hb5⟩
  have c5 := keepS' c4 hb5
  clear c4 hb5
  go_wp2
  go_ret
  exact ⟨rfl, c5⟩
end Go.Proofs.YtdcdglbliemnkaaDoor
