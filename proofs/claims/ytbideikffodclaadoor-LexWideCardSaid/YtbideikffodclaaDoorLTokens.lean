/- The walks of LexTokens, LexSigns. -/
import Derived.Test.YtbideikffodclaaDoorLexJ
namespace Go.Proofs.YtbideikffodclaaDoor
open Go.RowKit Go.Lib

theorem short10_le (s : ByteArray) : (if 410 < s.size then s.extract 0 410 else s).size ≤ 410 := by
  split
  · simp; omega
  · omega
theorem drewN_below (w : World) (n : Nat) : Below w.heap.size w (w.drewN n) := (Below.refl _ _).trans ⟨rfl, rfl, rfl, Nat.le_refl _, fun _ _ => rfl⟩

theorem tokD_len {s : ByteArray} : ∀ (f p : Nat) (acc : List (Tk × Nat)), acc.length ≤ 100 → (tokD s f p acc).l.length ≤ 100
  | 0, _, acc, h => h
  | f + 1, p, acc, h => by
    rw [tokD]
    split
    · exact h
    · split
      · exact tokD_len f _ _ h
      · split
        · simp
        · split
          · simp
          · exact tokD_len f _ _ (by simp; omega)
theorem tokR_len (s : ByteArray) : (tokR s).l.length ≤ 100 := by
  unfold tokR
  split
  · simp
  · exact tokD_len _ _ _ (by simp)

set_option maxHeartbeats 2000000 in
theorem lexTokens_walk (s0 : ByteArray) (w : World) (hE : Env w) :
    Calls Tryd.prog 6 #[.string s0] w fun e w' => e = .returned (.bool true) ∧ Below w.heap.size w w' := by
  have HE := Lib.hid hE
  clear hE
  have HS := Lib.hid (fun w => short10 s0 w)
  have hs := short10_le s0
  generalize (if 410 < s0.size then s0.extract 0 410 else s0) = s at *
  have H1 := Lib.hid (fun w hE => lex_tokens s w (by omega) hE)
  have H2 := Lib.hid (fun w hE => ref_tokens s w (by omega) hE)
  have hl := tokR_len s
  generalize tokR s = R at *
  obtain ⟨L, i, er⟩ := R
  dsimp only at hl H1 H2
  go_enter Tryd.func6, Tryd.ntmps6
  go_wp2_with fail
  refine (HS.out _).mono ?_
  rintro e w' ⟨rfl, rfl⟩
  go_wp2_with fail
  refine (H1.out _ HE.out).mono ?_
  rintro e w1 ⟨⟨va, rfl, hA⟩, hb1⟩
  have sA := hA.sl
  clear hA
  go_wp2_with fail
  refine (HS.out _).mono ?_
  rintro e w' ⟨rfl, rfl⟩
  go_wp2_with fail
  refine (H2.out _ (HE.out.below hb1)).mono ?_
  rintro e w2 ⟨⟨vb, rfl, hB⟩, hb2⟩
  have sB := hB.sl
  have sA2 := sA.below hb2
  have q2 := keepS' hb1 hb2
  clear hb1 hb2 sA hB
  go_wp2_with fail
  refine (live10 _ (HE.out.below q2)).mono ?_
  rintro e w3 ⟨rfl, hb3⟩
  have sB3 := sB.below hb3
  have sA3 := sA2.below hb3
  have q3 := keepS' q2 hb3
  clear hb3 sA2 sB q2
  go_wp2_with fail
  refine (ref_same _ _ L _ sA3 sB3 (by omega)).mono ?_
  rintro e w4 ⟨rfl, n, rfl⟩
  have q4 := keepS' q3 (drewN_below w3 n)
  go_wp2
  go_ret
  exact ⟨rfl, q4⟩

set_option maxHeartbeats 2000000 in
theorem lexSigns_walk (s0 : ByteArray) (r : Int) (w : World) (hE : Env w) :
    Calls Tryd.prog 3 #[.string s0, .int .i32 r] w fun e w' => e = .returned (.bool true) ∧ Below w.heap.size w w' := by
  have HE := Lib.hid hE
  clear hE
  have HS := Lib.hid (fun w => short10 s0 w)
  generalize (if 410 < s0.size then s0.extract 0 410 else s0) = s at *
  have H1 := Lib.hid (fun w => lex_signed s w)
  have H2 := Lib.hid (fun w => ref_signed s w)
  have H3 := Lib.hid (fun w => lex_spaced r w)
  have H4 := Lib.hid (fun w => ref_spaced r w)
  generalize signR s = X at *
  generalize spI r = B at *
  go_enter Tryd.func3, Tryd.ntmps3
  go_wp2_with fail
  refine (live10 _ HE.out).mono ?_
  rintro e w1 ⟨rfl, hb1⟩
  go_wp2_with fail
  refine (HS.out _).mono ?_
  rintro e w' ⟨rfl, rfl⟩
  go_wp2_with fail
  refine (H1.out _).mono ?_
  rintro e w' ⟨rfl, rfl⟩
  go_wp2_with fail
  refine (HS.out _).mono ?_
  rintro e w' ⟨rfl, rfl⟩
  go_wp2_with fail
  refine (H2.out _).mono ?_
  rintro e w2 ⟨rfl, hb2⟩
  go_wp2_with fail
  refine (H3.out _).mono ?_
  rintro e w' ⟨rfl, rfl⟩
  go_wp2_with fail
  refine (H4.out _).mono ?_
  rintro e w' ⟨rfl, rfl⟩
  go_wp2
  go_ret
  exact ⟨rfl, keepS' hb1 hb2⟩
end Go.Proofs.YtbideikffodclaaDoor
