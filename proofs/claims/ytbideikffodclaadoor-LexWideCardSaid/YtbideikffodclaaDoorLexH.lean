/- lex.Tokens. -/
import Derived.Test.YtbideikffodclaaDoorLexG
namespace Go.Proofs.YtbideikffodclaaDoor
open Go.RowKit Go.Lib

set_option maxRecDepth 100000 in
set_option maxHeartbeats 4000000 in
theorem lex_tokens (s : ByteArray) (w : World) (hs : s.size ≤ 1000000) (hE : Env w) :
    Calls Tryd.prog 14 #[.string s] w fun e w' => (∃ v, e = .returned (.tuple #[v, .int .i64 (tokR s).i, .int .i64 (tokR s).e]) ∧ OwnT w.heap.size w' v (tokR s).l) ∧ Below w.heap.size w w' := by
  obtain ⟨i0, hi, hz0, hz1, hz2⟩ := info_parts infoTok
  have HE := Lib.hid hE
  clear hE
  obtain ⟨ANS, hANS⟩ : ∃ a, a = tokR s := ⟨_, rfl⟩
  rw [← hANS]
  unfold tokR at hANS
  by_cases h400 : 400 < s.size
  · rw [if_pos h400] at hANS
    have HA := Lib.hid hANS
    have h400' : (400 : Int) < (s.size : Int) := by omega
    clear hANS
    go_enter Tryd.func14, Tryd.ntmps14
    go_wp2
    refine bodyPost_ret (results_tmp3 rfl _ _ _) rfl ?_
    exact ⟨⟨_, by rw [HA.out]; rfl, by rw [HA.out]; exact OwnT.nil _ _⟩, Below.refl _ _⟩
  · rw [if_neg h400] at hANS
    have HA : Hid (tokD s s.size 0 [] = ANS) := Lib.hid hANS.symm
    have h400' : ¬ (400 : Int) < (s.size : Int) := by omega
    have hsz4 : s.size ≤ 400 := by omega
    clear hANS h400
    go_enter Tryd.func14, Tryd.ntmps14
    go_wp2
    go_loopw [5, 6] (fun v t wr => ∃ (p b f : Nat) (L : List (Tk × Nat)), t = .int .i64 b ∧ wr.heap[w.heap.size]? = some (.stringIter s p) ∧ Below w.heap.size w wr ∧ OwnT w.heap.size wr v L ∧ b ≤ s.size ∧ L.length ≤ 100 ∧ Hid (p < b → ∃ x, s.data.toList[b - 1]? = some x ∧ x.toNat < 128) ∧ s.size ≤ max p b + f ∧ Hid (tokD s f (max p b) L = ANS)) (fun _ _ wr => s.size - wr.iterPos w.heap.size)
    case atStart => exact ⟨0, 0, s.size, [], rfl, World.iter_heap _ _ _, below_iter _ _ _, OwnT.nil _ _, by omega, by simp, Lib.hid (fun h => absurd h (by omega)), by omega, HA⟩
    case round =>
      obtain ⟨p, b, f, L, rfl, hit, hB, hown, hbs, hL, HX, hf, H⟩ := hrel
      have hip := iter_pos hit
      obtain ⟨A, cp, rfl⟩ := hown.slice
      by_cases hp : p < s.size
      · have hK : 1 ≤ (Utf8.decode s p).2 := by
          rw [← decodeL_drop]
          exact decodeL_width _
        have hK1 : (s[p]'hp).toNat < 128 → (Utf8.decode s p).2 = 1 := fun h => by rw [dec_low hp h]
        have hnc : p < b → p + (Utf8.decode s p).2 ≤ b := fun h => by
          obtain ⟨x, h1, h2⟩ := HX.out h
          exact no_cross h hbs h1 h2
        have hrf := rune_facts hp
        have hnx : ∀ ty, (Instr.next (.pointer (some ⟨w.heap.size, 0, none⟩)) true ty).run Tryd.prog wr = _ := fun ty => run_next_any_at wr w.heap.size s p ty hit hp
        generalize Utf8.decode s p = d at *
        obtain ⟨R, K⟩ := d
        dsimp only at hK hK1 hnc hrf hnx
        obtain ⟨W1, hW1⟩ : ∃ W1, W1 = wr.iterAt w.heap.size s (p + K) := ⟨_, rfl⟩
        have hit1 : W1.heap[w.heap.size]? = some (.stringIter s (p + K)) := by rw [hW1]; exact Lib.iterAt_heap _ _ _ _ _ hit
        have hB1 : Below w.heap.size w W1 := by rw [hW1]; exact Lib.below_iterAt hB (Nat.le_refl _) _ _
        have hown1 : OwnT w.heap.size W1 (.slice A L.length cp) L := by rw [hW1]; exact hown.iterAt hit _
        rw [← hW1] at hnx
        obtain ⟨k1, k2, ks, k3, k4⟩ := hrf
        have HIP := Lib.hid hip
        have hpI : (p : Int) < (s.size : Int) := by omega
        clear hW1 hit hown hip hB HA
        by_cases hpb : p < b
        · have hq := hnc hpb
          have H2 : Hid (tokD s f (max (p + K) b) L = ANS) := Lib.hid (by rw [show max (p + K) b = max p b by omega]; exact H.out)
          have HX2 : Hid (p + K < b → ∃ x, s.data.toList[b - 1]? = some x ∧ x.toNat < 128) := Lib.hid (fun _ => HX.out hpb)
          have hpb' : (p : Int) < (b : Int) := by omega
          have HIT := Lib.hid hit1
          have HOW := Lib.hid hown1
          clear hK1 hnc k1 k2 ks k3 k4 H HX hit1 hown1
          go_wp2
          go_roundw
          case rel => exact ⟨p + K, b, f, L, rfl, HIT.out, hB1, HOW.out, hbs, hL, HX2, by omega, H2⟩
          case measure => rw [iter_pos HIT.out, HIP.out]; omega
        · have hmax : max p b = p := by omega
          have H2 := H.out
          rw [hmax] at H2 hf
          obtain ⟨f, rfl⟩ : ∃ g, f = g + 1 := ⟨f - 1, by omega⟩
          have hpb' : ¬ (p : Int) < (b : Int) := by omega
          have HSP := Lib.hid (fun w => lex_spaced (R : Int) w)
          rw [ks] at HSP
          clear hmax H ks hnc
          cases hsp : spB (s[p]'hp) with
          | true =>
            rw [hsp] at HSP
            have hK' := hK1 (spB_low hsp)
            subst hK'
            rw [tokD_sp hp hsp] at H2
            have H3 : Hid (tokD s f (max (p + 1) b) L = ANS) := Lib.hid (by rw [show max (p + 1) b = p + 1 by omega]; exact H2)
            have HX2 : Hid (p + 1 < b → ∃ x, s.data.toList[b - 1]? = some x ∧ x.toNat < 128) := Lib.hid (fun h => absurd h (by omega))
            have HIT := Lib.hid hit1
            have HOW := Lib.hid hown1
            clear hK1 k1 k2 k3 k4 H2 HX hit1 hown1 hsp
            go_wp2_with fail
            refine (HSP.out _).mono ?_
            rintro e w' ⟨rfl, rfl⟩
            go_wp2
            go_roundw
            case rel => exact ⟨p + 1, b, f, L, rfl, HIT.out, hB1, HOW.out, hbs, hL, HX2, by omega, H3⟩
            case measure => rw [iter_pos HIT.out, HIP.out]; omega
          | false =>
            rw [hsp] at HSP
            have hne : 0 < (s.extract p s.size).size := by simp; omega
            have h9 := fun w hE => lex_next (s.extract p s.size) (s[p]'hp) (R : Int) w (by simp; omega) hne k1 k2 k3 k4 hE
            simp only [tokV] at h9
            have hbad := tokD_bad (f := f) (acc := L) hp hsp
            have hfull := tokD_full (f := f) (acc := L) hp hsp
            have htok := tokD_tok (f := f) (acc := L) hp hsp
            have hat := token_at hp
            generalize nextR (s[p]'hp) (s.extract p s.size) = N at *
            obtain ⟨⟨tk, tt, tn⟩, n⟩ := N
            dsimp only at h9 hbad hfull htok hat
            have H9 := Lib.hid h9
            have HE1 := Lib.hid (HE.out.below hB1)
            have hlt1 : w.heap.size < W1.heap.size := (Array.getElem?_eq_some_iff.1 hit1).1
            clear h9 k1 k2 k3 k4 hsp hne
            by_cases hn : n = 0
            · subst hn
              rw [hbad rfl] at H2
              have HV := Lib.hid H2
              clear H2 hbad hfull htok hat hK1 HX hit1 hown1
              go_wp2_with fail
              refine (HSP.out _).mono ?_
              rintro e w' ⟨rfl, rfl⟩
              go_wp2_with fail
              refine (H9.out _ HE1.out).mono ?_
              rintro e w2 ⟨rfl, hb2⟩
              have q2 := keepS' hB1 hb2
              go_wp2
              refine bodyPost_ret (results_tmp3 rfl _ _ _) rfl ?_
              exact ⟨⟨_, by rw [← HV.out]; rfl, by rw [← HV.out]; exact OwnT.nil _ _⟩, q2.alloc q2.size _⟩
            · have hnI : ((n : Int) == 0) = false := beq_eq_false_iff_ne.2 (by omega)
              by_cases h100 : 100 ≤ L.length
              · rw [hfull hn h100] at H2
                have HV := Lib.hid H2
                have hL' : ((L.length : Int) == 100) = true := by simp; omega
                clear H2 hbad hfull htok hat hK1 HX hit1 hown1 hn
                go_wp2_with fail
                refine (HSP.out _).mono ?_
                rintro e w' ⟨rfl, rfl⟩
                go_wp2_with fail
                refine (H9.out _ HE1.out).mono ?_
                rintro e w2 ⟨rfl, hb2⟩
                have q2 := keepS' hB1 hb2
                go_wp2
                refine bodyPost_ret (results_tmp3 rfl _ _ _) rfl ?_
                exact ⟨⟨_, by rw [← HV.out]; rfl, by rw [← HV.out]; exact OwnT.nil _ _⟩, q2.alloc q2.size _⟩
              · rw [htok hn h100] at H2
                obtain ⟨g1, g2, x, g3, g4⟩ := hat hn
                have hK' := hK1 g1
                subst hK'
                have H3 : Hid (tokD s f (max (p + 1) (p + n)) (L ++ [(⟨tk, tt, tn⟩, p)]) = ANS) := Lib.hid (by rw [show max (p + 1) (p + n) = p + n by omega]; exact H2)
                have HX2 : Hid (p + 1 < p + n → ∃ x, s.data.toList[p + n - 1]? = some x ∧ x.toNat < 128) := Lib.hid (fun _ => ⟨x, g3, g4⟩)
                have hL' : ((L.length : Int) == 100) = false := beq_eq_false_iff_ne.2 (by omega)
                have HIT := Lib.hid hit1
                have HOW := Lib.hid hown1
                clear H2 hbad hfull htok hat hK1 HX hit1 hown1 hn g1 g3 g4
                go_wp2_with fail
                refine (HSP.out _).mono ?_
                rintro e w' ⟨rfl, rfl⟩
                go_wp2_with fail
                refine (H9.out _ HE1.out).mono ?_
                rintro e w2 ⟨rfl, hb2⟩
                have q2 := keepS' hB1 hb2
                have hO2 := HOW.out.below hb2
                have hI2 := (hb2.block _ hlt1).trans HIT.out
                have hlt2 : w.heap.size < w2.heap.size := by have := hb2.size; omega
                clear hb2
                have c2 : Below w2.heap.size w2 (w2.alloc (.cells #[.int .u8 tk, .string tt, .int .i64 tn, .int .i64 (p : Int)] 32)) := (Below.refl _ _).alloc (Nat.le_refl _) _
                have hO3 := hO2.below c2
                have c3 : Below (w2.alloc (.cells #[.int .u8 tk, .string tt, .int .i64 tn, .int .i64 (p : Int)] 32)).heap.size (w2.alloc (.cells #[.int .u8 tk, .string tt, .int .i64 tn, .int .i64 (p : Int)] 32)) ((w2.alloc (.cells #[.int .u8 tk, .string tt, .int .i64 tn, .int .i64 (p : Int)] 32)).alloc (.cells #[.int .u8 tk, .string tt, .int .i64 tn, .int .i64 (p : Int)] 32)) := (Below.refl _ _).alloc (Nat.le_refl _) _
                have hO4 := hO3.below c3
                have hI4 := (c3.block w.heap.size (by simp; omega)).trans ((c2.block _ hlt2).trans hI2)
                have q4 := (q2.alloc q2.size (.cells #[.int .u8 tk, .string tt, .int .i64 tn, .int .i64 (p : Int)] 32)).alloc (by simp; omega) (.cells #[.int .u8 tk, .string tt, .int .i64 tn, .int .i64 (p : Int)] 32)
                have hnew := tok_new (w2.alloc (.cells #[.int .u8 tk, .string tt, .int .i64 tn, .int .i64 (p : Int)] 32)) ⟨tk, tt, tn⟩ p 32
                rw [show (w2.alloc (.cells #[.int .u8 tk, .string tt, .int .i64 tn, .int .i64 (p : Int)] 32)).heap.size = w2.heap.size + 1 by simp] at hnew
                have HO4 := Lib.hid hO4
                have HI4 := Lib.hid hI4
                have HNEW := Lib.hid hnew
                clear c2 c3 hO2 hO3 hO4 hI2 hI4 hnew
                go_wp2_with (at_builtin; refine wpList_append_own _ rfl _ _ 26 rfl w.heap.size 32 i0 (.agg #[.int .u8 0, .string ⟨#[]⟩, .int .i64 0, .int .i64 0]) 4 40 Tryd.underlying26 hi hz0 hz1 hz2 rfl (by decide) _ _ _ rfl HO4.out ⟨w2.heap.size + 1, 0, none⟩ 1 1 (tokCells ⟨tk, tt, tn⟩ p) rfl rfl HNEW.out (by simp [tokCells, Value.oneCell']) (by unfold maxLen; omega) (by omega) q4.size ?_)
                intro v' w3 hown' hgrow _
                have hI5 : w3.heap[w.heap.size]? = some (.stringIter s (p + 1)) := (hgrow.block _ (by simp; omega) (HO4.out.apart HI4.out)).trans HI4.out
                have q5 : Below w.heap.size w w3 := q4.grown hgrow q4.size (fun k hk => (HO4.out.lt k hk).1)
                have hO5 : OwnT w.heap.size w3 v' (L ++ [(⟨tk, tt, tn⟩, p)]) := by
                  unfold OwnT
                  rw [rowT_snoc, List.length_append]
                  exact hown'
                have HI5 := Lib.hid hI5
                have HO5 := Lib.hid hO5
                clear hI5 hO5 hown' hgrow HO4 HI4 HNEW
                go_wp2
                go_roundw
                case rel => exact ⟨p + 1, p + n, f, L ++ [(⟨tk, tt, tn⟩, p)], by go_num, HI5.out, q5, HO5.out, by omega, by simp; omega, HX2, by omega, H3⟩
                case measure => rw [iter_pos HI5.out, HIP.out]; omega
      · have hnx : ∀ ty, (Instr.next (.pointer (some ⟨w.heap.size, 0, none⟩)) true ty).run Tryd.prog wr = _ := fun ty => run_next_end_at wr w.heap.size s p ty hit hp
        have HV : Hid (ANS = ⟨L, 0, 0⟩) := Lib.hid (by rw [← H.out]; exact tokD_end (by omega))
        have HO := Lib.hid hown
        clear H HX HA hit hown
        go_wp2
        refine bodyPost_ret (results_tmp3 rfl _ _ _) rfl ?_
        exact ⟨⟨_, by rw [HV.out]; rfl, by rw [HV.out]; exact HO.out⟩, hB⟩
end Go.Proofs.YtbideikffodclaaDoor
