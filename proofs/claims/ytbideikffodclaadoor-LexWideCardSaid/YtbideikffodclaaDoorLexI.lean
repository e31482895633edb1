/- The reference's Tokens. -/
import Derived.Test.YtbideikffodclaaDoorLexG
namespace Go.Proofs.YtbideikffodclaaDoor
open Go.RowKit Go.Lib

set_option maxRecDepth 100000 in
set_option maxHeartbeats 4000000 in
theorem ref_tokens (s : ByteArray) (w : World) (hs : s.size ≤ 1000000) (hE : Env w) :
    Calls Tryd.prog 15 #[.string s] w fun e w' => (∃ v, e = .returned (.tuple #[v, .int .i64 (tokR s).i, .int .i64 (tokR s).e]) ∧ OwnT w.heap.size w' v (tokR s).l) ∧ Below w.heap.size w w' := by
  obtain ⟨i0, hi, hz0, hz1, hz2⟩ := info_parts infoTok
  have HE := Lib.hid hE
  clear hE
  obtain ⟨ANS, hANS⟩ : ∃ a, a = tokR s := ⟨_, rfl⟩
  rw [← hANS]
  unfold tokR at hANS
  by_cases h400 : 400 < s.size
  · rw [if_pos h400] at hANS
    have HA := Lib.hid hANS
    have h400' : (400 : Int) < (s.size : Int) := by omega
    clear hANS
    go_enter Tryd.func15, Tryd.ntmps15
    go_wp2
    refine bodyPost_ret (results_tmp3 rfl _ _ _) rfl ?_
    exact ⟨⟨_, by rw [HA.out]; rfl, by rw [HA.out]; exact OwnT.nil _ _⟩, Below.refl _ _⟩
  · rw [if_neg h400] at hANS
    have HA : Hid (tokD s s.size 0 [] = ANS) := Lib.hid hANS.symm
    have h400' : ¬ (400 : Int) < (s.size : Int) := by omega
    have hsz4 : s.size ≤ 400 := by omega
    clear hANS h400
    go_enter Tryd.func15, Tryd.ntmps15
    go_wp2
    go_loopw [5, 6] (fun v t wr => ∃ (p f : Nat) (L : List (Tk × Nat)), t = .int .i64 p ∧ Below w.heap.size w wr ∧ OwnT w.heap.size wr v L ∧ p ≤ s.size ∧ L.length ≤ 100 ∧ s.size ≤ p + f ∧ Hid (tokD s f p L = ANS)) (fun _ t _ => s.size - (RowKit.intOf t).toNat)
    case atStart => exact ⟨0, s.size, [], rfl, Below.refl _ _, OwnT.nil _ _, by omega, by simp, by omega, HA⟩
    case round =>
      obtain ⟨p, f, L, rfl, hB, hown, hps, hL, hf, H⟩ := hrel
      obtain ⟨A, cp, rfl⟩ := hown.slice
      clear HA
      by_cases hp : p < s.size
      · have H2 := H.out
        obtain ⟨f, rfl⟩ : ∃ g, f = g + 1 := ⟨f - 1, by omega⟩
        have HSP := Lib.hid (fun w => ref_spaced ((s[p]'hp).toNat : Int) w)
        rw [spI_B] at HSP
        have hpI : (p : Int) < (s.size : Int) := by omega
        have hw32 : RowKit.wrap32 ((s[p]'hp).toNat : Int) = ((s[p]'hp).toNat : Int) := by have := (s[p]'hp).toNat_lt; unfold RowKit.wrap32; omega
        clear H
        cases hsp : spB (s[p]'hp) with
        | true =>
          rw [hsp] at HSP
          rw [tokD_sp hp hsp] at H2
          have H3 := Lib.hid H2
          have HOW := Lib.hid hown
          clear H2 hown hsp
          go_wp2_with fail
          refine (HSP.out _).mono ?_
          rintro e w' ⟨rfl, rfl⟩
          go_wp2
          go_roundw
          case rel => exact ⟨p + 1, f, L, by go_num, hB, HOW.out, by omega, hL, by omega, H3⟩
          case measure => simp [RowKit.intOf]; omega
        | false =>
          rw [hsp] at HSP
          have hne : 0 < (s.extract p s.size).size := by simp; omega
          have hc : (s[p]'hp) = (s.extract p s.size)[0]'hne := by
            have h1 : (s.extract p s.size).data.toList = (s[p]'hp) :: s.data.toList.drop (p + 1) := by rw [Lib.extract_to_end]; exact drop_cons hp
            have h2 := head_at hne
            rw [h1] at h2
            exact Option.some.inj h2
          have h9 := fun w hE => ref_next (s.extract p s.size) (s[p]'hp) w (by simp; omega) hne hc hE
          simp only [tokV] at h9
          have hbad := tokD_bad (f := f) (acc := L) hp hsp
          have hfull := tokD_full (f := f) (acc := L) hp hsp
          have htok := tokD_tok (f := f) (acc := L) hp hsp
          have hat := token_at hp
          have hsame := nextQ_same (c := s[p]'hp) (s := s.extract p s.size)
          generalize nextR (s[p]'hp) (s.extract p s.size) = N at *
          generalize nextQ (s[p]'hp) (s.extract p s.size) = M at *
          obtain ⟨⟨tk, tt, tn⟩, n⟩ := N
          obtain ⟨⟨uk, ut, un⟩, m⟩ := M
          obtain ⟨hm, heq⟩ := hsame
          dsimp only at hm
          subst hm
          dsimp only at h9 hbad hfull htok hat heq
          have H9 := Lib.hid h9
          have HE1 := Lib.hid (HE.out.below hB)
          clear h9 hsp hne hc
          by_cases hn : m = 0
          · subst hn
            rw [hbad rfl] at H2
            have HV := Lib.hid H2
            clear H2 hbad hfull htok hat hown heq
            go_wp2_with fail
            refine (HSP.out _).mono ?_
            rintro e w' ⟨rfl, rfl⟩
            go_wp2_with fail
            refine (H9.out _ HE1.out).mono ?_
            rintro e w2 ⟨rfl, hb2⟩
            have q2 := keepS' hB hb2
            go_wp2
            refine bodyPost_ret (results_tmp3 rfl _ _ _) rfl ?_
            exact ⟨⟨_, by rw [← HV.out]; rfl, by rw [← HV.out]; exact OwnT.nil _ _⟩, q2.alloc q2.size _⟩
          · have hnI : ((m : Int) == 0) = false := beq_eq_false_iff_ne.2 (by omega)
            have heq' := heq hn
            simp only [Prod.mk.injEq, Tk.mk.injEq, and_true] at heq'
            obtain ⟨rfl, rfl, rfl⟩ := heq'
            by_cases h100 : 100 ≤ L.length
            · rw [hfull hn h100] at H2
              have HV := Lib.hid H2
              have hL' : (100 : Int) ≤ (L.length : Int) := by omega
              clear H2 hbad hfull htok hat hown heq hn
              go_wp2_with fail
              refine (HSP.out _).mono ?_
              rintro e w' ⟨rfl, rfl⟩
              go_wp2_with fail
              refine (H9.out _ HE1.out).mono ?_
              rintro e w2 ⟨rfl, hb2⟩
              have q2 := keepS' hB hb2
              go_wp2
              refine bodyPost_ret (results_tmp3 rfl _ _ _) rfl ?_
              exact ⟨⟨_, by rw [← HV.out]; rfl, by rw [← HV.out]; exact OwnT.nil _ _⟩, q2.alloc q2.size _⟩
            · rw [htok hn h100] at H2
              obtain ⟨g1, g2, _⟩ := hat hn
              have hm1 : 1 ≤ m := by omega
              have H3 := Lib.hid H2
              have hL' : ¬ (100 : Int) ≤ (L.length : Int) := by omega
              have HOW := Lib.hid hown
              clear H2 hbad hfull htok hat hown heq hn g1
              go_wp2_with fail
              refine (HSP.out _).mono ?_
              rintro e w' ⟨rfl, rfl⟩
              go_wp2_with fail
              refine (H9.out _ HE1.out).mono ?_
              rintro e w2 ⟨rfl, hb2⟩
              have q2 := keepS' hB hb2
              have hO2 := HOW.out.below hb2
              clear hb2
              have c2 : Below w2.heap.size w2 (w2.alloc (.cells #[.int .u8 uk, .string ut, .int .i64 un, .int .i64 (p : Int)] 32)) := (Below.refl _ _).alloc (Nat.le_refl _) _
              have hO3 := hO2.below c2
              have c3 : Below (w2.alloc (.cells #[.int .u8 uk, .string ut, .int .i64 un, .int .i64 (p : Int)] 32)).heap.size (w2.alloc (.cells #[.int .u8 uk, .string ut, .int .i64 un, .int .i64 (p : Int)] 32)) ((w2.alloc (.cells #[.int .u8 uk, .string ut, .int .i64 un, .int .i64 (p : Int)] 32)).alloc (.cells #[.int .u8 uk, .string ut, .int .i64 un, .int .i64 (p : Int)] 32)) := (Below.refl _ _).alloc (Nat.le_refl _) _
              have hO4 := hO3.below c3
              have q4 := (q2.alloc q2.size (.cells #[.int .u8 uk, .string ut, .int .i64 un, .int .i64 (p : Int)] 32)).alloc (by have := q2.size; simp; omega) (.cells #[.int .u8 uk, .string ut, .int .i64 un, .int .i64 (p : Int)] 32)
              have hnew := tok_new (w2.alloc (.cells #[.int .u8 uk, .string ut, .int .i64 un, .int .i64 (p : Int)] 32)) ⟨uk, ut, un⟩ p 32
              rw [show (w2.alloc (.cells #[.int .u8 uk, .string ut, .int .i64 un, .int .i64 (p : Int)] 32)).heap.size = w2.heap.size + 1 by simp] at hnew
              have HO4 := Lib.hid hO4
              have HNEW := Lib.hid hnew
              clear c2 c3 hO2 hO3 hO4 hnew
              go_wp2_with (at_builtin; refine wpList_append_own _ rfl _ _ 26 rfl w.heap.size 32 i0 (.agg #[.int .u8 0, .string ⟨#[]⟩, .int .i64 0, .int .i64 0]) 4 40 Tryd.underlying26 hi hz0 hz1 hz2 rfl (by decide) _ _ _ rfl HO4.out ⟨w2.heap.size + 1, 0, none⟩ 1 1 (tokCells ⟨uk, ut, un⟩ p) rfl rfl HNEW.out (by simp [tokCells, Value.oneCell']) (by unfold maxLen; omega) (by omega) q4.size ?_)
              intro v' w3 hown' hgrow _
              have q5 : Below w.heap.size w w3 := q4.grown hgrow q4.size (fun k hk => (HO4.out.lt k hk).1)
              have hO5 : OwnT w.heap.size w3 v' (L ++ [(⟨uk, ut, un⟩, p)]) := by
                unfold OwnT
                rw [rowT_snoc, List.length_append]
                exact hown'
              have HO5 := Lib.hid hO5
              clear hO5 hown' hgrow HO4 HNEW
              go_wp2
              go_roundw
              case rel => exact ⟨p + m, f, L ++ [(⟨uk, ut, un⟩, p)], by go_num, q5, HO5.out, by omega, by simp; omega, by omega, H3⟩
              case measure => simp [RowKit.intOf]; omega
      · have HV : Hid (ANS = ⟨L, 0, 0⟩) := Lib.hid (by rw [← H.out]; exact tokD_end (by omega))
        have HO := Lib.hid hown
        clear H hown
        go_wp2
        refine bodyPost_ret (results_tmp3 rfl _ _ _) rfl ?_
        exact ⟨⟨_, by rw [HV.out]; rfl, by rw [HV.out]; exact HO.out⟩, hB⟩
end Go.Proofs.YtbideikffodclaaDoor
