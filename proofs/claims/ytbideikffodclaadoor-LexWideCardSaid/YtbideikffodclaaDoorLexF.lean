/- regestaref10.next. -/
import Derived.Test.YtbideikffodclaaDoorLexE
namespace Go.Proofs.YtbideikffodclaaDoor
open Go.RowKit Go.Lib

/-- As the reference has it: no sign is no token. -/
def nextQ (c : UInt8) (s : ByteArray) : Tk × Nat :=
  if letB c = true then namedR s else if isD c = true ∨ c = 45 then numberR s else if c = 39 then quotedR s else if signR s = ⟨#[]⟩ then noT else signedR s
theorem nextQ_same {c : UInt8} {s : ByteArray} : (nextQ c s).2 = (nextR c s).2 ∧ ((nextR c s).2 ≠ 0 → nextQ c s = nextR c s) := by
  unfold nextQ nextR
  split
  · exact ⟨rfl, fun _ => rfl⟩
  · split
    · exact ⟨rfl, fun _ => rfl⟩
    · split
      · exact ⟨rfl, fun _ => rfl⟩
      · split
        · rename_i h
          unfold signedR
          rw [h]
          exact ⟨rfl, fun h => absurd rfl h⟩
        · exact ⟨rfl, fun _ => rfl⟩

set_option maxRecDepth 100000 in
set_option maxHeartbeats 1000000 in
theorem ref_next (s : ByteArray) (c : UInt8) (w : World) (hs : s.size ≤ 1000000) (h0 : 0 < s.size) (hc : c = s[0]'h0) (hE : Env w) :
    Calls Tryd.prog 19 #[.string s] w fun e w' => e = .returned (.tuple #[tokV (nextQ c s).1 0, .int .i64 (nextQ c s).2]) ∧ Below w.heap.size w w' := by
  have hb0 : ∀ o, Below w.heap.size w (w.alloc o) := fun o => (Below.refl _ _).alloc (Nat.le_refl _) o
  have HE := Lib.hid hE
  subst hc
  obtain ⟨R, hR⟩ : ∃ R, R = nextQ (s[0]'h0) s := ⟨_, rfl⟩
  rw [← hR]
  unfold nextQ at hR
  have H1 := Lib.hid (fun w => ref_letter ((s[0]'h0).toNat : Int) w)
  have H2 := Lib.hid (fun w => ref_digit ((s[0]'h0).toNat : Int) w)
  rw [ltrI_B] at H1
  rw [digI_B] at H2
  have k3 : (((s[0]'h0).toNat : Int) == 45) = ((s[0]'h0) == 45) := by
    by_cases h : (s[0]'h0) = 45
    · rw [h]; rfl
    · have : ¬ (s[0]'h0).toNat = 45 := fun e => h (UInt8.toNat_inj.1 e)
      rw [beq_eq_false_iff_ne.2 h]
      exact beq_eq_false_iff_ne.2 (by omega)
  have k4 : (((s[0]'h0).toNat : Int) == 39) = ((s[0]'h0) == 39) := by
    by_cases h : (s[0]'h0) = 39
    · rw [h]; rfl
    · have : ¬ (s[0]'h0).toNat = 39 := fun e => h (UInt8.toNat_inj.1 e)
      rw [beq_eq_false_iff_ne.2 h]
      exact beq_eq_false_iff_ne.2 (by omega)
  clear hE
  cases hl : letB (s[0]'h0) with
  | true =>
    rw [hl] at H1
    rw [if_pos hl] at hR
    clear hl k3 k4
    unfold namedR at hR
    have H3 := Lib.hid (fun w => ref_run_word s w hs)
    have hle : runN wordB s.data.toList ≤ s.size := by
      unfold runN
      have := (List.takeWhile_sublist (p := wordB) (l := s.data.toList)).length_le
      simpa using this
    generalize runN wordB s.data.toList = N at *
    by_cases h : 12 < N
    · rw [if_pos h] at hR
      have HR := Lib.hid hR
      clear hR
      go_enter Tryd.func19, Tryd.ntmps19
      go_wp2_with fail
      refine (H1.out _).mono ?_
      rintro e w' ⟨rfl, rfl⟩
      go_wp2_with fail
      refine (H3.out _).mono ?_
      rintro e w' ⟨rfl, rfl⟩
      go_wp2
      go_returns
      exact ⟨ret_tok (by rw [HR.out]; try rfl) (by rw [HR.out]; try rfl), hb0 _⟩

    · rw [if_neg h] at hR
      have HR := Lib.hid hR
      have H4 := Lib.hid (fun w => ref_fold (s.extract 0 N) w (by simp; omega))
      generalize (ByteArray.mk (foldL (s.extract 0 N).data.toList).toArray) = F at *
      clear hR
      go_enter Tryd.func19, Tryd.ntmps19
      go_wp2_with fail
      refine (H1.out _).mono ?_
      rintro e w' ⟨rfl, rfl⟩
      go_wp2_with fail
      refine (H3.out _).mono ?_
      rintro e w' ⟨rfl, rfl⟩
      go_wp2_with fail
      refine (H4.out _).mono ?_
      rintro e w1 ⟨rfl, hb1⟩
      have q1 := keepS' (hb0 _) hb1
      have HB := (Blk.new w _ _).below hb1 (by simp)
      have cc := HB.cell
      have cf := HB.frozen
      have HB3 := fun a b c d => (((HB.set_ 0 a).set_ 1 b).set_ 2 c).set_ 3 d
      have c3 := fun a b c d i => (HB3 a b c d).cell i
      clear HB3 hb1
      go_wp2
      refine bodyPost_ret (by simp [results, Tryd.results19, go_sem, c3]; try rfl) rfl ?_
      exact ⟨ret_tok (by rw [HR.out]; try rfl) (by rw [HR.out]; try rfl), (((q1.setCell (p := ⟨w.heap.size, 0, none⟩) (Nat.le_refl _) _).setCell (p := ⟨w.heap.size, 1, none⟩) (Nat.le_refl _) _).setCell (p := ⟨w.heap.size, 2, none⟩) (Nat.le_refl _) _).setCell (p := ⟨w.heap.size, 3, none⟩) (Nat.le_refl _) _⟩

  | false =>
    rw [hl] at H1
    rw [if_neg (by simp [hl])] at hR
    by_cases hd : isD (s[0]'h0) = true
    · rw [hd] at H2
      rw [if_pos (.inl hd)] at hR
      clear hl k3 k4 hd
      unfold numberR at hR
      have H3 := Lib.hid (fun w => ref_run_digit (s.extract 1 s.size) w (by simp; omega))
      have hle : numberN s ≤ s.size := by
        unfold numberN runN
        have := (List.takeWhile_sublist (p := isD) (l := (s.extract 1 s.size).data.toList)).length_le
        have e : (s.extract 1 s.size).data.toList.length = s.size - 1 := by simp
        rw [e] at this
        omega
      have hN : numberN s = 1 + runN isD (s.extract 1 s.size).data.toList := rfl
      generalize numberN s = M at *
      generalize runN isD (s.extract 1 s.size).data.toList = N at *
      subst hN
      have H4 := Lib.hid (fun w hE => ref3_parse (s.extract 0 (1 + N)) w (by simp; omega) hE)
      generalize parseR (s.extract 0 (1 + N)) = P at *
      obtain ⟨pk, pn, ps, pe⟩ := P
      dsimp only at hR H4
      have e1 : (1 : Int) + (N : Int) ≤ (s.size : Int) := by omega
      have e2 : 1 ≤ s.size := h0
      by_cases h : pe = 0
      · subst h
        rw [if_pos rfl] at hR
        have HR := Lib.hid hR
        clear hR
        go_enter Tryd.func19, Tryd.ntmps19
        go_wp2_with fail
        refine (H1.out _).mono ?_
        rintro e w' ⟨rfl, rfl⟩
        go_wp2_with fail
        refine (H2.out _).mono ?_
        rintro e w' ⟨rfl, rfl⟩
        go_wp2_with fail
        refine (H3.out _).mono ?_
        rintro e w' ⟨rfl, rfl⟩
        go_wp2_with fail
        refine (H4.out _ (HE.out.below (hb0 _))).mono ?_
        rintro e w2 ⟨rfl, hb2⟩
        have q2 := (keepS' (hb0 _) hb2).alloc (keepS' (hb0 _) hb2).size (.cells #[.int .u8 pk, .int .i64 pn, .string ps] 47)
        have N2 := (Blk.new w2 47 #[.int .u8 pk, .int .i64 pn, .string ps])
        have n2 := N2.cell
        have HB := ((Blk.new w _ _).below hb2 (by simp)).alloc (.cells #[.int .u8 pk, .int .i64 pn, .string ps] 47)
        have cc := HB.cell
        have cf := HB.frozen
        have HB3 := fun a b c d => (((HB.set_ 0 a).set_ 1 b).set_ 2 c).set_ 3 d
        have c3 := fun a b c d i => (HB3 a b c d).cell i
        clear HB3 hb2 N2
        go_wp2
        go_region
        go_wp2
        refine bodyPost_ret (by simp [results, Tryd.results19, go_sem, c3]; try rfl) rfl ?_
        exact ⟨ret_tok (by rw [HR.out]; try rfl) (by rw [HR.out]; try rfl), ((((q2.setCell (p := ⟨w.heap.size, 0, none⟩) (Nat.le_refl _) _).setCell (p := ⟨w.heap.size, 1, none⟩) (Nat.le_refl _) _).setCell (p := ⟨w.heap.size, 2, none⟩) (Nat.le_refl _) _).setCell (p := ⟨w.heap.size, 3, none⟩) (Nat.le_refl _) _).drew⟩

      · rw [if_neg h] at hR
        have h' : (pe == 0) = false := beq_eq_false_iff_ne.2 h
        have HR := Lib.hid hR
        clear hR h
        go_enter Tryd.func19, Tryd.ntmps19
        go_wp2_with fail
        refine (H1.out _).mono ?_
        rintro e w' ⟨rfl, rfl⟩
        go_wp2_with fail
        refine (H2.out _).mono ?_
        rintro e w' ⟨rfl, rfl⟩
        go_wp2_with fail
        refine (H3.out _).mono ?_
        rintro e w' ⟨rfl, rfl⟩
        go_wp2_with fail
        refine (H4.out _ (HE.out.below (hb0 _))).mono ?_
        rintro e w2 ⟨rfl, hb2⟩
        have q2 := (keepS' (hb0 _) hb2).alloc (keepS' (hb0 _) hb2).size (.cells #[.int .u8 pk, .int .i64 pn, .string ps] 47)
        have N2 := (Blk.new w2 47 #[.int .u8 pk, .int .i64 pn, .string ps])
        have n2 := N2.cell
        have HB := ((Blk.new w _ _).below hb2 (by simp)).alloc (.cells #[.int .u8 pk, .int .i64 pn, .string ps] 47)
        have cc := HB.cell
        have cf := HB.frozen
        have HB3 := fun a b c d => (((HB.set_ 0 a).set_ 1 b).set_ 2 c).set_ 3 d
        have c3 := fun a b c d i => (HB3 a b c d).cell i
        clear HB3 hb2 N2
        go_wp2
        refine bodyPost_ret (by simp [results, Tryd.results19, go_sem, c3]; try rfl) rfl ?_
        exact ⟨ret_tok (by rw [HR.out]; try rfl) (by rw [HR.out]; try rfl), (((q2.setCell (p := ⟨w.heap.size, 0, none⟩) (Nat.le_refl _) _).setCell (p := ⟨w.heap.size, 1, none⟩) (Nat.le_refl _) _).setCell (p := ⟨w.heap.size, 2, none⟩) (Nat.le_refl _) _).setCell (p := ⟨w.heap.size, 3, none⟩) (Nat.le_refl _) _⟩

    · have hd' : isD (s[0]'h0) = false := by simpa using hd
      rw [hd'] at H2
      by_cases h45 : (s[0]'h0) = 45
      · have k3' : (((s[0]'h0).toNat : Int) == 45) = true := by rw [k3, h45]; rfl
        rw [if_pos (.inr h45)] at hR
        clear hl k3 k4 hd hd' h45
        unfold numberR at hR
        have H3 := Lib.hid (fun w => ref_run_digit (s.extract 1 s.size) w (by simp; omega))
        have hle : numberN s ≤ s.size := by
          unfold numberN runN
          have := (List.takeWhile_sublist (p := isD) (l := (s.extract 1 s.size).data.toList)).length_le
          have e : (s.extract 1 s.size).data.toList.length = s.size - 1 := by simp
          rw [e] at this
          omega
        have hN : numberN s = 1 + runN isD (s.extract 1 s.size).data.toList := rfl
        generalize numberN s = M at *
        generalize runN isD (s.extract 1 s.size).data.toList = N at *
        subst hN
        have H4 := Lib.hid (fun w hE => ref3_parse (s.extract 0 (1 + N)) w (by simp; omega) hE)
        generalize parseR (s.extract 0 (1 + N)) = P at *
        obtain ⟨pk, pn, ps, pe⟩ := P
        dsimp only at hR H4
        have e1 : (1 : Int) + (N : Int) ≤ (s.size : Int) := by omega
        have e2 : 1 ≤ s.size := h0
        by_cases h : pe = 0
        · subst h
          rw [if_pos rfl] at hR
          have HR := Lib.hid hR
          clear hR
          go_enter Tryd.func19, Tryd.ntmps19
          go_wp2_with fail
          refine (H1.out _).mono ?_
          rintro e w' ⟨rfl, rfl⟩
          go_wp2_with fail
          refine (H2.out _).mono ?_
          rintro e w' ⟨rfl, rfl⟩
          go_wp2_with fail
          refine (H3.out _).mono ?_
          rintro e w' ⟨rfl, rfl⟩
          go_wp2_with fail
          refine (H4.out _ (HE.out.below (hb0 _))).mono ?_
          rintro e w2 ⟨rfl, hb2⟩
          have q2 := (keepS' (hb0 _) hb2).alloc (keepS' (hb0 _) hb2).size (.cells #[.int .u8 pk, .int .i64 pn, .string ps] 47)
          have N2 := (Blk.new w2 47 #[.int .u8 pk, .int .i64 pn, .string ps])
          have n2 := N2.cell
          have HB := ((Blk.new w _ _).below hb2 (by simp)).alloc (.cells #[.int .u8 pk, .int .i64 pn, .string ps] 47)
          have cc := HB.cell
          have cf := HB.frozen
          have HB3 := fun a b c d => (((HB.set_ 0 a).set_ 1 b).set_ 2 c).set_ 3 d
          have c3 := fun a b c d i => (HB3 a b c d).cell i
          clear HB3 hb2 N2
          go_wp2
          go_region
          go_wp2
          refine bodyPost_ret (by simp [results, Tryd.results19, go_sem, c3]; try rfl) rfl ?_
          exact ⟨ret_tok (by rw [HR.out]; try rfl) (by rw [HR.out]; try rfl), ((((q2.setCell (p := ⟨w.heap.size, 0, none⟩) (Nat.le_refl _) _).setCell (p := ⟨w.heap.size, 1, none⟩) (Nat.le_refl _) _).setCell (p := ⟨w.heap.size, 2, none⟩) (Nat.le_refl _) _).setCell (p := ⟨w.heap.size, 3, none⟩) (Nat.le_refl _) _).drew⟩

        · rw [if_neg h] at hR
          have h' : (pe == 0) = false := beq_eq_false_iff_ne.2 h
          have HR := Lib.hid hR
          clear hR h
          go_enter Tryd.func19, Tryd.ntmps19
          go_wp2_with fail
          refine (H1.out _).mono ?_
          rintro e w' ⟨rfl, rfl⟩
          go_wp2_with fail
          refine (H2.out _).mono ?_
          rintro e w' ⟨rfl, rfl⟩
          go_wp2_with fail
          refine (H3.out _).mono ?_
          rintro e w' ⟨rfl, rfl⟩
          go_wp2_with fail
          refine (H4.out _ (HE.out.below (hb0 _))).mono ?_
          rintro e w2 ⟨rfl, hb2⟩
          have q2 := (keepS' (hb0 _) hb2).alloc (keepS' (hb0 _) hb2).size (.cells #[.int .u8 pk, .int .i64 pn, .string ps] 47)
          have N2 := (Blk.new w2 47 #[.int .u8 pk, .int .i64 pn, .string ps])
          have n2 := N2.cell
          have HB := ((Blk.new w _ _).below hb2 (by simp)).alloc (.cells #[.int .u8 pk, .int .i64 pn, .string ps] 47)
          have cc := HB.cell
          have cf := HB.frozen
          have HB3 := fun a b c d => (((HB.set_ 0 a).set_ 1 b).set_ 2 c).set_ 3 d
          have c3 := fun a b c d i => (HB3 a b c d).cell i
          clear HB3 hb2 N2
          go_wp2
          refine bodyPost_ret (by simp [results, Tryd.results19, go_sem, c3]; try rfl) rfl ?_
          exact ⟨ret_tok (by rw [HR.out]; try rfl) (by rw [HR.out]; try rfl), (((q2.setCell (p := ⟨w.heap.size, 0, none⟩) (Nat.le_refl _) _).setCell (p := ⟨w.heap.size, 1, none⟩) (Nat.le_refl _) _).setCell (p := ⟨w.heap.size, 2, none⟩) (Nat.le_refl _) _).setCell (p := ⟨w.heap.size, 3, none⟩) (Nat.le_refl _) _⟩

      · have k3' : (((s[0]'h0).toNat : Int) == 45) = false := by rw [k3]; exact beq_eq_false_iff_ne.2 h45
        rw [if_neg (by simp [hd', h45])] at hR
        by_cases h39 : (s[0]'h0) = 39
        · have k4' : (((s[0]'h0).toNat : Int) == 39) = true := by rw [k4, h39]; rfl
          rw [if_pos h39] at hR
          clear hl k3 k4 hd hd' h45 h39
          unfold quotedR at hR
          have H4 := Lib.hid (fun w hE => ref_unquote s w hs hE)
          have hnn := unquoteR_nonneg s
          generalize unquoteR s = U at *
          obtain ⟨u1, u2, u3⟩ := U
          dsimp only at hR H4 hnn
          obtain ⟨u2, rfl⟩ := Int.eq_ofNat_of_zero_le hnn
          rw [Int.toNat_natCast] at hR
          clear hnn
          by_cases h : u3 = 0
          · subst h
            rw [if_pos rfl] at hR
            have HR := Lib.hid hR
            clear hR
            go_enter Tryd.func19, Tryd.ntmps19
            go_wp2_with fail
            refine (H1.out _).mono ?_
            rintro e w' ⟨rfl, rfl⟩
            go_wp2_with fail
            refine (H2.out _).mono ?_
            rintro e w' ⟨rfl, rfl⟩
            go_wp2_with fail
            refine (H4.out _ (HE.out.below (hb0 _))).mono ?_
            rintro e w1 ⟨rfl, hb1⟩
            have q1 := keepS' (hb0 _) hb1
            have HB := (Blk.new w _ _).below hb1 (by simp)
            have cc := HB.cell
            have cf := HB.frozen
            have HB3 := fun a b c d => (((HB.set_ 0 a).set_ 1 b).set_ 2 c).set_ 3 d
            have c3 := fun a b c d i => (HB3 a b c d).cell i
            clear HB3 hb1
            go_wp2
            refine bodyPost_ret (by simp [results, Tryd.results19, go_sem, c3]; try rfl) rfl ?_
            exact ⟨ret_tok (by rw [HR.out]; try rfl) (by rw [HR.out]; try rfl), (((q1.setCell (p := ⟨w.heap.size, 0, none⟩) (Nat.le_refl _) _).setCell (p := ⟨w.heap.size, 1, none⟩) (Nat.le_refl _) _).setCell (p := ⟨w.heap.size, 2, none⟩) (Nat.le_refl _) _).setCell (p := ⟨w.heap.size, 3, none⟩) (Nat.le_refl _) _⟩

          · rw [if_neg h] at hR
            have h' : (u3 == 0) = false := beq_eq_false_iff_ne.2 h
            have HR := Lib.hid hR
            clear hR h
            go_enter Tryd.func19, Tryd.ntmps19
            go_wp2_with fail
            refine (H1.out _).mono ?_
            rintro e w' ⟨rfl, rfl⟩
            go_wp2_with fail
            refine (H2.out _).mono ?_
            rintro e w' ⟨rfl, rfl⟩
            go_wp2_with fail
            refine (H4.out _ (HE.out.below (hb0 _))).mono ?_
            rintro e w1 ⟨rfl, hb1⟩
            have q1 := keepS' (hb0 _) hb1
            have HB := (Blk.new w _ _).below hb1 (by simp)
            have cc := HB.cell
            have cf := HB.frozen
            have HB3 := fun a b c d => (((HB.set_ 0 a).set_ 1 b).set_ 2 c).set_ 3 d
            have c3 := fun a b c d i => (HB3 a b c d).cell i
            clear HB3 hb1
            go_wp2
            refine bodyPost_ret (by simp [results, Tryd.results19, go_sem, c3]; try rfl) rfl ?_
            exact ⟨ret_tok (by rw [HR.out]; try rfl) (by rw [HR.out]; try rfl), (((q1.setCell (p := ⟨w.heap.size, 0, none⟩) (Nat.le_refl _) _).setCell (p := ⟨w.heap.size, 1, none⟩) (Nat.le_refl _) _).setCell (p := ⟨w.heap.size, 2, none⟩) (Nat.le_refl _) _).setCell (p := ⟨w.heap.size, 3, none⟩) (Nat.le_refl _) _⟩

        · have k4' : (((s[0]'h0).toNat : Int) == 39) = false := by rw [k4]; exact beq_eq_false_iff_ne.2 h39
          rw [if_neg h39] at hR
          unfold signedR at hR
          clear hl k3 k4 hd hd' h45 h39
          have HS := Lib.hid (fun w => ref_signed s w)
          generalize signR s = X at *
          by_cases hx : X = ⟨#[]⟩
          · subst hx
            rw [if_pos rfl] at hR
            have HR := Lib.hid hR
            clear hR
            go_enter Tryd.func19, Tryd.ntmps19
            go_wp2_with fail
            refine (H1.out _).mono ?_
            rintro e w' ⟨rfl, rfl⟩
            go_wp2_with fail
            refine (H2.out _).mono ?_
            rintro e w' ⟨rfl, rfl⟩
            go_wp2_with fail
            refine (HS.out _).mono ?_
            rintro e w1 ⟨rfl, hb1⟩
            have q1 := keepS' (hb0 _) hb1
            have HB := (Blk.new w _ _).below hb1 (by simp)
            have cc := HB.cell
            have cf := HB.frozen
            have HB3 := fun a b c d => (((HB.set_ 0 a).set_ 1 b).set_ 2 c).set_ 3 d
            have c3 := fun a b c d i => (HB3 a b c d).cell i
            clear HB3 hb1
            go_wp2
            refine bodyPost_ret (by simp [results, Tryd.results19, go_sem, c3]; try rfl) rfl ?_
            exact ⟨ret_tok (by rw [HR.out]; try rfl) (by rw [HR.out]; try rfl), (((q1.setCell (p := ⟨w.heap.size, 0, none⟩) (Nat.le_refl _) _).setCell (p := ⟨w.heap.size, 1, none⟩) (Nat.le_refl _) _).setCell (p := ⟨w.heap.size, 2, none⟩) (Nat.le_refl _) _).setCell (p := ⟨w.heap.size, 3, none⟩) (Nat.le_refl _) _⟩

          · rw [if_neg hx] at hR
            have hxe : X.toList.isEmpty = false := by
              rw [Lib.toList_data]
              cases hl : X.data.toList with
              | nil => exact absurd (ByteArray.ext (Array.ext' hl)) hx
              | cons a t => rfl
            have HR := Lib.hid hR
            clear hR hx
            go_enter Tryd.func19, Tryd.ntmps19
            go_wp2_with fail
            refine (H1.out _).mono ?_
            rintro e w' ⟨rfl, rfl⟩
            go_wp2_with fail
            refine (H2.out _).mono ?_
            rintro e w' ⟨rfl, rfl⟩
            go_wp2_with fail
            refine (HS.out _).mono ?_
            rintro e w1 ⟨rfl, hb1⟩
            have q1 := keepS' (hb0 _) hb1
            have HB := (Blk.new w _ _).below hb1 (by simp)
            have cc := HB.cell
            have cf := HB.frozen
            have HB3 := fun a b c d => (((HB.set_ 0 a).set_ 1 b).set_ 2 c).set_ 3 d
            have c3 := fun a b c d i => (HB3 a b c d).cell i
            clear HB3 hb1
            go_wp2
            refine bodyPost_ret (by simp [results, Tryd.results19, go_sem, c3]; try rfl) rfl ?_
            exact ⟨ret_tok (by rw [HR.out]; try rfl) (by rw [HR.out]; try rfl), (((q1.setCell (p := ⟨w.heap.size, 0, none⟩) (Nat.le_refl _) _).setCell (p := ⟨w.heap.size, 1, none⟩) (Nat.le_refl _) _).setCell (p := ⟨w.heap.size, 2, none⟩) (Nat.le_refl _) _).setCell (p := ⟨w.heap.size, 3, none⟩) (Nat.le_refl _) _⟩

end Go.Proofs.YtbideikffodclaaDoor
