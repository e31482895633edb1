/- lex.next. -/
import Derived.Test.YtbideikffodclaaDoorLexC
namespace Go.Proofs.YtbideikffodclaaDoor
open Go.RowKit Go.Lib

theorem nextR_let {c : UInt8} {s : ByteArray} (h : letB c = true) : nextR c s = namedR s := by rw [nextR, if_pos h]
theorem nextR_num {c : UInt8} {s : ByteArray} (h : letB c = false) (h2 : isD c = true ∨ c = 45) : nextR c s = numberR s := by rw [nextR, if_neg (by simp [h]), if_pos h2]
theorem nextR_quo {s : ByteArray} : nextR 39 s = quotedR s := by rw [nextR, if_neg (by decide), if_neg (by decide), if_pos rfl]
theorem nextR_sig {c : UInt8} {s : ByteArray} (h : letB c = false) (h2 : isD c = false) (h3 : c ≠ 45) (h4 : c ≠ 39) : nextR c s = signedR s := by
  rw [nextR, if_neg (by simp [h]), if_neg (by simp [h2, h3]), if_neg h4]

theorem rune_facts {s : ByteArray} {p : Nat} (h : p < s.size) : ltrI ((Utf8.decode s p).1 : Int) = letB (s[p]'h) ∧ digI ((Utf8.decode s p).1 : Int) = isD (s[p]'h) ∧ spI ((Utf8.decode s p).1 : Int) = spB (s[p]'h) ∧
    (((Utf8.decode s p).1 : Int) == 45) = ((s[p]'h) == 45) ∧ (((Utf8.decode s p).1 : Int) == 39) = ((s[p]'h) == 39) := by
  have hb : ∀ n : UInt8, ((((s[p]'h).toNat : Nat) : Int) == (n.toNat : Int)) = ((s[p]'h) == n) := fun n => by
    by_cases hc : (s[p]'h) = n
    · rw [hc]; simp
    · have : ¬ (s[p]'h).toNat = n.toNat := fun e => hc (UInt8.toNat_inj.1 e)
      rw [beq_eq_false_iff_ne.2 hc]
      exact beq_eq_false_iff_ne.2 (by omega)
  by_cases hc : (s[p]'h).toNat < 128
  · rw [dec_low h hc]
    exact ⟨ltrI_B _, digI_B _, spI_B _, hb 45, hb 39⟩
  · have hh := dec_high h (by omega)
    obtain ⟨l1, l2, _⟩ := low_split ((Utf8.decode s p).1 : Int)
    have a1 : ltrI ((Utf8.decode s p).1 : Int) = false := Bool.eq_false_iff.2 (fun e => by have := l1 e; omega)
    have a2 : digI ((Utf8.decode s p).1 : Int) = false := Bool.eq_false_iff.2 (fun e => by have := l2 e; omega)
    have a3 : spI ((Utf8.decode s p).1 : Int) = false := Bool.eq_false_iff.2 (fun e => by unfold spI at e; simp at e; omega)
    obtain ⟨m1, m2, _⟩ := low_split ((s[p]'h).toNat : Int)
    have b1 : letB (s[p]'h) = false := by rw [← ltrI_B]; exact Bool.eq_false_iff.2 (fun e => by have := m1 e; omega)
    have b2 : isD (s[p]'h) = false := by rw [← digI_B]; exact Bool.eq_false_iff.2 (fun e => by have := m2 e; omega)
    have b3 : spB (s[p]'h) = false := by rw [← spI_B]; exact Bool.eq_false_iff.2 (fun e => by unfold spI at e; simp at e; omega)
    refine ⟨a1.trans b1.symm, a2.trans b2.symm, a3.trans b3.symm, ?_, ?_⟩
    · rw [beq_eq_false_iff_ne.2 (show ¬ ((Utf8.decode s p).1 : Int) = 45 by omega)]
      exact (beq_eq_false_iff_ne.2 (fun e => by rw [e] at hc; exact hc (by decide))).symm
    · rw [beq_eq_false_iff_ne.2 (show ¬ ((Utf8.decode s p).1 : Int) = 39 by omega)]
      exact (beq_eq_false_iff_ne.2 (fun e => by rw [e] at hc; exact hc (by decide))).symm

set_option maxRecDepth 100000 in
set_option maxHeartbeats 4000000 in
theorem lex_next (s : ByteArray) (c : UInt8) (r : Int) (w : World) (hs : s.size ≤ 1000000) (h0 : 0 < s.size) (k1 : ltrI r = letB c) (k2 : digI r = isD c) (k3 : (r == 45) = (c == 45)) (k4 : (r == 39) = (c == 39)) (hE : Env w) :
    Calls Tryd.prog 18 #[.string s, .int .i32 r] w fun e w' => e = .returned (.tuple #[tokV (nextR c s).1 0, .int .i64 (nextR c s).2]) ∧ Below w.heap.size w w' := by
  have hb0 : ∀ o, Below w.heap.size w (w.alloc o) := fun o => (Below.refl _ _).alloc (Nat.le_refl _) o
  have HE := Lib.hid hE
  obtain ⟨R, hR⟩ : ∃ R, R = nextR c s := ⟨_, rfl⟩
  rw [← hR]
  have H1 := Lib.hid (fun w => lex_letter r w)
  have H2 := Lib.hid (fun w => lex_digit r w)
  rw [k1] at H1
  rw [k2] at H2
  clear hE k1 k2
  cases hl : letB c with
  | true =>
    rw [hl] at H1
    rw [nextR_let hl] at hR
    clear hl k3 k4
    have hR2 : R = namedR s := hR
    have h9 := fun w (_ : Env w) => lex_named s w hs
    simp only [tokV] at h9
    rw [← hR2] at h9
    obtain ⟨⟨tk, tt, tn⟩, m⟩ := R
    dsimp only at h9
    have H9 := Lib.hid h9
    clear hR hR2 h9
    have HR : Hid (True) := Lib.hid trivial
    go_enter Tryd.func18, Tryd.ntmps18
    go_wp2_with fail
    refine (H1.out _).mono ?_
    rintro e w' ⟨rfl, rfl⟩
    go_wp2_with fail
    refine (H9.out _ (HE.out.below (hb0 _))).mono ?_
    rintro e w1 ⟨rfl, hb1⟩
    have q1 := keepS' (hb0 _) hb1
    have HB := (Blk.new w _ _).below hb1 (by simp)
    have cc := HB.cell
    have cf := HB.frozen
    have HB3 := fun a b c d => (((HB.set_ 0 a).set_ 1 b).set_ 2 c).set_ 3 d
    have c3 := fun a b c d i => (HB3 a b c d).cell i
    clear HB3 hb1
    go_wp2
    refine bodyPost_ret (by simp [results, Tryd.results18, go_sem, c3]; try rfl) rfl ?_
    exact ⟨rfl, (((q1.setCell (p := ⟨w.heap.size, 0, none⟩) (Nat.le_refl _) _).setCell (p := ⟨w.heap.size, 1, none⟩) (Nat.le_refl _) _).setCell (p := ⟨w.heap.size, 2, none⟩) (Nat.le_refl _) _).setCell (p := ⟨w.heap.size, 3, none⟩) (Nat.le_refl _) _⟩
  | false =>
    rw [hl] at H1
    by_cases hd : isD c = true
    · rw [hd] at H2
      rw [nextR_num hl (.inl hd)] at hR
      clear hl k3 k4 hd
      have hR2 : R = numberR s := hR
      have h9 := fun w hE => lex_number s w hs h0 hE
      simp only [tokV] at h9
      rw [← hR2] at h9
      obtain ⟨⟨tk, tt, tn⟩, m⟩ := R
      dsimp only at h9
      have H9 := Lib.hid h9
      clear hR hR2 h9
      have HR : Hid (True) := Lib.hid trivial
      go_enter Tryd.func18, Tryd.ntmps18
      go_wp2_with fail
      refine (H1.out _).mono ?_
      rintro e w' ⟨rfl, rfl⟩
      go_wp2_with fail
      refine (H2.out _).mono ?_
      rintro e w' ⟨rfl, rfl⟩
      go_wp2_with fail
      refine (H9.out _ (HE.out.below (hb0 _))).mono ?_
      rintro e w1 ⟨rfl, hb1⟩
      have q1 := keepS' (hb0 _) hb1
      have HB := (Blk.new w _ _).below hb1 (by simp)
      have cc := HB.cell
      have cf := HB.frozen
      have HB3 := fun a b c d => (((HB.set_ 0 a).set_ 1 b).set_ 2 c).set_ 3 d
      have c3 := fun a b c d i => (HB3 a b c d).cell i
      clear HB3 hb1
      go_wp2
      refine bodyPost_ret (by simp [results, Tryd.results18, go_sem, c3]; try rfl) rfl ?_
      exact ⟨rfl, (((q1.setCell (p := ⟨w.heap.size, 0, none⟩) (Nat.le_refl _) _).setCell (p := ⟨w.heap.size, 1, none⟩) (Nat.le_refl _) _).setCell (p := ⟨w.heap.size, 2, none⟩) (Nat.le_refl _) _).setCell (p := ⟨w.heap.size, 3, none⟩) (Nat.le_refl _) _⟩

    · have hd' : isD c = false := by simpa using hd
      rw [hd'] at H2
      by_cases h45 : c = 45
      · have k3' : (r == 45) = true := by rw [k3, h45]; rfl
        rw [nextR_num hl (.inr h45)] at hR
        clear hl k3 k4 hd hd' h45
        have hR2 : R = numberR s := hR
        have h9 := fun w hE => lex_number s w hs h0 hE
        simp only [tokV] at h9
        rw [← hR2] at h9
        obtain ⟨⟨tk, tt, tn⟩, m⟩ := R
        dsimp only at h9
        have H9 := Lib.hid h9
        clear hR hR2 h9
        have HR : Hid (True) := Lib.hid trivial
        go_enter Tryd.func18, Tryd.ntmps18
        go_wp2_with fail
        refine (H1.out _).mono ?_
        rintro e w' ⟨rfl, rfl⟩
        go_wp2_with fail
        refine (H2.out _).mono ?_
        rintro e w' ⟨rfl, rfl⟩
        go_wp2_with fail
        refine (H9.out _ (HE.out.below (hb0 _))).mono ?_
        rintro e w1 ⟨rfl, hb1⟩
        have q1 := keepS' (hb0 _) hb1
        have HB := (Blk.new w _ _).below hb1 (by simp)
        have cc := HB.cell
        have cf := HB.frozen
        have HB3 := fun a b c d => (((HB.set_ 0 a).set_ 1 b).set_ 2 c).set_ 3 d
        have c3 := fun a b c d i => (HB3 a b c d).cell i
        clear HB3 hb1
        go_wp2
        refine bodyPost_ret (by simp [results, Tryd.results18, go_sem, c3]; try rfl) rfl ?_
        exact ⟨rfl, (((q1.setCell (p := ⟨w.heap.size, 0, none⟩) (Nat.le_refl _) _).setCell (p := ⟨w.heap.size, 1, none⟩) (Nat.le_refl _) _).setCell (p := ⟨w.heap.size, 2, none⟩) (Nat.le_refl _) _).setCell (p := ⟨w.heap.size, 3, none⟩) (Nat.le_refl _) _⟩

      · have k3' : (r == 45) = false := by rw [k3]; exact beq_eq_false_iff_ne.2 h45
        by_cases h39 : c = 39
        · have k4' : (r == 39) = true := by rw [k4, h39]; rfl
          rw [h39, nextR_quo] at hR
          clear hl k3 k4 hd hd' h45 h39
          have hR2 : R = quotedR s := hR
          have h9 := fun w hE => lex_quoted s w hs hE
          simp only [tokV] at h9
          rw [← hR2] at h9
          obtain ⟨⟨tk, tt, tn⟩, m⟩ := R
          dsimp only at h9
          have H9 := Lib.hid h9
          clear hR hR2 h9
          have HR : Hid (True) := Lib.hid trivial
          go_enter Tryd.func18, Tryd.ntmps18
          go_wp2_with fail
          refine (H1.out _).mono ?_
          rintro e w' ⟨rfl, rfl⟩
          go_wp2_with fail
          refine (H2.out _).mono ?_
          rintro e w' ⟨rfl, rfl⟩
          go_wp2_with fail
          refine (H9.out _ (HE.out.below (hb0 _))).mono ?_
          rintro e w1 ⟨rfl, hb1⟩
          have q1 := keepS' (hb0 _) hb1
          have HB := (Blk.new w _ _).below hb1 (by simp)
          have cc := HB.cell
          have cf := HB.frozen
          have HB3 := fun a b c d => (((HB.set_ 0 a).set_ 1 b).set_ 2 c).set_ 3 d
          have c3 := fun a b c d i => (HB3 a b c d).cell i
          clear HB3 hb1
          go_wp2
          refine bodyPost_ret (by simp [results, Tryd.results18, go_sem, c3]; try rfl) rfl ?_
          exact ⟨rfl, (((q1.setCell (p := ⟨w.heap.size, 0, none⟩) (Nat.le_refl _) _).setCell (p := ⟨w.heap.size, 1, none⟩) (Nat.le_refl _) _).setCell (p := ⟨w.heap.size, 2, none⟩) (Nat.le_refl _) _).setCell (p := ⟨w.heap.size, 3, none⟩) (Nat.le_refl _) _⟩

        · have k4' : (r == 39) = false := by rw [k4]; exact beq_eq_false_iff_ne.2 h39
          rw [nextR_sig hl hd' h45 h39, signedR] at hR
          have HS := Lib.hid (fun w => lex_signed s w)
          generalize signR s = X at *
          clear hl k3 k4 hd hd' h45 h39
          have HR := Lib.hid hR
          clear hR
          go_enter Tryd.func18, Tryd.ntmps18
          go_wp2_with fail
          refine (H1.out _).mono ?_
          rintro e w' ⟨rfl, rfl⟩
          go_wp2_with fail
          refine (H2.out _).mono ?_
          rintro e w' ⟨rfl, rfl⟩
          go_wp2_with fail
          refine (HS.out _).mono ?_
          rintro e w' ⟨rfl, rfl⟩
          go_wp2
          go_returns
          exact ⟨ret_tok (by rw [HR.out]) (by rw [HR.out]), hb0 _⟩
end Go.Proofs.YtbideikffodclaaDoor
