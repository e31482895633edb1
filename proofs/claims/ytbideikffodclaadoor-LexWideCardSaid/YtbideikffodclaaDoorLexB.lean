/- lex: words, numbers, texts, signs. -/
import Derived.Test.YtbideikffodclaaDoorLexA
import Derived.Test.YtbideikffodclaaDoorRightEq
import Derived.BigRegion
namespace Go.Proofs.YtbideikffodclaaDoor
open Go.RowKit Go.Lib

def tokV (T : Tk) (i : Int) : Value := .agg #[.int .u8 T.k, .string T.t, .int .i64 T.n, .int .i64 i]
theorem ret_tok {T : Tk × Nat} {k n m : Int} {t : ByteArray} (h : T.1 = ⟨k, t, n⟩) (h2 : (T.2 : Int) = m) : Ending.returned (.tuple #[.agg #[.int .u8 k, .string t, .int .i64 n, .int .i64 0], .int .i64 m]) = .returned (.tuple #[tokV T.1 0, .int .i64 T.2]) := by rw [h, h2]; rfl
abbrev zTok : Array Value := #[.int .u8 0, .string ⟨#[]⟩, .int .i64 0, .int .i64 0]

theorem unquoteR_nonneg (s : ByteArray) : 0 ≤ (unquoteR s).2.1 := by
  unfold unquoteR
  split
  · simp
  · split
    · simp
    · split
      · simp
      · split <;> simp <;> omega

set_option maxRecDepth 100000 in
set_option maxHeartbeats 2000000 in
theorem lex_named (s : ByteArray) (w : World) (hs : s.size ≤ 1000000) :
    Calls Tryd.prog 22 #[.string s] w fun e w' => e = .returned (.tuple #[tokV (namedR s).1 0, .int .i64 (namedR s).2]) ∧ Below w.heap.size w w' := by
  have hb0 : ∀ o, Below w.heap.size w (w.alloc o) := fun o => (Below.refl _ _).alloc (Nat.le_refl _) o
  obtain ⟨R, hR⟩ : ∃ R, R = namedR s := ⟨_, rfl⟩
  rw [← hR]
  unfold namedR at hR
  have H1 := Lib.hid (fun w => front_word s w)
  have hle : runN wordB s.data.toList ≤ s.size := by
    unfold runN
    have := (List.takeWhile_sublist (p := wordB) (l := s.data.toList)).length_le
    simpa using this
  generalize runN wordB s.data.toList = N at *
  by_cases h : 12 < N
  · rw [if_pos h] at hR
    have HR := Lib.hid hR
    clear hR
    go_enter Tryd.func22, Tryd.ntmps22
    go_wp2_with fail
    refine (H1.out _).mono ?_
    rintro e w1 ⟨rfl, hb1⟩
    have q1 := keepS' (hb0 _) hb1
    have HB := (Blk.new w _ _).below hb1 (by simp)
    have cc := HB.cell
    have cf := HB.frozen
    have HB3 := fun a b c d => (((HB.set_ 0 a).set_ 1 b).set_ 2 c).set_ 3 d
    have c3 := fun a b c d i => (HB3 a b c d).cell i
    clear HB3 hb1
    go_wp2
    refine bodyPost_ret (by simp [results, Tryd.results22, go_sem, c3]; try rfl) rfl ?_
    exact ⟨ret_tok (by rw [HR.out]; try rfl) (by rw [HR.out]; try rfl), (((q1.setCell (p := ⟨w.heap.size, 0, none⟩) (Nat.le_refl _) _).setCell (p := ⟨w.heap.size, 1, none⟩) (Nat.le_refl _) _).setCell (p := ⟨w.heap.size, 2, none⟩) (Nat.le_refl _) _).setCell (p := ⟨w.heap.size, 3, none⟩) (Nat.le_refl _) _⟩
  · rw [if_neg h] at hR
    have HR := Lib.hid hR
    have H2 := Lib.hid (fun w => word_fold (s.extract 0 N) w (by simp; omega))
    generalize (ByteArray.mk (foldL (s.extract 0 N).data.toList).toArray) = F at *
    clear hR
    go_enter Tryd.func22, Tryd.ntmps22
    go_wp2_with fail
    refine (H1.out _).mono ?_
    rintro e w1 ⟨rfl, hb1⟩
    have q1 := keepS' (hb0 _) hb1
    have HA := (Blk.new w _ _).below hb1 (by simp)
    clear hb1
    go_wp2_with fail
    refine (H2.out _).mono ?_
    rintro e w2 ⟨rfl, hb2⟩
    have q2 := keepS' q1 hb2
    have HB := HA.below hb2 HA.lt
    have cc := HB.cell
    have cf := HB.frozen
    have HB3 := fun a b c d => (((HB.set_ 0 a).set_ 1 b).set_ 2 c).set_ 3 d
    have c3 := fun a b c d i => (HB3 a b c d).cell i
    clear HB3 hb2 HA
    go_wp2
    refine bodyPost_ret (by simp [results, Tryd.results22, go_sem, c3]; try rfl) rfl ?_
    exact ⟨ret_tok (by rw [HR.out]; try rfl) (by rw [HR.out]; try rfl), (((q2.setCell (p := ⟨w.heap.size, 0, none⟩) (Nat.le_refl _) _).setCell (p := ⟨w.heap.size, 1, none⟩) (Nat.le_refl _) _).setCell (p := ⟨w.heap.size, 2, none⟩) (Nat.le_refl _) _).setCell (p := ⟨w.heap.size, 3, none⟩) (Nat.le_refl _) _⟩

set_option maxRecDepth 100000 in
set_option maxHeartbeats 2000000 in
theorem lex_number (s : ByteArray) (w : World) (hs : s.size ≤ 1000000) (h0 : 0 < s.size) (hE : Env w) :
    Calls Tryd.prog 24 #[.string s] w fun e w' => e = .returned (.tuple #[tokV (numberR s).1 0, .int .i64 (numberR s).2]) ∧ Below w.heap.size w w' := by
  have hb0 : ∀ o, Below w.heap.size w (w.alloc o) := fun o => (Below.refl _ _).alloc (Nat.le_refl _) o
  obtain ⟨R, hR⟩ : ∃ R, R = numberR s := ⟨_, rfl⟩
  rw [← hR]
  unfold numberR at hR
  have H1 := Lib.hid (fun w => front_digit (s.extract 1 s.size) w)
  have hle : numberN s ≤ s.size := by
    unfold numberN runN
    have := (List.takeWhile_sublist (p := isD) (l := (s.extract 1 s.size).data.toList)).length_le
    have e : (s.extract 1 s.size).data.toList.length = s.size - 1 := by simp
    rw [e] at this
    omega
  have hN : numberN s = 1 + runN isD (s.extract 1 s.size).data.toList := rfl
  generalize numberN s = M at *
  generalize runN isD (s.extract 1 s.size).data.toList = N at *
  subst hN
  have H2 := Lib.hid (fun w hE => value_parse (s.extract 0 (1 + N)) w (by simp; omega) hE)
  generalize parseR (s.extract 0 (1 + N)) = P at *
  obtain ⟨pk, pn, ps, pe⟩ := P
  dsimp only at hR H2
  have HE := Lib.hid hE
  have e1 : (1 : Int) + (N : Int) ≤ (s.size : Int) := by omega
  have e2 : 1 ≤ s.size := h0
  clear hE
  by_cases h : pe = 0
  · subst h
    rw [if_pos rfl] at hR
    have HR := Lib.hid hR
    clear hR
    go_enter Tryd.func24, Tryd.ntmps24
    go_wp2_with fail
    refine (H1.out _).mono ?_
    rintro e w1 ⟨rfl, hb1⟩
    have q1 := keepS' (hb0 _) hb1
    have HA := (Blk.new w _ _).below hb1 (by simp)
    clear hb1
    go_wp2_with fail
    refine (H2.out _ (HE.out.below q1)).mono ?_
    rintro e w2 ⟨rfl, hb2⟩
    have q2 := (keepS' q1 hb2).alloc (keepS' q1 hb2).size (.cells #[.int .u8 pk, .int .i64 pn, .string ps] 47)
    have N2 := (Blk.new w2 47 #[.int .u8 pk, .int .i64 pn, .string ps])
    have n2 := N2.cell
    have HB := (HA.below hb2 HA.lt).alloc (.cells #[.int .u8 pk, .int .i64 pn, .string ps] 47)
    have cc := HB.cell
    have cf := HB.frozen
    have HB3 := fun a b c d => (((HB.set_ 0 a).set_ 1 b).set_ 2 c).set_ 3 d
    have c3 := fun a b c d i => (HB3 a b c d).cell i
    clear HB3 hb2 HA N2
    go_wp2
    go_region
    go_wp2
    refine bodyPost_ret (by simp [results, Tryd.results24, go_sem, c3]; try rfl) rfl ?_
    exact ⟨ret_tok (by rw [HR.out]; try rfl) (by rw [HR.out]; try rfl), ((((q2.setCell (p := ⟨w.heap.size, 0, none⟩) (Nat.le_refl _) _).setCell (p := ⟨w.heap.size, 1, none⟩) (Nat.le_refl _) _).setCell (p := ⟨w.heap.size, 2, none⟩) (Nat.le_refl _) _).setCell (p := ⟨w.heap.size, 3, none⟩) (Nat.le_refl _) _).drew⟩
  · rw [if_neg h] at hR
    have h' : (pe == 0) = false := beq_eq_false_iff_ne.2 h
    have HR := Lib.hid hR
    clear hR h
    go_enter Tryd.func24, Tryd.ntmps24
    go_wp2_with fail
    refine (H1.out _).mono ?_
    rintro e w1 ⟨rfl, hb1⟩
    have q1 := keepS' (hb0 _) hb1
    have HA := (Blk.new w _ _).below hb1 (by simp)
    clear hb1
    go_wp2_with fail
    refine (H2.out _ (HE.out.below q1)).mono ?_
    rintro e w2 ⟨rfl, hb2⟩
    have q2 := (keepS' q1 hb2).alloc (keepS' q1 hb2).size (.cells #[.int .u8 pk, .int .i64 pn, .string ps] 47)
    have N2 := (Blk.new w2 47 #[.int .u8 pk, .int .i64 pn, .string ps])
    have n2 := N2.cell
    have HB := (HA.below hb2 HA.lt).alloc (.cells #[.int .u8 pk, .int .i64 pn, .string ps] 47)
    have cc := HB.cell
    have cf := HB.frozen
    have HB3 := fun a b c d => (((HB.set_ 0 a).set_ 1 b).set_ 2 c).set_ 3 d
    have c3 := fun a b c d i => (HB3 a b c d).cell i
    clear HB3 hb2 HA N2
    go_wp2
    refine bodyPost_ret (by simp [results, Tryd.results24, go_sem, c3]; try rfl) rfl ?_
    exact ⟨ret_tok (by rw [HR.out]; try rfl) (by rw [HR.out]; try rfl), (((q2.setCell (p := ⟨w.heap.size, 0, none⟩) (Nat.le_refl _) _).setCell (p := ⟨w.heap.size, 1, none⟩) (Nat.le_refl _) _).setCell (p := ⟨w.heap.size, 2, none⟩) (Nat.le_refl _) _).setCell (p := ⟨w.heap.size, 3, none⟩) (Nat.le_refl _) _⟩

set_option maxRecDepth 100000 in
set_option maxHeartbeats 2000000 in
theorem lex_quoted (s : ByteArray) (w : World) (hs : s.size ≤ 1000000) (hE : Env w) :
    Calls Tryd.prog 25 #[.string s] w fun e w' => e = .returned (.tuple #[tokV (quotedR s).1 0, .int .i64 (quotedR s).2]) ∧ Below w.heap.size w w' := by
  have hb0 : ∀ o, Below w.heap.size w (w.alloc o) := fun o => (Below.refl _ _).alloc (Nat.le_refl _) o
  obtain ⟨R, hR⟩ : ∃ R, R = quotedR s := ⟨_, rfl⟩
  rw [← hR]
  unfold quotedR at hR
  have HE := Lib.hid hE
  have H2 := Lib.hid (fun w hE => word_unquote s w hs hE)
  have hnn := unquoteR_nonneg s
  generalize unquoteR s = U at *
  obtain ⟨u1, u2, u3⟩ := U
  dsimp only at hR H2 hnn
  obtain ⟨u2, rfl⟩ := Int.eq_ofNat_of_zero_le hnn
  rw [Int.toNat_natCast] at hR
  clear hE hnn
  by_cases h : u3 = 0
  · subst h
    rw [if_pos rfl] at hR
    have HR := Lib.hid hR
    clear hR
    go_enter Tryd.func25, Tryd.ntmps25
    go_wp2_with fail
    refine (H2.out _ (HE.out.below (hb0 _))).mono ?_
    rintro e w1 ⟨rfl, hb1⟩
    have q1 := keepS' (hb0 _) hb1
    have HB := (Blk.new w _ _).below hb1 (by simp)
    have cc := HB.cell
    have cf := HB.frozen
    have HB3 := fun a b c d => (((HB.set_ 0 a).set_ 1 b).set_ 2 c).set_ 3 d
    have c3 := fun a b c d i => (HB3 a b c d).cell i
    clear HB3 hb1
    go_wp2
    refine bodyPost_ret (by simp [results, Tryd.results25, go_sem, c3]; try rfl) rfl ?_
    exact ⟨ret_tok (by rw [HR.out]; try rfl) (by rw [HR.out]; try rfl), (((q1.setCell (p := ⟨w.heap.size, 0, none⟩) (Nat.le_refl _) _).setCell (p := ⟨w.heap.size, 1, none⟩) (Nat.le_refl _) _).setCell (p := ⟨w.heap.size, 2, none⟩) (Nat.le_refl _) _).setCell (p := ⟨w.heap.size, 3, none⟩) (Nat.le_refl _) _⟩
  · rw [if_neg h] at hR
    have h' : (u3 == 0) = false := beq_eq_false_iff_ne.2 h
    have HR := Lib.hid hR
    clear hR h
    go_enter Tryd.func25, Tryd.ntmps25
    go_wp2_with fail
    refine (H2.out _ (HE.out.below (hb0 _))).mono ?_
    rintro e w1 ⟨rfl, hb1⟩
    have q1 := keepS' (hb0 _) hb1
    have HB := (Blk.new w _ _).below hb1 (by simp)
    have cc := HB.cell
    have cf := HB.frozen
    have HB3 := fun a b c d => (((HB.set_ 0 a).set_ 1 b).set_ 2 c).set_ 3 d
    have c3 := fun a b c d i => (HB3 a b c d).cell i
    clear HB3 hb1
    go_wp2
    refine bodyPost_ret (by simp [results, Tryd.results25, go_sem, c3]; try rfl) rfl ?_
    exact ⟨ret_tok (by rw [HR.out]; try rfl) (by rw [HR.out]; try rfl), (((q1.setCell (p := ⟨w.heap.size, 0, none⟩) (Nat.le_refl _) _).setCell (p := ⟨w.heap.size, 1, none⟩) (Nat.le_refl _) _).setCell (p := ⟨w.heap.size, 2, none⟩) (Nat.le_refl _) _).setCell (p := ⟨w.heap.size, 3, none⟩) (Nat.le_refl _) _⟩
end Go.Proofs.YtbideikffodclaaDoor
