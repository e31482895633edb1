/- value.Parse, the reference's Parse. -/
import Derived.Test.YtbideikffodclaaDoorPrint
import Derived.Test.YtbideikffodclaaDoorNumber
import Derived.Test.YtbideikffodclaaDoorWBack
namespace Go.Proofs.YtbideikffodclaaDoor
open Go.RowKit Go.Lib

theorem unq_inv : ∀ (k : Nat) (l : List UInt8), l.length ≤ k → ∀ t n, unq l = some (t, n) → l.take (n + 1) = dbl t ++ [39] ∧ n + 1 ≤ l.length
  | 0, l, hk, t, n, h => by
    have : l = [] := List.eq_nil_of_length_eq_zero (by omega)
    subst this
    simp [unq] at h
  | k + 1, [], _, t, n, h => by simp [unq] at h
  | k + 1, [c], _, t, n, h => by
    simp only [unq] at h
    split at h
    · rename_i hc
      simp only [Option.some.injEq, Prod.mk.injEq] at h
      obtain ⟨rfl, rfl⟩ := h
      subst hc
      exact ⟨rfl, by simp⟩
    · cases h
  | k + 1, c :: d :: r, hk, t, n, h => by
    simp only [unq] at h
    split at h
    · rename_i hc
      obtain ⟨p, hp, he⟩ := Option.map_eq_some_iff.1 h
      simp only [Prod.mk.injEq] at he
      obtain ⟨rfl, rfl⟩ := he
      obtain ⟨h1, h2⟩ := unq_inv k (d :: r) (by simp at hk ⊢; omega) p.1 p.2 hp
      refine ⟨?_, by simp at h2 ⊢; omega⟩
      rw [List.take_succ_cons, h1, dbl, if_neg hc]
      rfl
    · rename_i hc
      have hc' : c = 39 := by simpa using hc
      subst hc'
      split at h
      · simp only [Option.some.injEq, Prod.mk.injEq] at h
        obtain ⟨rfl, rfl⟩ := h
        exact ⟨rfl, by simp⟩
      · rename_i hd
        have hd' : d = 39 := by simpa using hd
        subst hd'
        obtain ⟨p, hp, he⟩ := Option.map_eq_some_iff.1 h
        simp only [Prod.mk.injEq] at he
        obtain ⟨rfl, rfl⟩ := he
        obtain ⟨h1, h2⟩ := unq_inv k r (by simp at hk ⊢; omega) p.1 p.2 hp
        refine ⟨?_, by simp at h2 ⊢; omega⟩
        rw [show p.2 + 2 + 1 = (p.2 + 1) + 1 + 1 by omega, List.take_succ_cons, List.take_succ_cons, h1, dbl, if_pos rfl]
        rfl

structure PR where
  k : Int
  n : Int
  s : ByteArray
  e : Int
def noP : PR := ⟨0, 0, ⟨#[]⟩, 3⟩
/-- What a text of digits is. -/
def numP (d : Int × Bool) : PR := if d.2 then ⟨1, d.1, ⟨#[]⟩, 0⟩ else noP
/-- What value.Parse hands back. -/
def parseR (s : ByteArray) : PR := match s.data.toList with
  | [] => noP
  | c :: r => if c = 39 then (if (unquoteR s).2.2 = 0 ∧ (unquoteR s).2.1 = s.size then ⟨2, 0, (unquoteR s).1, 0⟩ else noP)
    else if c = 45 then numP (digR r true) else numP (digR (c :: r) false)
def refP (s : ByteArray) : PR :=
  if (unquoteR s).2.2 = 0 ∧ (unquoteR s).2.1 = s.size then (if (printR 2 0 (unquoteR s).1) = (s, 0) then ⟨2, 0, (unquoteR s).1, 0⟩ else noP)
  else if printR 1 (numR s.data.toList) ⟨#[]⟩ = (s, 0) then ⟨1, numR s.data.toList, ⟨#[]⟩, 0⟩ else noP

theorem unquoteR_good {s : ByteArray} (h : (unquoteR s).2.2 = 0 ∧ (unquoteR s).2.1 = s.size) : ∃ r, s.data.toList = 39 :: r ∧ rightL (unquoteR s).1.data.toList = true ∧ s.data.toList = quoteL (unquoteR s).1.data.toList := by
  have hl : s.data.toList.length = s.size := by simp
  cases hs : s.data.toList with
  | nil => rw [unquoteR_nil hs] at h; simp at h
  | cons c r =>
    by_cases hc : c = 39
    · subst hc
      refine ⟨r, rfl, ?_⟩
      cases hu : unq r with
      | none => rw [unquoteR_open hs hu] at h; simp at h
      | some p =>
        obtain ⟨t, n⟩ := p
        rw [unquoteR_some hs hu] at h ⊢
        by_cases hr : rightL t = true
        · rw [if_pos hr] at h ⊢
          obtain ⟨h1, h2⟩ := unq_inv r.length r (Nat.le_refl _) t n hu
          have hn : n + 1 = r.length := by
            have := h.2
            rw [hs] at hl
            simp at hl this
            omega
          rw [hn, List.take_length] at h1
          refine ⟨hr, ?_⟩
          rw [h1]
          rfl
        · rw [if_neg hr] at h
          simp at h
    · rw [unquoteR_ne hs hc] at h
      simp at h
theorem print_num (n : Int) : printR 1 n ⟨#[]⟩ = (⟨(decL n).toArray⟩, 0) := by
  have : valB 1 n ⟨#[]⟩ = true := by unfold valB; rw [if_pos rfl, Lib.toList_data]; rfl
  rw [printR, this]
  rfl
theorem print_dec {n : Int} {s : ByteArray} : printR 1 n ⟨#[]⟩ = (s, 0) ↔ decL n = s.data.toList := by
  rw [print_num]
  constructor
  · intro h
    have := (Prod.mk.inj h).1
    rw [← this]
  · intro h
    rw [h]
theorem decL_head (n : Int) : ∃ c r, decL n = c :: r ∧ c ≠ 39 ∧ (c = 45 ↔ n < 0) ∧ (n < 0 → r = digL n.natAbs) ∧ (¬ n < 0 → decL n = digL n.natAbs) := by
  obtain ⟨d1, d2, d3, d4⟩ := digL_facts n.natAbs
  by_cases hn : n < 0
  · exact ⟨45, digL n.natAbs, by rw [decL, if_pos hn], by decide, by simp [hn], fun _ => rfl, fun h => absurd hn h⟩
  · cases hd : digL n.natAbs with
    | nil => exact absurd hd d3
    | cons a t =>
      rw [hd] at d1
      simp only [List.all_cons, Bool.and_eq_true, isD, decide_eq_true_eq] at d1
      refine ⟨a, t, by rw [decL, if_neg hn, hd], ?_, ?_, fun h => absurd h hn, fun _ => by rw [decL, if_neg hn, hd]⟩
      · rintro rfl
        have := d1.1.1
        revert this
        decide
      · constructor
        · rintro rfl
          exact absurd d1.1.1 (by decide)
        · intro h; exact absurd h hn
theorem print_back {s : ByteArray} (hq : (unquoteR s).2.2 = 0 ∧ (unquoteR s).2.1 = s.size) : printR 2 0 (unquoteR s).1 = (s, 0) ∧ (unquoteR s).1.size ≤ 32 := by
  obtain ⟨r, h1, h2, h3⟩ := unquoteR_good hq
  refine ⟨?_, by have := right_short h2; simpa using this⟩
  have hv : valB 2 0 (unquoteR s).1 = true := by unfold valB; simp [h2]
  rw [printR, hv, if_pos rfl, if_pos rfl]
  obtain ⟨e1, e2⟩ := quoteR_right h2
  refine Prod.ext ?_ e1
  exact ByteArray.ext (Array.ext' (by rw [e2, h3]))
theorem refP_eq (s : ByteArray) : refP s = parseR s := by
  unfold refP
  by_cases hq : (unquoteR s).2.2 = 0 ∧ (unquoteR s).2.1 = s.size
  · obtain ⟨r, h1, h2, h3⟩ := unquoteR_good hq
    have hp : printR 2 0 (unquoteR s).1 = (s, 0) := by
      have hv : valB 2 0 (unquoteR s).1 = true := by unfold valB; simp [h2]
      rw [printR, hv, if_pos rfl, if_pos rfl]
      obtain ⟨e1, e2⟩ := quoteR_right h2
      refine Prod.ext ?_ e1
      exact ByteArray.ext (Array.ext' (by rw [e2, h3]))
    rw [if_pos hq, if_pos hp]
    unfold parseR
    rw [h1]
    simp only [if_true]
    rw [if_pos hq]
  · rw [if_neg hq]
    have hrange := numR_range s.data.toList
    have hiff := print_dec (n := numR s.data.toList) (s := s)
    unfold parseR
    cases hs : s.data.toList with
    | nil =>
      rw [hs] at hiff
      obtain ⟨c, r, h1, _⟩ := decL_head (numR [])
      rw [if_neg (fun h => by rw [hiff.1 h] at h1; cases h1)]
    | cons c r =>
      rw [hs] at hiff hrange
      obtain ⟨c', r', h1, h39, h45, hneg, hpos⟩ := decL_head (numR (c :: r))
      simp only
      by_cases hc : c = 39
      · rw [if_pos hc, if_neg hq, if_neg]
        intro h
        rw [hiff.1 h] at h1
        injection h1 with e _
        exact h39 (e ▸ hc)
      · rw [if_neg hc]
        by_cases hc2 : c = 45
        · subst hc2
          rw [if_pos rfl]
          by_cases hd : (digR r true).2 = true
          · have hdr : digR r true = ((digR r true).1, true) := Prod.ext rfl hd
            obtain ⟨e1, e2, e3, e4⟩ := digR_yes hdr
            have e4 := e4 rfl
            have hdec : decL (digR r true).1 = 45 :: r := by
              rw [e2, sgnI, if_pos rfl, decL, if_pos (by omega), Int.natAbs_neg]
              rw [show ((valN r : Nat) : Int).natAbs = valN r from rfl, ← e1]
            have hn := numR_dec (digR r true).1 (by rw [e2, sgnI, if_pos rfl]; unfold limN at e3; simp at e3; omega) (by rw [e2, sgnI, if_pos rfl]; omega)
            rw [hdec] at hn
            rw [if_pos (hiff.2 (by rw [hn, hdec])), numP, if_pos hd, hn]
          · rw [numP, if_neg hd, if_neg]
            intro h
            have hl := hiff.1 h
            rw [h1] at hl
            injection hl with ec er
            have hlt := h45.1 ec
            have hr' := hneg hlt
            have := digR_of (numR (45 :: r)).natAbs true (by unfold limN; simp; omega) (fun _ => by omega)
            rw [← hr', er] at this
            rw [this] at hd
            exact hd rfl
        · rw [if_neg hc2]
          by_cases hd : (digR (c :: r) false).2 = true
          · have hdr : digR (c :: r) false = ((digR (c :: r) false).1, true) := Prod.ext rfl hd
            obtain ⟨e1, e2, e3, _⟩ := digR_yes hdr
            have hdec : decL (digR (c :: r) false).1 = c :: r := by
              rw [e2, sgnI, if_neg (by decide), decL, if_neg (by omega)]
              rw [show ((valN (c :: r) : Nat) : Int).natAbs = valN (c :: r) from rfl, ← e1]
            have hn := numR_dec (digR (c :: r) false).1 (by rw [e2, sgnI, if_neg (by decide)]; omega) (by rw [e2, sgnI, if_neg (by decide)]; unfold limN at e3; simp at e3; omega)
            rw [hdec] at hn
            rw [if_pos (hiff.2 (by rw [hn, hdec])), numP, if_pos hd, hn]
          · rw [numP, if_neg hd, if_neg]
            intro h
            have hl := hiff.1 h
            have hlt : ¬ numR (c :: r) < 0 := fun e => by
              have := h45.2 e
              rw [hl] at h1
              injection h1 with ec _
              exact hc2 (ec.trans this)
            have hr' := hpos hlt
            have := digR_of (numR (c :: r)).natAbs false (by unfold limN; simp; omega) (fun e => by cases e)
            rw [← hr', hl] at this
            rw [this] at hd
            exact hd rfl

theorem ret_pr {P : PR} {k n e : Int} {s : ByteArray} (h : P = ⟨k, n, s, e⟩) : Ending.returned (.tuple #[.agg #[.int .u8 k, .int .i64 n, .string s], .int .i64 e]) = .returned (.tuple #[.agg #[.int .u8 P.k, .int .i64 P.n, .string P.s], .int .i64 P.e]) := by rw [h]

set_option maxRecDepth 100000 in
set_option maxHeartbeats 4000000 in
theorem value_parse (s : ByteArray) (w : World) (hs : s.size ≤ 1000000) (hE : Env w) :
    Calls Tryd.prog 35 #[.string s] w fun e w' => e = .returned (.tuple #[.agg #[.int .u8 (parseR s).k, .int .i64 (parseR s).n, .string (parseR s).s], .int .i64 (parseR s).e]) ∧ Below w.heap.size w w' := by
  have hb0 : ∀ o, Below w.heap.size w (w.alloc o) := fun o => (Below.refl _ _).alloc (Nat.le_refl _) o
  have HE := Lib.hid (hE.below (hb0 (.cells #[.int .u8 0, .int .i64 0, .string ⟨#[]⟩] 47)))
  clear hE
  by_cases h0 : s.size = 0
  · obtain rfl : s = ⟨#[]⟩ := ByteArray.ext (Array.eq_empty_of_size_eq_zero h0)
    go_enter Tryd.func35, Tryd.ntmps35
    go_wp2
    go_returns
    exact ⟨rfl, hb0 _⟩
  · have hp0 : 0 < s.size := by omega
    have hcons := drop_cons (i := 0) hp0
    rw [List.drop_zero] at hcons
    have hIE : s.toList.isEmpty = false := by rw [Lib.toList_data, hcons]; rfl
    by_cases h39 : (s[0]'hp0).toNat = 39
    · have hP : parseR s = if (unquoteR s).2.2 = 0 ∧ (unquoteR s).2.1 = s.size then ⟨2, 0, (unquoteR s).1, 0⟩ else noP := by
        unfold parseR
        rw [hcons]
        simp only
        rw [if_pos (show (s[0]'hp0) = 39 from UInt8.toNat_inj.1 h39)]
      have hk : (((s[0]'hp0).toNat : Int) == 39) = true := by simp [h39]
      have HU := Lib.hid (fun w hE => word_unquote s w hs hE)
      generalize unquoteR s = U at *
      obtain ⟨u1, u2, u3⟩ := U
      dsimp only at hP HU
      by_cases hq3 : u3 = 0
      · subst hq3
        by_cases hq2 : u2 = s.size
        · subst hq2
          rw [if_pos ⟨rfl, rfl⟩] at hP
          have HP := Lib.hid hP
          clear hP hcons h39 h0
          go_enter Tryd.func35, Tryd.ntmps35
          go_wp2_with fail
          refine (HU.out _ HE.out).mono ?_
          rintro e w1 ⟨rfl, hb1⟩
          have HB := (Blk.new w _ _).below hb1 (by simp)
          have cc := HB.cell
          have cf := HB.frozen
          have HB3 := fun a b c => ((HB.set_ 0 a).set_ 1 b).set_ 2 c
          have c3 := fun a b c i => (HB3 a b c).cell i
          have q1 := keepS' (hb0 _) hb1
          clear HB HB3 hb1
          go_wp2
          refine bodyPost_ret (by simp [results, Tryd.results35, go_sem, c3]; try rfl) rfl ?_
          exact ⟨ret_pr HP.out, ((q1.setCell (p := ⟨w.heap.size, 0, none⟩) (Nat.le_refl _) _).setCell (p := ⟨w.heap.size, 1, none⟩) (Nat.le_refl _) _).setCell (p := ⟨w.heap.size, 2, none⟩) (Nat.le_refl _) _⟩
        · rw [if_neg (fun h => hq2 h.2)] at hP
          have HP := Lib.hid hP
          have hq2' : (u2 == (s.size : Int)) = false := beq_eq_false_iff_ne.2 hq2
          clear hP hcons h39 h0 hq2
          go_enter Tryd.func35, Tryd.ntmps35
          go_wp2_with fail
          refine (HU.out _ HE.out).mono ?_
          rintro e w1 ⟨rfl, hb1⟩
          have HB := (Blk.new w _ _).below hb1 (by simp)
          have cc := HB.cell
          have cf := HB.frozen
          have HB3 := fun a b c => ((HB.set_ 0 a).set_ 1 b).set_ 2 c
          have c3 := fun a b c i => (HB3 a b c).cell i
          have q1 := keepS' (hb0 _) hb1
          clear HB HB3 hb1
          go_wp2
          refine bodyPost_ret (by simp [results, Tryd.results35, go_sem, c3]; try rfl) rfl ?_
          exact ⟨ret_pr HP.out, ((q1.setCell (p := ⟨w.heap.size, 0, none⟩) (Nat.le_refl _) _).setCell (p := ⟨w.heap.size, 1, none⟩) (Nat.le_refl _) _).setCell (p := ⟨w.heap.size, 2, none⟩) (Nat.le_refl _) _⟩
      · rw [if_neg (fun h => hq3 h.1)] at hP
        have HP := Lib.hid hP
        have hq3' : (u3 == 0) = false := beq_eq_false_iff_ne.2 hq3
        clear hP hcons h39 h0 hq3
        go_enter Tryd.func35, Tryd.ntmps35
        go_wp2_with fail
        refine (HU.out _ HE.out).mono ?_
        rintro e w1 ⟨rfl, hb1⟩
        have HB := (Blk.new w _ _).below hb1 (by simp)
        have cc := HB.cell
        have cf := HB.frozen
        have HB3 := fun a b c => ((HB.set_ 0 a).set_ 1 b).set_ 2 c
        have c3 := fun a b c i => (HB3 a b c).cell i
        have q1 := keepS' (hb0 _) hb1
        clear HB HB3 hb1
        go_wp2
        refine bodyPost_ret (by simp [results, Tryd.results35, go_sem, c3]; try rfl) rfl ?_
        exact ⟨ret_pr HP.out, ((q1.setCell (p := ⟨w.heap.size, 0, none⟩) (Nat.le_refl _) _).setCell (p := ⟨w.heap.size, 1, none⟩) (Nat.le_refl _) _).setCell (p := ⟨w.heap.size, 2, none⟩) (Nat.le_refl _) _⟩
    · have h39' : ¬ (s[0]'hp0) = 39 := fun e => h39 (by rw [e]; rfl)
      have hk : (((s[0]'hp0).toNat : Int) == 39) = false := beq_eq_false_iff_ne.2 (by omega)
      by_cases h45 : (s[0]'hp0).toNat = 45
      · have hk2 : (((s[0]'hp0).toNat : Int) == 45) = true := by simp [h45]
        have hP : parseR s = numP (digR (s.extract 1 s.size).data.toList true) := by
          unfold parseR
          rw [hcons]
          simp only
          rw [if_neg h39', if_pos (show (s[0]'hp0) = 45 from UInt8.toNat_inj.1 h45), Lib.extract_to_end]
        have HU := Lib.hid (fun w => value_digits_minus (s.extract 1 s.size) w)
        generalize digR (s.extract 1 s.size).data.toList true = D at *
        obtain ⟨d1, d2⟩ := D
        have h1s : 1 ≤ s.size := by omega
        cases d2 with
        | true =>
          have HP : Hid (parseR s = ⟨1, d1, ⟨#[]⟩, 0⟩) := Lib.hid hP
          clear hP hcons h39 h39' h0 h45
          go_enter Tryd.func35, Tryd.ntmps35
          go_wp2_with fail
          refine (HU.out _).mono ?_
          rintro e w1 ⟨rfl, rfl⟩
          go_wp2
          go_returns
          exact ⟨ret_pr HP.out, hb0 _⟩
        | false =>
          have HP : Hid (parseR s = noP) := Lib.hid hP
          clear hP hcons h39 h39' h0 h45
          go_enter Tryd.func35, Tryd.ntmps35
          go_wp2_with fail
          refine (HU.out _).mono ?_
          rintro e w1 ⟨rfl, rfl⟩
          go_wp2
          go_returns
          exact ⟨ret_pr HP.out, hb0 _⟩
      · have h45' : ¬ (s[0]'hp0) = 45 := fun e => h45 (by rw [e]; rfl)
        have hk2 : (((s[0]'hp0).toNat : Int) == 45) = false := beq_eq_false_iff_ne.2 (by omega)
        have hP : parseR s = numP (digR s.data.toList false) := by
          unfold parseR
          rw [hcons]
          simp only
          rw [if_neg h39', if_neg h45']
        have HU := Lib.hid (fun w => value_digits_plus s w)
        generalize digR s.data.toList false = D at *
        obtain ⟨d1, d2⟩ := D
        cases d2 with
        | true =>
          have HP : Hid (parseR s = ⟨1, d1, ⟨#[]⟩, 0⟩) := Lib.hid hP
          clear hP hcons h39 h39' h0 h45 h45'
          go_enter Tryd.func35, Tryd.ntmps35
          go_wp2_with fail
          refine (HU.out _).mono ?_
          rintro e w1 ⟨rfl, rfl⟩
          go_wp2
          go_returns
          exact ⟨ret_pr HP.out, hb0 _⟩
        | false =>
          have HP : Hid (parseR s = noP) := Lib.hid hP
          clear hP hcons h39 h39' h0 h45 h45'
          go_enter Tryd.func35, Tryd.ntmps35
          go_wp2_with fail
          refine (HU.out _).mono ?_
          rintro e w1 ⟨rfl, rfl⟩
          go_wp2
          go_returns
          exact ⟨ret_pr HP.out, hb0 _⟩

set_option maxRecDepth 100000 in
set_option maxHeartbeats 4000000 in
theorem ref3_parse (s : ByteArray) (w : World) (hs : s.size ≤ 1000000) (hE : Env w) :
    Calls Tryd.prog 30 #[.string s] w fun e w' => e = .returned (.tuple #[.agg #[.int .u8 (parseR s).k, .int .i64 (parseR s).n, .string (parseR s).s], .int .i64 (parseR s).e]) ∧ Below w.heap.size w w' := by
  rw [← refP_eq]
  obtain ⟨O, hO⟩ : ∃ O, O = (w.alloc (.cells #[.int .u8 0, .int .i64 0, .string ⟨#[]⟩] 47)).alloc (.cells #[.int .u8 2, .int .i64 0, .string ⟨#[]⟩] 47) := ⟨_, rfl⟩
  have c0 : Below w.heap.size w O := by rw [hO]; exact ((Below.refl _ _).alloc (Nat.le_refl _) _).alloc (by simp) _
  have B0 : Blk O w.heap.size 47 #[.int .u8 0, .int .i64 0, .string ⟨#[]⟩] := by rw [hO]; exact (Blk.new _ _ _).alloc _
  have B1 : Blk O (w.heap.size + 1) 47 #[.int .u8 2, .int .i64 0, .string ⟨#[]⟩] := by
    rw [hO]
    have h := Blk.new (w.alloc (.cells #[.int .u8 0, .int .i64 0, .string ⟨#[]⟩] 47)) 47 #[.int .u8 2, .int .i64 0, .string ⟨#[]⟩]
    simpa using h
  have HE := Lib.hid hE
  have HU := Lib.hid (fun w hE => ref_unquote s w hs hE)
  have HN := Lib.hid (fun w => ref_number s w (by omega))
  have hnr := numR_range s.data.toList
  have hnr1 := hnr.1
  have hnr2 := hnr.2
  clear hE hnr
  obtain ⟨R, hR⟩ : ∃ R, R = refP s := ⟨_, rfl⟩
  rw [← hR]
  unfold refP at hR
  have hpb := print_back (s := s)
  generalize numR s.data.toList = N at *
  generalize unquoteR s = U at *
  obtain ⟨u1, u2, u3⟩ := U
  dsimp only at hR HU hpb
  by_cases hq : u3 = 0 ∧ u2 = s.size
  · obtain ⟨hp1, hp2⟩ := hpb hq
    rw [if_pos hq, if_pos hp1] at hR
    obtain ⟨rfl, rfl⟩ := hq
    have HR := Lib.hid hR
    have HP := Lib.hid (fun w hE => ref3_print 2 0 u1 w (by omega) (by omega) (by omega) hE)
    rw [hp1] at HP
    clear hR hpb hp1
    go_enter Tryd.func30, Tryd.ntmps30
    go_wp2_with fail
    rw [← hO]
    clear hO
    refine (HU.out _ (HE.out.below c0)).mono ?_
    rintro e w1 ⟨rfl, hb1⟩
    have C0 := B0.below hb1 B0.lt
    have C1 := B1.below hb1 B1.lt
    have x1 := C1.cell
    have f1 := C1.frozen
    have q1 := keepS' c0 hb1
    have q2 : Below w.heap.size w (w1.setCell ⟨w.heap.size + 1, 2, none⟩ (.string u1)) := q1.setCell (p := ⟨w.heap.size + 1, 2, none⟩) (by simp) _
    have E0 := C0.far (p := ⟨w.heap.size + 1, 2, none⟩) (by simp) (.string u1)
    have E1 : Blk (w1.setCell ⟨w.heap.size + 1, 2, none⟩ (.string u1)) (w.heap.size + 1) 47 #[.int .u8 2, .int .i64 0, .string u1] := C1.set_ 2 (.string u1)
    have e1 := E1.cell
    clear hb1 B0 B1
    go_wp2_with fail
    refine (HP.out _ (HE.out.below q2)).mono ?_
    rintro e w2 ⟨rfl, hb2⟩
    have D0 := E0.below hb2 E0.lt
    have D1 := E1.below hb2 E1.lt
    have y0 := D0.cell
    have y1 := D1.cell
    have g0 := D0.frozen
    have HB3 := fun a b c => ((D0.set_ 0 a).set_ 1 b).set_ 2 c
    have c3 := fun a b c i => (HB3 a b c).cell i
    have q3 := keepS' q2 hb2
    clear hb2 e1 x1 f1 C0 C1 E0 E1 HB3 D0 D1
    go_wp2
    refine bodyPost_ret (by simp [results, Tryd.results30, go_sem, c3]; try rfl) rfl ?_
    exact ⟨ret_pr HR.out, ((q3.setCell (p := ⟨w.heap.size, 0, none⟩) (Nat.le_refl _) _).setCell (p := ⟨w.heap.size, 1, none⟩) (Nat.le_refl _) _).setCell (p := ⟨w.heap.size, 2, none⟩) (Nat.le_refl _) _⟩
  · rw [if_neg hq] at hR
    have HP := Lib.hid (fun w hE => ref3_print 1 N ⟨#[]⟩ w hnr1 hnr2 (Nat.zero_le _) hE)
    rw [print_num] at HP hR
    obtain ⟨P1, hP1⟩ : ∃ P1 : ByteArray, P1 = ⟨(decL N).toArray⟩ := ⟨_, rfl⟩
    rw [← hP1] at HP hR
    dsimp only at HP
    have hdec : (u3 == 0) = false ∨ (u3 = 0 ∧ (u2 == (s.size : Int)) = false) := by
      by_cases h : u3 = 0
      · exact .inr ⟨h, beq_eq_false_iff_ne.2 (fun e => hq ⟨h, e⟩)⟩
      · exact .inl (beq_eq_false_iff_ne.2 h)
    have hend : (P1 = s ∧ R = ⟨1, N, ⟨#[]⟩, 0⟩) ∨ ((P1.toList == s.toList) = false ∧ R = noP) := by
      by_cases h : P1 = s
      · refine .inl ⟨h, ?_⟩
        rw [if_pos (by rw [h])] at hR
        exact hR
      · refine .inr ⟨beq_eq_false_iff_ne.2 (fun e => h (ByteArray.ext (Array.ext' (by rw [Lib.toList_data, Lib.toList_data] at e; exact e)))), ?_⟩
        rw [if_neg (fun e => h (Prod.mk.inj e).1)] at hR
        exact hR
    clear hR hpb hP1 hq
    rcases hdec with hd | ⟨rfl, hd⟩
    all_goals
      rcases hend with ⟨rfl, hR⟩ | ⟨hne, hR⟩
      all_goals
        have HR := Lib.hid hR
        clear hR
        go_enter Tryd.func30, Tryd.ntmps30
        go_wp2_with fail
        rw [← hO]
        clear hO
        refine (HU.out _ (HE.out.below c0)).mono ?_
        rintro e w1 ⟨rfl, hb1⟩
        have C0 := B0.below hb1 B0.lt
        have C1 := B1.below hb1 B1.lt
        have x1 := C1.cell
        have f1 := C1.frozen
        have q1 := keepS' c0 hb1
        have q2 : Below w.heap.size w (w1.setCell ⟨w.heap.size + 1, 2, none⟩ (.string u1)) := q1.setCell (p := ⟨w.heap.size + 1, 2, none⟩) (by simp) _
        have E0 := C0.far (p := ⟨w.heap.size + 1, 2, none⟩) (by simp) (.string u1)
        have E1 : Blk (w1.setCell ⟨w.heap.size + 1, 2, none⟩ (.string u1)) (w.heap.size + 1) 47 #[.int .u8 2, .int .i64 0, .string u1] := C1.set_ 2 (.string u1)
        have e1 := E1.cell
        have ef := E1.frozen
        have q5 : Below w.heap.size w ((((w1.setCell ⟨w.heap.size + 1, 2, none⟩ (.string u1)).setCell ⟨w.heap.size + 1, 0, none⟩ (.int .u8 1)).setCell ⟨w.heap.size + 1, 1, none⟩ (.int .i64 N)).setCell ⟨w.heap.size + 1, 2, none⟩ (.string ⟨#[]⟩)) :=
          ((q2.setCell (p := ⟨w.heap.size + 1, 0, none⟩) (by simp) _).setCell (p := ⟨w.heap.size + 1, 1, none⟩) (by simp) _).setCell (p := ⟨w.heap.size + 1, 2, none⟩) (by simp) _
        have G0 := ((E0.far (p := ⟨w.heap.size + 1, 0, none⟩) (by simp) (.int .u8 1)).far (p := ⟨w.heap.size + 1, 1, none⟩) (by simp) (.int .i64 N)).far (p := ⟨w.heap.size + 1, 2, none⟩) (by simp) (.string ⟨#[]⟩)
        have G1 : Blk ((((w1.setCell ⟨w.heap.size + 1, 2, none⟩ (.string u1)).setCell ⟨w.heap.size + 1, 0, none⟩ (.int .u8 1)).setCell ⟨w.heap.size + 1, 1, none⟩ (.int .i64 N)).setCell ⟨w.heap.size + 1, 2, none⟩ (.string ⟨#[]⟩)) (w.heap.size + 1) 47 #[.int .u8 1, .int .i64 N, .string ⟨#[]⟩] := ((E1.set_ 0 (.int .u8 1)).set_ 1 (.int .i64 N)).set_ 2 (.string ⟨#[]⟩)
        have e3 := G1.cell
        clear hb1 B0 B1
        go_wp2_with fail
        refine (HN.out _).mono ?_
        rintro e w2 ⟨rfl, rfl⟩
        go_wp2_with fail
        refine (HP.out _ (HE.out.below q5)).mono ?_
        rintro e w2 ⟨rfl, hb2⟩
        have D0 := G0.below hb2 G0.lt
        have D1 := G1.below hb2 G1.lt
        have y0 := D0.cell
        have y1 := D1.cell
        have g0 := D0.frozen
        have HB3 := fun a b c => ((D0.set_ 0 a).set_ 1 b).set_ 2 c
        have c3 := fun a b c i => (HB3 a b c).cell i
        have q3 := keepS' q5 hb2
        clear hb2 e1 e3 ef x1 f1 C0 C1 E0 E1 G0 G1 HB3 D0 D1
        go_wp2
        refine bodyPost_ret (by simp [results, Tryd.results30, go_sem, c3]; try rfl) rfl ?_
        exact ⟨ret_pr HR.out, ((q3.setCell (p := ⟨w.heap.size, 0, none⟩) (Nat.le_refl _) _).setCell (p := ⟨w.heap.size, 1, none⟩) (Nat.le_refl _) _).setCell (p := ⟨w.heap.size, 2, none⟩) (Nat.le_refl _) _⟩
end Go.Proofs.YtbideikffodclaaDoor
