/- The walk of TopRunes. -/
import Derived.Test.YtdcdglbliemnkaaRunes
import Derived.Deep.RegionHeld3
namespace Go.Proofs.Ytdcdglbliemnkaa
open Go.RowKit Go.Lib

theorem keepS {W w0 w1 : World} (hs : Below W.heap.size W w0) (hb : Below w0.heap.size w0 w1) : Below W.heap.size W w1 := hs.trans (hb.mono hs.size)
def marksTo (s : ByteArray) (i : Nat) : Nat := marksL (s.data.toList.take i)
theorem marksL_append (a b : List UInt8) : marksL (a ++ b) = marksL a + marksL b := by
  induction a with
  | nil => simp [marksL]
  | cons c a ih => simp only [List.cons_append, marksL, ih]; omega
theorem marksTo_step {s : ByteArray} {i : Nat} (h : i < s.size) : marksTo s (i + 1) = marksTo s i + (if s[i] = 39 then 1 else 0) := by
  unfold marksTo
  rw [take_succ_at h, marksL_append]
  simp [marksL]
theorem marksTo_le (s : ByteArray) (i : Nat) : marksTo s i ≤ s.size := by
  have := marks_le (s.data.toList.take i)
  rw [List.length_take] at this
  unfold marksTo
  simp at this
  omega
theorem marksTo_end {s : ByteArray} {i : Nat} (h : ¬ i < s.size) : marksTo s i = marksL s.data.toList := by
  unfold marksTo
  rw [List.take_of_length_le (by simp; omega)]
theorem rune_ab : rightL (ByteArray.mk #[97, 98]).data.toList = true := by decide +kernel

/-- What the law asks at the end. -/
theorem runes_facts (t : ByteArray) (n : Int) : (t.extract 0 (frontN t.data.toList n)).size ≤ t.size ∧
    runesL (t.extract 0 (frontN t.data.toList n)).data.toList + runesL (t.extract (frontN t.data.toList n) t.size).data.toList = runesL t.data.toList ∧
    (t.extract 0 (frontN t.data.toList n)).size = frontN t.data.toList n := by
  have hl := frontD_le t.data.toList.length t.data.toList n
  have hl' : frontN t.data.toList n ≤ t.size := by unfold frontN; simpa using hl
  refine ⟨by rw [ByteArray.size_extract]; omega, ?_, by rw [ByteArray.size_extract]; omega⟩
  rw [Lib.extract_to_end, Lib.extract_data]
  simp only [List.drop_zero, Nat.sub_zero]
  exact runes_split _ _
theorem quote_facts (t : ByteArray) : (rightL t.data.toList = true → (quoteR t).2 = 0 ∧ (quoteR t).1.size = t.size + 2 + marksL t.data.toList) ∧ (rightL t.data.toList = false → (quoteR t).2 = 3) := by
  constructor
  · intro h
    rw [quoteR, h]
    refine ⟨rfl, ?_⟩
    show (quoteL t.data.toList).toArray.size = _
    rw [List.size_toArray, quoteL_length]
    simp
  · intro h
    rw [quoteR, h]
    rfl

theorem runesD_le : ∀ (f : Nat) (l : List UInt8), runesD f l ≤ f
  | 0, _ => by simp [runesD]
  | f + 1, l => by
    unfold runesD
    split
    · omega
    · have := runesD_le f (l.drop (decodeL l).2)
      omega
theorem runesL_le (l : List UInt8) : runesL l ≤ l.length := runesD_le _ _

set_option maxHeartbeats 4000000 in
theorem walk (s : ByteArray) (n : Int) (w : World) (hs : s.size ≤ 9223372036854775807) (hn : 0 ≤ n) (hn' : n ≤ 255) :
    Calls Try.prog 3 #[.string s, .int .u8 n] w fun e w' => e = .returned (.bool true) ∧ Below w.heap.size w w' := by
  by_cases h2 : 200 < s.size
  · have h2' : (200 : Int) < (s.size : Int) := by omega
    obtain ⟨t, ht⟩ : ∃ t, t = s.extract 0 200 := ⟨_, rfl⟩
    have hz : t.size ≤ 200 := by rw [ht, ByteArray.size_extract]; omega
    have HT := Lib.hid ht
    clear ht
    go_enter Try.func3, Try.ntmps3
    go_wp2_with fail
    rw [← HT.out]
    clear HT h2 h2' hs
    refine (word_front t n w (by omega) (by omega) (by omega)).mono ?_
    rintro e w1 ⟨rfl, hb1⟩
    obtain ⟨F, hf1, hfs, hf2⟩ : ∃ F, F = t.extract 0 (frontN t.data.toList n) ∧ F.size = frontN t.data.toList n ∧ F.size ≤ t.size := ⟨_, rfl, (runes_facts t n).2.2, (runes_facts t n).1⟩
    have hr : Hid (runesL F.data.toList + runesL (t.extract F.size t.size).data.toList = runesL t.data.toList) := Lib.hid (by rw [hfs, hf1]; exact (runes_facts t n).2.1)
    have hsl : Hid (t.extract 0 F.size = F) := Lib.hid (by rw [hfs, ← hf1])
    rw [← hf1]
    clear hf1 hfs
    go_wp2_with fail
    go_loopw [6, 7] (fun a b wr => ∃ i : Nat, b = .int .i64 i ∧ a = .int .i64 (marksTo t i) ∧ i ≤ t.size ∧ wr = w1) (fun _ b _ => t.size - (RowKit.intOf b).toNat)
    case atStart => exact ⟨0, rfl, rfl, by omega, rfl⟩
    case round =>
      obtain ⟨i, rfl, rfl, hi, rfl⟩ := hrel
      have hml := marksTo_le t i
      by_cases hp : i < t.size
      · have hst := marksTo_step hp
        by_cases hc : (t[i]'hp).toNat = 39
        · rw [if_pos (show t[i] = 39 from u8_eq hc)] at hst
          have HS := Lib.hid hst
          clear hst
          have HC' : (((t[i]'hp).toNat : Int) == 39) = true := by rw [beq_iff_eq]; omega
          clear hc
          go_wp2
          go_roundw
          case rel => exact ⟨i + 1, by go_num, by rw [HS.out]; go_num, by omega, trivial⟩
          case measure => simp [RowKit.intOf]; omega
        · rw [if_neg (fun e => hc (by rw [e]; rfl))] at hst
          have HS := Lib.hid hst
          clear hst
          have HC' : (((t[i]'hp).toNat : Int) == 39) = false := beq_eq_false_iff_ne.2 (by omega)
          clear hc
          go_wp2
          go_roundw
          case rel => exact ⟨i + 1, by go_num, by rw [HS.out]; rfl, by omega, trivial⟩
          case measure => simp [RowKit.intOf]; omega
      · rw [marksTo_end hp] at hml ⊢
        obtain ⟨qt, qf⟩ := quote_facts t
        have hgt : ¬ (t.size : Int) < (F.size : Int) := by omega
        have hgN : ¬ t.size < F.size := by omega
        have hgN' : decide (t.size < F.size) = false := decide_eq_false hgN
        have hx : (t.extract F.size t.size).size < 9223372036854775807 := by rw [ByteArray.size_extract]; omega
        have hsl' := hsl.out
        have hr' : (IntKind.i64.wrap ((runesL F.data.toList : Int) + (runesL (List.take (t.size - F.size) (List.drop F.size t.data.toList)) : Int)) != (runesL t.data.toList : Int)) = false := by
          have h := hr.out
          rw [Lib.extract_data] at h
          have hc := runesL_le t.data.toList
          have hc' : t.data.toList.length = t.size := by simp
          rw [IntWalk.i64_in _ (by omega), show ((runesL F.data.toList : Int) + (runesL (List.take (t.size - F.size) (List.drop F.size t.data.toList)) : Int)) = (runesL t.data.toList : Int) by omega]
          simp
        go_wp2_with fail
        refine (word_quote _ _ (by omega)).mono ?_
        rintro e w2 ⟨rfl, hb2⟩
        go_wp2
        go_region_held3 (fun w' => Below w2.heap.size w2 w')
          (first | exact (Below.refl _ _) | exact (Below.refl _ _).drew | (go_split_ands; have q : Below w2.heap.size w2 w3 := keepS (by assumption) hb3; exact q))
          (first | (go_at_call 6; refine (word_len _ _ (by first | omega | exact hx)).mono ?_; rintro e w3 ⟨rfl, hb3⟩))
        go_split_ands
        have hq : Below w2.heap.size w2 w3 := by assumption
        cases hr : rightL t.data.toList with
        | true =>
          obtain ⟨q0, q1⟩ := qt hr
          have HR := Lib.hid hr
          clear qt qf hr
          have hq0 : ((quoteR t).2 == 0) = true := by rw [q0]; rfl
          have hq1 : ((quoteR t).2 != 0) = false := by rw [q0]; rfl
          go_wp2_with fail
          refine (word_right _ _).mono ?_
          rintro e w4 ⟨rfl, hb4⟩
          rw [HR.out]
          go_wp2_with fail
          refine (word_right _ _).mono ?_
          rintro e w5 ⟨rfl, hb5⟩
          rw [rune_ab]
          go_wp2
          go_ret
          exact ⟨rfl, keepS (keepS (keepS (keepS hb1 hb2) hq) hb4) hb5⟩
        | false =>
          have q0 := qf hr
          have HR := Lib.hid hr
          clear qt qf hr
          have hq0 : ((quoteR t).2 == 0) = false := by rw [q0]; rfl
          have hq1 : ((quoteR t).2 != 0) = true := by rw [q0]; rfl
          go_wp2_with fail
          refine (word_right _ _).mono ?_
          rintro e w4 ⟨rfl, hb4⟩
          rw [HR.out]
          go_wp2_with fail
          refine (word_right _ _).mono ?_
          rintro e w5 ⟨rfl, hb5⟩
          rw [rune_ab]
          go_wp2
          go_ret
          exact ⟨rfl, keepS (keepS (keepS (keepS hb1 hb2) hq) hb4) hb5⟩
  · have hz : s.size ≤ 200 := by omega
    have h2' : ¬ (200 : Int) < (s.size : Int) := by omega
    obtain ⟨t, ht⟩ : ∃ t, t = s := ⟨_, rfl⟩
    subst ht
    go_enter Try.func3, Try.ntmps3
    go_wp2_with fail
    clear h2 h2' hs
    refine (word_front t n w (by omega) (by omega) (by omega)).mono ?_
    rintro e w1 ⟨rfl, hb1⟩
    obtain ⟨F, hf1, hfs, hf2⟩ : ∃ F, F = t.extract 0 (frontN t.data.toList n) ∧ F.size = frontN t.data.toList n ∧ F.size ≤ t.size := ⟨_, rfl, (runes_facts t n).2.2, (runes_facts t n).1⟩
    have hr : Hid (runesL F.data.toList + runesL (t.extract F.size t.size).data.toList = runesL t.data.toList) := Lib.hid (by rw [hfs, hf1]; exact (runes_facts t n).2.1)
    have hsl : Hid (t.extract 0 F.size = F) := Lib.hid (by rw [hfs, ← hf1])
    rw [← hf1]
    clear hf1 hfs
    go_wp2_with fail
    go_loopw [6, 7] (fun a b wr => ∃ i : Nat, b = .int .i64 i ∧ a = .int .i64 (marksTo t i) ∧ i ≤ t.size ∧ wr = w1) (fun _ b _ => t.size - (RowKit.intOf b).toNat)
    case atStart => exact ⟨0, rfl, rfl, by omega, rfl⟩
    case round =>
      obtain ⟨i, rfl, rfl, hi, rfl⟩ := hrel
      have hml := marksTo_le t i
      by_cases hp : i < t.size
      · have hst := marksTo_step hp
        by_cases hc : (t[i]'hp).toNat = 39
        · rw [if_pos (show t[i] = 39 from u8_eq hc)] at hst
          have HS := Lib.hid hst
          clear hst
          have HC' : (((t[i]'hp).toNat : Int) == 39) = true := by rw [beq_iff_eq]; omega
          clear hc
          go_wp2
          go_roundw
          case rel => exact ⟨i + 1, by go_num, by rw [HS.out]; go_num, by omega, trivial⟩
          case measure => simp [RowKit.intOf]; omega
        · rw [if_neg (fun e => hc (by rw [e]; rfl))] at hst
          have HS := Lib.hid hst
          clear hst
          have HC' : (((t[i]'hp).toNat : Int) == 39) = false := beq_eq_false_iff_ne.2 (by omega)
          clear hc
          go_wp2
          go_roundw
          case rel => exact ⟨i + 1, by go_num, by rw [HS.out]; rfl, by omega, trivial⟩
          case measure => simp [RowKit.intOf]; omega
      · rw [marksTo_end hp] at hml ⊢
        obtain ⟨qt, qf⟩ := quote_facts t
        have hgt : ¬ (t.size : Int) < (F.size : Int) := by omega
        have hgN : ¬ t.size < F.size := by omega
        have hgN' : decide (t.size < F.size) = false := decide_eq_false hgN
        have hx : (t.extract F.size t.size).size < 9223372036854775807 := by rw [ByteArray.size_extract]; omega
        have hsl' := hsl.out
        have hr' : (IntKind.i64.wrap ((runesL F.data.toList : Int) + (runesL (List.take (t.size - F.size) (List.drop F.size t.data.toList)) : Int)) != (runesL t.data.toList : Int)) = false := by
          have h := hr.out
          rw [Lib.extract_data] at h
          have hc := runesL_le t.data.toList
          have hc' : t.data.toList.length = t.size := by simp
          rw [IntWalk.i64_in _ (by omega), show ((runesL F.data.toList : Int) + (runesL (List.take (t.size - F.size) (List.drop F.size t.data.toList)) : Int)) = (runesL t.data.toList : Int) by omega]
          simp
        go_wp2_with fail
        refine (word_quote _ _ (by omega)).mono ?_
        rintro e w2 ⟨rfl, hb2⟩
        go_wp2
        go_region_held3 (fun w' => Below w2.heap.size w2 w')
          (first | exact (Below.refl _ _) | exact (Below.refl _ _).drew | (go_split_ands; have q : Below w2.heap.size w2 w3 := keepS (by assumption) hb3; exact q))
          (first | (go_at_call 6; refine (word_len _ _ (by first | omega | exact hx)).mono ?_; rintro e w3 ⟨rfl, hb3⟩))
        go_split_ands
        have hq : Below w2.heap.size w2 w3 := by assumption
        cases hr : rightL t.data.toList with
        | true =>
          obtain ⟨q0, q1⟩ := qt hr
          have HR := Lib.hid hr
          clear qt qf hr
          have hq0 : ((quoteR t).2 == 0) = true := by rw [q0]; rfl
          have hq1 : ((quoteR t).2 != 0) = false := by rw [q0]; rfl
          go_wp2_with fail
          refine (word_right _ _).mono ?_
          rintro e w4 ⟨rfl, hb4⟩
          rw [HR.out]
          go_wp2_with fail
          refine (word_right _ _).mono ?_
          rintro e w5 ⟨rfl, hb5⟩
          rw [rune_ab]
          go_wp2
          go_ret
          exact ⟨rfl, keepS (keepS (keepS (keepS hb1 hb2) hq) hb4) hb5⟩
        | false =>
          have q0 := qf hr
          have HR := Lib.hid hr
          clear qt qf hr
          have hq0 : ((quoteR t).2 == 0) = false := by rw [q0]; rfl
          have hq1 : ((quoteR t).2 != 0) = true := by rw [q0]; rfl
          go_wp2_with fail
          refine (word_right _ _).mono ?_
          rintro e w4 ⟨rfl, hb4⟩
          rw [HR.out]
          go_wp2_with fail
          refine (word_right _ _).mono ?_
          rintro e w5 ⟨rfl, hb5⟩
          rw [rune_ab]
          go_wp2
          go_ret
          exact ⟨rfl, keepS (keepS (keepS (keepS hb1 hb2) hq) hb4) hb5⟩
end Go.Proofs.Ytdcdglbliemnkaa
