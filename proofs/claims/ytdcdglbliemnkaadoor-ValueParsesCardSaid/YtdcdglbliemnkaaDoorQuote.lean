/- word.Quote, word.Unquote. -/
import Derived.Test.YtdcdglbliemnkaaDoorFront
import Derived.Test.YtdcdglbliemnkaaDoorBuild
namespace Go.Proofs.YtdcdglbliemnkaaDoor
open Go.RowKit Go.Lib

/-- Each mark twice. -/
def dbl : List UInt8 → List UInt8
  | [] => []
  | c :: l => if c = 39 then 39 :: 39 :: dbl l else c :: dbl l
theorem dbl_append (a b : List UInt8) : dbl (a ++ b) = dbl a ++ dbl b := by
  induction a with
  | nil => rfl
  | cons c a ih => simp only [List.cons_append, dbl]; split <;> simp [ih]
theorem dbl_le (l : List UInt8) : l.length ≤ (dbl l).length ∧ (dbl l).length ≤ 2 * l.length := by
  induction l with
  | nil => simp [dbl]
  | cons c l ih => simp only [dbl]; split <;> simp <;> omega
/-- A text within marks. -/
def quoteL (l : List UInt8) : List UInt8 := 39 :: dbl l ++ [39]
def quoteR (s : ByteArray) : ByteArray × Int := if rightL s.data.toList then (⟨(quoteL s.data.toList).toArray⟩, 0) else (⟨#[]⟩, 3)

set_option maxHeartbeats 2000000 in
set_option maxRecDepth 100000 in
theorem word_quote (s : ByteArray) (w : World) (hs : s.size ≤ 4611686018427387904) :
    Calls Tryd.prog 15 #[.string s] w fun e w' => e = .returned (.tuple #[.string (quoteR s).1, .int .i64 (quoteR s).2]) ∧ Below w.heap.size w w' := by
  cases hr : rightL s.data.toList with
  | false =>
    have hq : quoteR s = (⟨#[]⟩, 3) := by rw [quoteR, hr]; rfl
    have HQ := Lib.hid hq
    have HR := Lib.hid hr
    clear hq hr
    go_enter Tryd.func15, Tryd.ntmps15
    go_wp2_with fail
    refine (word_right _ _).mono ?_
    rintro e w1 ⟨rfl, hb1⟩
    rw [HR.out]
    go_wp2
    go_ret2
    exact ⟨by rw [HQ.out]; rfl, hb1⟩
  | true =>
    have hq : quoteR s = (⟨(quoteL s.data.toList).toArray⟩, 0) := by rw [quoteR, hr]; rfl
    have hs32 : s.size ≤ 32 := by have := right_short hr; simpa using this
    have HQ := Lib.hid hq
    have HR := Lib.hid hr
    clear hq hr
    go_enter Tryd.func15, Tryd.ntmps15
    go_wp2_with fail
    refine (word_right _ _).mono ?_
    rintro e w1 ⟨rfl, hb1⟩
    rw [HR.out]
    obtain ⟨B, hB⟩ : ∃ B, B = w1.heap.size := ⟨_, rfl⟩
    have h0 : Bld B B [] (w1.alloc (.cells #[.pointer none, .slice none 0 0] 57)) := .inl ⟨Nat.le_refl _, .slice none 0 0, by rw [hB]; exact heap_alloc_new w1 _, World.ownsRow_nil _ _ _ _, by simp [Value.ownBlock]⟩
    have hb0 : Below B w1 (w1.alloc (.cells #[.pointer none, .slice none 0 0] 57)) := (Below.refl _ _).alloc (by omega) _
    have hBs : B ≤ (w1.alloc (.cells #[.pointer none, .slice none 0 0] 57)).heap.size := by simp; omega
    have hBw := Lib.hid hB
    go_wp2_with fail
    rw [← hB]
    generalize w1.alloc (.cells #[.pointer none, .slice none 0 0] 57) = w2 at *
    clear hB
    refine (writeMark B B [] _ h0 (by simp) hBs).mono ?_
    rintro e w3 ⟨rfl, h3, hb3⟩
    have hb13 := hb0.trans hb3
    have hB3 : B ≤ w3.heap.size := by have := hb3.size; omega
    clear h0 hb0 hb3 hBs
    go_wp2
    go_loopw [12] (fun t wr => ∃ i : Nat, t = .int .i64 i ∧ i ≤ s.size ∧ Hid (Bld B B (39 :: dbl (s.data.toList.take i)) wr) ∧ Below B w1 wr ∧ B ≤ wr.heap.size) (fun t _ => s.size - (RowKit.intOf t).toNat)
    case atStart => exact ⟨0, rfl, by omega, Lib.hid h3, hb13, hB3⟩
    case round =>
      obtain ⟨i, rfl, hi, H, hb, hBr⟩ := hrel
      have hlen : (39 :: dbl (s.data.toList.take i)).length ≤ 2 * s.size + 1 := by
        have := (dbl_le (s.data.toList.take i)).2
        rw [List.length_take] at this
        simp at this ⊢
        omega
      by_cases hp : i < s.size
      · have ht := take_succ_at hp
        by_cases hc : (s[i]'hp).toNat = 39
        · have H3 : Hid (39 :: dbl (s.data.toList.take (i + 1)) = (39 :: dbl (s.data.toList.take i)) ++ [39] ++ [s[i]]) := Lib.hid (by rw [ht, dbl_append, u8_eq hc]; simp [dbl])
          have HC := Lib.hid hc
          have hc' : ((s[i]'hp).toNat : Int) = 39 := by omega
          have HC' : (((s[i]'hp).toNat : Int) == 39) = true := by simp [hc']
          clear ht hc hc'
          go_wp2_with fail
          refine (writeMark B B _ _ H.out (by omega) hBr).mono ?_
          rintro e w4 ⟨rfl, h4, hb4⟩
          have hB4 : B ≤ w4.heap.size := by have := hb4.size; omega
          go_wp2_with fail
          refine (writeByte B B _ (s[i]'hp) _ h4 (by rw [List.length_append]; simp at hlen ⊢; omega) hB4).mono ?_
          rintro e w5 ⟨rfl, h5, hb5⟩
          have H5 := Lib.hid h5
          clear h4 h5 HC'
          go_wp2
          go_roundw
          case rel => exact ⟨i + 1, by go_num, by omega, by rw [H3.out]; exact H5, (hb.trans hb4).trans hb5, by have := hb5.size; omega⟩
          case measure => simp [RowKit.intOf]; omega
        · have H3 : Hid (39 :: dbl (s.data.toList.take (i + 1)) = (39 :: dbl (s.data.toList.take i)) ++ [s[i]]) := Lib.hid (by
            have hne : s[i]'hp ≠ 39 := fun e => hc (by rw [e]; rfl)
            rw [ht, dbl_append]; simp [dbl, hne])
          have HC' : (((s[i]'hp).toNat : Int) == 39) = false := beq_eq_false_iff_ne.2 (by omega)
          clear ht hc
          go_wp2_with fail
          refine (writeByte B B _ (s[i]'hp) _ H.out (by omega) hBr).mono ?_
          rintro e w5 ⟨rfl, h5, hb5⟩
          have H5 := Lib.hid h5
          clear h5 HC'
          go_wp2
          go_roundw
          case rel => exact ⟨i + 1, by go_num, by omega, by rw [H3.out]; exact H5, hb.trans hb5, by have := hb5.size; omega⟩
          case measure => simp [RowKit.intOf]; omega
      · have H3 : Hid ((39 :: dbl (s.data.toList.take i)) ++ [39] = quoteL s.data.toList) := Lib.hid (by rw [List.take_of_length_le (by simp; omega)]; rfl)
        go_wp2_with fail
        refine (writeMark B B _ _ H.out (by omega) hBr).mono ?_
        rintro e w4 ⟨rfl, h4, hb4⟩
        have hB4 : B ≤ w4.heap.size := by have := hb4.size; omega
        rw [H3.out] at h4
        go_wp2_with fail
        refine (builderString B B _ _ h4 (by simp [quoteL])).mono ?_
        rintro e w5 ⟨rfl, hb5⟩
        go_wp2
        go_ret2
        exact ⟨by rw [HQ.out]; rfl, hb1.trans (((hb.trans hb4).trans hb5).mono (by rw [hBw.out]; exact hb1.size))⟩
end Go.Proofs.YtdcdglbliemnkaaDoor
