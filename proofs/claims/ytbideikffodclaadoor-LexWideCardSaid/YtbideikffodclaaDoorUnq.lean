/- word.Unquote. -/
import Derived.Test.YtbideikffodclaaDoorWordB
import Derived.Test.YtbideikffodclaaDoorQuote
import Derived.Test.YtbideikffodclaaDoorRepl
namespace Go.Proofs.YtbideikffodclaaDoor
open Go.RowKit Go.Lib

theorem unquoteR_nil {s : ByteArray} (h : s.data.toList = []) : unquoteR s = (⟨#[]⟩, 0, 8) := by unfold unquoteR; rw [h]
theorem unquoteR_ne {s : ByteArray} {c : UInt8} {r : List UInt8} (h : s.data.toList = c :: r) (hc : c ≠ 39) : unquoteR s = (⟨#[]⟩, 0, 8) := by unfold unquoteR; rw [h]; simp [hc]
theorem unquoteR_open {s : ByteArray} {r : List UInt8} (h : s.data.toList = 39 :: r) (hu : unq r = none) : unquoteR s = ((⟨#[]⟩, (s.size : Int), 8) : ByteArray × Int × Int) := by unfold unquoteR; rw [h]; simp [hu]
theorem unquoteR_some {s : ByteArray} {r t : List UInt8} {n : Nat} (h : s.data.toList = 39 :: r) (hu : unq r = some (t, n)) : unquoteR s = if rightL t then ((⟨t.toArray⟩, (n : Int) + 2, 0) : ByteArray × Int × Int) else (⟨#[]⟩, 0, 3) := by unfold unquoteR; rw [h]; simp [hu]

theorem size_pos_cons {s : ByteArray} (h : 0 < s.size) : s.data.toList = s[0] :: s.data.toList.drop 1 := by
  have := drop_cons h
  simpa using this

set_option maxHeartbeats 2000000 in
set_option maxRecDepth 100000 in
theorem word_unquote (s : ByteArray) (w : World) (hs : s.size ≤ 1000000) (hE : Env w) :
    Calls Tryd.prog 36 #[.string s] w fun e w' => e = .returned (.tuple #[.string (unquoteR s).1, .int .i64 (unquoteR s).2.1, .int .i64 (unquoteR s).2.2]) ∧ Below w.heap.size w w' := by
  by_cases h0 : s.size = 0
  · have hl : s.data.toList = [] := List.eq_nil_of_length_eq_zero (by simpa using h0)
    have HQ := Lib.hid (unquoteR_nil hl)
    have hl' : s.toList = [] := by rw [Lib.toList_data]; exact hl
    go_enter Tryd.func36, Tryd.ntmps36
    go_wp2
    go_ret3
    exact ⟨by rw [HQ.out]; rfl, Below.refl _ _⟩
  · have hp : 0 < s.size := by omega
    have hl := size_pos_cons hp
    have hne : s.toList.isEmpty = false := by rw [Lib.toList_data, hl]; rfl
    have hne' : ¬ s.toList = [] := by rw [Lib.toList_data, hl]; simp
    by_cases hc : (s[0]'hp).toNat = 39
    · have hcn : unq (s.data.toList.drop 1) = none → closesR s = ((s.size : Int), false) := fun h => by unfold closesR closesAt; rw [h]; rfl
      have hcs : ∀ t n, unq (s.data.toList.drop 1) = some (t, n) → closesR s = (((1 + n : Nat) : Int), true) := fun t n h => by unfold closesR closesAt; rw [h]; rfl
      have hl2 : s.data.toList = 39 :: s.data.toList.drop 1 := by rw [u8_eq hc] at hl; exact hl
      have k1 : (((s[0]'hp).toNat : Int) != 39) = false := by simp [hc]
      cases hu : unq (s.data.toList.drop 1) with
      | none =>
        have HQ := Lib.hid (unquoteR_open hl2 hu)
        have HC := Lib.hid (hcn hu)
        clear hl hl2 hcn hcs hu hc
        go_enter Tryd.func36, Tryd.ntmps36
        go_wp2_with fail
        refine (word_closes _ _ (by omega)).mono ?_
        rintro e w1 ⟨rfl, rfl⟩
        rw [HC.out]
        go_wp2
        go_ret3
        exact ⟨by rw [HQ.out]; rfl, Below.refl _ _⟩
      | some p =>
        obtain ⟨t, n⟩ := p
        have hq := unquoteR_some hl2 hu
        have hcl := hcs t n hu
        obtain ⟨hn, hrep⟩ := repl_unq _ _ (Nat.le_refl _) t n hu
        have hn2 := (unq_le _ _ (Nat.le_refl _) t n hu).1
        have htl := (unq_le _ _ (Nat.le_refl _) t n hu).2
        have hlen : (s.data.toList.drop 1).length = s.size - 1 := by simp
        have hrep2 : Lib.replaceAll (s.extract 1 (1 + n)).data.toList (ByteArray.mk #[39, 39]).data.toList (ByteArray.mk #[39]).data.toList = t := by
          rw [Lib.extract_data, show 1 + n - 1 = n by omega]; exact hrep
        have hse : (s.extract 1 (1 + n)).size ≤ s.size := by rw [ByteArray.size_extract]; omega
        have hcb := Lib.countB_le (ByteArray.mk #[39, 39]) (by decide) _ (s.extract 1 (1 + n)) (Nat.le_refl _)
        obtain ⟨m, hm⟩ := hE.mx
        have HC := Lib.hid hcl
        have HR2 := Lib.hid hrep2
        have HT := Lib.hid (word_right ⟨t.toArray⟩)
        clear hl hl2 hcl hcn hcs hu hc hrep hrep2
        rw [hlen] at hn hn2
        have HM := Lib.hid hm
        clear hm
        cases hr : rightL t with
        | true =>
          rw [hr] at hq
          have HQ := Lib.hid hq
          have HR := Lib.hid hr
          clear hq hr hlen
          go_enter Tryd.func36, Tryd.ntmps36
          go_wp2_with fail
          refine (word_closes _ _ (by omega)).mono ?_
          rintro e w1 ⟨rfl, rfl⟩
          rw [HC.out]
          go_wp2_with fail
          refine (Tryd.strings_ReplaceAll _ _ _ m _ (by omega) HM.out (by decide) (by show _ + _ * 1 ≤ _; omega)).mono ?_
          rintro e w1 ⟨rfl, hb1⟩
          rw [HR2.out]
          go_wp2_with fail
          refine (HT.out _).mono ?_
          rintro e w2 ⟨rfl, hb2⟩
          rw [HR.out]
          go_wp2
          go_ret3
          exact ⟨by rw [HQ.out]; simp; omega, hb1.trans (hb2.mono hb1.size)⟩
        | false =>
          rw [hr] at hq
          have HQ := Lib.hid hq
          have HR := Lib.hid hr
          clear hq hr hlen
          go_enter Tryd.func36, Tryd.ntmps36
          go_wp2_with fail
          refine (word_closes _ _ (by omega)).mono ?_
          rintro e w1 ⟨rfl, rfl⟩
          rw [HC.out]
          go_wp2_with fail
          refine (Tryd.strings_ReplaceAll _ _ _ m _ (by omega) HM.out (by decide) (by show _ + _ * 1 ≤ _; omega)).mono ?_
          rintro e w1 ⟨rfl, hb1⟩
          rw [HR2.out]
          go_wp2_with fail
          refine (HT.out _).mono ?_
          rintro e w2 ⟨rfl, hb2⟩
          rw [HR.out]
          go_wp2
          go_ret3
          exact ⟨by rw [HQ.out]; rfl, hb1.trans (hb2.mono hb1.size)⟩
    · have HQ := Lib.hid (unquoteR_ne hl (fun e => hc (by rw [e]; rfl)))
      have k1 : (((s[0]'hp).toNat : Int) != 39) = true := by rw [bne_iff_ne]; omega
      clear hl
      go_enter Tryd.func36, Tryd.ntmps36
      go_wp2
      go_ret3
      exact ⟨by rw [HQ.out]; rfl, Below.refl _ _⟩
end Go.Proofs.YtbideikffodclaaDoor
