/- The reference's Key and Name. -/
import Derived.Test.YtdcdglbliemnkaaDoorName
import Derived.Test.YtdcdglbliemnkaaDoorEnv
import Derived.Lib.Split
namespace Go.Proofs.YtdcdglbliemnkaaDoor
open Go.RowKit Go.Lib

/-- The key words, a blank between. -/
def kwText : ByteArray := ⟨((kw.map fun k => k.data.toList).foldr (fun a b => if b = [] then a else a ++ 32 :: b) []).toArray⟩
theorem kwText_size : kwText.size < 4294967281 := by decide +kernel
theorem kwText_count : Lib.countB kwText ⟨#[32]⟩ = 28 := by decide +kernel
theorem kwText_split : Lib.splitB ⟨#[32]⟩ 0 28 kwText = kw := by decide +kernel
theorem kwCell (w : World) (i : Nat) (k : ByteArray) (hk : kw[i]? = some k) : (w.alloc (.cells (kw.map Value.string).toArray 9)).cell? ⟨w.heap.size, i, none⟩ = some (.string k) := by
  have hh := heap_alloc_new w (.cells (kw.map Value.string).toArray 9)
  generalize w.alloc (.cells (kw.map Value.string).toArray 9) = w1 at *
  have hk' : (kw.map Value.string).toArray[i]? = some (.string k) := by simp [hk]
  generalize (kw.map Value.string).toArray = cs at *
  unfold World.cell?
  simp only [hh]
  exact hk'
theorem ref_split (w : World) (m : Int) (hm : w.cell? ⟨2, 0, none⟩ = some (.int .i64 m)) :
    Calls Tryd.prog 61 #[.string kwText, .string ⟨#[32]⟩] w fun e w' =>
      e = .returned (.slice (some ⟨w.heap.size, 0, none⟩) 29 29) ∧ Below w.heap.size w w' ∧ Hid (∀ i k, kw[i]? = some k → w'.cell? ⟨w.heap.size, i, none⟩ = some (.string k)) := by
  refine (Tryd.strings_Split kwText ⟨#[32]⟩ m w kwText_size hm (by decide)).mono ?_
  rintro e w' ⟨h1, h2⟩
  rw [kwText_count, kwText_split] at *
  rw [h2]
  exact ⟨h1, (Below.refl _ _).alloc (Nat.le_refl _) _, Lib.hid (kwCell w)⟩
theorem ba_iff {a b : ByteArray} : (a == b) = true ↔ a = b := by
  cases a with | mk x => cases b with | mk y =>
  rw [ByteArray.mk.injEq]
  show (x == y) = true ↔ _
  exact beq_iff_eq
theorem ba_ne {a b : ByteArray} (h : ¬ a = b) : (a == b) = false := by
  cases e : a == b with
  | false => rfl
  | true => exact absurd (ba_iff.1 e) h
theorem kw_length : kw.length = 29 := rfl
def keyAt (s : ByteArray) (i : Nat) : Bool := (kw.drop i).any fun k => s == k
theorem keyAt_step {s k : ByteArray} {i : Nat} (hk : kw[i]? = some k) : keyAt s i = (s == k || keyAt s (i + 1)) := by
  obtain ⟨h, rfl⟩ := List.getElem?_eq_some_iff.1 hk
  unfold keyAt
  rw [List.drop_eq_getElem_cons h, List.any_cons]
theorem keyAt_end {s : ByteArray} {i : Nat} (h : ¬ i < 29) : keyAt s i = false := by
  unfold keyAt
  rw [List.drop_of_length_le (by rw [kw_length]; omega)]
  rfl

set_option maxRecDepth 100000 in
set_option maxHeartbeats 1000000 in
theorem ref_key (s : ByteArray) (w : World) (hE : Env w) :
    Calls Tryd.prog 30 #[.string s] w fun e w' => e = .returned (.bool (keyB s)) ∧ Below w.heap.size w w' := by
  obtain ⟨m, hm⟩ := hE.mx
  obtain ⟨ANS, hA⟩ : ∃ a, keyB s = a := ⟨_, rfl⟩
  have HA : Hid (keyAt s 0 = ANS) := Lib.hid (by rw [← hA]; rfl)
  rw [hA]
  clear hA
  go_enter Tryd.func30, Tryd.ntmps30
  go_wp2_with fail
  refine (ref_split w m hm).mono ?_
  rintro e w1 ⟨rfl, hb1, HC⟩
  go_wp2
  go_loopw [4] (fun t wr => ∃ i : Nat, t = .int .i64 i ∧ i ≤ 29 ∧ Hid (keyAt s i = ANS) ∧ wr = w1) (fun t _ => 29 - (RowKit.intOf t).toNat)
  case atStart => exact ⟨0, rfl, by omega, HA, rfl⟩
  case round =>
    obtain ⟨i, rfl, hi, H, rfl⟩ := hrel
    by_cases hp : i < 29
    · obtain ⟨k, hk⟩ : ∃ k, kw[i]? = some k := ⟨kw[i]'(by rw [kw_length]; exact hp), List.getElem?_eq_getElem _⟩
      have hc := HC.out i k hk
      have hst := keyAt_step (s := s) hk
      rw [H.out] at hst
      clear hk H
      by_cases hq : s = k
      · have H3 : Hid (true = ANS) := Lib.hid (by rw [hst, ba_iff.2 hq]; rfl)
        have e1 : k.toList = s.toList := by rw [hq]
        have e2 : (k.toList == s.toList) = true := by rw [hq]; exact beq_self_eq_true _
        clear hst hq
        go_wp2
        go_ret
        exact ⟨ret_bool H3.out, hb1⟩
      · have H3 : Hid (keyAt s (i + 1) = ANS) := Lib.hid (by
          have e : (s == k) = false := ba_ne hq
          rw [hst, e]; simp)
        have e1 : ¬ k.toList = s.toList := by
          intro e
          apply hq
          apply ByteArray.ext
          apply Array.ext'
          rw [← Lib.toList_data, ← Lib.toList_data, e]
        have e2 : (k.toList == s.toList) = false := beq_eq_false_iff_ne.2 e1
        clear hst hq
        go_wp2
        go_roundw
        case rel => exact ⟨i + 1, by go_num, by omega, H3, trivial⟩
        case measure => simp [RowKit.intOf]; omega
    · have H3 : Hid (false = ANS) := Lib.hid (by rw [← H.out, keyAt_end hp])
      go_wp2
      go_ret
      exact ⟨ret_bool H3.out, hb1⟩
end Go.Proofs.YtdcdglbliemnkaaDoor
