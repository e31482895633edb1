/- word.closes, word.Front, word.Compare; the references' Len, Front, Compare. -/
import Derived.Test.YtafbphiedaijmaaFront
namespace Go.Proofs.Ytafbphiedaijmaa
open Go.RowKit Go.Lib

/-- What word.closes hands back. -/
def closesR (s : ByteArray) : Int × Bool := match closesAt (s.data.toList.drop 1) 1 with
  | some i => ((i : Int), true)
  | none => ((s.size : Int), false)

theorem word_compare (a b : ByteArray) (w : World) :
    Calls Try.prog 58 #[.string a, .string b] w fun e w' => e = .returned (.int .i64 (Lib.compareBytes a.data.toList b.data.toList)) ∧ w = w' := by
  go_enter Try.func58, Try.ntmps58
  go_wp2_with (go_at_call 84; refine (Try.strings_Compare _ _ _).mono ?_; rintro e w' ⟨rfl, rfl⟩)
  go_ret
  exact ⟨rfl, rfl⟩

theorem less_irrefl : ∀ a : List UInt8, Op.bytesLess a a = false
  | [] => rfl
  | x :: a => by rw [Op.bytesLess, less_irrefl a]; simp
theorem less_compare : ∀ a b : List UInt8, Lib.compareBytes a b = if Op.bytesLess a b then -1 else if a == b then 0 else 1
  | [], [] => rfl
  | [], _ :: _ => rfl
  | _ :: _, [] => rfl
  | x :: a, y :: b => by
    rw [Lib.compareBytes, Op.bytesLess, less_compare a b]
    by_cases h1 : x < y
    · simp [h1]
    · by_cases h2 : y < x
      · have hne : ¬ x = y := fun e => by subst e; exact h1 h2
        simp [h1, h2, hne]
      · have he : x = y := by
          have g1 : ¬ x.toNat < y.toNat := fun h => h1 (UInt8.lt_iff_toNat_lt.2 h)
          have g2 : ¬ y.toNat < x.toNat := fun h => h2 (UInt8.lt_iff_toNat_lt.2 h)
          exact UInt8.toNat_inj.1 (by omega)
        subst he
        simp

theorem ref_compare (a b : ByteArray) (w : World) :
    Calls Try.prog 103 #[.string a, .string b] w fun e w' => e = .returned (.int .i64 (Lib.compareBytes a.data.toList b.data.toList)) ∧ w = w' := by
  have hc := Lib.hid (less_compare a.data.toList b.data.toList)
  rw [← Lib.toList_data a, ← Lib.toList_data b] at hc
  rw [← Lib.toList_data a, ← Lib.toList_data b]
  generalize Lib.compareBytes a.toList b.toList = C at *
  cases h1 : Op.bytesLess a.toList b.toList with
  | true =>
    have H := Lib.hid (hc.out.trans (by rw [h1, if_pos rfl]))
    clear hc
    go_enter Try.func103, Try.ntmps103
    go_wp2
    go_ret
    exact ⟨ret_int H.out.symm, rfl⟩
  | false =>
    cases h2 : a.toList == b.toList with
    | true =>
      have H := Lib.hid (hc.out.trans (by rw [h1, if_neg (by simp), h2, if_pos rfl]))
      clear hc
      go_enter Try.func103, Try.ntmps103
      go_wp2
      go_ret
      exact ⟨ret_int H.out.symm, rfl⟩
    | false =>
      have H := Lib.hid (hc.out.trans (by rw [h1, if_neg (by simp), h2, if_neg (by simp)]))
      clear hc
      go_enter Try.func103, Try.ntmps103
      go_wp2
      go_ret
      exact ⟨ret_int H.out.symm, rfl⟩

/-- At most so many bytes. -/
def shortS (s : ByteArray) : ByteArray := if 300 < s.size then s.extract 0 300 else s
theorem shortS_le (s : ByteArray) : (shortS s).size ≤ 300 := by
  unfold shortS
  split
  · rw [ByteArray.size_extract]; omega
  · omega
end Go.Proofs.Ytafbphiedaijmaa
