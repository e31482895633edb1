/- word.closes, word.Front, word.Compare; the references' Len, Front, Compare. -/
import Derived.Test.YtafbphiedaijmaaDoorEnv
import Derived.Test.YtafbphiedaijmaaDoorFront
namespace Go.Proofs.YtafbphiedaijmaaDoor
open Go.RowKit Go.Lib

/-- What word.closes hands back. -/
def closesR (s : ByteArray) : Int × Bool := match closesAt (s.data.toList.drop 1) 1 with
  | some i => ((i : Int), true)
  | none => ((s.size : Int), false)

theorem word_compare (a b : ByteArray) (w : World) :
    Calls Tryd.prog 47 #[.string a, .string b] w fun e w' => e = .returned (.int .i64 (Lib.compareBytes a.data.toList b.data.toList)) ∧ w = w' := by
  go_enter Tryd.func47, Tryd.ntmps47
  go_wp2_with (go_at_call 57; refine (Tryd.strings_Compare _ _ _).mono ?_; rintro e w' ⟨rfl, rfl⟩)
  go_ret
  exact ⟨rfl, rfl⟩

set_option maxHeartbeats 1000000 in
theorem ref_len (s : ByteArray) (w : World) (hs : s.size ≤ 9223372036854775807) (hE : Env w) :
    Calls Tryd.prog 54 #[.string s] w fun e w' => e = .returned (.int .i64 (runesL s.data.toList)) ∧ Below w.heap.size w w' := by
  have hsz : s.data.toList.length = s.size := by simp
  obtain ⟨ANS, hANS⟩ : ∃ a, a = runesL s.data.toList := ⟨_, rfl⟩
  rw [← hANS]
  have HA := Lib.hid hANS
  have hS := Lib.hid hsz
  have HE := Lib.hid hE
  clear hANS hsz hE
  go_enter Tryd.func54, Tryd.ntmps54
  go_wp2
  go_loopw [3, 4] (fun t u wr => ∃ pos b n : Nat, t = .int .i64 n ∧ u = .int .i64 pos ∧ n ≤ pos ∧ pos ≤ s.size ∧ s.size ≤ pos + b ∧ Below w.heap.size w wr ∧ Hid (n + runesD b (s.data.toList.drop pos) = ANS)) (fun _ u _ => s.size - (RowKit.intOf u).toNat)
  case atStart => exact ⟨0, s.size, 0, rfl, rfl, by omega, by omega, by omega, Below.refl _ _, by rw [HA.out, runesL, hS.out]; exact Lib.hid (Nat.zero_add _)⟩
  case round =>
    obtain ⟨pos, b, n, rfl, rfl, hn, hps, hb, hB, H⟩ := hrel
    by_cases hp : pos < s.size
    · have hne := drop_ne hp
      have hw := decodeL_width (s.data.toList.drop pos)
      have hwl := width_le hp
      obtain ⟨b, rfl⟩ : ∃ c, b = c + 1 := ⟨b - 1, by omega⟩
      have H2 := H.out
      rw [runesD, if_neg hne, List.drop_drop, ← Nat.add_assoc] at H2
      have hg := decodeGo_drop hp
      generalize decodeL (s.data.toList.drop pos) = d at *
      obtain ⟨R, K⟩ := d
      dsimp only at H2 hw hwl
      have H3 := Lib.hid H2
      have HG := Lib.hid hg
      have HE' := Lib.hid (HE.out.below hB)
      clear H2 H hg hne HA
      go_wp2_with fail
      refine (Tryd.utf8_DecodeRuneInString _ _ HE'.out.tabs).mono ?_
      rintro e w1 ⟨rfl, hb1⟩
      rw [HG.out]
      go_wp2
      go_roundw
      case rel => exact ⟨pos + K, b, n + 1, by go_num, by go_num, by omega, by omega, by omega, hB.trans (hb1.mono hB.size), H3⟩
      case measure => simp [RowKit.intOf]; omega
    · have H2 := H.out
      rw [drop_nil hp] at H2
      have hz : runesD b [] = 0 := by cases b <;> simp [runesD]
      rw [hz] at H2
      have H3 := Lib.hid H2
      clear H H2 HA hz
      go_wp2
      go_ret
      exact ⟨ret_int (by have := H3.out; omega), hB⟩

theorem less_irrefl : ∀ a : List UInt8, Op.bytesLess a a = false
  | [] => rfl
  | x :: a => by rw [Op.bytesLess, less_irrefl a]; simp
theorem less_compare : ∀ a b : List UInt8, Lib.compareBytes a b = if Op.bytesLess a b then -1 else if a == b then 0 else 1
  | [], [] => rfl
  | [], _ :: _ => rfl
  | _ :: _, [] => rfl
  | x :: a, y :: b => by
    rw [Lib.compareBytes, Op.bytesLess, less_compare a b]
    by_cases h1 : x < y
    · simp [h1]
    · by_cases h2 : y < x
      · have hne : ¬ x = y := fun e => by subst e; exact h1 h2
        simp [h1, h2, hne]
      · have he : x = y := by
          have g1 : ¬ x.toNat < y.toNat := fun h => h1 (UInt8.lt_iff_toNat_lt.2 h)
          have g2 : ¬ y.toNat < x.toNat := fun h => h2 (UInt8.lt_iff_toNat_lt.2 h)
          exact UInt8.toNat_inj.1 (by omega)
        subst he
        simp

theorem ref_compare (a b : ByteArray) (w : World) :
    Calls Tryd.prog 58 #[.string a, .string b] w fun e w' => e = .returned (.int .i64 (Lib.compareBytes a.data.toList b.data.toList)) ∧ w = w' := by
  have hc := Lib.hid (less_compare a.data.toList b.data.toList)
  rw [← Lib.toList_data a, ← Lib.toList_data b] at hc
  rw [← Lib.toList_data a, ← Lib.toList_data b]
  generalize Lib.compareBytes a.toList b.toList = C at *
  cases h1 : Op.bytesLess a.toList b.toList with
  | true =>
    have H := Lib.hid (hc.out.trans (by rw [h1, if_pos rfl]))
    clear hc
    go_enter Tryd.func58, Tryd.ntmps58
    go_wp2
    go_ret
    exact ⟨ret_int H.out.symm, rfl⟩
  | false =>
    cases h2 : a.toList == b.toList with
    | true =>
      have H := Lib.hid (hc.out.trans (by rw [h1, if_neg (by simp), h2, if_pos rfl]))
      clear hc
      go_enter Tryd.func58, Tryd.ntmps58
      go_wp2
      go_ret
      exact ⟨ret_int H.out.symm, rfl⟩
    | false =>
      have H := Lib.hid (hc.out.trans (by rw [h1, if_neg (by simp), h2, if_neg (by simp)]))
      clear hc
      go_enter Tryd.func58, Tryd.ntmps58
      go_wp2
      go_ret
      exact ⟨ret_int H.out.symm, rfl⟩

/-- At most so many bytes. -/
def shortS (s : ByteArray) : ByteArray := if 300 < s.size then s.extract 0 300 else s
theorem shortS_le (s : ByteArray) : (shortS s).size ≤ 300 := by
  unfold shortS
  split
  · rw [ByteArray.size_extract]; omega
  · omega
end Go.Proofs.YtafbphiedaijmaaDoor
