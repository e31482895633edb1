/- word.Right, word.Len, word.Front: ranges over a string. -/
import Derived.Test.YtafbphiedaijmaaDoorProg
import Derived.Test.YtafbphiedaijmaaDoorShelf
import Derived.Test.YtafbphiedaijmaaDoorWordS
import Derived.Laws.RangeAny
import Derived.Lib.IndexBytes
import Derived.WalkKit
import Derived.WalkLawsBesides
import Derived.WalkSpells
import Derived.Outline
import Derived.Lib.Hide
namespace Go.Proofs.YtafbphiedaijmaaDoor
open Go.RowKit Go.Lib

theorem ret_int {k : IntKind} {a b : Int} (h : a = b) : Ending.returned (.int k a) = .returned (.int k b) := by rw [h]
theorem ret_bool {a b : Bool} (h : a = b) : Ending.returned (.bool a) = .returned (.bool b) := by rw [h]
theorem below_iter (w : World) (s : ByteArray) (pos : Nat) : Below w.heap.size w (w.iter s pos) := (Below.refl _ _).alloc (Nat.le_refl _) _

theorem drop_ne {s : ByteArray} {pos : Nat} (h : pos < s.size) : s.data.toList.drop pos ≠ [] := by
  intro e
  have := congrArg List.length e
  rw [List.length_drop] at this
  have hs : s.data.toList.length = s.size := by simp
  simp at this
  omega
theorem drop_nil {s : ByteArray} {pos : Nat} (h : ¬ pos < s.size) : s.data.toList.drop pos = [] := by
  apply List.drop_of_length_le
  have hs : s.data.toList.length = s.size := by simp
  omega

theorem drop_cons {s : ByteArray} {i : Nat} (h : i < s.size) : s.data.toList.drop i = s[i] :: s.data.toList.drop (i + 1) := by
  have hs : i < s.data.toList.length := by simpa using h
  rw [List.drop_eq_getElem_cons hs]
  rfl
theorem take_succ_at {s : ByteArray} {i : Nat} (h : i < s.size) : s.data.toList.take (i + 1) = s.data.toList.take i ++ [s[i]] := by
  have hs : i < s.data.toList.length := by simpa using h
  rw [List.take_add_one, List.getElem?_eq_getElem hs]
  rfl
theorem u8_eq {c : UInt8} {n : Nat} (h : c.toNat = n) : c = UInt8.ofNat n := by subst h; simp

set_option maxHeartbeats 1000000 in
theorem word_right (s : ByteArray) (w : World) :
    Calls Tryd.prog 43 #[.string s] w fun e w' => e = .returned (.bool (rightL s.data.toList)) ∧ Below w.heap.size w w' := by
  have hsz : s.data.toList.length = s.size := by simp
  obtain ⟨ANS, hANS⟩ : ∃ a, a = rightL s.data.toList := ⟨_, rfl⟩
  rw [← hANS]
  have HA := Lib.hid hANS
  have hS := Lib.hid hsz
  clear hANS hsz
  go_enter Tryd.func43, Tryd.ntmps43
  go_wp2
  go_loopw [3] (fun t wr => ∃ pos b n : Nat, wr = w.iter s pos ∧ t = .int .i64 n ∧ n ≤ 8 ∧ s.size ≤ pos + b ∧ Hid (rightD b (s.data.toList.drop pos) n = ANS)) (fun _ wr => s.size - wr.iterPos w.heap.size)
  case atStart => exact ⟨0, s.size, 0, rfl, rfl, by omega, by omega, by rw [HA.out, rightL, hS.out]; exact Lib.hid rfl⟩
  case round =>
    obtain ⟨pos, b, n, rfl, rfl, hn, hb, H⟩ := hrel
    by_cases hp : pos < s.size
    · have hne := drop_ne hp
      have hd := decodeL_drop s pos
      have hw := decodeL_width (s.data.toList.drop pos)
      obtain ⟨b, rfl⟩ : ∃ c, b = c + 1 := ⟨b - 1, by omega⟩
      have H2 := H.out
      rw [rightD_step hne, hd] at H2
      rw [hd] at hw
      have hnx : ∀ ty, (Instr.next (.pointer (some ⟨w.heap.size, 0, none⟩)) true ty).run Tryd.prog (w.iter s pos) = _ := fun ty => run_next_any w s pos ty hp
      have hx := Lib.extract_to_end s pos
      generalize Utf8.decode s pos = d at *
      obtain ⟨R, K⟩ := d
      obtain ⟨PB, hPB⟩ : ∃ b, hasPrefix (s.data.toList.drop pos) [239, 191, 189] = b := ⟨_, rfl⟩
      have hq : hasPrefix (s.extract pos s.size).data.toList (ByteArray.mk #[239, 191, 189]).data.toList = PB := by rw [hx]; exact hPB
      rw [hPB] at H2
      have HQ := Lib.hid hq
      clear hq hPB hx hd hne HA H
      dsimp only at H2 hw hnx
      rw [List.drop_drop] at H2
      by_cases h1 : R = 65533
      · subst h1
        cases PB with
        | false =>
          rw [if_pos ⟨rfl, rfl⟩] at H2
          have H3 := Lib.hid H2
          clear H2
          go_wp2_with fail
          refine (Tryd.strings_HasPrefix _ _ _).mono ?_
          rintro e w' ⟨rfl, rfl⟩
          rw [HQ.out]
          go_wp2
          go_ret
          exact ⟨ret_bool H3.out, below_iter _ _ _⟩
        | true =>
          rw [if_neg (by simp), if_neg (by omega)] at H2
          by_cases h8 : 8 < n + 1
          · rw [if_pos h8] at H2
            have H3 := Lib.hid H2
            clear H2
            go_wp2_with fail
            refine (Tryd.strings_HasPrefix _ _ _).mono ?_
            rintro e w' ⟨rfl, rfl⟩
            rw [HQ.out]
            go_wp2
            go_ret
            exact ⟨ret_bool H3.out, below_iter _ _ _⟩
          · rw [if_neg h8] at H2
            have H3 := Lib.hid H2
            clear H2
            go_wp2_with fail
            refine (Tryd.strings_HasPrefix _ _ _).mono ?_
            rintro e w' ⟨rfl, rfl⟩
            rw [HQ.out]
            go_wp2
            go_roundw
            case rel => exact ⟨pos + K, b, n + 1, rfl, by go_num, by omega, by omega, H3⟩
            case measure => simp; omega
      · rw [if_neg (fun h => h1 h.1)] at H2
        by_cases h2 : R < 32 ∨ R = 127
        · rw [if_pos h2] at H2
          have H3 := Lib.hid H2
          clear H2
          rcases h2 with h2 | rfl
          · go_wp2
            go_ret
            exact ⟨ret_bool H3.out, below_iter _ _ _⟩
          · go_wp2
            go_ret
            exact ⟨ret_bool H3.out, below_iter _ _ _⟩
        · rw [if_neg h2] at H2
          have h3 : ¬ R < 32 := fun h => h2 (.inl h)
          have h4 : ¬ R = 127 := fun h => h2 (.inr h)
          have h4' : ((R : Int) == 127) = false := beq_eq_false_iff_ne.2 (by omega)
          have h3' : decide ((R : Int) < 32) = false := by simp; omega
          have h1' : ((R : Int) == 65533) = false := beq_eq_false_iff_ne.2 (by omega)
          by_cases h8 : 8 < n + 1
          · rw [if_pos h8] at H2
            have H3 := Lib.hid H2
            clear H2 h2
            go_wp2
            all_goals
              go_ret
              exact ⟨ret_bool H3.out, below_iter _ _ _⟩
          · rw [if_neg h8] at H2
            have H3 := Lib.hid H2
            clear H2 h2
            go_wp2
            go_roundw
            case rel => exact ⟨pos + K, b, n + 1, rfl, by go_num, by omega, by omega, H3⟩
            case measure => simp; omega
    · have hnx : ∀ ty, (Instr.next (.pointer (some ⟨w.heap.size, 0, none⟩)) true ty).run Tryd.prog (w.iter s pos) = _ := fun ty => run_next_end w s pos ty hp
      have H2 := H.out
      rw [drop_nil hp, rightD_nil] at H2
      have H3 := Lib.hid H2
      clear H H2 HA
      go_wp2
      go_ret
      exact ⟨ret_bool H3.out, below_iter _ _ _⟩

end Go.Proofs.YtafbphiedaijmaaDoor
