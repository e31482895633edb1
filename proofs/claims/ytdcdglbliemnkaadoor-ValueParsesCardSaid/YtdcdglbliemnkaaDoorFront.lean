/- word.Front. -/
import Derived.Test.YtdcdglbliemnkaaDoorWordA
namespace Go.Proofs.YtdcdglbliemnkaaDoor
open Go.RowKit Go.Lib

theorem frontD_end {b : Nat} {n : Int} : frontD b [] n = 0 := by cases b <;> simp [frontD]
theorem frontD_stop {b : Nat} {l : List UInt8} {n : Int} (h : n ≤ 0) : frontD b l n = 0 := by cases b <;> simp [frontD, h]
theorem frontD_step {b : Nat} {l : List UInt8} {n : Int} (hl : l ≠ []) (h : ¬ n ≤ 0) : frontD (b + 1) l n = (decodeL l).2 + frontD b (l.drop (decodeL l).2) (n - 1) := by
  rw [frontD, if_neg]; intro e; rcases e with e | e <;> contradiction
theorem width_le {s : ByteArray} {pos : Nat} (h : pos < s.size) : pos + (decodeL (s.data.toList.drop pos)).2 ≤ s.size := by
  have := decodeL_le _ (drop_ne h)
  rw [List.length_drop] at this
  simp at this
  omega

set_option maxHeartbeats 1000000 in
theorem word_front (s : ByteArray) (n : Int) (w : World) (hs : s.size < 4611686018427387904) (hn : -9223372036854775808 ≤ n) (hn' : n ≤ 9223372036854775807) :
    Calls Tryd.prog 19 #[.string s, .int .i64 n] w fun e w' => e = .returned (.string (s.extract 0 (frontN s.data.toList n))) ∧ Below w.heap.size w w' := by
  have hsz : s.data.toList.length = s.size := by simp
  obtain ⟨ANS, hANS⟩ : ∃ a, a = frontN s.data.toList n := ⟨_, rfl⟩
  rw [← hANS]
  have HA := Lib.hid hANS
  have hS := Lib.hid hsz
  clear hANS hsz
  go_enter Tryd.func19, Tryd.ntmps19
  go_wp2
  go_loopw [1] (fun t wr => ∃ (pos b : Nat) (m : Int), wr = w.iter s pos ∧ t = .int .i64 m ∧ m ≤ 9223372036854775807 ∧ -9223372036854775808 ≤ m ∧ pos ≤ s.size ∧ s.size ≤ pos + b ∧ Hid (pos + frontD b (s.data.toList.drop pos) m = ANS)) (fun _ wr => s.size - wr.iterPos w.heap.size)
  case atStart => exact ⟨0, s.size, n, rfl, rfl, hn', hn, by omega, by omega, by rw [HA.out, frontN, hS.out]; exact Lib.hid (Nat.zero_add _)⟩
  case round =>
    obtain ⟨pos, b, m, rfl, rfl, hm', hm, hps, hb, H⟩ := hrel
    by_cases hp : pos < s.size
    · have hne := drop_ne hp
      have hd := decodeL_drop s pos
      have hw := decodeL_width (s.data.toList.drop pos)
      have hwl := width_le hp
      obtain ⟨b, rfl⟩ : ∃ c, b = c + 1 := ⟨b - 1, by omega⟩
      have H2 := H.out
      have hnx : ∀ ty, (Instr.next (.pointer (some ⟨w.heap.size, 0, none⟩)) true ty).run Tryd.prog (w.iter s pos) = _ := fun ty => run_next_any w s pos ty hp
      by_cases hm0 : m ≤ 0
      · rw [frontD_stop hm0] at H2
        have H3 := Lib.hid H2
        clear H2 H hd hne HA
        go_wp2
        go_ret
        exact ⟨by rw [← H3.out]; rfl, below_iter _ _ _⟩
      · rw [frontD_step hne hm0, List.drop_drop, ← Nat.add_assoc] at H2
        rw [hd] at H2 hw hwl
        generalize Utf8.decode s pos = d at *
        obtain ⟨R, K⟩ := d
        dsimp only at H2 hw hnx hwl
        have H3 := Lib.hid H2
        clear H2 H hd hne HA
        go_wp2
        go_roundw
        case rel => exact ⟨pos + K, b, m - 1, rfl, by go_num, by omega, by omega, by omega, by omega, H3⟩
        case measure => simp; omega
    · have hnx : ∀ ty, (Instr.next (.pointer (some ⟨w.heap.size, 0, none⟩)) true ty).run Tryd.prog (w.iter s pos) = _ := fun ty => run_next_end w s pos ty hp
      have H2 := H.out
      rw [drop_nil hp, frontD_end] at H2
      have H3 : Hid (s.extract 0 ANS = s) := Lib.hid (by
        have e : ANS = s.size := by omega
        rw [e]
        apply ByteArray.ext
        apply Array.ext'
        rw [Lib.extract_data]
        simp only [List.drop_zero, Nat.sub_zero]
        exact List.take_of_length_le (by simp))
      clear H H2 HA
      go_wp2
      go_ret
      exact ⟨by rw [H3.out]; rfl, below_iter _ _ _⟩

end Go.Proofs.YtdcdglbliemnkaaDoor
