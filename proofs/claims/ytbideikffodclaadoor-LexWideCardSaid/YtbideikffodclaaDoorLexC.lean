/- lex.Signed, Spaced, next; the reference's. -/
import Derived.Test.YtbideikffodclaaDoorLexB
namespace Go.Proofs.YtbideikffodclaaDoor
open Go.RowKit Go.Lib

def spI (r : Int) : Bool := r == 32 || r == 9 || r == 10 || r == 13
theorem spI_B (c : UInt8) : spI (c.toNat : Int) = spB c := by
  have h : ∀ n : UInt8, ((c.toNat : Int) == (n.toNat : Int)) = (c == n) := fun n => by
    by_cases hc : c = n
    · subst hc; simp
    · have : ¬ c.toNat = n.toNat := fun e => hc (UInt8.toNat_inj.1 e)
      rw [beq_eq_false_iff_ne.2 hc]
      exact beq_eq_false_iff_ne.2 (by omega)
  unfold spI spB
  rw [← h 32, ← h 9, ← h 10, ← h 13]
  rfl

set_option maxHeartbeats 1000000 in
theorem lex_spaced (r : Int) (w : World) :
    Calls Tryd.prog 12 #[.int .i32 r] w fun e w' => e = .returned (.bool (spI r)) ∧ w = w' := by
  by_cases h1 : r = 32
  · subst h1
    go_enter Tryd.func12, Tryd.ntmps12
    go_wp2
    go_ret
    exact ⟨rfl, rfl⟩
  · by_cases h2 : r = 9
    · subst h2
      go_enter Tryd.func12, Tryd.ntmps12
      go_wp2
      go_ret
      exact ⟨rfl, rfl⟩
    · by_cases h3 : r = 10
      · subst h3
        go_enter Tryd.func12, Tryd.ntmps12
        go_wp2
        go_ret
        exact ⟨rfl, rfl⟩
      · by_cases h4 : r = 13
        · subst h4
          go_enter Tryd.func12, Tryd.ntmps12
          go_wp2
          go_ret
          exact ⟨rfl, rfl⟩
        · have k1 : (r == 32) = false := beq_eq_false_iff_ne.2 h1
          have k2 : (r == 9) = false := beq_eq_false_iff_ne.2 h2
          have k3 : (r == 10) = false := beq_eq_false_iff_ne.2 h3
          have k4 : (r == 13) = false := beq_eq_false_iff_ne.2 h4
          have H : Hid (spI r = false) := Lib.hid (by unfold spI; rw [k1, k2, k3, k4]; rfl)
          go_enter Tryd.func12, Tryd.ntmps12
          go_wp2
          go_ret
          exact ⟨ret_bool (by rw [H.out]; try rfl), rfl⟩

set_option maxHeartbeats 1000000 in
theorem ref_spaced (r : Int) (w : World) :
    Calls Tryd.prog 13 #[.int .i32 r] w fun e w' => e = .returned (.bool (spI r)) ∧ w = w' := by
  by_cases h1 : r = 32
  · subst h1
    go_enter Tryd.func13, Tryd.ntmps13
    go_wp2
    go_ret
    exact ⟨rfl, rfl⟩
  · by_cases h2 : r = 9
    · subst h2
      go_enter Tryd.func13, Tryd.ntmps13
      go_wp2
      go_ret
      exact ⟨rfl, rfl⟩
    · by_cases h3 : r = 10
      · subst h3
        go_enter Tryd.func13, Tryd.ntmps13
        go_wp2
        go_ret
        exact ⟨rfl, rfl⟩
      · by_cases h4 : r = 13
        · subst h4
          go_enter Tryd.func13, Tryd.ntmps13
          go_wp2
          go_ret
          exact ⟨rfl, rfl⟩
        · have k1 : (r == 32) = false := beq_eq_false_iff_ne.2 h1
          have k2 : (r == 9) = false := beq_eq_false_iff_ne.2 h2
          have k3 : (r == 10) = false := beq_eq_false_iff_ne.2 h3
          have k4 : (r == 13) = false := beq_eq_false_iff_ne.2 h4
          have H : Hid (spI r = false) := Lib.hid (by unfold spI; rw [k1, k2, k3, k4]; rfl)
          go_enter Tryd.func13, Tryd.ntmps13
          go_wp2
          go_ret
          exact ⟨ret_bool (by rw [H.out]; try rfl), rfl⟩

/-- The sign, from the k-th on. -/
def signAt (l : List UInt8) (k : Nat) : ByteArray := (((signs.drop k).find? fun x : ByteArray => hasPrefix l x.data.toList).getD ⟨#[]⟩)
theorem signAt_step {l : List UInt8} {k : Nat} {x : ByteArray} (h : signs[k]? = some x) : signAt l k = if hasPrefix l x.data.toList = true then x else signAt l (k + 1) := by
  have hk : k < signs.length := by
    by_cases h1 : k < signs.length
    · exact h1
    · rw [List.getElem?_eq_none (by omega)] at h; cases h
  have hx : signs[k] = x := by rw [List.getElem?_eq_getElem hk] at h; exact Option.some.inj h
  unfold signAt
  rw [List.drop_eq_getElem_cons hk, hx, List.find?_cons]
  cases hasPrefix l x.data.toList <;> rfl
theorem signAt_end {l : List UInt8} : signAt l 10 = ⟨#[]⟩ := rfl
theorem signs_len : signs.length = 10 := rfl

theorem index_strs (cs : Array Value) (k : Nat) (x : ByteArray) (hk : k < 10) (hx : cs[k]? = some (.string x)) (W : World) : (Instr.index 38 (.agg cs) (.int .i64 (k : Int))).run Tryd.prog W = .ok (.string x) W := by
  have hk' : (k : Int) < 10 := by omega
  simp [Instr.index, run_underlying Tryd.underlying38, asIntOf, hk', go_sem, part, hx]
  intro h
  omega

set_option maxRecDepth 100000 in
set_option maxHeartbeats 4000000 in
theorem lex_signed (s : ByteArray) (w : World) :
    Calls Tryd.prog 9 #[.string s] w fun e w' => e = .returned (.string (signR s)) ∧ w = w' := by
  obtain ⟨ANS, hANS⟩ : ∃ a, a = signR s := ⟨_, rfl⟩
  rw [← hANS]
  have HA : Hid (signAt s.data.toList 0 = ANS) := Lib.hid hANS.symm
  clear hANS
  go_enter Tryd.func9, Tryd.ntmps9
  go_wp2
  go_loop [6] (fun i => ∃ k : Nat, i = .int .i64 k ∧ k ≤ 10 ∧ Hid (signAt s.data.toList k = ANS)) (fun i => 10 - (RowKit.intOf i).toNat)
  case atStart => exact ⟨0, rfl, by omega, HA⟩
  case round =>
    obtain ⟨k, rfl, hk, H⟩ := hrel
    clear HA
    by_cases h10 : k < 10
    · obtain ⟨x, hx⟩ : ∃ x, signs[k]? = some x := ⟨signs[k]'h10, List.getElem?_eq_getElem h10⟩
      have hs := signAt_step (l := s.data.toList) hx
      rw [H.out] at hs
      have hix : ∀ W, (Instr.index 38 (.agg #[.string ⟨#[60, 61]⟩, .string ⟨#[62, 61]⟩, .string ⟨#[60, 62]⟩, .string ⟨#[40]⟩, .string ⟨#[41]⟩, .string ⟨#[44]⟩, .string ⟨#[61]⟩, .string ⟨#[60]⟩, .string ⟨#[62]⟩, .string ⟨#[42]⟩]) (.int .i64 (k : Int))).run Tryd.prog W = .ok (.string x) W := fun W => index_strs _ k x h10 (by
        show (signs.map Value.string).toArray[k]? = _
        simp [hx]) W
      rcases (show k = 0 ∨ k = 1 ∨ k = 2 ∨ k = 3 ∨ k = 4 ∨ k = 5 ∨ k = 6 ∨ k = 7 ∨ k = 8 ∨ k = 9 by omega) with rfl | rfl | rfl | rfl | rfl | rfl | rfl | rfl | rfl | rfl
      all_goals
        obtain rfl := Option.some.inj hx
        generalize hq : hasPrefix s.data.toList _ = PB at hs
        have HQ := Lib.hid hq
        push_cast at hix
        cases PB with
        | true =>
          rw [if_pos rfl] at hs
          have HS := Lib.hid hs
          clear hs hx hq H
          go_wp2_with fail
          refine (Tryd.strings_HasPrefix _ _ _).mono ?_
          rintro e w' ⟨rfl, rfl⟩
          rw [HQ.out]
          go_wp2
          go_ret
          exact ⟨by rw [HS.out]; rfl, rfl⟩
        | false =>
          rw [if_neg (by simp)] at hs
          have HS := Lib.hid hs.symm
          clear hs hx hq H
          go_wp2_with fail
          refine (Tryd.strings_HasPrefix _ _ _).mono ?_
          rintro e w' ⟨rfl, rfl⟩
          rw [HQ.out]
          go_wp2
          go_round
          case rel => exact ⟨_, by go_num, by omega, HS⟩
          case measure => simp [RowKit.intOf]
    · obtain rfl : k = 10 := by omega
      have HS := Lib.hid H.out
      clear H
      go_wp2
      go_ret
      exact ⟨by rw [← HS.out, signAt_end]; rfl, rfl⟩

set_option maxRecDepth 100000 in
set_option maxHeartbeats 4000000 in
theorem ref_signed (s : ByteArray) (w : World) :
    Calls Tryd.prog 11 #[.string s] w fun e w' => e = .returned (.string (signR s)) ∧ Below w.heap.size w w' := by
  have hb0 : ∀ o, Below w.heap.size w (w.alloc o) := fun o => (Below.refl _ _).alloc (Nat.le_refl _) o
  obtain ⟨ANS, hANS⟩ : ∃ a, a = signR s := ⟨_, rfl⟩
  rw [← hANS]
  have HA : Hid (signAt s.data.toList 0 = ANS) := Lib.hid hANS.symm
  clear hANS
  go_enter Tryd.func11, Tryd.ntmps11
  go_wp2
  go_loop [4] (fun i => ∃ k : Nat, i = .int .i64 k ∧ k ≤ 10 ∧ Hid (signAt s.data.toList k = ANS)) (fun i => 10 - (RowKit.intOf i).toNat)
  case atStart => exact ⟨0, rfl, by omega, HA⟩
  case round =>
    obtain ⟨k, rfl, hk, H⟩ := hrel
    clear HA
    by_cases h10 : k < 10
    · obtain ⟨x, hx⟩ : ∃ x, signs[k]? = some x := ⟨signs[k]'h10, List.getElem?_eq_getElem h10⟩
      have hs := signAt_step (l := s.data.toList) hx
      rw [H.out] at hs
      rcases (show k = 0 ∨ k = 1 ∨ k = 2 ∨ k = 3 ∨ k = 4 ∨ k = 5 ∨ k = 6 ∨ k = 7 ∨ k = 8 ∨ k = 9 by omega) with rfl | rfl | rfl | rfl | rfl | rfl | rfl | rfl | rfl | rfl
      all_goals
        obtain rfl := Option.some.inj hx
        generalize hq : hasPrefix s.data.toList _ = PB at hs
        have HQ := Lib.hid hq
        cases PB with
        | true =>
          rw [if_pos rfl] at hs
          have HS := Lib.hid hs
          clear hs hx hq H
          go_wp2_with fail
          refine (Tryd.strings_HasPrefix _ _ _).mono ?_
          rintro e w' ⟨rfl, rfl⟩
          rw [HQ.out]
          go_wp2
          go_ret
          exact ⟨by rw [HS.out]; rfl, hb0 _⟩
        | false =>
          rw [if_neg (by simp)] at hs
          have HS := Lib.hid hs.symm
          clear hs hx hq H
          go_wp2_with fail
          refine (Tryd.strings_HasPrefix _ _ _).mono ?_
          rintro e w' ⟨rfl, rfl⟩
          rw [HQ.out]
          go_wp2
          go_round
          case rel => exact ⟨_, by go_num, by omega, HS⟩
          case measure => simp [RowKit.intOf]
    · obtain rfl : k = 10 := by omega
      have HS := Lib.hid H.out
      clear H
      go_wp2
      go_ret
      exact ⟨by rw [← HS.out, signAt_end]; rfl, hb0 _⟩
end Go.Proofs.YtbideikffodclaaDoor
