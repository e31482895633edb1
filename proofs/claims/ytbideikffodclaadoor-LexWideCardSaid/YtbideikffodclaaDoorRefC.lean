/- The reference's Right, Bytes of a value. -/
import Derived.Test.YtbideikffodclaaDoorRefA
import Derived.Test.YtbideikffodclaaDoorVOrder
import Derived.Test.YtbideikffodclaaDoorDigW
namespace Go.Proofs.YtbideikffodclaaDoor
open Go.RowKit Go.Lib

set_option maxHeartbeats 1000000 in
theorem ref3_right (k n : Int) (s : ByteArray) (w : World) (hs : s.size ≤ 9223372036854775807) (hE : Env w) :
    Calls Tryd.prog 44 #[.agg #[.int .u8 k, .int .i64 n, .string s]] w fun e w' => e = .returned (.bool (valB k n s)) ∧ Below w.heap.size w w' := by
  have hb0 : ∀ o, Below w.heap.size w (w.alloc o) := fun o => (Below.refl _ _).alloc (Nat.le_refl _) o
  have HE := Lib.hid hE
  by_cases h1 : k = 1
  · subst h1
    have H : Hid (valB 1 n s = s.toList.isEmpty) := Lib.hid rfl
    go_enter Tryd.func44, Tryd.ntmps44
    go_wp2
    go_ret
    exact ⟨ret_bool H.out.symm, hb0 _⟩
  · by_cases h2 : k = 2
    · subst h2
      by_cases hn : n = 0
      · subst hn
        have H : Hid (valB 2 0 s = rightL s.data.toList) := Lib.hid (by unfold valB; rw [if_neg (by decide), if_pos rfl]; simp)
        go_enter Tryd.func44, Tryd.ntmps44
        go_wp2_with fail
        refine (ref_right _ _ hs (HE.out.below (hb0 _))).mono ?_
        rintro e w1 ⟨rfl, hb1⟩
        go_wp2
        go_ret
        exact ⟨ret_bool H.out.symm, keepS' (hb0 _) hb1⟩
      · have hn' : (n == 0) = false := beq_eq_false_iff_ne.2 hn
        have H : Hid (valB 2 n s = false) := Lib.hid (by unfold valB; rw [if_neg (by decide), if_pos rfl, hn']; rfl)
        clear hn
        go_enter Tryd.func44, Tryd.ntmps44
        go_wp2
        go_ret
        exact ⟨ret_bool H.out.symm, hb0 _⟩
    · have e1 : (k == 1) = false := beq_eq_false_iff_ne.2 h1
      have e2 : (k == 2) = false := beq_eq_false_iff_ne.2 h2
      have H : Hid (valB k n s = false) := Lib.hid (by unfold valB; rw [if_neg h1, if_neg h2])
      go_enter Tryd.func44, Tryd.ntmps44
      go_wp2
      go_ret
      exact ⟨ret_bool H.out.symm, hb0 _⟩

theorem flip_add (n : Int) (h1 : -9223372036854775808 ≤ n) (h2 : n ≤ 9223372036854775807) : IntKind.u64.wrap (IntKind.u64.wrap n + 9223372036854775808) = (flipN n : Int) := by
  unfold flipN
  rw [IntKind.wrap_u64, IntKind.wrap_u64]
  omega

theorem beL_at (u : Nat) (_ : u < 18446744073709551616) (l : List UInt8) : ∀ k, k < 8 → ∀ x : Int, x = (u : Int) / (256 ^ (7 - k) : Nat) % 256 → Lib.byteCells (l ++ (beL u).take k) ++ [.int .u8 x] = Lib.byteCells (l ++ (beL u).take (k + 1)) := by
  intro k hk x hx
  subst hx
  have hc : ∀ c : UInt8, (beL u)[k]? = some c → ((u : Int) / (256 ^ (7 - k) : Nat) % 256) = c.toNat → Lib.byteCells (l ++ (beL u).take k) ++ [.int .u8 ((u : Int) / (256 ^ (7 - k) : Nat) % 256)] = Lib.byteCells (l ++ (beL u).take (k + 1)) := by
    intro c h1 h2
    rw [List.take_add_one, h1, h2]
    simp [Lib.byteCells]
  rcases (show k = 0 ∨ k = 1 ∨ k = 2 ∨ k = 3 ∨ k = 4 ∨ k = 5 ∨ k = 6 ∨ k = 7 by omega) with rfl | rfl | rfl | rfl | rfl | rfl | rfl | rfl
  all_goals
    refine hc _ rfl ?_
    rw [UInt8.toNat_ofNat']
    simp only [Nat.reduceSub, Nat.reducePow]
    omega

theorem own_snoc8 {u : Nat} (h : u < 18446744073709551616) {B : Nat} {w : World} {v : Value} {k : Nat} {x : Int} (hk : k < 8) (hx : x = (u : Int) / (256 ^ (7 - k) : Nat) % 256)
    (hown : w.ownsRow B 5 1 v (([1] ++ (beL u).take k).length + 1) (Lib.byteCells ([1] ++ (beL u).take k) ++ [.int .u8 x])) : OwnB B w v ([1] ++ (beL u).take (k + 1)) := by
  unfold OwnB
  rw [← beL_at u h [1] k hk x hx]
  have hl : (beL u).length = 8 := rfl
  have e : ([1] ++ (beL u).take (k + 1)).length = ([1] ++ (beL u).take k).length + 1 := by
    simp only [List.length_append, List.length_take, hl]
    omega
  rw [e]
  exact hown

end Go.Proofs.YtbideikffodclaaDoor
