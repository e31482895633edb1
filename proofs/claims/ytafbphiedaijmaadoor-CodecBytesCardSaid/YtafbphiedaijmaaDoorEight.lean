/- value.eight: a number's bytes. -/
import Derived.Test.YtafbphiedaijmaaDoorWordA
import Derived.Test.YtafbphiedaijmaaDoorRow
import Derived.Deep.QuietTactic
import Derived.BigQuiet
import Derived.Deep.LoopGhost
import Derived.Laws.BitsAllLaws
import Derived.Handy
namespace Go.Proofs.YtafbphiedaijmaaDoor
open Go.RowKit

theorem xor_low (x : Nat) (h : x < 9223372036854775808) : x ^^^ 9223372036854775808 = 9223372036854775808 + x := by
  have e : (9223372036854775808 : Nat) = 2 ^ 63 := by decide
  rw [e] at h ⊢
  apply Nat.eq_of_testBit_eq
  intro i
  rw [Nat.testBit_xor, Nat.testBit_two_pow]
  rcases Nat.lt_trichotomy i 63 with hi | rfl | hi
  · rw [Nat.testBit_two_pow_add_gt hi, decide_eq_false (by omega), Bool.xor_false]
  · rw [Nat.testBit_two_pow_add_eq, decide_eq_true rfl, Bool.xor_true]
  · have hp : 2 ^ 64 ≤ 2 ^ i := Nat.pow_le_pow_right (by decide) hi
    have e64 : (2 : Nat) ^ 64 = 2 ^ 63 + 2 ^ 63 := by decide
    rw [Nat.testBit_lt_two_pow (by omega : 2 ^ 63 + x < 2 ^ i), Nat.testBit_lt_two_pow (by omega : x < 2 ^ i), decide_eq_false (by omega), Bool.xor_false]

/-- A number, the first bit turned. -/
def flipN (n : Int) : Nat := (n + 9223372036854775808).toNat
theorem flip_eq (n : Int) (h1 : -9223372036854775808 ≤ n) (h2 : n ≤ 9223372036854775807) : bits .xor .u64 (IntKind.u64.wrap n) 9223372036854775808 = (flipN n : Int) := by
  unfold flipN
  rcases Int.lt_or_le n 0 with h | h
  · obtain ⟨x, hx⟩ := Int.eq_ofNat_of_zero_le (show 0 ≤ n + 9223372036854775808 by omega)
    rw [IntKind.wrap_u64, show n % 18446744073709551616 = ((9223372036854775808 + x : Nat) : Int) by omega, show (9223372036854775808 : Int) = ((9223372036854775808 : Nat) : Int) from rfl, u64_xor_nat _ _ (by omega) (by omega),
      ← xor_low x (by omega), Nat.xor_assoc, Nat.xor_self, Nat.xor_zero]
    omega
  · obtain ⟨x, rfl⟩ := Int.eq_ofNat_of_zero_le h
    rw [IntKind.wrap_u64, show (x : Int) % 18446744073709551616 = (x : Int) by omega, show (9223372036854775808 : Int) = ((9223372036854775808 : Nat) : Int) from rfl, u64_xor_nat _ _ (by omega) (by omega), xor_low x (by omega)]
    omega
theorem flip_lt (n : Int) (h1 : -9223372036854775808 ≤ n) (h2 : n ≤ 9223372036854775807) : flipN n < 18446744073709551616 := by unfold flipN; omega

def beL (u : Nat) : List UInt8 := [UInt8.ofNat (u / 72057594037927936), UInt8.ofNat (u / 281474976710656), UInt8.ofNat (u / 1099511627776), UInt8.ofNat (u / 4294967296), UInt8.ofNat (u / 16777216), UInt8.ofNat (u / 65536), UInt8.ofNat (u / 256), UInt8.ofNat u]
/-- A number's bytes. -/
def eightL (n : Int) : List UInt8 := beL (flipN n)
theorem beL_cells (u : Nat) (h : u < 18446744073709551616) : (#[Value.int .u8 ((u : Int) / 72057594037927936), .int .u8 ((u : Int) / 281474976710656 % 256), .int .u8 ((u : Int) / 1099511627776 % 256), .int .u8 ((u : Int) / 4294967296 % 256), .int .u8 ((u : Int) / 16777216 % 256), .int .u8 ((u : Int) / 65536 % 256), .int .u8 ((u : Int) / 256 % 256), .int .u8 ((u : Int) % 256)] : Array Value) = (Lib.byteCells (beL u)).toArray := by
  simp only [beL, Lib.byteCells, List.map_cons, List.map_nil, UInt8.toNat_ofNat']
  have e : u / 72057594037927936 % 2 ^ 8 = u / 72057594037927936 := by omega
  rw [e]
  rfl

set_option maxHeartbeats 2000000 in
theorem value_eight (n : Int) (w : World) (h1 : -9223372036854775808 ≤ n) (h2 : n ≤ 9223372036854775807) :
    Calls Tryd.prog 38 #[.int .i64 n] w fun e w' => e = .returned (.agg (Lib.byteCells (eightL n)).toArray) ∧ Below w.heap.size w w' := by
  have hf := flip_eq n h1 h2
  have hl := flip_lt n h1 h2
  have HC := Lib.hid (beL_cells (flipN n) hl)
  unfold eightL
  generalize flipN n = u at *
  generalize hR : (Lib.byteCells (beL u)).toArray = R at *
  clear hR
  go_enter Tryd.func38, Tryd.ntmps38
  go_wp2
  refine wp_loop_rounds 9 ?_
  iterate 9 (rw [rounds_succ]; go_wp2)
  go_returns
  exact ⟨by rw [← HC.out], ((Below.refl _ _).alloc (Nat.le_refl _) _).alloc (by simp) _⟩
end Go.Proofs.YtafbphiedaijmaaDoor
