/- What must be of a disk, whatever is asked. -/
import Derived.Test.YtaledjcbblgmeaaDkQ
namespace Go.Proofs.Ytaledjcbblgmeaa
open Go.RowKit

def L0 : Dk := Dk.new 2
def L1 : Dk := L0.write 0 [7]
def L2 : Dk := L1.crash []
def L3 : Dk := L2.cut 1
def L4 : Dk := L3.write 1 [9]
def L5 : Dk := L4.write 1 []
def L6 : Dk := L5.crash [true]
theorem Sl.first {w : World} {v : Value} {s : Sec} {c : UInt8} (h : SlU w v s.l) (hc : s.l[0]? = some c) : ∃ g o k, v = .slice (some ⟨g, o, none⟩) 64 k ∧ 64 ≤ k ∧ g < w.heap.size ∧ w.cell? ⟨g, o, none⟩ = some (.int .u8 c.toNat) := by
  obtain ⟨A, k, rfl⟩ := h.slice
  have hk := h.len.2
  obtain ⟨g, o, rfl, hg, hcell⟩ := h.at_ hc
  have := hcell 0 _ rfl
  simp only [Nat.add_zero, Nat.zero_mul] at this
  rw [s.h] at hk
  exact ⟨g, o, k, by rw [s.h], hk, hg, this⟩
set_option maxRecDepth 100000 in
set_option maxHeartbeats 4000000 in
theorem live5 (w : World) : Calls Try.prog 16 #[] w fun e w' => e = .returned (.bool true) ∧ Below w.heap.size w w' := by
  go_enter Try.func16, Try.ntmps16
  go_wp2_with fail
  refine (disk_New 2 w (by omega) (by omega)).mono ?_
  rintro e w1 ⟨g, F0, rfl, h1, b1⟩
  have s2 := Sl.new w1 5 [(7 : UInt8)] u8E_length #[.int .u8 7] rfl 1 rfl
  have qa : Below w1.heap.size w1 (w1.alloc (.cells #[.int .u8 7] 5)) := (Below.refl _ _).alloc (Nat.le_refl _) _
  have h2 := h1.below qa
  have HB1 := Lib.hid (And.intro (fun i hi => (h1.lt i hi).2) (b1.trans (qa.mono b1.size)))
  have HH := Lib.hid (And.intro s2 h2)
  have hz1 := b1.size
  clear s2 qa h1 b1 h2
  go_wp2_with fail
  refine (disk_Write w.heap.size g L0 F0 0 [7] _ 1 1 _ HH.out.2 HH.out.1 (fun _ k o hk hf => by cases hk; have := HB1.out.1 _ hf; omega) HB1.out.2.size (by decide)).mono ?_
  rintro e w3 ⟨rfl, F1, h3, u3⟩
  rw [show L0.writeE 0 [7] = 0 by decide +kernel]
  have q3 : Below w.heap.size w w3 := Mod.below HB1.out.2 u3.1 (fun i hi => (HH.out.2.lt i hi).1) HB1.out.2.size
  have H3 := Lib.hid (And.intro h3 q3)
  clear h3 u3 q3 HH HB1
  go_wp2_with fail
  refine (disk_Crash w.heap.size g L1 F1 [] none 0 0 w3 H3.out.1 (Sl.nil _ _ _) (fun h => by simp at h) (by decide +kernel)).mono ?_
  rintro e w4 ⟨rfl, F2, h4, u4⟩
  have q4 : Below w.heap.size w w4 := Mod.below H3.out.2 u4.1 (fun i hi => (H3.out.1.lt i hi).1) H3.out.2.size
  have H4 := Lib.hid (And.intro h4 q4)
  clear h4 u4 q4 H3
  go_wp2_with fail
  refine (disk_Read w.heap.size g L2 F2 0 w4 H4.out.1 rfl (by decide +kernel) (by decide +kernel)).mono ?_
  rintro e w5 ⟨v5, rfl, hv5, b5, fr5⟩
  obtain ⟨g5, o5, k5, rfl, hk5, hg5, c5⟩ := hv5.first (c := 0) (by decide +kernel)
  have q5 : Below w.heap.size w w5 := H4.out.2.trans (b5.mono H4.out.2.size)
  have h5 := H4.out.1.below b5
  have n5 : ¬ F2 g5 := fun hf => by have := fr5 g5 o5 _ _ rfl; have := (H4.out.1.lt g5 hf).2; omega
  have H5 := Lib.hid (And.intro h5 (And.intro q5 c5))
  clear hv5 b5 q5 h5 H4 c5 fr5
  go_wp2_with fail
  refine (disk_Cut w.heap.size g L2 F2 1 w5 H5.out.1 (by decide)).mono ?_
  rintro e w6 ⟨rfl, h6, u6⟩
  have s6 := Sl.new w6 5 [(9 : UInt8)] u8E_length #[.int .u8 9] rfl 1 rfl
  have qa : Below w6.heap.size w6 (w6.alloc (.cells #[.int .u8 9] 5)) := (Below.refl _ _).alloc (Nat.le_refl _) _
  have h6a := h6.below qa
  have H6 := Lib.hid (And.intro s6 (And.intro h6a (And.intro (u6.below qa) (fun i hi => (h6.lt i hi).2))))
  have z6 : w.heap.size ≤ (w6.alloc (.cells #[.int .u8 9] 5)).heap.size := Nat.le_trans H5.out.2.1.size H6.out.2.2.1.1.size
  have HZ6 := Lib.hid z6
  clear s6 qa h6 h6a u6 z6
  go_wp2_with fail
  refine (disk_Write w.heap.size g L3 F2 1 [9] _ 1 1 _ H6.out.2.1 H6.out.1 (fun _ k o hk hf => by cases hk; have := H6.out.2.2.2 _ hf; omega) HZ6.out (by decide +kernel)).mono ?_
  rintro e w7 ⟨rfl, F3, h7, u7⟩
  rw [show L3.writeE 1 [9] = 0 by decide +kernel]
  have z7 := Nat.le_trans HZ6.out u7.1.size
  have H7 := Lib.hid (And.intro h7 (H6.out.2.2.1.trans u7))
  have HZ7 := Lib.hid z7
  clear h7 u7 H6 HZ6 z7
  go_wp2_with fail
  refine (disk_Write w.heap.size g L4 F3 1 [] none 0 0 w7 H7.out.1 (Sl.nil _ _ _) (fun h => by simp at h) HZ7.out (by decide +kernel)).mono ?_
  rintro e w8 ⟨rfl, F4, h8, u8⟩
  rw [show L4.writeE 1 [] = 7 by decide +kernel]
  have H8 := Lib.hid (And.intro h8 (H7.out.2.trans u8))
  have HZ8 := Lib.hid (Nat.le_trans HZ7.out u8.1.size)
  clear h8 u8 H7 HZ7
  go_wp2_with fail
  refine (disk_Off w.heap.size g L5 F4 w8 H8.out.1).mono ?_
  rintro e w' ⟨rfl, rfl⟩
  rw [show L5.off = true by decide +kernel]
  have s8 := Sl.new w8 4 [true] boE_length #[.bool true] rfl 1 rfl
  have qa : Below w8.heap.size w8 (w8.alloc (.cells #[.bool true] 4)) := (Below.refl _ _).alloc (Nat.le_refl _) _
  have H9 := Lib.hid (And.intro s8 (And.intro (H8.out.1.below qa) (And.intro (H8.out.2.below qa) (fun i hi => (H8.out.1.lt i hi).2))))
  clear s8 qa H8
  go_wp2_with fail
  refine (disk_Crash w.heap.size g L5 F4 [true] _ 1 1 _ H9.out.2.1 H9.out.1 (fun _ k o hk hf => by cases hk; have := H9.out.2.2.2 _ hf; omega) (by decide +kernel)).mono ?_
  rintro e w10 ⟨rfl, F5, h10, u10⟩
  have H10 := Lib.hid (And.intro h10 (H9.out.2.2.1.trans u10))
  clear h10 u10 H9 HZ8
  go_wp2_with fail
  refine (disk_Read w.heap.size g L6 F5 1 w10 H10.out.1 (by decide +kernel) (by decide +kernel) (by decide +kernel)).mono ?_
  rintro e w11 ⟨v11, rfl, hv11, b11, fr11⟩
  obtain ⟨g11, o11, k11, rfl, hk11, hg11, c11⟩ := hv11.first (c := 9) (by decide +kernel)
  have U := H10.out.2.below b11
  have c5' : w11.cell? ⟨g5, o5, none⟩ = some (.int .u8 0) := (U.1.cell (p := ⟨g5, o5, none⟩) hg5 n5).trans H5.out.2.2
  have q11 : Below w.heap.size w w11 := Mod.below H5.out.2.1 U.1 (fun i hi => (H5.out.1.lt i hi).1) H5.out.2.1.size
  have HQ := Lib.hid q11
  clear q11 U hv11 b11 fr11 H10 H5 n5
  go_wp2
  go_ret
  exact ⟨rfl, HQ.out⟩
end Go.Proofs.Ytaledjcbblgmeaa
