/- value.Digits, value.digits. -/
import Derived.Test.YtdcdglbliemnkaaDoorProg
import Derived.Test.YtdcdglbliemnkaaDoorDig
import Derived.Below
import Derived.Laws.OwnMore
import Derived.Deep.Draws
import Derived.Laws.Rows
import Derived.Laws.BytesString
import Derived.WalkKit
import Derived.WalkLawsBesides
import Derived.WalkSpells
import Derived.Outline
import Derived.Lib.Hide
namespace Go.Proofs.YtdcdglbliemnkaaDoor
open Go.RowKit Go.Lib

/-- A block known whole. -/
def Blk (w : World) (g : Nat) (t : TypeId) (cs : Array Value) : Prop := w.heap[g]? = some (.cells cs t (0, 0))
section
variable {w w' : World} {g : Nat} {t : TypeId} {cs : Array Value}
theorem Blk.lt (h : Blk w g t cs) : g < w.heap.size := by
  rcases Nat.lt_or_ge g w.heap.size with hlt | hge
  · exact hlt
  · unfold Blk at h; rw [Array.getElem?_eq_none hge] at h; cases h
theorem Blk.cell (h : Blk w g t cs) (i : Nat) : w.cell? ⟨g, i, none⟩ = cs[i]? := cell_of_row w g i cs t (0, 0) h
theorem Blk.frozen (h : Blk w g t cs) (i : Nat) : w.frozen? ⟨g, i, none⟩ = false := by
  unfold Blk at h
  simp [World.frozen?, h]
theorem Blk.new (w : World) (t : TypeId) (cs : Array Value) : Blk (w.alloc (.cells cs t)) w.heap.size t cs := heap_alloc_new w _
theorem Blk.drewN (h : Blk w g t cs) (n : Nat) : Blk (w.drewN n) g t cs := h
theorem Blk.alloc (h : Blk w g t cs) (o : Obj) : Blk (w.alloc o) g t cs := (Below.heap_alloc w o g h.lt).trans h
theorem Blk.set_ (h : Blk w g t cs) (i : Nat) (u : Value) : Blk (w.setCell ⟨g, i, none⟩ u) g t (cs.setIfInBounds i u) := by
  unfold Blk at h ⊢
  simp [World.setCell, Array.getElem?_modify, h]
theorem Blk.far (h : Blk w g t cs) {p : Addr} (hp : g ≠ p.block) (u : Value) : Blk (w.setCell p u) g t cs := (Below.heap_setCell w p u g hp).trans h
theorem Blk.below {B : Nat} (h : Blk w g t cs) (hb : Below B w w') (hg : g < B) : Blk w' g t cs := (hb.block g hg).trans h
theorem Blk.grown {row : Option Nat} (h : Blk w g t cs) (hb : w.grownBy w' row) (hg : some g ≠ row) : Blk w' g t cs := (hb.block g h.lt hg).trans h
end
theorem addr_off (g i j : Nat) : (⟨g, i, none⟩ : Addr).add j = ⟨g, i + j, none⟩ := by unfold Addr.add; split <;> simp_all

theorem digL_snoc (u : Nat) : digL u = (if u < 10 then [] else digL (u / 10)) ++ [UInt8.ofNat (48 + u % 10)] := by
  by_cases h : u < 10
  · rw [digL_small h, if_pos h, Nat.mod_eq_of_lt h]; rfl
  · rw [digL_big h, if_neg h]

/-- The room of a number's digits, from a place on. -/
def Room (C : Array Value) (a : Nat) (D : List UInt8) : Prop := C.size = 20 ∧ a + D.length = 20 ∧ ∀ j x, D[j]? = some x → C[a + j]? = some (.int .u8 x.toNat)
theorem Room.put {C : Array Value} {a : Nat} {D : List UInt8} (h : Room C (a + 1) D) (c : UInt8) : Room (C.setIfInBounds a (.int .u8 c.toNat)) a (c :: D) := by
  obtain ⟨h1, h2, h3⟩ := h
  refine ⟨by simpa using h1, by simp; omega, fun j x hj => ?_⟩
  cases j with
  | zero =>
    simp only [List.getElem?_cons_zero, Option.some.injEq] at hj
    subst hj
    rw [Nat.add_zero, Array.getElem?_setIfInBounds_self_of_lt (by omega)]
  | succ j =>
    simp only [List.getElem?_cons_succ] at hj
    rw [Array.getElem?_setIfInBounds_ne (by omega), show a + (j + 1) = a + 1 + j by omega]
    exact h3 j x hj

theorem conv_digits (w : World) (g a : Nat) (C : Array Value) (D : List UInt8) (t : TypeId) (hB : Blk w g t C) (h : Room C a D) (n : Nat) (hn : n = D.length) : (convert 39 9 (.slice (some ⟨g, a, none⟩) n n)).run Tryd.prog w = .ok (.string ⟨D.toArray⟩) w := by
  subst hn
  refine run_convert_bytes_back _ _ _ 5 ⟨g, a, none⟩ _ D Tryd.underlying39 Tryd.underlying5 Tryd.underlying9 ?_
  intro j hj
  rw [addr_off, hB.cell, h.2.2 j _ (List.getElem?_eq_getElem hj)]

theorem slice_room (g b : Nat) (h : b < 20) (W : World) : (Instr.sliceAt 83 (.pointer (some ⟨g, 0, none⟩)) (some (.int .i64 (b : Int))) none none).run Tryd.prog W = .ok (.slice (some ⟨g, b, none⟩) (20 - b) (20 - b)) W := by
  have hl : Tryd.prog.arrayLen 83 = 20 := by kernel_rfl
  have he : Tryd.prog.elem 83 = 5 := by kernel_rfl
  obtain ⟨i0, hi, hz0, hz1, hz2⟩ := info_parts (show (Tryd.prog.info? 5).map (fun i => (i.zero, i.size, i.bytes)) = some (some (.int .u8 0), 1, 1) by kernel_rfl)
  rw [run_sliceAt_array_l W 83 ⟨g, 0, none⟩ (by rw [hl, he]; exact Tryd.underlying83) .i64 (b : Int) (by omega) (by rw [hl]; omega), he, hl]
  simp [sizeOf, typeInfo, hi, hz1, slicedAt, addr_off, show ¬ 20 = b by omega]

set_option maxRecDepth 100000 in
set_option maxHeartbeats 2000000 in
theorem value_Digits (n : Int) (w : World) (h1 : -9223372036854775808 ≤ n) (h2 : n ≤ 9223372036854775807) :
    Calls Tryd.prog 48 #[.int .i64 n] w fun e w' => e = .returned (.string ⟨(decL n).toArray⟩) ∧ Below w.heap.size w w' := by
  obtain ⟨U, hU⟩ : ∃ U : Nat, U = n.natAbs := ⟨_, rfl⟩
  have hU2 : U ≤ 9223372036854775808 := by omega
  have hlen := digL_length U 19 (by omega) (by omega)
  by_cases hn : n < 0
  · have HD : Hid (decL n = 45 :: digL U) := Lib.hid (by rw [decL, if_pos hn, hU])
    obtain rfl : n = -(U : Int) := by omega
    obtain ⟨V, hV⟩ : ∃ V : Int, V = 18446744073709551616 - U := ⟨_, rfl⟩
    have a1 : IntKind.u64.wrap (-(U : Int)) = V := by rw [IntKind.wrap_u64]; omega
    have a2 : IntKind.u64.wrap (-V) = (U : Int) := by rw [IntKind.wrap_u64]; omega
    have hn' : decide (-(U : Int) < 0) = true := by simpa using hn
    clear hU hV
    go_enter Tryd.func48, Tryd.ntmps48
    go_wp2
    go_loopw [4, 5] (fun u t wr => ∃ (a y : Nat) (D : List UInt8) (C : Array Value), u = .int .u64 y ∧ t = .int .i64 a ∧ y ≤ U ∧ wr = w.alloc (.cells C 83) ∧ Room C a D ∧ Hid (digL U = digL y ++ D)) (fun u _ _ => (RowKit.intOf u).toNat)
    case atStart => exact ⟨20, U, [], _, rfl, rfl, by omega, rfl, ⟨rfl, rfl, fun j x hj => by cases hj⟩, Lib.hid (by simp)⟩
    case round =>
      obtain ⟨a, y, D, C, rfl, rfl, hy, rfl, hR, H⟩ := hrel
      have H2 := H.out
      have hl := congrArg List.length H2
      rw [List.length_append] at hl
      have hl1 : 1 ≤ (digL y).length := List.length_pos_iff.2 (digL_facts y).2.2.1
      have hsz := hR.2.1
      obtain ⟨b, rfl⟩ : ∃ b, a = b + 1 := ⟨a - 1, by omega⟩
      have hb : b < 20 := by omega
      have HR := Lib.hid hR
      obtain ⟨c0, hc0⟩ : ∃ c, C[b]? = some c := ⟨C[b]'(by rw [hR.1]; omega), Array.getElem?_eq_getElem _⟩
      have HB := Blk.new w 83 C
      have x0 : (w.alloc (.cells C 83)).cell? ⟨w.heap.size, b, none⟩ = some c0 := by rw [HB.cell]; exact hc0
      clear hl hl1 hsz hR hc0 HB
      have hs := digL_snoc y
      have hcc : (UInt8.ofNat (48 + y % 10)).toNat = 48 + y % 10 := digC _ (by omega)
      generalize UInt8.ofNat (48 + y % 10) = c at *
      have hci : (48 + (y : Int) % 10) = (c.toNat : Int) := by omega
      by_cases h10 : y < 10
      · have e0 : ((y : Int) / 10 == 0) = true := by simp; omega
        rw [if_pos h10] at hs
        have HF : Hid (digL U = c :: D) := Lib.hid (by rw [H2, hs]; rfl)
        have HP := Lib.hid (HR.out.put c)
        have hd9 : 1 ≤ b := by
          have h2 := HP.out.2.1
          have h3 := congrArg List.length HF.out
          simp only [List.length_cons] at h2 h3
          omega
        obtain ⟨q, rfl⟩ : ∃ q, b = q + 1 := ⟨b - 1, by omega⟩
        have HQ := Lib.hid (HP.out.put 45)
        have hsl := slice_room w.heap.size q (by omega)
        have hcv := (conv_digits (w.alloc (.cells ((C.setIfInBounds (q + 1) (.int .u8 c.toNat)).setIfInBounds q (.int .u8 45)) 83)) w.heap.size q _ (45 :: c :: D) _ (Blk.new w 83 _) HQ.out) (20 - q) (by have := HQ.out.2.1; omega)
        obtain ⟨c1, hc1⟩ : ∃ c1, (C.setIfInBounds (q + 1) (.int .u8 c.toNat))[q]? = some c1 := ⟨(C.setIfInBounds (q + 1) (.int .u8 c.toNat))[q]'(by have := HP.out.1; omega), Array.getElem?_eq_getElem _⟩
        have x1 : (w.alloc (.cells (C.setIfInBounds (q + 1) (.int .u8 c.toNat)) 83)).cell? ⟨w.heap.size, q, none⟩ = some c1 := by rw [(Blk.new w 83 _).cell]; exact hc1
        clear hc1 hd9
        clear hs H2 H hcc h10 HR
        go_wp2
        go_ret
        exact ⟨by rw [HD.out, HF.out]; rfl, (Below.refl _ _).alloc (Nat.le_refl _) _⟩
      · have e0 : ((y : Int) / 10 == 0) = false := beq_eq_false_iff_ne.2 (by omega)
        rw [if_neg h10] at hs
        have HF : Hid (digL U = digL (y / 10) ++ c :: D) := Lib.hid (by rw [H2, hs]; simp)
        have HP := Lib.hid (HR.out.put c)
        clear hs H2 H hcc HR
        go_wp2
        go_roundw
        case rel => exact ⟨b, y / 10, c :: D, _, by go_num, rfl, by omega, rfl, HP.out, HF⟩
        case measure => have := h10; simp [RowKit.intOf]; omega
  · have HD : Hid (decL n = digL U) := Lib.hid (by rw [decL, if_neg hn, hU])
    obtain rfl : n = (U : Int) := by omega
    have a1 : IntKind.u64.wrap (U : Int) = (U : Int) := by rw [IntKind.wrap_u64]; omega
    clear hU hn
    go_enter Tryd.func48, Tryd.ntmps48
    go_wp2
    go_loopw [4, 5] (fun u t wr => ∃ (a y : Nat) (D : List UInt8) (C : Array Value), u = .int .u64 y ∧ t = .int .i64 a ∧ y ≤ U ∧ wr = w.alloc (.cells C 83) ∧ Room C a D ∧ Hid (digL U = digL y ++ D)) (fun u _ _ => (RowKit.intOf u).toNat)
    case atStart => exact ⟨20, U, [], _, rfl, rfl, by omega, rfl, ⟨rfl, rfl, fun j x hj => by cases hj⟩, Lib.hid (by simp)⟩
    case round =>
      obtain ⟨a, y, D, C, rfl, rfl, hy, rfl, hR, H⟩ := hrel
      have H2 := H.out
      have hl := congrArg List.length H2
      rw [List.length_append] at hl
      have hl1 : 1 ≤ (digL y).length := List.length_pos_iff.2 (digL_facts y).2.2.1
      have hsz := hR.2.1
      obtain ⟨b, rfl⟩ : ∃ b, a = b + 1 := ⟨a - 1, by omega⟩
      have hb : b < 20 := by omega
      have HR := Lib.hid hR
      obtain ⟨c0, hc0⟩ : ∃ c, C[b]? = some c := ⟨C[b]'(by rw [hR.1]; omega), Array.getElem?_eq_getElem _⟩
      have HB := Blk.new w 83 C
      have x0 : (w.alloc (.cells C 83)).cell? ⟨w.heap.size, b, none⟩ = some c0 := by rw [HB.cell]; exact hc0
      clear hl hl1 hsz hR hc0 HB
      have hs := digL_snoc y
      have hcc : (UInt8.ofNat (48 + y % 10)).toNat = 48 + y % 10 := digC _ (by omega)
      generalize UInt8.ofNat (48 + y % 10) = c at *
      have hci : (48 + (y : Int) % 10) = (c.toNat : Int) := by omega
      by_cases h10 : y < 10
      · have e0 : ((y : Int) / 10 == 0) = true := by simp; omega
        rw [if_pos h10] at hs
        have HF : Hid (digL U = c :: D) := Lib.hid (by rw [H2, hs]; rfl)
        have HP := Lib.hid (HR.out.put c)
        have hsl := slice_room w.heap.size b hb
        have hcv := (conv_digits (w.alloc (.cells (C.setIfInBounds b (.int .u8 c.toNat)) 83)) w.heap.size b _ (c :: D) _ (Blk.new w 83 _) HP.out) (20 - b) (by have := HP.out.2.1; omega)
        clear hs H2 H hcc h10 HR
        go_wp2
        go_ret
        exact ⟨by rw [HD.out, HF.out]; rfl, (Below.refl _ _).alloc (Nat.le_refl _) _⟩
      · have e0 : ((y : Int) / 10 == 0) = false := beq_eq_false_iff_ne.2 (by omega)
        rw [if_neg h10] at hs
        have HF : Hid (digL U = digL (y / 10) ++ c :: D) := Lib.hid (by rw [H2, hs]; simp)
        have HP := Lib.hid (HR.out.put c)
        clear hs H2 H hcc HR
        go_wp2
        go_roundw
        case rel => exact ⟨b, y / 10, c :: D, _, by go_num, rfl, by omega, rfl, HP.out, HF⟩
        case measure => have := h10; simp [RowKit.intOf]; omega
end Go.Proofs.YtdcdglbliemnkaaDoor
