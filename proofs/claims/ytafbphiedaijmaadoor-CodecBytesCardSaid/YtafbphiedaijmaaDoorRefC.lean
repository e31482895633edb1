/- The reference's Right, Bytes of a value. -/
import Derived.Test.YtafbphiedaijmaaDoorRefA
import Derived.Test.YtafbphiedaijmaaDoorVOrder
import Derived.Test.YtafbphiedaijmaaDoorDigW
namespace Go.Proofs.YtafbphiedaijmaaDoor
open Go.RowKit Go.Lib

set_option maxHeartbeats 1000000 in
theorem ref3_right (k n : Int) (s : ByteArray) (w : World) (hs : s.size ≤ 9223372036854775807) (hE : Env w) :
    Calls Tryd.prog 30 #[.agg #[.int .u8 k, .int .i64 n, .string s]] w fun e w' => e = .returned (.bool (valB k n s)) ∧ Below w.heap.size w w' := by
  have hb0 : ∀ o, Below w.heap.size w (w.alloc o) := fun o => (Below.refl _ _).alloc (Nat.le_refl _) o
  have HE := Lib.hid hE
  by_cases h1 : k = 1
  · subst h1
    have H : Hid (valB 1 n s = s.toList.isEmpty) := Lib.hid rfl
    go_enter Tryd.func30, Tryd.ntmps30
    go_wp2
    go_ret
    exact ⟨ret_bool H.out.symm, hb0 _⟩
  · by_cases h2 : k = 2
    · subst h2
      by_cases hn : n = 0
      · subst hn
        have H : Hid (valB 2 0 s = rightL s.data.toList) := Lib.hid (by unfold valB; rw [if_neg (by decide), if_pos rfl]; simp)
        go_enter Tryd.func30, Tryd.ntmps30
        go_wp2_with fail
        refine (ref_right _ _ hs (HE.out.below (hb0 _))).mono ?_
        rintro e w1 ⟨rfl, hb1⟩
        go_wp2
        go_ret
        exact ⟨ret_bool H.out.symm, keepS' (hb0 _) hb1⟩
      · have hn' : (n == 0) = false := beq_eq_false_iff_ne.2 hn
        have H : Hid (valB 2 n s = false) := Lib.hid (by unfold valB; rw [if_neg (by decide), if_pos rfl, hn']; rfl)
        clear hn
        go_enter Tryd.func30, Tryd.ntmps30
        go_wp2
        go_ret
        exact ⟨ret_bool H.out.symm, hb0 _⟩
    · have e1 : (k == 1) = false := beq_eq_false_iff_ne.2 h1
      have e2 : (k == 2) = false := beq_eq_false_iff_ne.2 h2
      have H : Hid (valB k n s = false) := Lib.hid (by unfold valB; rw [if_neg h1, if_neg h2])
      go_enter Tryd.func30, Tryd.ntmps30
      go_wp2
      go_ret
      exact ⟨ret_bool H.out.symm, hb0 _⟩

theorem flip_add (n : Int) (h1 : -9223372036854775808 ≤ n) (h2 : n ≤ 9223372036854775807) : IntKind.u64.wrap (IntKind.u64.wrap n + 9223372036854775808) = (flipN n : Int) := by
  unfold flipN
  rw [IntKind.wrap_u64, IntKind.wrap_u64]
  omega

set_option maxHeartbeats 1000000 in
theorem ref3_bytes_no (k n : Int) (s : ByteArray) (w : World) (hv : valB k n s = false) (hs : s.size ≤ 9223372036854775807) (hE : Env w) :
    Calls Tryd.prog 22 #[.agg #[.int .u8 k, .int .i64 n, .string s]] w fun e w' => e = .returned (.tuple #[.slice none 0 0, .int .i64 3]) ∧ Below w.heap.size w w' := by
  have hb0 : ∀ o, Below w.heap.size w (w.alloc o) := fun o => (Below.refl _ _).alloc (Nat.le_refl _) o
  have HR := Lib.hid (fun w hE => ref3_right k n s w hs hE)
  rw [hv] at HR
  have HE := Lib.hid hE
  clear hv hE
  go_enter Tryd.func22, Tryd.ntmps22
  go_wp2_with fail
  refine (HR.out _ (HE.out.below (hb0 _))).mono ?_
  rintro e w1 ⟨rfl, hb1⟩
  go_wp2
  go_ret2
  exact ⟨rfl, keepS' (hb0 _) hb1⟩

theorem beL_at (u : Nat) (_ : u < 18446744073709551616) (l : List UInt8) : ∀ k, k < 8 → ∀ x : Int, x = (u : Int) / (256 ^ (7 - k) : Nat) % 256 → Lib.byteCells (l ++ (beL u).take k) ++ [.int .u8 x] = Lib.byteCells (l ++ (beL u).take (k + 1)) := by
  intro k hk x hx
  subst hx
  have hc : ∀ c : UInt8, (beL u)[k]? = some c → ((u : Int) / (256 ^ (7 - k) : Nat) % 256) = c.toNat → Lib.byteCells (l ++ (beL u).take k) ++ [.int .u8 ((u : Int) / (256 ^ (7 - k) : Nat) % 256)] = Lib.byteCells (l ++ (beL u).take (k + 1)) := by
    intro c h1 h2
    rw [List.take_add_one, h1, h2]
    simp [Lib.byteCells]
  rcases (show k = 0 ∨ k = 1 ∨ k = 2 ∨ k = 3 ∨ k = 4 ∨ k = 5 ∨ k = 6 ∨ k = 7 by omega) with rfl | rfl | rfl | rfl | rfl | rfl | rfl | rfl
  all_goals
    refine hc _ rfl ?_
    rw [UInt8.toNat_ofNat']
    simp only [Nat.reduceSub, Nat.reducePow]
    omega

theorem own_snoc8 {u : Nat} (h : u < 18446744073709551616) {B : Nat} {w : World} {v : Value} {k : Nat} {x : Int} (hk : k < 8) (hx : x = (u : Int) / (256 ^ (7 - k) : Nat) % 256)
    (hown : w.ownsRow B 5 1 v (([1] ++ (beL u).take k).length + 1) (Lib.byteCells ([1] ++ (beL u).take k) ++ [.int .u8 x])) : OwnB B w v ([1] ++ (beL u).take (k + 1)) := by
  unfold OwnB
  rw [← beL_at u h [1] k hk x hx]
  have hl : (beL u).length = 8 := rfl
  have e : ([1] ++ (beL u).take (k + 1)).length = ([1] ++ (beL u).take k).length + 1 := by
    simp only [List.length_append, List.length_take, hl]
    omega
  rw [e]
  exact hown

set_option maxRecDepth 100000 in
set_option maxHeartbeats 4000000 in
theorem ref3_bytes (k n : Int) (s : ByteArray) (w : World) (h1 : -9223372036854775808 ≤ n) (h2 : n ≤ 9223372036854775807) (hv : valB k n s = true) (hE : Env w) :
    Calls Tryd.prog 22 #[.agg #[.int .u8 k, .int .i64 n, .string s]] w fun e w' => (∃ v, e = .returned (.tuple #[v, .int .i64 0]) ∧ OwnB w.heap.size w' v (bytesV k n s)) ∧ Below w.heap.size w w' := by
  obtain ⟨i0, hi, hz0, hz1, hz2⟩ := info_parts infoByte
  have hb0 : ∀ o, Below w.heap.size w (w.alloc o) := fun o => (Below.refl _ _).alloc (Nat.le_refl _) o
  have hs : s.size ≤ 9223372036854775807 := by
    rcases valB_cases hv with ⟨rfl, e⟩ | ⟨rfl, rfl, e⟩
    · have : s.size = 0 := by have := congrArg List.length e; simpa using this
      omega
    · have := right_short e
      simp at this
      omega
  have HR := Lib.hid (fun w hE => ref3_right k n s w hs hE)
  rw [hv] at HR
  have HE := Lib.hid hE
  clear hE
  by_cases hk : k = 1
  · subst hk
    have HV : Hid (bytesV 1 n s = 1 :: beL (flipN n)) := Lib.hid rfl
    have hfl := flip_lt n h1 h2
    have hfa := flip_add n h1 h2
    generalize flipN n = u at *
    clear hv
    go_enter Tryd.func22, Tryd.ntmps22
    go_wp2_with fail
    refine (HR.out _ (HE.out.below (hb0 _))).mono ?_
    rintro e w1 ⟨rfl, hb1⟩
    have HB := (Blk.below (Blk.new w _ _) hb1 (by simp))
    have x := HB.cell
    have hlt := HB.lt
    have c1 := keepS' (hb0 _) hb1
    clear hb1
    clear HB
    go_wp2
    go_loopw [4, 6] (fun v i wr => ∃ k : Nat, k ≤ 8 ∧ i = .int .i64 (7 - (k : Int)) ∧ OwnB w.heap.size wr v ([1] ++ (beL u).take k) ∧ Below w.heap.size w wr) (fun _ i _ => (RowKit.intOf i + 1).toNat)
    case atStart => exact ⟨0, by omega, rfl, lit_own0 w1 w.heap.size (.int .u8 1) c1.size, c1.alloc c1.size _⟩
    case round =>
      obtain ⟨k, hk, rfl, hown, hbr⟩ := hrel
      have hown2 := hown.slice
      by_cases h8 : k < 8
      · have hz2' : w.heap.size ≤ wr.heap.size := hbr.size
        have hln : ([1] ++ (beL u).take k).length ≤ 9 := by
          have hl : (beL u).length = 8 := rfl
          simp only [List.length_append, List.length_take, hl]
          simp
          omega
        have HS : Hid (∀ (w' : World) (v' : Value) (x : Int), w'.ownsRow w.heap.size 5 1 v' (([1] ++ (beL u).take k).length + 1) (Lib.byteCells ([1] ++ (beL u).take k) ++ [.int .u8 x]) → x = (u : Int) / (256 ^ (7 - k) : Nat) % 256 → OwnB w.heap.size w' v' ([1] ++ (beL u).take (k + 1))) := Lib.hid (fun w' v' x h1 h2 => own_snoc8 hfl h8 h2 h1)
        generalize [1] ++ (beL u).take k = L at *
        rcases (show k = 0 ∨ k = 1 ∨ k = 2 ∨ k = 3 ∨ k = 4 ∨ k = 5 ∨ k = 6 ∨ k = 7 by omega) with rfl | rfl | rfl | rfl | rfl | rfl | rfl | rfl
        all_goals
          go_wp2_with (at_builtin; refine wpList_append_own _ rfl _ _ 27 rfl w.heap.size 5 i0 (.int .u8 0) 1 1 Tryd.underlying27 hi hz0 hz1 hz2 rfl (by decide) _ _ _ rfl (hown.alloc _) ⟨wr.heap.size, 0, none⟩ 1 1 [.int .u8 _] rfl rfl (cell_one_new _ _ _) (by simp [Value.oneCell']) (by unfold maxLen; omega) (by omega) (by simp; omega) ?_)
          intro v' w3 hown' hgrow _
          have hO := HS.out _ _ _ hown' (by simp only [Nat.reduceSub, Nat.reducePow]; omega)
          have c3 : Below w.heap.size w w3 := (hbr.alloc hz2' _).grown hgrow (by simp; omega) (fun k hk => (hown.lt k hk).1)
          clear hown' hgrow
          go_wp2
          go_roundw
          case rel => exact ⟨_, by omega, by go_num, hO, c3⟩
          case measure => simp [RowKit.intOf]
      · obtain rfl : k = 8 := by omega
        have HO := Lib.hid hown
        have hq : [1] ++ (beL u).take 8 = bytesV 1 n s := by rw [HV.out]; rfl
        rw [hq] at HO
        clear hown hq
        go_wp2
        go_ret2
        exact ⟨⟨_, rfl, HO.out⟩, hbr⟩
  · rcases valB_cases hv with ⟨rfl, e⟩ | ⟨rfl, rfl, e⟩
    · exact absurd rfl hk
    have h32 : s.size ≤ 32 := by have := right_short e; simpa using this
    have HV : Hid (bytesV 2 0 s = 2 :: (s.data.toList ++ [0])) := Lib.hid rfl
    clear hv hk e
    go_enter Tryd.func22, Tryd.ntmps22
    go_wp2_with fail
    refine (HR.out _ (HE.out.below (hb0 _))).mono ?_
    rintro e w1 ⟨rfl, hb1⟩
    have HB := (Blk.below (Blk.new w _ _) hb1 (by simp))
    have x := HB.cell
    have hlt := HB.lt
    have c1 := keepS' (hb0 _) hb1
    clear hb1 HB
    have hz1' : w.heap.size ≤ w1.heap.size := c1.size
    go_wp2_with (at_builtin; refine wpList_append_own_string _ rfl _ _ 27 9 rfl w.heap.size 5 i0 Tryd.underlying27 Tryd.underlying9 hi hz0 hz1 hz2 _ _ _ rfl (lit_own0 w1 w.heap.size (.int .u8 2) hz1') s rfl (by unfold maxLen; omega) (by omega) (by simp; omega) ?_)
    intro v2 w2 hown2 hgrow2 _
    have c2 : Below w.heap.size w w2 := (c1.alloc hz1' _).grown hgrow2 (by simp; omega) (fun k hk => by simp [Value.ownBlock] at hk; omega)
    have hz2' : w.heap.size ≤ w2.heap.size := c2.size
    clear hgrow2 c1
    go_wp2_with (at_builtin; refine wpList_append_own _ rfl _ _ 27 rfl w.heap.size 5 i0 (.int .u8 0) 1 1 Tryd.underlying27 hi hz0 hz1 hz2 rfl (by decide) _ _ _ rfl (hown2.alloc _) ⟨w2.heap.size, 0, none⟩ 1 1 [.int .u8 0] rfl rfl (cell_one_new _ _ _) (by simp [Value.oneCell']) (by unfold maxLen; omega) (by omega) (by simp; omega) ?_)
    intro v' w3 hown' hgrow _
    have HO : Hid (OwnB w.heap.size w3 v' (bytesV 2 0 s)) := Lib.hid (by
      rw [HV.out]
      unfold OwnB
      have e1 : (2 :: (s.data.toList ++ [0])).length = 1 + s.size + 1 := by simp; omega
      have e2 : Lib.byteCells (2 :: (s.data.toList ++ [0])) = [.int .u8 2] ++ strCells s ++ [.int .u8 0] := by simp [Lib.byteCells, strCells]
      rw [e1, e2]
      exact hown')
    have c3 : Below w.heap.size w w3 := (c2.alloc hz2' _).grown hgrow (by simp; omega) (fun k hk => (hown2.lt k hk).1)
    clear hown' hgrow hown2 HV
    go_wp2
    go_ret2
    exact ⟨⟨_, rfl, HO.out⟩, c3⟩
end Go.Proofs.YtafbphiedaijmaaDoor
