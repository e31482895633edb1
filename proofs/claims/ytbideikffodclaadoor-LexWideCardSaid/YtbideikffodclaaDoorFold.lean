/- word.Fold, the reference's Fold. -/
import Derived.Test.YtbideikffodclaaDoorWordB
import Derived.Test.YtbideikffodclaaDoorRow
import Derived.Maps.AppendAt
namespace Go.Proofs.YtbideikffodclaaDoor
open Go.RowKit Go.Lib

def foldC (c : UInt8) : UInt8 := if 65 ≤ c.toNat ∧ c.toNat ≤ 90 then c + 32 else c
def foldL (l : List UInt8) : List UInt8 := l.map foldC
theorem foldC_yes {c : UInt8} (h1 : 65 ≤ c.toNat) (h2 : c.toNat ≤ 90) : (foldC c).toNat = c.toNat + 32 := by
  rw [foldC, if_pos ⟨h1, h2⟩, UInt8.toNat_add]
  show (c.toNat + 32) % 256 = _
  omega
theorem foldC_no {c : UInt8} (h : ¬ (65 ≤ c.toNat ∧ c.toNat ≤ 90)) : foldC c = c := by rw [foldC, if_neg h]

/-- Place j when the first i have been folded. -/
def foldAt (l : List UInt8) (i j : Nat) : UInt8 := if j < i then foldC (l.getD j 0) else l.getD j 0
theorem foldAt_zero (l : List UInt8) (j : Nat) : foldAt l 0 j = l.getD j 0 := by rw [foldAt, if_neg (by omega)]
theorem foldAt_here (l : List UInt8) (i : Nat) : foldAt l i i = l.getD i 0 := by rw [foldAt, if_neg (by omega)]
theorem foldAt_next (l : List UInt8) (i j : Nat) (h : j ≠ i) : foldAt l (i + 1) j = foldAt l i j := by
  unfold foldAt
  by_cases h1 : j < i
  · rw [if_pos h1, if_pos (by omega)]
  · rw [if_neg h1, if_neg (by omega)]
theorem foldAt_done (l : List UInt8) (i : Nat) : foldAt l (i + 1) i = foldC (l.getD i 0) := by rw [foldAt, if_pos (by omega)]
theorem getD_at {s : ByteArray} {i : Nat} (h : i < s.size) : s.data.toList.getD i 0 = s[i] := by
  have hs : i < s.data.toList.length := by simpa using h
  rw [List.getD_eq_getElem?_getD, List.getElem?_eq_getElem hs]
  rfl

set_option maxHeartbeats 1000000 in
set_option maxRecDepth 100000 in
theorem word_fold (s : ByteArray) (w : World) (hs : s.size ≤ 140737488355328) :
    Calls Tryd.prog 34 #[.string s] w fun e w' => e = .returned (.string ⟨(foldL s.data.toList).toArray⟩) ∧ Below w.heap.size w w' := by
  have hcv := run_bytes_of_string (P := Tryd.prog) w 9 34 5 s Tryd.underlying9 Tryd.underlying34 Tryd.underlying5
  generalize hC : grownCap w s.size 0 5 = C at hcv
  have hcells : ∀ j, j < s.size → (w.drew.alloc (.cells (bytesRow s C) 5 ((bytesRow s C).size, (bytesRow s C).size + 1))).cell? ⟨w.heap.size, j, none⟩ = some (.int .u8 (foldAt s.data.toList 0 j).toNat) := fun j hj => by
    rw [show w.heap.size = w.drew.heap.size from rfl, World.cell?_alloc_mark, bytesRow_at s C j hj, foldAt_zero, getD_at hj]
    rfl
  have hsz : s.size ≤ (bytesRow s C).size := by unfold bytesRow; simp
  have hfroz : ∀ j, j < s.size → (w.drew.alloc (.cells (bytesRow s C) 5 ((bytesRow s C).size, (bytesRow s C).size + 1))).frozen? ⟨w.heap.size, j, none⟩ = false := fun j hj => by
    rw [show w.heap.size = w.drew.heap.size from rfl, World.frozen?_alloc_mark]
    simp
    omega
  have hb0 : Below w.heap.size w (w.drew.alloc (.cells (bytesRow s C) 5 ((bytesRow s C).size, (bytesRow s C).size + 1))) := ((Below.refl _ _).drew).alloc (Nat.le_refl _) _
  generalize w.drew.alloc (.cells (bytesRow s C) 5 ((bytesRow s C).size, (bytesRow s C).size + 1)) = w1 at *
  clear hC hsz
  have HC := Lib.hid hcells
  have HF := Lib.hid hfroz
  clear hcells hfroz
  go_enter Tryd.func34, Tryd.ntmps34
  go_wp2
  go_loopw [10] (fun t wr => ∃ i : Nat, t = .int .i64 i ∧ i ≤ s.size ∧ Hid (∀ j, j < s.size → wr.cell? ⟨w.heap.size, j, none⟩ = some (.int .u8 (foldAt s.data.toList i j).toNat)) ∧ Hid (∀ j, j < s.size → wr.frozen? ⟨w.heap.size, j, none⟩ = false) ∧ Below w.heap.size w wr) (fun t _ => s.size - (RowKit.intOf t).toNat)
  case atStart => exact ⟨0, rfl, by omega, HC, HF, hb0⟩
  case round =>
    clear HC HF hb0 hcv
    obtain ⟨i, rfl, hi, HC, HF, hb⟩ := hrel
    by_cases hp : i < s.size
    · have hc : wr.cell? ⟨w.heap.size, i, none⟩ = some (.int .u8 (s[i]'hp).toNat) := by rw [HC.out i hp, foldAt_here, getD_at hp]
      have hf := HF.out i hp
      have hlt := (s[i]'hp).toNat_lt
      by_cases hu : 65 ≤ (s[i]'hp).toNat ∧ (s[i]'hp).toNat ≤ 90
      · have hv := foldC_yes hu.1 hu.2
        have HC2 : Hid (∀ j, j < s.size → (wr.setCell ⟨w.heap.size, i, none⟩ (.int .u8 ((s[i]'hp).toNat - 65 + 97 : Int))).cell? ⟨w.heap.size, j, none⟩ = some (.int .u8 (foldAt s.data.toList (i + 1) j).toNat)) := Lib.hid (fun j hj => by
          by_cases hij : j = i
          · subst hij
            rw [World.cell?_setCell_same _ _ _ hc, foldAt_done, getD_at hp, hv]
            congr 2
            omega
          · rw [World.cell?_setCell_other _ _ _ _ (fun e => by injection e; omega), HC.out j hj, foldAt_next _ _ _ hij])
        have HF2 : Hid (∀ j, j < s.size → (wr.setCell ⟨w.heap.size, i, none⟩ (.int .u8 ((s[i]'hp).toNat - 65 + 97 : Int))).frozen? ⟨w.heap.size, j, none⟩ = false) := Lib.hid (fun j hj => by rw [World.frozen?_setCell]; exact HF.out j hj)
        have hb2 : Below w.heap.size w (wr.setCell ⟨w.heap.size, i, none⟩ (.int .u8 ((s[i]'hp).toNat - 65 + 97 : Int))) := hb.setCell (p := ⟨w.heap.size, i, none⟩) (Nat.le_refl _) _
        obtain ⟨hu1, hu2⟩ := hu
        clear hv
        go_wp2
        go_roundw
        case rel => exact ⟨i + 1, by go_num, by omega, HC2, HF2, hb2⟩
        case measure => simp [RowKit.intOf]; omega
      · have hv := foldC_no hu
        have HC2 : Hid (∀ j, j < s.size → wr.cell? ⟨w.heap.size, j, none⟩ = some (.int .u8 (foldAt s.data.toList (i + 1) j).toNat)) := Lib.hid (fun j hj => by
          by_cases hij : j = i
          · subst hij
            rw [hc, foldAt_done, getD_at hp, hv]
          · rw [HC.out j hj, foldAt_next _ _ _ hij])
        clear hv
        rcases (show (s[i]'hp).toNat < 65 ∨ (65 ≤ (s[i]'hp).toNat ∧ 90 < (s[i]'hp).toNat) by omega) with h1 | ⟨h1, h2⟩
        all_goals
          clear hu
          go_wp2
          go_roundw
          case rel => exact ⟨i + 1, by go_num, by omega, HC2, HF, hb⟩
          case measure => simp [RowKit.intOf]; omega
    · have hlen : (foldL s.data.toList).length = s.size := by simp [foldL]
      have hcv : (convert 34 9 (.slice (some ⟨w.heap.size, 0, none⟩) s.size C)).run Tryd.prog wr = .ok (.string ⟨(foldL s.data.toList).toArray⟩) wr := by
        rw [← hlen]
        refine run_convert_bytes_back wr _ _ 5 _ _ _ Tryd.underlying34 Tryd.underlying5 Tryd.underlying9 ?_
        intro j hj
        have hj' : j < s.size := by omega
        rw [show (⟨w.heap.size, 0, none⟩ : Addr).add j = ⟨w.heap.size, j, none⟩ by unfold Addr.add; split <;> simp_all]
        rw [HC.out j hj', foldAt, if_pos (by omega)]
        simp [foldL, List.getD_eq_getElem?_getD, hj']
      clear HC HF hlen
      go_wp2
      go_ret
      exact ⟨rfl, hb⟩

set_option maxHeartbeats 4000000 in
set_option maxRecDepth 100000 in
theorem ref_fold (s : ByteArray) (w : World) (hs : s.size ≤ 1000000) :
    Calls Tryd.prog 28 #[.string s] w fun e w' => e = .returned (.string ⟨(foldL s.data.toList).toArray⟩) ∧ Below w.heap.size w w' := by
  obtain ⟨i0, hi, hz0, hz1, hz2⟩ := info_parts infoByte
  obtain ⟨B, hB⟩ : ∃ B, B = w.heap.size := ⟨_, rfl⟩
  have HB := Lib.hid hB
  clear hB
  go_enter Tryd.func28, Tryd.ntmps28
  go_wp2
  go_loopw [3, 4] (fun v t wr => ∃ (i : Nat), t = .int .i64 i ∧ i ≤ s.size ∧ Hid (OwnB B wr v (foldL (s.data.toList.take i))) ∧ Below w.heap.size w wr) (fun _ t _ => s.size - (RowKit.intOf t).toNat)
  case atStart => exact ⟨0, rfl, by omega, Lib.hid (OwnB.nil _ _), Below.refl _ _⟩
  case round =>
    obtain ⟨i, rfl, hi', HO, hb⟩ := hrel
    have hBr : B ≤ wr.heap.size := by have := hb.size; rw [HB.out]; exact this
    by_cases hp : i < s.size
    · have H3 : Hid (foldL (s.data.toList.take (i + 1)) = foldL (s.data.toList.take i) ++ [foldC (s[i]'hp)]) := Lib.hid (by rw [take_succ_at hp]; simp [foldL])
      have hlt := (s[i]'hp).toNat_lt
      by_cases hu : 65 ≤ (s[i]'hp).toNat ∧ (s[i]'hp).toNat ≤ 90
      · have HV : Hid (((foldC (s[i]'hp)).toNat : Int) = (s[i]'hp).toNat + 32) := Lib.hid (by rw [foldC_yes hu.1 hu.2]; omega)
        obtain ⟨hu1, hu2⟩ := hu
        have hown := HO.out
        unfold OwnB at hown
        have hbl : (foldL (s.data.toList.take i)).length ≤ i := by simp [foldL]; omega
        go_wp2_with (at_builtin; refine wpList_append_own _ rfl _ _ 34 rfl B 5 i0 (.int .u8 0) 1 1 Tryd.underlying34 hi hz0 hz1 hz2 rfl (by decide) _ _ _ rfl (hown.alloc _) ⟨wr.heap.size, 0, none⟩ 1 1 [.int .u8 ((s[i]'hp).toNat + 32 : Int)] rfl rfl (cell_one_new _ _ _) (by simp [Value.oneCell']) (by unfold maxLen; omega) (by omega) (by simp; omega) ?_)
        intro v' w2 hown' hgrow _
        have HO2 : Hid (OwnB B w2 v' (foldL (s.data.toList.take (i + 1)))) := Lib.hid (by
          rw [H3.out]
          unfold OwnB
          rw [byteCells_snoc, List.length_append, HV.out]
          exact hown')
        have hb2 : Below w.heap.size w w2 := (hb.alloc hb.size _).grown hgrow (by have := hb.size; simp; omega) (fun k hk => by have := (hown.lt k hk).1; rw [← HB.out]; exact this)
        clear hown hown' hgrow H3 HV
        go_wp2
        go_roundw
        case rel => exact ⟨i + 1, by go_num, by omega, HO2, hb2⟩
        case measure => simp [RowKit.intOf]; omega
      · have HV : Hid (((foldC (s[i]'hp)).toNat : Int) = (s[i]'hp).toNat) := Lib.hid (by rw [foldC_no hu])
        rcases (show (s[i]'hp).toNat < 65 ∨ (65 ≤ (s[i]'hp).toNat ∧ 90 < (s[i]'hp).toNat) by omega) with h1 | ⟨h1, h2⟩
        · clear hu
          have hown := HO.out
          unfold OwnB at hown
          have hbl : (foldL (s.data.toList.take i)).length ≤ i := by simp [foldL]; omega
          go_wp2_with (at_builtin; refine wpList_append_own _ rfl _ _ 34 rfl B 5 i0 (.int .u8 0) 1 1 Tryd.underlying34 hi hz0 hz1 hz2 rfl (by decide) _ _ _ rfl (hown.alloc _) ⟨wr.heap.size, 0, none⟩ 1 1 [.int .u8 ((s[i]'hp).toNat : Int)] rfl rfl (cell_one_new _ _ _) (by simp [Value.oneCell']) (by unfold maxLen; omega) (by omega) (by simp; omega) ?_)
          intro v' w2 hown' hgrow _
          have HO2 : Hid (OwnB B w2 v' (foldL (s.data.toList.take (i + 1)))) := Lib.hid (by
            rw [H3.out]
            unfold OwnB
            rw [byteCells_snoc, List.length_append, HV.out]
            exact hown')
          have hb2 : Below w.heap.size w w2 := (hb.alloc hb.size _).grown hgrow (by have := hb.size; simp; omega) (fun k hk => by have := (hown.lt k hk).1; rw [← HB.out]; exact this)
          clear hown hown' hgrow H3 HV
          go_wp2
          go_roundw
          case rel => exact ⟨i + 1, by go_num, by omega, HO2, hb2⟩
          case measure => simp [RowKit.intOf]; omega
        · clear hu
          have hown := HO.out
          unfold OwnB at hown
          have hbl : (foldL (s.data.toList.take i)).length ≤ i := by simp [foldL]; omega
          go_wp2_with (at_builtin; refine wpList_append_own _ rfl _ _ 34 rfl B 5 i0 (.int .u8 0) 1 1 Tryd.underlying34 hi hz0 hz1 hz2 rfl (by decide) _ _ _ rfl (hown.alloc _) ⟨wr.heap.size, 0, none⟩ 1 1 [.int .u8 ((s[i]'hp).toNat : Int)] rfl rfl (cell_one_new _ _ _) (by simp [Value.oneCell']) (by unfold maxLen; omega) (by omega) (by simp; omega) ?_)
          intro v' w2 hown' hgrow _
          have HO2 : Hid (OwnB B w2 v' (foldL (s.data.toList.take (i + 1)))) := Lib.hid (by
            rw [H3.out]
            unfold OwnB
            rw [byteCells_snoc, List.length_append, HV.out]
            exact hown')
          have hb2 : Below w.heap.size w w2 := (hb.alloc hb.size _).grown hgrow (by have := hb.size; simp; omega) (fun k hk => by have := (hown.lt k hk).1; rw [← HB.out]; exact this)
          clear hown hown' hgrow H3 HV
          go_wp2
          go_roundw
          case rel => exact ⟨i + 1, by go_num, by omega, HO2, hb2⟩
          case measure => simp [RowKit.intOf]; omega
    · have hcv := conv_own HO.out
      rw [List.take_of_length_le (by simp; omega)] at hcv
      go_wp2
      go_ret
      exact ⟨rfl, hb⟩
end Go.Proofs.YtbideikffodclaaDoor
