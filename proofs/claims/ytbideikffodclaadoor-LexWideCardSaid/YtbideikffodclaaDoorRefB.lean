/- The reference's Quote and Unquote. -/
import Derived.Test.YtbideikffodclaaDoorRefA
import Derived.Test.YtbideikffodclaaDoorRow
import Derived.Maps.AppendAt
namespace Go.Proofs.YtbideikffodclaaDoor
open Go.RowKit Go.Lib

theorem repl_dbl : ∀ l : List UInt8, replaceAll l [39] [39, 39] = dbl l
  | [] => repl_nil (by decide) (by decide)
  | c :: l => by
    by_cases h : c = 39
    · subst h
      rw [repl_hit (by decide) (by decide) _ rfl]
      simp [dbl, repl_dbl l]
    · rw [repl_miss (by decide) (by decide) c l (by
        have hb : (39 == c) = false := beq_eq_false_iff_ne.2 (fun e => h e.symm)
        simp [List.isPrefixOf, hb]), repl_dbl l]
      simp [dbl, h]

set_option maxHeartbeats 1000000 in
theorem ref_quote (s : ByteArray) (w : World) (hs : s.size ≤ 1000000) (hE : Env w) :
    Calls Tryd.prog 45 #[.string s] w fun e w' => e = .returned (.tuple #[.string (quoteR s).1, .int .i64 (quoteR s).2]) ∧ Below w.heap.size w w' := by
  cases hr : rightL s.data.toList with
  | false =>
    have HQ : Hid (quoteR s = (⟨#[]⟩, 3)) := Lib.hid (by rw [quoteR, hr]; rfl)
    have HR := Lib.hid hr
    clear hr
    go_enter Tryd.func45, Tryd.ntmps45
    go_wp2_with fail
    refine (ref_right _ _ (by omega) hE).mono ?_
    rintro e w1 ⟨rfl, hb1⟩
    rw [HR.out]
    go_wp2
    go_ret2
    exact ⟨by rw [HQ.out]; rfl, hb1⟩
  | true =>
    have HQ : Hid (quoteR s = (⟨(quoteL s.data.toList).toArray⟩, 0)) := Lib.hid (by rw [quoteR, hr]; rfl)
    have hs32 : s.size ≤ 32 := by have := right_short hr; simpa using this
    have HR := Lib.hid hr
    have HD := Lib.hid (repl_dbl s.data.toList)
    have hd := (dbl_le s.data.toList).2
    have hl : s.data.toList.length = s.size := by simp
    rw [hl] at hd
    have hcb := Lib.countB_le (ByteArray.mk #[39]) (by decide) _ s (Nat.le_refl _)
    have HE := Lib.hid hE
    clear hr hE
    go_enter Tryd.func45, Tryd.ntmps45
    go_wp2_with fail
    refine (ref_right _ _ (by omega) HE.out).mono ?_
    rintro e w1 ⟨rfl, hb1⟩
    rw [HR.out]
    obtain ⟨m, hm⟩ := (HE.out.below hb1).mx
    have HM := Lib.hid hm
    clear hm
    go_wp2_with fail
    refine (Tryd.strings_ReplaceAll _ _ _ m _ (by omega) HM.out (by decide) (by show _ + _ * 2 ≤ _; omega)).mono ?_
    rintro e w2 ⟨rfl, hb2⟩
    rw [show (ByteArray.mk #[39]).data.toList = [39] from rfl, show (ByteArray.mk #[39, 39]).data.toList = [39, 39] from rfl, HD.out]
    have h1 : (ByteArray.mk #[39]).size + (ByteArray.mk (dbl s.data.toList).toArray).size ≤ 9223372036854775807 := by
      show 1 + (dbl s.data.toList).length ≤ _
      omega
    have h2 : (ByteArray.mk #[39] ++ ByteArray.mk (dbl s.data.toList).toArray).size + (ByteArray.mk #[39]).size ≤ 9223372036854775807 := by
      rw [ByteArray.size_append]
      show 1 + (dbl s.data.toList).length + 1 ≤ _
      omega
    have h3 : ByteArray.mk #[39] ++ ByteArray.mk (dbl s.data.toList).toArray ++ ByteArray.mk #[39] = ⟨(quoteL s.data.toList).toArray⟩ := by
      apply ByteArray.ext
      simp [quoteL, ByteArray.data_append]
    have H3 := Lib.hid h3
    clear h3
    go_wp2
    go_ret2
    exact ⟨by rw [HQ.out]; simp [H3.out], hb1.trans (hb2.mono hb1.size)⟩

theorem unq_ne {c : UInt8} {r : List UInt8} (h : c ≠ 39) : unq (c :: r) = (unq r).map fun p => (c :: p.1, p.2 + 1) := by
  cases r with
  | nil => simp [unq, h]
  | cons d r => simp only [unq, if_pos h]
theorem unq_end : unq [39] = some ([], 0) := rfl
theorem unq_one {d : UInt8} {r : List UInt8} (h : d ≠ 39) : unq (39 :: d :: r) = some ([], 0) := by simp [unq, h]
theorem unq_two {r : List UInt8} : unq (39 :: 39 :: r) = (unq r).map fun p => (39 :: p.1, p.2 + 2) := by simp [unq]

/-- What is found from place i on, acc having been gathered. -/
def unqFrom (s : ByteArray) (i : Nat) (acc : List UInt8) : Option (List UInt8 × Nat) := (unq (s.data.toList.drop i)).map fun p => (acc ++ p.1, i + p.2)
theorem unqFrom_ne {s : ByteArray} {i : Nat} {acc : List UInt8} (hp : i < s.size) (h : ¬ (s[i]'hp).toNat = 39) : unqFrom s i acc = unqFrom s (i + 1) (acc ++ [s[i]'hp]) := by
  unfold unqFrom
  rw [drop_cons hp, unq_ne (fun e => h (by rw [e]; rfl)), Option.map_map]
  congr 1
  funext p
  simp
  omega
theorem unqFrom_last {s : ByteArray} {i : Nat} {acc : List UInt8} (hp : i < s.size) (h : (s[i]'hp).toNat = 39) (hl : i + 1 = s.size) : unqFrom s i acc = some (acc, i) := by
  unfold unqFrom
  rw [drop_cons hp, u8_eq h, List.drop_of_length_le (by simp; omega)]
  simp [unq_end]
theorem unqFrom_one {s : ByteArray} {i : Nat} {acc : List UInt8} (hp : i < s.size) (h : (s[i]'hp).toNat = 39) (hp1 : i + 1 < s.size) (h1 : ¬ (s[i + 1]'hp1).toNat = 39) : unqFrom s i acc = some (acc, i) := by
  unfold unqFrom
  rw [drop_cons hp, u8_eq h, drop_cons hp1]
  show Option.map _ (unq (39 :: _ :: _)) = _
  rw [unq_one (fun e => h1 (by rw [e]; rfl))]
  simp
theorem unqFrom_two {s : ByteArray} {i : Nat} {acc : List UInt8} (hp : i < s.size) (h : (s[i]'hp).toNat = 39) (hp1 : i + 1 < s.size) (h1 : (s[i + 1]'hp1).toNat = 39) : unqFrom s i acc = unqFrom s (i + 2) (acc ++ [s[i]'hp]) := by
  unfold unqFrom
  rw [drop_cons hp, u8_eq h, drop_cons hp1, u8_eq h1]
  show Option.map _ (unq (39 :: 39 :: _)) = _
  rw [unq_two, Option.map_map]
  congr 1
  funext p
  simp
  omega
theorem unqFrom_none {s : ByteArray} {i : Nat} {acc : List UInt8} (hp : ¬ i < s.size) : unqFrom s i acc = none := by
  unfold unqFrom
  rw [drop_nil hp]
  rfl

/-- What is handed back, by what was found from place 1 on. -/
theorem unquoteR_from {s : ByteArray} (hp : 0 < s.size) (h : (s[0]'hp).toNat = 39) : unquoteR s = match unqFrom s 1 [] with
    | none => ((⟨#[]⟩, (s.size : Int), 8) : ByteArray × Int × Int)
    | some (t, n) => if rightL t then ((⟨t.toArray⟩, (n : Int) + 1, 0) : ByteArray × Int × Int) else (⟨#[]⟩, 0, 3) := by
  have hl := size_pos_cons hp
  rw [u8_eq h] at hl
  unfold unqFrom
  cases hu : unq (s.data.toList.drop 1) with
  | none => rw [unquoteR_open hl hu]; rfl
  | some p =>
    obtain ⟨t, n⟩ := p
    rw [unquoteR_some hl hu]
    simp only [Option.map_some, List.nil_append]
    rw [show ((1 + n : Nat) : Int) + 1 = (n : Int) + 2 by omega]

theorem unquoteR_first {s : ByteArray} (hp : 0 < s.size) (h : ¬ (s[0]'hp).toNat = 39) : unquoteR s = (⟨#[]⟩, 0, 8) := unquoteR_ne (size_pos_cons hp) (fun e => h (by rw [e]; rfl))

set_option maxHeartbeats 4000000 in
set_option maxRecDepth 100000 in
theorem ref_unquote (s : ByteArray) (w : World) (hs : s.size ≤ 1000000) (hE : Env w) :
    Calls Tryd.prog 31 #[.string s] w fun e w' => e = .returned (.tuple #[.string (unquoteR s).1, .int .i64 (unquoteR s).2.1, .int .i64 (unquoteR s).2.2]) ∧ Below w.heap.size w w' := by
  by_cases h0 : s.size = 0
  · have hl : s.data.toList = [] := List.eq_nil_of_length_eq_zero (by simpa using h0)
    have HQ := Lib.hid (unquoteR_nil hl)
    have h0' : ((s.size : Int) == 0) = true := by simp [h0]
    clear h0 hl
    go_enter Tryd.func31, Tryd.ntmps31
    go_wp2
    go_ret3
    exact ⟨by rw [HQ.out]; rfl, Below.refl _ _⟩
  · have hp : 0 < s.size := by omega
    have h0' : ((s.size : Int) == 0) = false := beq_eq_false_iff_ne.2 (by omega)
    by_cases hc : (s[0]'hp).toNat = 39
    · obtain ⟨A, hA⟩ : ∃ A, unqFrom s 1 [] = A := ⟨_, rfl⟩
      have hq := unquoteR_from hp hc
      rw [hA] at hq
      have HQ := Lib.hid hq
      have HA := Lib.hid hA
      have k1 : (((s[0]'hp).toNat : Int) != 39) = false := by simp [hc]
      obtain ⟨i0, hi, hz0, hz1, hz2⟩ := info_parts infoByte
      have HE := Lib.hid hE
      obtain ⟨B, hB⟩ : ∃ B, B = w.heap.size := ⟨_, rfl⟩
      have HB := Lib.hid hB
      clear hq hA hc hE hB
      go_enter Tryd.func31, Tryd.ntmps31
      go_wp2
      go_loopw [5, 6] (fun v t wr => ∃ (i : Nat) (acc : List UInt8), t = .int .i64 i ∧ i ≤ s.size + 1 ∧ acc.length ≤ i ∧ Hid (OwnB B wr v acc) ∧ Hid (unqFrom s i acc = A) ∧ Below w.heap.size w wr) (fun _ t _ => s.size + 1 - (RowKit.intOf t).toNat)
      case atStart => exact ⟨1, [], rfl, by omega, by simp, Lib.hid (OwnB.nil _ _), HA, Below.refl _ _⟩
      case round =>
        obtain ⟨i, acc, rfl, hi', hacc, HO, H, hb⟩ := hrel
        have hBr : B ≤ wr.heap.size := by have := hb.size; rw [HB.out]; exact this
        by_cases hpi : i < s.size
        · by_cases hci : (s[i]'hpi).toNat = 39
          · by_cases hl1 : i + 1 = s.size
            · have H2 := H.out
              rw [unqFrom_last hpi hci hl1] at H2
              have HQ2 : Hid (unquoteR s = if rightL acc then ((⟨acc.toArray⟩, (i : Int) + 1, 0) : ByteArray × Int × Int) else (⟨#[]⟩, 0, 3)) := Lib.hid (by rw [HQ.out, ← H2])
              have k2 : (((s[i]'hpi).toNat : Int) != 39) = false := by simp [hci]
              clear H2 H HQ HA
              have hcv := conv_own HO.out
              cases hr : rightL acc with
              | true =>
                have HQ3 : Hid (unquoteR s = (⟨acc.toArray⟩, (i : Int) + 1, 0)) := Lib.hid (by rw [HQ2.out, hr]; rfl)
                have HR := Lib.hid hr
                clear hr HQ2
                go_wp2_with fail
                refine (ref_right ⟨acc.toArray⟩ _ (by show acc.length ≤ _; omega) (HE.out.below hb)).mono ?_
                rintro e w2 ⟨rfl, hb2⟩
                rw [show (ByteArray.mk acc.toArray).data.toList = acc from rfl, HR.out]
                have hcv2 := conv_own (HO.out.below hb2)
                go_wp2
                go_ret3
                exact ⟨by rw [HQ3.out]; rfl, hb.trans (hb2.mono hb.size)⟩
              | false =>
                have HQ3 : Hid (unquoteR s = (⟨#[]⟩, 0, 3)) := Lib.hid (by rw [HQ2.out, hr]; rfl)
                have HR := Lib.hid hr
                clear hr HQ2
                go_wp2_with fail
                refine (ref_right ⟨acc.toArray⟩ _ (by show acc.length ≤ _; omega) (HE.out.below hb)).mono ?_
                rintro e w2 ⟨rfl, hb2⟩
                rw [show (ByteArray.mk acc.toArray).data.toList = acc from rfl, HR.out]
                go_wp2
                go_ret3
                exact ⟨by rw [HQ3.out]; rfl, hb.trans (hb2.mono hb.size)⟩
            · have hp1 : i + 1 < s.size := by omega
              by_cases hc1 : (s[i + 1]'hp1).toNat = 39
              · have H3 : Hid (unqFrom s (i + 2) (acc ++ [39]) = A) := Lib.hid (by have := (unqFrom_two (acc := acc) hpi hci hp1 hc1).symm.trans H.out; rw [u8_eq hci] at this; exact this)
                have k2 : (((s[i]'hpi).toNat : Int) != 39) = false := by simp [hci]
                have k3 : (((s[i + 1]'hp1).toNat : Int) == 39) = true := by simp [hc1]
                have hown := HO.out
                unfold OwnB at hown
                have hbl := Lib.byteCells_length acc
                go_wp2_with (at_builtin; refine wpList_append_own _ rfl _ _ 34 rfl B 5 i0 (.int .u8 0) 1 1 Tryd.underlying34 hi hz0 hz1 hz2 rfl (by decide) _ _ _ rfl (hown.alloc _) ⟨wr.heap.size, 0, none⟩ 1 1 [.int .u8 39] rfl rfl ?d1 ?d2 ?d3 ?d4 ?d5 ?_)
                case d1 => exact cell_one_new _ _ _
                case d2 => intro u hu; simp at hu; subst hu; rfl
                case d3 => unfold maxLen; omega
                case d4 => omega
                case d5 => simp; omega
                intro v' w2 hown' hgrow _
                have HO2 : Hid (OwnB B w2 v' (acc ++ [39])) := Lib.hid (by unfold OwnB; rw [byteCells_snoc, List.length_append]; exact hown')
                have hb2 : Below w.heap.size w w2 := (hb.alloc hb.size _).grown hgrow (by have := hb.size; simp; omega) (fun k hk => by have := (hown.lt k hk).1; rw [← HB.out]; exact this)
                clear hown hown' hgrow
                go_wp2
                go_roundw
                case rel => exact ⟨i + 2, acc ++ [39], by go_num, by omega, by simp; omega, HO2, H3, hb2⟩
                case measure => simp [RowKit.intOf]; omega
              · have H2 := H.out
                rw [unqFrom_one hpi hci hp1 hc1] at H2
                have HQ2 : Hid (unquoteR s = if rightL acc then ((⟨acc.toArray⟩, (i : Int) + 1, 0) : ByteArray × Int × Int) else (⟨#[]⟩, 0, 3)) := Lib.hid (by rw [HQ.out, ← H2])
                have k2 : (((s[i]'hpi).toNat : Int) != 39) = false := by simp [hci]
                have k3 : (((s[i + 1]'hp1).toNat : Int) == 39) = false := beq_eq_false_iff_ne.2 (by omega)
                clear H2 H HQ HA
                have hcv := conv_own HO.out
                cases hr : rightL acc with
                | true =>
                  have HQ3 : Hid (unquoteR s = (⟨acc.toArray⟩, (i : Int) + 1, 0)) := Lib.hid (by rw [HQ2.out, hr]; rfl)
                  have HR := Lib.hid hr
                  clear hr HQ2
                  go_wp2_with fail
                  refine (ref_right ⟨acc.toArray⟩ _ (by show acc.length ≤ _; omega) (HE.out.below hb)).mono ?_
                  rintro e w2 ⟨rfl, hb2⟩
                  rw [show (ByteArray.mk acc.toArray).data.toList = acc from rfl, HR.out]
                  have hcv2 := conv_own (HO.out.below hb2)
                  go_wp2
                  go_ret3
                  exact ⟨by rw [HQ3.out]; rfl, hb.trans (hb2.mono hb.size)⟩
                | false =>
                  have HQ3 : Hid (unquoteR s = (⟨#[]⟩, 0, 3)) := Lib.hid (by rw [HQ2.out, hr]; rfl)
                  have HR := Lib.hid hr
                  clear hr HQ2
                  go_wp2_with fail
                  refine (ref_right ⟨acc.toArray⟩ _ (by show acc.length ≤ _; omega) (HE.out.below hb)).mono ?_
                  rintro e w2 ⟨rfl, hb2⟩
                  rw [show (ByteArray.mk acc.toArray).data.toList = acc from rfl, HR.out]
                  go_wp2
                  go_ret3
                  exact ⟨by rw [HQ3.out]; rfl, hb.trans (hb2.mono hb.size)⟩
          · have H3 : Hid (unqFrom s (i + 1) (acc ++ [s[i]'hpi]) = A) := Lib.hid ((unqFrom_ne hpi hci).symm.trans H.out)
            have k2 : (((s[i]'hpi).toNat : Int) != 39) = true := by rw [bne_iff_ne]; omega
            have hown := HO.out
            unfold OwnB at hown
            have hbl := Lib.byteCells_length acc
            go_wp2_with (at_builtin; refine wpList_append_own _ rfl _ _ 34 rfl B 5 i0 (.int .u8 0) 1 1 Tryd.underlying34 hi hz0 hz1 hz2 rfl (by decide) _ _ _ rfl (hown.alloc _) ⟨wr.heap.size, 0, none⟩ 1 1 [.int .u8 (s[i]'hpi).toNat] rfl rfl ?c1 ?c2 ?c3 ?c4 ?c5 ?_)
            case c1 => exact cell_one_new _ _ _
            case c2 => intro u hu; simp at hu; subst hu; rfl
            case c3 => unfold maxLen; omega
            case c4 => omega
            case c5 => simp; omega
            intro v' w2 hown' hgrow _
            have HO2 : Hid (OwnB B w2 v' (acc ++ [s[i]'hpi])) := Lib.hid (by unfold OwnB; rw [byteCells_snoc, List.length_append]; exact hown')
            have hb2 : Below w.heap.size w w2 := (hb.alloc hb.size _).grown hgrow (by have := hb.size; simp; omega) (fun k hk => by have := (hown.lt k hk).1; rw [← HB.out]; exact this)
            clear hown hown' hgrow
            go_wp2
            go_roundw
            case rel => exact ⟨i + 1, acc ++ [s[i]'hpi], by go_num, by omega, by simp; omega, HO2, H3, hb2⟩
            case measure => simp [RowKit.intOf]; omega
        · have H2 := H.out
          rw [unqFrom_none hpi] at H2
          have HQ2 : Hid (unquoteR s = (⟨#[]⟩, (s.size : Int), 8)) := Lib.hid (by rw [HQ.out, ← H2])
          clear H2 H HQ HA
          go_wp2
          go_ret3
          exact ⟨by rw [HQ2.out]; rfl, hb⟩
    · have HQ := Lib.hid (unquoteR_first hp hc)
      have k1 : (((s[0]'hp).toNat : Int) != 39) = true := by rw [bne_iff_ne]; omega
      clear hc
      go_enter Tryd.func31, Tryd.ntmps31
      go_wp2
      go_ret3
      exact ⟨by rw [HQ.out]; rfl, Below.refl _ _⟩
end Go.Proofs.YtbideikffodclaaDoor
