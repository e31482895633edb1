/- The reference's disk: Read. -/
import Derived.Test.YtaledjcbblgmeaaRkW
namespace Go.Proofs.Ytaledjcbblgmeaa
open Go.RowKit

theorem infoByteR : (Try.prog.info? 5).map (fun i => (i.zero, i.size, i.bytes)) = some (some (.int .u8 0), 1, 1) := by kernel_rfl
set_option maxRecDepth 100000 in
theorem rdisk_Read_no (B g : Nat) (d : Dk) (F : Nat → Prop) (i : Int) (w : World) (h : RP w B g d F) (hl : d.look i ≠ 0) :
    Calls Try.prog 47 #[.pointer (some ⟨g, 0, none⟩), .int .i64 i] w fun e w' => e = .returned (.tuple #[.slice none 0 0, .int .i64 (d.look i)]) ∧ w = w' := by
  obtain ⟨As, cs, Aw, cw, left, hb, h0, hs, hv, hg, hok, hF⟩ := h
  have x := hb.cell
  have hn128 : (d.secs.length : Int) ≤ 128 := by have := hok.2.1; omega
  clear hb hs hv hF hok h0
  unfold Dk.look at hl ⊢
  cases ho : d.off with
  | true =>
    rw [ho] at x
    simp only [if_true]
    clear hl
    go_enter Try.func47, Try.ntmps47
    go_wp2
    go_ret2
    exact ⟨rfl, rfl⟩
  | false =>
    rw [ho] at x hl
    simp only [Bool.false_eq_true, if_false] at hl ⊢
    by_cases hi : i < 0 ∨ (d.secs.length : Int) ≤ i
    · rw [if_pos hi]
      clear hl
      by_cases hi0 : i < 0
      · go_enter Try.func47, Try.ntmps47
        go_wp2
        go_ret2
        exact ⟨rfl, rfl⟩
      · have hi1 : (d.secs.length : Int) ≤ i := by omega
        clear hi
        go_enter Try.func47, Try.ntmps47
        go_wp2
        go_ret2
        exact ⟨rfl, rfl⟩
    · rw [if_neg hi] at hl
      exact absurd rfl hl

set_option maxRecDepth 100000 in
set_option maxHeartbeats 4000000 in
theorem rdisk_Read (B g : Nat) (d : Dk) (F : Nat → Prop) (i : Nat) (w : World) (h : RP w B g d F) (ho : d.off = false) (hi : i < d.secs.length) (hw : d.wait.length ≤ 1000000) :
    Calls Try.prog 47 #[.pointer (some ⟨g, 0, none⟩), .int .i64 i] w (ReadPost (d.read i) w) := by
  obtain ⟨As, cs, Aw, cw, left, hb, h0, hs, hv, hg, hok, hF⟩ := h
  have x := hb.cell
  rw [ho] at x
  obtain ⟨gs, rfl, -, hcs, hgs, hBs⟩ := hs.some_ (by omega)
  obtain ⟨s, hs0⟩ : ∃ s, d.secs[i]? = some s := ⟨_, List.getElem?_eq_getElem hi⟩
  have hsd : d.secs.getD i Sec.zero = s := by rw [List.getD_eq_getElem?_getD, hs0]; rfl
  have hsl := hs.sl Sec.enc_length
  have hvl := hv.sl Wr.enc_length
  have hiI : (i : Int) < d.secs.length := by omega
  have hn128 : (d.secs.length : Int) ≤ 128 := by have := hok.2.1; omega
  have hseen : d.read i = d.seen i s d.wait.length := by unfold Dk.read; rw [hsd]
  rw [hseen]
  have hgl := hb.lt
  have H := Lib.hid (And.intro hb (And.intro hsl (And.intro hvl hs0)))
  have HR := Lib.hid (hsl.range hs0)
  clear hb hs hv hF hok hsl hvl hs0 hsd hseen hi h0
  have HW := Lib.hid hw
  clear hw
  obtain ⟨GB, hGB⟩ : ∃ GB, GB = w.heap.size := ⟨_, rfl⟩
  go_enter Try.func47, Try.ntmps47
  go_wp2_with (first
    | (refine wpList_load_mid rfl 90 (.tmp 35) (by rfl) gs (0 + i * 64) (by simp [go_sem, Act.eval]) s.enc _ HR.out Try.underlying90 rfl (by rw [Sec.enc_length]; exact sizeRSec) ?_)
    | (refine wpList_alloc_blk rfl 90 (by rfl) _ zeroRSec ?_; intro w2 b2 hb2 hz2; clear hz2)
    | (refine wpList_store_blk rfl 90 (.tmp 6) (.tmp 36) (by rfl) w.heap.size 0 (by rfl) _ (by rfl) s.enc (by rfl) 90 (Sec.enc Sec.zero) b2 (by rw [Sec.enc_length]; exact sizeRSec) (by rw [Sec.enc_length, Sec.enc_length]; omega) s.enc_one ?_; intro w3 b3 hm3 hz3; clear hz3; rw [splice_whole _ _ (by rw [Sec.enc_length, Sec.enc_length])] at b3
       have q3 : Below w.heap.size w w3 := Mod.below hb2 hm3 (fun k e => by omega) (by have := hb2.size; omega)
       have B3 := Lib.hid (And.intro b3 q3)
       clear b2 hb2 hm3 b3 q3))
  rw [← hGB] at B3 ⊢
  have hg1 : GB ≤ w.heap.size := by omega
  have hg2 : w.heap.size ≤ GB := by omega
  clear hGB x
  go_loopw [7] (fun t wr => ∃ k : Nat, t = .int .i64 k ∧ k ≤ d.wait.length ∧ Blk wr GB 90 (d.seen i s k).enc.toArray ∧ Below GB w wr) (fun t _ => d.wait.length - (RowKit.intOf t).toNat)
  case atStart => exact ⟨0, rfl, by omega, B3.out.1, B3.out.2⟩
  case round =>
    have hw := HW.out
    obtain ⟨k, rfl, hk, b4, q4⟩ := hrel
    have q4' : Below w.heap.size w wr := q4.mono hg2
    have x4 := (H.out.1.below q4' hgl).cell
    rw [ho] at x4
    have HB4 := Lib.hid (And.intro b4 q4)
    clear B3
    by_cases hlt : k < d.wait.length
    · obtain ⟨y, hy⟩ : ∃ y, d.wait[k]? = some y := ⟨_, List.getElem?_eq_getElem hlt⟩
      have hsk := d.seen_succ i s hy
      obtain ⟨gw, ow, rfl, hgw, hcw⟩ := H.out.2.2.1.at_ hy
      have hr := (H.out.2.2.1.below q4').range hy
      have hr1 : wr.rangeAt gw (ow + k * 65 + 1) y.data.enc := fun j v hv => by
        have := hr (j + 1) v (by simpa [Wr.enc] using hv)
        rwa [show ow + k * 65 + (j + 1) = ow + k * 65 + 1 + j by omega] at this
      have c0 : wr.cell? ⟨gw, ow + k * 65, none⟩ = some (.int .i64 y.at_) := by
        have := hr 0 _ rfl
        rwa [Nat.add_zero] at this
      have hkI : (k : Int) < (d.wait.length : Int) := by omega
      have HSK := Lib.hid hsk
      have HR1 := Lib.hid hr1
      clear hsk hr hy hcw b4 q4 q4' hr1
      by_cases ha : y.at_ = i
      · have z : ((y.at_ : Int) == (i : Int)) = true := beq_iff_eq.2 (by omega)
        go_wp2_with (first
          | (refine wpList_load_mid rfl 90 (.tmp 62) (by rfl) gw (ow + k * 65 + 1) (by rfl) y.data.enc _ HR1.out Try.underlying90 rfl (by rw [Sec.enc_length]; exact sizeRSec) ?_)
          | (refine wpList_store_blk rfl 90 (.tmp 6) (.tmp 63) (by rfl) GB 0 (by rfl) _ (by rfl) y.data.enc (by rfl) 90 _ HB4.out.1 (by rw [Sec.enc_length]; exact sizeRSec) (by rw [Sec.enc_length, Sec.enc_length]; omega) y.data.enc_one ?_; intro w5 b5 hm5 hz5; clear hz5; rw [splice_whole _ _ (by rw [Sec.enc_length, Sec.enc_length])] at b5
             have q5 : Below GB w w5 := Mod.below HB4.out.2 hm5 (fun k e => by omega) (by have := HB4.out.2.size; omega)
             have H5 := Lib.hid (And.intro b5 q5)
             clear b5 q5 hm5))
        go_roundw
        case rel => exact ⟨k + 1, by go_num, by omega, by rw [HSK.out, if_pos ha]; exact H5.out.1, H5.out.2⟩
        case measure => simp [RowKit.intOf]; omega
      · have z : ((y.at_ : Int) == (i : Int)) = false := beq_eq_false_iff_ne.2 (by omega)
        go_wp2
        go_roundw
        case rel => exact ⟨k + 1, by go_num, by omega, by rw [HSK.out, if_neg ha]; exact HB4.out.1, HB4.out.2⟩
        case measure => simp [RowKit.intOf]; omega
    · obtain rfl : k = d.wait.length := by omega
      obtain ⟨S, hS⟩ : ∃ S, S = d.seen i s d.wait.length := ⟨_, rfl⟩
      rw [← hS] at HB4
      have HSS := Lib.hid hS
      clear hS b4 q4 q4'
      have hGr : GB < wr.heap.size := HB4.out.1.lt
      obtain ⟨i0, hi, hz0, hz1, hz2⟩ := info_parts infoByteR
      go_wp2_with fail
      clear x4
      obtain ⟨wo, rfl⟩ : ∃ wo : World, wo = wr := ⟨_, rfl⟩
      go_loopw [8, 9] (fun o t wr => ∃ k : Nat, t = .int .i64 k ∧ k ≤ 64 ∧ OwnU (GB + 1) wr o (S.l.take k) ∧ Blk wr GB 90 S.enc.toArray ∧ Below GB w wr ∧ GB + 1 ≤ wr.heap.size) (fun _ t _ => 64 - (RowKit.intOf t).toNat)
      case atStart => exact ⟨0, rfl, by omega, Own.nil _ _ _ _ _, HB4.out.1, HB4.out.2, hGr⟩
      case round =>
        obtain ⟨k, rfl, hk, hO, b6, q6, hz6⟩ := hrel
        clear HB4
        by_cases hk64 : k < 64
        · have hkI : (k : Int) < 64 := by omega
          have hSl := S.h
          obtain ⟨y, hy⟩ : ∃ y, S.l[k]? = some y := ⟨_, List.getElem?_eq_getElem (by omega)⟩
          have ck : wr.cell? ⟨GB, k, none⟩ = some (.int .u8 y.toNat) := by
            rw [b6.cell, List.getElem?_toArray]
            unfold Sec.enc byteE
            rw [List.getElem?_map, hy]
            rfl
          have htk : S.l.take (k + 1) = S.l.take k ++ [y] := by
            obtain ⟨hk', e⟩ := List.getElem?_eq_some_iff.1 hy
            rw [List.take_succ_eq_append_getElem hk', e]
          have hlk : (S.l.take k).length = k := by rw [List.length_take]; omega
          obtain ⟨Ao, co, ho2⟩ := hO.slice
          rw [hlk] at ho2
          subst ho2
          have hx := Sl.new wr 5 [y] u8E_length #[.int .u8 y.toNat] rfl 1 rfl
          have hO7 := hO.alloc (.cells #[.int .u8 y.toNat] 5)
          have b7 := b6.alloc (.cells #[.int .u8 y.toNat] 5)
          have q7 := q6.alloc (by omega) (.cells #[.int .u8 y.toNat] 5)
          have HH := Lib.hid (And.intro hO7 (And.intro hx (And.intro b7 q7)))
          have HT := Lib.hid htk
          have HLK := Lib.hid hlk
          have hyT : ((y.toNat : Nat) : Int) ≤ 255 := by have := y.toNat_lt; omega
          clear hO b6 q6 hx hO7 b7 q7 htk hy hlk
          go_wp2_with (at_builtin; refine wpList_app _ rfl _ _ 31 (by rfl) (GB + 1) 5 i0 (.int .u8 0) 1 1 u8E Try.underlying31 hi hz0 hz1 hz2 rfl (by decide) u8E_length u8E_one _ _ (S.l.take k) [y] (by rfl) HH.out.1 (by rfl) HH.out.2.1 (by have := HLK.out; unfold maxLen; simp; omega) (by have := HLK.out; simp; omega) (by simp; omega) ?_
                       intro v8 w8 hO8 hg8 hat8
                       have b8 := HH.out.2.2.1.grown hg8 (fun e => by have := (HH.out.1.lt GB e.symm).1; omega)
                       have q8 := HH.out.2.2.2.grown hg8 (by simp; omega) (fun k hk => by have := (HH.out.1.lt k hk).1; omega)
                       have hz8 : GB + 1 ≤ w8.heap.size := by have := hg8.size; simp at this; omega
                       have H8 := Lib.hid (And.intro hO8 (And.intro b8 q8))
                       clear hO8 hg8 hat8 b8 q8)
          go_roundw
          case rel => exact ⟨k + 1, by go_num, by omega, by rw [HT.out]; exact H8.out.1, H8.out.2.1, H8.out.2.2, hz8⟩
          case measure => simp [RowKit.intOf]; omega
        · obtain rfl : k = 64 := by omega
          have P : ∀ o, OwnU (GB + 1) wr o (S.l.take 64) → ReadPost (d.seen i s d.wait.length) w (.returned (.tuple #[o, .int .i64 0])) wr := fun o ho => by
            rw [List.take_of_length_le (by rw [S.h]; omega)] at ho
            rw [← HSS.out]
            exact ⟨o, rfl, ho.sl u8E_length, q6.mono hg2, fun g _ _ _ e => by subst e; have := (ho.own_lt g).1; omega⟩
          have PP := Lib.hid (P _ hO)
          clear P hO b6 q6
          go_wp2
          go_ret2
          exact PP.out
end Go.Proofs.Ytaledjcbblgmeaa
