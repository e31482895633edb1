/- The program's disk: Read. -/
import Derived.Test.YtaledjcbblgmeaaDkW
namespace Go.Proofs.Ytaledjcbblgmeaa
open Go.RowKit

theorem infoByte3 : (Try.prog.info? 5).map (fun i => (i.zero.map (·.cells), i.size, i.bytes)) = some (some (u8E 0).toArray, 1, 1) := by kernel_rfl
theorem sizeSec : (Try.prog.info? 91).map (·.size) = some 64 := by kernel_rfl
theorem zeros64 : (List.replicate 64 (0 : UInt8)).flatMap u8E = Sec.zero.enc := by
  unfold Sec.zero Sec.enc byteE
  rw [u8E_flat', pad_l (by simp)]
  simp
theorem sec_u8 (s : Sec) : s.enc = s.l.flatMap u8E := by unfold Sec.enc byteE; rw [u8E_flat']

set_option maxRecDepth 100000 in
theorem disk_Read_no (B g : Nat) (d : Dk) (F : Nat → Prop) (i : Int) (w : World) (h : DP w B g d F) (hl : d.look i ≠ 0) :
    Calls Try.prog 18 #[.pointer (some ⟨g, 0, none⟩), .int .i64 i] w fun e w' => e = .returned (.tuple #[.slice none 0 0, .int .i64 (d.look i)]) ∧ w = w' := by
  obtain ⟨As, cs, Aw, cw, hb, hs, hv, hg, hok, hF⟩ := h
  have HL := disk_look g i w _ As _ cs _ _ hb hok.2.1
  have hlk : (if d.off = true then 7 else if i < 0 ∨ (d.secs.length : Int) ≤ i then 2 else 0 : Int) = d.look i := rfl
  rw [hlk] at HL
  generalize d.look i = L at *
  have z : (L == 0) = false := beq_eq_false_iff_ne.2 hl
  have HH := Lib.hid HL
  clear hb hs hv hF hlk HL hok
  go_enter Try.func18, Try.ntmps18
  go_wp2_with fail
  refine HH.out.mono ?_
  rintro e w' ⟨rfl, rfl⟩
  go_wp2
  go_ret2
  exact ⟨rfl, rfl⟩

def ReadPost (s : Sec) (w : World) (e : Ending) (w' : World) : Prop := ∃ v, e = .returned (.tuple #[v, .int .i64 0]) ∧ SlU w' v s.l ∧ Below w.heap.size w w' ∧ ∀ g o n c, v = .slice (some ⟨g, o, none⟩) n c → w.heap.size ≤ g

set_option maxRecDepth 100000 in
set_option maxHeartbeats 4000000 in
theorem disk_Read (B g : Nat) (d : Dk) (F : Nat → Prop) (i : Nat) (w : World) (h : DP w B g d F) (ho : d.off = false) (hi : i < d.secs.length) (hw : d.wait.length ≤ 1000000) :
    Calls Try.prog 18 #[.pointer (some ⟨g, 0, none⟩), .int .i64 i] w (ReadPost (d.read i) w) := by
  obtain ⟨As, cs, Aw, cw, hb, hs, hv, hg, hok, hF⟩ := h
  have HL := disk_look g i w _ As _ cs _ _ hb hok.2.1
  have hl : (if d.off = true then 7 else if (i : Int) < 0 ∨ (d.secs.length : Int) ≤ i then 2 else 0 : Int) = 0 := by rw [ho, if_neg (by decide), if_neg (by omega)]
  rw [hl] at HL
  obtain ⟨gs, rfl, -, hcs, hgs, hBs⟩ := hs.some_ (by omega)
  obtain ⟨s, hs0⟩ : ∃ s, d.secs[i]? = some s := ⟨_, List.getElem?_eq_getElem hi⟩
  have hsd : d.secs.getD i Sec.zero = s := by rw [List.getD_eq_getElem?_getD, hs0]; rfl
  have hsl := hs.sl Sec.enc_length
  have hvl := hv.sl Wr.enc_length
  have x := hb.cell
  have hiI : (i : Int) < d.secs.length := by omega
  have hn128 : (d.secs.length : Int) ≤ 128 := by have := hok.2.1; omega
  have hseen : d.read i = d.seen i s d.wait.length := by unfold Dk.read; rw [hsd]
  rw [hseen]
  have H := Lib.hid (And.intro hb (And.intro hsl (And.intro hvl hs0)))
  have hgl := hb.lt
  have HH := Lib.hid HL
  clear hb hs hv hF hl HL hok hsl hvl hs0 hsd hseen hi
  go_enter Try.func18, Try.ntmps18
  go_wp2_with fail
  refine HH.out.mono ?_
  rintro e w' ⟨rfl, rfl⟩
  go_wp2_with (first
    | (refine wpList_make_blk rfl _ _ 31 5 rfl Try.underlying31 u8E_length (by decide) 0 1 infoByte3 64 (by rfl) (by rfl) (by decide) (by decide) ?_; intro w1 b1 hb1 hz1; clear hz1; rw [zeros64] at b1
       have x1 := (H.out.1.below hb1 hgl).cell)
    | (refine wpList_copy_blk rfl (.tmp 17) (.tmp 24) _ _ (by rfl) 5 Try.underlying31 sizeByte w.heap.size 0 64 64 _ 64 64 (by rfl) (by rfl) 5 _ b1 s.enc (by rw [Sec.enc_length]; rfl) (fun _ => ⟨_, rfl, fun j v hv => by
         rw [plain_add]
         have := (H.out.2.1.below hb1).cell H.out.2.2.2 j v hv
         rwa [Nat.zero_add] at this⟩) (by rw [Sec.enc_length, Sec.enc_length]; omega) s.enc_one ?_
       intro w2 b2 hm2 hz2
       clear hz2
       rw [splice_whole _ _ (by rw [Sec.enc_length, Sec.enc_length])] at b2
       have q2 : Below w.heap.size w w2 := Mod.below hb1 hm2 (fun k e => by omega) (by have := hb1.size; omega)
       have x2 := (H.out.1.below q2 hgl).cell
       have H2 := Lib.hid b2
       clear b2 hm2 x1 b1 hb1))
  clear x x2
  have HW := Lib.hid hw
  go_loopw [8] (fun t wr => ∃ m : Nat, m ≤ d.wait.length ∧ t = .int .i64 ((m : Int) - 1) ∧ Hid (d.seen i s d.wait.length = d.seen i s m) ∧ Blk wr w.heap.size 5 s.enc.toArray ∧ Below w.heap.size w wr) (fun t _ => (RowKit.intOf t + 1).toNat)
  case atStart => exact ⟨d.wait.length, Nat.le_refl _, rfl, Lib.hid rfl, H2.out, q2⟩
  case round =>
    obtain ⟨m, hm, rfl, hsn, b3, q3⟩ := hrel
    have hz3 := q3.size
    have x3 := (H.out.1.below q3 hgl).cell
    have B3 := Lib.hid b3
    have SN := Lib.hid hsn
    clear b3 H2 q2 hsn
    rcases Nat.eq_zero_or_pos m with rfl | hm0
    · have P : ReadPost (d.seen i s d.wait.length) w (.returned (.tuple #[.slice (some ⟨w.heap.size, 0, none⟩) 64 64, .int .i64 0])) wr := by
        refine ⟨_, rfl, ?_, q3, fun _ _ _ _ e => by cases e; exact Nat.le_refl _⟩
        rw [SN.out.out]
        exact Sl.of_blk B3.out u8E_length (congrArg List.toArray (sec_u8 _)) (Sec.h _).symm (Nat.le_refl _)
      have PP := Lib.hid P
      clear P
      go_wp2
      go_ret2
      exact PP.out
    · obtain ⟨k, rfl⟩ : ∃ k, m = k + 1 := ⟨m - 1, by omega⟩
      have e1 : ((k + 1 : Nat) : Int) - 1 = (k : Int) := by omega
      obtain ⟨y, hy⟩ : ∃ y, d.wait[k]? = some y := ⟨_, List.getElem?_eq_getElem (by omega)⟩
      have hsk := d.seen_succ i s hy
      obtain ⟨gw, ow, rfl, hgw, hcw⟩ := H.out.2.2.1.at_ hy
      have hvr := (H.out.2.2.1.below q3).range hy
      have hkI : (k : Int) < (d.wait.length : Int) := by omega
      have HSK := Lib.hid hsk
      have HVR := Lib.hid hvr
      have HY := Lib.hid hy
      clear hsk hvr hy hcw hm hm0
      rw [e1]
      have hzr : w.heap.size < wr.heap.size := B3.out.lt
      have arm : ∀ w5 w6 : World, Below wr.heap.size wr w5 → Mod (· = wr.heap.size) w5 w6 → Below w.heap.size w w6 ∧ Blk w6 w.heap.size 5 s.enc.toArray := fun w5 w6 h5 h6 =>
        ⟨Mod.below (q3.trans (h5.mono hz3)) h6 (fun k e => by omega) (by have := h5.size; omega), (B3.out.below h5 hzr).mod h6 (by omega)⟩
      have ARM := Lib.hid arm
      clear arm
      by_cases ha : y.at_ = i
      · have z : ((y.at_ : Int) == (i : Int)) = true := beq_iff_eq.2 (by omega)
        go_wp2_with (first
          | (refine wpList_load_mid rfl 93 (.tmp 41) (by rfl) gw (ow + k * 65) (by rfl) y.enc _ HVR.out Try.underlying93 rfl (by rw [Wr.enc_length]; exact sizeWrite) ?_)
          | (refine wpList_alloc_blk rfl 93 (by rfl) _ zeroWrite ?_; intro w5 b5 hb5 hz5; clear hz5)
          | (refine wpList_store_blk rfl 93 _ _ (by rfl) wr.heap.size 0 (by rfl) _ (by rfl) y.enc (by rfl) 93 (Wr.enc ⟨0, Sec.zero⟩) b5 (by rw [Wr.enc_length]; exact sizeWrite) (by rw [Wr.enc_length, Wr.enc_length]; omega) y.enc_one ?_; intro w6 b6 hm6 hz6; clear hz6; rw [splice_whole _ _ (by rw [Wr.enc_length, Wr.enc_length])] at b6
             have xat : w6.cell? ⟨wr.heap.size, 0, none⟩ = some (.int .i64 y.at_) := b6.cell 0
             have A6 := Lib.hid (ARM.out w5 w6 hb5 hm6)
             have R6 := Lib.hid b6
             clear b5 hb5 hm6 b6)
          | (refine wpList_copy_blk rfl (.tmp 47) (.tmp 49) _ _ (by rfl) 5 Try.underlying31 sizeByte w.heap.size 0 64 64 _ 64 64 (by rfl) (by rfl) 5 _ A6.out.2 y.data.enc (by rw [Sec.enc_length]; rfl) (fun _ => ⟨_, rfl, fun j v hv => by
               rw [plain_add, R6.out.cell, List.getElem?_toArray, Nat.add_comm 1 j]
               exact hv⟩) (by rw [Sec.enc_length, Sec.enc_length]; omega) y.data.enc_one ?_
             intro w7 b7 hm7 hz7
             clear hz7
             rw [splice_whole _ _ (by rw [Sec.enc_length, Sec.enc_length])] at b7
             have P : ReadPost (d.seen i s d.wait.length) w (.returned (.tuple #[.slice (some ⟨w.heap.size, 0, none⟩) 64 64, .int .i64 0])) w7 := by
               refine ⟨_, rfl, ?_, Mod.below A6.out.1 hm7 (fun k e => by omega) A6.out.1.size, fun _ _ _ _ e => by cases e; exact Nat.le_refl _⟩
               rw [SN.out.out, HSK.out, if_pos ha]
               exact Sl.of_blk b7 u8E_length (congrArg List.toArray (sec_u8 _)) (Sec.h _).symm (Nat.le_refl _)
             have PP := Lib.hid P
             clear P b7 hm7))
        go_ret2
        exact PP.out
      · have z : ((y.at_ : Int) == (i : Int)) = false := beq_eq_false_iff_ne.2 (by omega)
        go_wp2_with (first
          | (refine wpList_load_mid rfl 93 (.tmp 41) (by rfl) gw (ow + k * 65) (by rfl) y.enc _ HVR.out Try.underlying93 rfl (by rw [Wr.enc_length]; exact sizeWrite) ?_)
          | (refine wpList_alloc_blk rfl 93 (by rfl) _ zeroWrite ?_; intro w5 b5 hb5 hz5; clear hz5)
          | (refine wpList_store_blk rfl 93 _ _ (by rfl) wr.heap.size 0 (by rfl) _ (by rfl) y.enc (by rfl) 93 (Wr.enc ⟨0, Sec.zero⟩) b5 (by rw [Wr.enc_length]; exact sizeWrite) (by rw [Wr.enc_length, Wr.enc_length]; omega) y.enc_one ?_; intro w6 b6 hm6 hz6; clear hz6; rw [splice_whole _ _ (by rw [Wr.enc_length, Wr.enc_length])] at b6
             have xat : w6.cell? ⟨wr.heap.size, 0, none⟩ = some (.int .i64 y.at_) := b6.cell 0
             have A6 := Lib.hid (ARM.out w5 w6 hb5 hm6)
             clear b5 hb5 hm6 b6))
        go_roundw
        case rel => exact ⟨k, by omega, rfl, Lib.hid (by rw [SN.out.out, HSK.out, if_neg ha]), A6.out.2, A6.out.1⟩
        case measure => simp [RowKit.intOf]
end Go.Proofs.Ytaledjcbblgmeaa
