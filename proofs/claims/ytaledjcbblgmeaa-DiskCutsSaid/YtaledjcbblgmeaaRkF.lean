/- The reference's disk: Fork; a nil disk. -/
import Derived.Test.YtaledjcbblgmeaaRkC
namespace Go.Proofs.Ytaledjcbblgmeaa
open Go.RowKit

theorem zeroRDisk : ((Try.prog.info? 98).bind (·.zero)).map (·.cells) = some ([.slice none 0 0, .slice none 0 0, .bool false, .int .i64 0, .bool false] : List Value).toArray := by kernel_rfl
theorem sizeRDisk : (Try.prog.info? 98).map (·.size) = some 5 := by kernel_rfl
def RForkPost (d : Dk) (w : World) (e : Ending) (w' : World) : Prop := ∃ g F, e = .returned (.pointer (some ⟨g, 0, none⟩)) ∧ RP w' w.heap.size g d F ∧ Below w.heap.size w w'
set_option maxRecDepth 100000 in
set_option maxHeartbeats 4000000 in
theorem rdisk_Fork (B g : Nat) (d : Dk) (F : Nat → Prop) (w : World) (h : RP w B g d F) (hw : d.wait.length ≤ 1000000) : Calls Try.prog 26 #[.pointer (some ⟨g, 0, none⟩)] w (RForkPost d w) := by
  obtain ⟨As, cs, Aw, cw, left, hb, h0, hs, hv, hg, hok, hF⟩ := h
  obtain ⟨i0, hi, hz0, hz1, hz2⟩ := info_parts infoRSec
  obtain ⟨j0, hj, hy0, hy1, hy2⟩ := info_parts infoRWrite
  have hsl := hs.sl Sec.enc_length
  have hvl := hv.sl Wr.enc_length
  have hs128 := hok.2.1
  have x := hb.cell
  have hgl := hb.lt
  have HB := Lib.hid (And.intro hb (And.intro hsl (And.intro hvl hok)))
  have HW := Lib.hid hw
  have H0 := Lib.hid h0
  clear hb hs hv hF hsl hvl hok hw h0
  go_enter Try.func26, Try.ntmps26
  go_wp2_with (first
    | (refine wpList_alloc_blk rfl 98 (by rfl) _ zeroRDisk ?_; intro w1 b1 hb1 hz1; clear hz1)
    | (refine wpList_store_blk rfl 98 (.tmp 3) (.tmp 8) (by rfl) w.heap.size 0 (by rfl) _ (by rfl) [.slice As d.secs.length cs, .slice Aw d.wait.length cw, .bool d.fuse.isSome, .int .i64 left, .bool d.off] (by rfl) 98 _ b1 sizeRDisk (by simp) (by simp [Value.oneCell']) ?_
       intro w2 b2 hm2 hz2
       clear hz2
       rw [splice_whole _ _ (by simp)] at b2
       have q2 : Below w.heap.size w w2 := Mod.below hb1 hm2 (fun k e => by omega) hb1.size
       have B2 := Lib.hid (And.intro b2 q2)
       clear b1 hb1 hm2 b2 q2 x)
    | (refine wpList_empty rfl 95 90 (by rfl) Try.underlying95 (by kernel_rfl) ?_
       intro w3 b3 hb3 hz3
       clear hz3
       have g2 : w.heap.size ≤ w2.heap.size := B2.out.2.size
       have hO3 : Own w.heap.size 90 64 Sec.enc w3 (.slice (some ⟨w2.heap.size, 0, none⟩) 0 0) ([] : List Sec) := Own.of_blk b3 Sec.enc_length rfl rfl g2 (by simp)
       have q3 := B2.out.2.trans (hb3.mono g2)
       have x3 := (HB.out.1.below q3 hgl).cell
       have s3 := B2.out.1.below hb3 B2.out.1.lt
       have H3 := Lib.hid (And.intro hO3 (And.intro q3 (And.intro s3 (HB.out.2.1.below q3))))
       have hB3 : w.heap.size ≤ w3.heap.size := q3.size
       have hn3 := s3.lt
       clear b3 hb3 hO3 q3 s3)
    | (at_builtin
       refine wpList_app _ rfl (.tmp 9) (.tmp 13) 95 (by rfl) w.heap.size 90 i0 _ 64 64 Sec.enc Try.underlying95 hi hz0 hz1 hz2 rfl (by decide) Sec.enc_length Sec.enc_one _ _ [] d.secs (by rfl) H3.out.1 (by rfl) H3.out.2.2.2 (by unfold maxLen; simp; omega) (by simp; omega) hB3 ?_
       intro v4 w4 hO4 hg4 hat4
       rw [List.nil_append] at hO4
       obtain ⟨A4, c4, rfl⟩ := hO4.slice
       have b4 := H3.out.2.2.1.grown hg4 (fun e => by have := H3.out.2.2.1; exact (H3.out.1.ne_blk this (by decide)) e.symm)
       have q4 := H3.out.2.1.grown hg4 hB3 (fun k hk => (H3.out.1.lt k hk).1)
       have H4 := Lib.hid (And.intro hO4 (And.intro b4 q4))
       clear hO4 hg4 hat4 b4 q4 x3)
    | (refine wpList_store_blk rfl 95 (.tmp 15) (.tmp 14) (by rfl) w.heap.size 0 (by rfl) _ (by rfl) [.slice A4 d.secs.length c4] (by rfl) 98 _ H4.out.2.1 (by kernel_rfl) (by simp) (by simp [Value.oneCell']) ?_
       intro w5 b5 hm5 hz5
       clear hz5
       have b5 : Blk w5 w.heap.size 98 [.slice A4 d.secs.length c4, .slice Aw d.wait.length cw, .bool d.fuse.isSome, .int .i64 left, .bool d.off].toArray := b5
       have hO5 := H4.out.1.mod hm5 (fun k hk e => by subst e; exact H4.out.1.ne_blk H4.out.2.1 (by decide) hk)
       have q5 : Below w.heap.size w w5 := Mod.below H4.out.2.2 hm5 (fun k e => by omega) H4.out.2.2.size
       have H5 := Lib.hid (And.intro hO5 (And.intro b5 q5))
       clear hO5 b5 q5 hm5)
    | (refine wpList_empty rfl 96 126 (by rfl) Try.underlying96 (by kernel_rfl) ?_
       intro w6 b6 hb6 hz6
       clear hz6
       have g6 : w.heap.size ≤ w5.heap.size := H5.out.2.2.size
       have hO6 : Own w.heap.size 126 65 Wr.enc w6 (.slice (some ⟨w5.heap.size, 0, none⟩) 0 0) ([] : List Wr) := Own.of_blk b6 Wr.enc_length rfl rfl g6 (by simp)
       have q6 := H5.out.2.2.trans (hb6.mono g6)
       have x6 := (HB.out.1.below q6 hgl).cell
       have s6 := H5.out.2.1.below hb6 H5.out.2.1.lt
       have H6 := Lib.hid (And.intro hO6 (And.intro q6 (And.intro s6 (And.intro (HB.out.2.2.1.below q6) (H5.out.1.below hb6)))))
       have hB6 : w.heap.size ≤ w6.heap.size := q6.size
       clear b6 hb6 hO6 q6 s6)
    | (at_builtin
       refine wpList_app _ rfl (.tmp 16) (.tmp 20) 96 (by rfl) w.heap.size 126 j0 _ 65 72 Wr.enc Try.underlying96 hj hy0 hy1 hy2 rfl (by decide) Wr.enc_length Wr.enc_one _ _ [] d.wait (by rfl) H6.out.1 (by rfl) H6.out.2.2.2.1 (by have := HW.out; unfold maxLen; simp; omega) (by have := HW.out; simp; omega) hB6 ?_
       intro v7 w7 hO7 hg7 hat7
       rw [List.nil_append] at hO7
       obtain ⟨A7, c7, rfl⟩ := hO7.slice
       have b7 := H6.out.2.2.1.grown hg7 (fun e => by have := H6.out.2.2.1; exact (H6.out.1.ne_blk this (by decide)) e.symm)
       have q7 := H6.out.2.1.grown hg7 hB6 (fun k hk => (H6.out.1.lt k hk).1)
       have hS7 := H6.out.2.2.2.2.kept hg7 (H6.out.2.2.2.2.ne_of H6.out.1 (by decide))
       have H7 := Lib.hid (And.intro hO7 (And.intro hS7 (And.intro b7 q7)))
       clear hO7 hg7 hat7 b7 q7 hS7 x6)
    | (refine wpList_store_blk rfl 96 (.tmp 22) (.tmp 21) (by rfl) w.heap.size 1 (by rfl) _ (by rfl) [.slice A7 d.wait.length c7] (by rfl) 98 _ H7.out.2.2.1 (by kernel_rfl) (by simp) (by simp [Value.oneCell']) ?_
       intro w8 b8 hm8 hz8
       clear hz8
       have b8 : Blk w8 w.heap.size 98 [.slice A4 d.secs.length c4, .slice A7 d.wait.length c7, .bool d.fuse.isSome, .int .i64 left, .bool d.off].toArray := b8
       have hO8 := H7.out.1.mod hm8 (fun k hk e => by subst e; exact H7.out.1.ne_blk H7.out.2.2.1 (by decide) hk)
       have hS8 := H7.out.2.1.mod hm8 (fun k hk e => by subst e; exact H7.out.2.1.ne_blk H7.out.2.2.1 (by decide) hk)
       have q8 : Below w.heap.size w w8 := Mod.below H7.out.2.2.2 hm8 (fun k e => by omega) H7.out.2.2.2.size
       have H8 := Lib.hid (And.intro hO8 (And.intro hS8 (And.intro b8 q8)))
       clear hO8 hS8 b8 q8 hm8))
  go_ret
  obtain ⟨hO8, hS8, b8, q8⟩ := H8.out
  exact ⟨w.heap.size, _, rfl, RP.mk' b8 rfl H0.out rfl rfl hS8 hO8 (Nat.le_refl _) HB.out.2.2.2, q8⟩

/-! A nil disk of the program. -/
theorem none_Write (i : Int) (A : Option Addr) (n c : Nat) (w : World) : Calls Try.prog 19 #[.pointer none, .int .i64 i, .slice A n c] w fun e w' => e = .returned (.int .i64 1) ∧ w = w' := by
  have hl : Calls Try.prog 50 #[.pointer none, .int .i64 i] w fun e w' => e = .returned (.int .i64 1) ∧ w = w' := by
    go_enter Try.func50, Try.ntmps50
    go_wp2
    go_ret
    exact ⟨rfl, rfl⟩
  go_enter Try.func19, Try.ntmps19
  go_wp2_with fail
  refine hl.mono ?_
  rintro e w' ⟨rfl, rfl⟩
  go_wp2
  go_ret
  exact ⟨rfl, rfl⟩
theorem none_Read (i : Int) (w : World) : Calls Try.prog 18 #[.pointer none, .int .i64 i] w fun e w' => e = .returned (.tuple #[.slice none 0 0, .int .i64 1]) ∧ w = w' := by
  have hl : Calls Try.prog 50 #[.pointer none, .int .i64 i] w fun e w' => e = .returned (.int .i64 1) ∧ w = w' := by
    go_enter Try.func50, Try.ntmps50
    go_wp2
    go_ret
    exact ⟨rfl, rfl⟩
  go_enter Try.func18, Try.ntmps18
  go_wp2_with fail
  refine hl.mono ?_
  rintro e w' ⟨rfl, rfl⟩
  go_wp2
  go_ret2
  exact ⟨rfl, rfl⟩
theorem none_Flush (w : World) : Calls Try.prog 22 #[.pointer none] w fun e w' => e = .returned (.int .i64 1) ∧ w = w' := by
  go_enter Try.func22, Try.ntmps22
  go_wp2
  go_ret
  exact ⟨rfl, rfl⟩
theorem none_Size (w : World) : Calls Try.prog 28 #[.pointer none] w fun e w' => e = .returned (.int .i64 0) ∧ w = w' := by
  go_enter Try.func28, Try.ntmps28
  go_wp2
  go_ret
  exact ⟨rfl, rfl⟩
theorem none_Off (w : World) : Calls Try.prog 21 #[.pointer none] w fun e w' => e = .returned (.bool false) ∧ w = w' := by
  go_enter Try.func21, Try.ntmps21
  go_wp2
  go_ret
  exact ⟨rfl, rfl⟩
theorem none_Waiting (w : World) : Calls Try.prog 23 #[.pointer none] w fun e w' => e = .returned (.int .i64 0) ∧ w = w' := by
  go_enter Try.func23, Try.ntmps23
  go_wp2
  go_ret
  exact ⟨rfl, rfl⟩
theorem none_Fork (w : World) : Calls Try.prog 25 #[.pointer none] w fun e w' => e = .returned (.pointer none) ∧ w = w' := by
  go_enter Try.func25, Try.ntmps25
  go_wp2
  go_ret
  exact ⟨rfl, rfl⟩
theorem none_Cut (n : Int) (w : World) : Calls Try.prog 20 #[.pointer none, .int .i64 n] w fun e w' => e = .returned (.tuple #[]) ∧ w = w' := by
  go_enter Try.func20, Try.ntmps20
  go_wp2
  refine bodyPost_ret (results_none rfl _ _ _) rfl ?_
  exact ⟨rfl, rfl⟩
theorem none_Crash (A : Option Addr) (n c : Nat) (w : World) : Calls Try.prog 17 #[.pointer none, .slice A n c] w fun e w' => e = .returned (.tuple #[]) ∧ w = w' := by
  go_enter Try.func17, Try.ntmps17
  go_wp2
  refine bodyPost_ret (results_none rfl _ _ _) rfl ?_
  exact ⟨rfl, rfl⟩
end Go.Proofs.Ytaledjcbblgmeaa
