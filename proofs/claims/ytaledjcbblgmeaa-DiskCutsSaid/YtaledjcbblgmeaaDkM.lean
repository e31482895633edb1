/- The program's disk: New, Size, Off, Waiting, Cut, Fork; a nil disk. -/
import Derived.Test.YtaledjcbblgmeaaDkC
namespace Go.Proofs.Ytaledjcbblgmeaa
open Go.RowKit

theorem infoSec3 : (Try.prog.info? 91).map (fun i => (i.zero.map (·.cells), i.size, i.bytes)) = some (some (Sec.enc Sec.zero).toArray, 64, 64) := by kernel_rfl
theorem infoSec : (Try.prog.info? 91).map (fun i => (i.zero, i.size, i.bytes)) = some (some (.agg (Sec.enc Sec.zero).toArray), 64, 64) := by kernel_rfl

set_option maxRecDepth 100000 in
theorem disk_Size' (B g : Nat) (d : Dk) (F : Nat → Prop) (w : World) (h : DP w B g d F) : Calls Try.prog 28 #[.pointer (some ⟨g, 0, none⟩)] w fun e w' => e = .returned (.int .i64 d.secs.length) ∧ w = w' := by
  obtain ⟨As, cs, Aw, cw, hb, hs, hv, hg, hok, hF⟩ := h
  exact disk_Size g w (.slice As d.secs.length cs) _ As _ cs _ _ hb hok.2.1
set_option maxRecDepth 100000 in
theorem disk_Off (B g : Nat) (d : Dk) (F : Nat → Prop) (w : World) (h : DP w B g d F) : Calls Try.prog 21 #[.pointer (some ⟨g, 0, none⟩)] w fun e w' => e = .returned (.bool d.off) ∧ w = w' := by
  obtain ⟨As, cs, Aw, cw, hb, hs, hv, hg, hok, hF⟩ := h
  have x := hb.cell
  clear hb hs hv hok hF
  go_enter Try.func21, Try.ntmps21
  go_wp2
  go_ret
  exact ⟨rfl, rfl⟩
set_option maxRecDepth 100000 in
theorem disk_Waiting (B g : Nat) (d : Dk) (F : Nat → Prop) (w : World) (h : DP w B g d F) : Calls Try.prog 23 #[.pointer (some ⟨g, 0, none⟩)] w fun e w' => e = .returned (.int .i64 d.wait.length) ∧ w = w' := by
  obtain ⟨As, cs, Aw, cw, hb, hs, hv, hg, hok, hF⟩ := h
  have x := hb.cell
  clear hb hs hv hok hF
  go_enter Try.func23, Try.ntmps23
  go_wp2
  go_ret
  exact ⟨rfl, rfl⟩
def CutPost (B g : Nat) (d : Dk) (F : Nat → Prop) (n : Int) (w : World) (e : Ending) (w' : World) : Prop := e = .returned (.tuple #[]) ∧ DP w' B g (d.cut n) F ∧ Upd F w F w'
set_option maxRecDepth 100000 in
theorem disk_Cut (B g : Nat) (d : Dk) (F : Nat → Prop) (n : Int) (w : World) (h : DP w B g d F) (hn : n ≤ 9223372036854775807) :
    Calls Try.prog 20 #[.pointer (some ⟨g, 0, none⟩), .int .i64 n] w (CutPost B g d F n w) := by
  have HD := Lib.hid h
  obtain ⟨As, cs, Aw, cw, hb, hs, hv, hg, hok, hF⟩ := h
  have x := hb.cell
  have y := hb.frozen
  have HB := Lib.hid (And.intro hb (And.intro hs (And.intro hv hF)))
  have hgl := hb.lt
  clear hb hs hv hF
  have HN := Lib.hid hn
  clear hn
  cases ho : d.off with
  | true =>
    rw [ho] at x
    have P : CutPost B g d F n w (.returned (.tuple #[])) w := ⟨rfl, by unfold Dk.cut; rw [if_pos ho]; exact HD.out, Upd.refl _ _⟩
    have HP := Lib.hid P
    clear P HD HB hok
    go_enter Try.func20, Try.ntmps20
    go_wp2
    go_end0
    exact HP.out
  | false =>
    rw [ho] at x
    have P : ∀ m : Int, m = (n.toNat : Int) → CutPost B g d F n w (.returned (.tuple #[])) (w.setCell ⟨g, 2, none⟩ (.int .i64 m)) := fun m hm => by
      obtain ⟨hb, hs, hv, hF⟩ := HB.out
      subst hm
      have e : d.cut n = { d with fuse := some n.toNat } := by unfold Dk.cut; rw [if_neg (by simp [ho])]
      have hok2 := Dk.ok_cut hok HN.out
      rw [e] at hok2
      have M : Mod F w (w.setCell ⟨g, 2, none⟩ (.int .i64 n.toNat)) := (Mod.refl F w).then_set (p := ⟨g, 2, none⟩) (.inl ((hF g).2 (.inl rfl))) _
      refine ⟨rfl, ?_, M, fun i hi => .inl hi⟩
      rw [e]
      exact ⟨As, cs, Aw, cw, hb.set_ 2 _, hs.far (p := ⟨g, 2, none⟩) (hs.ne_blk hb (by decide)) _, hv.far (p := ⟨g, 2, none⟩) (hv.ne_blk hb (by decide)) _, hg, hok2, hF⟩
    have HP := Lib.hid P
    clear P HD HB hok
    by_cases h0 : 0 ≤ n
    · have e : max n 0 = n := by omega
      have hnn : ¬ n < 0 := by omega
      go_enter Try.func20, Try.ntmps20
      go_wp2
      go_end0
      exact HP.out _ (by omega)
    · have e : max n 0 = 0 := by omega
      have hnn : n < 0 := by omega
      go_enter Try.func20, Try.ntmps20
      go_wp2
      go_end0
      exact HP.out _ (by omega)
def NewPost (n : Nat) (w : World) (e : Ending) (w' : World) : Prop := ∃ g F, e = .returned (.pointer (some ⟨g, 0, none⟩)) ∧ DP w' w.heap.size g (Dk.new n) F ∧ Below w.heap.size w w'
set_option maxRecDepth 100000 in
theorem disk_New (n : Nat) (w : World) (h1 : 1 ≤ n) (h2 : n ≤ 128) : Calls Try.prog 29 #[.int .i64 n] w (NewPost n w) := by
  have a1 : ¬ (n : Int) < 1 := by omega
  have a2 : ¬ (128 : Int) < n := by omega
  go_enter Try.func29, Try.ntmps29
  go_wp2_with (first
    | (refine wpList_make_blk rfl _ _ 86 91 rfl Try.underlying86 Sec.enc_length (by decide) Sec.zero 64 infoSec3 n (by rfl) (by rfl) (by omega) (by unfold maxLen; omega) ?_; intro w1 b1 hb1 hz1
       have HB := Lib.hid (And.intro b1 (And.intro hb1 hz1))
       clear b1 hb1 hz1))
  go_ret
  obtain ⟨b1, hb1, hz1⟩ := HB.out
  have hl : (List.replicate n Sec.zero).length = n := List.length_replicate ..
  have hO := Own.of_blk (B := w.heap.size) b1 Sec.enc_length rfl hl.symm (Nat.le_refl _) (by rw [hl]; unfold maxLen; omega)
  refine ⟨w1.heap.size, _, rfl, DP.mk' (d := Dk.new n) (Blk.new _ _ _) hl.symm rfl (hO.alloc _) (Own.nil _ _ _ _ _) (by omega) (Dk.ok_new h2), ?_⟩
  exact hb1.trans ((Below.refl _ _).alloc (by omega) _)
set_option maxRecDepth 100000 in
theorem disk_New_no (n : Int) (w : World) (h : n < 1 ∨ 128 < n) : Calls Try.prog 29 #[.int .i64 n] w fun e w' => e = .returned (.pointer none) ∧ w = w' := by
  by_cases a1 : n < 1
  · go_enter Try.func29, Try.ntmps29
    go_wp2
    go_ret
    exact ⟨rfl, rfl⟩
  · have a2 : 128 < n := by omega
    go_enter Try.func29, Try.ntmps29
    go_wp2
    go_ret
    exact ⟨rfl, rfl⟩
theorem zeroDisk : ((Try.prog.info? 89).bind (·.zero)).map (·.cells) = some ([.slice none 0 0, .slice none 0 0, .int .i64 0, .bool false] : List Value).toArray := by kernel_rfl
theorem sizeDisk : (Try.prog.info? 89).map (·.size) = some 4 := by kernel_rfl
def ForkPost (d : Dk) (w : World) (e : Ending) (w' : World) : Prop := ∃ g F, e = .returned (.pointer (some ⟨g, 0, none⟩)) ∧ DP w' w.heap.size g d F ∧ Below w.heap.size w w'
set_option maxRecDepth 100000 in
set_option maxHeartbeats 2000000 in
theorem disk_Fork (B g : Nat) (d : Dk) (F : Nat → Prop) (w : World) (h : DP w B g d F) (hw : d.wait.length ≤ 1000000) : Calls Try.prog 25 #[.pointer (some ⟨g, 0, none⟩)] w (ForkPost d w) := by
  obtain ⟨As, cs, Aw, cw, hb, hs, hv, hg, hok, hF⟩ := h
  obtain ⟨i0, hi, hz0, hz1, hz2⟩ := info_parts infoSec
  obtain ⟨j0, hj, hy0, hy1, hy2⟩ := info_parts infoWrite
  have hsl := hs.sl Sec.enc_length
  have hvl := hv.sl Wr.enc_length
  have hs128 := hok.2.1
  have x := hb.cell
  have hgl := hb.lt
  have HB := Lib.hid (And.intro hb (And.intro hsl (And.intro hvl hok)))
  have HW := Lib.hid hw
  clear hb hs hv hF hsl hvl hok hw
  go_enter Try.func25, Try.ntmps25
  go_wp2_with (first
    | (refine wpList_alloc_blk rfl 89 (by rfl) _ zeroDisk ?_; intro w1 b1 hb1 hz1; clear hz1)
    | (refine wpList_store_blk rfl 89 (.tmp 3) (.tmp 8) (by rfl) w.heap.size 0 (by rfl) _ (by rfl) [.slice As d.secs.length cs, .slice Aw d.wait.length cw, .int .i64 (fuseI d.fuse), .bool d.off] (by rfl) 89 _ b1 sizeDisk (by simp) (by simp [Value.oneCell']) ?_
       intro w2 b2 hm2 hz2
       clear hz2
       rw [splice_whole _ _ (by simp)] at b2
       have q2 : Below w.heap.size w w2 := Mod.below hb1 hm2 (fun k e => by omega) hb1.size
       have x2 := (HB.out.1.below q2 hgl).cell
       have B2 := Lib.hid b2
       have hS2 := HB.out.2.1.below q2
       have hB2 : w.heap.size ≤ w2.heap.size := q2.size
       have HS2 := Lib.hid hS2
       clear b1 hb1 hm2 b2 hS2 x)
    | (at_builtin
       refine wpList_app _ rfl _ (.tmp 12) 86 (by rfl) w.heap.size 91 i0 _ 64 64 Sec.enc Try.underlying86 hi hz0 hz1 hz2 rfl (by decide) Sec.enc_length Sec.enc_one _ _ [] d.secs (by rfl) (Own.nil _ _ _ _ _) (by rfl) HS2.out (by unfold maxLen; simp; omega) (by simp; omega) hB2 ?_
       intro v3 w3 hO3 hg3 hat3
       rw [List.nil_append] at hO3
       obtain ⟨A3, c3, rfl⟩ := hO3.slice
       have b3 := B2.out.grown hg3 (by simp [Value.ownBlock])
       have q3 := q2.grown hg3 hB2 (by simp [Value.ownBlock])
       have HO3 := Lib.hid (And.intro hO3 (And.intro b3 q3))
       clear hO3 hg3 hat3 x2 b3 q2 q3)
    | (refine wpList_store_blk rfl 86 (.tmp 14) (.tmp 13) (by rfl) w.heap.size 0 (by rfl) _ (by rfl) [.slice A3 d.secs.length c3] (by rfl) 89 _ HO3.out.2.1 (by kernel_rfl) (by simp) (by simp [Value.oneCell']) ?_
       intro w4 b4 hm4 hz4
       clear hz4
       have b4 : Blk w4 w.heap.size 89 [.slice A3 d.secs.length c3, .slice Aw d.wait.length cw, .int .i64 (fuseI d.fuse), .bool d.off].toArray := b4
       have hO4 := HO3.out.1.mod hm4 (fun k hk e => by subst e; exact HO3.out.1.ne_blk HO3.out.2.1 (by decide) hk)
       have q4 : Below w.heap.size w w4 := Mod.below HO3.out.2.2 hm4 (fun k e => by omega) HO3.out.2.2.size
       have x4 := (HB.out.1.below q4 hgl).cell
       have HV4 := Lib.hid (HB.out.2.2.1.below q4)
       have hB4 : w.heap.size ≤ w4.heap.size := q4.size
       have H4 := Lib.hid (And.intro hO4 (And.intro b4 q4))
       clear hO4 b4 q4 hm4)
    | (at_builtin
       refine wpList_app _ rfl _ (.tmp 18) 87 (by rfl) w.heap.size 93 j0 _ 65 72 Wr.enc Try.underlying87 hj hy0 hy1 hy2 rfl (by decide) Wr.enc_length Wr.enc_one _ _ [] d.wait (by rfl) (Own.nil _ _ _ _ _) (by rfl) HV4.out (by have := HW.out; unfold maxLen; simp; omega) (by have := HW.out; simp; omega) hB4 ?_
       intro v5 w5 hO5 hg5 hat5
       rw [List.nil_append] at hO5
       obtain ⟨A5, c5, rfl⟩ := hO5.slice
       have b5 := H4.out.2.1.grown hg5 (by simp [Value.ownBlock])
       have q5 := H4.out.2.2.grown hg5 hB4 (by simp [Value.ownBlock])
       have hS5 := H4.out.1.kept hg5 (by cases hh : (Value.slice A3 d.secs.length c3).ownBlock <;> simp [Value.ownBlock])
       have HO5 := Lib.hid (And.intro hO5 (And.intro hS5 (And.intro b5 q5)))
       clear hO5 hg5 hat5 x4 b5 q5 hS5)
    | (refine wpList_store_blk rfl 87 (.tmp 20) (.tmp 19) (by rfl) w.heap.size 1 (by rfl) _ (by rfl) [.slice A5 d.wait.length c5] (by rfl) 89 _ HO5.out.2.2.1 (by kernel_rfl) (by simp) (by simp [Value.oneCell']) ?_
       intro w6 b6 hm6 hz6
       clear hz6
       have b6 : Blk w6 w.heap.size 89 [.slice A3 d.secs.length c3, .slice A5 d.wait.length c5, .int .i64 (fuseI d.fuse), .bool d.off].toArray := b6
       have hO6 := HO5.out.1.mod hm6 (fun k hk e => by subst e; exact HO5.out.1.ne_blk HO5.out.2.2.1 (by decide) hk)
       have hS6 := HO5.out.2.1.mod hm6 (fun k hk e => by subst e; exact HO5.out.2.1.ne_blk HO5.out.2.2.1 (by decide) hk)
       have q6 : Below w.heap.size w w6 := Mod.below HO5.out.2.2.2 hm6 (fun k e => by omega) HO5.out.2.2.2.size
       have H6 := Lib.hid (And.intro hO6 (And.intro hS6 (And.intro b6 q6)))
       clear hO6 hS6 b6 q6 hm6))
  go_ret
  obtain ⟨hO6, hS6, b6, q6⟩ := H6.out
  exact ⟨w.heap.size, _, rfl, DP.mk' b6 rfl rfl hS6 hO6 (Nat.le_refl _) HB.out.2.2.2, q6⟩
end Go.Proofs.Ytaledjcbblgmeaa
