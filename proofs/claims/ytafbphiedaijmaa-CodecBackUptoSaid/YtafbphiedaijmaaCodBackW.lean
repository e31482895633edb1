/- The walk of CodecBack. -/
import Derived.Test.YtafbphiedaijmaaCodL
import Derived.Test.YtafbphiedaijmaaCodR
import Derived.Test.YtafbphiedaijmaaArr
import Derived.Deep.Cut
namespace Go.Proofs.Ytafbphiedaijmaa
open Go.RowKit Go.Lib

theorem zeroRow : ((Try.prog.info? 26).bind (·.zero)).map (·.cells) = some ([.slice none 0 0, .int .i64 0, .int .i64 0] : List Value).toArray := by kernel_rfl
theorem sizeRow : (Try.prog.info? 26).map (·.size) = some 3 := by kernel_rfl

set_option maxRecDepth 100000 in
set_option maxHeartbeats 8000000 in
theorem codecBack_walk (a0 : Rw) (va vb : Value) (l : List UInt8) (w : World) (ha : Sl 3 Vl.enc w va a0.l) (hb : SlU w vb l) (hoa : a0.ok) (hla : a0.l.length ≤ 9223372036854775807) (hlb : l.length ≤ 4398046511104) :
    Calls Try.prog 3 #[.agg #[va, .int .i64 a0.f, .int .i64 a0.t], vb] w fun e w' => e = .returned (.bool true) ∧ Below w.heap.size w w' := by
  obtain ⟨A, ca, rfl⟩ := ha.slice
  obtain ⟨B, cb, rfl⟩ := hb.slice
  obtain ⟨W0, hW0⟩ : ∃ W0, W0 = w.alloc (.cells #[.slice A a0.l.length ca, .int .i64 a0.f, .int .i64 a0.t] 26) := ⟨_, rfl⟩
  have q0 : Below w.heap.size w W0 := by rw [hW0]; exact (Below.refl _ _).alloc (Nat.le_refl _) _
  have b1 : Blk W0 w.heap.size 26 #[.slice A a0.l.length ca, .int .i64 a0.f, .int .i64 a0.t] := by rw [hW0]; exact Blk.new _ _ _
  have hltA : 0 < a0.l.length → ∀ g1 o1, A = some ⟨g1, o1, none⟩ → g1 < w.heap.size := fun h g1 o1 e => by subst e; exact ha.lt h
  have HLA := Lib.hid hltA
  have hltB : 0 < l.length → ∀ g1 o1, B = some ⟨g1, o1, none⟩ → g1 < w.heap.size := fun h g1 o1 e => by subst e; exact hb.lt h
  have HLB := Lib.hid hltB
  clear hltA hltB
  have H0 := Lib.hid (And.intro b1 (And.intro q0 (And.intro (ha.below q0) (hb.below q0))))
  have HF := Lib.hid (few4 a0 A a0.l.length ca W0 (ha.below q0) hla)
  have HO := Lib.hid (Rw.few_ok hoa)
  have HW0 := Lib.hid hW0
  have xr := b1.cell
  have hfl := a0.few_le
  clear hW0 ha hb q0 b1 hoa
  generalize hll : l.length = nl at *
  have HLL := Lib.hid hll
  clear hll
  go_enter Try.func3, Try.ntmps3
  go_upto_region 1 with (fail)
  rw [← HW0.out]
  go_wp2_with fail
  refine HF.out.mono ?_
  rintro e w1 ⟨n1, c1, rfl, hs1, hb1⟩
  have H1 := Lib.hid (And.intro (H0.out.1.below hb1 H0.out.1.lt) (And.intro hs1 (And.intro (H0.out.2.2.2.below hb1) (H0.out.2.1.trans (hb1.mono H0.out.2.1.size)))))
  clear hs1 hb1 xr
  go_wp2_with (refine wpList_store_blk (P := Try.prog) rfl 26 (.tmp 2) (.tmp 14) (by rfl) w.heap.size 0 (by rfl) _ (by rfl) [.slice A n1 c1, .int .i64 a0.f, .int .i64 a0.t] (by rfl) 26 [.slice A a0.l.length ca, .int .i64 a0.f, .int .i64 a0.t] H1.out.1 sizeRow (by simp) (by simp [Value.oneCell']) ?_
               intro w2 b2 hm2 hz2
               clear hz2
               rw [splice_whole _ _ (by simp)] at b2
               have x2 := b2.cell
               have s2 := H1.out.2.1.mod hm2 (fun hp g1 o1 e e2 => by have := HLA.out (by unfold Rw.few at hp; simp at hp; omega) g1 o1 e; omega)
               have sb2 := H1.out.2.2.1.mod hm2 (fun hp g1 o1 e e2 => by have := HLB.out (by rw [← HLL.out]; exact hp) g1 o1 e; omega)
               have q2 : Below w.heap.size w w2 := Mod.below H1.out.2.2.2 hm2 (fun k e => by omega) H1.out.2.2.2.size
               have H2 := Lib.hid (And.intro b2 (And.intro s2 (And.intro sb2 q2)))
               clear b2 s2 sb2 q2 hm2)
  clear HF HLA HLB
  generalize hfew : a0.few = a at *
  have e3 : a0.f = a.f := by rw [← hfew]; rfl
  have e4 : a0.t = a.t := by rw [← hfew]; rfl
  rw [e3, e4] at x2 H2 ⊢
  clear hfew e3 e4 H1 H0
  obtain rfl : n1 = a.l.length := H2.out.2.1.len.1
  cases hab : a.b with
  | false =>
    go_wp2_with fail
    refine (codec_encode_no a _ w2 H2.out.2.1 (by omega) hab).mono ?_
    rintro e wc ⟨rfl, bc⟩
    have HC := Lib.hid (And.intro (H2.out.2.2.1.below bc) (H2.out.2.2.2.trans (bc.mono H2.out.2.2.2.size)))
    clear bc x2
    go_wp2_with fail
    refine (codec_decode _ l wc HC.out.1 (by rw [HLL.out]; exact hlb)).mono ?_
    rintro e wd ⟨bd, ⟨r, vr, hr, rfl, hO⟩ | ⟨hno, rfl⟩⟩
    · obtain ⟨Av, cv, rfl⟩ := hO.slice
      have hrl : r.l.length ≤ 4 := (Rw.b_iff.1 hr.1).1.2
      have sbd := HC.out.1.below bd
      have qd : Below w.heap.size w wd := HC.out.2.trans (bd.mono HC.out.2.size)
      have HD := Lib.hid (And.intro hr (And.intro (hO.sl Vl.enc_length) (And.intro sbd qd)))
      clear bd hr hO sbd qd
      go_wp2_with (first
        | (refine wpList_alloc_blk (P := Try.prog) rfl 26 (by rfl) _ zeroRow ?_; intro w5 b5 hb5 hz5; clear hz5)
        | (refine wpList_store_blk (P := Try.prog) rfl 26 (.tmp 9) (.tmp 38) (by rfl) wd.heap.size 0 (by rfl) _ (by rfl) [.slice Av r.l.length cv, .int .i64 r.f, .int .i64 r.t] (by rfl) 26 _ b5 sizeRow (by simp) (by simp [Value.oneCell']) ?_
           intro w6 b6 hm6 hz6
           clear hz6
           rw [splice_whole _ _ (by simp)] at b6
           have m6 : Below wd.heap.size wd w6 := Mod.below hb5 hm6 (fun k e => by omega) (by have := hb5.size; omega)
           have x6 := b6.cell
           have H6 := Lib.hid (And.intro (HD.out.2.1.below m6) (And.intro (HD.out.2.2.1.below m6) (HD.out.2.2.2.trans (m6.mono HD.out.2.2.2.size))))
           clear b5 hb5 hm6 m6 b6))
      refine (codec_encode r _ w6 HD.out.1.2.1 H6.out.1 (by omega) HD.out.1.1).mono ?_
      rintro e w7 ⟨⟨v7, rfl, hO7⟩, b7⟩
      have H7 := Lib.hid (And.intro (hO7.sl u8E_length) (And.intro (H6.out.2.1.below b7) (H6.out.2.2.trans (b7.mono H6.out.2.2.size))))
      clear hO7 b7 x6
      go_wp2_with fail
      refine (live4 w7).mono ?_
      rintro e w8 ⟨rfl, b8⟩
      have c1 := conv_sl (H7.out.1.below b8)
      have c2 := conv_sl (H7.out.2.1.below b8)
      rw [← HD.out.1.2.2] at c1
      have HQ := Lib.hid (H7.out.2.2.trans (b8.mono H7.out.2.2.size))
      clear b8
      go_wp2
      go_ret
      exact ⟨rfl, HQ.out⟩
    · have qd : Below w.heap.size w wd := HC.out.2.trans (bd.mono HC.out.2.size)
      have HD := Lib.hid qd
      clear bd qd hno
      go_wp2_with (first
        | (refine wpList_alloc_blk (P := Try.prog) rfl 26 (by rfl) _ zeroRow ?_; intro w5 b5 hb5 hz5; clear hz5)
        | (refine wpList_store_blk (P := Try.prog) rfl 26 (.tmp 9) (.tmp 38) (by rfl) wd.heap.size 0 (by rfl) _ (by rfl) [.slice none 0 0, .int .i64 0, .int .i64 0] (by rfl) 26 _ b5 sizeRow (by simp) (by simp [Value.oneCell']) ?_
           intro w6 b6 hm6 hz6
           clear hz6
           rw [splice_whole _ _ (by simp)] at b6
           have m6 : Below wd.heap.size wd w6 := Mod.below hb5 hm6 (fun k e => by omega) (by have := hb5.size; omega)
           have H6 := Lib.hid (And.intro b6 (HD.out.trans (m6.mono HD.out.size)))
           clear b5 hb5 hm6 m6 b6))
      refine (live4 w6).mono ?_
      rintro e w8 ⟨rfl, b8⟩
      have x8 := (H6.out.1.below b8 H6.out.1.lt).cell
      have HQ := Lib.hid (H6.out.2.trans (b8.mono H6.out.2.size))
      clear b8
      go_wp2
      go_ret
      exact ⟨rfl, HQ.out⟩
  | true =>
    go_wp2_with fail
    refine (codec_encode a _ w2 HO.out H2.out.2.1 (by omega) hab).mono ?_
    rintro e w3 ⟨⟨v3, rfl, hO3⟩, b3⟩
    have hle := Rw.bytes_le hab
    have H3 := Lib.hid (And.intro (hO3.sl u8E_length) (And.intro (H2.out.2.1.below b3) (And.intro (H2.out.1.below b3 H2.out.1.lt) (And.intro (H2.out.2.2.1.below b3) (H2.out.2.2.2.trans (b3.mono H2.out.2.2.2.size))))))
    clear hO3 b3 x2
    go_wp2_with fail
    refine (codec_decode _ a.bytes w3 H3.out.1 (by omega)).mono ?_
    rintro e w4 ⟨b4, ⟨r, vr, hr, rfl, hO⟩ | ⟨hno, rfl⟩⟩
    rotate_left
    · exact absurd ⟨hab, HO.out, rfl⟩ (hno a)
    obtain rfl := isRow_one hr ⟨hab, HO.out, rfl⟩
    obtain ⟨Av, cv, rfl⟩ := hO.slice
    have H4 := Lib.hid (And.intro (hO.sl Vl.enc_length) (And.intro (H3.out.2.1.below b4) (And.intro (H3.out.2.2.1.below b4 H3.out.2.2.1.lt) (And.intro (H3.out.2.2.2.1.below b4) (H3.out.2.2.2.2.trans (b4.mono H3.out.2.2.2.2.size))))))
    have hg4 : w.heap.size < w4.heap.size := H4.out.2.2.1.lt
    clear b4 hr hO
    go_wp2_with (first
      | (refine wpList_alloc_blk (P := Try.prog) rfl 26 (by rfl) _ zeroRow ?_; intro w5 b5 hb5 hz5; clear hz5)
      | (refine wpList_store_blk (P := Try.prog) rfl 26 (.tmp 7) (.tmp 25) (by rfl) w4.heap.size 0 (by rfl) _ (by rfl) [.slice Av r.l.length cv, .int .i64 r.f, .int .i64 r.t] (by rfl) 26 _ b5 sizeRow (by simp) (by simp [Value.oneCell']) ?_
         intro w6 b6 hm6 hz6
         clear hz6
         rw [splice_whole _ _ (by simp)] at b6
         have m6 : Below w4.heap.size w4 w6 := Mod.below hb5 hm6 (fun k e => by omega) (by have := hb5.size; omega)
         have x6 := b6.cell
         have y6 := (H4.out.2.2.1.below m6 hg4).cell
         have H6 := Lib.hid (And.intro (H4.out.1.below m6) (And.intro (H4.out.2.1.below m6) (And.intro (H4.out.2.2.2.1.below m6) (H4.out.2.2.2.2.trans (m6.mono H4.out.2.2.2.2.size)))))
         clear b5 hb5 hm6 m6 b6))
    refine (ref_same_row r r _ _ w6 H6.out.1 H6.out.2.1 (by omega) (by omega)).mono ?_
    rintro e wc ⟨rfl, bc⟩
    rw [rowC_self]
    have HC := Lib.hid (And.intro (H6.out.2.2.1.below bc) (H6.out.2.2.2.trans (bc.mono H6.out.2.2.2.size)))
    clear bc x6 y6
    go_wp2_with fail
    refine (codec_decode _ l wc HC.out.1 (by rw [HLL.out]; exact hlb)).mono ?_
    rintro e wd ⟨bd, ⟨r, vr, hr, rfl, hO⟩ | ⟨hno, rfl⟩⟩
    · obtain ⟨Av, cv, rfl⟩ := hO.slice
      have hrl : r.l.length ≤ 4 := (Rw.b_iff.1 hr.1).1.2
      have sbd := HC.out.1.below bd
      have qd : Below w.heap.size w wd := HC.out.2.trans (bd.mono HC.out.2.size)
      have HD := Lib.hid (And.intro hr (And.intro (hO.sl Vl.enc_length) (And.intro sbd qd)))
      clear bd hr hO sbd qd
      go_wp2_with (first
        | (refine wpList_alloc_blk (P := Try.prog) rfl 26 (by rfl) _ zeroRow ?_; intro w5 b5 hb5 hz5; clear hz5)
        | (refine wpList_store_blk (P := Try.prog) rfl 26 (.tmp 9) (.tmp 38) (by rfl) wd.heap.size 0 (by rfl) _ (by rfl) [.slice Av r.l.length cv, .int .i64 r.f, .int .i64 r.t] (by rfl) 26 _ b5 sizeRow (by simp) (by simp [Value.oneCell']) ?_
           intro w6 b6 hm6 hz6
           clear hz6
           rw [splice_whole _ _ (by simp)] at b6
           have m6 : Below wd.heap.size wd w6 := Mod.below hb5 hm6 (fun k e => by omega) (by have := hb5.size; omega)
           have x6 := b6.cell
           have H6 := Lib.hid (And.intro (HD.out.2.1.below m6) (And.intro (HD.out.2.2.1.below m6) (HD.out.2.2.2.trans (m6.mono HD.out.2.2.2.size))))
           clear b5 hb5 hm6 m6 b6))
      refine (codec_encode r _ w6 HD.out.1.2.1 H6.out.1 (by omega) HD.out.1.1).mono ?_
      rintro e w7 ⟨⟨v7, rfl, hO7⟩, b7⟩
      have H7 := Lib.hid (And.intro (hO7.sl u8E_length) (And.intro (H6.out.2.1.below b7) (H6.out.2.2.trans (b7.mono H6.out.2.2.size))))
      clear hO7 b7 x6
      go_wp2_with fail
      refine (live4 w7).mono ?_
      rintro e w8 ⟨rfl, b8⟩
      have c1 := conv_sl (H7.out.1.below b8)
      have c2 := conv_sl (H7.out.2.1.below b8)
      rw [← HD.out.1.2.2] at c1
      have HQ := Lib.hid (H7.out.2.2.trans (b8.mono H7.out.2.2.size))
      clear b8
      go_wp2
      go_ret
      exact ⟨rfl, HQ.out⟩
    · have qd : Below w.heap.size w wd := HC.out.2.trans (bd.mono HC.out.2.size)
      have HD := Lib.hid qd
      clear bd qd hno
      go_wp2_with (first
        | (refine wpList_alloc_blk (P := Try.prog) rfl 26 (by rfl) _ zeroRow ?_; intro w5 b5 hb5 hz5; clear hz5)
        | (refine wpList_store_blk (P := Try.prog) rfl 26 (.tmp 9) (.tmp 38) (by rfl) wd.heap.size 0 (by rfl) _ (by rfl) [.slice none 0 0, .int .i64 0, .int .i64 0] (by rfl) 26 _ b5 sizeRow (by simp) (by simp [Value.oneCell']) ?_
           intro w6 b6 hm6 hz6
           clear hz6
           rw [splice_whole _ _ (by simp)] at b6
           have m6 : Below wd.heap.size wd w6 := Mod.below hb5 hm6 (fun k e => by omega) (by have := hb5.size; omega)
           have H6 := Lib.hid (And.intro b6 (HD.out.trans (m6.mono HD.out.size)))
           clear b5 hb5 hm6 m6 b6))
      refine (live4 w6).mono ?_
      rintro e w8 ⟨rfl, b8⟩
      have x8 := (H6.out.1.below b8 H6.out.1.lt).cell
      have HQ := Lib.hid (H6.out.2.trans (b8.mono H6.out.2.size))
      clear b8
      go_wp2
      go_ret
      exact ⟨rfl, HQ.out⟩
end Go.Proofs.Ytafbphiedaijmaa
