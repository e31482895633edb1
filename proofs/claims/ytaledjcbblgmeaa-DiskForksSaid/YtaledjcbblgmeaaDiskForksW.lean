/- The walk of DiskForks. -/
import Derived.Test.YtaledjcbblgmeaaDkV
namespace Go.Proofs.Ytaledjcbblgmeaa
open Go.RowKit

set_option maxRecDepth 100000 in
set_option maxHeartbeats 8000000 in
theorem diskForks_walk (v vm : Value) (l more : List De) (w : World) (hS : Sl 4 De.enc w v l) (hr : ∀ x ∈ l, x.ok w) (hl : l.length ≤ maxLen) (hS2 : Sl 4 De.enc w vm more) (hr2 : ∀ x ∈ more, x.ok w) (hl2 : more.length ≤ maxLen) :
    Calls Try.prog 7 #[v, vm] w fun e w' => e = .returned (.bool true) ∧ Below w.heap.size w w' := by
  have HP := Lib.hid (play5 v l w hS hr hl)
  unfold maxLen at hl2
  obtain ⟨A, c, rfl⟩ := hS2.slice
  have HS := Lib.hid hS2
  have HR := Lib.hid hr2
  clear hS hr hl hS2 hr2
  go_enter Try.func7, Try.ntmps7
  go_wp2_with fail
  refine HP.out.mono ?_
  rintro e w1 ⟨gd, gr, D, F, rfl, hP, hD4, hDw, hB⟩
  have H1 := Lib.hid (And.intro hP (And.intro hDw hB))
  clear hP hD4 hDw hB HP
  go_wp2_with fail
  refine (live5 w1).mono ?_
  rintro e w2 ⟨rfl, b2⟩
  have p2 := H1.out.1.below b2
  have q2 := H1.out.2.2.trans (b2.mono H1.out.2.2.size)
  have HDW : Hid (D.wait.length ≤ 40) := Lib.hid H1.out.2.1
  have H2 := Lib.hid (And.intro p2 q2)
  have z2 := q2.size
  obtain ⟨F1, F2, p1, p1r, _, _⟩ := p2
  have HF := Lib.hid (And.intro p1 p1r)
  clear q2 b2 H1 p1 p1r
  go_wp2_with fail
  refine (disk_Fork w.heap.size gd D F1 w2 HF.out.1 (by have := HDW.out; omega)).mono ?_
  rintro e w3 ⟨gf, G1, rfl, h3, b3⟩
  have H3 := Lib.hid (And.intro h3 (And.intro b3 (HF.out.2.below b3)))
  have z3 := b3.size
  clear h3 b3 HF
  go_wp2_with fail
  refine (rdisk_Fork w.heap.size gr D F2 w3 H3.out.2.2 (by have := HDW.out; omega)).mono ?_
  rintro e w4 ⟨gg, G2, rfl, h4, b4⟩
  have P2 := Pair.made (B := w2.heap.size) H3.out.1 h4 b4 z3
  have q4 : Below w2.heap.size w2 w4 := H3.out.2.1.trans (b4.mono z3)
  have H4 := Lib.hid (And.intro (H2.out.1.below q4) (And.intro P2 (And.intro (H2.out.2.trans (q4.mono z2)) q4.size)))
  have HFL := Lib.hid (fun i hi => (H2.out.1.lt i hi).2)
  clear h4 b4 P2 q4 H3 H2 z3
  go_wp2_with fail
  go_loopw [10] (fun t wr => ∃ (k : Nat) (D' : Dk) (G : Nat → Prop), t = .int .i64 k ∧ k ≤ more.length ∧ k ≤ 14 ∧ Pair wr w.heap.size gd gr D F ∧ Pair wr w2.heap.size gf gg D' G ∧ D'.wait.length ≤ 40 + k ∧ Below w.heap.size w wr ∧ w2.heap.size ≤ wr.heap.size) (fun t _ => more.length - (RowKit.intOf t).toNat)
  case atStart => exact ⟨0, D, _, rfl, by omega, by omega, H4.out.1, H4.out.2.1, by have := HDW.out; omega, H4.out.2.2.1, H4.out.2.2.2⟩
  case round =>
    clear H4
    obtain ⟨k, D', G, rfl, hk, hk14, hP, hQ, hDw', hB, hzr⟩ := hrel
    have HH := Lib.hid (And.intro hP (And.intro hQ (And.intro hDw' hB)))
    clear hP hQ hDw' hB
    by_cases hgo : k < more.length ∧ k < 14
    · obtain ⟨hkl, hkt⟩ := hgo
      obtain ⟨x, hx⟩ : ∃ x, more[k]? = some x := ⟨_, List.getElem?_eq_getElem hkl⟩
      have hklI : (k : Int) < (more.length : Int) := by omega
      have hktI : (k : Int) < 14 := by omega
      obtain ⟨g, o, rfl, hg, hc⟩ := HS.out.at_ hx
      obtain ⟨hxi, b, keep, hxb, hxk⟩ := HR.out x (List.mem_of_getElem? hx)
      obtain ⟨kind, i, vB, vK⟩ := x
      obtain ⟨AB, cB, rfl⟩ := hxb.slice
      obtain ⟨AK, cK, rfl⟩ := hxk.slice
      have hB := HH.out.2.2.2
      have hz := hB.size
      have c0 := (hB.cell (p := ⟨g, _, none⟩) hg).trans (hc 0 _ rfl)
      have c1 := (hB.cell (p := ⟨g, _, none⟩) hg).trans (hc 1 _ rfl)
      have c2 := (hB.cell (p := ⟨g, _, none⟩) hg).trans (hc 2 _ rfl)
      have c3 := (hB.cell (p := ⟨g, _, none⟩) hg).trans (hc 3 _ rfl)
      rw [Nat.add_zero] at c0
      have HB := Lib.hid (And.intro hxb (And.intro hxk hxi))
      clear hc hx hxb hxk hxi hB
      go_wp2_with fail
      refine (do5 w2.heap.size gf gg D' G kind i b keep AB AK b.length cB keep.length cK wr HH.out.2.1 hzr (by have := HH.out.2.2.1; omega) (HB.out.1.below HH.out.2.2.2) (HB.out.2.1.below HH.out.2.2.2)
        (fun hp g o e => by subst e; have := HB.out.1.lt hp; omega) (fun hp g o e => by subst e; have := HB.out.2.1.lt hp; omega) HB.out.2.2.2).mono ?_
      rintro e w5 ⟨rfl, G', hP5, u5⟩
      have q5 : Below w.heap.size w w5 := Mod.below HH.out.2.2.2 u5.1 (fun i hi => by have := (HH.out.2.1.lt i hi).1; omega) hz
      have p5 := HH.out.1.mod u5.1 (fun i hi hf => by have := (HH.out.2.1.lt i hi).1; have := HFL.out i hf; omega)
      have H5 := Lib.hid (And.intro hP5 (And.intro p5 q5))
      have z5 : w2.heap.size ≤ w5.heap.size := Nat.le_trans hzr u5.1.size
      clear hP5 u5 q5 p5 c0 c1 c2 c3
      go_wp2
      go_roundw
      case rel => exact ⟨k + 1, _, G', by go_num, by omega, by omega, H5.out.2.1, H5.out.1, Nat.le_trans (Dk.deed_wait _ _ _ _ _) (by have := HH.out.2.2.1; omega), H5.out.2.2, z5⟩
      case measure => simp [RowKit.intOf]; omega
    · have hcase : ((k : Int) < (more.length : Int) ∧ decide ((k : Int) < 14) = false) ∨ ¬ (k : Int) < (more.length : Int) := by
        by_cases h : k < more.length
        · exact .inl ⟨by omega, by simp; omega⟩
        · exact .inr (by omega)
      have hzw := HH.out.2.2.2.size
      rcases hcase with ⟨h1, h2⟩ | h1
      all_goals
        go_wp2_with (first
          | (go_at_call 17; refine (none_Crash _ _ _ _).mono ?_; rintro e w' ⟨rfl, rfl⟩)
          | (go_at_call 20; refine (none_Cut _ _).mono ?_; rintro e w' ⟨rfl, rfl⟩)
          | (go_at_call 18; refine (none_Read _ _).mono ?_; rintro e w' ⟨rfl, rfl⟩)
          | (go_at_call_of 24 (Value.pointer (some ⟨gd, 0, none⟩)); refine (same5 w.heap.size gd gr D F _ HH.out.1 (by have := HDW.out; omega)).mono ?_; rintro e w6 ⟨rfl, b6⟩
             have H6 := Lib.hid (And.intro (HH.out.2.1.below b6) (HH.out.2.2.2.trans (b6.mono hzw)))
             clear b6)
          | (go_at_call_of 24 (Value.pointer (some ⟨gf, 0, none⟩)); refine (same5 w2.heap.size gf gg D' G _ H6.out.1 (by have := HH.out.2.2.1; omega)).mono ?_; rintro e w7 ⟨rfl, b7⟩
             have H7 := Lib.hid (H6.out.2.trans (b7.mono H6.out.2.size))
             clear b7)
          | (go_at_call 19; refine (none_Write _ _ _ _ _).mono ?_; rintro e w' ⟨rfl, rfl⟩)
          | (go_at_call 22; refine (none_Flush _).mono ?_; rintro e w' ⟨rfl, rfl⟩)
          | (go_at_call 28; refine (none_Size _).mono ?_; rintro e w' ⟨rfl, rfl⟩)
          | (go_at_call 21; refine (none_Off _).mono ?_; rintro e w' ⟨rfl, rfl⟩)
          | (go_at_call 23; refine (none_Waiting _).mono ?_; rintro e w' ⟨rfl, rfl⟩)
          | (go_at_call 25; refine (none_Fork _).mono ?_; rintro e w' ⟨rfl, rfl⟩)
          | (go_at_call_of 29 (Value.int IntKind.i64 0); refine (disk_New_no 0 _ (by omega)).mono ?_; rintro e w' ⟨rfl, rfl⟩)
          | (go_at_call_of 29 (Value.int IntKind.i64 129); refine (disk_New_no 129 _ (by omega)).mono ?_; rintro e w' ⟨rfl, rfl⟩))
        go_ret
        exact ⟨rfl, H7.out⟩
end Go.Proofs.Ytaledjcbblgmeaa
