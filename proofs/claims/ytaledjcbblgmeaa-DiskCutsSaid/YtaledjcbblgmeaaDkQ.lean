/- Deeds on a disk and on the reference's; whether both tell the same. -/
import Derived.Test.YtaledjcbblgmeaaDkD
namespace Go.Proofs.Ytaledjcbblgmeaa
open Go.RowKit

theorem conv_slU {w : World} {v : Value} {l : List UInt8} (h : SlU w v l) : (convert 31 9 v).run Try.prog w = .ok (.string ⟨l.toArray⟩) w := by
  obtain ⟨A, c, rfl, _, h3, h4⟩ := h
  cases l with
  | nil =>
    cases A with
    | none =>
      rw [h3 rfl]
      simp only [List.length_nil]
      rw [run_convert_bytes_string w _ _ 5 none 0 0 Try.underlying31 Try.underlying5 Try.underlying9]
      rfl
    | some a =>
      exact run_convert_bytes_back w _ _ 5 _ _ [] Try.underlying31 Try.underlying5 Try.underlying9 (fun j hj => by simp at hj)
  | cons b t =>
    obtain ⟨g, o, rfl, _, hc⟩ := h4 (by simp)
    refine run_convert_bytes_back w _ _ 5 _ _ (b :: t) Try.underlying31 Try.underlying5 Try.underlying9 ?_
    intro j hj
    rw [plain_add]
    have := hc j _ (List.getElem?_eq_getElem hj) 0 _ rfl
    rwa [Nat.mul_one, Nat.add_zero] at this

theorem Dk.deed_len (d : Dk) (k i : Int) (b : List UInt8) (keep : List Bool) : (d.deed k i b keep).secs.length = d.secs.length := by
  unfold Dk.deed
  repeat' split
  · exact Dk.write_len _ _ _
  · exact Dk.flush_len _
  · exact Dk.cut_len _ _
  · exact Dk.crash_len _ _
  · rfl
theorem Dk.write_wait (d : Dk) (i : Int) (b : List UInt8) : (d.write i b).wait.length ≤ d.wait.length + 1 := by
  unfold Dk.write
  repeat' split
  all_goals simp [Dk.burn_wait]
theorem Dk.flush_wait (d : Dk) : d.flush.wait.length ≤ d.wait.length := by
  unfold Dk.flush
  repeat' split
  all_goals simp [Dk.burn_wait]
theorem Dk.cut_wait (d : Dk) (n : Int) : (d.cut n).wait = d.wait := by unfold Dk.cut; split <;> rfl
theorem Dk.deed_wait (d : Dk) (k i : Int) (b : List UInt8) (keep : List Bool) : (d.deed k i b keep).wait.length ≤ d.wait.length + 1 := by
  unfold Dk.deed
  repeat' split
  · exact Dk.write_wait _ _ _
  · have := Dk.flush_wait d; omega
  · rw [Dk.cut_wait]; omega
  · simp [Dk.crash]
  · omega
theorem RP.lower {w : World} {B B' g : Nat} {d : Dk} {F : Nat → Prop} (h : RP w B g d F) (hB : B' ≤ B) : RP w B' g d F := by
  obtain ⟨As, cs, Aw, cw, left, h1, h0, h2, h3, h4, h5, h6⟩ := h
  exact ⟨As, cs, Aw, cw, left, h1, h0, h2.lower hB, h3.lower hB, by omega, h5, h6⟩
theorem DP.lower {w : World} {B B' g : Nat} {d : Dk} {F : Nat → Prop} (h : DP w B g d F) (hB : B' ≤ B) : DP w B' g d F := by
  obtain ⟨As, cs, Aw, cw, h1, h2, h3, h4, h5, h6⟩ := h
  exact ⟨As, cs, Aw, cw, h1, h2.lower hB, h3.lower hB, by omega, h5, h6⟩
theorem Pair.made {w1 w2 : World} {d : Dk} {B gd gr : Nat} {F1 F2 : Nat → Prop} (h1 : DP w1 B gd d F1) (h2 : RP w2 w1.heap.size gr d F2) (hb : Below w1.heap.size w1 w2) (hB : B ≤ w1.heap.size) : Pair w2 B gd gr d (fun i => F1 i ∨ F2 i) :=
  ⟨F1, F2, h1.below hb, h2.lower hB, fun i hi hg => by have := (h1.lt i hi).2; have := (h2.lt i hg).1; omega, fun _ => Iff.rfl⟩

def PlayPost (w : World) (e : Ending) (w' : World) : Prop := ∃ gd gr D F, e = .returned (.tuple #[.pointer (some ⟨gd, 0, none⟩), .pointer (some ⟨gr, 0, none⟩), .bool true]) ∧ Pair w' w.heap.size gd gr D F ∧ D.secs.length = 4 ∧ D.wait.length ≤ 40 ∧ Below w.heap.size w w'
set_option maxRecDepth 100000 in
set_option maxHeartbeats 4000000 in
theorem play5 (v : Value) (l : List De) (w : World) (hS : Sl 4 De.enc w v l) (hr : ∀ x ∈ l, x.ok w) (hl : l.length ≤ maxLen) :
    Calls Try.prog 15 #[v] w (PlayPost w) := by
  unfold maxLen at hl
  obtain ⟨A, c, rfl⟩ := hS.slice
  have HS := Lib.hid hS
  have HR := Lib.hid hr
  clear hS hr
  go_enter Try.func15, Try.ntmps15
  go_wp2_with fail
  refine (disk_New 4 w (by omega) (by omega)).mono ?_
  rintro e w1 ⟨gd, F1, rfl, h1, b1⟩
  have q1 := b1.size
  go_wp2_with fail
  refine (rdisk_New 4 w1 (by omega) (by omega)).mono ?_
  rintro e w2 ⟨gr, F2, rfl, h2, b2⟩
  have P0 := Pair.made h1 h2 b2 q1
  have HP0 := Lib.hid (And.intro P0 (b1.trans (b2.mono q1)))
  clear h1 h2 b1 b2 P0 q1
  go_wp2_with fail
  go_loopw [7] (fun t wr => ∃ (k : Nat) (D : Dk) (F : Nat → Prop), t = .int .i64 k ∧ k ≤ l.length ∧ k ≤ 40 ∧ Pair wr w.heap.size gd gr D F ∧ D.secs.length = 4 ∧ D.wait.length ≤ k ∧ Below w.heap.size w wr) (fun t _ => l.length - (RowKit.intOf t).toNat)
  case atStart => exact ⟨0, Dk.new 4, _, rfl, by omega, by omega, HP0.out.1, rfl, by simp [Dk.new], HP0.out.2⟩
  case round =>
    clear HP0
    obtain ⟨k, D, F, rfl, hk, hk40, hP, hD4, hDw, hB⟩ := hrel
    have HH := Lib.hid (And.intro hP (And.intro hD4 (And.intro hDw hB)))
    clear hP hD4 hDw hB
    by_cases hgo : k < l.length ∧ k < 40
    · obtain ⟨hkl, hkt⟩ := hgo
      obtain ⟨x, hx⟩ : ∃ x, l[k]? = some x := ⟨_, List.getElem?_eq_getElem hkl⟩
      have hklI : (k : Int) < (l.length : Int) := by omega
      have hktI : (k : Int) < 40 := by omega
      obtain ⟨g, o, rfl, hg, hc⟩ := HS.out.at_ hx
      obtain ⟨hxi, b, keep, hxb, hxk⟩ := HR.out x (List.mem_of_getElem? hx)
      obtain ⟨kind, i, vB, vK⟩ := x
      obtain ⟨AB, cB, rfl⟩ := hxb.slice
      obtain ⟨AK, cK, rfl⟩ := hxk.slice
      have hB := HH.out.2.2.2
      have hz := hB.size
      have c0 := (hB.cell (p := ⟨g, _, none⟩) hg).trans (hc 0 _ rfl)
      have c1 := (hB.cell (p := ⟨g, _, none⟩) hg).trans (hc 1 _ rfl)
      have c2 := (hB.cell (p := ⟨g, _, none⟩) hg).trans (hc 2 _ rfl)
      have c3 := (hB.cell (p := ⟨g, _, none⟩) hg).trans (hc 3 _ rfl)
      rw [Nat.add_zero] at c0
      have HB := Lib.hid (And.intro hxb (And.intro hxk hxi))
      have HX := Lib.hid hx
      clear hc hx hxb hxk hxi hB
      go_wp2_with fail
      refine (do5 w.heap.size gd gr D F kind i b keep AB AK b.length cB keep.length cK wr HH.out.1 hz (by have := HH.out.2.2.1; omega) (HB.out.1.below HH.out.2.2.2) (HB.out.2.1.below HH.out.2.2.2)
        (fun hp g o e => by subst e; exact HB.out.1.lt hp) (fun hp g o e => by subst e; exact HB.out.2.1.lt hp) HB.out.2.2.2).mono ?_
      rintro e w3 ⟨rfl, G, hP3, u3⟩
      have q3 : Below w.heap.size w w3 := Mod.below HH.out.2.2.2 u3.1 (fun i hi => (HH.out.1.lt i hi).1) hz
      have H3 := Lib.hid (And.intro hP3 q3)
      clear hP3 u3 q3 c0 c1 c2 c3
      go_wp2
      go_roundw
      case rel => exact ⟨k + 1, _, G, by go_num, by omega, by omega, H3.out.1, by rw [Dk.deed_len]; exact HH.out.2.1, Nat.le_trans (Dk.deed_wait _ _ _ _ _) (by have := HH.out.2.2.1; omega), H3.out.2⟩
      case measure => simp [RowKit.intOf]; omega
    · have P : PlayPost w (.returned (.tuple #[.pointer (some ⟨gd, 0, none⟩), .pointer (some ⟨gr, 0, none⟩), .bool true])) wr :=
        ⟨gd, gr, D, F, rfl, HH.out.1, HH.out.2.1, by have := HH.out.2.2.1; omega, HH.out.2.2.2⟩
      have HP := Lib.hid P
      clear P
      have hcase : ((k : Int) < (l.length : Int) ∧ decide ((k : Int) < 40) = false) ∨ ¬ (k : Int) < (l.length : Int) := by
        by_cases h : k < l.length
        · exact .inl ⟨by omega, by simp; omega⟩
        · exact .inr (by omega)
      rcases hcase with ⟨h1, h2⟩ | h1
      all_goals
        go_wp2
        go_ret3
        exact HP.out

set_option maxRecDepth 100000 in
set_option maxHeartbeats 4000000 in
theorem same5 (B gd gr : Nat) (D : Dk) (F : Nat → Prop) (w : World) (h : Pair w B gd gr D F) (hw : D.wait.length ≤ 1000000) :
    Calls Try.prog 24 #[.pointer (some ⟨gd, 0, none⟩), .pointer (some ⟨gr, 0, none⟩)] w fun e w' => e = .returned (.bool true) ∧ Below w.heap.size w w' := by
  obtain ⟨F1, F2, p1, p2, hap, hF⟩ := h
  have hn128 : (D.secs.length : Int) ≤ 128 := by have := p1.ok.2.1; omega
  have HP := Lib.hid (And.intro p1 p2)
  have HW := Lib.hid hw
  clear p1 p2 hap hF hw
  go_enter Try.func24, Try.ntmps24
  go_wp2_with fail
  go_loopw [5] (fun t wr => ∃ i : Int, t = .int .i64 i ∧ -1 ≤ i ∧ i ≤ D.secs.length + 1 ∧ Below w.heap.size w wr) (fun t _ => ((D.secs.length : Int) + 1 - RowKit.intOf t).toNat)
  case atStart => exact ⟨-1, rfl, by omega, by omega, Below.refl _ _⟩
  case round =>
    obtain ⟨i, rfl, hi1, hi2, hB⟩ := hrel
    have p1 := HP.out.1.below hB
    have p2 := HP.out.2.below hB
    have HH := Lib.hid (And.intro p1 (And.intro p2 hB))
    have hz := hB.size
    clear p1 p2 hB
    by_cases hgo : i ≤ D.secs.length
    · go_wp2_with fail
      refine (rdisk_Size B gr D F2 wr HH.out.2.1).mono ?_
      rintro e w' ⟨rfl, rfl⟩
      by_cases hl : D.look i = 0
      · have ho : D.off = false := by
          cases ho : D.off with
          | false => rfl
          | true => unfold Dk.look at hl; rw [ho] at hl; simp at hl
        have hij : 0 ≤ i ∧ i < D.secs.length := by
          unfold Dk.look at hl
          rw [ho] at hl
          simp only [Bool.false_eq_true, if_false] at hl
          split at hl
          · simp at hl
          · omega
        obtain ⟨j, rfl⟩ : ∃ j : Nat, i = j := ⟨i.toNat, by omega⟩
        have hj : j < D.secs.length := by omega
        clear hl hij
        go_wp2_with fail
        refine (disk_Read B gd D F1 j wr HH.out.1 ho hj HW.out).mono ?_
        rintro e w3 ⟨v3, rfl, hv3, b3, _⟩
        have p3 := HH.out.2.1.below b3
        have H3 := Lib.hid (And.intro hv3 (And.intro b3 p3))
        clear hv3 b3 p3
        go_wp2_with fail
        refine (rdisk_Read B gr D F2 j w3 H3.out.2.2 ho hj HW.out).mono ?_
        rintro e w4 ⟨v4, rfl, hv4, b4, _⟩
        have cv3 := conv_slU (H3.out.1.below b4)
        have cv4 := conv_slU hv4
        have q4 : Below w.heap.size w w4 := (HH.out.2.2.trans (H3.out.2.1.mono hz)).trans (b4.mono (Nat.le_trans hz H3.out.2.1.size))
        have H4 := Lib.hid q4
        clear hv4 b4 q4
        go_wp2
        go_roundw
        case rel => exact ⟨_, by go_num, by omega, by omega, H4.out⟩
        case measure => simp [RowKit.intOf]; omega
      · have hR1 := disk_Read_no B gd D F1 i wr HH.out.1 hl
        have hR2 := rdisk_Read_no B gr D F2 i wr HH.out.2.1 hl
        have HR := Lib.hid (And.intro hR1 hR2)
        clear hR1 hR2 hl
        go_wp2_with fail
        refine HR.out.1.mono ?_
        rintro e w' ⟨rfl, rfl⟩
        go_wp2_with fail
        refine HR.out.2.mono ?_
        rintro e w' ⟨rfl, rfl⟩
        have cv := conv_slU (Sl.nil 1 u8E wr)
        go_wp2
        go_roundw
        case rel => exact ⟨_, by go_num, by omega, by omega, HH.out.2.2⟩
        case measure => simp [RowKit.intOf]; omega
    · go_wp2_with (first
        | (go_at_call 52; refine (rdisk_Size B gr D F2 wr HH.out.2.1).mono ?_; rintro e w' ⟨rfl, rfl⟩)
        | (go_at_call 28; refine (disk_Size' B gd D F1 wr HH.out.1).mono ?_; rintro e w' ⟨rfl, rfl⟩)
        | (go_at_call 21; refine (disk_Off B gd D F1 wr HH.out.1).mono ?_; rintro e w' ⟨rfl, rfl⟩)
        | (go_at_call 53; refine (rdisk_Off B gr D F2 wr HH.out.2.1).mono ?_; rintro e w' ⟨rfl, rfl⟩)
        | (go_at_call 23; refine (disk_Waiting B gd D F1 wr HH.out.1).mono ?_; rintro e w' ⟨rfl, rfl⟩)
        | (go_at_call 54; refine (rdisk_Waiting B gr D F2 wr HH.out.2.1).mono ?_; rintro e w' ⟨rfl, rfl⟩))
      go_ret
      exact ⟨rfl, HH.out.2.2⟩
end Go.Proofs.Ytaledjcbblgmeaa
