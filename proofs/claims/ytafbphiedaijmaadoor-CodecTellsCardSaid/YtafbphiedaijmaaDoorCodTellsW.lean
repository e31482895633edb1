/- The walk of CodecTells. -/
import Derived.Test.YtafbphiedaijmaaDoorCodOW
import Derived.Test.YtafbphiedaijmaaDoorCodT
namespace Go.Proofs.YtafbphiedaijmaaDoor
open Go.RowKit Go.Lib
attribute [local go_sem ↓] Go.wp_at_zero Go.wp_at_succ

theorem bsame4 {W w1 : World} (hb : Below W.heap.size W w1) : ∀ b o, b < W.heap.size → w1.cell? ⟨b, o, none⟩ = W.cell? ⟨b, o, none⟩ := fun b o h => hb.cell (p := ⟨b, o, none⟩) h
set_option maxRecDepth 100000 in
set_option maxHeartbeats 8000000 in
theorem codecTells_walk (a b : Rw) (va vb : Value) (w : World) (ha : Sl 3 Vl.enc w va a.l) (hb : Sl 3 Vl.enc w vb b.l) (hoa : a.ok) (hob : b.ok) (hla : a.l.length ≤ 9223372036854775807) (hlb : b.l.length ≤ 9223372036854775807) (hE : Env w) :
    Calls Tryd.prog 4 #[.agg #[va, .int .i64 a.f, .int .i64 a.t], .agg #[vb, .int .i64 b.f, .int .i64 b.t]] w fun e w' => e = .returned (.bool true) ∧ Below w.heap.size w w' := by
  have HE := Lib.hid hE
  clear hE
  obtain ⟨A, ca, rfl⟩ := ha.slice
  obtain ⟨B, cb, rfl⟩ := hb.slice
  obtain ⟨W0, hW0⟩ : ∃ W0, W0 = (w.alloc (.cells #[.slice A a.l.length ca, .int .i64 a.f, .int .i64 a.t] 26)).alloc (.cells #[.slice B b.l.length cb, .int .i64 b.f, .int .i64 b.t] 26) := ⟨_, rfl⟩
  have q0 : Below w.heap.size w W0 := by rw [hW0]; exact ((Below.refl _ _).alloc (Nat.le_refl _) _).alloc (by simp) _
  have b1 : Blk W0.drew w.heap.size 26 #[.slice A a.l.length ca, .int .i64 a.f, .int .i64 a.t] := by rw [hW0]; exact ((Blk.new _ _ _).alloc _).drew
  have b2 : Blk W0.drew (w.heap.size + 1) 26 #[.slice B b.l.length cb, .int .i64 b.f, .int .i64 b.t] := by
    rw [hW0]
    have := Blk.new (w.alloc (.cells #[.slice A a.l.length ca, .int .i64 a.f, .int .i64 a.t] 26)) 26 #[.slice B b.l.length cb, .int .i64 b.f, .int .i64 b.t]
    have h2 := this.drew
    simpa using h2
  have hltA : 0 < a.l.length → ∀ g1 o1, A = some ⟨g1, o1, none⟩ → g1 < w.heap.size := fun h g1 o1 e => by subst e; exact ha.lt h
  have hltB : 0 < b.l.length → ∀ g1 o1, B = some ⟨g1, o1, none⟩ → g1 < w.heap.size := fun h g1 o1 e => by subst e; exact hb.lt h
  have sa : Sl 3 Vl.enc W0.drew (.slice A a.l.length ca) a.l := (ha.below q0).drew
  have sb : Sl 3 Vl.enc W0.drew (.slice B b.l.length cb) b.l := (hb.below q0).drew
  have qq : Below w.heap.size w W0.drew := q0.drew
  have HFA := Lib.hid (fun w h => few4 a A a.l.length ca w h hla)
  have HFB := Lib.hid (fun w h => few4 b B b.l.length cb w h hlb)
  have HW0 := Lib.hid hW0
  have xr := b1.cell
  have yr := b2.cell
  have xf := b1.frozen
  have yf := b2.frozen
  have HLA := Lib.hid hltA
  have HLB := Lib.hid hltB
  clear hW0 ha hb q0 hltA hltB
  go_enter Tryd.func4, Tryd.ntmps4
  go_upto_region 1 with fail
  rw [← HW0.out]
  go_cut [] (fun wx => TwoRows w.heap.size (w.heap.size + 1) a.few b.few w wx)
  case first =>
    go_region_with (first
      | (go_at_call_of 5 (Value.slice A a.l.length ca); refine (HFA.out _ sa).mono ?_; rintro e w6 ⟨n6, c6, rfl, hs6, hb6⟩; have sa := hs6; have sb := sb.below hb6; have qq := keepS' qq hb6; have b1 := b1.below hb6 b1.lt; have b2 := b2.below hb6 b2.lt; have xr := b1.cell; have yr := b2.cell; have xf := b1.frozen; have yf := b2.frozen)
      | (go_at_call_of 5 (Value.slice B b.l.length cb); refine (HFB.out _ sb).mono ?_; rintro e w6 ⟨n6, c6, rfl, hs6, hb6⟩; have sb := hs6; have sa := sa.below hb6; have qq := keepS' qq hb6; have b1 := b1.below hb6 b1.lt; have b2 := b2.below hb6 b2.lt; have xr := b1.cell; have yr := b2.cell; have xf := b1.frozen; have yf := b2.frozen))
    all_goals
      go_wp2_with fail
      go_meet
      have pa : ∀ k, w.heap.size ≤ k → 0 < a.few.l.length → ∀ g1 o1, A = some ⟨g1, o1, none⟩ → g1 ≠ k := fun k hk h g1 o1 e => by
        have := HLA.out (by unfold Rw.few at h; simp at h; omega) g1 o1 e
        omega
      have pb : ∀ k, w.heap.size ≤ k → 0 < b.few.l.length → ∀ g1 o1, B = some ⟨g1, o1, none⟩ → g1 ≠ k := fun k hk h g1 o1 e => by
        have := HLB.out (by unfold Rw.few at h; simp at h; omega) g1 o1 e
        omega
      have k1 : w.heap.size ≤ w.heap.size := Nat.le_refl _
      have k2 : w.heap.size ≤ w.heap.size + 1 := by omega
      exact ⟨_, _, _, _, _, _, ((((((b1.set_ 0 _).set_ 1 _).set_ 2 _).far (p := ⟨w.heap.size + 1, 0, none⟩) (by simp) _).far (p := ⟨w.heap.size + 1, 1, none⟩) (by simp) _).far (p := ⟨w.heap.size + 1, 2, none⟩) (by simp) _),
        ((((((b2.far (p := ⟨w.heap.size, 0, none⟩) (by simp) _).far (p := ⟨w.heap.size, 1, none⟩) (by simp) _).far (p := ⟨w.heap.size, 2, none⟩) (by simp) _).set_ 0 _).set_ 1 _).set_ 2 _),
        Sl.far (p := ⟨w.heap.size + 1, 2, none⟩) (Sl.far (p := ⟨w.heap.size + 1, 1, none⟩) (Sl.far (p := ⟨w.heap.size + 1, 0, none⟩) (Sl.far (p := ⟨w.heap.size, 2, none⟩) (Sl.far (p := ⟨w.heap.size, 1, none⟩) (Sl.far (p := ⟨w.heap.size, 0, none⟩) sa _ (pa _ k1)) _ (pa _ k1)) _ (pa _ k1)) _ (pa _ k2)) _ (pa _ k2)) _ (pa _ k2),
        Sl.far (p := ⟨w.heap.size + 1, 2, none⟩) (Sl.far (p := ⟨w.heap.size + 1, 1, none⟩) (Sl.far (p := ⟨w.heap.size + 1, 0, none⟩) (Sl.far (p := ⟨w.heap.size, 2, none⟩) (Sl.far (p := ⟨w.heap.size, 1, none⟩) (Sl.far (p := ⟨w.heap.size, 0, none⟩) sb _ (pb _ k1)) _ (pb _ k1)) _ (pb _ k1)) _ (pb _ k2)) _ (pb _ k2)) _ (pb _ k2),
        (((((qq.setCell (p := ⟨w.heap.size, 0, none⟩) k1 _).setCell (p := ⟨w.heap.size, 1, none⟩) k1 _).setCell (p := ⟨w.heap.size, 2, none⟩) k1 _).setCell (p := ⟨w.heap.size + 1, 0, none⟩) k2 _).setCell (p := ⟨w.heap.size + 1, 1, none⟩) k2 _).setCell (p := ⟨w.heap.size + 1, 2, none⟩) k2 _⟩
  case rest =>
    obtain ⟨A', n1, c1, B', n2, c2, d1, d2, s1, s2, q⟩ := hcut
    have hoa' := Rw.few_ok hoa
    have hob' := Rw.few_ok hob
    have hla' := a.few_le
    have hlb' := b.few_le
    clear HFA HFB xr yr xf yf b1 b2 sa sb qq HLA HLB
    generalize a.few = a at *
    generalize b.few = b at *
    obtain rfl : n1 = a.l.length := s1.len.1
    obtain rfl : n2 = b.l.length := s2.len.1

    have hE1 := HE.out.below q
    have y1 := d1.cell
    have y2 := d2.cell
    have z1 := d1.lt
    have z2 := d2.lt
    have H1 := Lib.hid (fun w' (h : Below wc.heap.size wc w') => codec_right a _ w' (s1.below h) (by omega))
    have H2 := Lib.hid (fun w' (h : Below wc.heap.size wc w') => ref4_right a _ w' hoa' (s1.below h) (by omega) (hE1.below h))
    have H3 := Lib.hid (fun w' (h : Below wc.heap.size wc w') => codec_compare a b _ _ w' (s1.below h) (s2.below h) (by omega) (by omega))
    have H4 := Lib.hid (fun w' (h : Below wc.heap.size wc w') => ref_compare_row a b _ _ w' (s1.below h) (s2.below h) (by omega) (by omega))
    have H5 := Lib.hid (fun w' (h : Below wc.heap.size wc w') => codec_same _ _ a.l b.l w' (s1.below h) (s2.below h) (by omega) (by omega))
    have H6 := Lib.hid (fun w' (h : Below wc.heap.size wc w') => ref4_same _ _ a.l b.l w' (s1.below h) (s2.below h) (by omega) (by omega))
    have H7 := Lib.hid (fun w' (h : Below wc.heap.size wc w') => codec_key a _ w' hoa' (s1.below h) (by omega))
    have H8 := Lib.hid (fun w' (h : Below wc.heap.size wc w') => ref4_key a _ w' hoa' (s1.below h) (by omega) (hE1.below h))
    generalize a.b = V1 at *
    generalize rowC a b = V2 at *
    generalize decide (a.l = b.l) = V3 at *
    generalize (ByteArray.mk a.key.toArray) = V4 at *
    have HQ := Lib.hid q
    clear q s1 s2 d1 d2 hE1 hoa' hob'
    go_wp2_with fail
    go_region_held3 (fun w' => (∀ b o, b < wc.heap.size → w'.cell? ⟨b, o, none⟩ = wc.cell? ⟨b, o, none⟩) ∧ Below wc.heap.size wc w')
      (first | exact ⟨fun _ _ _ => rfl, (Below.refl _ _).drew⟩ | (go_split_ands; have q : Below wc.heap.size wc w1 := keepS' (by assumption) hb1; exact ⟨bsame4 q, q⟩))
      (first
        | (go_at_call 10; refine (live4 _).mono ?_; rintro e w1 ⟨rfl, hb1⟩)
        | (go_at_call 12; go_split_ands; refine (H1.out _ (by assumption)).mono ?_; rintro e w1 ⟨rfl, hb1⟩)
        | (go_at_call 13; go_split_ands; refine (H2.out _ (by assumption)).mono ?_; rintro e w1 ⟨rfl, hb1⟩)
        | (go_at_call 14; go_split_ands; refine (H3.out _ (by assumption)).mono ?_; rintro e w1 ⟨rfl, hb1⟩)
        | (go_at_call 15; go_split_ands; refine (H4.out _ (by assumption)).mono ?_; rintro e w1 ⟨rfl, hb1⟩)
        | (go_at_call 16; go_split_ands; refine (H5.out _ (by assumption)).mono ?_; rintro e w1 ⟨rfl, hb1⟩)
        | (go_at_call 17; go_split_ands; refine (H6.out _ (by assumption)).mono ?_; rintro e w1 ⟨rfl, hb1⟩)
        | (go_at_call 18; go_split_ands; refine (H7.out _ (by assumption)).mono ?_; rintro e w1 ⟨rfl, hb1⟩)
        | (go_at_call 19; go_split_ands; refine (H8.out _ (by assumption)).mono ?_; rintro e w1 ⟨rfl, hb1⟩))
    go_split_ands
    have q : Below wc.heap.size wc w1 := by assumption
    go_wp2
    go_ret
    exact ⟨rfl, keepS' HQ.out q⟩
end Go.Proofs.YtafbphiedaijmaaDoor
