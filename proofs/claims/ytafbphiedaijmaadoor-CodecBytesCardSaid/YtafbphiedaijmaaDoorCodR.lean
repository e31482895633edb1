/- The reference's Compare, SameRow. -/
import Derived.Test.YtafbphiedaijmaaDoorCodC
import Derived.Test.YtafbphiedaijmaaDoorRefCmp
namespace Go.Proofs.YtafbphiedaijmaaDoor
open Go.RowKit Go.Lib
attribute [local go_sem ↓] Go.wp_at_zero Go.wp_at_succ

theorem ref3_compare_v (a b : Vl) (w : World) :
    Calls Tryd.prog 49 #[.agg #[.int .u8 a.k, .int .i64 a.n, .string a.s], .agg #[.int .u8 b.k, .int .i64 b.n, .string b.s]] w fun e w' => e = .returned (.int .i64 (cmpW a b)) ∧ Below w.heap.size w w' :=
  ref3_compare a.k a.n b.k b.n a.s b.s w

set_option maxRecDepth 100000 in
set_option maxHeartbeats 8000000 in
theorem ref_values (va vb : Value) (l m : List Vl) (w : World) (ha : Sl 3 Vl.enc w va l) (hb : Sl 3 Vl.enc w vb m) (hl : l.length ≤ 9223372036854775807) (hm : m.length ≤ 9223372036854775807) :
    Calls Tryd.prog 35 #[va, vb] w fun e w' => e = .returned (.int .i64 (valsC l m)) ∧ Below w.heap.size w w' := by
  obtain ⟨R, hR⟩ : ∃ R, R = valsC l m := ⟨_, rfl⟩
  rw [← hR]
  obtain ⟨A, ca, rfl⟩ := ha.slice
  obtain ⟨B, cb, rfl⟩ := hb.slice
  have HA := Lib.hid ha
  have HB := Lib.hid hb
  have HR := Lib.hid hR
  have HI := Lib.hid (fun w => ref_ints (l.length : Int) (m.length : Int) w)
  clear ha hb hR
  go_enter Tryd.func35, Tryd.ntmps35
  go_wp2
  go_loopw [5] (fun i wr => ∃ k : Nat, i = .int .i64 k ∧ k ≤ l.length ∧ k ≤ m.length ∧ Below w.heap.size w wr ∧ Hid (R = valsC (l.drop k) (m.drop k))) (fun i _ => l.length - (RowKit.intOf i).toNat)
  case atStart => exact ⟨0, rfl, by omega, by omega, Below.refl _ _, HR⟩
  case round =>
    obtain ⟨k, rfl, hk, hkm, hW, HK⟩ := hrel
    by_cases hgo : k < l.length ∧ k < m.length
    · obtain ⟨hkl, hkm2⟩ := hgo
      obtain ⟨x, hx⟩ : ∃ x, l[k]? = some x := ⟨_, List.getElem?_eq_getElem hkl⟩
      have hkI : (k : Int) < (l.length : Int) := by omega
      have hkI0 : (0 : Int) ≤ (k : Int) := by omega
      obtain ⟨g, o, rfl, hg, hc⟩ := (HA.out.below hW).at_ hx
      have c0 := hc 0 _ rfl
      have c1 := hc 1 _ rfl
      have c2 := hc 2 _ rfl
      rw [Nat.add_zero] at c0
      have HX := Lib.hid hx
      clear hc hx
      obtain ⟨y, hy⟩ : ∃ y, m[k]? = some y := ⟨_, List.getElem?_eq_getElem hkm2⟩
      have hmI : (k : Int) < (m.length : Int) := by omega
      obtain ⟨g', o', rfl, hg', hc'⟩ := (HB.out.below hW).at_ hy
      have d0 := hc' 0 _ rfl
      have d1 := hc' 1 _ rfl
      have d2 := hc' 2 _ rfl
      rw [Nat.add_zero] at d0
      have HKN := Lib.hid (valsC_at l m k HX.out hy)
      clear hc' hy
      have HV := Lib.hid (fun w => ref3_compare_v x y w)
      obtain ⟨C, hC⟩ : ∃ C, C = cmpW x y := ⟨_, rfl⟩
      rw [← hC] at HV HKN
      clear hC
      go_wp2_with fail
      go_region_held3 (fun w' => w'.cell? ⟨g, o + k * 3, none⟩ = some (.int .u8 x.k) ∧ w'.cell? ⟨g, o + k * 3 + 1, none⟩ = some (.int .i64 x.n) ∧ w'.cell? ⟨g, o + k * 3 + 2, none⟩ = some (.string x.s) ∧
          w'.cell? ⟨g', o' + k * 3, none⟩ = some (.int .u8 y.k) ∧ w'.cell? ⟨g', o' + k * 3 + 1, none⟩ = some (.int .i64 y.n) ∧ w'.cell? ⟨g', o' + k * 3 + 2, none⟩ = some (.string y.s))
        (first | go_keep | (go_split_ands; refine ⟨?_, ?_, ?_, ?_, ?_, ?_⟩ <;> (rw [hb6.cell (p := ⟨_, _, none⟩) (by simp; omega)]; assumption)))
        ((go_at_call 49; refine (HV.out _).mono ?_; rintro e w6 ⟨rfl, hb6⟩))
      have q6 := keepS' hW.drew hb6
      by_cases h0 : C = 0
      · have HK2 : Hid (R = valsC (l.drop (k + 1)) (m.drop (k + 1))) := Lib.hid (by rw [HK.out, HKN.out, if_pos h0])
        have h0' : (C != 0) = false := by simp [h0]
        clear h0
        go_wp2
        go_roundw
        case rel => exact ⟨k + 1, by go_num, by omega, by omega, q6, HK2⟩
        case measure => simp [RowKit.intOf]; omega
      · have HK2 : Hid (R = C) := Lib.hid (by rw [HK.out, HKN.out, if_neg h0])
        have h0' : (C != 0) = true := by simpa using h0
        clear h0
        go_wp2
        go_ret
        exact ⟨by rw [HK2.out]; rfl, q6⟩
    · have HE : Hid (R = cmpI l.length m.length) := Lib.hid (by rw [HK.out, valsC_end l m k (by omega) hk hkm])
      have hcase : ((k : Int) < (l.length : Int) ∧ decide ((k : Int) < (m.length : Int)) = false ∧ decide (k < m.length) = false) ∨ (¬ (k : Int) < (l.length : Int) ∧ ¬ k < l.length) := by
        by_cases h : k < l.length
        · exact .inl ⟨by omega, by simp; omega, by simp; omega⟩
        · exact .inr ⟨by omega, h⟩
      rcases hcase with ⟨h1, h2, h3⟩ | ⟨h1, h2⟩
      all_goals
        go_wp2_with fail
        refine (HI.out _).mono ?_
        rintro e w2 ⟨rfl, rfl⟩
        go_wp2
        go_ret
        exact ⟨by rw [HE.out]; rfl, hW⟩

set_option maxRecDepth 100000 in
set_option maxHeartbeats 4000000 in
theorem ref_compare_row (r s : Rw) (vr vs : Value) (w : World) (ha : Sl 3 Vl.enc w vr r.l) (hb : Sl 3 Vl.enc w vs s.l) (hl : r.l.length ≤ 9223372036854775807) (hm : s.l.length ≤ 9223372036854775807) :
    Calls Tryd.prog 15 #[.agg #[vr, .int .i64 r.f, .int .i64 r.t], .agg #[vs, .int .i64 s.f, .int .i64 s.t]] w fun e w' => e = .returned (.int .i64 (rowC r s)) ∧ Below w.heap.size w w' := by
  have HC := Lib.hid (fun w ha hb => ref_values vr vs r.l s.l w ha hb hl hm)
  have HSP := Lib.hid (fun w => ref_spans r.f r.t s.f s.t w)
  obtain ⟨R, hR⟩ : ∃ R, R = rowC r s := ⟨_, rfl⟩
  rw [← hR]
  obtain ⟨l, f, t⟩ := r
  obtain ⟨m, f', t'⟩ := s
  unfold rowC at hR
  dsimp only at *
  obtain ⟨A, ca, rfl⟩ := ha.slice
  obtain ⟨B, cb, rfl⟩ := hb.slice
  have HA := Lib.hid ha
  have HB := Lib.hid hb
  generalize valsC l m = V at *
  clear ha hb
  obtain ⟨W0, hW0⟩ : ∃ W0, W0 = (w.alloc (.cells #[.slice A l.length ca, .int .i64 f, .int .i64 t] 26)).alloc (.cells #[.slice B m.length cb, .int .i64 f', .int .i64 t'] 26) := ⟨_, rfl⟩
  have q0 : Below w.heap.size w W0 := by rw [hW0]; exact ((Below.refl _ _).alloc (Nat.le_refl _) _).alloc (by simp) _
  have b1 : Blk W0 w.heap.size 26 #[.slice A l.length ca, .int .i64 f, .int .i64 t] := by rw [hW0]; exact (Blk.new _ _ _).alloc _
  have b2 : Blk W0 (w.heap.size + 1) 26 #[.slice B m.length cb, .int .i64 f', .int .i64 t'] := by
    rw [hW0]
    have := Blk.new (w.alloc (.cells #[.slice A l.length ca, .int .i64 f, .int .i64 t] 26)) 26 #[.slice B m.length cb, .int .i64 f', .int .i64 t']
    simpa using this
  have HW0 := Lib.hid hW0
  clear hW0
  by_cases h0 : V = 0
  · have HR : Hid (R = orI [cmpI f f', cmpI t t']) := Lib.hid (by rw [hR, orI, if_pos h0])
    have h0' : (V != 0) = false := by simp [h0]
    clear hR h0
    go_enter Tryd.func15, Tryd.ntmps15
    go_wp2_with fail
    rw [← HW0.out]
    refine (HC.out _ (HA.out.below q0) (HB.out.below q0)).mono ?_
    rintro e w1 ⟨rfl, hb1⟩
    have x1 := (b1.below hb1 b1.lt).cell
    have x2 := (b2.below hb1 b2.lt).cell
    have q1 := keepS' q0 hb1
    clear hb1 b1 b2 HW0
    go_wp2_with fail
    refine (HSP.out _).mono ?_
    rintro e w2 ⟨rfl, hb2⟩
    have q2 := keepS' q1 hb2
    go_wp2
    go_ret
    exact ⟨by rw [HR.out]; rfl, q2⟩
  · have HR : Hid (R = V) := Lib.hid (by rw [hR, orI, if_neg h0])
    have h0' : (V != 0) = true := by simpa using h0
    clear hR h0
    go_enter Tryd.func15, Tryd.ntmps15
    go_wp2_with fail
    rw [← HW0.out]
    refine (HC.out _ (HA.out.below q0) (HB.out.below q0)).mono ?_
    rintro e w1 ⟨rfl, hb1⟩
    have q1 := keepS' q0 hb1
    go_wp2
    go_ret
    exact ⟨by rw [HR.out]; rfl, q1⟩

set_option maxRecDepth 100000 in
set_option maxHeartbeats 2000000 in
theorem ref_same_row (r s : Rw) (vr vs : Value) (w : World) (ha : Sl 3 Vl.enc w vr r.l) (hb : Sl 3 Vl.enc w vs s.l) (hl : r.l.length ≤ 9223372036854775807) (hm : s.l.length ≤ 9223372036854775807) :
    Calls Tryd.prog 11 #[.agg #[vr, .int .i64 r.f, .int .i64 r.t], .agg #[vs, .int .i64 s.f, .int .i64 s.t]] w fun e w' => e = .returned (.bool (rowC r s == 0)) ∧ Below w.heap.size w w' := by
  have HC := Lib.hid (fun w ha hb => ref_compare_row r s vr vs w ha hb hl hm)
  obtain ⟨A, ca, rfl⟩ := ha.slice
  obtain ⟨B, cb, rfl⟩ := hb.slice
  have HA := Lib.hid ha
  have HB := Lib.hid hb
  have q0 : ∀ o p, Below w.heap.size w ((w.alloc o).alloc p) := fun o p => ((Below.refl _ _).alloc (Nat.le_refl _) o).alloc (by simp) _
  have Q0 := Lib.hid q0
  generalize rowC r s = V at *
  clear ha hb q0
  go_enter Tryd.func11, Tryd.ntmps11
  go_wp2_with fail
  refine (HC.out _ (HA.out.below (Q0.out _ _)) (HB.out.below (Q0.out _ _))).mono ?_
  rintro e w1 ⟨rfl, hb1⟩
  have q1 := keepS' (Q0.out _ _) hb1
  go_wp2
  go_ret
  exact ⟨rfl, q1⟩
end Go.Proofs.YtafbphiedaijmaaDoor
