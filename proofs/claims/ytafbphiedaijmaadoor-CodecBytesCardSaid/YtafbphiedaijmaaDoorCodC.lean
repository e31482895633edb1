/- codec.Compare. -/
import Derived.Test.YtafbphiedaijmaaDoorCodB
namespace Go.Proofs.YtafbphiedaijmaaDoor
open Go.RowKit Go.Lib
attribute [local go_sem ↓] Go.wp_at_zero Go.wp_at_succ

theorem cmp_int (a b : Int) (w : World) :
    Calls Tryd.prog 34 #[.int .i64 a, .int .i64 b] w fun e w' => e = .returned (.int .i64 (cmpI a b)) ∧ w = w' := by
  by_cases h1 : a < b
  · go_enter Tryd.func34, Tryd.ntmps34
    go_wp2
    go_ret
    exact ⟨ret_int (by rw [cmpI, if_pos (by omega)]), rfl⟩
  · by_cases h2 : b < a
    · go_enter Tryd.func34, Tryd.ntmps34
      go_wp2
      go_ret
      exact ⟨ret_int (by rw [cmpI, if_neg (by omega), if_pos (by omega)]), rfl⟩
    · go_enter Tryd.func34, Tryd.ntmps34
      go_wp2
      go_ret
      exact ⟨ret_int (by rw [cmpI, if_neg (by omega), if_neg (by omega)]), rfl⟩

theorem value_compare_v (a b : Vl) (w : World) :
    Calls Tryd.prog 33 #[.agg #[.int .u8 a.k, .int .i64 a.n, .string a.s], .agg #[.int .u8 b.k, .int .i64 b.n, .string b.s]] w fun e w' => e = .returned (.int .i64 (cmpW a b)) ∧ Below w.heap.size w w' :=
  value_compare a.k a.n b.k b.n a.s b.s w

set_option maxRecDepth 100000 in
set_option maxHeartbeats 4000000 in
theorem compare_func (va vb : Value) (l m : List Vl) (w : World) (ha : Sl 3 Vl.enc w va l) (hb : Sl 3 Vl.enc w vb m) (hl : l.length ≤ 9223372036854775807) (hm : m.length ≤ 9223372036854775807) :
    Calls Tryd.prog 32 #[va, vb, .func (.func 33) #[] #[]] w fun e w' => e = .returned (.int .i64 (valsC l m)) ∧ Below w.heap.size w w' := by
  obtain ⟨R, hR⟩ : ∃ R, R = valsC l m := ⟨_, rfl⟩
  rw [← hR]
  obtain ⟨A, ca, rfl⟩ := ha.slice
  obtain ⟨B, cb, rfl⟩ := hb.slice
  have HA := Lib.hid ha
  have HB := Lib.hid hb
  have HR := Lib.hid hR
  clear ha hb hR
  go_enter Tryd.func32, Tryd.ntmps32
  go_wp2
  go_loopw [13] (fun i wr => ∃ k : Nat, i = .int .i64 k ∧ k ≤ l.length ∧ k ≤ m.length ∧ Below w.heap.size w wr ∧ Hid (R = valsC (l.drop k) (m.drop k))) (fun i _ => l.length - (RowKit.intOf i).toNat)
  case atStart => exact ⟨0, rfl, by omega, by omega, Below.refl _ _, HR⟩
  case round =>
    obtain ⟨k, rfl, hk, hkm, hW, HK⟩ := hrel
    by_cases hkl : k < l.length
    · obtain ⟨x, hx⟩ : ∃ x, l[k]? = some x := ⟨_, List.getElem?_eq_getElem hkl⟩
      have hkI : (k : Int) < (l.length : Int) := by omega
      obtain ⟨g, o, rfl, hg, hc⟩ := (HA.out.below hW).at_ hx
      have c0 := hc 0 _ rfl
      have c1 := hc 1 _ rfl
      have c2 := hc 2 _ rfl
      rw [Nat.add_zero] at c0
      have HX := Lib.hid hx
      clear hc hx
      by_cases hkm2 : k < m.length
      · obtain ⟨y, hy⟩ : ∃ y, m[k]? = some y := ⟨_, List.getElem?_eq_getElem hkm2⟩
        have hmI : ¬ (m.length : Int) ≤ (k : Int) := by omega
        have hmI' : (k : Int) < (m.length : Int) := by omega
        obtain ⟨g', o', rfl, hg', hc'⟩ := (HB.out.below hW).at_ hy
        have d0 := hc' 0 _ rfl
        have d1 := hc' 1 _ rfl
        have d2 := hc' 2 _ rfl
        rw [Nat.add_zero] at d0
        have HKN := Lib.hid (valsC_at l m k HX.out hy)
        have q2 := (hW.alloc hW.size (.cells #[.int .u8 x.k, .int .i64 x.n, .string x.s] 43)).alloc (by simp; have := hW.size; omega) (.cells #[.int .u8 y.k, .int .i64 y.n, .string y.s] 43)
        clear hc' hy
        have HV := Lib.hid (fun w => value_compare_v x y w)
        obtain ⟨C, hC⟩ : ∃ C, C = cmpW x y := ⟨_, rfl⟩
        rw [← hC] at HV HKN
        clear hC
        by_cases h0 : C = 0
        · have HK2 : Hid (R = valsC (l.drop (k + 1)) (m.drop (k + 1))) := Lib.hid (by rw [HK.out, HKN.out, if_pos h0])
          subst h0
          go_wp2_with fail
          refine (HV.out _).mono ?_
          rintro e w2 ⟨rfl, hb2⟩
          have q3 := keepS' q2 hb2
          go_wp2
          go_roundw
          case rel => exact ⟨k + 1, by go_num, by omega, by omega, q3, HK2⟩
          case measure => simp [RowKit.intOf]; omega
        · have HK2 : Hid (R = C) := Lib.hid (by rw [HK.out, HKN.out, if_neg h0])
          have h0' : (C != 0) = true := by simpa using h0
          clear h0
          go_wp2_with fail
          refine (HV.out _).mono ?_
          rintro e w2 ⟨rfl, hb2⟩
          have q3 := keepS' q2 hb2
          go_wp2
          go_ret
          exact ⟨by rw [HK2.out]; rfl, q3⟩
      · have hmI : (m.length : Int) ≤ (k : Int) := by omega
        have HE : Hid (R = 1) := Lib.hid (by
          rw [HK.out, valsC_end l m k (.inr (by omega)) hk hkm]; unfold cmpI; rw [if_neg (by omega), if_pos (by omega)])
        have q2 := hW.alloc hW.size (.cells #[.int .u8 x.k, .int .i64 x.n, .string x.s] 43)
        go_wp2
        go_ret
        exact ⟨by rw [HE.out]; rfl, q2⟩
    · have HE : Hid (R = cmpI l.length m.length) := Lib.hid (by rw [HK.out, valsC_end l m k (.inl (by omega)) hk hkm])
      by_cases hlt : l.length < m.length
      · have hltI : (l.length : Int) < (m.length : Int) := by omega
        have hD : decide (l.length < m.length) = true := by simpa using hlt
        have HE2 : Hid (R = -1) := Lib.hid (by rw [HE.out]; unfold cmpI; rw [if_pos (by omega)])
        go_wp2
        go_ret
        exact ⟨by rw [HE2.out]; rfl, hW⟩
      · have hD : decide (l.length < m.length) = false := by simpa using hlt
        have HE2 : Hid (R = 0) := Lib.hid (by rw [HE.out]; unfold cmpI; rw [if_neg (by omega), if_neg (by omega)])
        go_wp2
        go_ret
        exact ⟨by rw [HE2.out]; rfl, hW⟩

set_option maxRecDepth 100000 in
set_option maxHeartbeats 8000000 in
theorem codec_compare (r s : Rw) (vr vs : Value) (w : World) (ha : Sl 3 Vl.enc w vr r.l) (hb : Sl 3 Vl.enc w vs s.l) (hl : r.l.length ≤ 9223372036854775807) (hm : s.l.length ≤ 9223372036854775807) :
    Calls Tryd.prog 14 #[.agg #[vr, .int .i64 r.f, .int .i64 r.t], .agg #[vs, .int .i64 s.f, .int .i64 s.t]] w fun e w' => e = .returned (.int .i64 (rowC r s)) ∧ Below w.heap.size w w' := by
  have HC := Lib.hid (fun w ha hb => compare_func vr vs r.l s.l w ha hb hl hm)
  obtain ⟨l, f, t⟩ := r
  obtain ⟨m, f', t'⟩ := s
  unfold rowC
  dsimp only at *
  obtain ⟨A, ca, rfl⟩ := ha.slice
  obtain ⟨B, cb, rfl⟩ := hb.slice
  have HA := Lib.hid ha
  have HB := Lib.hid hb
  generalize valsC l m = V at *
  clear ha hb
  obtain ⟨W0, hW0⟩ : ∃ W0, W0 = (w.alloc (.cells #[.slice A l.length ca, .int .i64 f, .int .i64 t] 26)).alloc (.cells #[.slice B m.length cb, .int .i64 f', .int .i64 t'] 26) := ⟨_, rfl⟩
  have q0 : Below w.heap.size w W0 := by rw [hW0]; exact ((Below.refl _ _).alloc (Nat.le_refl _) _).alloc (by simp) _
  have b1 : Blk W0 w.heap.size 26 #[.slice A l.length ca, .int .i64 f, .int .i64 t] := by rw [hW0]; exact (Blk.new _ _ _).alloc _
  have b2 : Blk W0 (w.heap.size + 1) 26 #[.slice B m.length cb, .int .i64 f', .int .i64 t'] := by
    rw [hW0]
    have := Blk.new (w.alloc (.cells #[.slice A l.length ca, .int .i64 f, .int .i64 t] 26)) 26 #[.slice B m.length cb, .int .i64 f', .int .i64 t']
    simpa using this
  have lt1 : w.heap.size + 1 < W0.heap.size := b2.lt
  go_enter Tryd.func14, Tryd.ntmps14
  go_wp2_with fail
  rw [← hW0]
  have HW0 := Lib.hid hW0
  clear hW0
  have z0 := b1.cell_ _ (i := 0) rfl
  have z1 := b1.cell_ _ (i := 1) rfl
  have z2 := b1.cell_ _ (i := 2) rfl
  have y0 := b2.cell_ _ (i := 0) rfl
  have y1 := b2.cell_ _ (i := 1) rfl
  have y2 := b2.cell_ _ (i := 2) rfl
  clear b1 b2
  go_region_held3 (fun w' => w'.cell? ⟨w.heap.size, 0, none⟩ = some (.slice A l.length ca) ∧ w'.cell? ⟨w.heap.size, 1, none⟩ = some (.int .i64 f) ∧ w'.cell? ⟨w.heap.size, 2, none⟩ = some (.int .i64 t) ∧
      w'.cell? ⟨w.heap.size + 1, 0, none⟩ = some (.slice B m.length cb) ∧ w'.cell? ⟨w.heap.size + 1, 1, none⟩ = some (.int .i64 f') ∧ w'.cell? ⟨w.heap.size + 1, 2, none⟩ = some (.int .i64 t'))
    (first | go_keep | (go_split_ands; refine ⟨?_, ?_, ?_, ?_, ?_, ?_⟩ <;> (rw [hb6.cell (p := ⟨_, _, none⟩) (by simp; omega)]; assumption)))
    (first
      | (go_at_call 32; refine (HC.out _ (HA.out.below q0).drew (HB.out.below q0).drew).mono ?_; rintro e w6 ⟨rfl, hb6⟩)
      | (go_at_call 34; refine (cmp_int _ _ _).mono ?_; rintro e w6 ⟨rfl, rfl⟩)
      | (go_at_call 31; refine (cmp_or3 _ V (cmpI f f') (cmpI t t') _ (by simp [go_sem]) (by simp [go_sem]) (by simp [go_sem])).mono ?_; rintro e w6 ⟨rfl, rfl⟩))
  have q6 := keepS' q0.drew hb6
  go_wp2
  go_ret
  exact ⟨rfl, q6.alloc q6.size _⟩

theorem ref_ints (a b : Int) (w : World) :
    Calls Tryd.prog 50 #[.int .i64 a, .int .i64 b] w fun e w' => e = .returned (.int .i64 (cmpI a b)) ∧ w = w' := by
  by_cases h1 : a < b
  · go_enter Tryd.func50, Tryd.ntmps50
    go_wp2
    go_ret
    exact ⟨ret_int (by rw [cmpI, if_pos (by omega)]), rfl⟩
  · by_cases h2 : b < a
    · go_enter Tryd.func50, Tryd.ntmps50
      go_wp2
      go_ret
      exact ⟨ret_int (by rw [cmpI, if_neg (by omega), if_pos (by omega)]), rfl⟩
    · go_enter Tryd.func50, Tryd.ntmps50
      go_wp2
      go_ret
      exact ⟨ret_int (by rw [cmpI, if_neg (by omega), if_neg (by omega)]), rfl⟩

set_option maxRecDepth 100000 in
set_option maxHeartbeats 1000000 in
theorem ref_spans (f t f' t' : Int) (w : World) :
    Calls Tryd.prog 36 #[.agg #[.int .i64 f, .int .i64 t], .agg #[.int .i64 f', .int .i64 t']] w fun e w' => e = .returned (.int .i64 (orI [cmpI f f', cmpI t t'])) ∧ Below w.heap.size w w' := by
  have q0 : Below w.heap.size w ((w.alloc (.cells #[.int .i64 f, .int .i64 t] 24)).alloc (.cells #[.int .i64 f', .int .i64 t'] 24)) := ((Below.refl _ _).alloc (Nat.le_refl _) _).alloc (by simp) _
  have H1 := Lib.hid (fun w => ref_ints f f' w)
  have H2 := Lib.hid (fun w => ref_ints t t' w)
  obtain ⟨R, hR⟩ : ∃ R, R = orI [cmpI f f', cmpI t t'] := ⟨_, rfl⟩
  rw [← hR]
  generalize cmpI f f' = C at *
  generalize cmpI t t' = D at *
  by_cases h0 : C = 0
  · have HR : Hid (R = D) := Lib.hid (by rw [hR, orI, if_pos h0, orI, orI]; split <;> simp_all)
    subst h0
    clear hR
    go_enter Tryd.func36, Tryd.ntmps36
    go_wp2_with fail
    refine (H1.out _).mono ?_
    rintro e w1 ⟨rfl, rfl⟩
    go_wp2_with fail
    refine (H2.out _).mono ?_
    rintro e w1 ⟨rfl, rfl⟩
    go_wp2
    go_ret
    exact ⟨by rw [HR.out]; rfl, q0⟩
  · have HR : Hid (R = C) := Lib.hid (by rw [hR, orI, if_neg h0])
    have h0' : (C != 0) = true := by simpa using h0
    clear hR h0
    go_enter Tryd.func36, Tryd.ntmps36
    go_wp2_with fail
    refine (H1.out _).mono ?_
    rintro e w1 ⟨rfl, rfl⟩
    go_wp2
    go_ret
    exact ⟨by rw [HR.out]; rfl, q0⟩
end Go.Proofs.YtafbphiedaijmaaDoor
