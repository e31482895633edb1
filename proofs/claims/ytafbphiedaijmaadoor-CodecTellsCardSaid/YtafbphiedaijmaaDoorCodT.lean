/- The reference's Right, Same, Key of a row; codec.Same. -/
import Derived.Test.YtafbphiedaijmaaDoorCodR
import Derived.Test.YtafbphiedaijmaaDoorRefC
import Derived.Test.YtafbphiedaijmaaDoorCodL
import Derived.Test.YtafbphiedaijmaaDoorArr
import Derived.Laws.StructEq
namespace Go.Proofs.YtafbphiedaijmaaDoor
open Go.RowKit Go.Lib

theorem bel_drewN {B : Nat} {a w : World} (h : Below B a w) (n : Nat) : Below B a (w.drewN n) := ⟨h.os, h.tape, h.output, h.size, h.block⟩
theorem valsC_zero : ∀ {l m : List Vl}, valsC l m = 0 → l = m
  | [], [], _ => rfl
  | [], _ :: _, h => by simp [valsC] at h
  | _ :: _, [], h => by simp [valsC] at h
  | a :: l, b :: m, h => by
    unfold valsC at h
    by_cases h0 : cmpW a b = 0
    · rw [if_pos h0] at h
      obtain ⟨h1, h2, h3⟩ := cV_zero h0
      rw [valsC_zero h]
      obtain ⟨_, _, _⟩ := a
      obtain ⟨_, _, _⟩ := b
      dsimp only at h1 h2 h3
      subst h1; subst h2; subst h3
      rfl
    · rw [if_neg h0] at h; exact absurd h h0
theorem valsC_self (l : List Vl) : valsC l l = 0 := by
  induction l with
  | nil => rfl
  | cons a t ih => rw [valsC, if_pos (show cmpW a a = 0 from cV_self _ _ _), ih]
theorem valsC_same (l m : List Vl) : (valsC l m == 0) = decide (l = m) := by
  by_cases h : l = m
  · subst h; simp [valsC_self]
  · have : valsC l m ≠ 0 := fun e => h (valsC_zero e)
    simp [h, this]

set_option maxHeartbeats 1000000 in
theorem ref1_right (f t : Int) (w : World) :
    Calls Tryd.prog 29 #[.agg #[.int .i64 f, .int .i64 t]] w fun e w' => e = .returned (.bool (spanB f t)) ∧ Below w.heap.size w w' := by
  have hb0 : ∀ o, Below w.heap.size w (w.alloc o) := fun o => (Below.refl _ _).alloc (Nat.le_refl _) o
  obtain ⟨R, hR⟩ : ∃ R, R = spanB f t := ⟨_, rfl⟩
  rw [← hR]
  unfold spanB at hR
  by_cases h1 : -1000 ≤ f
  · by_cases h2 : f < t
    · by_cases h3 : t ≤ 1000
      · have HR : Hid (R = true) := Lib.hid (by rw [hR]; simp [h1, h2, h3])
        clear hR
        go_enter Tryd.func29, Tryd.ntmps29
        go_wp2
        go_ret
        exact ⟨by rw [HR.out]; rfl, hb0 _⟩
      · have HR : Hid (R = false) := Lib.hid (by rw [hR]; simp [h3])
        have h3' : decide (t ≤ 1000) = false := by simpa using h3
        clear hR h3
        go_enter Tryd.func29, Tryd.ntmps29
        go_wp2
        go_ret
        exact ⟨by rw [HR.out]; rfl, hb0 _⟩
    · have HR : Hid (R = false) := Lib.hid (by rw [hR]; simp [h2])
      have h2' : decide (f < t) = false := by simpa using h2
      clear hR h2
      go_enter Tryd.func29, Tryd.ntmps29
      go_wp2
      go_ret
      exact ⟨by rw [HR.out]; rfl, hb0 _⟩
  · have HR : Hid (R = false) := Lib.hid (by rw [hR]; simp [h1])
    have h1' : decide (-1000 ≤ f) = false := by simpa using h1
    clear hR h1
    go_enter Tryd.func29, Tryd.ntmps29
    go_wp2
    go_ret
    exact ⟨by rw [HR.out]; rfl, hb0 _⟩

set_option maxRecDepth 100000 in
theorem val_struct : Tryd.prog.underlying 43 = some (.struct (Tryd.prog.fieldsOf 43)) := by kernel_rfl
theorem val_stood : Tryd.prog.stoodInHeld 43 = false := by kernel_rfl
theorem val_guard : Tryd.prog.eqGuardType Tryd.prog.depth 43 = false := by kernel_rfl
set_option maxRecDepth 100000 in
theorem val_neq (x y : Vl) (w : World) : (binOp .neq 43 (.agg #[.int .u8 x.k, .int .i64 x.n, .string x.s]) (.agg #[.int .u8 y.k, .int .i64 y.n, .string y.s])).run Tryd.prog w = .ok (.bool (!decide (x = y))) w := by
  have u3 := Tryd.underlying2
  have u9 := Tryd.underlying9
  have uk := Tryd.underlying41
  rw [run_neq_struct, show (10000 : Nat) = 9999 + 1 from rfl, run_equalIn_agg w 9999 43 _ _ val_struct val_stood]
  simp only [Program.fieldsOf, Tryd.underlying43]
  go_simp
  obtain ⟨k, n, s⟩ := x
  obtain ⟨k', n', s'⟩ := y
  dsimp only
  have hs : (s = s') ↔ s.toList = s'.toList := ⟨fun e => by rw [e], fun e => by rw [ByteArray.toList_eq, ByteArray.toList_eq] at e; obtain ⟨⟨a⟩⟩ := s; obtain ⟨⟨b⟩⟩ := s'; simp at e; simp [e]⟩
  simp only [Vl.mk.injEq, hs]
  by_cases h1 : k = k' <;> by_cases h2 : n = n' <;> by_cases h3 : s.toList = s'.toList <;> simp [h1, h2, h3]

set_option maxRecDepth 100000 in
set_option maxHeartbeats 4000000 in
theorem ref4_same (va vb : Value) (l m : List Vl) (w : World) (ha : Sl 3 Vl.enc w va l) (hb : Sl 3 Vl.enc w vb m) (hl : l.length ≤ 9223372036854775807) (hm : m.length ≤ 9223372036854775807) :
    Calls Tryd.prog 17 #[va, vb] w fun e w' => e = .returned (.bool (decide (l = m))) ∧ Below w.heap.size w w' := by
  have HC := Lib.hid (ref_values va vb l m w ha hb hl hm)
  have HS := Lib.hid (valsC_same l m)
  obtain ⟨A, ca, rfl⟩ := ha.slice
  obtain ⟨B, cb, rfl⟩ := hb.slice
  clear ha hb
  go_enter Tryd.func17, Tryd.ntmps17
  go_wp2_with fail
  refine HC.out.mono ?_
  rintro e w2 ⟨rfl, hb2⟩
  go_wp2
  go_ret
  exact ⟨by rw [← HS.out]; rfl, hb2⟩

set_option maxRecDepth 100000 in
set_option maxHeartbeats 4000000 in
theorem equal_vals (va vb : Value) (l m : List Vl) (w : World) (ha : Sl 3 Vl.enc w va l) (hb : Sl 3 Vl.enc w vb m) (hl : l.length ≤ 9223372036854775807) (hm : m.length ≤ 9223372036854775807) :
    Calls Tryd.prog 37 #[va, vb] w fun e w' => e = .returned (.bool (decide (l = m))) ∧ Below w.heap.size w w' := by
  obtain ⟨R, hR⟩ : ∃ R, R = decide (l = m) := ⟨_, rfl⟩
  rw [← hR]
  obtain ⟨A, ca, rfl⟩ := ha.slice
  obtain ⟨B, cb, rfl⟩ := hb.slice
  have HA := Lib.hid ha
  have HB := Lib.hid hb
  by_cases hlm : l.length = m.length
  · have HLM := Lib.hid hlm
    have HR : Hid (R = decide (l.drop 0 = m.drop 0)) := Lib.hid hR
    have h0 : ((l.length : Int) != (m.length : Int)) = false := by simp [hlm]
    clear ha hb hR hlm
    generalize hnm : m.length = nm at *
    have HNM := Lib.hid hnm
    clear hnm
    go_enter Tryd.func37, Tryd.ntmps37
    go_wp2
    clear h0
    go_loopw [13] (fun i wr => ∃ k : Nat, i = .int .i64 k ∧ k ≤ l.length ∧ Below w.heap.size w wr ∧ Hid (R = decide (l.drop k = m.drop k))) (fun i _ => l.length - (RowKit.intOf i).toNat)
    case atStart => exact ⟨0, rfl, by omega, Below.refl _ _, HR⟩
    case round =>
      obtain ⟨k, rfl, hk, hW, HK⟩ := hrel
      by_cases hkl : k < l.length
      · obtain ⟨x, hx⟩ : ∃ x, l[k]? = some x := ⟨_, List.getElem?_eq_getElem hkl⟩
        have hkm : k < m.length := by rw [HNM.out, ← HLM.out]; exact hkl
        have hkI : (k : Int) < (l.length : Int) := by omega
        have hkJ : (k : Int) < (nm : Int) := by rw [← HNM.out]; omega
        have hkI0 : (0 : Int) ≤ (k : Int) := by omega
        obtain ⟨g, o, rfl, hg, hc⟩ := (HA.out.below hW).at_ hx
        have c0 := hc 0 _ rfl
        have c1 := hc 1 _ rfl
        have c2 := hc 2 _ rfl
        rw [Nat.add_zero] at c0
        have HX := Lib.hid hx
        clear hc hx
        obtain ⟨y, hy⟩ : ∃ y, m[k]? = some y := ⟨_, List.getElem?_eq_getElem hkm⟩
        obtain ⟨g', o', rfl, hg', hc'⟩ := (HB.out.below hW).at_ hy
        have d0 := hc' 0 _ rfl
        have d1 := hc' 1 _ rfl
        have d2 := hc' 2 _ rfl
        rw [Nat.add_zero] at d0
        have HY := Lib.hid hy
        clear hc' hy hkm
        have HN := Lib.hid (val_neq x y)
        have hgd : ∀ o1 o2 xs ys w', (eqGuard .neq 43 o1 o2 (.agg xs) (.agg ys)).run Tryd.prog w' = .ok () w' := fun o1 o2 xs ys w' => run_eqGuard_agg w' .neq _ o1 o2 xs ys val_guard
        have HD := Lib.hid (show decide (x = y) = true → R = decide (l.drop (k + 1) = m.drop (k + 1)) from fun e => by
          rw [HK.out]
          obtain ⟨h1, e1⟩ := List.getElem?_eq_some_iff.1 HX.out
          obtain ⟨h2, e2⟩ := List.getElem?_eq_some_iff.1 HY.out
          rw [List.drop_eq_getElem_cons h1, List.drop_eq_getElem_cons h2, e1, e2]
          have e3 : x = y := by simpa using e
          simp [e3])
        have HD2 := Lib.hid (show decide (x = y) = false → R = false from fun e => by
          rw [HK.out]
          obtain ⟨h1, e1⟩ := List.getElem?_eq_some_iff.1 HX.out
          obtain ⟨h2, e2⟩ := List.getElem?_eq_some_iff.1 HY.out
          rw [List.drop_eq_getElem_cons h1, List.drop_eq_getElem_cons h2, e1, e2]
          have e3 : ¬ x = y := by simpa using e
          simp [e3])
        generalize decide (x = y) = D at *
        have hne := HN.out
        cases D with
        | true =>
          go_wp2_with fail
          go_quiet (fail)
          go_wp2
          go_roundw
          case rel => exact ⟨k + 1, by go_num, by omega, bel_drewN hW _, Lib.hid (HD.out (by simp))⟩
          case measure => simp [RowKit.intOf]; omega
        | false =>
          go_wp2_with fail
          go_quiet (fail)
          go_wp2
          go_ret
          exact ⟨by rw [HD2.out (by simp)]; rfl, bel_drewN hW _⟩
      · have hkI : decide ((k : Int) < (l.length : Int)) = false := by simp; omega
        have HE : Hid (R = true) := Lib.hid (by
          rw [HK.out, List.drop_eq_nil_of_le (by omega), List.drop_eq_nil_of_le (by have := HNM.out; have := HLM.out; omega)]; rfl)
        go_wp2
        go_ret
        exact ⟨by rw [HE.out]; rfl, hW⟩
  · have h0 : ((l.length : Int) != (m.length : Int)) = true := by simp; omega
    have HE : Hid (R = false) := Lib.hid (by
      rw [hR]
      have : ¬ l = m := fun e => hlm (by rw [e])
      simp [this])
    clear hlm hR ha hb
    go_enter Tryd.func37, Tryd.ntmps37
    go_wp2
    go_ret
    exact ⟨by rw [HE.out]; rfl, Below.refl _ _⟩

set_option maxRecDepth 100000 in
theorem codec_same (va vb : Value) (l m : List Vl) (w : World) (ha : Sl 3 Vl.enc w va l) (hb : Sl 3 Vl.enc w vb m) (hl : l.length ≤ 9223372036854775807) (hm : m.length ≤ 9223372036854775807) :
    Calls Tryd.prog 16 #[va, vb] w fun e w' => e = .returned (.bool (decide (l = m))) ∧ Below w.heap.size w w' := by
  have HC := Lib.hid (equal_vals va vb l m w ha hb hl hm)
  generalize decide (l = m) = R at *
  obtain ⟨A, ca, rfl⟩ := ha.slice
  obtain ⟨B, cb, rfl⟩ := hb.slice
  clear ha hb
  go_enter Tryd.func16, Tryd.ntmps16
  go_wp2_with fail
  refine HC.out.mono ?_
  rintro e w2 ⟨rfl, hb2⟩
  go_wp2
  go_ret
  exact ⟨rfl, hb2⟩


set_option maxRecDepth 100000 in
set_option maxHeartbeats 4000000 in
theorem ref4_right (r : Rw) (v : Value) (w : World) (hr : r.ok) (hS : Sl 3 Vl.enc w v r.l) (hl : r.l.length ≤ 9223372036854775807) (hE : Env w) :
    Calls Tryd.prog 13 #[.agg #[v, .int .i64 r.f, .int .i64 r.t]] w fun e w' => e = .returned (.bool r.b) ∧ Below w.heap.size w w' := by
  obtain ⟨l, f, t⟩ := r
  obtain ⟨hok, _, _⟩ := hr
  dsimp only at hS hl hok ⊢
  obtain ⟨R, hR⟩ : ∃ R, R = Rw.b ⟨l, f, t⟩ := ⟨_, rfl⟩
  rw [← hR]
  unfold Rw.b at hR
  dsimp only at hR
  obtain ⟨A, c, rfl⟩ := hS.slice
  have HS := Lib.hid hS
  have HO := Lib.hid hok
  have HE := Lib.hid hE
  obtain ⟨W0, hW0⟩ : ∃ W0, W0 = w.alloc (.cells #[.slice A l.length c, .int .i64 f, .int .i64 t] 26) := ⟨_, rfl⟩
  have q0 : Below w.heap.size w W0 := by rw [hW0]; exact (Below.refl _ _).alloc (Nat.le_refl _) _
  have b0 : Blk W0 w.heap.size 26 #[.slice A l.length c, .int .i64 f, .int .i64 t] := by rw [hW0]; exact Blk.new _ _ _
  have HW0 := Lib.hid hW0
  have xr := b0.cell
  have HRR := Lib.hid hR
  clear hS hok hE hW0 hR
  by_cases h0 : (l.length : Int) < 1
  · have HR : Hid (R = false) := Lib.hid (by rw [HRR.out, decide_eq_false (by omega : ¬ 1 ≤ l.length)]; rfl)
    go_enter Tryd.func13, Tryd.ntmps13
    go_upto_region 1 with (fail)
    rw [← HW0.out]
    go_wp2
    go_ret
    exact ⟨by rw [HR.out]; rfl, q0⟩
  · by_cases h4 : (4 : Int) < (l.length : Int)
    · have HR : Hid (R = false) := Lib.hid (by rw [HRR.out, decide_eq_false (by omega : ¬ l.length ≤ 4)]; simp)
      have h0' : decide ((l.length : Int) < 1) = false := by simpa using h0
      clear h0
      go_enter Tryd.func13, Tryd.ntmps13
      go_upto_region 1 with (fail)
      rw [← HW0.out]
      go_wp2
      go_ret
      exact ⟨by rw [HR.out]; rfl, q0⟩
    · have h0' : decide ((l.length : Int) < 1) = false := by simpa using h0
      have h4' : decide ((4 : Int) < (l.length : Int)) = false := by simpa using h4
      have hl1 : 1 ≤ l.length := by omega
      have hl4 : l.length ≤ 4 := by omega
      have HL := Lib.hid (And.intro hl1 hl4)
      have HSP := Lib.hid (ref1_right f t W0)
      generalize hsp : spanB f t = sp at *
      have HSE := Lib.hid hsp
      clear hsp h4 h0 hl1 hl4
      go_enter Tryd.func13, Tryd.ntmps13
      go_upto_region 1 with (fail)
      rw [← HW0.out]
      go_wp2_with fail
      refine HSP.out.mono ?_
      rintro e w1 ⟨rfl, hb1⟩
      have q1 := q0.trans (hb1.mono q0.size)
      have b1 := b0.below hb1 b0.lt
      clear xr q0 b0 hb1
      cases sp with
      | false =>
        have HR : Hid (R = false) := Lib.hid (by rw [HRR.out]; simp)
        go_wp2
        go_ret
        exact ⟨by rw [HR.out]; rfl, q1⟩
      | true =>
        go_wp2
        go_loopw [3] (fun i wr => ∃ k : Nat, i = .int .i64 k ∧ k ≤ l.length ∧ Below w.heap.size w wr ∧ Blk wr w.heap.size 26 #[.slice A l.length c, .int .i64 f, .int .i64 t] ∧ Hid ((l.take k).all Vl.b = true)) (fun i _ => l.length - (RowKit.intOf i).toNat)
        case atStart => exact ⟨0, rfl, by omega, q1, b1, Lib.hid (by simp)⟩
        case round =>
          obtain ⟨k, rfl, hk, hB, hBk, HA⟩ := hrel
          have xb := hBk.cell
          clear q1 b1
          by_cases hkl : k < l.length
          · obtain ⟨x, hx⟩ : ∃ x, l[k]? = some x := ⟨_, List.getElem?_eq_getElem hkl⟩
            have hkI : (k : Int) < (l.length : Int) := by omega
            have hkI0 : (0 : Int) ≤ (k : Int) := by omega
            obtain ⟨g, o, rfl, hg, hc⟩ := (HS.out.below hB).at_ hx
            have c0 := hc 0 _ rfl
            have c1 := hc 1 _ rfl
            have c2 := hc 2 _ rfl
            rw [Nat.add_zero] at c0
            have HX := Lib.hid hx
            have HV := Lib.hid (ref3_right x.k x.n x.s wr (HO.out x (List.mem_of_getElem? hx)).2.2.2 (HE.out.below hB))
            obtain ⟨bx, hbx⟩ : ∃ bx, bx = x.b := ⟨_, rfl⟩
            have hbx' : valB x.k x.n x.s = bx := hbx.symm
            rw [hbx'] at HV
            have HBX := Lib.hid hbx
            clear hx hc hbx hbx'
            cases bx with
            | true =>
              have HA2 : Hid ((l.take (k + 1)).all Vl.b = true) := Lib.hid (by
                obtain ⟨h, e⟩ := List.getElem?_eq_some_iff.1 HX.out
                rw [List.take_succ_eq_append_getElem h, List.all_append, HA.out, e]
                simp [← HBX.out])
              go_wp2_with fail
              refine HV.out.mono ?_
              rintro e w2 ⟨rfl, hb2⟩
              have q2 := hB.trans (hb2.mono hB.size)
              have b2 := hBk.below hb2 hBk.lt
              clear xb hb2
              go_wp2
              go_roundw
              case rel => exact ⟨k + 1, by go_num, by omega, q2, b2, HA2⟩
              case measure => simp [RowKit.intOf]; omega
            | false =>
              have HF : Hid (R = false) := Lib.hid (by
                rw [HRR.out]
                have : l.all Vl.b = false := by
                  rw [List.all_eq_false]
                  exact ⟨x, List.mem_of_getElem? HX.out, by rw [← HBX.out]; decide⟩
                rw [this]; simp)
              go_wp2_with fail
              refine HV.out.mono ?_
              rintro e w2 ⟨rfl, hb2⟩
              have q2 := hB.trans (hb2.mono hB.size)
              clear xb hb2
              go_wp2
              go_ret
              exact ⟨by rw [HF.out]; rfl, q2⟩
          · have hkI : decide ((k : Int) < (l.length : Int)) = false := by simp; omega
            have hkN : decide (k < l.length) = false := by simp; omega
            have HF : Hid (R = true) := Lib.hid (by
              have e : l.take k = l := List.take_of_length_le (by omega)
              have := HA.out
              rw [e] at this
              rw [HRR.out, this]
              have := HL.out
              simp; omega)
            go_wp2
            go_ret
            exact ⟨by rw [HF.out]; rfl, hB⟩

set_option maxRecDepth 100000 in
set_option maxHeartbeats 2000000 in
theorem ref4_key (r : Rw) (v : Value) (w : World) (hr : r.ok) (hS : Sl 3 Vl.enc w v r.l) (hl : r.l.length ≤ 9223372036854775807) (hE : Env w) :
    Calls Tryd.prog 19 #[.agg #[v, .int .i64 r.f, .int .i64 r.t]] w fun e w' => e = .returned (.string ⟨r.key.toArray⟩) ∧ Below w.heap.size w w' := by
  obtain ⟨l, f, t⟩ := r
  obtain ⟨hok, _, _⟩ := hr
  dsimp only at *
  obtain ⟨KE, hKE⟩ : ∃ K, K = Rw.key ⟨l, f, t⟩ := ⟨_, rfl⟩
  rw [← hKE]
  obtain ⟨A, c, rfl⟩ := hS.slice
  have HS := Lib.hid hS
  have HE := Lib.hid hE
  clear hS hE
  have hb0 : ∀ o, Below w.heap.size w (w.alloc o) := fun o => (Below.refl _ _).alloc (Nat.le_refl _) o
  cases l with
  | nil =>
    have HK : Hid (KE = []) := Lib.hid hKE
    have h0 : (((([] : List Vl).length : Nat) : Int) == 0) = true := rfl
    clear hKE
    go_enter Tryd.func19, Tryd.ntmps19
    go_wp2
    go_ret
    exact ⟨by rw [HK.out]; rfl, hb0 _⟩
  | cons x rest =>
    obtain ⟨n, hn⟩ : ∃ n, n = (x :: rest).length := ⟨_, rfl⟩
    have hn1 : 1 ≤ n := by rw [hn]; simp
    rw [← hn] at hl
    have h0 : ((n : Int) == 0) = false := by simp; omega
    have hnI : (0 : Int) < (n : Int) := by omega
    obtain ⟨g, o, rfl, hg, hc⟩ := HS.out.at_ (k := 0) (x := x) rfl
    have c0 := hc 0 _ rfl
    have c1 := hc 1 _ rfl
    have c2 := hc 2 _ rfl
    simp only [Nat.zero_mul, Nat.add_zero] at c0 c1 c2
    have q0 := hb0 (.cells #[.slice (some ⟨g, o, none⟩) n c, .int .i64 f, .int .i64 t] 26)
    have hxo := hok x (List.mem_cons_self ..)
    have HXO := Lib.hid hxo
    clear hc hok hxo
    rw [← hn] at HS ⊢
    cases hx : x.b with
    | true =>
      have HK : Hid (KE = x.bytes) := Lib.hid (by rw [hKE]; unfold Rw.key; dsimp only; rw [if_pos hx])
      clear hKE hn
      go_enter Tryd.func19, Tryd.ntmps19
      go_wp2_with fail
      refine (ref3_bytes x.k x.n x.s _ HXO.out.1.1 HXO.out.1.2 hx (HE.out.below q0)).mono ?_
      rintro e w2 ⟨⟨vx, rfl, hvx⟩, hb2⟩
      have hcv := conv_own hvx
      have q2 := keepS' q0 hb2
      go_wp2
      go_ret
      exact ⟨by rw [HK.out]; rfl, q2⟩
    | false =>
      have HK : Hid (KE = []) := Lib.hid (by rw [hKE]; unfold Rw.key; dsimp only; rw [if_neg (by rw [hx]; decide)])
      clear hKE hn
      go_enter Tryd.func19, Tryd.ntmps19
      go_wp2_with fail
      refine (ref3_bytes_no x.k x.n x.s _ hx HXO.out.2.2.2 (HE.out.below q0)).mono ?_
      rintro e w2 ⟨rfl, hb2⟩
      have hcv := conv_sl (Sl.nil 1 u8E w2)
      have q2 := keepS' q0 hb2
      go_wp2
      go_ret
      exact ⟨by rw [HK.out]; rfl, q2⟩

end Go.Proofs.YtafbphiedaijmaaDoor
