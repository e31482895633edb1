/- The walk of CodecBytes. -/
import Derived.Test.YtafbphiedaijmaaDoorCodR
import Derived.Test.YtafbphiedaijmaaDoorRefC
import Derived.Test.YtafbphiedaijmaaDoorCodL
import Derived.Test.YtafbphiedaijmaaDoorArr
import Derived.Laws.StructEq
import Derived.Test.YtafbphiedaijmaaDoorCodG
import Derived.Test.YtafbphiedaijmaaDoorRefD
import Derived.BigRegion
namespace Go.Proofs.YtafbphiedaijmaaDoor
open Go.RowKit Go.Lib

theorem bel_drewN {B : Nat} {a w : World} (h : Below B a w) (n : Nat) : Below B a (w.drewN n) := ⟨h.os, h.tape, h.output, h.size, h.block⟩
theorem valsC_zero : ∀ {l m : List Vl}, valsC l m = 0 → l = m
  | [], [], _ => rfl
  | [], _ :: _, h => by simp [valsC] at h
  | _ :: _, [], h => by simp [valsC] at h
  | a :: l, b :: m, h => by
    unfold valsC at h
    by_cases h0 : cmpW a b = 0
    · rw [if_pos h0] at h
      obtain ⟨h1, h2, h3⟩ := cV_zero h0
      rw [valsC_zero h]
      obtain ⟨_, _, _⟩ := a
      obtain ⟨_, _, _⟩ := b
      dsimp only at h1 h2 h3
      subst h1; subst h2; subst h3
      rfl
    · rw [if_neg h0] at h; exact absurd h h0
theorem valsC_self (l : List Vl) : valsC l l = 0 := by
  induction l with
  | nil => rfl
  | cons a t ih => rw [valsC, if_pos (show cmpW a a = 0 from cV_self _ _ _), ih]
theorem valsC_same (l m : List Vl) : (valsC l m == 0) = decide (l = m) := by
  by_cases h : l = m
  · subst h; simp [valsC_self]
  · have : valsC l m ≠ 0 := fun e => h (valsC_zero e)
    simp [h, this]

set_option maxHeartbeats 1000000 in
theorem ref1_right (f t : Int) (w : World) :
    Calls Tryd.prog 29 #[.agg #[.int .i64 f, .int .i64 t]] w fun e w' => e = .returned (.bool (spanB f t)) ∧ Below w.heap.size w w' := by
  have hb0 : ∀ o, Below w.heap.size w (w.alloc o) := fun o => (Below.refl _ _).alloc (Nat.le_refl _) o
  obtain ⟨R, hR⟩ : ∃ R, R = spanB f t := ⟨_, rfl⟩
  rw [← hR]
  unfold spanB at hR
  by_cases h1 : -1000 ≤ f
  · by_cases h2 : f < t
    · by_cases h3 : t ≤ 1000
      · have HR : Hid (R = true) := Lib.hid (by rw [hR]; simp [h1, h2, h3])
        clear hR
        go_enter Tryd.func29, Tryd.ntmps29
        go_wp2
        go_ret
        exact ⟨by rw [HR.out]; rfl, hb0 _⟩
      · have HR : Hid (R = false) := Lib.hid (by rw [hR]; simp [h3])
        have h3' : decide (t ≤ 1000) = false := by simpa using h3
        clear hR h3
        go_enter Tryd.func29, Tryd.ntmps29
        go_wp2
        go_ret
        exact ⟨by rw [HR.out]; rfl, hb0 _⟩
    · have HR : Hid (R = false) := Lib.hid (by rw [hR]; simp [h2])
      have h2' : decide (f < t) = false := by simpa using h2
      clear hR h2
      go_enter Tryd.func29, Tryd.ntmps29
      go_wp2
      go_ret
      exact ⟨by rw [HR.out]; rfl, hb0 _⟩
  · have HR : Hid (R = false) := Lib.hid (by rw [hR]; simp [h1])
    have h1' : decide (-1000 ≤ f) = false := by simpa using h1
    clear hR h1
    go_enter Tryd.func29, Tryd.ntmps29
    go_wp2
    go_ret
    exact ⟨by rw [HR.out]; rfl, hb0 _⟩

set_option maxRecDepth 100000 in
theorem val_struct : Tryd.prog.underlying 43 = some (.struct (Tryd.prog.fieldsOf 43)) := by kernel_rfl
theorem val_stood : Tryd.prog.stoodInHeld 43 = false := by kernel_rfl
theorem val_guard : Tryd.prog.eqGuardType Tryd.prog.depth 43 = false := by kernel_rfl
set_option maxRecDepth 100000 in
theorem val_neq (x y : Vl) (w : World) : (binOp .neq 43 (.agg #[.int .u8 x.k, .int .i64 x.n, .string x.s]) (.agg #[.int .u8 y.k, .int .i64 y.n, .string y.s])).run Tryd.prog w = .ok (.bool (!decide (x = y))) w := by
  have u3 := Tryd.underlying2
  have u9 := Tryd.underlying9
  have uk := Tryd.underlying41
  rw [run_neq_struct, show (10000 : Nat) = 9999 + 1 from rfl, run_equalIn_agg w 9999 43 _ _ val_struct val_stood]
  simp only [Program.fieldsOf, Tryd.underlying43]
  go_simp
  obtain ⟨k, n, s⟩ := x
  obtain ⟨k', n', s'⟩ := y
  dsimp only
  have hs : (s = s') ↔ s.toList = s'.toList := ⟨fun e => by rw [e], fun e => by rw [ByteArray.toList_eq, ByteArray.toList_eq] at e; obtain ⟨⟨a⟩⟩ := s; obtain ⟨⟨b⟩⟩ := s'; simp at e; simp [e]⟩
  simp only [Vl.mk.injEq, hs]
  by_cases h1 : k = k' <;> by_cases h2 : n = n' <;> by_cases h3 : s.toList = s'.toList <;> simp [h1, h2, h3]

set_option maxRecDepth 100000 in
set_option maxHeartbeats 4000000 in
theorem ref4_same (va vb : Value) (l m : List Vl) (w : World) (ha : Sl 3 Vl.enc w va l) (hb : Sl 3 Vl.enc w vb m) (hl : l.length ≤ 9223372036854775807) (hm : m.length ≤ 9223372036854775807) :
    Calls Tryd.prog 17 #[va, vb] w fun e w' => e = .returned (.bool (decide (l = m))) ∧ Below w.heap.size w w' := by
  have HC := Lib.hid (ref_values va vb l m w ha hb hl hm)
  have HS := Lib.hid (valsC_same l m)
  obtain ⟨A, ca, rfl⟩ := ha.slice
  obtain ⟨B, cb, rfl⟩ := hb.slice
  clear ha hb
  go_enter Tryd.func17, Tryd.ntmps17
  go_wp2_with fail
  refine HC.out.mono ?_
  rintro e w2 ⟨rfl, hb2⟩
  go_wp2
  go_ret
  exact ⟨by rw [← HS.out]; rfl, hb2⟩

set_option maxRecDepth 100000 in
set_option maxHeartbeats 4000000 in
theorem equal_vals (va vb : Value) (l m : List Vl) (w : World) (ha : Sl 3 Vl.enc w va l) (hb : Sl 3 Vl.enc w vb m) (hl : l.length ≤ 9223372036854775807) (hm : m.length ≤ 9223372036854775807) :
    Calls Tryd.prog 37 #[va, vb] w fun e w' => e = .returned (.bool (decide (l = m))) ∧ Below w.heap.size w w' := by
  obtain ⟨R, hR⟩ : ∃ R, R = decide (l = m) := ⟨_, rfl⟩
  rw [← hR]
  obtain ⟨A, ca, rfl⟩ := ha.slice
  obtain ⟨B, cb, rfl⟩ := hb.slice
  have HA := Lib.hid ha
  have HB := Lib.hid hb
  by_cases hlm : l.length = m.length
  · have HLM := Lib.hid hlm
    have HR : Hid (R = decide (l.drop 0 = m.drop 0)) := Lib.hid hR
    have h0 : ((l.length : Int) != (m.length : Int)) = false := by simp [hlm]
    clear ha hb hR hlm
    generalize hnm : m.length = nm at *
    have HNM := Lib.hid hnm
    clear hnm
    go_enter Tryd.func37, Tryd.ntmps37
    go_wp2
    clear h0
    go_loopw [13] (fun i wr => ∃ k : Nat, i = .int .i64 k ∧ k ≤ l.length ∧ Below w.heap.size w wr ∧ Hid (R = decide (l.drop k = m.drop k))) (fun i _ => l.length - (RowKit.intOf i).toNat)
    case atStart => exact ⟨0, rfl, by omega, Below.refl _ _, HR⟩
    case round =>
      obtain ⟨k, rfl, hk, hW, HK⟩ := hrel
      by_cases hkl : k < l.length
      · obtain ⟨x, hx⟩ : ∃ x, l[k]? = some x := ⟨_, List.getElem?_eq_getElem hkl⟩
        have hkm : k < m.length := by rw [HNM.out, ← HLM.out]; exact hkl
        have hkI : (k : Int) < (l.length : Int) := by omega
        have hkJ : (k : Int) < (nm : Int) := by rw [← HNM.out]; omega
        have hkI0 : (0 : Int) ≤ (k : Int) := by omega
        obtain ⟨g, o, rfl, hg, hc⟩ := (HA.out.below hW).at_ hx
        have c0 := hc 0 _ rfl
        have c1 := hc 1 _ rfl
        have c2 := hc 2 _ rfl
        rw [Nat.add_zero] at c0
        have HX := Lib.hid hx
        clear hc hx
        obtain ⟨y, hy⟩ : ∃ y, m[k]? = some y := ⟨_, List.getElem?_eq_getElem hkm⟩
        obtain ⟨g', o', rfl, hg', hc'⟩ := (HB.out.below hW).at_ hy
        have d0 := hc' 0 _ rfl
        have d1 := hc' 1 _ rfl
        have d2 := hc' 2 _ rfl
        rw [Nat.add_zero] at d0
        have HY := Lib.hid hy
        clear hc' hy hkm
        have HN := Lib.hid (val_neq x y)
        have hgd : ∀ o1 o2 xs ys w', (eqGuard .neq 43 o1 o2 (.agg xs) (.agg ys)).run Tryd.prog w' = .ok () w' := fun o1 o2 xs ys w' => run_eqGuard_agg w' .neq _ o1 o2 xs ys val_guard
        have HD := Lib.hid (show decide (x = y) = true → R = decide (l.drop (k + 1) = m.drop (k + 1)) from fun e => by
          rw [HK.out]
          obtain ⟨h1, e1⟩ := List.getElem?_eq_some_iff.1 HX.out
          obtain ⟨h2, e2⟩ := List.getElem?_eq_some_iff.1 HY.out
          rw [List.drop_eq_getElem_cons h1, List.drop_eq_getElem_cons h2, e1, e2]
          have e3 : x = y := by simpa using e
          simp [e3])
        have HD2 := Lib.hid (show decide (x = y) = false → R = false from fun e => by
          rw [HK.out]
          obtain ⟨h1, e1⟩ := List.getElem?_eq_some_iff.1 HX.out
          obtain ⟨h2, e2⟩ := List.getElem?_eq_some_iff.1 HY.out
          rw [List.drop_eq_getElem_cons h1, List.drop_eq_getElem_cons h2, e1, e2]
          have e3 : ¬ x = y := by simpa using e
          simp [e3])
        generalize decide (x = y) = D at *
        have hne := HN.out
        cases D with
        | true =>
          go_wp2_with fail
          go_quiet (fail)
          go_wp2
          go_roundw
          case rel => exact ⟨k + 1, by go_num, by omega, bel_drewN hW _, Lib.hid (HD.out (by simp))⟩
          case measure => simp [RowKit.intOf]; omega
        | false =>
          go_wp2_with fail
          go_quiet (fail)
          go_wp2
          go_ret
          exact ⟨by rw [HD2.out (by simp)]; rfl, bel_drewN hW _⟩
      · have hkI : decide ((k : Int) < (l.length : Int)) = false := by simp; omega
        have HE : Hid (R = true) := Lib.hid (by
          rw [HK.out, List.drop_eq_nil_of_le (by omega), List.drop_eq_nil_of_le (by have := HNM.out; have := HLM.out; omega)]; rfl)
        go_wp2
        go_ret
        exact ⟨by rw [HE.out]; rfl, hW⟩
  · have h0 : ((l.length : Int) != (m.length : Int)) = true := by simp; omega
    have HE : Hid (R = false) := Lib.hid (by
      rw [hR]
      have : ¬ l = m := fun e => hlm (by rw [e])
      simp [this])
    clear hlm hR ha hb
    go_enter Tryd.func37, Tryd.ntmps37
    go_wp2
    go_ret
    exact ⟨by rw [HE.out]; rfl, Below.refl _ _⟩

set_option maxRecDepth 100000 in
theorem codec_same (va vb : Value) (l m : List Vl) (w : World) (ha : Sl 3 Vl.enc w va l) (hb : Sl 3 Vl.enc w vb m) (hl : l.length ≤ 9223372036854775807) (hm : m.length ≤ 9223372036854775807) :
    Calls Tryd.prog 16 #[va, vb] w fun e w' => e = .returned (.bool (decide (l = m))) ∧ Below w.heap.size w w' := by
  have HC := Lib.hid (equal_vals va vb l m w ha hb hl hm)
  generalize decide (l = m) = R at *
  obtain ⟨A, ca, rfl⟩ := ha.slice
  obtain ⟨B, cb, rfl⟩ := hb.slice
  clear ha hb
  go_enter Tryd.func16, Tryd.ntmps16
  go_wp2_with fail
  refine HC.out.mono ?_
  rintro e w2 ⟨rfl, hb2⟩
  go_wp2
  go_ret
  exact ⟨rfl, hb2⟩


set_option maxRecDepth 100000 in
set_option maxHeartbeats 4000000 in
theorem ref4_right (r : Rw) (v : Value) (w : World) (hr : r.ok) (hS : Sl 3 Vl.enc w v r.l) (hl : r.l.length ≤ 9223372036854775807) (hE : Env w) :
    Calls Tryd.prog 13 #[.agg #[v, .int .i64 r.f, .int .i64 r.t]] w fun e w' => e = .returned (.bool r.b) ∧ Below w.heap.size w w' := by
  obtain ⟨l, f, t⟩ := r
  obtain ⟨hok, _, _⟩ := hr
  dsimp only at hS hl hok ⊢
  obtain ⟨R, hR⟩ : ∃ R, R = Rw.b ⟨l, f, t⟩ := ⟨_, rfl⟩
  rw [← hR]
  unfold Rw.b at hR
  dsimp only at hR
  obtain ⟨A, c, rfl⟩ := hS.slice
  have HS := Lib.hid hS
  have HO := Lib.hid hok
  have HE := Lib.hid hE
  obtain ⟨W0, hW0⟩ : ∃ W0, W0 = w.alloc (.cells #[.slice A l.length c, .int .i64 f, .int .i64 t] 26) := ⟨_, rfl⟩
  have q0 : Below w.heap.size w W0 := by rw [hW0]; exact (Below.refl _ _).alloc (Nat.le_refl _) _
  have b0 : Blk W0 w.heap.size 26 #[.slice A l.length c, .int .i64 f, .int .i64 t] := by rw [hW0]; exact Blk.new _ _ _
  have HW0 := Lib.hid hW0
  have xr := b0.cell
  have HRR := Lib.hid hR
  clear hS hok hE hW0 hR
  by_cases h0 : (l.length : Int) < 1
  · have HR : Hid (R = false) := Lib.hid (by rw [HRR.out, decide_eq_false (by omega : ¬ 1 ≤ l.length)]; rfl)
    go_enter Tryd.func13, Tryd.ntmps13
    go_upto_region 1 with (fail)
    rw [← HW0.out]
    go_wp2
    go_ret
    exact ⟨by rw [HR.out]; rfl, q0⟩
  · by_cases h4 : (4 : Int) < (l.length : Int)
    · have HR : Hid (R = false) := Lib.hid (by rw [HRR.out, decide_eq_false (by omega : ¬ l.length ≤ 4)]; simp)
      have h0' : decide ((l.length : Int) < 1) = false := by simpa using h0
      clear h0
      go_enter Tryd.func13, Tryd.ntmps13
      go_upto_region 1 with (fail)
      rw [← HW0.out]
      go_wp2
      go_ret
      exact ⟨by rw [HR.out]; rfl, q0⟩
    · have h0' : decide ((l.length : Int) < 1) = false := by simpa using h0
      have h4' : decide ((4 : Int) < (l.length : Int)) = false := by simpa using h4
      have hl1 : 1 ≤ l.length := by omega
      have hl4 : l.length ≤ 4 := by omega
      have HL := Lib.hid (And.intro hl1 hl4)
      have HSP := Lib.hid (ref1_right f t W0)
      generalize hsp : spanB f t = sp at *
      have HSE := Lib.hid hsp
      clear hsp h4 h0 hl1 hl4
      go_enter Tryd.func13, Tryd.ntmps13
      go_upto_region 1 with (fail)
      rw [← HW0.out]
      go_wp2_with fail
      refine HSP.out.mono ?_
      rintro e w1 ⟨rfl, hb1⟩
      have q1 := q0.trans (hb1.mono q0.size)
      have b1 := b0.below hb1 b0.lt
      clear xr q0 b0 hb1
      cases sp with
      | false =>
        have HR : Hid (R = false) := Lib.hid (by rw [HRR.out]; simp)
        go_wp2
        go_ret
        exact ⟨by rw [HR.out]; rfl, q1⟩
      | true =>
        go_wp2
        go_loopw [3] (fun i wr => ∃ k : Nat, i = .int .i64 k ∧ k ≤ l.length ∧ Below w.heap.size w wr ∧ Blk wr w.heap.size 26 #[.slice A l.length c, .int .i64 f, .int .i64 t] ∧ Hid ((l.take k).all Vl.b = true)) (fun i _ => l.length - (RowKit.intOf i).toNat)
        case atStart => exact ⟨0, rfl, by omega, q1, b1, Lib.hid (by simp)⟩
        case round =>
          obtain ⟨k, rfl, hk, hB, hBk, HA⟩ := hrel
          have xb := hBk.cell
          clear q1 b1
          by_cases hkl : k < l.length
          · obtain ⟨x, hx⟩ : ∃ x, l[k]? = some x := ⟨_, List.getElem?_eq_getElem hkl⟩
            have hkI : (k : Int) < (l.length : Int) := by omega
            have hkI0 : (0 : Int) ≤ (k : Int) := by omega
            obtain ⟨g, o, rfl, hg, hc⟩ := (HS.out.below hB).at_ hx
            have c0 := hc 0 _ rfl
            have c1 := hc 1 _ rfl
            have c2 := hc 2 _ rfl
            rw [Nat.add_zero] at c0
            have HX := Lib.hid hx
            have HV := Lib.hid (ref3_right x.k x.n x.s wr (HO.out x (List.mem_of_getElem? hx)).2.2.2 (HE.out.below hB))
            obtain ⟨bx, hbx⟩ : ∃ bx, bx = x.b := ⟨_, rfl⟩
            have hbx' : valB x.k x.n x.s = bx := hbx.symm
            rw [hbx'] at HV
            have HBX := Lib.hid hbx
            clear hx hc hbx hbx'
            cases bx with
            | true =>
              have HA2 : Hid ((l.take (k + 1)).all Vl.b = true) := Lib.hid (by
                obtain ⟨h, e⟩ := List.getElem?_eq_some_iff.1 HX.out
                rw [List.take_succ_eq_append_getElem h, List.all_append, HA.out, e]
                simp [← HBX.out])
              go_wp2_with fail
              refine HV.out.mono ?_
              rintro e w2 ⟨rfl, hb2⟩
              have q2 := hB.trans (hb2.mono hB.size)
              have b2 := hBk.below hb2 hBk.lt
              clear xb hb2
              go_wp2
              go_roundw
              case rel => exact ⟨k + 1, by go_num, by omega, q2, b2, HA2⟩
              case measure => simp [RowKit.intOf]; omega
            | false =>
              have HF : Hid (R = false) := Lib.hid (by
                rw [HRR.out]
                have : l.all Vl.b = false := by
                  rw [List.all_eq_false]
                  exact ⟨x, List.mem_of_getElem? HX.out, by rw [← HBX.out]; decide⟩
                rw [this]; simp)
              go_wp2_with fail
              refine HV.out.mono ?_
              rintro e w2 ⟨rfl, hb2⟩
              have q2 := hB.trans (hb2.mono hB.size)
              clear xb hb2
              go_wp2
              go_ret
              exact ⟨by rw [HF.out]; rfl, q2⟩
          · have hkI : decide ((k : Int) < (l.length : Int)) = false := by simp; omega
            have hkN : decide (k < l.length) = false := by simp; omega
            have HF : Hid (R = true) := Lib.hid (by
              have e : l.take k = l := List.take_of_length_le (by omega)
              have := HA.out
              rw [e] at this
              rw [HRR.out, this]
              have := HL.out
              simp; omega)
            go_wp2
            go_ret
            exact ⟨by rw [HF.out]; rfl, hB⟩

set_option maxRecDepth 100000 in
set_option maxHeartbeats 2000000 in
theorem ref4_key (r : Rw) (v : Value) (w : World) (hr : r.ok) (hS : Sl 3 Vl.enc w v r.l) (hl : r.l.length ≤ 9223372036854775807) (hE : Env w) :
    Calls Tryd.prog 19 #[.agg #[v, .int .i64 r.f, .int .i64 r.t]] w fun e w' => e = .returned (.string ⟨r.key.toArray⟩) ∧ Below w.heap.size w w' := by
  obtain ⟨l, f, t⟩ := r
  obtain ⟨hok, _, _⟩ := hr
  dsimp only at *
  obtain ⟨KE, hKE⟩ : ∃ K, K = Rw.key ⟨l, f, t⟩ := ⟨_, rfl⟩
  rw [← hKE]
  obtain ⟨A, c, rfl⟩ := hS.slice
  have HS := Lib.hid hS
  have HE := Lib.hid hE
  clear hS hE
  have hb0 : ∀ o, Below w.heap.size w (w.alloc o) := fun o => (Below.refl _ _).alloc (Nat.le_refl _) o
  cases l with
  | nil =>
    have HK : Hid (KE = []) := Lib.hid hKE
    have h0 : (((([] : List Vl).length : Nat) : Int) == 0) = true := rfl
    clear hKE
    go_enter Tryd.func19, Tryd.ntmps19
    go_wp2
    go_ret
    exact ⟨by rw [HK.out]; rfl, hb0 _⟩
  | cons x rest =>
    obtain ⟨n, hn⟩ : ∃ n, n = (x :: rest).length := ⟨_, rfl⟩
    have hn1 : 1 ≤ n := by rw [hn]; simp
    rw [← hn] at hl
    have h0 : ((n : Int) == 0) = false := by simp; omega
    have hnI : (0 : Int) < (n : Int) := by omega
    obtain ⟨g, o, rfl, hg, hc⟩ := HS.out.at_ (k := 0) (x := x) rfl
    have c0 := hc 0 _ rfl
    have c1 := hc 1 _ rfl
    have c2 := hc 2 _ rfl
    simp only [Nat.zero_mul, Nat.add_zero] at c0 c1 c2
    have q0 := hb0 (.cells #[.slice (some ⟨g, o, none⟩) n c, .int .i64 f, .int .i64 t] 26)
    have hxo := hok x (List.mem_cons_self ..)
    have HXO := Lib.hid hxo
    clear hc hok hxo
    rw [← hn] at HS ⊢
    cases hx : x.b with
    | true =>
      have HK : Hid (KE = x.bytes) := Lib.hid (by rw [hKE]; unfold Rw.key; dsimp only; rw [if_pos hx])
      clear hKE hn
      go_enter Tryd.func19, Tryd.ntmps19
      go_wp2_with fail
      refine (ref3_bytes x.k x.n x.s _ HXO.out.1.1 HXO.out.1.2 hx (HE.out.below q0)).mono ?_
      rintro e w2 ⟨⟨vx, rfl, hvx⟩, hb2⟩
      have hcv := conv_own hvx
      have q2 := keepS' q0 hb2
      go_wp2
      go_ret
      exact ⟨by rw [HK.out]; rfl, q2⟩
    | false =>
      have HK : Hid (KE = []) := Lib.hid (by rw [hKE]; unfold Rw.key; dsimp only; rw [if_neg (by rw [hx]; decide)])
      clear hKE hn
      go_enter Tryd.func19, Tryd.ntmps19
      go_wp2_with fail
      refine (ref3_bytes_no x.k x.n x.s _ hx HXO.out.2.2.2 (HE.out.below q0)).mono ?_
      rintro e w2 ⟨rfl, hb2⟩
      have hcv := conv_sl (Sl.nil 1 u8E w2)
      have q2 := keepS' q0 hb2
      go_wp2
      go_ret
      exact ⟨by rw [HK.out]; rfl, q2⟩

end Go.Proofs.YtafbphiedaijmaaDoor
namespace Go.Proofs.YtafbphiedaijmaaDoor
open Go.RowKit Go.Lib
attribute [local go_sem ↓] Go.wp_at_zero Go.wp_at_succ

set_option maxRecDepth 100000 in
theorem ref4_two (p : Int) (w : World) (h1 : -1000 ≤ p) (h2 : p ≤ 1000) :
    Calls Tryd.prog 23 #[.int .i64 p] w fun e w' => (∃ v, e = .returned v ∧ OwnU w.heap.size w' v (twoL p)) ∧ Below w.heap.size w w' := by
  obtain ⟨n, rfl⟩ : ∃ n : Nat, p = (n : Int) - 1000 := ⟨(p + 1000).toNat, by omega⟩
  have hn : n ≤ 2000 := by omega
  have HT : Hid (twoL ((n : Int) - 1000) = [UInt8.ofNat (n / 256), UInt8.ofNat (n % 256)]) := Lib.hid (by unfold twoL; rw [show ((n : Int) - 1000 + 1000).toNat = n by omega])
  have HX := Lib.hid (Own.new w w.heap.size (Nat.le_refl _) 5 [UInt8.ofNat (n / 256), UInt8.ofNat (n % 256)] #[.int .u8 ((UInt8.ofNat (n / 256)).toNat : Int), .int .u8 ((UInt8.ofNat (n % 256)).toNat : Int)] rfl u8E_length (by unfold maxLen; simp) 2 rfl)
  rw [show ((UInt8.ofNat (n / 256)).toNat : Int) = (n : Int) / 256 by simp; omega, show ((UInt8.ofNat (n % 256)).toNat : Int) = (n : Int) % 256 by simp] at HX
  go_enter Tryd.func23, Tryd.ntmps23
  go_wp2
  go_ret
  exact ⟨⟨_, rfl, by rw [HT.out]; exact HX.out⟩, (Below.refl _ _).alloc (Nat.le_refl _) _⟩

set_option maxRecDepth 100000 in
set_option maxHeartbeats 1000000 in
theorem ref4_encode_no (r : Rw) (v : Value) (w : World) (hr : r.ok) (hS : Sl 3 Vl.enc w v r.l) (hl : r.l.length ≤ 9223372036854775807) (hb : r.b = false) (hE : Env w) :
    Calls Tryd.prog 7 #[.agg #[v, .int .i64 r.f, .int .i64 r.t]] w fun e w' => e = .returned (.tuple #[.slice none 0 0, .int .i64 3]) ∧ Below w.heap.size w w' := by
  have hb0 : ∀ o, Below w.heap.size w (w.alloc o) := fun o => (Below.refl _ _).alloc (Nat.le_refl _) o
  have HRt := Lib.hid (fun o => ref4_right r v (w.alloc o) hr (hS.alloc o) hl (hE.below (hb0 o)))
  rw [hb] at HRt
  obtain ⟨A, c, rfl⟩ := hS.slice
  have HB0 := Lib.hid hb0
  clear hb0 hS hE hr hb
  go_enter Tryd.func7, Tryd.ntmps7
  go_wp2_with fail
  refine (HRt.out _).mono ?_
  rintro e w1 ⟨rfl, hb1⟩
  have q1 := keepS' (HB0.out _) hb1
  go_wp2
  go_ret2
  exact ⟨rfl, q1⟩

set_option maxRecDepth 100000 in
set_option maxHeartbeats 8000000 in
theorem ref4_encode (r : Rw) (v : Value) (w : World) (hr : r.ok) (hS : Sl 3 Vl.enc w v r.l) (hl : r.l.length ≤ 9223372036854775807) (hb : r.b = true) (hE : Env w) :
    Calls Tryd.prog 7 #[.agg #[v, .int .i64 r.f, .int .i64 r.t]] w fun e w' => (∃ v', e = .returned (.tuple #[v', .int .i64 0]) ∧ OwnU w.heap.size w' v' r.bytes) ∧ Below w.heap.size w w' := by
  obtain ⟨i0, hi, hz0, hz1, hz2⟩ := info_parts infoByte
  obtain ⟨⟨_, hl4⟩, hbl, hsp⟩ := Rw.b_iff.1 hb
  have HRt := Lib.hid (fun w h hE => ref4_right r v w hr h hl hE)
  rw [hb] at HRt
  have HBY : Hid (r.bytes = r.l.flatMap Vl.bytes ++ [0] ++ twoL r.f ++ twoL r.t) := Lib.hid rfl
  obtain ⟨hok, _, _⟩ := hr
  obtain ⟨l, f, t⟩ := r
  dsimp only at *
  obtain ⟨s1, s2, s3⟩ := spanB_iff.1 hsp
  generalize Rw.bytes ⟨l, f, t⟩ = BY at *
  obtain ⟨A, c, rfl⟩ := hS.slice
  have HS := Lib.hid hS
  have HOK := Lib.hid hok
  have HBL := Lib.hid hbl
  have HE := Lib.hid hE
  clear hS hok hbl hb hsp hE
  obtain ⟨W0, hW0⟩ : ∃ W0, W0 = w.alloc (.cells #[.slice A l.length c, .int .i64 f, .int .i64 t] 26) := ⟨_, rfl⟩
  have q0 : Below w.heap.size w W0 := by rw [hW0]; exact (Below.refl _ _).alloc (Nat.le_refl _) _
  have hB0 : Blk W0 w.heap.size 26 #[.slice A l.length c, .int .i64 f, .int .i64 t] := by rw [hW0]; exact Blk.new _ _ _
  have HW0 := Lib.hid hW0
  have x := hB0.cell
  clear hW0
  go_enter Tryd.func7, Tryd.ntmps7
  go_upto_region 1 with (fail)
  rw [← HW0.out]
  go_wp2_with fail
  refine (HRt.out _ (HS.out.below q0) (HE.out.below q0)).mono ?_
  rintro e w1 ⟨rfl, hb1⟩
  have hB1 := hB0.below hb1 hB0.lt
  have q1 := keepS' q0 hb1
  clear hb1 HW0 hB0 q0 x
  go_wp2_with fail
  go_loopw [4, 5] (fun b i wr => ∃ (k : Nat) (D : List UInt8), i = .int .i64 k ∧ k ≤ l.length ∧ OwnU w.heap.size wr b D ∧ Below w.heap.size w wr ∧ Blk wr w.heap.size 26 #[.slice A l.length c, .int .i64 f, .int .i64 t] ∧ D.length ≤ 34 * k ∧ Hid (D = (l.take k).flatMap Vl.bytes)) (fun _ i _ => l.length - (RowKit.intOf i).toNat)
  case atStart => exact ⟨0, [], rfl, by omega, Own.nil _ _ _ _ _, q1, hB1, by simp, Lib.hid (by simp)⟩
  case round =>
    obtain ⟨k, D, rfl, hk, hO, hB, hBk, hD, HD⟩ := hrel
    obtain ⟨Ab, cb, rfl⟩ := hO.slice
    have xb := hBk.cell
    clear q1 hB1
    by_cases hkl : k < l.length
    · obtain ⟨x, hx⟩ : ∃ x, l[k]? = some x := ⟨_, List.getElem?_eq_getElem hkl⟩
      have hkI : (k : Int) < (l.length : Int) := by omega
      have hkI0 : (0 : Int) ≤ (k : Int) := by omega
      obtain ⟨g, o, rfl, hg, hc⟩ := (HS.out.below hB).at_ hx
      have c0 := hc 0 _ rfl
      have c1 := hc 1 _ rfl
      have c2 := hc 2 _ rfl
      rw [Nat.add_zero] at c0
      have hxm := List.mem_of_getElem? hx
      have hxb := HBL.out x hxm
      have hbs := bytes_short hxb
      have HV := Lib.hid (ref3_bytes x.k x.n x.s wr (HOK.out x hxm).1.1 (HOK.out x hxm).1.2 hxb (HE.out.below hB))
      have HD2 : Hid (D ++ x.bytes = (l.take (k + 1)).flatMap Vl.bytes) := Lib.hid (by
        obtain ⟨h, e⟩ := List.getElem?_eq_some_iff.1 hx
        rw [List.take_succ_eq_append_getElem h, List.flatMap_append, ← HD.out, e]
        simp)
      have HO := Lib.hid hO
      have HBk := Lib.hid hBk
      clear hx hc hxm hO hBk HD
      go_wp2_with fail
      refine HV.out.mono ?_
      rintro e w2 ⟨⟨vx, rfl, hvx0⟩, hb2⟩
      have hvx : OwnU wr.heap.size w2 vx x.bytes := hvx0.u
      clear hvx0
      obtain ⟨Ax, cx, rfl⟩ := hvx.slice
      have q2 := hB.trans (hb2.mono hB.size)
      have HBk3 := Lib.hid (HBk.out.below hb2 HBk.out.lt)
      have HO3 := Lib.hid (HO.out.below hb2)
      have HX := Lib.hid (hvx.sl u8E_length)
      clear hb2 HBk HO hvx c0 c1 c2 HV xb
      go_wp2_with (at_builtin; refine wpList_app _ rfl _ _ 27 (by rfl) w.heap.size 5 i0 (.int .u8 0) 1 1 u8E Tryd.underlying27 hi hz0 hz1 hz2 rfl (by decide) u8E_length u8E_one _ _ _ _ (by rfl) HO3.out (by rfl) HX.out (by unfold maxLen; omega) (by omega) q2.size ?_)
      intro v3 w3 hO4 hg3 _
      have q3 := HO3.out.grow q2 hg3
      have HBk4 := Lib.hid (HBk3.out.grown hg3 (HO3.out.apart HBk3.out (fun cur h => by injection h with _ h; exact absurd h (by decide))))
      have hDl : (D ++ x.bytes).length ≤ 34 * (k + 1) := by rw [List.length_append]; omega
      generalize D ++ x.bytes = D2 at *
      have HO4 := Lib.hid hO4
      clear hO4 hg3 HO3 HBk3 HX
      go_wp2
      go_roundw
      case rel => exact ⟨k + 1, D2, by go_num, by omega, HO4.out, q3, HBk4.out, hDl, HD2⟩
      case measure => simp [RowKit.intOf]; omega
    · have hkN : decide (k < l.length) = false := by simp; omega
      have hkI : decide ((k : Int) < (l.length : Int)) = false := by simp; omega
      have HDE : Hid (BY = D ++ [0] ++ twoL f ++ twoL t) := Lib.hid (by
        have h := HD.out
        rw [List.take_of_length_le (by omega)] at h
        rw [HBY.out, h])
      have hD136 : D.length ≤ 136 := by omega
      have HO := Lib.hid (hO.alloc (.cells #[.int .u8 0] 5))
      have HBk := Lib.hid (hBk.alloc (.cells #[.int .u8 0] 5))
      have HX := Lib.hid (Sl.new wr 5 [(0 : UInt8)] u8E_length #[.int .u8 0] rfl 1 rfl)
      have q2 := hB.alloc hB.size (.cells #[.int .u8 0] 5)
      clear hO hBk HD HBY
      go_wp2_with (at_builtin; refine wpList_app _ rfl _ _ 27 (by rfl) w.heap.size 5 i0 (.int .u8 0) 1 1 u8E Tryd.underlying27 hi hz0 hz1 hz2 rfl (by decide) u8E_length u8E_one _ _ _ _ (by rfl) HO.out (by rfl) HX.out (by unfold maxLen; simp; omega) (by simp; omega) q2.size ?_)
      intro v3 w3 hO4 hg3 _
      have hq := (HO.out.grow q2 hg3).drew
      have hBk := (HBk.out.grown hg3 (HO.out.apart HBk.out (fun cur h => by injection h with _ h; exact absurd h (by decide)))).drew
      have hDl : (D ++ [0]).length ≤ 137 := by rw [List.length_append]; simp; omega
      generalize D ++ [0] = D2 at *
      have hO := hO4.drew
      have z1 := hBk.cell_ _ (i := 1) rfl
      have z2 := hBk.cell_ _ (i := 2) rfl
      clear hO4 hg3 HO HBk HX xb q2 hB
      go_wp2_with fail
      have hf1 : -1000 ≤ f := s1
      have hf2 : f ≤ 1000 := by omega
      have ht1 : -1000 ≤ t := by omega
      have ht2 : t ≤ 1000 := s3
      go_region_law
        (first
          | (refine step_app _ (by rfl) _ _ 27 (by rfl) w.heap.size 5 i0 (.int .u8 0) 1 1 u8E Tryd.underlying27 hi hz0 hz1 hz2 rfl (by decide) u8E_length u8E_one _ _ (D2 ++ twoL f) (twoL t) (by rfl) hO (by rfl) (hT.sl u8E_length) (by unfold maxLen; simp [twoL_length]; omega) (by simp [twoL_length]; omega) hq.size ?_; intro v8b w8b hO8 hg8 _; have hq := hO.grow hq hg8; have hBk := hBk.grown hg8 (hO.apart hBk (fun cur h => by injection h with _ h; exact absurd h (by decide))); have z1 := hBk.cell_ _ (i := 1) rfl; have z2 := hBk.cell_ _ (i := 2) rfl; have hO := hO8; clear hO8 hg8)
          | (refine step_app _ (by rfl) _ _ 27 (by rfl) w.heap.size 5 i0 (.int .u8 0) 1 1 u8E Tryd.underlying27 hi hz0 hz1 hz2 rfl (by decide) u8E_length u8E_one _ _ (D2) (twoL f) (by rfl) hO (by rfl) (hF.sl u8E_length) (by unfold maxLen; simp [twoL_length]; omega) (by simp [twoL_length]; omega) hq.size ?_; intro v8a w8a hO8 hg8 _; have hq := hO.grow hq hg8; have hBk := hBk.grown hg8 (hO.apart hBk (fun cur h => by injection h with _ h; exact absurd h (by decide))); have z1 := hBk.cell_ _ (i := 1) rfl; have z2 := hBk.cell_ _ (i := 2) rfl; have hO := hO8; clear hO8 hg8)
          | (go_simp; go_at_call_of 23 (Value.int .i64 f); refine (ref4_two f _ hf1 hf2).mono ?_; rintro e w6a ⟨⟨v6a, rfl, hF⟩, hb6⟩; have hO := hO.below hb6; have hBk := hBk.below hb6 hBk.lt; have hq := hq.trans (hb6.mono hq.size); have z1 := hBk.cell_ _ (i := 1) rfl; have z2 := hBk.cell_ _ (i := 2) rfl; clear hb6)
          | (go_simp; go_at_call_of 23 (Value.int .i64 t); refine (ref4_two t _ ht1 ht2).mono ?_; rintro e w6b ⟨⟨v6b, rfl, hT⟩, hb6⟩; have hO := hO.below hb6; have hBk := hBk.below hb6 hBk.lt; have hq := hq.trans (hb6.mono hq.size); have z1 := hBk.cell_ _ (i := 1) rfl; have z2 := hBk.cell_ _ (i := 2) rfl; clear hb6))
      all_goals
        go_wp2
        refine bodyPost_ret (v := .tuple #[v8b, .int .i64 0]) (by simp [results, Act.put, Tryd.results7]) rfl ?_
        exact ⟨⟨_, rfl, by rw [HDE.out]; exact hO⟩, hq⟩
end Go.Proofs.YtafbphiedaijmaaDoor
namespace Go.Proofs.YtafbphiedaijmaaDoor
open Go.RowKit Go.Lib
attribute [local go_sem ↓] Go.wp_at_zero Go.wp_at_succ

theorem zRow : ((Tryd.prog.info? 26).bind (·.zero)).map (·.cells) = some ([.slice none 0 0, .int .i64 0, .int .i64 0] : List Value).toArray := by kernel_rfl
theorem zVal : ((Tryd.prog.info? 43).bind (·.zero)).map (·.cells) = some ([.int .u8 0, .int .i64 0, .string ⟨#[]⟩] : List Value).toArray := by kernel_rfl
theorem sRow : (Tryd.prog.info? 26).map (·.size) = some 3 := by kernel_rfl
theorem sVal : (Tryd.prog.info? 43).map (·.size) = some 3 := by kernel_rfl
/-- Five values are too many. -/
theorem Inv.many {l : List UInt8} {acc : List Vl} {L : List UInt8} (h : Inv l acc L) (ha : 4 < acc.length) : ∀ r, ¬ IsRow l r := fun r hr => by
  obtain ⟨rest, e0, _⟩ := h.2.2 r hr
  obtain ⟨g1, _, _⟩ := hr
  have := (Rw.b_iff.1 g1).1.2
  rw [e0, List.length_append] at this
  omega

set_option maxRecDepth 100000 in
set_option maxHeartbeats 8000000 in
theorem ref4_decode (v : Value) (l : List UInt8) (w : World) (hS : SlU w v l) (hl : l.length ≤ 100000) (hE : Env w) :
    Calls Tryd.prog 9 #[v] w (DecPost l w) := by
  obtain ⟨A, c, rfl⟩ := hS.slice
  obtain ⟨W0, hW0⟩ : ∃ W0, W0 = (w.alloc (.cells #[.slice none 0 0, .int .i64 0, .int .i64 0] 26)).alloc (.cells #[.slice none 0 0, .int .i64 0, .int .i64 0] 26) := ⟨_, rfl⟩
  have q0 : Below w.heap.size w W0 := by rw [hW0]; exact ((Below.refl _ _).alloc (Nat.le_refl _) _).alloc (by simp) _
  have b1 : Blk W0 w.heap.size 26 #[.slice none 0 0, .int .i64 0, .int .i64 0] := by rw [hW0]; exact (Blk.new _ _ _).alloc _
  have b2 : Blk W0 (w.heap.size + 1) 26 #[.slice none 0 0, .int .i64 0, .int .i64 0] := by
    rw [hW0]
    have := Blk.new (w.alloc (.cells #[.slice none 0 0, .int .i64 0, .int .i64 0] 26)) 26 #[.slice none 0 0, .int .i64 0, .int .i64 0]
    simpa using this
  have HS := Lib.hid hS
  have HE := Lib.hid hE
  have HW0 := Lib.hid hW0
  have HN := Lib.hid (And.intro hS.len.1 hS.len.2)
  obtain ⟨n, hn⟩ : ∃ n, n = l.length := ⟨_, rfl⟩
  rw [← hn] at hl ⊢
  have HNL := Lib.hid hn
  clear hS hE hW0 hn
  obtain ⟨j0, hj, hy0, hy1, hy2⟩ := info_parts infoVal
  go_enter Tryd.func9, Tryd.ntmps9
  go_wp2_with fail
  rw [← HW0.out]
  go_loopw [5] (fun i wr => ∃ (k : Nat) (acc : List Vl) (L : List UInt8) (Av : Option Addr) (cv : Nat), i = .int .i64 k ∧ k + L.length = n ∧ Hid (l.drop k = L) ∧ Hid (Inv l acc L) ∧ acc.length ≤ 5 ∧ Own w.heap.size 43 3 Vl.enc wr (.slice Av acc.length cv) acc ∧
    Blk wr w.heap.size 26 #[.slice none 0 0, .int .i64 0, .int .i64 0] ∧ Blk wr (w.heap.size + 1) 26 #[.slice Av acc.length cv, .int .i64 0, .int .i64 0] ∧ Below w.heap.size w wr) (fun i _ => n - (RowKit.intOf i).toNat)
  case atStart => exact ⟨0, [], l, none, 0, rfl, by have := HNL.out; omega, Lib.hid rfl, Lib.hid (Inv.start l), by simp, Own.nil _ _ _ _ _, b1, b2, q0⟩
  case round =>
    obtain ⟨k, acc, L, Av, cv, rfl, hkL, HD, HI, hac, hO, hB1, hB2, hB⟩ := hrel
    clear b1 b2 q0 HW0
    have HO := Lib.hid hO
    have HB1 := Lib.hid hB1
    have HB2 := Lib.hid hB2
    have hlen := HNL.out
    have x2 := hB2.cell
    clear hO hB1 hB2
    have hkn : k ≤ n := by omega
    cases L with
    | nil =>
      have hk0 : ¬ (k : Int) < (n : Int) := by simp at hkL; omega
      have hk5 : ((n : Int) - (k : Int) != 5) = true := by simp at hkL ⊢; omega
      clear hlen
      go_wp2_with (refine wpList_store_blk (P := Tryd.prog) rfl 26 (.tmp 2) (.tmp 53) (by rfl) w.heap.size 0 (by rfl) _ (by rfl) [.slice none 0 0, .int .i64 0, .int .i64 0] (by rfl) 26 [.slice none 0 0, .int .i64 0, .int .i64 0] HB1.out sRow (by simp) (by simp [Value.oneCell']) ?_
                   intro w8 b8 hm8 hz8
                   clear hz8
                   rw [splice_whole _ _ (by simp)] at b8
                   have x8 := b8.cell
                   have q8 : Below w.heap.size w w8 := Mod.below hB hm8 (fun k e => by omega) hB.size
                   clear hm8 b8)
      refine bodyPost_ret (v := .tuple #[.agg #[.slice none 0 0, .int .i64 0, .int .i64 0], .int .i64 3]) (by simp [results, Tryd.results9, go_sem, x8]) rfl ?_
      exact ⟨q8, .inr ⟨HI.out.none_, rfl⟩⟩
    | cons b M =>
      have hkI : (k : Int) < (n : Int) := by simp at hkL; omega
      have hkI0 : (0 : Int) ≤ (k : Int) := by omega
      have hbM : l[k]? = some b := by
        have := HD.out
        have h2 := List.getElem?_drop (xs := l) (i := k) (j := 0)
        rw [this] at h2
        simpa using h2.symm
      obtain ⟨g, o, rfl, hg, hc⟩ := (HS.out.below hB).at_ hbM
      have c0 := hc 0 _ rfl
      simp only [Nat.mul_one, Nat.add_zero] at c0
      clear hbM hc hlen
      by_cases hgo : b ≠ 0 ∧ acc.length ≤ 4
      · obtain ⟨hb0, ha4⟩ := hgo
        have hck : ¬ c = k := by have := HN.out.2; have := HNL.out; omega
        have hsd : SlU wr (.slice (some ⟨g, o + k, none⟩) (n - k) (c - k)) (b :: M) := by
          have h := (HS.out.below hB).drop (k := k) (by have := HNL.out; omega)
          rw [if_neg hck, Option.map_some, plain_add, HD.out, Nat.mul_one, ← HNL.out] at h
          exact h
        have hlM : (b :: M).length ≤ 4611686018427387904 := by simp at hkL ⊢; omega
        have HV := Lib.hid (ref3_read _ (b :: M) wr hsd.b hlM (HE.out.below hB))
        clear hsd hlM
        have hbI : ((b.toNat : Int) != 0) = true := by
          rw [bne_iff_ne]
          intro e
          exact hb0 (UInt8.toNat_inj.1 (by have : b.toNat = 0 := by omega
                                           rw [this]; rfl))
        have haI : decide ((acc.length : Int) ≤ 4) = true := by simp; omega
        by_cases he : (readR (b :: M)).e = 0
        · obtain ⟨x, M', hx, ho, e1, e2⟩ := read_inv he
          rw [e2] at HV
          have hbs := bytes_short hx
          have HX := Lib.hid (And.intro hx (And.intro ho e1))
          have hLM : x.bytes.length + M'.length = (b :: M).length := by rw [e1, List.length_append]
          clear hx ho e1 e2 he
          go_wp2_with fail
          refine HV.out.mono ?_
          rintro e w2 ⟨rfl, hb2⟩
          have H2 := Lib.hid (And.intro (HO.out.below hb2) (And.intro (HB1.out.below hb2 HB1.out.lt) (And.intro (HB2.out.below hb2 HB2.out.lt) (hB.trans (hb2.mono hB.size)))))
          clear hb2 x2 c0 HV
          go_wp2_with (first
            | (refine wpList_alloc_blk (P := Tryd.prog) rfl 43 (by rfl) _ zVal ?_; intro w5 b5 hb5 hz5; clear hz5)
            | (refine wpList_store_blk (P := Tryd.prog) rfl 43 (.tmp 6) (.tmp 33) (by rfl) w2.heap.size 0 (by rfl) _ (by rfl) [.int .u8 x.k, .int .i64 x.n, .string x.s] (by rfl) 43 _ b5 sVal (by simp) (by simp [Value.oneCell']) ?_; intro w6 b6 hm6 hz6; clear hz6; rw [splice_whole _ _ (by simp)] at b6; have m6 : Below w2.heap.size w2 w6 := (Mod.below hb5 hm6 (fun k e => by omega) (by have := hb5.size; omega)); have x6 := b6.cell; have H6 := Lib.hid (And.intro (H2.out.1.below m6) (And.intro (H2.out.2.1.below m6 H2.out.2.1.lt) (And.intro (H2.out.2.2.1.below m6 H2.out.2.2.1.lt) (H2.out.2.2.2.trans (m6.mono H2.out.2.2.2.size))))); have y6 := H6.out.2.2.1.cell; clear b5 hb5 hm6 m6 b6)
            | (refine wpList_one (P := Tryd.prog) rfl 22 43 41 (by rfl) [.int .u8 x.k, .int .i64 x.n, .string x.s] (by rfl) Tryd.underlying22 sVal (by kernel_rfl) (by simp) (by simp) ?_; intro w7 b7 hb7 hz7; clear hz7; have H7 := Lib.hid (And.intro (H6.out.1.below hb7) (And.intro (H6.out.2.1.below hb7 H6.out.2.1.lt) (And.intro (H6.out.2.2.1.below hb7 H6.out.2.2.1.lt) (And.intro (H6.out.2.2.2.trans (hb7.mono H6.out.2.2.2.size)) (Sl.of_blk (l := [x]) (size := 3) (enc := Vl.enc) b7 Vl.enc_length rfl rfl (Nat.le_refl 1)))))); clear b7 hb7 x6 y6)
            | (at_builtin; refine wpList_app _ rfl _ _ 22 (by rfl) w.heap.size 43 j0 _ 3 32 Vl.enc Tryd.underlying22 hj hy0 hy1 hy2 rfl (by decide) Vl.enc_length Vl.enc_one _ _ acc [x] (by rfl) H7.out.1 (by rfl) H7.out.2.2.2.2 (by unfold maxLen; simp; omega) (by simp; omega) H7.out.2.2.2.1.size ?_; intro v8 w8 hO8 hg8 _; obtain ⟨A8, c8, rfl⟩ := hO8.slice; have H8 := Lib.hid (And.intro hO8 (And.intro (H7.out.2.1.grown hg8 (H7.out.1.apart H7.out.2.1 (fun cur h => by injection h with _ h; exact absurd h (by decide)))) (And.intro (H7.out.2.2.1.grown hg8 (H7.out.1.apart H7.out.2.2.1 (fun cur h => by injection h with _ h; exact absurd h (by decide)))) (H7.out.1.grow H7.out.2.2.2.1 hg8)))); clear hO8 hg8)
            | (refine wpList_store_blk (P := Tryd.prog) rfl 22 (.tmp 44) (.tmp 43) (by rfl) (w.heap.size + 1) 0 (by rfl) _ (by rfl) [.slice A8 (acc.length + 1) c8] (by rfl) 26 [.slice Av acc.length cv, .int .i64 0, .int .i64 0] H8.out.2.2.1 (by kernel_rfl) (by simp) (by simp [Value.oneCell']) ?_; intro w9 b9 hm9 hz9; clear hz9; have b9 : Blk w9 (w.heap.size + 1) 26 #[.slice A8 (acc ++ [x]).length c8, .int .i64 0, .int .i64 0] := (by rw [List.length_append]; exact b9); have H9 := Lib.hid (And.intro (H8.out.1.mod hm9 (fun k hk e => by subst e; exact H8.out.1.ne_blk H8.out.2.2.1 (by decide) hk)) (And.intro (H8.out.2.1.mod hm9 (fun e => by omega)) (And.intro b9 (Mod.below H8.out.2.2.2 hm9 (fun k e => by omega) H8.out.2.2.2.size)))); clear b9 hm9))
          go_roundw
          case rel =>
            have h1 := HX.out
            have h2 := HI.out
            have h3 := HD.out
            rw [h1.2.2] at h2 h3
            exact ⟨k + x.bytes.length, acc ++ [x], M', A8, c8, by go_num, by omega, Lib.hid (by rw [← List.drop_drop, h3, List.drop_left]), Lib.hid (h2.more h1.1 h1.2.1), by simp; omega, H9.out.1, H9.out.2.1, H9.out.2.2.1, H9.out.2.2.2⟩
          case measure => simp [RowKit.intOf]; omega
        · have HBAD := Lib.hid (HI.out.bad hb0 he)
          generalize readR (b :: M) = R at *
          obtain ⟨rk, rn, rs, rc, re⟩ := R
          dsimp only at HV he
          have he' : (re != 0) = true := by simpa using he
          clear he
          go_wp2_with fail
          refine HV.out.mono ?_
          rintro e w2 ⟨rfl, hb2⟩
          have H2 := Lib.hid (And.intro (HO.out.below hb2) (And.intro (HB1.out.below hb2 HB1.out.lt) (And.intro (HB2.out.below hb2 HB2.out.lt) (hB.trans (hb2.mono hB.size)))))
          clear hb2 x2 c0 HV
          go_wp2_with (first
            | (refine wpList_alloc_blk (P := Tryd.prog) rfl 43 (by rfl) _ zVal ?_; intro w5 b5 hb5 hz5; clear hz5)
            | (refine wpList_store_blk (P := Tryd.prog) rfl 43 (.tmp 6) (.tmp 33) (by rfl) w2.heap.size 0 (by rfl) _ (by rfl) [.int .u8 rk, .int .i64 rn, .string rs] (by rfl) 43 _ b5 sVal (by simp) (by simp [Value.oneCell']) ?_; intro w6 b6 hm6 hz6; clear hz6; rw [splice_whole _ _ (by simp)] at b6; have m6 : Below w2.heap.size w2 w6 := (Mod.below hb5 hm6 (fun k e => by omega) (by have := hb5.size; omega)); have x6 := b6.cell; have H6 := Lib.hid (And.intro (H2.out.1.below m6) (And.intro (H2.out.2.1.below m6 H2.out.2.1.lt) (And.intro (H2.out.2.2.1.below m6 H2.out.2.2.1.lt) (H2.out.2.2.2.trans (m6.mono H2.out.2.2.2.size))))); have y6 := H6.out.2.2.1.cell; clear b5 hb5 hm6 m6 b6)
            | (refine wpList_store_blk (P := Tryd.prog) rfl 26 (.tmp 2) (.tmp 38) (by rfl) w.heap.size 0 (by rfl) _ (by rfl) [.slice none 0 0, .int .i64 0, .int .i64 0] (by rfl) 26 [.slice none 0 0, .int .i64 0, .int .i64 0] H6.out.2.1 sRow (by simp) (by simp [Value.oneCell']) ?_; intro w8 b8 hm8 hz8; clear hz8; rw [splice_whole _ _ (by simp)] at b8; have x8 := b8.cell; have q8 : Below w.heap.size w w8 := (Mod.below H6.out.2.2.2 hm8 (fun k e => by omega) H6.out.2.2.2.size); clear hm8 b8))
          refine bodyPost_ret (v := .tuple #[.agg #[.slice none 0 0, .int .i64 0, .int .i64 0], .int .i64 3]) (by simp [results, Tryd.results9, go_sem, x8]) rfl ?_; exact ⟨q8, .inr ⟨HBAD.out, rfl⟩⟩
      · have hcnd : ((b.toNat : Int) != 0) = false ∨ (((b.toNat : Int) != 0) = true ∧ decide ((acc.length : Int) ≤ 4) = false) := by
          by_cases hb : b = 0
          · subst hb; exact .inl rfl
          · refine .inr ⟨?_, ?_⟩
            · rw [bne_iff_ne]
              intro e
              exact hb (UInt8.toNat_inj.1 (by have : b.toNat = 0 := by omega
                                              rw [this]; rfl))
            · have : ¬ acc.length ≤ 4 := fun h => hgo ⟨hb, h⟩
              simp; omega
        have hns : M.length ≠ 4 → ∀ r, ¬ IsRow l r := by
          by_cases hb : b = 0
          · subst hb; exact HI.out.short
          · exact fun _ => HI.out.many (Nat.lt_of_not_le fun h => hgo ⟨hb, h⟩)
        have hyn : ∀ p q y z, M = [p, q, y, z] → (Rw.b ⟨acc, pointN p q, pointN y z⟩ = false → ∀ r, ¬ IsRow l r) ∧ (Rw.b ⟨acc, pointN p q, pointN y z⟩ = true → IsRow l ⟨acc, pointN p q, pointN y z⟩) := by
          intro p q y z hM
          subst hM
          by_cases hb : b = 0
          · subst hb; exact ⟨HI.out.wrong, HI.out.row⟩
          · exact ⟨fun _ => HI.out.many (Nat.lt_of_not_le fun h => hgo ⟨hb, h⟩), fun h => absurd (Rw.b_iff.1 h).1.2 (fun h => hgo ⟨hb, h⟩)⟩
        have HNS := Lib.hid hns
        have HYN := Lib.hid hyn
        clear hgo hns hyn
        by_cases h5 : M.length = 4
        · have HM : ∃ p q y z, M = [p, q, y, z] := by
            match M, h5 with
            | [p, q, y, z], _ => exact ⟨p, q, y, z, rfl⟩
          obtain ⟨p, q, y, z, rfl⟩ := HM
          have HY := Lib.hid (HYN.out p q y z rfl)
          have hk5 : k + 5 = n := by simp at hkL; omega
          have H5 := Lib.hid hk5
          have hm5 : ((n : Int) - (k : Int) != 5) = false := by simp; omega
          have hcl : ∀ (w' : World), Below w.heap.size w w' → ∀ (j : Nat) (u : UInt8), [b, p, q, y, z][j]? = some u → w'.cell? ⟨g, o + (k + j), none⟩ = some (.int .u8 u.toNat) := fun w' hw' j u hu => by
            have e1 : l[k + j]? = some u := by
              have := HD.out
              have h2 := List.getElem?_drop (xs := l) (i := k) (j := j)
              rw [this] at h2
              rw [← h2]; exact hu
            obtain ⟨g', o', e, _, hc⟩ := (HS.out.below hw').at_ e1
            simp only [Option.some.injEq, Addr.mk.injEq, and_true] at e
            obtain ⟨rfl, rfl⟩ := e
            have c0 := hc 0 _ rfl
            simpa using c0
          have HCL := Lib.hid hcl
          have c1 := hcl wr hB 1 _ rfl
          have c2 := hcl wr hB 2 _ rfl
          have i1 : (k : Int) + 1 < (n : Int) := by omega
          have i2 : (k : Int) + 2 < (n : Int) := by omega
          have i3 : (k : Int) + 3 < (n : Int) := by omega
          have i4 : (k : Int) + 4 < (n : Int) := by omega
          have xf := HB2.out.frozen
          have bp := UInt8.toNat_lt p
          have bq := UInt8.toNat_lt q
          have by' := UInt8.toNat_lt y
          have bz := UInt8.toNat_lt z
          clear hcl hk5 HYN
          rcases hcnd with h1 | ⟨h1, h2⟩
          all_goals
            go_wp2_with fail
            go_region
            obtain ⟨w5, hw5⟩ : ∃ w5, w5 = (wr.setCell { block := w.heap.size + 1, off := 1 } (Value.int IntKind.i64 (-1000 + 256 * (p.toNat : Int) + (q.toNat : Int)))).drew := ⟨_, rfl⟩
            rw [← hw5]
            have hno : (Value.slice Av acc.length cv).ownBlock ≠ some (w.heap.size + 1) := fun e => HO.out.apart HB2.out (fun cur h => by injection h with _ h; exact absurd h (by decide)) e.symm
            have G5 := Lib.hid (show Own w.heap.size 43 3 Vl.enc w5 (.slice Av acc.length cv) acc ∧ Blk w5 w.heap.size 26 #[.slice none 0 0, .int .i64 0, .int .i64 0] ∧ Blk w5 (w.heap.size + 1) 26 #[.slice Av acc.length cv, .int .i64 (-1000 + 256 * (p.toNat : Int) + (q.toNat : Int)), .int .i64 0] ∧ Below w.heap.size w w5 from by
              rw [hw5]
              exact ⟨(HO.out.far (p := ⟨w.heap.size + 1, 1, none⟩) hno _).drew, (HB1.out.far (p := ⟨w.heap.size + 1, 1, none⟩) (by simp) _).drew, (HB2.out.set_ 1 _).drew, (hB.setCell (p := ⟨w.heap.size + 1, 1, none⟩) (by simp) _).drew⟩)
            clear x2 xf c0 c1 c2 hw5
            have c3 := HCL.out w5 G5.out.2.2.2 3 _ rfl
            have c4 := HCL.out w5 G5.out.2.2.2 4 _ rfl
            have x5 := G5.out.2.2.1.cell
            have xf := G5.out.2.2.1.frozen
            go_wp2_with fail
            go_region
            obtain ⟨w6, hw6⟩ : ∃ w6, w6 = (w5.setCell { block := w.heap.size + 1, off := 2 } (Value.int IntKind.i64 (-1000 + 256 * (y.toNat : Int) + (z.toNat : Int)))).drew := ⟨_, rfl⟩
            rw [← hw6]
            have G6 := Lib.hid (show Own w.heap.size 43 3 Vl.enc w6 (.slice Av acc.length cv) acc ∧ Blk w6 w.heap.size 26 #[.slice none 0 0, .int .i64 0, .int .i64 0] ∧ Blk w6 (w.heap.size + 1) 26 #[.slice Av acc.length cv, .int .i64 (-1000 + 256 * (p.toNat : Int) + (q.toNat : Int)), .int .i64 (-1000 + 256 * (y.toNat : Int) + (z.toNat : Int))] ∧ Below w.heap.size w w6 from by
              rw [hw6]
              exact ⟨(G5.out.1.far (p := ⟨w.heap.size + 1, 2, none⟩) hno _).drew, (G5.out.2.1.far (p := ⟨w.heap.size + 1, 2, none⟩) (by simp) _).drew, (G5.out.2.2.1.set_ 2 _).drew, (G5.out.2.2.2.setCell (p := ⟨w.heap.size + 1, 2, none⟩) (by simp) _).drew⟩)
            clear x5 xf c3 c4 hw6 hno G5 HCL
            have hP : -1000 + 256 * (p.toNat : Int) + (q.toNat : Int) = pointN p q := by unfold pointN; omega
            have hQ : -1000 + 256 * (y.toNat : Int) + (z.toNat : Int) = pointN y z := by unfold pointN; omega
            rw [hP, hQ] at G6
            try rw [hP]
            try rw [hQ]
            have x6 := G6.out.2.2.1.cell
            have hpq : -1000 ≤ pointN p q ∧ pointN p q ≤ 65000 := by rw [← hP]; omega
            have hyz : -1000 ≤ pointN y z ∧ pointN y z ≤ 65000 := by rw [← hQ]; omega
            have hok : Rw.ok ⟨acc, pointN p q, pointN y z⟩ := ⟨fun x hx => (HI.out.2.1 x hx).2, ⟨by show _ ≤ pointN p q; omega, by show pointN p q ≤ _; omega⟩, ⟨by show _ ≤ pointN y z; omega, by show pointN y z ≤ _; omega⟩⟩
            have HOK := Lib.hid hok
            clear hP hQ hpq hyz hok bp bq by' bz
            generalize pointN p q = P at *
            generalize pointN y z = Q at *
            cases hrb : Rw.b ⟨acc, P, Q⟩ with
            | false =>
              have HNN := Lib.hid (HY.out.1 hrb)
              have HEN := Lib.hid (ref4_encode_no ⟨acc, P, Q⟩ _ w6 HOK.out (G6.out.1.sl Vl.enc_length) (by show acc.length ≤ _; omega) hrb (HE.out.below G6.out.2.2.2))
              clear hrb
              go_wp2_with fail
              refine HEN.out.mono ?_
              rintro e w7 ⟨rfl, hb7⟩
              have G7 := Lib.hid (And.intro (G6.out.2.1.below hb7 G6.out.2.1.lt) (G6.out.2.2.2.trans (hb7.mono G6.out.2.2.2.size)))
              clear hb7 x6
              go_wp2_with (refine wpList_store_blk (P := Tryd.prog) rfl 26 (.tmp 2) (.tmp 102) (by rfl) w.heap.size 0 (by rfl) _ (by rfl) [.slice none 0 0, .int .i64 0, .int .i64 0] (by rfl) 26 [.slice none 0 0, .int .i64 0, .int .i64 0] G7.out.1 sRow (by simp) (by simp [Value.oneCell']) ?_; intro w8 b8 hm8 hz8; clear hz8; rw [splice_whole _ _ (by simp)] at b8; have x8 := b8.cell; have q8 : Below w.heap.size w w8 := (Mod.below G7.out.2 hm8 (fun k e => by omega) G7.out.2.size); clear hm8 b8)
              refine bodyPost_ret (v := .tuple #[.agg #[.slice none 0 0, .int .i64 0, .int .i64 0], .int .i64 3]) (by simp [results, Tryd.results9, go_sem, x8]) rfl ?_; exact ⟨q8, .inr ⟨HNN.out, rfl⟩⟩
            | true =>
              have hir := HY.out.2 hrb
              have HIR := Lib.hid hir
              have HEN := Lib.hid (ref4_encode ⟨acc, P, Q⟩ _ w6 HOK.out (G6.out.1.sl Vl.enc_length) (by show acc.length ≤ _; omega) hrb (HE.out.below G6.out.2.2.2))
              clear hrb hir
              go_wp2_with fail
              refine HEN.out.mono ?_
              rintro e w7 ⟨⟨v7, rfl, hO7⟩, hb7⟩
              have G7 := Lib.hid (And.intro (G6.out.1.below hb7) (And.intro (G6.out.2.1.below hb7 G6.out.2.1.lt) (And.intro (G6.out.2.2.1.below hb7 G6.out.2.2.1.lt) (G6.out.2.2.2.trans (hb7.mono G6.out.2.2.2.size)))))
              have k1 := conv_sl (hO7.sl u8E_length)
              have k2 := conv_sl (HS.out.below G7.out.2.2.2)
              rw [← HIR.out.2.2] at k1
              rw [← HNL.out] at k2
              have x7 := G7.out.2.2.1.cell
              clear hb7 x6 hO7
              go_wp2_with (refine wpList_store_blk (P := Tryd.prog) rfl 26 (.tmp 2) (.tmp 103) (by rfl) w.heap.size 0 (by rfl) _ (by rfl) [.slice Av acc.length cv, .int .i64 P, .int .i64 Q] (by rfl) 26 [.slice none 0 0, .int .i64 0, .int .i64 0] G7.out.2.1 sRow (by simp) (by simp [Value.oneCell']) ?_; intro w8 b8 hm8 hz8; clear hz8; rw [splice_whole _ _ (by simp)] at b8; have x8 := b8.cell; have q8 : Below w.heap.size w w8 := (Mod.below G7.out.2.2.2 hm8 (fun k e => by omega) G7.out.2.2.2.size); have H8 := Lib.hid (G7.out.1.mod hm8 (fun k hk e => by subst e; exact G7.out.1.ne_blk G7.out.2.1 (by decide) hk)); clear hm8 b8)
              refine bodyPost_ret (v := .tuple #[.agg #[.slice Av acc.length cv, .int .i64 P, .int .i64 Q], .int .i64 0]) (by simp [results, Tryd.results9, go_sem, x8]) rfl ?_
              exact ⟨q8, .inl ⟨⟨acc, P, Q⟩, _, HIR.out, rfl, H8.out⟩⟩
        · have hm5 : ((n : Int) - (k : Int) != 5) = true := by simp at hkL ⊢; omega
          have HNN := Lib.hid (HNS.out h5)
          rcases hcnd with h1 | ⟨h1, h2⟩
          all_goals
            go_wp2_with (refine wpList_store_blk (P := Tryd.prog) rfl 26 (.tmp 2) (.tmp 53) (by rfl) w.heap.size 0 (by rfl) _ (by rfl) [.slice none 0 0, .int .i64 0, .int .i64 0] (by rfl) 26 [.slice none 0 0, .int .i64 0, .int .i64 0] HB1.out sRow (by simp) (by simp [Value.oneCell']) ?_; intro w8 b8 hm8 hz8; clear hz8; rw [splice_whole _ _ (by simp)] at b8; have x8 := b8.cell; have q8 : Below w.heap.size w w8 := (Mod.below hB hm8 (fun k e => by omega) hB.size); clear hm8 b8)
            refine bodyPost_ret (v := .tuple #[.agg #[.slice none 0 0, .int .i64 0, .int .i64 0], .int .i64 3]) (by simp [results, Tryd.results9, go_sem, x8]) rfl ?_; exact ⟨q8, .inr ⟨HNN.out, rfl⟩⟩
end Go.Proofs.YtafbphiedaijmaaDoor
namespace Go.Proofs.YtafbphiedaijmaaDoor
open Go.RowKit Go.Lib
attribute [local go_sem ↓] Go.wp_at_zero Go.wp_at_succ

/-- What Encode hands back. -/
def encL (r : Rw) : List UInt8 := if r.b = true then r.bytes else []
def encE (r : Rw) : Int := if r.b = true then 0 else 3
theorem codec_encode_u (r : Rw) (v : Value) (w : World) (hr : r.ok) (hS : Sl 3 Vl.enc w v r.l) (hl : r.l.length ≤ 9223372036854775807) :
    Calls Tryd.prog 6 #[.agg #[v, .int .i64 r.f, .int .i64 r.t]] w fun e w' => (∃ v', e = .returned (.tuple #[v', .int .i64 (encE r)]) ∧ SlU w' v' (encL r)) ∧ Below w.heap.size w w' := by
  unfold encL encE
  cases hb : r.b with
  | true => exact (codec_encode r v w hr hS hl hb).mono fun _ _ ⟨⟨v', h1, h2⟩, h3⟩ => ⟨⟨v', h1, h2.sl u8E_length⟩, h3⟩
  | false => exact (codec_encode_no r v w hS hl hb).mono fun _ w' ⟨h1, h3⟩ => ⟨⟨_, h1, Sl.nil _ _ w'⟩, h3⟩
theorem ref4_encode_u (r : Rw) (v : Value) (w : World) (hr : r.ok) (hS : Sl 3 Vl.enc w v r.l) (hl : r.l.length ≤ 9223372036854775807) (hE : Env w) :
    Calls Tryd.prog 7 #[.agg #[v, .int .i64 r.f, .int .i64 r.t]] w fun e w' => (∃ v', e = .returned (.tuple #[v', .int .i64 (encE r)]) ∧ SlU w' v' (encL r)) ∧ Below w.heap.size w w' := by
  unfold encL encE
  cases hb : r.b with
  | true => exact (ref4_encode r v w hr hS hl hb hE).mono fun _ _ ⟨⟨v', h1, h2⟩, h3⟩ => ⟨⟨v', h1, h2.sl u8E_length⟩, h3⟩
  | false => exact (ref4_encode_no r v w hr hS hl hb hE).mono fun _ w' ⟨h1, h3⟩ => ⟨⟨_, h1, Sl.nil _ _ w'⟩, h3⟩
theorem dec_one (l : List UInt8) : ∃ (r : Rw) (e : Int), r.l.length ≤ 4 ∧ ∀ w x w', DecPost l w x w' → Below w.heap.size w w' ∧ ∃ v, x = .returned (.tuple #[.agg #[v, .int .i64 r.f, .int .i64 r.t], .int .i64 e]) ∧ Sl 3 Vl.enc w' v r.l := by
  by_cases h : ∃ r, IsRow l r
  · obtain ⟨r, hr⟩ := h
    refine ⟨r, 0, (Rw.b_iff.1 hr.1).1.2, fun w x w' hd => ⟨hd.1, ?_⟩⟩
    rcases hd.2 with ⟨s, v, hs, he, ho⟩ | ⟨hno, _⟩
    · obtain rfl := isRow_one hr hs
      exact ⟨v, he, ho.sl Vl.enc_length⟩
    · exact absurd hr (hno r)
  · refine ⟨⟨[], 0, 0⟩, 3, by simp, fun w x w' hd => ⟨hd.1, ?_⟩⟩
    rcases hd.2 with ⟨s, v, hs, _⟩ | ⟨_, he⟩
    · exact absurd ⟨s, hs⟩ h
    · exact ⟨_, he, Sl.nil _ _ _⟩

set_option maxRecDepth 100000 in
set_option maxHeartbeats 2000000 in
theorem codecBytes_walk (a0 : Rw) (va vb : Value) (l : List UInt8) (w : World) (ha : Sl 3 Vl.enc w va a0.l) (hb : SlU w vb l) (hoa : a0.ok) (hla : a0.l.length ≤ 9223372036854775807) (hlb : l.length ≤ 9223372036854775807) (hE : Env w) :
    Calls Tryd.prog 3 #[.agg #[va, .int .i64 a0.f, .int .i64 a0.t], vb] w fun e w' => e = .returned (.bool true) ∧ Below w.heap.size w w' := by
  have HE := Lib.hid hE
  clear hE
  have hgt : 200 < l.length ∨ l.length ≤ 200 := Nat.lt_or_ge 200 l.length |>.imp id id
  have hcb := hb.slice
  rcases hgt with hgt | hgt
  · obtain ⟨A, ca, rfl⟩ := ha.slice
    obtain ⟨B, cb, rfl⟩ := hb.slice
    obtain ⟨W0, hW0⟩ : ∃ W0, W0 = w.alloc (.cells #[.slice A a0.l.length ca, .int .i64 a0.f, .int .i64 a0.t] 26) := ⟨_, rfl⟩
    have q0 : Below w.heap.size w W0 := by rw [hW0]; exact (Below.refl _ _).alloc (Nat.le_refl _) _
    have b1 : Blk W0 w.heap.size 26 #[.slice A a0.l.length ca, .int .i64 a0.f, .int .i64 a0.t] := by rw [hW0]; exact Blk.new _ _ _
    have hltA : 0 < a0.l.length → ∀ g1 o1, A = some ⟨g1, o1, none⟩ → g1 < w.heap.size := fun h g1 o1 e => by subst e; exact ha.lt h
    have HLA := Lib.hid hltA
    have hltB : 0 < l.length → ∀ g1 o1, B = some ⟨g1, o1, none⟩ → g1 < w.heap.size := fun h g1 o1 e => by subst e; exact hb.lt h
    have HLB := Lib.hid hltB
    clear hltA hltB
    have H0 := Lib.hid (And.intro b1 (And.intro q0 (And.intro (ha.below q0) (hb.below q0))))
    have HF := Lib.hid (few4 a0 A a0.l.length ca W0 (ha.below q0) hla)
    have HO := Lib.hid (Rw.few_ok hoa)
    have HW0 := Lib.hid hW0
    have xr := b1.cell
    have hfl := a0.few_le
    clear hW0 ha hb q0 b1 hoa
    generalize hll : l.length = nl at *
    have HLL := Lib.hid hll
    clear hll hcb
    have hI : (200 : Int) < (nl : Int) := by omega
    have hcap : nl ≤ cb := H0.out.2.2.2.len.2
    have hcap2 : 200 ≤ cb := by omega
    have hcap3 : (200 : Int) ≤ (cb : Int) := by omega
    go_enter Tryd.func3, Tryd.ntmps3
    go_upto_region 1 with (fail)
    rw [← HW0.out]
    go_wp2_with fail
    refine HF.out.mono ?_
    rintro e w1 ⟨n1, c1, rfl, hs1, hb1⟩
    have H1 := Lib.hid (And.intro (H0.out.1.below hb1 H0.out.1.lt) (And.intro hs1 (And.intro (H0.out.2.2.2.below hb1) (H0.out.2.1.trans (hb1.mono H0.out.2.1.size)))))
    clear hs1 hb1 xr
    go_wp2_with (refine wpList_store_blk (P := Tryd.prog) rfl 26 (.tmp 2) (.tmp 14) (by rfl) w.heap.size 0 (by rfl) _ (by rfl) [.slice A n1 c1, .int .i64 a0.f, .int .i64 a0.t] (by rfl) 26 [.slice A a0.l.length ca, .int .i64 a0.f, .int .i64 a0.t] H1.out.1 sRow (by simp) (by simp [Value.oneCell']) ?_
                 intro w2 b2 hm2 hz2
                 clear hz2
                 rw [splice_whole _ _ (by simp)] at b2
                 have x2 := b2.cell
                 have s2 := H1.out.2.1.mod hm2 (fun hp g1 o1 e e2 => by have := HLA.out (by unfold Rw.few at hp; simp at hp; omega) g1 o1 e; omega)
                 have sb2 := H1.out.2.2.1.mod hm2 (fun hp g1 o1 e e2 => by have := HLB.out (by rw [← HLL.out]; exact hp) g1 o1 e; omega)
                 have q2 : Below w.heap.size w w2 := Mod.below H1.out.2.2.2 hm2 (fun k e => by omega) H1.out.2.2.2.size
                 have H2 := Lib.hid (And.intro b2 (And.intro s2 (And.intro sb2 q2)))
                 clear b2 s2 sb2 q2 hm2)
    clear HF HLA HLB
    generalize hfew : a0.few = a at *
    have e3 : a0.f = a.f := by rw [← hfew]; rfl
    have e4 : a0.t = a.t := by rw [← hfew]; rfl
    rw [e3, e4] at x2 H2
    try rw [e3]
    try rw [e4]
    clear hfew e3 e4 H1 H0
    obtain rfl : n1 = a.l.length := H2.out.2.1.len.1
    obtain ⟨L', hL'⟩ : ∃ L', L' = l.take 200 := ⟨_, rfl⟩
    have hL200 : L'.length ≤ 200 := by rw [hL', List.length_take]; omega
    have HL : Hid (SlU w2 (.slice B 200 cb) L') := Lib.hid (by rw [hL']; exact H2.out.2.2.1.take (by omega))
    obtain ⟨r0, e0, hr0, hdec⟩ := dec_one L'
    have HD := Lib.hid hdec
    clear hL' hdec

    go_wp2_with fail
    refine (codec_encode_u a _ w2 HO.out H2.out.2.1 (by omega)).mono ?_
    rintro e w3 ⟨⟨v3, rfl, s3⟩, hb3⟩
    have H3 := Lib.hid (And.intro s3 (And.intro (H2.out.1.below hb3 H2.out.1.lt) (And.intro (H2.out.2.1.below hb3) (And.intro (HL.out.below hb3) (H2.out.2.2.2.trans (hb3.mono H2.out.2.2.2.size))))))
    have x3 := H3.out.2.1.cell
    clear s3 hb3 x2
    go_wp2_with fail
    refine (ref4_encode_u a _ w3 HO.out H3.out.2.2.1 (by omega) (HE.out.below H3.out.2.2.2.2)).mono ?_
    rintro e w4 ⟨⟨v4, rfl, s4⟩, hb4⟩
    have H4 := Lib.hid (And.intro s4 (And.intro (H3.out.1.below hb4) (And.intro (H3.out.2.2.2.1.below hb4) (H3.out.2.2.2.2.trans (hb4.mono H3.out.2.2.2.2.size)))))
    clear s4 hb4 x3
    go_wp2_with fail
    refine (codec_decode _ L' w4 H4.out.2.2.1 (by omega)).mono ?_
    rintro e w5 hd5
    obtain ⟨hb5, v5, rfl, s5⟩ := HD.out _ _ _ hd5
    obtain ⟨A5, c5, rfl⟩ := s5.slice
    have H5 := Lib.hid (And.intro s5 (And.intro (H4.out.1.below hb5) (And.intro (H4.out.2.1.below hb5) (And.intro (H4.out.2.2.1.below hb5) (H4.out.2.2.2.trans (hb5.mono H4.out.2.2.2.size))))))
    clear s5 hb5 hd5
    go_wp2_with (first
          | (refine wpList_alloc_blk (P := Tryd.prog) rfl 26 (by rfl) _ zRow ?_; intro w6 b6 hb6 hz6; clear hz6)
          | (refine wpList_store_blk (P := Tryd.prog) rfl 26 (.tmp 9) (.tmp 33) (by rfl) w5.heap.size 0 (by rfl) _ (by rfl) [.slice A5 r0.l.length c5, .int .i64 r0.f, .int .i64 r0.t] (by rfl) 26 _ b6 sRow (by simp) (by simp [Value.oneCell']) ?_; intro w7 b7 hm7 hz7; clear hz7; rw [splice_whole _ _ (by simp)] at b7; have m7 : Below w5.heap.size w5 w7 := (Mod.below hb6 hm7 (fun k e => by omega) (by have := hb6.size; omega)); clear b6 hb6 hm7))
    have H7 := Lib.hid (And.intro (H5.out.1.below m7) (And.intro (H5.out.2.1.below m7) (And.intro (H5.out.2.2.1.below m7) (And.intro (H5.out.2.2.2.1.below m7) (And.intro b7 (H5.out.2.2.2.2.trans (m7.mono H5.out.2.2.2.2.size)))))))
    clear b7 m7
    refine (ref4_decode _ L' w7 H7.out.2.2.2.1 (by omega) (HE.out.below H7.out.2.2.2.2.2)).mono ?_
    rintro e w8 hd8
    obtain ⟨hb8, v8, rfl, s8⟩ := HD.out _ _ _ hd8
    obtain ⟨A8, c8, rfl⟩ := s8.slice
    have H8 := Lib.hid (And.intro s8 (And.intro (H7.out.1.below hb8) (And.intro (H7.out.2.1.below hb8) (And.intro (H7.out.2.2.1.below hb8) (And.intro (H7.out.2.2.2.2.1.below hb8 H7.out.2.2.2.2.1.lt) (H7.out.2.2.2.2.2.trans (hb8.mono H7.out.2.2.2.2.2.size)))))))
    clear s8 hb8 hd8
    go_wp2_with (first
          | (refine wpList_alloc_blk (P := Tryd.prog) rfl 26 (by rfl) _ zRow ?_; intro w9 b9 hb9 hz9; clear hz9)
          | (refine wpList_store_blk (P := Tryd.prog) rfl 26 (.tmp 11) (.tmp 38) (by rfl) w8.heap.size 0 (by rfl) _ (by rfl) [.slice A8 r0.l.length c8, .int .i64 r0.f, .int .i64 r0.t] (by rfl) 26 _ b9 sRow (by simp) (by simp [Value.oneCell']) ?_; intro wa ba hma hza; clear hza; rw [splice_whole _ _ (by simp)] at ba; have ma : Below w8.heap.size w8 wa := (Mod.below hb9 hma (fun k e => by omega) (by have := hb9.size; omega)); clear b9 hb9 hma))
    have Ha := Lib.hid (And.intro (H8.out.1.below ma) (And.intro (H8.out.2.1.below ma) (And.intro (H8.out.2.2.1.below ma) (And.intro (H8.out.2.2.2.1.below ma) (And.intro (H8.out.2.2.2.2.1.below ma H8.out.2.2.2.2.1.lt) (And.intro ba (H8.out.2.2.2.2.2.trans (ma.mono H8.out.2.2.2.2.2.size))))))))
    clear ba ma
    refine (live4 wa).mono ?_
    rintro e wb ⟨rfl, hbb⟩
    have Hb := Lib.hid (And.intro (Ha.out.1.below hbb) (And.intro (Ha.out.2.1.below hbb) (Ha.out.2.2.2.2.2.2.trans (hbb.mono Ha.out.2.2.2.2.2.2.size))))
    have k1 := conv_sl (Ha.out.2.2.1.below hbb)
    have k2 := conv_sl (Ha.out.2.2.2.1.below hbb)
    have xb := (Ha.out.2.2.2.2.1.below hbb Ha.out.2.2.2.2.1.lt).cell
    have yb := (Ha.out.2.2.2.2.2.1.below hbb Ha.out.2.2.2.2.2.1.lt).cell
    clear hbb
    go_wp2_with fail
    refine (ref_same_row r0 r0 _ _ wb Hb.out.2.1 Hb.out.1 (by omega) (by omega)).mono ?_
    rintro e wc ⟨rfl, hbc⟩
    rw [rowC_self]
    have HQ := Lib.hid (Hb.out.2.2.trans (hbc.mono Hb.out.2.2.size))
    clear hbc xb yb
    go_wp2
    go_ret
    exact ⟨rfl, HQ.out⟩
  · obtain ⟨A, ca, rfl⟩ := ha.slice
    obtain ⟨B, cb, rfl⟩ := hb.slice
    obtain ⟨W0, hW0⟩ : ∃ W0, W0 = w.alloc (.cells #[.slice A a0.l.length ca, .int .i64 a0.f, .int .i64 a0.t] 26) := ⟨_, rfl⟩
    have q0 : Below w.heap.size w W0 := by rw [hW0]; exact (Below.refl _ _).alloc (Nat.le_refl _) _
    have b1 : Blk W0 w.heap.size 26 #[.slice A a0.l.length ca, .int .i64 a0.f, .int .i64 a0.t] := by rw [hW0]; exact Blk.new _ _ _
    have hltA : 0 < a0.l.length → ∀ g1 o1, A = some ⟨g1, o1, none⟩ → g1 < w.heap.size := fun h g1 o1 e => by subst e; exact ha.lt h
    have HLA := Lib.hid hltA
    have hltB : 0 < l.length → ∀ g1 o1, B = some ⟨g1, o1, none⟩ → g1 < w.heap.size := fun h g1 o1 e => by subst e; exact hb.lt h
    have HLB := Lib.hid hltB
    clear hltA hltB
    have H0 := Lib.hid (And.intro b1 (And.intro q0 (And.intro (ha.below q0) (hb.below q0))))
    have HF := Lib.hid (few4 a0 A a0.l.length ca W0 (ha.below q0) hla)
    have HO := Lib.hid (Rw.few_ok hoa)
    have HW0 := Lib.hid hW0
    have xr := b1.cell
    have hfl := a0.few_le
    clear hW0 ha hb q0 b1 hoa
    generalize hll : l.length = nl at *
    have HLL := Lib.hid hll
    clear hll hcb
    have hI : ¬ (200 : Int) < (nl : Int) := by omega
    go_enter Tryd.func3, Tryd.ntmps3
    go_upto_region 1 with (fail)
    rw [← HW0.out]
    go_wp2_with fail
    refine HF.out.mono ?_
    rintro e w1 ⟨n1, c1, rfl, hs1, hb1⟩
    have H1 := Lib.hid (And.intro (H0.out.1.below hb1 H0.out.1.lt) (And.intro hs1 (And.intro (H0.out.2.2.2.below hb1) (H0.out.2.1.trans (hb1.mono H0.out.2.1.size)))))
    clear hs1 hb1 xr
    go_wp2_with (refine wpList_store_blk (P := Tryd.prog) rfl 26 (.tmp 2) (.tmp 14) (by rfl) w.heap.size 0 (by rfl) _ (by rfl) [.slice A n1 c1, .int .i64 a0.f, .int .i64 a0.t] (by rfl) 26 [.slice A a0.l.length ca, .int .i64 a0.f, .int .i64 a0.t] H1.out.1 sRow (by simp) (by simp [Value.oneCell']) ?_
                 intro w2 b2 hm2 hz2
                 clear hz2
                 rw [splice_whole _ _ (by simp)] at b2
                 have x2 := b2.cell
                 have s2 := H1.out.2.1.mod hm2 (fun hp g1 o1 e e2 => by have := HLA.out (by unfold Rw.few at hp; simp at hp; omega) g1 o1 e; omega)
                 have sb2 := H1.out.2.2.1.mod hm2 (fun hp g1 o1 e e2 => by have := HLB.out (by rw [← HLL.out]; exact hp) g1 o1 e; omega)
                 have q2 : Below w.heap.size w w2 := Mod.below H1.out.2.2.2 hm2 (fun k e => by omega) H1.out.2.2.2.size
                 have H2 := Lib.hid (And.intro b2 (And.intro s2 (And.intro sb2 q2)))
                 clear b2 s2 sb2 q2 hm2)
    clear HF HLA HLB
    generalize hfew : a0.few = a at *
    have e3 : a0.f = a.f := by rw [← hfew]; rfl
    have e4 : a0.t = a.t := by rw [← hfew]; rfl
    rw [e3, e4] at x2 H2
    try rw [e3]
    try rw [e4]
    clear hfew e3 e4 H1 H0
    obtain rfl : n1 = a.l.length := H2.out.2.1.len.1
    obtain ⟨L', hL'⟩ : ∃ L', L' = l := ⟨_, rfl⟩
    have hL200 : L'.length ≤ 200 := by rw [hL', HLL.out]; omega
    have HL : Hid (SlU w2 (.slice B nl cb) L') := Lib.hid (by rw [hL']; exact H2.out.2.2.1)
    obtain ⟨r0, e0, hr0, hdec⟩ := dec_one L'
    have HD := Lib.hid hdec
    clear hL' hdec

    go_wp2_with fail
    refine (codec_encode_u a _ w2 HO.out H2.out.2.1 (by omega)).mono ?_
    rintro e w3 ⟨⟨v3, rfl, s3⟩, hb3⟩
    have H3 := Lib.hid (And.intro s3 (And.intro (H2.out.1.below hb3 H2.out.1.lt) (And.intro (H2.out.2.1.below hb3) (And.intro (HL.out.below hb3) (H2.out.2.2.2.trans (hb3.mono H2.out.2.2.2.size))))))
    have x3 := H3.out.2.1.cell
    clear s3 hb3 x2
    go_wp2_with fail
    refine (ref4_encode_u a _ w3 HO.out H3.out.2.2.1 (by omega) (HE.out.below H3.out.2.2.2.2)).mono ?_
    rintro e w4 ⟨⟨v4, rfl, s4⟩, hb4⟩
    have H4 := Lib.hid (And.intro s4 (And.intro (H3.out.1.below hb4) (And.intro (H3.out.2.2.2.1.below hb4) (H3.out.2.2.2.2.trans (hb4.mono H3.out.2.2.2.2.size)))))
    clear s4 hb4 x3
    go_wp2_with fail
    refine (codec_decode _ L' w4 H4.out.2.2.1 (by omega)).mono ?_
    rintro e w5 hd5
    obtain ⟨hb5, v5, rfl, s5⟩ := HD.out _ _ _ hd5
    obtain ⟨A5, c5, rfl⟩ := s5.slice
    have H5 := Lib.hid (And.intro s5 (And.intro (H4.out.1.below hb5) (And.intro (H4.out.2.1.below hb5) (And.intro (H4.out.2.2.1.below hb5) (H4.out.2.2.2.trans (hb5.mono H4.out.2.2.2.size))))))
    clear s5 hb5 hd5
    go_wp2_with (first
          | (refine wpList_alloc_blk (P := Tryd.prog) rfl 26 (by rfl) _ zRow ?_; intro w6 b6 hb6 hz6; clear hz6)
          | (refine wpList_store_blk (P := Tryd.prog) rfl 26 (.tmp 9) (.tmp 33) (by rfl) w5.heap.size 0 (by rfl) _ (by rfl) [.slice A5 r0.l.length c5, .int .i64 r0.f, .int .i64 r0.t] (by rfl) 26 _ b6 sRow (by simp) (by simp [Value.oneCell']) ?_; intro w7 b7 hm7 hz7; clear hz7; rw [splice_whole _ _ (by simp)] at b7; have m7 : Below w5.heap.size w5 w7 := (Mod.below hb6 hm7 (fun k e => by omega) (by have := hb6.size; omega)); clear b6 hb6 hm7))
    have H7 := Lib.hid (And.intro (H5.out.1.below m7) (And.intro (H5.out.2.1.below m7) (And.intro (H5.out.2.2.1.below m7) (And.intro (H5.out.2.2.2.1.below m7) (And.intro b7 (H5.out.2.2.2.2.trans (m7.mono H5.out.2.2.2.2.size)))))))
    clear b7 m7
    refine (ref4_decode _ L' w7 H7.out.2.2.2.1 (by omega) (HE.out.below H7.out.2.2.2.2.2)).mono ?_
    rintro e w8 hd8
    obtain ⟨hb8, v8, rfl, s8⟩ := HD.out _ _ _ hd8
    obtain ⟨A8, c8, rfl⟩ := s8.slice
    have H8 := Lib.hid (And.intro s8 (And.intro (H7.out.1.below hb8) (And.intro (H7.out.2.1.below hb8) (And.intro (H7.out.2.2.1.below hb8) (And.intro (H7.out.2.2.2.2.1.below hb8 H7.out.2.2.2.2.1.lt) (H7.out.2.2.2.2.2.trans (hb8.mono H7.out.2.2.2.2.2.size)))))))
    clear s8 hb8 hd8
    go_wp2_with (first
          | (refine wpList_alloc_blk (P := Tryd.prog) rfl 26 (by rfl) _ zRow ?_; intro w9 b9 hb9 hz9; clear hz9)
          | (refine wpList_store_blk (P := Tryd.prog) rfl 26 (.tmp 11) (.tmp 38) (by rfl) w8.heap.size 0 (by rfl) _ (by rfl) [.slice A8 r0.l.length c8, .int .i64 r0.f, .int .i64 r0.t] (by rfl) 26 _ b9 sRow (by simp) (by simp [Value.oneCell']) ?_; intro wa ba hma hza; clear hza; rw [splice_whole _ _ (by simp)] at ba; have ma : Below w8.heap.size w8 wa := (Mod.below hb9 hma (fun k e => by omega) (by have := hb9.size; omega)); clear b9 hb9 hma))
    have Ha := Lib.hid (And.intro (H8.out.1.below ma) (And.intro (H8.out.2.1.below ma) (And.intro (H8.out.2.2.1.below ma) (And.intro (H8.out.2.2.2.1.below ma) (And.intro (H8.out.2.2.2.2.1.below ma H8.out.2.2.2.2.1.lt) (And.intro ba (H8.out.2.2.2.2.2.trans (ma.mono H8.out.2.2.2.2.2.size))))))))
    clear ba ma
    refine (live4 wa).mono ?_
    rintro e wb ⟨rfl, hbb⟩
    have Hb := Lib.hid (And.intro (Ha.out.1.below hbb) (And.intro (Ha.out.2.1.below hbb) (Ha.out.2.2.2.2.2.2.trans (hbb.mono Ha.out.2.2.2.2.2.2.size))))
    have k1 := conv_sl (Ha.out.2.2.1.below hbb)
    have k2 := conv_sl (Ha.out.2.2.2.1.below hbb)
    have xb := (Ha.out.2.2.2.2.1.below hbb Ha.out.2.2.2.2.1.lt).cell
    have yb := (Ha.out.2.2.2.2.2.1.below hbb Ha.out.2.2.2.2.2.1.lt).cell
    clear hbb
    go_wp2_with fail
    refine (ref_same_row r0 r0 _ _ wb Hb.out.2.1 Hb.out.1 (by omega) (by omega)).mono ?_
    rintro e wc ⟨rfl, hbc⟩
    rw [rowC_self]
    have HQ := Lib.hid (Hb.out.2.2.trans (hbc.mono Hb.out.2.2.size))
    clear hbc xb yb
    go_wp2
    go_ret
    exact ⟨rfl, HQ.out⟩
end Go.Proofs.YtafbphiedaijmaaDoor
