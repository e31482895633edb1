/- The walk of TopLine. -/
import Derived.Test.YtafbphiedaijmaaVs
import Derived.Deep.QuietTactic
import Derived.BigQuiet
namespace Go.Proofs.Ytafbphiedaijmaa
open Go.RowKit Go.Lib

def kept (l : List Vl) (k : Nat) : List Vl := (l.take k).filter Vl.b
theorem kept_len (l : List Vl) (k : Nat) : (kept l k).length ≤ k := by
  unfold kept
  have := List.length_filter_le Vl.b (l.take k)
  rw [List.length_take] at this
  omega
theorem kept_b (l : List Vl) (k : Nat) : ∀ x ∈ kept l k, x.b = true := fun x hx => (List.mem_filter.1 hx).2
theorem kept_mem (l : List Vl) (k : Nat) : ∀ x ∈ kept l k, x ∈ l := fun x hx => List.mem_of_mem_take (List.mem_filter.1 hx).1
theorem kept_snoc (l : List Vl) {k : Nat} {x : Vl} (h : l[k]? = some x) : kept l (k + 1) = kept l k ++ (if x.b = true then [x] else []) := by
  have hk := (List.getElem?_eq_some_iff.1 h)
  obtain ⟨hk, e⟩ := hk
  unfold kept
  rw [List.take_succ_eq_append_getElem hk, List.filter_append, e]
  congr 1
  by_cases hb : x.b = true
  · simp [hb]
  · simp [hb]
theorem value_bytes_nov (x : Vl) (w : World) (hv : x.b = false) :
    Calls Try.prog 20 #[.agg #[.int .u8 x.k, .int .i64 x.n, .string x.s]] w fun e w' => e = .returned (.tuple #[.slice none 0 0, .int .i64 3]) ∧ Below w.heap.size w w' := value_bytes_no x.k x.n x.s w hv

/-- What was kept of the first k. -/
def St (l : List Vl) (k : Nat) (D : List UInt8) (N : List Vl) : Prop := N = kept l k ∧ D = N.flatMap Vl.bytes
theorem St.zero (l : List Vl) : St l 0 [] [] := ⟨rfl, rfl⟩
theorem St.yes {l : List Vl} {k : Nat} {D : List UInt8} {N : List Vl} (h : St l k D N) {x : Vl} (hx : l[k]? = some x) (hb : x.b = true) : St l (k + 1) (D ++ x.bytes) (N ++ [x]) := by
  obtain ⟨rfl, rfl⟩ := h
  refine ⟨by rw [kept_snoc l hx, if_pos hb], by simp⟩
theorem St.no {l : List Vl} {k : Nat} {D : List UInt8} {N : List Vl} (h : St l k D N) {x : Vl} (hx : l[k]? = some x) (hb : x.b = false) : St l (k + 1) D N := by
  obtain ⟨rfl, rfl⟩ := h
  refine ⟨by rw [kept_snoc l hx, if_neg (by rw [hb]; decide), List.append_nil], rfl⟩
theorem St.len {l : List Vl} {k : Nat} {D : List UInt8} {N : List Vl} (h : St l k D N) : N.length ≤ k ∧ D.length ≤ 34 * N.length := by
  obtain ⟨rfl, rfl⟩ := h
  exact ⟨kept_len _ _, flat_bytes_le _ (kept_b l k)⟩

theorem below_drewN' {B : Nat} {a w : World} (h : Below B a w) (n : Nat) : Below B a (w.drewN n) := ⟨h.os, h.tape, h.output, h.size, h.block⟩

set_option maxRecDepth 100000 in
set_option maxHeartbeats 4000000 in
theorem topLine_walk (v : Value) (l : List Vl) (w : World) (hS : Sl 3 Vl.enc w v l) (hr : ∀ x ∈ l, x.ok) (hl : l.length ≤ maxLen) :
    Calls Try.prog 7 #[v] w fun e w' => e = .returned (.bool true) ∧ Below w.heap.size w w' := by
  unfold maxLen at hl
  obtain ⟨i0, hi, hz0, hz1, hz2⟩ := info_parts infoByte
  obtain ⟨j0, hj, hy0, hy1, hy2⟩ := info_parts infoVal
  obtain ⟨A, c, rfl⟩ := hS.slice
  have HR := Lib.hid hr
  clear hr
  have HS0 := Lib.hid hS
  clear hS
  go_enter Try.func7, Try.ntmps7
  go_wp2
  go_loopw [3, 4, 5] (fun b n t wr => ∃ (k : Nat) (D : List UInt8) (N : List Vl), t = .int .i64 k ∧ k ≤ l.length ∧ k ≤ 10 ∧ OwnU w.heap.size wr b D ∧ Own w.heap.size 55 3 Vl.enc wr n N ∧ St l k D N ∧ Below w.heap.size w wr) (fun _ _ t _ => l.length - (RowKit.intOf t).toNat)
  case atStart => exact ⟨0, [], [], rfl, by omega, by omega, Own.nil _ _ _ _ _, Own.nil _ _ _ _ _, St.zero l, Below.refl _ _⟩
  case round =>
    obtain ⟨k, D, N, rfl, hk, hk10, hO, hN, hT, hB⟩ := hrel
    obtain ⟨Ab, cb, rfl⟩ := hO.slice
    obtain ⟨An, cn, rfl⟩ := hN.slice
    have HO := Lib.hid hO
    have HN := Lib.hid hN
    have hlen := hT.len
    have HT := Lib.hid hT
    clear hO hN hT
    by_cases hgo : k < l.length ∧ k < 10
    · obtain ⟨hkl, hkt⟩ := hgo
      obtain ⟨x, hx⟩ : ∃ x, l[k]? = some x := ⟨_, List.getElem?_eq_getElem hkl⟩
      have hklI : (k : Int) < (l.length : Int) := by omega
      have hktI : (k : Int) < 10 := by omega
      obtain ⟨g, o, rfl, hg, hc⟩ := (HS0.out.below hB).at_ hx
      have c0 := hc 0 _ rfl
      have c1 := hc 1 _ rfl
      have c2 := hc 2 _ rfl
      rw [Nat.add_zero] at c0
      have hok := HR.out x (List.mem_of_getElem? hx)
      have HX := Lib.hid hx
      clear hc hx
      cases hb : x.b with
      | true =>
        have hbs := (bytes_short hb).1
        have hT2 := Lib.hid (HT.out.yes HX.out hb)
        go_wp2_with fail
        refine (value_bytes_v x _ hok hb).mono ?_
        rintro e w1 ⟨⟨vx, rfl, hvx⟩, hb1⟩
        obtain ⟨Ax, cx, rfl⟩ := hvx.slice
        have q1 := hB.trans (hb1.mono hB.size)
        have hO1 := HO.out.below hb1
        have hN1 := HN.out.below hb1
        have d0 : w1.cell? ⟨g, o + k * 3, none⟩ = some (.int .u8 x.k) := (hb1.cell (p := ⟨g, _, none⟩) hg).trans c0
        have d1 : w1.cell? ⟨g, o + k * 3 + 1, none⟩ = some (.int .i64 x.n) := (hb1.cell (p := ⟨g, _, none⟩) hg).trans c1
        have d2 : w1.cell? ⟨g, o + k * 3 + 2, none⟩ = some (.string x.s) := (hb1.cell (p := ⟨g, _, none⟩) hg).trans c2
        have HX1 := Lib.hid (hvx.sl u8E_length)
        have HO1 := Lib.hid hO1
        have HN1 := Lib.hid hN1
        have hg1 : g < w1.heap.size := by have := hb1.size; omega
        clear hb1 HO HN c0 c1 c2 hvx hO1 hN1
        go_wp2_with (at_builtin; refine wpList_app _ rfl _ _ 27 (by rfl) w.heap.size 5 i0 (.int .u8 0) 1 1 u8E Try.underlying27 hi hz0 hz1 hz2 rfl (by decide) u8E_length u8E_one _ _ _ _ (by rfl) HO1.out (by rfl) HX1.out (by unfold maxLen; omega) (by omega) q1.size ?_)
        intro v2 w2 hO2 hg2 _
        obtain ⟨D2, hD2⟩ : ∃ D2, D2 = D ++ x.bytes := ⟨_, rfl⟩
        rw [← hD2] at hO2 hT2
        clear hD2
        have q2 := HO1.out.grow q1 hg2
        have hN2 := HN1.out.kept hg2 (HN1.out.ne_of HO1.out (by decide))
        have hS2 := HS0.out.below q2
        have e0 := hS2.cell HX.out 0 _ rfl
        have e1 := hS2.cell HX.out 1 _ rfl
        have e2 := hS2.cell HX.out 2 _ rfl
        rw [Nat.add_zero] at e0
        obtain ⟨A2, c2, rfl⟩ := hO2.slice
        have HO2 := Lib.hid (hO2.alloc (.cells #[.int .u8 x.k, .int .i64 x.n, .string x.s] 55))
        have HN2 := Lib.hid (hN2.alloc (.cells #[.int .u8 x.k, .int .i64 x.n, .string x.s] 55))
        have q3 := q2.alloc q2.size (.cells #[.int .u8 x.k, .int .i64 x.n, .string x.s] 55)
        have HX2 := Lib.hid (Sl.new w2 55 [x] Vl.enc_length #[.int .u8 x.k, .int .i64 x.n, .string x.s] rfl 1 rfl)
        clear hO2 hN2 hS2 hg2 d0 d1 d2 HO1 HN1 HX1
        go_wp2_with (at_builtin; refine wpList_app _ rfl _ _ 22 (by rfl) w.heap.size 55 j0 _ 3 32 Vl.enc Try.underlying22 hj hy0 hy1 hy2 rfl (by decide) Vl.enc_length Vl.enc_one _ _ _ _ (by rfl) HN2.out (by rfl) HX2.out (by unfold maxLen; simp; omega) (by simp; omega) q3.size ?_)
        intro v3 w3 hN3 hg3 _
        have q4 := HN2.out.grow q3 hg3
        have HO3 := Lib.hid (HO2.out.kept hg3 (HO2.out.ne_of HN2.out (by decide)))
        have HN3 := Lib.hid hN3
        clear hN3 hg3 HO2 HN2 HX2 e0 e1 e2
        go_wp2
        go_roundw
        case rel => exact ⟨k + 1, _, _, by go_num, by omega, by omega, HO3.out, HN3.out, hT2.out, q4⟩
        case measure => simp [RowKit.intOf]; omega
      | false =>
        have hT2 := Lib.hid (HT.out.no HX.out hb)
        go_wp2_with fail
        refine (value_bytes_nov x _ hb).mono ?_
        rintro e w1 ⟨rfl, hb1⟩
        have q1 := hB.trans (hb1.mono hB.size)
        have HO1 := Lib.hid (HO.out.below hb1)
        have HN1 := Lib.hid (HN.out.below hb1)
        clear hb1 HO HN
        go_wp2
        go_roundw
        case rel => exact ⟨k + 1, D, N, by go_num, by omega, by omega, HO1.out, HN1.out, hT2.out, q1⟩
        case measure => simp [RowKit.intOf]; omega
    · have hcase : ((k : Int) < (l.length : Int) ∧ decide ((k : Int) < 10) = false) ∨ ¬ (k : Int) < (l.length : Int) := by
        by_cases h : k < l.length
        · exact .inl ⟨by omega, by simp; omega⟩
        · exact .inr (by omega)
      rcases hcase with ⟨h1, h2⟩ | h1
      all_goals
        go_wp2_with fail
        go_loopw [3, 8] (fun b t wr => ∃ (i : Nat), t = .int .i64 i ∧ i ≤ N.length ∧ SlU wr b ((N.drop i).flatMap Vl.bytes) ∧ Own w.heap.size 55 3 Vl.enc wr (.slice An N.length cn) N ∧ Below w.heap.size w wr) (fun _ t _ => N.length - (RowKit.intOf t).toNat)
        case atStart => exact ⟨0, rfl, by omega, by rw [List.drop_zero, ← HT.out.2]; exact HO.out.sl u8E_length, HN.out, hB⟩
        case round =>
          obtain ⟨i, rfl, hin, hb2, hN2, hB2⟩ := hrel
          obtain ⟨E, hE⟩ : ∃ E, E = (N.drop i).flatMap Vl.bytes := ⟨_, rfl⟩
          rw [← hE] at hb2
          obtain ⟨Ae, ce, rfl⟩ := hb2.slice
          by_cases hi2 : i < N.length
          · obtain ⟨x, hx⟩ : ∃ x, N[i]? = some x := ⟨_, List.getElem?_eq_getElem hi2⟩
            have hiI : (i : Int) < (N.length : Int) := by omega
            have hxm : x ∈ kept l k := by rw [← HT.out.1]; exact List.mem_of_getElem? hx
            have hxb := kept_b l k x hxm
            have hok := HR.out x (kept_mem l k x hxm)
            have hE2 : E = x.bytes ++ (N.drop (i + 1)).flatMap Vl.bytes := by
              rw [hE, List.drop_eq_getElem_cons hi2, List.flatMap_cons]
              have : N[i] = x := by rw [List.getElem?_eq_getElem hi2] at hx; exact Option.some.inj hx
              rw [this]
            have hEl : E.length ≤ 340 := by
              have h1 := flat_bytes_le (N.drop i) (fun y hy => kept_b l k y (by rw [← HT.out.1]; exact List.mem_of_mem_drop hy))
              rw [← hE, List.length_drop] at h1
              omega
            clear hE
            have hbs := bytes_short hxb
            obtain ⟨g, o, rfl, hg, hc⟩ := (hN2.sl Vl.enc_length).at_ hx
            have hN3 := hN2.sl Vl.enc_length
            have HN2 := Lib.hid hN2
            have HS2 := Lib.hid hN3
            have HX := Lib.hid hx
            have HB2 := Lib.hid hb2
            obtain ⟨L, hL⟩ : ∃ L, L = (N.drop (i + 1)).flatMap Vl.bytes := ⟨_, rfl⟩
            have HL := Lib.hid hL
            have hll : E.length = x.bytes.length + L.length := by rw [hE2, List.length_append, hL]
            have HLL := Lib.hid hll
            clear hll
            have hdrop : E.drop x.bytes.length = L := by rw [hE2, List.drop_left, hL]
            have HD := Lib.hid hdrop
            have HV := Lib.hid (fun w h hl => value_read_v x L (.slice Ae E.length ce) w hok hxb h hl)
            have HE2 : Hid (E = x.bytes ++ L) := Lib.hid (by rw [hE2, hL])
            clear hx hc hL hN2 hN3 hb2 hE2 hdrop hxm
            go_wp2_with fail
            refine (HV.out _ (by rw [← HE2.out]; exact HB2.out) (by rw [← HE2.out]; omega)).mono ?_
            rintro e w4 ⟨rfl, hb4⟩
            have q4 := hB2.trans (hb4.mono hB2.size)
            have HN4 := Lib.hid (HN2.out.below hb4)
            have hS4 := HS2.out.below hb4
            have HB4 := Lib.hid (HB2.out.below hb4)
            have e0 := hS4.cell HX.out 0 _ rfl
            have e1 := hS4.cell HX.out 1 _ rfl
            have e2 := hS4.cell HX.out 2 _ rfl
            rw [Nat.add_zero] at e0
            have hg4 : g < w4.heap.size := by have := hb4.size; omega
            have hce := HB4.out.len
            clear hb4 HB2 HN2 HS2 hS4 HV
            go_wp2_with fail
            have t1 : decide ((x.bytes.length : Int) < 2) = false := by simp; omega
            have t2 : decide (E.length < x.bytes.length) = false := by have := HLL.out; simp; omega
            have t3 : x.bytes.length ≤ E.length := by have := HLL.out; omega
            have t4 : E.length ≤ ce := hce.2
            go_quiet (fail)
            go_wp2
            go_roundw
            case rel =>
              refine ⟨i + 1, by go_num, by omega, ?_, (HN4.out.alloc _).drewN _, below_drewN' (q4.alloc q4.size _) _⟩
              have h := (HB4.out.drop (k := x.bytes.length) t3)
              rw [HD.out, Nat.mul_one, HL.out] at h
              exact (h.alloc _).drewN _
            case measure => simp [RowKit.intOf]; omega
          · have hE0 : E = [] := by rw [hE, List.drop_eq_nil_of_le (by omega)]; rfl
            subst hE0
            have HV := Lib.hid (fun w => value_read (.slice none 0 0) [] w (.inl ⟨rfl, .inl rfl⟩) (by simp))
            clear hE hb2
            go_wp2_with fail
            refine (HV.out _).mono ?_
            rintro e w4 ⟨rfl, hb4⟩
            have q4 := hB2.trans (hb4.mono hB2.size)
            clear hb4
            go_wp2
            go_ret
            exact ⟨rfl, q4.alloc q4.size _⟩
end Go.Proofs.Ytafbphiedaijmaa
