/- codec: Right, two, Encode, Key. -/
import Derived.Test.YtafbphiedaijmaaDoorCodS
import Derived.Test.YtafbphiedaijmaaDoorBlk
import Derived.Deep.QuietTactic
import Derived.BigQuiet
namespace Go.Proofs.YtafbphiedaijmaaDoor
open Go.RowKit Go.Lib

set_option maxHeartbeats 1000000 in
theorem span_right (f t : Int) (w : World) :
    Calls Tryd.prog 28 #[.agg #[.int .i64 f, .int .i64 t]] w fun e w' => e = .returned (.bool (spanB f t)) ∧ Below w.heap.size w w' := by
  have hb0 : ∀ o, Below w.heap.size w (w.alloc o) := fun o => (Below.refl _ _).alloc (Nat.le_refl _) o
  obtain ⟨R, hR⟩ : ∃ R, R = spanB f t := ⟨_, rfl⟩
  rw [← hR]
  unfold spanB at hR
  by_cases h1 : -1000 ≤ f
  · by_cases h2 : f < t
    · by_cases h3 : t ≤ 1000
      · have HR : Hid (R = true) := Lib.hid (by rw [hR]; simp [h1, h2, h3])
        clear hR
        go_enter Tryd.func28, Tryd.ntmps28
        go_wp2
        go_ret
        exact ⟨by rw [HR.out]; rfl, hb0 _⟩
      · have HR : Hid (R = false) := Lib.hid (by rw [hR]; simp [h3])
        have h3' : decide (t ≤ 1000) = false := by simpa using h3
        clear hR h3
        go_enter Tryd.func28, Tryd.ntmps28
        go_wp2
        go_ret
        exact ⟨by rw [HR.out]; rfl, hb0 _⟩
    · have HR : Hid (R = false) := Lib.hid (by rw [hR]; simp [h2])
      have h2' : decide (f < t) = false := by simpa using h2
      clear hR h2
      go_enter Tryd.func28, Tryd.ntmps28
      go_wp2
      go_ret
      exact ⟨by rw [HR.out]; rfl, hb0 _⟩
  · have HR : Hid (R = false) := Lib.hid (by rw [hR]; simp [h1])
    have h1' : decide (-1000 ≤ f) = false := by simpa using h1
    clear hR h1
    go_enter Tryd.func28, Tryd.ntmps28
    go_wp2
    go_ret
    exact ⟨by rw [HR.out]; rfl, hb0 _⟩

set_option maxRecDepth 100000 in
set_option maxHeartbeats 4000000 in
theorem codec_right (r : Rw) (v : Value) (w : World) (hS : Sl 3 Vl.enc w v r.l) (hl : r.l.length ≤ 9223372036854775807) :
    Calls Tryd.prog 12 #[.agg #[v, .int .i64 r.f, .int .i64 r.t]] w fun e w' => e = .returned (.bool r.b) ∧ Below w.heap.size w w' := by
  obtain ⟨l, f, t⟩ := r
  dsimp only at hS hl ⊢
  obtain ⟨R, hR⟩ : ∃ R, R = Rw.b ⟨l, f, t⟩ := ⟨_, rfl⟩
  rw [← hR]
  unfold Rw.b at hR
  dsimp only at hR
  obtain ⟨A, c, rfl⟩ := hS.slice
  have HS := Lib.hid hS
  clear hS
  have hb0 : ∀ o, Below w.heap.size w (w.alloc o) := fun o => (Below.refl _ _).alloc (Nat.le_refl _) o
  by_cases h0 : l.length = 0
  · have HR : Hid (R = false) := Lib.hid (by rw [hR]; simp [h0])
    have h0' : ((l.length : Int) == 0) = true := by simp [h0]
    clear hR h0
    go_enter Tryd.func12, Tryd.ntmps12
    go_wp2
    go_ret
    exact ⟨by rw [HR.out]; rfl, hb0 _⟩
  · have h0' : ((l.length : Int) == 0) = false := by simpa using h0
    by_cases h4 : l.length ≤ 4
    · have h4' : ¬ (4 : Int) < (l.length : Int) := by omega
      have HR : Hid (R = (l.all Vl.b && spanB f t)) := Lib.hid (by rw [hR, show decide (1 ≤ l.length) = true by simp; omega, show decide (l.length ≤ 4) = true by simpa using h4]; rfl)
      clear hR h0
      go_enter Tryd.func12, Tryd.ntmps12
      go_wp2
      obtain ⟨W0, hW0⟩ : ∃ W0, W0 = w.alloc (.cells #[.slice A l.length c, .int .i64 f, .int .i64 t] 26) := ⟨_, rfl⟩
      rw [← hW0]
      have q0 : Below w.heap.size w W0 := by rw [hW0]; exact hb0 _
      have hB0 : Blk W0 w.heap.size 26 #[.slice A l.length c, .int .i64 f, .int .i64 t] := by rw [hW0]; exact Blk.new _ _ _
      clear hW0
      go_loopw [18] (fun i wr => ∃ k : Nat, i = .int .i64 k ∧ k ≤ l.length ∧ Below w.heap.size w wr ∧ Blk wr w.heap.size 26 #[.slice A l.length c, .int .i64 f, .int .i64 t] ∧ Hid ((l.take k).all Vl.b = true)) (fun i _ => l.length - (RowKit.intOf i).toNat)
      case atStart => exact ⟨0, rfl, by omega, q0, hB0, Lib.hid (by simp)⟩
      case round =>
        obtain ⟨k, rfl, hk, hB, hBk, HA⟩ := hrel
        by_cases hkl : k < l.length
        · obtain ⟨x, hx⟩ : ∃ x, l[k]? = some x := ⟨_, List.getElem?_eq_getElem hkl⟩
          have hkI : (k : Int) < (l.length : Int) := by omega
          obtain ⟨g, o, rfl, hg, hc⟩ := (HS.out.below hB).at_ hx
          have c0 := hc 0 _ rfl
          have c1 := hc 1 _ rfl
          have c2 := hc 2 _ rfl
          rw [Nat.add_zero] at c0
          have HX := Lib.hid hx
          have HV := Lib.hid (fun w => value_right x.k x.n x.s w)
          obtain ⟨bx, hbx⟩ : ∃ bx, bx = x.b := ⟨_, rfl⟩
          have hbx' : valB x.k x.n x.s = bx := hbx.symm
          rw [hbx'] at HV
          have HBX := Lib.hid hbx
          have h2 := hB.alloc hB.size (.cells #[.int .u8 x.k, .int .i64 x.n, .string x.s] 43)
          have hBk2 := hBk.alloc (.cells #[.int .u8 x.k, .int .i64 x.n, .string x.s] 43)
          have hlt := hBk.lt
          clear hx hc hbx hbx'
          cases bx with
          | true =>
            have HA2 : Hid ((l.take (k + 1)).all Vl.b = true) := Lib.hid (by
              obtain ⟨h, e⟩ := List.getElem?_eq_some_iff.1 HX.out
              rw [List.take_succ_eq_append_getElem h, List.all_append, HA.out, e]
              simp [← HBX.out])
            go_wp2_with fail
            refine (HV.out _).mono ?_
            rintro e w2 ⟨rfl, hb2⟩
            have q2 := keepS' h2 hb2
            have hBk3 := hBk2.below hb2 (by simp; omega)
            clear hb2 hBk2 h2 hBk
            go_wp2
            go_roundw
            case rel => exact ⟨k + 1, by go_num, by omega, q2, hBk3, HA2⟩
            case measure => simp [RowKit.intOf]; omega
          | false =>
            have HF : Hid (R = false) := Lib.hid (by
              rw [HR.out]
              have : l.all Vl.b = false := by
                rw [List.all_eq_false]
                exact ⟨x, List.mem_of_getElem? HX.out, by rw [← HBX.out]; decide⟩
              rw [this]; rfl)
            go_wp2_with fail
            refine (HV.out _).mono ?_
            rintro e w2 ⟨rfl, hb2⟩
            have q2 := keepS' h2 hb2
            go_wp2
            go_ret
            exact ⟨by rw [HF.out]; rfl, q2⟩
        · have HF : Hid (R = spanB f t) := Lib.hid (by
            have h := HA.out
            rw [List.take_of_length_le (by omega)] at h
            rw [HR.out, h]; rfl)
          have x := hBk.cell
          have HSP := Lib.hid (fun w => span_right f t w)
          go_wp2_with fail
          refine (HSP.out _).mono ?_
          rintro e w2 ⟨rfl, hb2⟩
          have q2 := keepS' hB hb2
          go_wp2
          go_ret
          exact ⟨by rw [HF.out]; rfl, q2⟩
    · have HR : Hid (R = false) := Lib.hid (by rw [hR]; simp [h4])
      have h4' : decide ((4 : Int) < (l.length : Int)) = true := by simp; omega
      clear hR h4 h0
      go_enter Tryd.func12, Tryd.ntmps12
      go_wp2
      go_ret
      exact ⟨by rw [HR.out]; rfl, hb0 _⟩
end Go.Proofs.YtafbphiedaijmaaDoor
