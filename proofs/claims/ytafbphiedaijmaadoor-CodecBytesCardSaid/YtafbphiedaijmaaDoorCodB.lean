/- codec: two, Encode, Key. -/
import Derived.Test.YtafbphiedaijmaaDoorCodA
import Derived.Deep.RegionHeld3
import Derived.Deep.DrawnRows
namespace Go.Proofs.YtafbphiedaijmaaDoor
open Go.RowKit Go.Lib
attribute [local go_sem ↓] Go.wp_at_zero Go.wp_at_succ

/-- What was appended to a slice of the caller's own. -/
def AppU (B : Nat) (w : World) (v : Value) (l : List UInt8) (e : Ending) (w' : World) : Prop := ∃ v', e = .returned v' ∧ OwnU B w' v' l ∧ w.grownBy w' v.ownBlock

set_option maxRecDepth 100000 in
set_option maxHeartbeats 1000000 in
theorem codec_two (B : Nat) (v : Value) (l : List UInt8) (p : Int) (w : World) (h1 : -1000 ≤ p) (h2 : p ≤ 1000) (hO : OwnU B w v l) (hB : B ≤ w.heap.size) (hl : l.length ≤ 100000) :
    Calls Tryd.prog 21 #[v, .int .i64 p] w (AppU B w v (l ++ twoL p)) := by
  obtain ⟨i0, hi, hz0, hz1, hz2⟩ := info_parts infoByte
  obtain ⟨A, c, rfl⟩ := hO.slice
  obtain ⟨n, rfl⟩ : ∃ n : Nat, p = (n : Int) - 1000 := ⟨(p + 1000).toNat, by omega⟩
  have hn : n ≤ 2000 := by omega
  have HT : Hid (twoL ((n : Int) - 1000) = [UInt8.ofNat (n / 256), UInt8.ofNat (n % 256)]) := Lib.hid (by unfold twoL; rw [show ((n : Int) - 1000 + 1000).toNat = n by omega])
  have hgA := fun o : Obj => World.grownBy_alloc w o (Value.slice A l.length c).ownBlock
  have HO := Lib.hid hO
  clear hO
  go_enter Tryd.func21, Tryd.ntmps21
  have HX := Lib.hid (Sl.new w 5 [UInt8.ofNat (n / 256), UInt8.ofNat (n % 256)] u8E_length #[.int .u8 ((UInt8.ofNat (n / 256)).toNat : Int), .int .u8 ((UInt8.ofNat (n % 256)).toNat : Int)] rfl 2 rfl)
  rw [show ((UInt8.ofNat (n / 256)).toNat : Int) = (n : Int) / 256 by simp; omega, show ((UInt8.ofNat (n % 256)).toNat : Int) = (n : Int) % 256 by simp] at HX
  go_wp2_with (at_builtin; refine wpList_app _ rfl _ _ 27 (by rfl) B 5 i0 (.int .u8 0) 1 1 u8E Tryd.underlying27 hi hz0 hz1 hz2 rfl (by decide) u8E_length u8E_one _ _ _ [UInt8.ofNat (n / 256), UInt8.ofNat (n % 256)] (by rfl) (HO.out.alloc _) (by rfl) HX.out (by unfold maxLen; simp; omega) (by simp; omega) (by simp; omega) ?_)
  intro v' w' hO' hg' _
  have hgt := (hgA _).trans hg'
  clear hg' hgA
  go_wp2
  go_ret
  exact ⟨v', rfl, by rw [HT.out]; exact hO', hgt⟩

theorem twoL_length (p : Int) : (twoL p).length = 2 := rfl
theorem Blk.cell_ (w : World) {g : Nat} {t : TypeId} {cs : Array Value} (h : Blk w g t cs) {i : Nat} {u : Value} (hu : cs[i]? = some u) : w.cell? ⟨g, i, none⟩ = some u := (h.cell i).trans hu

set_option maxRecDepth 100000 in
set_option maxHeartbeats 8000000 in
theorem codec_encode (r : Rw) (v : Value) (w : World) (hr : r.ok) (hS : Sl 3 Vl.enc w v r.l) (hl : r.l.length ≤ 9223372036854775807) (hb : r.b = true) :
    Calls Tryd.prog 6 #[.agg #[v, .int .i64 r.f, .int .i64 r.t]] w fun e w' => (∃ v', e = .returned (.tuple #[v', .int .i64 0]) ∧ OwnU w.heap.size w' v' r.bytes) ∧ Below w.heap.size w w' := by
  obtain ⟨i0, hi, hz0, hz1, hz2⟩ := info_parts infoByte
  obtain ⟨⟨_, hl4⟩, hbl, hsp⟩ := Rw.b_iff.1 hb
  have HRt := Lib.hid (fun w h => codec_right r v w h hl)
  rw [hb] at HRt
  have HBY : Hid (r.bytes = r.l.flatMap Vl.bytes ++ [0] ++ twoL r.f ++ twoL r.t) := Lib.hid rfl
  obtain ⟨hok, _, _⟩ := hr
  obtain ⟨l, f, t⟩ := r
  dsimp only at *
  obtain ⟨s1, s2, s3⟩ := spanB_iff.1 hsp
  generalize Rw.bytes ⟨l, f, t⟩ = BY at *
  obtain ⟨A, c, rfl⟩ := hS.slice
  have HS := Lib.hid hS
  have HOK := Lib.hid hok
  have HBL := Lib.hid hbl
  clear hS hok hbl hb hsp
  have hb0 : ∀ o, Below w.heap.size w (w.alloc o) := fun o => (Below.refl _ _).alloc (Nat.le_refl _) o
  obtain ⟨W0, hW0⟩ : ∃ W0, W0 = w.alloc (.cells #[.slice A l.length c, .int .i64 f, .int .i64 t] 26) := ⟨_, rfl⟩
  have q0 : Below w.heap.size w W0 := by rw [hW0]; exact hb0 _
  have hB0 : Blk W0 w.heap.size 26 #[.slice A l.length c, .int .i64 f, .int .i64 t] := by rw [hW0]; exact Blk.new _ _ _
  have HW0 := Lib.hid hW0
  have HB0 := Lib.hid hB0
  clear hW0 hB0 hb0
  go_enter Tryd.func6, Tryd.ntmps6
  go_wp2_with fail
  rw [← HW0.out]
  refine (HRt.out _ (HS.out.below q0)).mono ?_
  rintro e w1 ⟨rfl, hb1⟩
  have hB1 := HB0.out.below hb1 HB0.out.lt
  have q1 := keepS' q0 hb1
  have x := hB1.cell
  clear hb1 HW0 HB0 q0
  go_wp2_with fail
  clear x
  go_loopw [4, 15] (fun b i wr => ∃ (k : Nat) (D : List UInt8), i = .int .i64 k ∧ k ≤ l.length ∧ OwnU w.heap.size wr b D ∧ Below w.heap.size w wr ∧ Blk wr w.heap.size 26 #[.slice A l.length c, .int .i64 f, .int .i64 t] ∧ D.length ≤ 34 * k ∧ Hid (D = (l.take k).flatMap Vl.bytes)) (fun _ i _ => l.length - (RowKit.intOf i).toNat)
  case atStart => exact ⟨0, [], rfl, by omega, Own.nil _ _ _ _ _, q1, hB1, by simp, Lib.hid (by simp)⟩
  case round =>
    obtain ⟨k, D, rfl, hk, hO, hB, hBk, hD, HD⟩ := hrel
    obtain ⟨Ab, cb, rfl⟩ := hO.slice
    by_cases hkl : k < l.length
    · obtain ⟨x, hx⟩ : ∃ x, l[k]? = some x := ⟨_, List.getElem?_eq_getElem hkl⟩
      have hkI : (k : Int) < (l.length : Int) := by omega
      obtain ⟨g, o, rfl, hg, hc⟩ := (HS.out.below hB).at_ hx
      have c0 := hc 0 _ rfl
      have c1 := hc 1 _ rfl
      have c2 := hc 2 _ rfl
      rw [Nat.add_zero] at c0
      have hxm := List.mem_of_getElem? hx
      have hxb := HBL.out x hxm
      have hbs := bytes_short hxb
      have HV := Lib.hid (fun w => value_bytes_v x w (HOK.out x hxm) hxb)
      have h2 := hB.alloc hB.size (.cells #[.int .u8 x.k, .int .i64 x.n, .string x.s] 43)
      have hBk2 := hBk.alloc (.cells #[.int .u8 x.k, .int .i64 x.n, .string x.s] 43)
      have hO2 := hO.alloc (.cells #[.int .u8 x.k, .int .i64 x.n, .string x.s] 43)
      have hlt := hBk.lt
      have HD2 : Hid (D ++ x.bytes = (l.take (k + 1)).flatMap Vl.bytes) := Lib.hid (by
        obtain ⟨h, e⟩ := List.getElem?_eq_some_iff.1 hx
        rw [List.take_succ_eq_append_getElem h, List.flatMap_append, ← HD.out, e]
        simp)
      have HO2 := Lib.hid hO2
      have HBk2 := Lib.hid hBk2
      clear hx hc hxm hO hO2 hBk hBk2 HD
      go_wp2_with fail
      refine (HV.out _).mono ?_
      rintro e w2 ⟨⟨vx, rfl, hvx⟩, hb2⟩
      obtain ⟨Ax, cx, rfl⟩ := hvx.slice
      have q2 := keepS' h2 hb2
      have HBk3 := Lib.hid (HBk2.out.below hb2 (by simp; omega))
      have HO3 := Lib.hid (HO2.out.below hb2)
      have HX := Lib.hid (hvx.sl u8E_length)
      clear hb2 h2 HBk2 HO2 hvx c0 c1 c2 HV
      go_wp2_with (at_builtin; refine wpList_app _ rfl _ _ 27 (by rfl) w.heap.size 5 i0 (.int .u8 0) 1 1 u8E Tryd.underlying27 hi hz0 hz1 hz2 rfl (by decide) u8E_length u8E_one _ _ _ _ (by rfl) HO3.out (by rfl) HX.out (by unfold maxLen; omega) (by omega) q2.size ?_)
      intro v3 w3 hO4 hg3 _
      have q3 := HO3.out.grow q2 hg3
      have HBk4 := Lib.hid (HBk3.out.grown hg3 (HO3.out.apart HBk3.out (fun cur h => by injection h with _ h; exact absurd h (by decide))))
      have hDl : (D ++ x.bytes).length ≤ 34 * (k + 1) := by rw [List.length_append]; omega
      generalize D ++ x.bytes = D2 at *
      have HO4 := Lib.hid hO4
      clear hO4 hg3 HO3 HBk3 HX
      go_wp2
      go_roundw
      case rel => exact ⟨k + 1, D2, by go_num, by omega, HO4.out, q3, HBk4.out, hDl, HD2⟩
      case measure => simp [RowKit.intOf]; omega
    · have HDE : Hid (BY = D ++ [0] ++ twoL f ++ twoL t) := Lib.hid (by
        have h := HD.out
        rw [List.take_of_length_le (by omega)] at h
        rw [HBY.out, h])
      have hD136 : D.length ≤ 136 := by omega
      have HO := Lib.hid (hO.alloc (.cells #[.int .u8 0] 5))
      have HBk := Lib.hid (hBk.alloc (.cells #[.int .u8 0] 5))
      have HX := Lib.hid (Sl.new wr 5 [(0 : UInt8)] u8E_length #[.int .u8 0] rfl 1 rfl)
      have q2 := hB.alloc hB.size (.cells #[.int .u8 0] 5)
      clear hO hBk HD HBY
      go_wp2_with (at_builtin; refine wpList_app _ rfl _ _ 27 (by rfl) w.heap.size 5 i0 (.int .u8 0) 1 1 u8E Tryd.underlying27 hi hz0 hz1 hz2 rfl (by decide) u8E_length u8E_one _ _ _ _ (by rfl) HO.out (by rfl) HX.out (by unfold maxLen; simp; omega) (by simp; omega) q2.size ?_)
      intro v3 w3 hO4 hg3 _
      have q3 := HO.out.grow q2 hg3
      have hBk4 := HBk.out.grown hg3 (HO.out.apart HBk.out (fun cur h => by injection h with _ h; exact absurd h (by decide)))
      have hDl : (D ++ [0]).length ≤ 137 := by rw [List.length_append]; simp; omega
      generalize D ++ [0] = D2 at *
      have HO4 := Lib.hid hO4
      clear hO4 hg3 HO HBk HX
      have z1 := hBk4.cell_ _ (i := 1) rfl
      have z2 := hBk4.cell_ _ (i := 2) rfl
      have HBk4 := Lib.hid hBk4
      clear hBk4
      go_wp2_with fail
      go_region_held3 (fun w' => w'.cell? ⟨w.heap.size, 1, none⟩ = some (.int .i64 f) ∧ w'.cell? ⟨w.heap.size, 2, none⟩ = some (.int .i64 t))
        (first
          | go_keep
          | (go_split_ands
             refine ⟨?_, ?_⟩
             · exact (hB5.cell_ _ (i := 1) rfl)
             · exact (hB5.cell_ _ (i := 2) rfl)))
        ((go_at_call 21; refine (codec_two w.heap.size _ _ _ _ (by omega) (by omega) (by first | exact HO4.out | exact hO6) (by first | exact q6.size | exact q3.size) (by first | (simp [twoL_length]; omega) | omega)).mono ?_; rintro e w6' ⟨v6, rfl, hO6', hg6⟩; have q6' := (by first | exact hO6.grow q6 hg6 | exact HO4.out.drew.grow q3.drew hg6 : Below w.heap.size w w6'); have hB5' := (by first | exact hB5.grown hg6 (hO6.apart hB5 (fun cur h => by injection h with _ h; exact absurd h (by decide))) | exact HBk4.out.drew.grown hg6 (HO4.out.drew.apart HBk4.out.drew (fun cur h => by injection h with _ h; exact absurd h (by decide))) : Blk w6' w.heap.size 26 #[.slice A l.length c, .int .i64 f, .int .i64 t]); clear hg6; obtain ⟨w6, rfl⟩ : ∃ w6, w6 = w6' := ⟨_, rfl⟩; have hO6 := hO6'; have q6 := q6'; have hB5 := hB5'; clear hO6' q6' hB5'))
      go_wp2
      refine bodyPost_ret (v := .tuple #[_, .int .i64 0]) (by simp [results, Tryd.results6]; rfl) rfl ?_
      exact ⟨⟨v6, rfl, by rw [HDE.out]; exact hO6⟩, q6⟩

set_option maxRecDepth 100000 in
set_option maxHeartbeats 1000000 in
theorem codec_encode_no (r : Rw) (v : Value) (w : World) (hS : Sl 3 Vl.enc w v r.l) (hl : r.l.length ≤ 9223372036854775807) (hb : r.b = false) :
    Calls Tryd.prog 6 #[.agg #[v, .int .i64 r.f, .int .i64 r.t]] w fun e w' => e = .returned (.tuple #[.slice none 0 0, .int .i64 3]) ∧ Below w.heap.size w w' := by
  have HRt := Lib.hid (fun w h => codec_right r v w h hl)
  rw [hb] at HRt
  obtain ⟨l, f, t⟩ := r
  dsimp only at *
  obtain ⟨A, c, rfl⟩ := hS.slice
  have HS := Lib.hid hS
  clear hS hb
  have hb0 : ∀ o, Below w.heap.size w (w.alloc o) := fun o => (Below.refl _ _).alloc (Nat.le_refl _) o
  have HB0 := Lib.hid hb0
  clear hb0
  go_enter Tryd.func6, Tryd.ntmps6
  go_wp2_with fail
  refine (HRt.out _ (HS.out.alloc _)).mono ?_
  rintro e w1 ⟨rfl, hb1⟩
  have q1 := keepS' (HB0.out _) hb1
  go_wp2
  go_ret2
  exact ⟨rfl, q1⟩

theorem value_bytes_none (x : Vl) (w : World) (hv : x.b = false) :
    Calls Tryd.prog 20 #[.agg #[.int .u8 x.k, .int .i64 x.n, .string x.s]] w fun e w' => (∃ v, e = .returned (.tuple #[v, .int .i64 3]) ∧ OwnU w.heap.size w' v []) ∧ Below w.heap.size w w' :=
  (value_bytes_no x.k x.n x.s w hv).mono fun _ _ ⟨h1, h2⟩ => ⟨⟨_, h1, Own.nil _ _ _ _ _⟩, h2⟩

set_option maxRecDepth 100000 in
set_option maxHeartbeats 2000000 in
theorem codec_key (r : Rw) (v : Value) (w : World) (hr : r.ok) (hS : Sl 3 Vl.enc w v r.l) (hl : r.l.length ≤ 9223372036854775807) :
    Calls Tryd.prog 18 #[.agg #[v, .int .i64 r.f, .int .i64 r.t]] w fun e w' => e = .returned (.string ⟨r.key.toArray⟩) ∧ Below w.heap.size w w' := by
  obtain ⟨l, f, t⟩ := r
  obtain ⟨hok, _, _⟩ := hr
  dsimp only at *
  obtain ⟨KE, hKE⟩ : ∃ K, K = Rw.key ⟨l, f, t⟩ := ⟨_, rfl⟩
  rw [← hKE]
  obtain ⟨A, c, rfl⟩ := hS.slice
  have HS := Lib.hid hS
  clear hS
  have hb0 : ∀ o, Below w.heap.size w (w.alloc o) := fun o => (Below.refl _ _).alloc (Nat.le_refl _) o
  cases l with
  | nil =>
    have HK : Hid (KE = []) := Lib.hid hKE
    have h0 : (((([] : List Vl).length : Nat) : Int) == 0) = true := rfl
    clear hKE
    go_enter Tryd.func18, Tryd.ntmps18
    go_wp2
    go_ret
    exact ⟨by rw [HK.out]; rfl, hb0 _⟩
  | cons x rest =>
    obtain ⟨n, hn⟩ : ∃ n, n = (x :: rest).length := ⟨_, rfl⟩
    have hn1 : 1 ≤ n := by rw [hn]; simp
    rw [← hn] at hl
    have h0 : ((n : Int) == 0) = false := by simp; omega
    have hnI : (0 : Int) < (n : Int) := by omega
    obtain ⟨g, o, rfl, hg, hc⟩ := HS.out.at_ (k := 0) (x := x) rfl
    have c0 := hc 0 _ rfl
    have c1 := hc 1 _ rfl
    have c2 := hc 2 _ rfl
    simp only [Nat.zero_mul, Nat.add_zero] at c0 c1 c2
    have q0 := hb0 (.cells #[.slice (some ⟨g, o, none⟩) n c, .int .i64 f, .int .i64 t] 26)
    have hxo := hok x (List.mem_cons_self ..)
    clear hc hok
    rw [← hn] at HS ⊢
    cases hx : x.b with
    | true =>
      have HK : Hid (KE = x.bytes) := Lib.hid (by rw [hKE]; unfold Rw.key; dsimp only; rw [if_pos hx])
      clear hKE hn
      go_enter Tryd.func18, Tryd.ntmps18
      go_wp2_with fail
      refine (value_bytes_v x _ hxo hx).mono ?_
      rintro e w2 ⟨⟨vx, rfl, hvx⟩, hb2⟩
      have hcv := conv_own hvx.b
      have q2 := keepS' q0 hb2
      go_wp2
      go_ret
      exact ⟨by rw [HK.out]; rfl, q2⟩
    | false =>
      have HK : Hid (KE = []) := Lib.hid (by rw [hKE]; unfold Rw.key; dsimp only; rw [if_neg (by rw [hx]; decide)])
      clear hKE hn
      go_enter Tryd.func18, Tryd.ntmps18
      go_wp2_with fail
      refine (value_bytes_none x _ hx).mono ?_
      rintro e w2 ⟨⟨vx, rfl, hvx⟩, hb2⟩
      have hcv := conv_own hvx.b
      have q2 := keepS' q0 hb2
      go_wp2
      go_ret
      exact ⟨by rw [HK.out]; rfl, q2⟩
end Go.Proofs.YtafbphiedaijmaaDoor
