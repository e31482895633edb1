/- codec's reader reads a row; codec.Decode. -/
import Derived.Test.YtafbphiedaijmaaDoorCodD
import Derived.Deep.RegionLaw
import Derived.Deep.LoopGhost
namespace Go.Proofs.YtafbphiedaijmaaDoor
open Go.RowKit Go.Lib
attribute [local go_sem ↓] Go.wp_at_zero Go.wp_at_succ

/-- How many bytes a reader has left. -/
def leftAt (w : World) (g : Nat) : Nat := match w.cell? ⟨g, 0, none⟩ with
  | some (.slice _ n _) => n
  | _ => 0
theorem Rd.left {b : Nat} {w : World} {g : Nat} {l : List UInt8} (h : Rd b w g l) : leftAt w g = l.length := by
  obtain ⟨A, n, c, h1, h2, _⟩ := h
  unfold leftAt
  rw [h1.cell_ _ (i := 0) rfl]
  exact h2.len.1
/-- What reading a row comes to. -/
def RowPost (g : Nat) (l : List UInt8) (w : World) (e : Ending) (w' : World) : Prop :=
  w.grownBy w' (some g) ∧ ((∃ r v, IsRow l r ∧ e = .returned (.agg #[v, .int .i64 r.f, .int .i64 r.t]) ∧ Own w.heap.size 43 3 Vl.enc w' v r.l) ∨ ((∀ r, ¬ IsRow l r) ∧ e = .panicked torn))

theorem infoVal' : (Tryd.prog.info? 43).map (fun i => (i.zero, i.size, i.bytes)) = some (some (.agg #[.int .u8 0, .int .i64 0, .string ⟨#[]⟩]), 3, 32) := by kernel_rfl

set_option maxRecDepth 100000 in
set_option maxHeartbeats 8000000 in
theorem reader_row (g : Nat) (l : List UInt8) {bb : Nat} (w : World) (h : Rd bb w g l) (hbw : bb ≤ w.heap.size) (hl : l.length ≤ 4398046511104) :
    Calls Tryd.prog 25 #[.pointer (some ⟨g, 0, none⟩)] w (RowPost g l w) := by
  obtain ⟨j0, hj, hy0, hy1, hy2⟩ := info_parts infoVal'
  have hgl := h.lt
  obtain ⟨W0, hW0⟩ : ∃ W0, W0 = (w.alloc (.cells #[.slice none 0 0, .int .i64 0, .int .i64 0] 26)).alloc (.cells #[.slice none 0 0, .int .i64 0, .int .i64 0] 26) := ⟨_, rfl⟩
  have q0 : Below w.heap.size w W0 := by rw [hW0]; exact ((Below.refl _ _).alloc (Nat.le_refl _) _).alloc (by simp) _
  have b1 : Blk W0 w.heap.size 26 #[.slice none 0 0, .int .i64 0, .int .i64 0] := by rw [hW0]; exact (Blk.new _ _ _).alloc _
  have b2 : Blk W0 (w.heap.size + 1) 26 #[.slice none 0 0, .int .i64 0, .int .i64 0] := by
    rw [hW0]
    have := Blk.new (w.alloc (.cells #[.slice none 0 0, .int .i64 0, .int .i64 0] 26)) 26 #[.slice none 0 0, .int .i64 0, .int .i64 0]
    simpa using this
  have r0 := h.below q0
  have HW0 := Lib.hid hW0
  clear hW0 h
  go_enter Tryd.func25, Tryd.ntmps25
  go_wp2
  rw [← HW0.out]
  go_loopw [] (fun wr => ∃ (acc : List Vl) (L : List UInt8) (v : Value), Rd bb wr g L ∧ Blk wr (w.heap.size + 1) 26 #[v, .int .i64 0, .int .i64 0] ∧ Blk wr w.heap.size 26 #[.slice none 0 0, .int .i64 0, .int .i64 0] ∧
      Own w.heap.size 43 3 Vl.enc wr v acc ∧ w.grownBy wr (some g) ∧ Inv l acc L ∧ acc.length * 2 + L.length ≤ l.length) (fun wr => leftAt wr g)
  case atStart => exact ⟨[], l, _, r0, b2, b1, Own.nil _ _ _ _ _, gr_of q0 _, Inv.start l, by simp⟩
  case round =>
    obtain ⟨acc, L, v, hR, hB, hT, hO, hG, hI, hn⟩ := hrel
    have HR := Lib.hid hR
    have HB := Lib.hid hB
    have HT := Lib.hid hT
    have HO := Lib.hid hO
    have HI := Lib.hid hI
    have HL := Lib.hid hR.left
    have hrl := hR.lt
    have hbl := hB.lt
    clear hR hB hT hO hI b1 b2 r0
    cases L with
    | nil =>
      go_wp2_with fail
      refine (reader_next_no g _ HR.out).mono ?_
      rintro e w' ⟨rfl, rfl⟩
      exact ⟨rfl, hG, .inr ⟨HI.out.none_, rfl⟩⟩
    | cons b L =>
      simp only [List.length_cons] at hn
      go_wp2_with fail
      refine (reader_next g b L _ HR.out (by omega)).mono ?_
      rintro e w' ⟨rfl, rfl⟩
      by_cases hb : b = 0
      · subst hb
        have hb' : ((((0 : UInt8).toNat : Nat) : Int) != 0) = false := rfl
        obtain ⟨A, n, c, hrb, hrs, hrd⟩ := HR.out
        have hnl := hrs.len
        simp only [List.length_cons] at hnl
        have hcut := Rd.cut hrb hrs hrd (k := 1) (by omega)
        obtain ⟨g0, o0, rfl, _, _⟩ := hrs.at_ (k := 0) (x := 0) rfl
        have x0 := hrb.cell_ _ (i := 0) rfl
        have xf := hrb.frozen
        have hn1 : (1 : Int) ≤ (n : Int) := by omega
        have hnc := hnl.2
        have hnn : n ≤ 4398046511104 := by omega
        have hog : v.ownBlock ≠ some g := fun e => HO.out.apart hrb (fun cur h => by injection h with _ h; exact absurd h (by decide)) e.symm
        by_cases hc1 : c = 1
        · subst hc1
          obtain rfl : n = 1 := by omega
          have hL0 : L = [] := List.eq_nil_of_length_eq_zero (by omega)
          subst hL0
          have HC := Lib.hid hcut
          have hgs := gr_set hG (p := ⟨g, 0, none⟩) (.inl rfl) (Value.slice (some ⟨g0, o0, none⟩) 0 0)
          clear hcut hrb hrs hrd hnl HR
          go_wp2_with fail
          refine (reader_point_no g [] _ HC.out (by simp)).mono ?_
          rintro e w' ⟨rfl, rfl⟩
          exact ⟨rfl, hgs, .inr ⟨HI.out.short (by simp), rfl⟩⟩
        · rw [if_neg hc1, Option.map_some, plain_add] at hcut
          have HC := Lib.hid hcut
          have hgs := gr_set hG (p := ⟨g, 0, none⟩) (.inl rfl) (Value.slice (some ⟨g0, o0 + 1, none⟩) (n - 1) (c - 1))
          have hB1 := HB.out.far (p := ⟨g, 0, none⟩) (by simp; omega) (Value.slice (some ⟨g0, o0 + 1, none⟩) (n - 1) (c - 1))
          have hT1 := HT.out.far (p := ⟨g, 0, none⟩) (by simp; omega) (Value.slice (some ⟨g0, o0 + 1, none⟩) (n - 1) (c - 1))
          have hO1 := HO.out.far (p := ⟨g, 0, none⟩) hog (Value.slice (some ⟨g0, o0 + 1, none⟩) (n - 1) (c - 1))
          have hLn : L.length + 1 = n := by omega
          have HLN := Lib.hid hLn
          have hLs : L.length ≤ 4398046511104 := by omega
          have HO1 := Lib.hid hO1
          have HT1 := Lib.hid hT1
          have HB1 := Lib.hid hB1
          clear hcut hrb hrs hrd hnl HR hLn hO1 hT1 hB1 HB HT HO
          match L, HC, HI, HL, hLs with
          | [], HC, HI, _, _ =>
            go_wp2_with fail
            refine (reader_point_no g [] _ HC.out (by simp)).mono ?_
            rintro e w' ⟨rfl, rfl⟩
            exact ⟨rfl, hgs, .inr ⟨HI.out.short (by simp), rfl⟩⟩
          | [_], HC, HI, _, _ =>
            go_wp2_with fail
            refine (reader_point_no g _ _ HC.out (by simp)).mono ?_
            rintro e w' ⟨rfl, rfl⟩
            exact ⟨rfl, hgs, .inr ⟨HI.out.short (by simp), rfl⟩⟩
          | a :: b :: L, HC, HI, _, hLs =>
            simp only [List.length_cons] at hLs
            obtain ⟨Av, cv, rfl⟩ := HO1.out.slice
            obtain ⟨P, hP⟩ : ∃ P, P = pointN a b := ⟨_, rfl⟩
            go_wp2_with fail
            refine (reader_point g a b L _ HC.out (by omega)).mono ?_
            rintro e w2 ⟨rfl, hR2, hg2⟩
            rw [← hP]
            have HP := Lib.hid hP
            have hB2 := HB1.out.grown hg2 (by simp; omega)
            have hT2 := HT1.out.grown hg2 (by simp; omega)
            have hO2 := HO1.out.kept hg2 (.inr hog)
            have hG2 := gr_grown hgs hg2 (fun k e => .inl (Option.some.inj e).symm)
            have hz2 := hG2.size
            have y1 := hB2.cell_ _ (i := 1) rfl
            have yf := hB2.frozen
            have HR3 := Lib.hid (hR2.far (p := ⟨w.heap.size + 1, 1, none⟩) (by simp; omega) (by simp; omega) (.int .i64 P))
            have HB3 := Lib.hid (hB2.set_ 1 (.int .i64 P))
            have HT3 := Lib.hid (hT2.far (p := ⟨w.heap.size + 1, 1, none⟩) (by simp) (.int .i64 P))
            have hob : (Value.slice Av acc.length cv).ownBlock ≠ some (w.heap.size + 1) := fun e => hO2.apart hB2 (fun cur h => by injection h with _ h; exact absurd h (by decide)) e.symm
            have HO3 := Lib.hid (hO2.far (p := ⟨w.heap.size + 1, 1, none⟩) hob (.int .i64 P))
            have hG3 := gr_set hG2 (p := ⟨w.heap.size + 1, 1, none⟩) (.inr (by simp)) (.int .i64 P)
            have HOG := Lib.hid hog
            have HOB := Lib.hid hob
            clear hR2 hg2 hB2 hT2 hO2 hP HC HB1 HT1 HO1 hgs hG2 x0 xf hog hob
            match L, HR3, HI, hLs with
            | [], HR3, HI, _ =>
              go_wp2_with fail
              refine (reader_point_no g _ _ HR3.out (by simp)).mono ?_
              rintro e w' ⟨rfl, rfl⟩
              exact ⟨rfl, hG3, .inr ⟨HI.out.short (by simp), rfl⟩⟩
            | [_], HR3, HI, _ =>
              go_wp2_with fail
              refine (reader_point_no g _ _ HR3.out (by simp)).mono ?_
              rintro e w' ⟨rfl, rfl⟩
              exact ⟨rfl, hG3, .inr ⟨HI.out.short (by simp), rfl⟩⟩
            | c' :: d :: L, HR3, HI, hLs =>
              simp only [List.length_cons] at hLs
              obtain ⟨Q, hQ⟩ : ∃ Q, Q = pointN c' d := ⟨_, rfl⟩
              go_wp2_with fail
              refine (reader_point g c' d L _ HR3.out (by omega)).mono ?_
              rintro e w4 ⟨rfl, hR4, hg4⟩
              rw [← hQ]
              have HQ := Lib.hid hQ
              have hB4 := HB3.out.grown hg4 (by simp; omega)
              have hT4 := HT3.out.grown hg4 (by simp; omega)
              have hO4 := HO3.out.kept hg4 (.inr HOG.out)
              have hG4 := gr_grown hG3 hg4 (fun k e => .inl (Option.some.inj e).symm)
              have hz4 := hG4.size
              obtain ⟨A5, n5, c5, hb5, hs5, _⟩ := hR4
              have x5 := hb5.cell_ _ (i := 0) rfl
              have hn5 := hs5.len.1
              have u0 := hB4.cell_ _ (i := 0) rfl
              have u1 := hB4.cell_ _ (i := 1) rfl
              have u2 := hB4.cell_ _ (i := 2) rfl
              have uf := hB4.frozen
              have HB5 := Lib.hid (hB4.set_ 2 (.int .i64 Q))
              have HT5 := Lib.hid (hT4.far (p := ⟨w.heap.size + 1, 2, none⟩) (by simp) (.int .i64 Q))
              have HO5 := Lib.hid (hO4.far (p := ⟨w.heap.size + 1, 2, none⟩) HOB.out (.int .i64 Q))
              have hG5 := gr_set hG4 (p := ⟨w.heap.size + 1, 2, none⟩) (.inr (by simp)) (.int .i64 Q)
              clear hg4 hB4 hT4 hO4 hQ HR3 HB3 HT3 HO3 hG3 hG4 hb5 hs5 y1 yf
              cases L with
              | cons z L =>
                have hn6 : (0 : Int) < (n5 : Int) := by simp only [List.length_cons] at hn5; omega
                clear hn5
                go_wp2_with fail
                refine (codec_give _).mono ?_
                rintro e w' ⟨rfl, rfl⟩
                exact ⟨rfl, hG5, .inr ⟨HI.out.short (by simp), rfl⟩⟩
              | nil =>
                obtain rfl : n5 = 0 := by simpa using hn5
                clear hn5
                have hrr : Rw.b ⟨acc, pointN a b, pointN c' d⟩ = Rw.b ⟨acc, P, Q⟩ := by rw [HP.out, HQ.out]
                have hal : acc.length ≤ 9223372036854775807 := by omega
                have HRT := Lib.hid (fun w h => codec_right ⟨acc, P, Q⟩ (.slice Av acc.length cv) w h hal)
                cases hrb : Rw.b ⟨acc, P, Q⟩ with
                | false =>
                  rw [hrb] at HRT
                  rw [hrb] at hrr
                  have HRR := Lib.hid hrr
                  clear hrb hrr
                  go_wp2_with fail
                  refine (HRT.out _ (HO5.out.sl Vl.enc_length)).mono ?_
                  rintro e w6 ⟨rfl, hb6⟩
                  go_wp2_with fail
                  refine (codec_give _).mono ?_
                  rintro e w' ⟨rfl, rfl⟩
                  exact ⟨rfl, gr_below hG5 hb6, .inr ⟨HI.out.wrong HRR.out, rfl⟩⟩
                | true =>
                  rw [hrb] at HRT
                  rw [hrb] at hrr
                  have HRR := Lib.hid hrr
                  clear hrb hrr
                  go_wp2_with fail
                  refine (HRT.out _ (HO5.out.sl Vl.enc_length)).mono ?_
                  rintro e w6 ⟨rfl, hb6⟩
                  have hB6 := HB5.out.below hb6 HB5.out.lt
                  have hT6 := HT5.out.below hb6 HT5.out.lt
                  have hO6 := HO5.out.below hb6
                  have hG6 := gr_below hG5 hb6
                  have v0 := hB6.cell_ _ (i := 0) rfl
                  have v1 := hB6.cell_ _ (i := 1) rfl
                  have v2 := hB6.cell_ _ (i := 2) rfl
                  have t0 := hT6.cell_ _ (i := 0) rfl
                  have t1 := hT6.cell_ _ (i := 1) rfl
                  have t2 := hT6.cell_ _ (i := 2) rfl
                  have tf := hT6.frozen
                  have hot : (Value.slice Av acc.length cv).ownBlock ≠ some w.heap.size := fun e => hO6.apart hT6 (fun cur h => by injection h with _ h; exact absurd h (by decide)) e.symm
                  have c3 := ((hT6.set_ 0 (.slice Av acc.length cv)).set_ 1 (.int .i64 P)).set_ 2 (.int .i64 Q)
                  have HF := Lib.hid (gr_set (gr_set (gr_set hG6 (p := ⟨w.heap.size, 0, none⟩) (.inr (Nat.le_refl _)) (.slice Av acc.length cv)) (p := ⟨w.heap.size, 1, none⟩) (.inr (Nat.le_refl _)) (.int .i64 P)) (p := ⟨w.heap.size, 2, none⟩) (.inr (Nat.le_refl _)) (.int .i64 Q))
                  have HO7 := Lib.hid (((hO6.far (p := ⟨w.heap.size, 0, none⟩) hot (.slice Av acc.length cv)).far (p := ⟨w.heap.size, 1, none⟩) hot (.int .i64 P)).far (p := ⟨w.heap.size, 2, none⟩) hot (.int .i64 Q))
                  have HC3 := Lib.hid c3
                  clear hb6 hB6 hT6 hO6 hG6 u0 u1 u2 uf HRT hot c3
                  go_wp2
                  have x3 := HC3.out.cell
                  refine bodyPost_ret (v := .agg #[.slice Av acc.length cv, .int .i64 P, .int .i64 Q]) (by simp [results, Tryd.results25, go_sem, x3]) rfl ?_
                  refine ⟨HF.out, .inl ⟨⟨acc, pointN a b, pointN c' d⟩, _, HI.out.row HRR.out, by rw [HP.out, HQ.out], HO7.out⟩⟩
      · have hb' : ((b.toNat : Int) != 0) = true := by
          rw [bne_iff_ne]
          intro e
          exact hb (UInt8.toNat_inj.1 (by have : b.toNat = 0 := by omega
                                          rw [this]; rfl))
        by_cases he : (readR (b :: L)).e = 0
        · obtain ⟨x, M, hx, ho, e1, _⟩ := read_inv he
          rw [e1] at HR HI
          have hml : (x.bytes ++ M).length = L.length + 1 := by rw [← e1]; simp
          have hxl := bytes_short hx
          have HM : Hid ((x.bytes ++ M).length = x.bytes.length + M.length) := Lib.hid List.length_append
          have HML := Lib.hid hml
          have z0 := HB.out.cell_ _ (i := 0) rfl
          have zf := HB.out.frozen
          have hb63 : acc.length + [x].length ≤ maxLen := by unfold maxLen; simp; omega
          have hb32 : (acc.length + [x].length) * 32 ≤ 140737488355328 := by simp; omega
          have hog : v.ownBlock ≠ some g := by
            obtain ⟨_, _, _, hrb, _⟩ := HR.out
            exact fun e => HO.out.apart hrb (fun cur h => by injection h with _ h; exact absurd h (by decide)) e.symm
          clear e1 hml he
          go_wp2_with fail
          go_region_law
            (first
              | (go_simp; go_at_call 40; refine (reader_value g x M _ HR.out.drew (by have := HML.out; omega) hx ho).mono ?_; rintro e w2 ⟨rfl, hR2, hg2⟩; have hO2 := Own.kept HO.out.drew hg2 (.inr (fun e => hog (e.trans rfl))); have hz2 : w.heap.size ≤ w2.heap.size := Nat.le_trans hG.size hg2.size; have hB2 := HB.out.drew.grown hg2 (by simp; omega); have y2 := hB2.cell_ _ (i := 0) rfl; have y2b := (hB2.alloc (.cells #[.int .u8 x.k, .int .i64 x.n, .string x.s] 43)).cell_ _ (i := 0) rfl)
              | (have hz3 : w.heap.size ≤ (w2.alloc (.cells #[.int .u8 x.k, .int .i64 x.n, .string x.s] 43)).heap.size := (by simp; omega); refine step_app _ (by rfl) _ _ 22 (by rfl) w.heap.size 43 j0 _ 3 32 Vl.enc Tryd.underlying22 hj hy0 hy1 hy2 rfl (by decide) Vl.enc_length Vl.enc_one v _ acc [x] (by rfl) (hO2.alloc _) (by rfl) (Sl.new w2 43 [x] Vl.enc_length #[.int .u8 x.k, .int .i64 x.n, .string x.s] rfl 1 rfl) hb63 hb32 hz3 ?_; intro v3 w3 hO3 hg3 _; have hB3 := (hB2.alloc (.cells #[.int .u8 x.k, .int .i64 x.n, .string x.s] 43)).grown hg3 ((hO2.alloc (.cells #[.int .u8 x.k, .int .i64 x.n, .string x.s] 43)).apart (hB2.alloc (.cells #[.int .u8 x.k, .int .i64 x.n, .string x.s] 43)) (fun cur h => by injection h with _ h; exact absurd h (by decide))); have y3 := hB3.cell_ _ (i := 0) rfl; have f3 := hB3.frozen; obtain ⟨A3, c3, rfl⟩ := hO3.slice))
          all_goals
            go_wp2
            go_roundw
            case rel =>
              have hM := HM.out
              have hML := HML.out
              have hR3 := (hR2.alloc (.cells #[.int .u8 x.k, .int .i64 x.n, .string x.s] 43)).grown hg3 (fun e => hog e.symm) (fun k e => by have := (HO.out.lt k e).1; omega)
              have hT2 := HT.out.drew.grown hg2 (by simp; omega)
              have hT3 := (hT2.alloc (.cells #[.int .u8 x.k, .int .i64 x.n, .string x.s] 43)).grown hg3 ((hO2.alloc (.cells #[.int .u8 x.k, .int .i64 x.n, .string x.s] 43)).apart (hT2.alloc (.cells #[.int .u8 x.k, .int .i64 x.n, .string x.s] 43)) (fun cur h => by injection h with _ h; exact absurd h (by decide)))
              have hgT := gr_grown (gr_alloc (gr_grown (gr_drew hG) hg2 (fun k e => .inl (Option.some.inj e).symm)) (.cells #[.int .u8 x.k, .int .i64 x.n, .string x.s] 43)) hg3 (fun k e => .inr (HO.out.lt k e).1)
              refine ⟨acc ++ [x], M, _, hR3.far (by simp; omega) (by simp; omega) _, hB3.set_ 0 _, hT3.far (by simp) _, ?_, gr_set hgT (.inr (by simp)) _, HI.out.more hx ho, by simp; omega⟩
              have hO4 := hO3.far (p := ⟨w.heap.size + 1, 0, none⟩) (fun e => absurd (hO3.apart hB3 (fun cur h => by injection h with _ h; exact absurd h (by decide))) (by simpa using e.symm)) (Value.slice A3 (acc.length + 1) c3)
              simpa using hO4
            case measure =>
              have hM := HM.out
              have hML := HML.out
              have hR3 := (hR2.alloc (.cells #[.int .u8 x.k, .int .i64 x.n, .string x.s] 43)).grown hg3 (fun e => hog e.symm) (fun k e => by have := (HO.out.lt k e).1; omega)
              have h1 := (hR3.far (p := ⟨w.heap.size + 1, 0, none⟩) (by simp; omega) (by simp; omega) (Value.slice A3 (acc.length + 1) c3)).left
              have h2 := HL.out
              simp only [List.length_cons] at h2
              simp at h1 ⊢
              omega
        · have HE := Lib.hid he
          have z0 := HB.out.cell_ _ (i := 0) rfl
          clear he
          go_wp2_with fail
          refine wp_region_any (by kernel_rfl) ?_
          change wpAny _ _ _ _ _ _ _ (World.drew _)
          refine wpAny_take (i := 0) (v := .pointer (some ⟨w.heap.size + 1, 0, none⟩)) rfl (by kernel_rfl) (by kernel_rfl) (by kernel_rfl) (fun _ _ _ h => h) (Or.inl ⟨by rfl, ?_⟩) ?_
          · intro w
            go_simp
          refine wpAny_take (i := 2) (v := .pointer (some ⟨g, 0, none⟩)) rfl (by kernel_rfl) (by kernel_rfl) (by kernel_rfl) (fun _ _ _ h => h) (Or.inl ⟨by rfl, ?_⟩) ?_
          · intro w
            go_simp
          refine wpAny_ready (rs := [1, 3]) (by kernel_rfl) (by simp) ?_
          refine AllReady.cons rfl (fun K hK => ?_) (AllReady.cons rfl (fun K hK => ?_) AllReady.nil)
          · go_simp
            refine hK _ _ ?_
            clear hK K
            refine wpAny_ready (rs := [3]) (by kernel_rfl) (by simp) ?_
            refine AllReady.cons rfl (fun K hK => ?_) AllReady.nil
            go_simp
            refine (reader_value_no g (b :: L) _ HR.out.drew (by simp; omega) HE.out).mono ?_
            rintro e w2 ⟨rfl, hb2⟩
            exact ⟨rfl, gr_below (gr_drew hG) hb2, .inr ⟨HI.out.bad hb HE.out, rfl⟩⟩
          · go_simp
            refine (reader_value_no g (b :: L) _ HR.out.drew (by simp; omega) HE.out).mono ?_
            rintro e w2 ⟨rfl, hb2⟩
            exact ⟨rfl, gr_below (gr_drew hG) hb2, .inr ⟨HI.out.bad hb HE.out, rfl⟩⟩
end Go.Proofs.YtafbphiedaijmaaDoor
