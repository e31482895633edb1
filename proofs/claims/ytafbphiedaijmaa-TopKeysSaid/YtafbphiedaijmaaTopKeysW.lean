/- The walk of TopKeys. -/
import Derived.Test.YtafbphiedaijmaaCodL
import Derived.Test.YtafbphiedaijmaaKeysO
import Derived.Deep.RegionHeld3
namespace Go.Proofs.Ytafbphiedaijmaa
open Go.RowKit Go.Lib
attribute [local go_sem ↓] Go.wp_at_zero Go.wp_at_succ

/-- Row k of three, in the box g. -/
def KeysAt (g : Nat) (A B C : Value) (a b c : Rw) (w0 w : World) : Prop :=
  Blk w g 59 #[A, .int .i64 a.f, .int .i64 a.t, B, .int .i64 b.f, .int .i64 b.t, C, .int .i64 c.f, .int .i64 c.t] ∧
  Sl 3 Vl.enc w A a.l ∧ Sl 3 Vl.enc w B b.l ∧ Sl 3 Vl.enc w C c.l ∧ Below w0.heap.size w0 w
theorem KeysAt.below {g : Nat} {A B C : Value} {a b c : Rw} {w0 w w' : World} (h : KeysAt g A B C a b c w0 w) (hb : Below w.heap.size w w') : KeysAt g A B C a b c w0 w' :=
  ⟨h.1.below hb h.1.lt, h.2.1.below hb, h.2.2.1.below hb, h.2.2.2.1.below hb, keepS' h.2.2.2.2 hb⟩
theorem KeysAt.drew {g : Nat} {A B C : Value} {a b c : Rw} {w0 w : World} (h : KeysAt g A B C a b c w0 w) : KeysAt g A B C a b c w0 w.drew :=
  ⟨h.1.drew, h.2.1.drew, h.2.2.1.drew, h.2.2.2.1.drew, h.2.2.2.2.drew⟩

/-- Row k, wherever the box is as it was. -/
theorem KeysAt.row {g : Nat} {A B C : Option Addr} {na ca nb cb nc cc : Nat} {a b c : Rw} {w0 : World} (oa : a.ok) (ob : b.ok) (oc : c.ok)
    (la : a.l.length ≤ 9223372036854775807) (lb : b.l.length ≤ 9223372036854775807) (lc : c.l.length ≤ 9223372036854775807) {k : Nat} (hk : k < 3) :
    ∃ r E n ce, [a, b, c][k]? = some r ∧ r.ok ∧ r.l.length ≤ 9223372036854775807 ∧ ∀ w', KeysAt g (.slice A na ca) (.slice B nb cb) (.slice C nc cc) a b c w0 w' → Sl 3 Vl.enc w' (.slice E n ce) r.l ∧
      w'.cell? ⟨g, k * 3, none⟩ = some (.slice E n ce) ∧ w'.cell? ⟨g, k * 3 + 1, none⟩ = some (.int .i64 r.f) ∧ w'.cell? ⟨g, k * 3 + 2, none⟩ = some (.int .i64 r.t) := by
  match k, hk with
  | 0, _ => exact ⟨a, A, na, ca, rfl, oa, la, fun w' h => ⟨h.2.1, h.1.cell_ _ rfl, h.1.cell_ _ rfl, h.1.cell_ _ rfl⟩⟩
  | 1, _ => exact ⟨b, B, nb, cb, rfl, ob, lb, fun w' h => ⟨h.2.2.1, h.1.cell_ _ rfl, h.1.cell_ _ rfl, h.1.cell_ _ rfl⟩⟩
  | 2, _ => exact ⟨c, C, nc, cc, rfl, oc, lc, fun w' h => ⟨h.2.2.2.1, h.1.cell_ _ rfl, h.1.cell_ _ rfl, h.1.cell_ _ rfl⟩⟩

set_option maxRecDepth 100000 in
set_option maxHeartbeats 8000000 in
theorem topKeys_walk (a b c : Rw) (va vb vc : Value) (w : World) (ha : Sl 3 Vl.enc w va a.l) (hb : Sl 3 Vl.enc w vb b.l) (hc : Sl 3 Vl.enc w vc c.l) (oa : a.ok) (ob : b.ok) (oc : c.ok)
    (la : a.l.length ≤ 9223372036854775807) (lb : b.l.length ≤ 9223372036854775807) (lc : c.l.length ≤ 9223372036854775807) :
    Calls Try.prog 8 #[.agg #[va, .int .i64 a.f, .int .i64 a.t, vb, .int .i64 b.f, .int .i64 b.t, vc, .int .i64 c.f, .int .i64 c.t]] w fun e w' => e = .returned (.bool true) ∧ Below w.heap.size w w' := by
  obtain ⟨W0, hW0⟩ : ∃ W0, W0 = w.alloc (.cells #[va, .int .i64 a.f, .int .i64 a.t, vb, .int .i64 b.f, .int .i64 b.t, vc, .int .i64 c.f, .int .i64 c.t] 59) := ⟨_, rfl⟩
  have q0 : Below w.heap.size w W0 := by rw [hW0]; exact (Below.refl _ _).alloc (Nat.le_refl _) _
  have K0 : KeysAt w.heap.size va vb vc a b c w W0 := ⟨by rw [hW0]; exact Blk.new _ _ _, ha.below q0, hb.below q0, hc.below q0, q0⟩
  obtain ⟨A, ca, rfl⟩ := ha.slice
  obtain ⟨B, cb, rfl⟩ := hb.slice
  obtain ⟨C, cc, rfl⟩ := hc.slice
  have HR := Lib.hid (fun k (hk : k < 3) => KeysAt.row (g := w.heap.size) (A := A) (B := B) (C := C) (na := a.l.length) (ca := ca) (nb := b.l.length) (cb := cb) (nc := c.l.length) (cc := cc) (w0 := w) oa ob oc la lb lc hk)
  have HC1 := Lib.hid (fun u (h : KeysAt w.heap.size (.slice A a.l.length ca) (.slice B b.l.length cb) (.slice C c.l.length cc) a b c w u) => codec_compare a b _ _ u h.2.1 h.2.2.1 la lb)
  have HC2 := Lib.hid (fun u (h : KeysAt w.heap.size (.slice A a.l.length ca) (.slice B b.l.length cb) (.slice C c.l.length cc) a b c w u) => codec_compare b c _ _ u h.2.2.1 h.2.2.2.1 lb lc)
  have HKa := Lib.hid (fun u (h : KeysAt w.heap.size (.slice A a.l.length ca) (.slice B b.l.length cb) (.slice C c.l.length cc) a b c w u) => codec_key a _ u oa h.2.1 la)
  have HKb := Lib.hid (fun u (h : KeysAt w.heap.size (.slice A a.l.length ca) (.slice B b.l.length cb) (.slice C c.l.length cc) a b c w u) => codec_key b _ u ob h.2.2.1 lb)
  have HKc := Lib.hid (fun u (h : KeysAt w.heap.size (.slice A a.l.length ca) (.slice B b.l.length cb) (.slice C c.l.length cc) a b c w u) => codec_key c _ u oc h.2.2.2.1 lc)
  have HBT := Lib.hid (fun h1 h2 h3 => key_between (a := a) (b := b) (c := c) h1 oa h2 ob h3 oc)
  have HW0 := Lib.hid hW0
  have HK0 := Lib.hid K0
  clear hW0 q0 K0 ha hb hc oa ob oc la lb lc
  generalize a.l.length = na at *
  generalize b.l.length = nb at *
  generalize c.l.length = nc at *
  generalize rowC a b = C1 at *
  generalize rowC b c = C2 at *
  generalize a.key = KA at *
  generalize b.key = KB at *
  generalize c.key = KC at *
  go_enter Try.func8, Try.ntmps8
  go_wp2_with fail
  rw [← HW0.out]
  go_loopw [3] (fun i wr => ∃ k : Nat, i = .int .i64 k ∧ k ≤ 3 ∧ KeysAt w.heap.size (.slice A na ca) (.slice B nb cb) (.slice C nc cc) a b c w wr ∧ Hid (∀ j r, j < k → [a, b, c][j]? = some r → r.b = true)) (fun i _ => 3 - (RowKit.intOf i).toNat)
  case atStart => exact ⟨0, rfl, by omega, HK0.out, Lib.hid (fun j r h => by omega)⟩
  case round =>
    obtain ⟨k, rfl, hk, hK, HF⟩ := hrel
    have HK := Lib.hid hK
    clear hK HK0 HW0
    by_cases hk3 : k < 3
    · obtain ⟨r, E, n, ce, hr, hro, hrl, hrow⟩ := HR.out k hk3
      have hkI : (k : Int) < 3 := by omega
      obtain ⟨hs, x0, x1, x2⟩ := hrow _ HK.out
      have HRow := Lib.hid hrow
      have HRR := Lib.hid hr
      clear hrow hr
      cases hrb : r.b with
      | false =>
        have hre := codec_right r (.slice E n ce)
        rw [hrb] at hre
        go_wp2_with fail
        refine (codec_encode_no r _ _ hs hrl hrb).mono ?_
        rintro e w2 ⟨rfl, hb2⟩
        obtain ⟨hs2, y0, y1, y2⟩ := HRow.out _ (HK.out.below hb2)
        have hK2 := HK.out.below hb2
        clear hb2 x0 x1 x2
        go_wp2_with fail
        refine (hre _ hs2 hrl).mono ?_
        rintro e w3 ⟨rfl, hb3⟩
        go_wp2
        go_ret
        exact ⟨rfl, keepS' hK2.2.2.2.2 hb3⟩
      | true =>
        obtain ⟨R, hfront⟩ := Rw.key_front hrb hro
        have hks := Rw.key_size hrb hro
        have hbl := Rw.bytes_le hrb
        go_wp2_with fail
        refine (codec_encode r _ _ hro hs hrl hrb).mono ?_
        rintro e w2 ⟨⟨v2, rfl, hO⟩, hb2⟩
        obtain ⟨hs2, y0, y1, y2⟩ := HRow.out _ (HK.out.below hb2)
        have hK2 := HK.out.below hb2
        clear hb2 x0 x1 x2 hs
        obtain ⟨A2, c2, rfl⟩ := hO.slice
        generalize r.bytes = X at *
        go_wp2_with fail
        refine (codec_key r _ _ hro hs2 hrl).mono ?_
        rintro e w3 ⟨rfl, hb3⟩
        have hK3 := Lib.hid (hK2.below hb3)
        have hS3 : SlU w3 (.slice A2 X.length c2) X := (hO.sl u8E_length).below hb3
        clear hb3 y0 y1 y2 hs2 hK2 hO
        generalize r.key = KY at *
        subst hfront
        have hlen : KY.length ≤ (KY ++ R).length := by simp
        have hcv := conv_sl (hS3.take (m := KY.length) hlen)
        rw [List.take_left] at hcv
        have hlc := hS3.len.2
        have hX0 : 0 < (KY ++ R).length := by simp; omega
        obtain ⟨x, hx⟩ : ∃ x, (KY ++ R)[0]? = some x := ⟨_, List.getElem?_eq_getElem hX0⟩
        obtain ⟨g2, o2, rfl, _, _⟩ := hS3.at_ hx
        generalize hll : (KY ++ R).length = m at *
        have z0 : ((KY.length : Int) == 0) = false := beq_eq_false_iff_ne.2 (by omega)
        have z1 : ¬ ((m : Int) < (KY.length : Int)) := by omega
        have z2 : (KY.length : Int) ≤ (c2 : Int) := by omega
        clear hS3 hx hX0 hll hbl
        go_wp2
        go_roundw
        case rel =>
          refine ⟨k + 1, by go_num, by omega, hK3.out, Lib.hid (fun j r' hj hr' => ?_)⟩
          by_cases hjk : j < k
          · exact HF.out j r' hjk hr'
          · obtain rfl : j = k := by omega
            rw [HRR.out] at hr'
            cases hr'
            exact hrb
        case measure => simp [RowKit.intOf]; omega
    · obtain rfl : k = 3 := by omega
      have hba : a.b = true := HF.out 0 a (by omega) rfl
      have hbb : b.b = true := HF.out 1 b (by omega) rfl
      have hbc : c.b = true := HF.out 2 c (by omega) rfl
      have HBT' := HBT.out hba hbb hbc
      have HB2 := Lib.hid HBT'
      have KD := HK.out.drew
      have xr := KD.1.cell
      have KDD := HK.out.drew.drew
      have HKD := Lib.hid KD
      clear HBT HBT' HF HR hba hbb hbc KD KDD
      by_cases h1 : C1 ≤ 0
      · have g1 : decide (C1 ≤ 0) = true := decide_eq_true h1
        by_cases h2 : C2 ≤ 0
        · have g2 : decide (C2 ≤ 0) = true := decide_eq_true h2
          by_cases h3 : KA = KC
          · have h4 : KB = KA := HB2.out h1 h2 h3
            subst h3
            subst h4
            clear HB2
            go_wp2_with fail
            first | go_region_held3 (fun w' => (∀ i, w'.cell? ⟨w.heap.size, i, none⟩ = (#[Value.slice A na ca, .int .i64 a.f, .int .i64 a.t, .slice B nb cb, .int .i64 b.f, .int .i64 b.t, .slice C nc cc, .int .i64 c.f, .int .i64 c.t] : Array Value)[i]?) ∧ KeysAt w.heap.size (.slice A na ca) (.slice B nb cb) (.slice C nc cc) a b c w w')
              (first | exact ⟨HKD.out.1.cell, HKD.out⟩ | (go_split_ands; have q := (KeysAt.below (by assumption) hb6 : KeysAt w.heap.size (.slice A na ca) (.slice B nb cb) (.slice C nc cc) a b c w w6); exact ⟨q.1.cell, q⟩))
              (first
              | (go_at_call_of 14 (Value.slice A na ca); refine (HC1.out _ (by go_split_ands; assumption)).mono ?_; rintro e w6 ⟨rfl, hb6⟩)
              | (go_at_call_of 14 (Value.slice C nc cc); refine (HC2.out _ (by go_split_ands; assumption)).mono ?_; rintro e w6 ⟨rfl, hb6⟩)
              | (go_at_call_of 23 (Value.slice A na ca); refine (HKa.out _ (by go_split_ands; assumption)).mono ?_; rintro e w6 ⟨rfl, hb6⟩)
              | (go_at_call_of 23 (Value.slice C nc cc); refine (HKc.out _ (by go_split_ands; assumption)).mono ?_; rintro e w6 ⟨rfl, hb6⟩)) | fail
            go_split_ands
            rename_i hKn
            have HKD := Lib.hid hKn.drew
            go_wp2_with fail
            first | go_region_held3 (fun w' => (∀ i, w'.cell? ⟨w.heap.size, i, none⟩ = (#[Value.slice A na ca, .int .i64 a.f, .int .i64 a.t, .slice B nb cb, .int .i64 b.f, .int .i64 b.t, .slice C nc cc, .int .i64 c.f, .int .i64 c.t] : Array Value)[i]?) ∧ KeysAt w.heap.size (.slice A na ca) (.slice B nb cb) (.slice C nc cc) a b c w w')
              (first | exact ⟨HKD.out.1.cell, HKD.out⟩ | (go_split_ands; have q := (KeysAt.below (by assumption) hb6 : KeysAt w.heap.size (.slice A na ca) (.slice B nb cb) (.slice C nc cc) a b c w w6); exact ⟨q.1.cell, q⟩))
              (first
              | (go_at_call_of 23 (Value.slice A na ca); refine (HKa.out _ (by go_split_ands; assumption)).mono ?_; rintro e w6 ⟨rfl, hb6⟩)
              | (go_at_call_of 23 (Value.slice B nb cb); refine (HKb.out _ (by go_split_ands; assumption)).mono ?_; rintro e w6 ⟨rfl, hb6⟩)) | fail
            go_split_ands
            rename_i hKm
            go_wp2
            go_ret
            exact ⟨rfl, hKm.2.2.2.2⟩
          · have g3 : (KA == KC) = false := beq_eq_false_iff_ne.2 h3
            clear HB2
            go_wp2_with fail
            first | go_region_held3 (fun w' => (∀ i, w'.cell? ⟨w.heap.size, i, none⟩ = (#[Value.slice A na ca, .int .i64 a.f, .int .i64 a.t, .slice B nb cb, .int .i64 b.f, .int .i64 b.t, .slice C nc cc, .int .i64 c.f, .int .i64 c.t] : Array Value)[i]?) ∧ KeysAt w.heap.size (.slice A na ca) (.slice B nb cb) (.slice C nc cc) a b c w w')
              (first | exact ⟨HKD.out.1.cell, HKD.out⟩ | (go_split_ands; have q := (KeysAt.below (by assumption) hb6 : KeysAt w.heap.size (.slice A na ca) (.slice B nb cb) (.slice C nc cc) a b c w w6); exact ⟨q.1.cell, q⟩))
              (first
              | (go_at_call_of 14 (Value.slice A na ca); refine (HC1.out _ (by go_split_ands; assumption)).mono ?_; rintro e w6 ⟨rfl, hb6⟩)
              | (go_at_call_of 14 (Value.slice C nc cc); refine (HC2.out _ (by go_split_ands; assumption)).mono ?_; rintro e w6 ⟨rfl, hb6⟩)
              | (go_at_call_of 23 (Value.slice A na ca); refine (HKa.out _ (by go_split_ands; assumption)).mono ?_; rintro e w6 ⟨rfl, hb6⟩)
              | (go_at_call_of 23 (Value.slice C nc cc); refine (HKc.out _ (by go_split_ands; assumption)).mono ?_; rintro e w6 ⟨rfl, hb6⟩)) | fail
            go_split_ands
            rename_i hKn
            go_wp2
            go_ret
            exact ⟨rfl, hKn.2.2.2.2⟩
        · have g2 : decide (C2 ≤ 0) = false := decide_eq_false h2
          clear HB2
          go_wp2_with fail
          refine wp_region_held_drew (S := fun w' => (∀ i, w'.cell? ⟨w.heap.size, i, none⟩ = (#[Value.slice A na ca, .int .i64 a.f, .int .i64 a.t, .slice B nb cb, .int .i64 b.f, .int .i64 b.t, .slice C nc cc, .int .i64 c.f, .int .i64 c.t] : Array Value)[i]?) ∧ KeysAt w.heap.size (.slice A na ca) (.slice B nb cb) (.slice C nc cc) a b c w w') (by kernel_rfl) ?_ (fun hHeld0 => ?_)
          · exact ⟨HKD.out.1.cell, HKD.out⟩
          refine wpAnyH_take (i := 0) (oi := ?oia_0) (v := ?va_0) ?hia_0 (by kernel_rfl) (by kernel_rfl) (by kernel_rfl) ?hQa_0 ?hya_0 (by assumption) ?ha_0
          case hia_0 => (simp only [List.getElem?_toArray, List.getElem?_cons_succ, List.getElem?_cons_zero]; rfl)
          case hQa_0 => exact fun _ _ _ h => h
          case hya_0 => (refine Or.inl ⟨by rfl, ?_⟩; intro w hSw; (try dsimp only at hSw); first | (go_simp; done) | (go_simp; with_reducible rfl))
          try simp only [Act.put, List.setIfInBounds_toArray, List.set_cons_zero, List.set_cons_succ]
          refine wpAnyH_take (i := 1) (oi := ?oia_1) (v := ?va_1) ?hia_1 (by kernel_rfl) (by kernel_rfl) (by kernel_rfl) ?hQa_1 ?hya_1 (by assumption) ?ha_1
          case hia_1 => (simp only [List.getElem?_toArray, List.getElem?_cons_succ, List.getElem?_cons_zero]; rfl)
          case hQa_1 => exact fun _ _ _ h => h
          case hya_1 => (refine Or.inl ⟨by rfl, ?_⟩; intro w hSw; (try dsimp only at hSw); first | (go_simp; done) | (go_simp; with_reducible rfl))
          try simp only [Act.put, List.setIfInBounds_toArray, List.set_cons_zero, List.set_cons_succ]
          refine wpAnyH_take (i := 2) (oi := ?oia_2) (v := ?va_2) ?hia_2 (by kernel_rfl) (by kernel_rfl) (by kernel_rfl) ?hQa_2 ?hya_2 (by assumption) ?ha_2
          case hia_2 => (simp only [List.getElem?_toArray, List.getElem?_cons_succ, List.getElem?_cons_zero]; rfl)
          case hQa_2 => exact fun _ _ _ h => h
          case hya_2 => (refine Or.inl ⟨by rfl, ?_⟩; intro w hSw; (try dsimp only at hSw); first | (go_simp; done) | (go_simp; with_reducible rfl))
          try simp only [Act.put, List.setIfInBounds_toArray, List.set_cons_zero, List.set_cons_succ]
          refine wpAnyH_take (i := 3) (oi := ?oia_3) (v := ?va_3) ?hia_3 (by kernel_rfl) (by kernel_rfl) (by kernel_rfl) ?hQa_3 ?hya_3 (by assumption) ?ha_3
          case hia_3 => (simp only [List.getElem?_toArray, List.getElem?_cons_succ, List.getElem?_cons_zero]; rfl)
          case hQa_3 => exact fun _ _ _ h => h
          case hya_3 => (refine Or.inl ⟨by rfl, ?_⟩; intro w hSw; (try dsimp only at hSw); first | (go_simp; done) | (go_simp; with_reducible rfl))
          try simp only [Act.put, List.setIfInBounds_toArray, List.set_cons_zero, List.set_cons_succ]
          refine wpAnyH_ready (rs := [4]) (by kernel_rfl) (by simp) ?_
          refine AllReadyH.cons (o := ?oa_4) ?hoa_4 (fun K hK => ?stepa_4) AllReadyH.nil
          case hoa_4 => (simp only [List.getElem?_toArray, List.getElem?_cons_succ, List.getElem?_cons_zero]; rfl)
          go_simp
          (go_at_call_of 14 (Value.slice A na ca); refine (HC1.out _ (by go_split_ands; assumption)).mono ?_; rintro e w6 ⟨rfl, hb6⟩)
          refine hK.out _ _ ?_ (fun hHeld1 => ?_)
          · (go_split_ands; have q := (KeysAt.below (by assumption) hb6 : KeysAt w.heap.size (.slice A na ca) (.slice B nb cb) (.slice C nc cc) a b c w w6); exact ⟨q.1.cell, q⟩)
          clear hK K hHeld0
          try simp only [Act.put, List.setIfInBounds_toArray, List.set_cons_zero, List.set_cons_succ]
          refine wpAnyH_take (i := 5) (oi := ?oia_5) (v := ?va_5) ?hia_5 (by kernel_rfl) (by kernel_rfl) (by kernel_rfl) ?hQa_5 ?hya_5 (by assumption) ?ha_5
          case hia_5 => (simp only [List.getElem?_toArray, List.getElem?_cons_succ, List.getElem?_cons_zero]; rfl)
          case hQa_5 => exact fun _ _ _ h => h
          case hya_5 => (refine Or.inl ⟨by rfl, ?_⟩; intro w hSw; (try dsimp only at hSw); first | (go_simp; done) | (go_simp; with_reducible rfl))
          try simp only [Act.put, List.setIfInBounds_toArray, List.set_cons_zero, List.set_cons_succ]
          refine wpAnyH_take (i := 6) (oi := ?oia_6) (v := ?va_6) ?hia_6 (by kernel_rfl) (by kernel_rfl) (by kernel_rfl) ?hQa_6 ?hya_6 (by assumption) ?ha_6
          case hia_6 => (simp only [List.getElem?_toArray, List.getElem?_cons_succ, List.getElem?_cons_zero]; rfl)
          case hQa_6 => exact fun _ _ _ h => h
          case hya_6 => (refine Or.inl ⟨by rfl, ?_⟩; intro w hSw; (try dsimp only at hSw); first | (go_simp; done) | (go_simp; with_reducible rfl))
          try simp only [Act.put, List.setIfInBounds_toArray, List.set_cons_zero, List.set_cons_succ]
          refine wpAnyH_take (i := 7) (oi := ?oia_7) (v := ?va_7) ?hia_7 (by kernel_rfl) (by kernel_rfl) (by kernel_rfl) ?hQa_7 ?hya_7 (by assumption) ?ha_7
          case hia_7 => (simp only [List.getElem?_toArray, List.getElem?_cons_succ, List.getElem?_cons_zero]; rfl)
          case hQa_7 => exact fun _ _ _ h => h
          case hya_7 => (refine Or.inl ⟨by rfl, ?_⟩; intro w hSw; (try dsimp only at hSw); first | (go_simp; done) | (go_simp; with_reducible rfl))
          try simp only [Act.put, List.setIfInBounds_toArray, List.set_cons_zero, List.set_cons_succ]
          refine wpAnyH_take (i := 8) (oi := ?oia_8) (v := ?va_8) ?hia_8 (by kernel_rfl) (by kernel_rfl) (by kernel_rfl) ?hQa_8 ?hya_8 (by assumption) ?ha_8
          case hia_8 => (simp only [List.getElem?_toArray, List.getElem?_cons_succ, List.getElem?_cons_zero]; rfl)
          case hQa_8 => exact fun _ _ _ h => h
          case hya_8 => (refine Or.inl ⟨by rfl, ?_⟩; intro w hSw; (try dsimp only at hSw); first | (go_simp; done) | (go_simp; with_reducible rfl))
          try simp only [Act.put, List.setIfInBounds_toArray, List.set_cons_zero, List.set_cons_succ]
          refine wpAnyH_take (i := 9) (oi := ?oia_9) (v := ?va_9) ?hia_9 (by kernel_rfl) (by kernel_rfl) (by kernel_rfl) ?hQa_9 ?hya_9 (by assumption) ?ha_9
          case hia_9 => (simp only [List.getElem?_toArray, List.getElem?_cons_succ, List.getElem?_cons_zero]; rfl)
          case hQa_9 => exact fun _ _ _ h => h
          case hya_9 => (refine Or.inl ⟨by rfl, ?_⟩; intro w hSw; (try dsimp only at hSw); first | (go_simp; done) | (go_simp; with_reducible rfl))
          try simp only [Act.put, List.setIfInBounds_toArray, List.set_cons_zero, List.set_cons_succ]
          refine wpAnyH_take (i := 10) (oi := ?oia_10) (v := ?va_10) ?hia_10 (by kernel_rfl) (by kernel_rfl) (by kernel_rfl) ?hQa_10 ?hya_10 (by assumption) ?ha_10
          case hia_10 => (simp only [List.getElem?_toArray, List.getElem?_cons_succ, List.getElem?_cons_zero]; rfl)
          case hQa_10 => exact fun _ _ _ h => h
          case hya_10 => (refine Or.inl ⟨by rfl, ?_⟩; intro w hSw; (try dsimp only at hSw); first | (go_simp; done) | (go_simp; with_reducible rfl))
          try simp only [Act.put, List.setIfInBounds_toArray, List.set_cons_zero, List.set_cons_succ]
          refine wpAnyH_ready (rs := [11]) (by kernel_rfl) (by simp) ?_
          refine AllReadyH.cons (o := ?oa_11) ?hoa_11 (fun K hK => ?stepa_11) AllReadyH.nil
          case hoa_11 => (simp only [List.getElem?_toArray, List.getElem?_cons_succ, List.getElem?_cons_zero]; rfl)
          go_simp
          (go_at_call_of 14 (Value.slice C nc cc); refine (HC2.out _ (by go_split_ands; assumption)).mono ?_; rintro e w6 ⟨rfl, hb6⟩)
          refine hK.out _ _ ?_ (fun hHeld2 => ?_)
          · (go_split_ands; have q := (KeysAt.below (by assumption) hb6 : KeysAt w.heap.size (.slice A na ca) (.slice B nb cb) (.slice C nc cc) a b c w w6); exact ⟨q.1.cell, q⟩)
          clear hK K hHeld1
          try simp only [Act.put, List.setIfInBounds_toArray, List.set_cons_zero, List.set_cons_succ]
          refine wpAnyH_take (i := 12) (oi := ?oia_12) (v := ?va_12) ?hia_12 (by kernel_rfl) (by kernel_rfl) (by kernel_rfl) ?hQa_12 ?hya_12 (by assumption) ?ha_12
          case hia_12 => (simp only [List.getElem?_toArray, List.getElem?_cons_succ, List.getElem?_cons_zero]; rfl)
          case hQa_12 => exact fun _ _ _ h => h
          case hya_12 => (refine Or.inl ⟨by rfl, ?_⟩; intro w hSw; (try dsimp only at hSw); first | (go_simp; done) | (go_simp; with_reducible rfl))
          try simp only [Act.put, List.setIfInBounds_toArray, List.set_cons_zero, List.set_cons_succ]
          refine wpAnyH_take (i := 13) (oi := ?oia_13) (v := ?va_13) ?hia_13 (by kernel_rfl) (by kernel_rfl) (by kernel_rfl) ?hQa_13 ?hya_13 (by assumption) ?ha_13
          case hia_13 => (simp only [List.getElem?_toArray, List.getElem?_cons_succ, List.getElem?_cons_zero]; rfl)
          case hQa_13 => exact fun _ _ _ h => h
          case hya_13 => (refine Or.inl ⟨by rfl, ?_⟩; intro w hSw; (try dsimp only at hSw); first | (go_simp; done) | (go_simp; with_reducible rfl))
          try simp only [Act.put, List.setIfInBounds_toArray, List.set_cons_zero, List.set_cons_succ]
          refine wpAnyH_take (i := 14) (oi := ?oia_14) (v := ?va_14) ?hia_14 (by kernel_rfl) (by kernel_rfl) (by kernel_rfl) ?hQa_14 ?hya_14 (by assumption) ?ha_14
          case hia_14 => (simp only [List.getElem?_toArray, List.getElem?_cons_succ, List.getElem?_cons_zero]; rfl)
          case hQa_14 => exact fun _ _ _ h => h
          case hya_14 => (refine Or.inl ⟨by rfl, ?_⟩; intro w hSw; (try dsimp only at hSw); first | (go_simp; done) | (go_simp; with_reducible rfl))
          try simp only [Act.put, List.setIfInBounds_toArray, List.set_cons_zero, List.set_cons_succ]
          refine wpAnyH_take (i := 15) (oi := ?oia_15) (v := undef) ?hia_15 (by kernel_rfl) (by kernel_rfl) (by kernel_rfl) ?hQa_15 ?hya_15 (by assumption) ?ha_15
          case hia_15 => (simp only [List.getElem?_toArray, List.getElem?_cons_succ, List.getElem?_cons_zero]; rfl)
          case hQa_15 => exact fun _ _ _ h => h
          case hya_15 => exact Or.inr ⟨by rfl, rfl⟩
          try simp only [Act.put, List.setIfInBounds_toArray, List.set_cons_zero, List.set_cons_succ]
          refine wpAnyH_take (i := 16) (oi := ?oia_16) (v := undef) ?hia_16 (by kernel_rfl) (by kernel_rfl) (by kernel_rfl) ?hQa_16 ?hya_16 (by assumption) ?ha_16
          case hia_16 => (simp only [List.getElem?_toArray, List.getElem?_cons_succ, List.getElem?_cons_zero]; rfl)
          case hQa_16 => exact fun _ _ _ h => h
          case hya_16 => exact Or.inr ⟨by rfl, rfl⟩
          try simp only [Act.put, List.setIfInBounds_toArray, List.set_cons_zero, List.set_cons_succ]
          refine wpAnyH_take (i := 17) (oi := ?oia_17) (v := undef) ?hia_17 (by kernel_rfl) (by kernel_rfl) (by kernel_rfl) ?hQa_17 ?hya_17 (by assumption) ?ha_17
          case hia_17 => (simp only [List.getElem?_toArray, List.getElem?_cons_succ, List.getElem?_cons_zero]; rfl)
          case hQa_17 => exact fun _ _ _ h => h
          case hya_17 => exact Or.inr ⟨by rfl, rfl⟩
          try simp only [Act.put, List.setIfInBounds_toArray, List.set_cons_zero, List.set_cons_succ]
          refine wpAnyH_take (i := 18) (oi := ?oia_18) (v := undef) ?hia_18 (by kernel_rfl) (by kernel_rfl) (by kernel_rfl) ?hQa_18 ?hya_18 (by assumption) ?ha_18
          case hia_18 => (simp only [List.getElem?_toArray, List.getElem?_cons_succ, List.getElem?_cons_zero]; rfl)
          case hQa_18 => exact fun _ _ _ h => h
          case hya_18 => exact Or.inr ⟨by rfl, rfl⟩
          try simp only [Act.put, List.setIfInBounds_toArray, List.set_cons_zero, List.set_cons_succ]
          refine wpAnyH_take (i := 19) (oi := ?oia_19) (v := undef) ?hia_19 (by kernel_rfl) (by kernel_rfl) (by kernel_rfl) ?hQa_19 ?hya_19 (by assumption) ?ha_19
          case hia_19 => (simp only [List.getElem?_toArray, List.getElem?_cons_succ, List.getElem?_cons_zero]; rfl)
          case hQa_19 => exact fun _ _ _ h => h
          case hya_19 => exact Or.inr ⟨by rfl, rfl⟩
          try simp only [Act.put, List.setIfInBounds_toArray, List.set_cons_zero, List.set_cons_succ]
          refine wpAnyH_take (i := 20) (oi := ?oia_20) (v := undef) ?hia_20 (by kernel_rfl) (by kernel_rfl) (by kernel_rfl) ?hQa_20 ?hya_20 (by assumption) ?ha_20
          case hia_20 => (simp only [List.getElem?_toArray, List.getElem?_cons_succ, List.getElem?_cons_zero]; rfl)
          case hQa_20 => exact fun _ _ _ h => h
          case hya_20 => exact Or.inr ⟨by rfl, rfl⟩
          try simp only [Act.put, List.setIfInBounds_toArray, List.set_cons_zero, List.set_cons_succ]
          refine wpAnyH_take (i := 21) (oi := ?oia_21) (v := undef) ?hia_21 (by kernel_rfl) (by kernel_rfl) (by kernel_rfl) ?hQa_21 ?hya_21 (by assumption) ?ha_21
          case hia_21 => (simp only [List.getElem?_toArray, List.getElem?_cons_succ, List.getElem?_cons_zero]; rfl)
          case hQa_21 => exact fun _ _ _ h => h
          case hya_21 => exact Or.inr ⟨by rfl, rfl⟩
          try simp only [Act.put, List.setIfInBounds_toArray, List.set_cons_zero, List.set_cons_succ]
          refine wpAnyH_take (i := 22) (oi := ?oia_22) (v := ?va_22) ?hia_22 (by kernel_rfl) (by kernel_rfl) (by kernel_rfl) ?hQa_22 ?hya_22 (by assumption) ?ha_22
          case hia_22 => (simp only [List.getElem?_toArray, List.getElem?_cons_succ, List.getElem?_cons_zero]; rfl)
          case hQa_22 => exact fun _ _ _ h => h
          case hya_22 => (refine Or.inl ⟨by rfl, ?_⟩; intro w hSw; (try dsimp only at hSw); first | (go_simp; done) | (go_simp; with_reducible rfl))
          try simp only [Act.put, List.setIfInBounds_toArray, List.set_cons_zero, List.set_cons_succ]
          refine wpAnyH_done (by kernel_rfl) ?_ _
          obtain ⟨_, hKn⟩ := hHeld2
          go_wp2
          go_ret
          exact ⟨rfl, hKn.2.2.2.2⟩
      · have g1 : decide (C1 ≤ 0) = false := decide_eq_false h1
        clear HB2
        go_wp2_with fail
        refine wp_region_held_drew (S := fun w' => (∀ i, w'.cell? ⟨w.heap.size, i, none⟩ = (#[Value.slice A na ca, .int .i64 a.f, .int .i64 a.t, .slice B nb cb, .int .i64 b.f, .int .i64 b.t, .slice C nc cc, .int .i64 c.f, .int .i64 c.t] : Array Value)[i]?) ∧ KeysAt w.heap.size (.slice A na ca) (.slice B nb cb) (.slice C nc cc) a b c w w') (by kernel_rfl) ?_ (fun hHeld0 => ?_)
        · exact ⟨HKD.out.1.cell, HKD.out⟩
        refine wpAnyH_take (i := 0) (oi := ?oib_0) (v := ?vb_0) ?hib_0 (by kernel_rfl) (by kernel_rfl) (by kernel_rfl) ?hQb_0 ?hyb_0 (by assumption) ?hb_0
        case hib_0 => (simp only [List.getElem?_toArray, List.getElem?_cons_succ, List.getElem?_cons_zero]; rfl)
        case hQb_0 => exact fun _ _ _ h => h
        case hyb_0 => (refine Or.inl ⟨by rfl, ?_⟩; intro w hSw; (try dsimp only at hSw); first | (go_simp; done) | (go_simp; with_reducible rfl))
        try simp only [Act.put, List.setIfInBounds_toArray, List.set_cons_zero, List.set_cons_succ]
        refine wpAnyH_take (i := 1) (oi := ?oib_1) (v := ?vb_1) ?hib_1 (by kernel_rfl) (by kernel_rfl) (by kernel_rfl) ?hQb_1 ?hyb_1 (by assumption) ?hb_1
        case hib_1 => (simp only [List.getElem?_toArray, List.getElem?_cons_succ, List.getElem?_cons_zero]; rfl)
        case hQb_1 => exact fun _ _ _ h => h
        case hyb_1 => (refine Or.inl ⟨by rfl, ?_⟩; intro w hSw; (try dsimp only at hSw); first | (go_simp; done) | (go_simp; with_reducible rfl))
        try simp only [Act.put, List.setIfInBounds_toArray, List.set_cons_zero, List.set_cons_succ]
        refine wpAnyH_take (i := 2) (oi := ?oib_2) (v := ?vb_2) ?hib_2 (by kernel_rfl) (by kernel_rfl) (by kernel_rfl) ?hQb_2 ?hyb_2 (by assumption) ?hb_2
        case hib_2 => (simp only [List.getElem?_toArray, List.getElem?_cons_succ, List.getElem?_cons_zero]; rfl)
        case hQb_2 => exact fun _ _ _ h => h
        case hyb_2 => (refine Or.inl ⟨by rfl, ?_⟩; intro w hSw; (try dsimp only at hSw); first | (go_simp; done) | (go_simp; with_reducible rfl))
        try simp only [Act.put, List.setIfInBounds_toArray, List.set_cons_zero, List.set_cons_succ]
        refine wpAnyH_take (i := 3) (oi := ?oib_3) (v := ?vb_3) ?hib_3 (by kernel_rfl) (by kernel_rfl) (by kernel_rfl) ?hQb_3 ?hyb_3 (by assumption) ?hb_3
        case hib_3 => (simp only [List.getElem?_toArray, List.getElem?_cons_succ, List.getElem?_cons_zero]; rfl)
        case hQb_3 => exact fun _ _ _ h => h
        case hyb_3 => (refine Or.inl ⟨by rfl, ?_⟩; intro w hSw; (try dsimp only at hSw); first | (go_simp; done) | (go_simp; with_reducible rfl))
        try simp only [Act.put, List.setIfInBounds_toArray, List.set_cons_zero, List.set_cons_succ]
        refine wpAnyH_ready (rs := [4]) (by kernel_rfl) (by simp) ?_
        refine AllReadyH.cons (o := ?ob_4) ?hob_4 (fun K hK => ?stepb_4) AllReadyH.nil
        case hob_4 => (simp only [List.getElem?_toArray, List.getElem?_cons_succ, List.getElem?_cons_zero]; rfl)
        go_simp
        (go_at_call_of 14 (Value.slice A na ca); refine (HC1.out _ (by go_split_ands; assumption)).mono ?_; rintro e w6 ⟨rfl, hb6⟩)
        refine hK.out _ _ ?_ (fun hHeld1 => ?_)
        · (go_split_ands; have q := (KeysAt.below (by assumption) hb6 : KeysAt w.heap.size (.slice A na ca) (.slice B nb cb) (.slice C nc cc) a b c w w6); exact ⟨q.1.cell, q⟩)
        clear hK K hHeld0
        try simp only [Act.put, List.setIfInBounds_toArray, List.set_cons_zero, List.set_cons_succ]
        refine wpAnyH_take (i := 5) (oi := ?oib_5) (v := ?vb_5) ?hib_5 (by kernel_rfl) (by kernel_rfl) (by kernel_rfl) ?hQb_5 ?hyb_5 (by assumption) ?hb_5
        case hib_5 => (simp only [List.getElem?_toArray, List.getElem?_cons_succ, List.getElem?_cons_zero]; rfl)
        case hQb_5 => exact fun _ _ _ h => h
        case hyb_5 => (refine Or.inl ⟨by rfl, ?_⟩; intro w hSw; (try dsimp only at hSw); first | (go_simp; done) | (go_simp; with_reducible rfl))
        try simp only [Act.put, List.setIfInBounds_toArray, List.set_cons_zero, List.set_cons_succ]
        refine wpAnyH_take (i := 6) (oi := ?oib_6) (v := ?vb_6) ?hib_6 (by kernel_rfl) (by kernel_rfl) (by kernel_rfl) ?hQb_6 ?hyb_6 (by assumption) ?hb_6
        case hib_6 => (simp only [List.getElem?_toArray, List.getElem?_cons_succ, List.getElem?_cons_zero]; rfl)
        case hQb_6 => exact fun _ _ _ h => h
        case hyb_6 => (refine Or.inl ⟨by rfl, ?_⟩; intro w hSw; (try dsimp only at hSw); first | (go_simp; done) | (go_simp; with_reducible rfl))
        try simp only [Act.put, List.setIfInBounds_toArray, List.set_cons_zero, List.set_cons_succ]
        refine wpAnyH_take (i := 7) (oi := ?oib_7) (v := undef) ?hib_7 (by kernel_rfl) (by kernel_rfl) (by kernel_rfl) ?hQb_7 ?hyb_7 (by assumption) ?hb_7
        case hib_7 => (simp only [List.getElem?_toArray, List.getElem?_cons_succ, List.getElem?_cons_zero]; rfl)
        case hQb_7 => exact fun _ _ _ h => h
        case hyb_7 => exact Or.inr ⟨by rfl, rfl⟩
        try simp only [Act.put, List.setIfInBounds_toArray, List.set_cons_zero, List.set_cons_succ]
        refine wpAnyH_take (i := 8) (oi := ?oib_8) (v := undef) ?hib_8 (by kernel_rfl) (by kernel_rfl) (by kernel_rfl) ?hQb_8 ?hyb_8 (by assumption) ?hb_8
        case hib_8 => (simp only [List.getElem?_toArray, List.getElem?_cons_succ, List.getElem?_cons_zero]; rfl)
        case hQb_8 => exact fun _ _ _ h => h
        case hyb_8 => exact Or.inr ⟨by rfl, rfl⟩
        try simp only [Act.put, List.setIfInBounds_toArray, List.set_cons_zero, List.set_cons_succ]
        refine wpAnyH_take (i := 9) (oi := ?oib_9) (v := undef) ?hib_9 (by kernel_rfl) (by kernel_rfl) (by kernel_rfl) ?hQb_9 ?hyb_9 (by assumption) ?hb_9
        case hib_9 => (simp only [List.getElem?_toArray, List.getElem?_cons_succ, List.getElem?_cons_zero]; rfl)
        case hQb_9 => exact fun _ _ _ h => h
        case hyb_9 => exact Or.inr ⟨by rfl, rfl⟩
        try simp only [Act.put, List.setIfInBounds_toArray, List.set_cons_zero, List.set_cons_succ]
        refine wpAnyH_take (i := 10) (oi := ?oib_10) (v := undef) ?hib_10 (by kernel_rfl) (by kernel_rfl) (by kernel_rfl) ?hQb_10 ?hyb_10 (by assumption) ?hb_10
        case hib_10 => (simp only [List.getElem?_toArray, List.getElem?_cons_succ, List.getElem?_cons_zero]; rfl)
        case hQb_10 => exact fun _ _ _ h => h
        case hyb_10 => exact Or.inr ⟨by rfl, rfl⟩
        try simp only [Act.put, List.setIfInBounds_toArray, List.set_cons_zero, List.set_cons_succ]
        refine wpAnyH_take (i := 11) (oi := ?oib_11) (v := undef) ?hib_11 (by kernel_rfl) (by kernel_rfl) (by kernel_rfl) ?hQb_11 ?hyb_11 (by assumption) ?hb_11
        case hib_11 => (simp only [List.getElem?_toArray, List.getElem?_cons_succ, List.getElem?_cons_zero]; rfl)
        case hQb_11 => exact fun _ _ _ h => h
        case hyb_11 => exact Or.inr ⟨by rfl, rfl⟩
        try simp only [Act.put, List.setIfInBounds_toArray, List.set_cons_zero, List.set_cons_succ]
        refine wpAnyH_take (i := 12) (oi := ?oib_12) (v := undef) ?hib_12 (by kernel_rfl) (by kernel_rfl) (by kernel_rfl) ?hQb_12 ?hyb_12 (by assumption) ?hb_12
        case hib_12 => (simp only [List.getElem?_toArray, List.getElem?_cons_succ, List.getElem?_cons_zero]; rfl)
        case hQb_12 => exact fun _ _ _ h => h
        case hyb_12 => exact Or.inr ⟨by rfl, rfl⟩
        try simp only [Act.put, List.setIfInBounds_toArray, List.set_cons_zero, List.set_cons_succ]
        refine wpAnyH_take (i := 13) (oi := ?oib_13) (v := ?vb_13) ?hib_13 (by kernel_rfl) (by kernel_rfl) (by kernel_rfl) ?hQb_13 ?hyb_13 (by assumption) ?hb_13
        case hib_13 => (simp only [List.getElem?_toArray, List.getElem?_cons_succ, List.getElem?_cons_zero]; rfl)
        case hQb_13 => exact fun _ _ _ h => h
        case hyb_13 => (refine Or.inl ⟨by rfl, ?_⟩; intro w hSw; (try dsimp only at hSw); first | (go_simp; done) | (go_simp; with_reducible rfl))
        try simp only [Act.put, List.setIfInBounds_toArray, List.set_cons_zero, List.set_cons_succ]
        refine wpAnyH_take (i := 14) (oi := ?oib_14) (v := ?vb_14) ?hib_14 (by kernel_rfl) (by kernel_rfl) (by kernel_rfl) ?hQb_14 ?hyb_14 (by assumption) ?hb_14
        case hib_14 => (simp only [List.getElem?_toArray, List.getElem?_cons_succ, List.getElem?_cons_zero]; rfl)
        case hQb_14 => exact fun _ _ _ h => h
        case hyb_14 => (refine Or.inl ⟨by rfl, ?_⟩; intro w hSw; (try dsimp only at hSw); first | (go_simp; done) | (go_simp; with_reducible rfl))
        try simp only [Act.put, List.setIfInBounds_toArray, List.set_cons_zero, List.set_cons_succ]
        refine wpAnyH_take (i := 15) (oi := ?oib_15) (v := undef) ?hib_15 (by kernel_rfl) (by kernel_rfl) (by kernel_rfl) ?hQb_15 ?hyb_15 (by assumption) ?hb_15
        case hib_15 => (simp only [List.getElem?_toArray, List.getElem?_cons_succ, List.getElem?_cons_zero]; rfl)
        case hQb_15 => exact fun _ _ _ h => h
        case hyb_15 => exact Or.inr ⟨by rfl, rfl⟩
        try simp only [Act.put, List.setIfInBounds_toArray, List.set_cons_zero, List.set_cons_succ]
        refine wpAnyH_take (i := 16) (oi := ?oib_16) (v := undef) ?hib_16 (by kernel_rfl) (by kernel_rfl) (by kernel_rfl) ?hQb_16 ?hyb_16 (by assumption) ?hb_16
        case hib_16 => (simp only [List.getElem?_toArray, List.getElem?_cons_succ, List.getElem?_cons_zero]; rfl)
        case hQb_16 => exact fun _ _ _ h => h
        case hyb_16 => exact Or.inr ⟨by rfl, rfl⟩
        try simp only [Act.put, List.setIfInBounds_toArray, List.set_cons_zero, List.set_cons_succ]
        refine wpAnyH_take (i := 17) (oi := ?oib_17) (v := undef) ?hib_17 (by kernel_rfl) (by kernel_rfl) (by kernel_rfl) ?hQb_17 ?hyb_17 (by assumption) ?hb_17
        case hib_17 => (simp only [List.getElem?_toArray, List.getElem?_cons_succ, List.getElem?_cons_zero]; rfl)
        case hQb_17 => exact fun _ _ _ h => h
        case hyb_17 => exact Or.inr ⟨by rfl, rfl⟩
        try simp only [Act.put, List.setIfInBounds_toArray, List.set_cons_zero, List.set_cons_succ]
        refine wpAnyH_take (i := 18) (oi := ?oib_18) (v := undef) ?hib_18 (by kernel_rfl) (by kernel_rfl) (by kernel_rfl) ?hQb_18 ?hyb_18 (by assumption) ?hb_18
        case hib_18 => (simp only [List.getElem?_toArray, List.getElem?_cons_succ, List.getElem?_cons_zero]; rfl)
        case hQb_18 => exact fun _ _ _ h => h
        case hyb_18 => exact Or.inr ⟨by rfl, rfl⟩
        try simp only [Act.put, List.setIfInBounds_toArray, List.set_cons_zero, List.set_cons_succ]
        refine wpAnyH_take (i := 19) (oi := ?oib_19) (v := undef) ?hib_19 (by kernel_rfl) (by kernel_rfl) (by kernel_rfl) ?hQb_19 ?hyb_19 (by assumption) ?hb_19
        case hib_19 => (simp only [List.getElem?_toArray, List.getElem?_cons_succ, List.getElem?_cons_zero]; rfl)
        case hQb_19 => exact fun _ _ _ h => h
        case hyb_19 => exact Or.inr ⟨by rfl, rfl⟩
        try simp only [Act.put, List.setIfInBounds_toArray, List.set_cons_zero, List.set_cons_succ]
        refine wpAnyH_take (i := 20) (oi := ?oib_20) (v := undef) ?hib_20 (by kernel_rfl) (by kernel_rfl) (by kernel_rfl) ?hQb_20 ?hyb_20 (by assumption) ?hb_20
        case hib_20 => (simp only [List.getElem?_toArray, List.getElem?_cons_succ, List.getElem?_cons_zero]; rfl)
        case hQb_20 => exact fun _ _ _ h => h
        case hyb_20 => exact Or.inr ⟨by rfl, rfl⟩
        try simp only [Act.put, List.setIfInBounds_toArray, List.set_cons_zero, List.set_cons_succ]
        refine wpAnyH_take (i := 21) (oi := ?oib_21) (v := undef) ?hib_21 (by kernel_rfl) (by kernel_rfl) (by kernel_rfl) ?hQb_21 ?hyb_21 (by assumption) ?hb_21
        case hib_21 => (simp only [List.getElem?_toArray, List.getElem?_cons_succ, List.getElem?_cons_zero]; rfl)
        case hQb_21 => exact fun _ _ _ h => h
        case hyb_21 => exact Or.inr ⟨by rfl, rfl⟩
        try simp only [Act.put, List.setIfInBounds_toArray, List.set_cons_zero, List.set_cons_succ]
        refine wpAnyH_take (i := 22) (oi := ?oib_22) (v := ?vb_22) ?hib_22 (by kernel_rfl) (by kernel_rfl) (by kernel_rfl) ?hQb_22 ?hyb_22 (by assumption) ?hb_22
        case hib_22 => (simp only [List.getElem?_toArray, List.getElem?_cons_succ, List.getElem?_cons_zero]; rfl)
        case hQb_22 => exact fun _ _ _ h => h
        case hyb_22 => (refine Or.inl ⟨by rfl, ?_⟩; intro w hSw; (try dsimp only at hSw); first | (go_simp; done) | (go_simp; with_reducible rfl))
        try simp only [Act.put, List.setIfInBounds_toArray, List.set_cons_zero, List.set_cons_succ]
        refine wpAnyH_done (by kernel_rfl) ?_ _
        obtain ⟨_, hKn⟩ := hHeld1
        go_wp2
        go_ret
        exact ⟨rfl, hKn.2.2.2.2⟩
end Go.Proofs.Ytafbphiedaijmaa
