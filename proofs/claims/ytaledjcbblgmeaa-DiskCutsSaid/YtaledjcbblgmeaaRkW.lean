/- The reference's disk: Write. -/
import Derived.Test.YtaledjcbblgmeaaRkP
namespace Go.Proofs.Ytaledjcbblgmeaa
open Go.RowKit

theorem pad_step {b : List UInt8} {k : Nat} {x : UInt8} (h : b[k]? = some x) (hb : b.length ≤ 64) (v : Value) : (v :: (pad (b.take k)).enc).toArray.setIfInBounds (1 + k) (.int .u8 x.toNat) = (v :: (pad (b.take (k + 1))).enc).toArray := by
  obtain ⟨hk, e⟩ := List.getElem?_eq_some_iff.1 h
  rw [List.setIfInBounds_toArray, Nat.add_comm 1 k, List.set_cons_succ]
  congr 2
  unfold Sec.enc byteE
  rw [pad_l (by rw [List.length_take]; omega), pad_l (by rw [List.length_take]; omega), List.length_take, List.length_take, show min k b.length = k by omega, show min (k + 1) b.length = k + 1 by omega]
  rw [List.map_append, List.set_append_right _ _ (by rw [List.length_map, List.length_take]; omega), List.length_map, List.length_take, show k - min k b.length = 0 by omega, List.take_succ_eq_append_getElem hk, e]
  obtain ⟨r, hr⟩ : ∃ r, 64 - k = r + 1 := ⟨63 - k, by omega⟩
  rw [hr, List.replicate_succ, show 64 - (k + 1) = r by omega]
  simp
theorem pad_nil : Sec.zero = pad [] := rfl

theorem slice_snoc {B : Nat} {e : TypeId} {w : World} {v : Value} {l : List Wr} {x : Wr} (h : Own B e 65 Wr.enc w v (l ++ [x])) : ∃ A c, v = .slice A (l.length + 1) c := by
  obtain ⟨A, c, e⟩ := h.slice
  exact ⟨A, c, by rw [e, List.length_append]; rfl⟩
def RWritePost (B g : Nat) (d : Dk) (F : Nat → Prop) (i : Int) (b : List UInt8) (w : World) (e : Ending) (w' : World) : Prop :=
  e = .returned (.int .i64 (d.writeE i b)) ∧ ∃ F', RP w' B g (d.write i b) F' ∧ Upd F w F' w'

set_option maxRecDepth 100000 in
set_option maxHeartbeats 4000000 in
theorem rdisk_Write (B g : Nat) (d : Dk) (F : Nat → Prop) (i : Int) (b : List UInt8) (A : Option Addr) (n c : Nat) (w : World) (h : RP w B g d F) (hS : SlU w (.slice A n c) b) (hA : 0 < b.length → ∀ k o, A = some ⟨k, o, none⟩ → ¬ F k) (hB : B ≤ w.heap.size)
    (hw : d.wait.length ≤ 1000000) :
    Calls Try.prog 56 #[.pointer (some ⟨g, 0, none⟩), .int .i64 i, .slice A n c] w (RWritePost B g d F i b w) := by
  have HD := Lib.hid h
  obtain ⟨As, cs, Aw, cw, left, hb, h0, hs, hv, hg, hok, hF⟩ := h
  obtain rfl : n = _ := hS.len.1
  have x := hb.cell
  have hn128 : (d.secs.length : Int) ≤ 128 := by have := hok.2.1; omega
  have hnn : (0 : Int) ≤ (d.secs.length : Int) := by omega
  by_cases hl : d.look i ≠ 0
  · have e1 : d.writeE i b = d.look i := by unfold Dk.writeE; rw [if_pos hl]
    have e2 : d.write i b = d := by unfold Dk.write; rw [if_pos hl]
    have P : RWritePost B g d F i b w (.returned (.int .i64 (d.look i))) w := ⟨by rw [e1], F, by rw [e2]; exact HD.out, Upd.refl _ _⟩
    have HP := Lib.hid P
    unfold Dk.look at HP hl
    clear hb hs hv hF e1 e2 P hok hS HD h0
    cases ho : d.off with
    | true =>
      rw [ho] at x
      simp only [ho, if_true] at HP
      clear hl
      go_enter Try.func56, Try.ntmps56
      go_wp2
      go_ret
      exact HP.out
    | false =>
      rw [ho] at x
      simp only [ho, Bool.false_eq_true, if_false] at HP hl
      by_cases hi : i < 0 ∨ (d.secs.length : Int) ≤ i
      · rw [if_pos hi] at HP
        clear hl
        by_cases hi0 : i < 0
        · go_enter Try.func56, Try.ntmps56
          go_wp2
          go_ret
          exact HP.out
        · have hi1 : (d.secs.length : Int) ≤ i := by omega
          clear hi
          go_enter Try.func56, Try.ntmps56
          go_wp2
          go_ret
          exact HP.out
      · rw [if_neg hi] at hl
        exact absurd rfl hl
  have hl : d.look i = 0 := Classical.not_not.1 hl
  have ho : d.off = false := by
    cases ho : d.off with
    | false => rfl
    | true => unfold Dk.look at hl; rw [ho] at hl; simp at hl
  have hi0 : 0 ≤ i ∧ i < d.secs.length := by
    have := hl
    unfold Dk.look at this
    rw [ho] at this
    simp only [Bool.false_eq_true, if_false] at this
    split at this
    · simp at this
    · omega
  obtain ⟨hi1, hi2⟩ := hi0
  have x0 := x
  rw [ho] at x
  by_cases h64 : 64 < b.length
  · have e1 : d.writeE i b = 3 := by unfold Dk.writeE; rw [if_neg (by simp [hl]), if_pos h64]
    have e2 : d.write i b = d := by unfold Dk.write; rw [if_neg (by simp [hl]), if_pos h64]
    have P : RWritePost B g d F i b w (.returned (.int .i64 3)) w := ⟨by rw [e1], F, by rw [e2]; exact HD.out, Upd.refl _ _⟩
    have z : (64 : Int) < (b.length : Int) := by omega
    have HP := Lib.hid P
    clear hb hs hv hF e1 e2 P hok hS HD h0 x0
    go_enter Try.func56, Try.ntmps56
    go_wp2
    go_ret
    exact HP.out
  have HU := rdisk_spend g w (.slice As d.secs.length cs) (.slice Aw d.wait.length cw) d left hb h0 hok
  have z : ¬ (64 : Int) < (b.length : Int) := by omega
  have gF : F g := (hF g).2 (.inl rfl)
  have hsne := hs.ne_blk hb (by decide)
  have hvne := hv.ne_blk hb (by decide)
  cases hbu : d.burnt with
  | false =>
    have e1 : d.writeE i b = 7 := by unfold Dk.writeE; rw [if_neg (by simp [hl]), if_neg h64, if_neg (by simp [hbu])]
    have e2 : d.write i b = d.burn := by unfold Dk.write; rw [if_neg (by simp [hl]), if_neg h64, if_neg (by simp [hbu])]
    have P : ∀ w' left', Blk w' g 98 #[.slice As d.secs.length cs, .slice Aw d.wait.length cw, .bool d.burn.fuse.isSome, .int .i64 left', .bool d.burn.off] → (∀ k : Nat, d.burn.fuse = some k → left' = k) → Mod (· = g) w w' → RWritePost B g d F i b w (.returned (.int .i64 7)) w' := fun w' left' h1 h0' h2 => by
      refine ⟨by rw [e1], F, ?_, h2.wider (fun i hi => by subst hi; exact gF), fun i hi => .inl hi⟩
      rw [e2]
      refine ⟨As, cs, Aw, cw, left', ?_, h0', ?_, ?_, hg, Dk.ok_burn hok, ?_⟩
      · rw [Dk.burn_secs, Dk.burn_wait]; exact h1
      · rw [Dk.burn_secs]; exact hs.mod h2 (fun k hk e => hsne (by rw [hk, e]))
      · rw [Dk.burn_wait]; exact hv.mod h2 (fun k hk e => hvne (by rw [hk, e]))
      · rw [Dk.burn_secs, Dk.burn_wait]; exact hF
    have HP := Lib.hid P
    have HUU := Lib.hid HU
    clear hb hs hv hF e1 e2 P hok hS HU hsne hvne hl HD h0 x0
    go_enter Try.func56, Try.ntmps56
    go_wp2_with fail
    refine HUU.out.mono ?_
    rintro e w1 ⟨rfl, ⟨left', hb1, hl1⟩, hm1, _⟩
    have P := Lib.hid (HP.out w1 left' hb1 hl1 hm1)
    clear hb1 hm1 HP HUU hl1
    rw [hbu]
    go_wp2
    go_ret
    exact P.out
  | true =>
    have e1 : d.writeE i b = 0 := by unfold Dk.writeE; rw [if_neg (by simp [hl]), if_neg h64, if_pos hbu]
    have e2 : d.write i b = { d.burn with wait := d.wait ++ [⟨i.toNat, pad b⟩] } := by unfold Dk.write; rw [if_neg (by simp [hl]), if_neg h64, if_pos hbu]
    have hok2 := Dk.ok_write hok i b
    have HUU := Lib.hid HU
    have hiN : (i.toNat : Int) = i := by omega
    have hws := builtRWrite i
    have HHD := Lib.hid (And.intro hs (And.intro hv (And.intro hS (And.intro hA hb))))
    have HK2 := Lib.hid (And.intro hok2 (And.intro e1 e2))
    have HF := Lib.hid hF
    clear HU hl hs hv hS hA hb e1 e2 hok2 hF hok HD h0 x0
    go_enter Try.func56, Try.ntmps56
    go_wp2_with fail
    refine HUU.out.mono ?_
    rintro e w1 ⟨rfl, ⟨left', hb1, hl1⟩, hm1, hz1⟩
    clear hz1 x
    rw [hbu]
    obtain ⟨hs, hv, hS, hA, hb⟩ := HHD.out
    have hs1 := hs.mod hm1 (fun k hk e => hsne (by rw [hk, e]))
    have hv1 := hv.mod hm1 (fun k hk e => hvne (by rw [hk, e]))
    have hS1 : SlU w1 (.slice A b.length c) b := hS.mod hm1 (fun hp k o hk e => hA hp k o hk (by rw [e]; exact gF))
    have hg1 := hb1.lt
    have M1 : Mod F w w1 := hm1.wider (fun k e => by subst e; exact gF)
    have HK := Lib.hid (And.intro hs1 (And.intro hv1 (And.intro hb1 (And.intro hS1 M1))))
    have HL1 := Lib.hid hl1
    clear hs1 hv1 hb1 hm1 hS1 M1 hs hv hS hA hb HHD HUU hl1
    go_wp2_with (first
      | (refine wpList_alloc_blk rfl 126 (by rfl) _ zeroRWrite ?_; intro w2 b2 hb2 hz2; clear hz2)
      | (refine wpList_store_blk rfl 126 _ _ (by rfl) w1.heap.size 0 (by rfl) _ (by rfl) (.int .i64 i :: Sec.zero.enc) (by rfl) 126 (Wr.enc ⟨0, Sec.zero⟩) b2 (by rw [List.length_cons, Sec.enc_length]; exact sizeRWrite) (by rw [List.length_cons, Sec.enc_length, Wr.enc_length]; omega) (fun v hv => by rcases List.mem_cons.1 hv with rfl | h; rfl; exact Sec.enc_one _ v h) ?_; intro w3 b3 hm3 hz3; clear hz3; rw [splice_whole _ _ (by rw [List.length_cons, Sec.enc_length, Wr.enc_length])] at b3
         have m3 := Lib.hid ((Mod.of_below (· = w1.heap.size) hb2).trans hm3 (fun _ e => .inl e))
         have B3 := Lib.hid b3
         clear b2 hb2 hm3 b3))
    obtain ⟨GW, hGW⟩ : ∃ GW, GW = w1.heap.size := ⟨_, rfl⟩
    rw [← hGW] at m3 B3 ⊢
    have hgw1 : g < GW := by omega
    have hgw2 : GW ≤ w1.heap.size := by omega
    have hgw3 : w1.heap.size ≤ GW := by omega
    clear hGW
    go_loopw [8] (fun t wr => ∃ k : Nat, t = .int .i64 k ∧ k ≤ b.length ∧ Blk wr GW 126 (Value.int IntKind.i64 i :: (pad (b.take k)).enc).toArray ∧ Mod (· = GW) w1 wr) (fun t _ => b.length - (RowKit.intOf t).toNat)
    case atStart => exact ⟨0, rfl, by omega, by rw [List.take_zero]; exact B3.out, m3.out⟩
    case round =>
      clear m3 B3
      obtain ⟨k, rfl, hk, b4, m4⟩ := hrel
      by_cases hlt : k < b.length
      · obtain ⟨y, hy⟩ : ∃ y, b[k]? = some y := ⟨_, List.getElem?_eq_getElem hlt⟩
        have hltI : (k : Int) < (b.length : Int) := by omega
        have hk64 : (k : Int) < 64 := by omega
        obtain ⟨gb, ob, rfl, hgb, hcb⟩ := HK.out.2.2.2.1.at_ hy
        have ck := hcb 0 _ rfl
        rw [Nat.mul_one, Nat.add_zero] at ck
        have ck4 : wr.cell? ⟨gb, ob + k, none⟩ = some (.int .u8 y.toNat) := (m4.cell (p := ⟨gb, ob + k, none⟩) hgb (by show gb ≠ GW; omega)).trans ck
        have st := pad_step hy (by omega) (.int .i64 i)
        have fz := b4.frozen (1 + k)
        have b5 := b4.set_ (1 + k) (.int .u8 y.toNat)
        rw [st] at b5
        have hlen : (Value.int IntKind.i64 i :: (pad (b.take k)).enc).length = 65 := by rw [List.length_cons, Sec.enc_length]
        obtain ⟨u, hu⟩ : ∃ u, (Value.int IntKind.i64 i :: (pad (b.take k)).enc)[1 + k]? = some u := ⟨_, List.getElem?_eq_getElem (by omega)⟩
        have cu : wr.cell? ⟨GW, 1 + k, none⟩ = some u := by rw [b4.cell, List.getElem?_toArray, hu]
        have m5 := m4.then_set (p := ⟨GW, 1 + k, none⟩) (.inl rfl) (.int .u8 y.toNat)
        have H5 := Lib.hid (And.intro b5 m5)
        have hyT : ((y.toNat : Nat) : Int) ≤ 255 := by have := y.toNat_lt; omega
        clear b5 m5 b4 m4 st ck hcb hlen hu hy
        go_wp2
        go_roundw
        case rel => exact ⟨k + 1, by go_num, by omega, H5.out.1, H5.out.2⟩
        case measure => simp [RowKit.intOf]; omega
      · obtain rfl : k = b.length := by omega
        rw [List.take_length] at b4
        obtain ⟨hs1, hv1, bg1, _, M1⟩ := HK.out
        have no : ∀ k, k < GW → k ≠ GW := fun k hk => by omega
        have bg4 := bg1.mod m4 (no _ hgw1)
        have hs4 := hs1.mod m4 (fun k hk => no _ (by have := (hs1.lt k hk).2; omega))
        have hv4 := hv1.mod m4 (fun k hk => no _ (by have := (hv1.lt k hk).2; omega))
        have M4 : Mod F w wr := M1.trans m4 (fun k e => .inr (by subst e; have := M1.size; omega))
        have hrg := b4.drew.range 0 (Value.int IntKind.i64 i :: (pad b).enc) (fun j v hv => by rw [Nat.zero_add]; exact hv)
        have HS := Lib.hid (And.intro (bg4.drew.cell 1) hrg)
        obtain ⟨W, hW⟩ : ∃ W, W = wr.drew := ⟨_, rfl⟩
        have HW := Lib.hid hW
        have hw4 : GW < W.heap.size := by rw [hW]; exact b4.lt
        have hg4 : g < W.heap.size := by rw [hW]; exact bg4.lt
        have HM := Lib.hid (And.intro M4 (And.intro hs4.drew (And.intro (hv4.drew.sl Wr.enc_length) (And.intro bg4.drew hv4.drew))))
        rw [← hW] at HM HS
        have qW : Below W.heap.size W W := Below.refl _ _
        obtain ⟨i0, hi, hz0, hz1, hz2⟩ := info_parts infoRWrite
        have hBW : B ≤ W.heap.size := by rw [hW]; exact Nat.le_trans hB M4.size
        have hzW : wr.heap.size = W.heap.size := by rw [hW]; rfl
        have HZ := Lib.hid hzW
        clear hs1 hv1 bg1 M1 no bg4 hs4 hv4 M4 hrg b4 m4 hW HK hzW
        go_wp2_with fail
        refine wp_region_end (fun w' => w'.cell? ⟨g, 1, none⟩ = some (.slice Aw d.wait.length cw) ∧ w'.rangeAt GW 0 (Value.int IntKind.i64 i :: (pad b).enc)) 9 (by kernel_rfl) ?_
        rw [← HW.out]
        refine wpEnd_pure (i := 0) (oi := ?oi0_1) (v := ?v0_1) ?hi0_1 (by kernel_rfl) ?hQ0_1 ?hy0_1 ?hS0_1 ?h0_1
        case hi0_1 => (simp only [List.getElem?_toArray, List.getElem?_cons_succ, List.getElem?_cons_zero]; rfl)
        case hQ0_1 => exact fun _ _ _ h => h
        case hy0_1 => (refine Or.inl ⟨by rfl, ?_⟩; intro w hSw; (try dsimp only at hSw); first | (go_simp; done) | (go_simp; with_reducible rfl))
        case hS0_1 => exact .inl HS.out
        try simp only [Act.put, List.setIfInBounds_toArray, List.set_cons_zero, List.set_cons_succ]
        refine wpEnd_pure (i := 2) (oi := ?oi2_2) (v := ?v2_2) ?hi2_2 (by kernel_rfl) ?hQ2_2 ?hy2_2 ?hS2_2 ?h2_2
        case hi2_2 => (simp only [List.getElem?_toArray, List.getElem?_cons_succ, List.getElem?_cons_zero]; rfl)
        case hQ2_2 => exact fun _ _ _ h => h
        case hy2_2 => (refine Or.inl ⟨by rfl, ?_⟩; intro w hSw; (try dsimp only at hSw); first | (go_simp; done) | (go_simp; with_reducible rfl))
        case hS2_2 => exact .inl HS.out
        try simp only [Act.put, List.setIfInBounds_toArray, List.set_cons_zero, List.set_cons_succ]
        refine wpEnd_pure (i := 3) (oi := ?oi3_3) (v := ?v3_3) ?hi3_3 (by kernel_rfl) ?hQ3_3 ?hy3_3 ?hS3_3 ?h3_3
        case hi3_3 => (simp only [List.getElem?_toArray, List.getElem?_cons_succ, List.getElem?_cons_zero]; rfl)
        case hQ3_3 => exact fun _ _ _ h => h
        case hy3_3 => (refine Or.inl ⟨by rfl, ?_⟩; intro w hSw; (try dsimp only at hSw); first | (go_simp; done) | (go_simp; with_reducible rfl))
        case hS3_3 => exact .inl HS.out
        try simp only [Act.put, List.setIfInBounds_toArray, List.set_cons_zero, List.set_cons_succ]
        refine wpEnd_pure (i := 4) (oi := ?oi4_4) (v := ?v4_4) ?hi4_4 (by kernel_rfl) ?hQ4_4 ?hy4_4 ?hS4_4 ?h4_4
        case hi4_4 => (simp only [List.getElem?_toArray, List.getElem?_cons_succ, List.getElem?_cons_zero]; rfl)
        case hQ4_4 => exact fun _ _ _ h => h
        case hy4_4 => (refine Or.inl ⟨by rfl, ?_⟩; intro w hSw; (try dsimp only at hSw); first | (go_simp; done) | (go_simp; with_reducible rfl))
        case hS4_4 => exact .inl HS.out
        try simp only [Act.put, List.setIfInBounds_toArray, List.set_cons_zero, List.set_cons_succ]
        refine wpEnd_take (i := 5) (oi := ?oi5_5) (v := ?v5_5) [6, 5] ?hi5_5 (by kernel_rfl) ?hQ5_5 ?hy5_5 ?hS5_5 ?h5_5
        case hi5_5 => (simp only [List.getElem?_toArray, List.getElem?_cons_succ, List.getElem?_cons_zero]; rfl)
        case hQ5_5 => exact fun _ _ _ h => h
        case hy5_5 => (refine Or.inl ⟨by rfl, ?_⟩; intro w hSw; (try dsimp only at hSw); first | (go_simp; done) | (go_simp; with_reducible rfl))
        case hS5_5 => exact HS.out
        try simp only [Act.put, List.setIfInBounds_toArray, List.set_cons_zero, List.set_cons_succ]
        refine wpEnd_take (i := 7) (oi := ?oi7_6) (v := ?v7_6) [8, 7] ?hi7_6 (by kernel_rfl) ?hQ7_6 ?hy7_6 ?hS7_6 ?h7_6
        case hi7_6 => (simp only [List.getElem?_toArray, List.getElem?_cons_succ, List.getElem?_cons_zero]; rfl)
        case hQ7_6 => exact fun _ _ _ h => h
        case hy7_6 => (refine yieldsIf_load_mid ?_ _ (.tmp 7) ?_ GW 0 ?_ (Value.int IntKind.i64 i :: (pad b).enc) _ (fun _ h => And.right h) Try.underlying126 rfl (by rw [List.length_cons, Sec.enc_length]; exact sizeRWrite) <;> rfl)
        case hS7_6 => exact HS.out
        try simp only [Act.put, List.setIfInBounds_toArray, List.set_cons_zero, List.set_cons_succ]
        refine wpEnd_two (i := 1) (j := 8) (by kernel_rfl) ?x24 ?y24 ?p24 ?q24 ?r24 ?s24 (fun K hK => ?_) (fun K hK => ?_)
        case p24 => (simp only [List.getElem?_toArray, List.getElem?_cons_succ, List.getElem?_cons_zero]; rfl)
        case q24 => (simp only [List.getElem?_toArray, List.getElem?_cons_succ, List.getElem?_cons_zero]; rfl)
        case r24 => rfl
        case s24 => rfl
        · skip
          refine wp_empty 96 126 (by rfl) Try.underlying96 (by kernel_rfl) ?_
          intro wa ba hba hza
          clear hza
          have g1 : W.heap.size ≤ W.heap.size := qW.size
          have qa := qW.trans (hba.mono g1)
          have l1 := ba.lt
          have l1 := ba.lt
          have hOe : Own W.heap.size 126 65 Wr.enc wa (.slice (some ⟨W.heap.size, 0, none⟩) 0 0) ([] : List Wr) := Own.of_blk ba Wr.enc_length rfl rfl g1 (by simp)
          refine hK _ _ (.inl ⟨(qa.cell (p := ⟨g, 1, none⟩) hg4).trans HS.out.1, fun j v hv => (qa.cell (p := ⟨GW, _, none⟩) hw4).trans (HS.out.2 j v hv)⟩) ?_
          clear hK K
          try simp only [Act.put, List.setIfInBounds_toArray, List.set_cons_zero, List.set_cons_succ]
          refine wpEnd_two (i := 6) (j := 8) (by kernel_rfl) ?x17 ?y17 ?p17 ?q17 ?r17 ?s17 (fun K hK => ?_) (fun K hK => ?_)
          case p17 => (simp only [List.getElem?_toArray, List.getElem?_cons_succ, List.getElem?_cons_zero]; rfl)
          case q17 => (simp only [List.getElem?_toArray, List.getElem?_cons_succ, List.getElem?_cons_zero]; rfl)
          case r17 => rfl
          case s17 => rfl
          · skip
            have hWt := HM.out.2.2.1.below qa
            refine wp_app wa (.tmp 53) (.tmp 57) 96 (by rfl) W.heap.size 126 i0 _ 65 72 Wr.enc Try.underlying96 hi hz0 hz1 hz2 rfl (by decide) Wr.enc_length Wr.enc_one _ _ [] d.wait (by rfl) hOe (by rfl) hWt (by unfold maxLen; simp; omega) (by simp; omega) qa.size ?_
            intro vb wb hOb hgb hatb
            rw [List.nil_append] at hOb
            have qb := qa.grown hgb qa.size (fun k hk => (hOe.lt k hk).1)
            clear hatb
            obtain ⟨Ab, cb, rfl⟩ := hOb.slice
            refine hK _ _ (.inl ⟨(qb.cell (p := ⟨g, 1, none⟩) hg4).trans HS.out.1, fun j v hv => (qb.cell (p := ⟨GW, _, none⟩) hw4).trans (HS.out.2 j v hv)⟩) ?_
            clear hK K
            try simp only [Act.put, List.setIfInBounds_toArray, List.set_cons_zero, List.set_cons_succ]
            refine wpEnd_one (i := 8) (o := ?o8_7) (by kernel_rfl) ?ho8_7 ?hg8_7 (fun K hK => ?_)
            case ho8_7 => (simp only [List.getElem?_toArray, List.getElem?_cons_succ, List.getElem?_cons_zero]; rfl)
            case hg8_7 => rfl
            refine wp_one 96 126 59 (by rfl) _ (by rfl) Try.underlying96 (by rw [List.length_cons, Sec.enc_length]; exact sizeRWrite) (by kernel_rfl) (by simp) (by rw [List.length_cons, Sec.enc_length]; omega) ?_
            intro wc bc hbc hzc
            clear hzc
            have g8 : W.heap.size ≤ wb.heap.size := qb.size
            have qc := qb.trans (hbc.mono g8)
            have l8 := bc.lt
            have hOb := hOb.below hbc
            refine hK _ _ (.inl ⟨(qc.cell (p := ⟨g, 1, none⟩) hg4).trans HS.out.1, fun j v hv => (qc.cell (p := ⟨GW, _, none⟩) hw4).trans (HS.out.2 j v hv)⟩) ?_
            clear hK K
            try simp only [Act.put, List.setIfInBounds_toArray, List.set_cons_zero, List.set_cons_succ]
            refine wpEnd_one (i := 9) (o := ?o9_8) (by kernel_rfl) ?ho9_8 ?hg9_8 (fun K hK => ?_)
            case ho9_8 => (simp only [List.getElem?_toArray, List.getElem?_cons_succ, List.getElem?_cons_zero]; rfl)
            case hg9_8 => rfl
            have hxc : Sl 65 Wr.enc wc (.slice (some ⟨wb.heap.size, 0, none⟩) 1 1) [(⟨i.toNat, pad b⟩ : Wr)] := Sl.of_blk bc Wr.enc_length (by simp [Wr.enc, hiN]) rfl (Nat.le_refl _)
            refine wp_app wc (.tmp 58) (.tmp 60) 96 (by rfl) W.heap.size 126 i0 _ 65 72 Wr.enc Try.underlying96 hi hz0 hz1 hz2 rfl (by decide) Wr.enc_length Wr.enc_one _ _ d.wait [(⟨i.toNat, pad b⟩ : Wr)] (by rfl) hOb (by rfl) hxc (by unfold maxLen; simp; omega) (by simp; omega) qc.size ?_
            intro vd wd hOd hgd hatd
            have qd := qc.grown hgd qc.size (fun k hk => (hOb.lt k hk).1)
            have bgd := HM.out.2.2.2.1.below qd hg4
            have xd := bgd.cell
            have yd := bgd.frozen
            obtain ⟨Ad, cd, rfl⟩ : ∃ A c, vd = .slice A (d.wait.length + 1) c := slice_snoc hOd
            have HE := Lib.hid (And.intro hOd (And.intro qd bgd))
            clear hOd hgd hatd qd bgd hOb hOe bc
            refine hK _ _ (.inr (by rfl)) ?_
            clear hK K
            try simp only [Act.put, List.setIfInBounds_toArray, List.set_cons_zero, List.set_cons_succ]
            refine wpEnd_pure (i := 10) (oi := ?oi10_9) (v := ?v10_9) ?hi10_9 (by kernel_rfl) ?hQ10_9 ?hy10_9 ?hS10_9 ?h10_9
            case hi10_9 => (simp only [List.getElem?_toArray, List.getElem?_cons_succ, List.getElem?_cons_zero]; rfl)
            case hQ10_9 => exact fun _ _ _ h => h
            case hy10_9 => (refine Or.inl ⟨by rfl, ?_⟩; intro w hSw; (try dsimp only at hSw); first | (go_simp; done) | (go_simp; with_reducible rfl))
            case hS10_9 => exact .inr (by rfl)
            try simp only [Act.put, List.setIfInBounds_toArray, List.set_cons_zero, List.set_cons_succ]
            refine wpEnd_pure (i := 11) (oi := ?oi11_10) (v := ?v11_10) ?hi11_10 (by kernel_rfl) ?hQ11_10 ?hy11_10 ?hS11_10 ?h11_10
            case hi11_10 => (simp only [List.getElem?_toArray, List.getElem?_cons_succ, List.getElem?_cons_zero]; rfl)
            case hQ11_10 => exact fun _ _ _ h => h
            case hy11_10 => (refine Or.inl ⟨by rfl, ?_⟩; intro w hSw; (try dsimp only at hSw); first | (go_simp; done) | (go_simp; with_reducible rfl))
            case hS11_10 => exact .inr (by rfl)
            try simp only [Act.put, List.setIfInBounds_toArray, List.set_cons_zero, List.set_cons_succ]
            refine wpEnd_one (i := 12) (o := ?o12_11) (by kernel_rfl) ?ho12_11 ?hg12_11 (fun K hK => ?_)
            case ho12_11 => (simp only [List.getElem?_toArray, List.getElem?_cons_succ, List.getElem?_cons_zero]; rfl)
            case hg12_11 => rfl
            go_simp
            refine hK _ _ (.inr (by rfl)) ?_
            clear hK K
            try simp only [Act.put, List.setIfInBounds_toArray, List.set_cons_zero, List.set_cons_succ]
            refine wpEnd_done (by kernel_rfl) ?_ _
            go_wp2
            go_ret
            obtain ⟨hOd, qd, bgd⟩ := HE.out
            obtain ⟨M4, hs4, _, _, _⟩ := HM.out
            obtain ⟨hok2, e1, e2⟩ := HK2.out
            have hF0 := HF.out
            have hsd := hs4.below qd
            have bg8 := bgd.set_ 1 (.slice Ad (d.wait.length + 1) cd)
            have hs8 := hsd.far (p := ⟨g, 1, none⟩) hsne (.slice Ad (d.wait.length + 1) cd)
            have hO8 := (hOd.far (p := ⟨g, 1, none⟩) (hOd.ne_blk bgd (by decide)) (.slice Ad (d.wait.length + 1) cd)).lower hBW
            have M8 : Mod F w (wd.setCell ⟨g, 1, none⟩ (.slice Ad (d.wait.length + 1) cd)) := ((by rw [HW.out] at qd; exact M4.then_drew.then_below qd : Mod F w wd)).then_set (p := ⟨g, 1, none⟩) (.inl gF) _
            refine ⟨by rw [e1]; rfl, fun k => k = g ∨ (Value.slice As d.secs.length cs).ownBlock = some k ∨ (Value.slice Ad (d.wait.length + 1) cd).ownBlock = some k, ?_, M8, ?_⟩
            · rw [e2] at hok2 ⊢
              exact RP.mk' bg8 rfl HL1.out (by simp only [Dk.burn_secs]) (by simp) (by simp only [Dk.burn_secs]; exact hs8) hO8 hg hok2
            · rintro k (rfl | h | h)
              · exact .inl gF
              · exact .inl ((hF0 k).2 (.inr (.inl h)))
              · right
                have h1 := (hOd.lt k h).1
                have h2 := M4.size
                have h3 := HZ.out
                omega
          · skip
            refine wp_one 96 126 59 (by rfl) _ (by rfl) Try.underlying96 (by rw [List.length_cons, Sec.enc_length]; exact sizeRWrite) (by kernel_rfl) (by simp) (by rw [List.length_cons, Sec.enc_length]; omega) ?_
            intro wc bc hbc hzc
            clear hzc
            have g8 : W.heap.size ≤ wa.heap.size := qa.size
            have qc := qa.trans (hbc.mono g8)
            have l8 := bc.lt
            have hOe := hOe.below hbc
            refine hK _ _ (.inl ⟨(qc.cell (p := ⟨g, 1, none⟩) hg4).trans HS.out.1, fun j v hv => (qc.cell (p := ⟨GW, _, none⟩) hw4).trans (HS.out.2 j v hv)⟩) ?_
            clear hK K
            try simp only [Act.put, List.setIfInBounds_toArray, List.set_cons_zero, List.set_cons_succ]
            refine wpEnd_one (i := 6) (o := ?o6_12) (by kernel_rfl) ?ho6_12 ?hg6_12 (fun K hK => ?_)
            case ho6_12 => (simp only [List.getElem?_toArray, List.getElem?_cons_succ, List.getElem?_cons_zero]; rfl)
            case hg6_12 => rfl
            have hWt := HM.out.2.2.1.below qc
            refine wp_app wc (.tmp 53) (.tmp 57) 96 (by rfl) W.heap.size 126 i0 _ 65 72 Wr.enc Try.underlying96 hi hz0 hz1 hz2 rfl (by decide) Wr.enc_length Wr.enc_one _ _ [] d.wait (by rfl) hOe (by rfl) hWt (by unfold maxLen; simp; omega) (by simp; omega) qc.size ?_
            intro vb wb hOb hgb hatb
            rw [List.nil_append] at hOb
            have qb := qc.grown hgb qc.size (fun k hk => (hOe.lt k hk).1)
            clear hatb
            have bc := bc.grown hgb (by simp [Value.ownBlock]; omega)
            obtain ⟨Ab, cb, rfl⟩ := hOb.slice
            refine hK _ _ (.inl ⟨(qb.cell (p := ⟨g, 1, none⟩) hg4).trans HS.out.1, fun j v hv => (qb.cell (p := ⟨GW, _, none⟩) hw4).trans (HS.out.2 j v hv)⟩) ?_
            clear hK K
            try simp only [Act.put, List.setIfInBounds_toArray, List.set_cons_zero, List.set_cons_succ]
            refine wpEnd_one (i := 9) (o := ?o9_13) (by kernel_rfl) ?ho9_13 ?hg9_13 (fun K hK => ?_)
            case ho9_13 => (simp only [List.getElem?_toArray, List.getElem?_cons_succ, List.getElem?_cons_zero]; rfl)
            case hg9_13 => rfl
            have hxc : Sl 65 Wr.enc wb (.slice (some ⟨wa.heap.size, 0, none⟩) 1 1) [(⟨i.toNat, pad b⟩ : Wr)] := Sl.of_blk bc Wr.enc_length (by simp [Wr.enc, hiN]) rfl (Nat.le_refl _)
            refine wp_app wb (.tmp 58) (.tmp 60) 96 (by rfl) W.heap.size 126 i0 _ 65 72 Wr.enc Try.underlying96 hi hz0 hz1 hz2 rfl (by decide) Wr.enc_length Wr.enc_one _ _ d.wait [(⟨i.toNat, pad b⟩ : Wr)] (by rfl) hOb (by rfl) hxc (by unfold maxLen; simp; omega) (by simp; omega) qb.size ?_
            intro vd wd hOd hgd hatd
            have qd := qb.grown hgd qb.size (fun k hk => (hOb.lt k hk).1)
            have bgd := HM.out.2.2.2.1.below qd hg4
            have xd := bgd.cell
            have yd := bgd.frozen
            obtain ⟨Ad, cd, rfl⟩ : ∃ A c, vd = .slice A (d.wait.length + 1) c := slice_snoc hOd
            have HE := Lib.hid (And.intro hOd (And.intro qd bgd))
            clear hOd hgd hatd qd bgd hOb hOe bc
            refine hK _ _ (.inr (by rfl)) ?_
            clear hK K
            try simp only [Act.put, List.setIfInBounds_toArray, List.set_cons_zero, List.set_cons_succ]
            refine wpEnd_pure (i := 10) (oi := ?oi10_14) (v := ?v10_14) ?hi10_14 (by kernel_rfl) ?hQ10_14 ?hy10_14 ?hS10_14 ?h10_14
            case hi10_14 => (simp only [List.getElem?_toArray, List.getElem?_cons_succ, List.getElem?_cons_zero]; rfl)
            case hQ10_14 => exact fun _ _ _ h => h
            case hy10_14 => (refine Or.inl ⟨by rfl, ?_⟩; intro w hSw; (try dsimp only at hSw); first | (go_simp; done) | (go_simp; with_reducible rfl))
            case hS10_14 => exact .inr (by rfl)
            try simp only [Act.put, List.setIfInBounds_toArray, List.set_cons_zero, List.set_cons_succ]
            refine wpEnd_pure (i := 11) (oi := ?oi11_15) (v := ?v11_15) ?hi11_15 (by kernel_rfl) ?hQ11_15 ?hy11_15 ?hS11_15 ?h11_15
            case hi11_15 => (simp only [List.getElem?_toArray, List.getElem?_cons_succ, List.getElem?_cons_zero]; rfl)
            case hQ11_15 => exact fun _ _ _ h => h
            case hy11_15 => (refine Or.inl ⟨by rfl, ?_⟩; intro w hSw; (try dsimp only at hSw); first | (go_simp; done) | (go_simp; with_reducible rfl))
            case hS11_15 => exact .inr (by rfl)
            try simp only [Act.put, List.setIfInBounds_toArray, List.set_cons_zero, List.set_cons_succ]
            refine wpEnd_one (i := 12) (o := ?o12_16) (by kernel_rfl) ?ho12_16 ?hg12_16 (fun K hK => ?_)
            case ho12_16 => (simp only [List.getElem?_toArray, List.getElem?_cons_succ, List.getElem?_cons_zero]; rfl)
            case hg12_16 => rfl
            go_simp
            refine hK _ _ (.inr (by rfl)) ?_
            clear hK K
            try simp only [Act.put, List.setIfInBounds_toArray, List.set_cons_zero, List.set_cons_succ]
            refine wpEnd_done (by kernel_rfl) ?_ _
            go_wp2
            go_ret
            obtain ⟨hOd, qd, bgd⟩ := HE.out
            obtain ⟨M4, hs4, _, _, _⟩ := HM.out
            obtain ⟨hok2, e1, e2⟩ := HK2.out
            have hF0 := HF.out
            have hsd := hs4.below qd
            have bg8 := bgd.set_ 1 (.slice Ad (d.wait.length + 1) cd)
            have hs8 := hsd.far (p := ⟨g, 1, none⟩) hsne (.slice Ad (d.wait.length + 1) cd)
            have hO8 := (hOd.far (p := ⟨g, 1, none⟩) (hOd.ne_blk bgd (by decide)) (.slice Ad (d.wait.length + 1) cd)).lower hBW
            have M8 : Mod F w (wd.setCell ⟨g, 1, none⟩ (.slice Ad (d.wait.length + 1) cd)) := ((by rw [HW.out] at qd; exact M4.then_drew.then_below qd : Mod F w wd)).then_set (p := ⟨g, 1, none⟩) (.inl gF) _
            refine ⟨by rw [e1]; rfl, fun k => k = g ∨ (Value.slice As d.secs.length cs).ownBlock = some k ∨ (Value.slice Ad (d.wait.length + 1) cd).ownBlock = some k, ?_, M8, ?_⟩
            · rw [e2] at hok2 ⊢
              exact RP.mk' bg8 rfl HL1.out (by simp only [Dk.burn_secs]) (by simp) (by simp only [Dk.burn_secs]; exact hs8) hO8 hg hok2
            · rintro k (rfl | h | h)
              · exact .inl gF
              · exact .inl ((hF0 k).2 (.inr (.inl h)))
              · right
                have h1 := (hOd.lt k h).1
                have h2 := M4.size
                have h3 := HZ.out
                omega
        · skip
          refine wp_one 96 126 59 (by rfl) _ (by rfl) Try.underlying96 (by rw [List.length_cons, Sec.enc_length]; exact sizeRWrite) (by kernel_rfl) (by simp) (by rw [List.length_cons, Sec.enc_length]; omega) ?_
          intro wc bc hbc hzc
          clear hzc
          have g8 : W.heap.size ≤ W.heap.size := qW.size
          have qc := qW.trans (hbc.mono g8)
          have l8 := bc.lt
          refine hK _ _ (.inl ⟨(qc.cell (p := ⟨g, 1, none⟩) hg4).trans HS.out.1, fun j v hv => (qc.cell (p := ⟨GW, _, none⟩) hw4).trans (HS.out.2 j v hv)⟩) ?_
          clear hK K
          try simp only [Act.put, List.setIfInBounds_toArray, List.set_cons_zero, List.set_cons_succ]
          refine wpEnd_one (i := 1) (o := ?o1_18) (by kernel_rfl) ?ho1_18 ?hg1_18 (fun K hK => ?_)
          case ho1_18 => (simp only [List.getElem?_toArray, List.getElem?_cons_succ, List.getElem?_cons_zero]; rfl)
          case hg1_18 => rfl
          refine wp_empty 96 126 (by rfl) Try.underlying96 (by kernel_rfl) ?_
          intro wa ba hba hza
          clear hza
          have g1 : W.heap.size ≤ wc.heap.size := qc.size
          have qa := qc.trans (hba.mono g1)
          have l1 := ba.lt
          have l1 := ba.lt
          have hOe : Own W.heap.size 126 65 Wr.enc wa (.slice (some ⟨wc.heap.size, 0, none⟩) 0 0) ([] : List Wr) := Own.of_blk ba Wr.enc_length rfl rfl g1 (by simp)
          have bc := bc.below hba bc.lt
          refine hK _ _ (.inl ⟨(qa.cell (p := ⟨g, 1, none⟩) hg4).trans HS.out.1, fun j v hv => (qa.cell (p := ⟨GW, _, none⟩) hw4).trans (HS.out.2 j v hv)⟩) ?_
          clear hK K
          try simp only [Act.put, List.setIfInBounds_toArray, List.set_cons_zero, List.set_cons_succ]
          refine wpEnd_one (i := 6) (o := ?o6_19) (by kernel_rfl) ?ho6_19 ?hg6_19 (fun K hK => ?_)
          case ho6_19 => (simp only [List.getElem?_toArray, List.getElem?_cons_succ, List.getElem?_cons_zero]; rfl)
          case hg6_19 => rfl
          have hWt := HM.out.2.2.1.below qa
          refine wp_app wa (.tmp 53) (.tmp 57) 96 (by rfl) W.heap.size 126 i0 _ 65 72 Wr.enc Try.underlying96 hi hz0 hz1 hz2 rfl (by decide) Wr.enc_length Wr.enc_one _ _ [] d.wait (by rfl) hOe (by rfl) hWt (by unfold maxLen; simp; omega) (by simp; omega) qa.size ?_
          intro vb wb hOb hgb hatb
          rw [List.nil_append] at hOb
          have qb := qa.grown hgb qa.size (fun k hk => (hOe.lt k hk).1)
          clear hatb
          have bc := bc.grown hgb (by simp [Value.ownBlock]; omega)
          obtain ⟨Ab, cb, rfl⟩ := hOb.slice
          refine hK _ _ (.inl ⟨(qb.cell (p := ⟨g, 1, none⟩) hg4).trans HS.out.1, fun j v hv => (qb.cell (p := ⟨GW, _, none⟩) hw4).trans (HS.out.2 j v hv)⟩) ?_
          clear hK K
          try simp only [Act.put, List.setIfInBounds_toArray, List.set_cons_zero, List.set_cons_succ]
          refine wpEnd_one (i := 9) (o := ?o9_20) (by kernel_rfl) ?ho9_20 ?hg9_20 (fun K hK => ?_)
          case ho9_20 => (simp only [List.getElem?_toArray, List.getElem?_cons_succ, List.getElem?_cons_zero]; rfl)
          case hg9_20 => rfl
          have hxc : Sl 65 Wr.enc wb (.slice (some ⟨W.heap.size, 0, none⟩) 1 1) [(⟨i.toNat, pad b⟩ : Wr)] := Sl.of_blk bc Wr.enc_length (by simp [Wr.enc, hiN]) rfl (Nat.le_refl _)
          refine wp_app wb (.tmp 58) (.tmp 60) 96 (by rfl) W.heap.size 126 i0 _ 65 72 Wr.enc Try.underlying96 hi hz0 hz1 hz2 rfl (by decide) Wr.enc_length Wr.enc_one _ _ d.wait [(⟨i.toNat, pad b⟩ : Wr)] (by rfl) hOb (by rfl) hxc (by unfold maxLen; simp; omega) (by simp; omega) qb.size ?_
          intro vd wd hOd hgd hatd
          have qd := qb.grown hgd qb.size (fun k hk => (hOb.lt k hk).1)
          have bgd := HM.out.2.2.2.1.below qd hg4
          have xd := bgd.cell
          have yd := bgd.frozen
          obtain ⟨Ad, cd, rfl⟩ : ∃ A c, vd = .slice A (d.wait.length + 1) c := slice_snoc hOd
          have HE := Lib.hid (And.intro hOd (And.intro qd bgd))
          clear hOd hgd hatd qd bgd hOb hOe bc
          refine hK _ _ (.inr (by rfl)) ?_
          clear hK K
          try simp only [Act.put, List.setIfInBounds_toArray, List.set_cons_zero, List.set_cons_succ]
          refine wpEnd_pure (i := 10) (oi := ?oi10_21) (v := ?v10_21) ?hi10_21 (by kernel_rfl) ?hQ10_21 ?hy10_21 ?hS10_21 ?h10_21
          case hi10_21 => (simp only [List.getElem?_toArray, List.getElem?_cons_succ, List.getElem?_cons_zero]; rfl)
          case hQ10_21 => exact fun _ _ _ h => h
          case hy10_21 => (refine Or.inl ⟨by rfl, ?_⟩; intro w hSw; (try dsimp only at hSw); first | (go_simp; done) | (go_simp; with_reducible rfl))
          case hS10_21 => exact .inr (by rfl)
          try simp only [Act.put, List.setIfInBounds_toArray, List.set_cons_zero, List.set_cons_succ]
          refine wpEnd_pure (i := 11) (oi := ?oi11_22) (v := ?v11_22) ?hi11_22 (by kernel_rfl) ?hQ11_22 ?hy11_22 ?hS11_22 ?h11_22
          case hi11_22 => (simp only [List.getElem?_toArray, List.getElem?_cons_succ, List.getElem?_cons_zero]; rfl)
          case hQ11_22 => exact fun _ _ _ h => h
          case hy11_22 => (refine Or.inl ⟨by rfl, ?_⟩; intro w hSw; (try dsimp only at hSw); first | (go_simp; done) | (go_simp; with_reducible rfl))
          case hS11_22 => exact .inr (by rfl)
          try simp only [Act.put, List.setIfInBounds_toArray, List.set_cons_zero, List.set_cons_succ]
          refine wpEnd_one (i := 12) (o := ?o12_23) (by kernel_rfl) ?ho12_23 ?hg12_23 (fun K hK => ?_)
          case ho12_23 => (simp only [List.getElem?_toArray, List.getElem?_cons_succ, List.getElem?_cons_zero]; rfl)
          case hg12_23 => rfl
          go_simp
          refine hK _ _ (.inr (by rfl)) ?_
          clear hK K
          try simp only [Act.put, List.setIfInBounds_toArray, List.set_cons_zero, List.set_cons_succ]
          refine wpEnd_done (by kernel_rfl) ?_ _
          go_wp2
          go_ret
          obtain ⟨hOd, qd, bgd⟩ := HE.out
          obtain ⟨M4, hs4, _, _, _⟩ := HM.out
          obtain ⟨hok2, e1, e2⟩ := HK2.out
          have hF0 := HF.out
          have hsd := hs4.below qd
          have bg8 := bgd.set_ 1 (.slice Ad (d.wait.length + 1) cd)
          have hs8 := hsd.far (p := ⟨g, 1, none⟩) hsne (.slice Ad (d.wait.length + 1) cd)
          have hO8 := (hOd.far (p := ⟨g, 1, none⟩) (hOd.ne_blk bgd (by decide)) (.slice Ad (d.wait.length + 1) cd)).lower hBW
          have M8 : Mod F w (wd.setCell ⟨g, 1, none⟩ (.slice Ad (d.wait.length + 1) cd)) := ((by rw [HW.out] at qd; exact M4.then_drew.then_below qd : Mod F w wd)).then_set (p := ⟨g, 1, none⟩) (.inl gF) _
          refine ⟨by rw [e1]; rfl, fun k => k = g ∨ (Value.slice As d.secs.length cs).ownBlock = some k ∨ (Value.slice Ad (d.wait.length + 1) cd).ownBlock = some k, ?_, M8, ?_⟩
          · rw [e2] at hok2 ⊢
            exact RP.mk' bg8 rfl HL1.out (by simp only [Dk.burn_secs]) (by simp) (by simp only [Dk.burn_secs]; exact hs8) hO8 hg hok2
          · rintro k (rfl | h | h)
            · exact .inl gF
            · exact .inl ((hF0 k).2 (.inr (.inl h)))
            · right
              have h1 := (hOd.lt k h).1
              have h2 := M4.size
              have h3 := HZ.out
              omega
end Go.Proofs.Ytaledjcbblgmeaa
