/- The program's disk: Write. -/
import Derived.Test.YtaledjcbblgmeaaDkP
import Derived.Test.YtaledjcbblgmeaaBy
import Derived.Test.YtaledjcbblgmeaaOrd
namespace Go.Proofs.Ytaledjcbblgmeaa
open Go.RowKit

theorem infoWrite : (Try.prog.info? 93).map (fun i => (i.zero, i.size, i.bytes)) = some (some (.agg ((Wr.enc ⟨0, Sec.zero⟩).toArray)), 65, 72) := by kernel_rfl
theorem sizeWrite : (Try.prog.info? 93).map (·.size) = some 65 := by kernel_rfl
theorem zeroWrite : ((Try.prog.info? 93).bind (·.zero)).map (·.cells) = some (Wr.enc ⟨0, Sec.zero⟩).toArray := by kernel_rfl
theorem builtWrite (i : Int) : Try.prog.built 93 [(0, .int .i64 i)] = some ((.int .i64 i :: Sec.zero.enc).toArray) := by kernel_rfl
theorem sizeByte : (Try.prog.info? 5).map (·.size) = some 1 := by kernel_rfl

theorem Sl.src {w : World} {A : Option Addr} {n c : Nat} {l : List UInt8} (h : SlU w (.slice A n c) l) : 0 < l.length → ∃ ad, A = some ad ∧ ∀ j v, (byteE l)[j]? = some v → w.cell? (ad.add j) = some v := fun hp => by
  obtain ⟨g, o, rfl, _, _⟩ := h.at_ (List.getElem?_eq_getElem hp)
  refine ⟨_, rfl, fun j v hv => ?_⟩
  rw [plain_add]
  unfold byteE at hv
  rw [List.getElem?_map] at hv
  cases hj : l[j]? with
  | none => rw [hj] at hv; cases hv
  | some x =>
    rw [hj] at hv
    have := h.cell hj 0 _ rfl
    rw [Nat.mul_one, Nat.add_zero] at this
    rw [this]
    simpa using hv

theorem splice_pad (v : Value) (b : List UInt8) (h : b.length ≤ 64) : splice (v :: Sec.zero.enc) 1 (byteE b) = v :: (pad b).enc := by
  unfold splice Sec.enc
  rw [pad_l h, byteE_length]
  have e : Sec.zero.l = List.replicate 64 0 := by unfold Sec.zero; rw [pad_l (by simp)]; simp
  rw [e]
  rw [show 1 + b.length = b.length + 1 by omega]
  unfold byteE
  rw [List.take_succ_cons, List.take_zero, List.drop_succ_cons, List.map_append, List.map_replicate, List.map_replicate, List.drop_replicate]
  rfl
def WritePost (B g : Nat) (d : Dk) (F : Nat → Prop) (i : Int) (b : List UInt8) (w : World) (e : Ending) (w' : World) : Prop :=
  e = .returned (.int .i64 (d.writeE i b)) ∧ ∃ F', DP w' B g (d.write i b) F' ∧ Upd F w F' w'

set_option maxRecDepth 100000 in
set_option maxHeartbeats 2000000 in
theorem disk_Write (B g : Nat) (d : Dk) (F : Nat → Prop) (i : Int) (b : List UInt8) (A : Option Addr) (n c : Nat) (w : World) (h : DP w B g d F) (hS : SlU w (.slice A n c) b) (hA : 0 < b.length → ∀ k o, A = some ⟨k, o, none⟩ → ¬ F k) (hB : B ≤ w.heap.size)
    (hw : d.wait.length ≤ 1000000) :
    Calls Try.prog 19 #[.pointer (some ⟨g, 0, none⟩), .int .i64 i, .slice A n c] w (WritePost B g d F i b w) := by
  obtain ⟨As, cs, Aw, cw, hb, hs, hv, hg, hok, hF⟩ := h
  have HL := disk_look g i w _ As _ cs _ _ hb hok.2.1
  have hlk : (if d.off = true then 7 else if i < 0 ∨ (d.secs.length : Int) ≤ i then 2 else 0 : Int) = d.look i := rfl
  rw [hlk] at HL
  obtain rfl : n = _ := hS.len.1
  by_cases hl : d.look i ≠ 0
  · have e1 : d.writeE i b = d.look i := by unfold Dk.writeE; rw [if_pos hl]
    have e2 : d.write i b = d := by unfold Dk.write; rw [if_pos hl]
    have P : WritePost B g d F i b w (.returned (.int .i64 (d.look i))) w := ⟨by rw [e1], F, by rw [e2]; exact ⟨As, cs, Aw, cw, hb, hs, hv, hg, hok, hF⟩, Upd.refl _ _⟩
    generalize d.look i = L at *
    have z : (L == 0) = false := beq_eq_false_iff_ne.2 hl
    have HH := Lib.hid HL
    have HP := Lib.hid P
    clear hb hs hv hF e1 e2 hlk HL P hok hS
    go_enter Try.func19, Try.ntmps19
    go_wp2_with fail
    refine HH.out.mono ?_
    rintro e w' ⟨rfl, rfl⟩
    go_wp2
    go_ret
    exact HP.out
  have hl : d.look i = 0 := Classical.not_not.1 hl
  rw [hl] at HL
  by_cases h64 : 64 < b.length
  · have e1 : d.writeE i b = 3 := by unfold Dk.writeE; rw [if_neg (by simp [hl]), if_pos h64]
    have e2 : d.write i b = d := by unfold Dk.write; rw [if_neg (by simp [hl]), if_pos h64]
    have P : WritePost B g d F i b w (.returned (.int .i64 3)) w := ⟨by rw [e1], F, by rw [e2]; exact ⟨As, cs, Aw, cw, hb, hs, hv, hg, hok, hF⟩, Upd.refl _ _⟩
    have z : (64 : Int) < (b.length : Int) := by omega
    have HH := Lib.hid HL
    have HP := Lib.hid P
    clear hb hs hv hF e1 e2 hlk HL P hok hS
    go_enter Try.func19, Try.ntmps19
    go_wp2_with fail
    refine HH.out.mono ?_
    rintro e w' ⟨rfl, rfl⟩
    go_wp2
    go_ret
    exact HP.out
  have HU := disk_burn g w (.slice As d.secs.length cs) (.slice Aw d.wait.length cw) d hb hok
  have z : ¬ (64 : Int) < (b.length : Int) := by omega
  have gF : F g := (hF g).2 (.inl rfl)
  have hsne := hs.ne_blk hb (by decide)
  have hvne := hv.ne_blk hb (by decide)
  cases hbu : d.burnt with
  | false =>
    have e1 : d.writeE i b = 7 := by unfold Dk.writeE; rw [if_neg (by simp [hl]), if_neg h64, if_neg (by simp [hbu])]
    have e2 : d.write i b = d.burn := by unfold Dk.write; rw [if_neg (by simp [hl]), if_neg h64, if_neg (by simp [hbu])]
    have P : ∀ w', Blk w' g 89 #[.slice As d.secs.length cs, .slice Aw d.wait.length cw, .int .i64 (fuseI d.burn.fuse), .bool d.burn.off] → Mod (· = g) w w' → WritePost B g d F i b w (.returned (.int .i64 7)) w' := fun w' h1 h2 => by
      refine ⟨by rw [e1], F, ?_, h2.wider (fun i hi => by subst hi; exact gF), fun i hi => .inl hi⟩
      rw [e2]
      refine ⟨As, cs, Aw, cw, ?_, ?_, ?_, hg, Dk.ok_burn hok, ?_⟩
      · rw [Dk.burn_secs, Dk.burn_wait]; exact h1
      · rw [Dk.burn_secs]; exact hs.mod h2 (fun k hk e => hsne (by rw [hk, e]))
      · rw [Dk.burn_wait]; exact hv.mod h2 (fun k hk e => hvne (by rw [hk, e]))
      · rw [Dk.burn_secs, Dk.burn_wait]; exact hF
    have HH := Lib.hid HL
    have HP := Lib.hid P
    have HUU := Lib.hid HU
    clear hb hs hv hF e1 e2 hlk HL P hok hS HU hsne hvne hl
    go_enter Try.func19, Try.ntmps19
    go_wp2_with fail
    refine HH.out.mono ?_
    rintro e w' ⟨rfl, rfl⟩
    go_wp2_with fail
    refine HUU.out.mono ?_
    rintro e w1 ⟨rfl, hb1, hm1, _⟩
    have P := Lib.hid (HP.out w1 hb1 hm1)
    clear hb1 hm1 HP HUU HH
    rw [hbu]
    go_wp2
    go_ret
    exact P.out
  | true =>
    have e1 : d.writeE i b = 0 := by unfold Dk.writeE; rw [if_neg (by simp [hl]), if_neg h64, if_pos hbu]
    have e2 : d.write i b = { d.burn with wait := d.wait ++ [⟨i.toNat, pad b⟩] } := by unfold Dk.write; rw [if_neg (by simp [hl]), if_neg h64, if_pos hbu]
    have hok2 := Dk.ok_write hok i b
    have HH := Lib.hid HL
    have HUU := Lib.hid HU
    have hi0 : 0 ≤ i ∧ i < d.secs.length := by
      have := hl
      unfold Dk.look at this
      split at this
      · simp at this
      · split at this
        · simp at this
        · omega
    have hiN : (i.toNat : Int) = i := by omega
    have hws := builtWrite i
    clear hlk HL HU hl
    go_enter Try.func19, Try.ntmps19
    go_wp2_with fail
    refine HH.out.mono ?_
    rintro e w' ⟨rfl, rfl⟩
    go_wp2_with fail
    refine HUU.out.mono ?_
    rintro e w1 ⟨rfl, hb1, hm1, hz1⟩
    clear hz1
    rw [hbu]
    have hs1 := hs.mod hm1 (fun k hk e => hsne (by rw [hk, e]))
    have hv1 := hv.mod hm1 (fun k hk e => hvne (by rw [hk, e]))
    have hS1 : SlU w1 (.slice A b.length c) b := hS.mod hm1 (fun hp k o hk e => hA hp k o hk (by rw [e]; exact gF))
    have hg1 := hb1.lt
    have M1 : Mod F w w1 := hm1.wider (fun k e => by subst e; exact gF)
    have hn1 : ∀ k, F k → k < w1.heap.size := fun k hk => by
      rcases (hF k).1 hk with rfl | h | h
      · exact hg1
      · exact (hs1.lt k h).2
      · exact (hv1.lt k h).2
    have hA1 : 0 < b.length → ∀ k o, A = some ⟨k, o, none⟩ → k < w1.heap.size := fun hp k o hk => by subst hk; exact hS1.lt hp
    have HK := Lib.hid (And.intro hs1 (And.intro hv1 (And.intro hb1 (And.intro hS1 (And.intro M1 (And.intro hn1 (And.intro hs (And.intro hv (And.intro hb hF)))))))))
    have HK2 := Lib.hid (And.intro hok2 (And.intro e1 e2))
    clear hs1 hv1 hb1 hm1 hS1 M1 hn1 hs hv hb hF e1 e2 hok hok2 hA HH HUU hS
    go_wp2_with (first
      | (refine wpList_alloc_blk rfl 93 (by rfl) _ zeroWrite ?_; intro w2 b2 hb2 hz2; clear hz2)
      | (refine wpList_store_blk rfl 93 _ _ (by rfl) w1.heap.size 0 (by rfl) _ (by rfl) (.int .i64 i :: Sec.zero.enc) (by rfl) 93 (Wr.enc ⟨0, Sec.zero⟩) b2 (by rw [List.length_cons, Sec.enc_length]; exact sizeWrite) (by rw [List.length_cons, Sec.enc_length, Wr.enc_length]; omega) (fun v hv => by rcases List.mem_cons.1 hv with rfl | h; rfl; exact Sec.enc_one _ v h) ?_; intro w3 b3 hm3 hz3; clear hz3; rw [splice_whole _ _ (by rw [List.length_cons, Sec.enc_length, Wr.enc_length])] at b3
         have hS3 : SlU w3 (.slice A b.length c) b := (HK.out.2.2.2.1.below hb2).mod hm3 (fun hp k o hk e => by have := hA1 hp k o hk; omega))
      | (refine wpList_copy_blk rfl (.tmp 24) (.tmp 25) _ _ (by rfl) 5 Try.underlying31 sizeByte w1.heap.size 1 64 64 A b.length c (by rfl) (by rfl) 93 _ b3 (byteE b) (by rw [byteE_length]; show _ = min _ _; omega) (by rw [byteE_length]; exact hS3.src) (by rw [List.length_cons, Sec.enc_length, byteE_length]; omega) (byteE_one b) ?_; intro w4 b4 hm4 hz4; clear hz4; rw [splice_pad _ _ (by omega)] at b4))
    rw [byteE_length]
    obtain ⟨hs1, hv1, bg1, _, M1, hn1, _, _, _, hF0⟩ := HK.out
    have no : ∀ k, k < w1.heap.size → k ≠ w1.heap.size := fun k hk => by omega
    have keep : ∀ {g' t' cs'}, Blk w1 g' t' cs' → Blk w4 g' t' cs' := fun h => ((h.below hb2 h.lt).mod hm3 (no _ h.lt)).mod hm4 (no _ h.lt)
    have bg4 := keep bg1
    have hs4 := ((hs1.below hb2).mod hm3 (fun k hk => no _ (hs1.lt k hk).2)).mod hm4 (fun k hk => no _ (hs1.lt k hk).2)
    have hv4 := ((hv1.below hb2).mod hm3 (fun k hk => no _ (hv1.lt k hk).2)).mod hm4 (fun k hk => no _ (hv1.lt k hk).2)
    have M4 : Mod F w w4 := ((M1.then_below hb2).trans hm3 (fun k e => .inr (by subst e; exact M1.size))).trans hm4 (fun k e => .inr (by subst e; exact M1.size))
    have hrg := b4.drew.range 0 (Value.int IntKind.i64 i :: (pad b).enc) (fun j v hv => by rw [Nat.zero_add]; exact hv)
    have HS := Lib.hid (And.intro (bg4.drew.cell 1) hrg)
    have hw4 := b4.lt
    have HM := Lib.hid (And.intro M4 (And.intro hs4 (And.intro hv4.drew bg4.drew)))
    have HV := Lib.hid hv4
    have hv4lt : ∀ k, (Value.slice Aw d.wait.length cw).ownBlock = some k → k ≠ w1.heap.size := fun k hk => by have := (hv1.lt k hk).2; omega
    have hg4 := bg4.lt
    have HF0 := Lib.hid hF0
    clear hs1 hv1 bg1 M1 hn1 hF0 hs4 hv4 bg4 M4 keep no hm3 hm4 hb2 b2 b3 b4 hS3 HK hrg
    obtain ⟨i0, hi, hz0, hz1, hz2⟩ := info_parts infoWrite
    refine wp_region_end (fun w' => w'.cell? ⟨g, 1, none⟩ = some (.slice Aw d.wait.length cw) ∧ w'.rangeAt w1.heap.size 0 (Value.int IntKind.i64 i :: (pad b).enc)) 7 (by kernel_rfl) ?_
    refine wpEnd_pure (i := 0) (oi := ?oi_0) (v := ?v_0) ?hi_0 (by kernel_rfl) ?hQ_0 ?hy_0 ?hS_0 ?h_0
    case hi_0 => (simp only [List.getElem?_toArray, List.getElem?_cons_succ, List.getElem?_cons_zero]; rfl)
    case hQ_0 => exact fun _ _ _ h => h
    case hy_0 => (refine Or.inl ⟨by rfl, ?_⟩; intro w hSw; (try dsimp only at hSw); first | (go_simp; done) | (go_simp; with_reducible rfl))
    case hS_0 => exact .inl (by exact HS.out)
    try simp only [Act.put, List.setIfInBounds_toArray, List.set_cons_zero, List.set_cons_succ]
    refine wpEnd_pure (i := 1) (oi := ?oi_1) (v := ?v_1) ?hi_1 (by kernel_rfl) ?hQ_1 ?hy_1 ?hS_1 ?h_1
    case hi_1 => (simp only [List.getElem?_toArray, List.getElem?_cons_succ, List.getElem?_cons_zero]; rfl)
    case hQ_1 => exact fun _ _ _ h => h
    case hy_1 => (refine Or.inl ⟨by rfl, ?_⟩; intro w hSw; (try dsimp only at hSw); first | (go_simp; done) | (go_simp; with_reducible rfl))
    case hS_1 => exact .inl (by exact HS.out)
    try simp only [Act.put, List.setIfInBounds_toArray, List.set_cons_zero, List.set_cons_succ]
    refine wpEnd_pure (i := 2) (oi := ?oi_2) (v := ?v_2) ?hi_2 (by kernel_rfl) ?hQ_2 ?hy_2 ?hS_2 ?h_2
    case hi_2 => (simp only [List.getElem?_toArray, List.getElem?_cons_succ, List.getElem?_cons_zero]; rfl)
    case hQ_2 => exact fun _ _ _ h => h
    case hy_2 => (refine Or.inl ⟨by rfl, ?_⟩; intro w hSw; (try dsimp only at hSw); first | (go_simp; done) | (go_simp; with_reducible rfl))
    case hS_2 => exact .inl (by exact HS.out)
    try simp only [Act.put, List.setIfInBounds_toArray, List.set_cons_zero, List.set_cons_succ]
    refine wpEnd_pure (i := 3) (oi := ?oi_3) (v := ?v_3) ?hi_3 (by kernel_rfl) ?hQ_3 ?hy_3 ?hS_3 ?h_3
    case hi_3 => (simp only [List.getElem?_toArray, List.getElem?_cons_succ, List.getElem?_cons_zero]; rfl)
    case hQ_3 => exact fun _ _ _ h => h
    case hy_3 => (refine Or.inl ⟨by rfl, ?_⟩; intro w hSw; (try dsimp only at hSw); first | (go_simp; done) | (go_simp; with_reducible rfl))
    case hS_3 => exact .inl (by exact HS.out)
    try simp only [Act.put, List.setIfInBounds_toArray, List.set_cons_zero, List.set_cons_succ]
    refine wpEnd_take (i := 4) (oi := ?oi_4) (v := ?v_4) [4] ?hi_4 (by kernel_rfl) ?hQ_4 ?hy_4 ?hS_4 ?h_4
    case hi_4 => (simp only [List.getElem?_toArray, List.getElem?_cons_succ, List.getElem?_cons_zero]; rfl)
    case hQ_4 => exact fun _ _ _ h => h
    case hy_4 => (refine Or.inl ⟨by rfl, ?_⟩; intro w hSw; (try dsimp only at hSw); first | (go_simp; done) | (go_simp; with_reducible rfl))
    case hS_4 => exact HS.out
    try simp only [Act.put, List.setIfInBounds_toArray, List.set_cons_zero, List.set_cons_succ]
    refine wpEnd_take (i := 5) (oi := ?oi_5) (v := ?v_5) [6, 5] ?hi_5 (by kernel_rfl) ?hQ_5 ?hy_5 ?hS_5 ?h_5
    case hi_5 => (simp only [List.getElem?_toArray, List.getElem?_cons_succ, List.getElem?_cons_zero]; rfl)
    case hQ_5 => exact fun _ _ _ h => h
    case hy_5 => (refine yieldsIf_load_mid ?_ _ (.tmp 8) ?_ w1.heap.size 0 ?_ (Value.int IntKind.i64 i :: (pad b).enc) _ (fun _ h => And.right h) Try.underlying93 rfl (by rw [List.length_cons, Sec.enc_length]; exact sizeWrite) <;> rfl)
    case hS_5 => exact HS.out
    try simp only [Act.put, List.setIfInBounds_toArray, List.set_cons_zero, List.set_cons_succ]
    refine wpEnd_one (i := 6) (o := ?o_6) (by kernel_rfl) ?ho_6 ?hg_6 (fun K hK => ?_)
    case ho_6 => (simp only [List.getElem?_toArray, List.getElem?_cons_succ, List.getElem?_cons_zero]; rfl)
    case hg_6 => rfl
    refine wp_one 87 93 32 (by rfl) _ (by rfl) Try.underlying87 (by rw [List.length_cons, Sec.enc_length]; exact sizeWrite) (by kernel_rfl) (by simp) (by rw [List.length_cons, Sec.enc_length]; omega) ?_
    intro w5 b5 hb5 hz5
    clear hz5
    have hx6 : Sl 65 Wr.enc w5 (.slice (some ⟨w4.heap.size, 0, none⟩) 1 1) [⟨i.toNat, pad b⟩] := Sl.of_blk b5 Wr.enc_length (by simp [Wr.enc, hiN]) rfl (Nat.le_refl _)
    have hv6 := HM.out.2.2.1.below hb5
    have hB6 : B ≤ w5.heap.size := Nat.le_trans hB (Nat.le_trans HM.out.1.size hb5.size)
    refine hK _ _ (.inl (And.intro ((hb5.cell (p := ⟨g, 1, none⟩) hg4).trans HS.out.1) (fun j v hv => (hb5.cell (p := ⟨w1.heap.size, _, none⟩) hw4).trans (HS.out.2 j v hv)))) ?_
    clear hK K
    try simp only [Act.put, List.setIfInBounds_toArray, List.set_cons_zero, List.set_cons_succ]
    refine wpEnd_one (i := 7) (o := ?o_7) (by kernel_rfl) ?ho_7 ?hg_7 (fun K hK => ?_)
    case ho_7 => (simp only [List.getElem?_toArray, List.getElem?_cons_succ, List.getElem?_cons_zero]; rfl)
    case hg_7 => rfl
    refine wp_app w5 (.tmp 31) (.tmp 33) 87 (by rfl) B 93 i0 _ 65 72 Wr.enc Try.underlying87 hi hz0 hz1 hz2 rfl (by decide) Wr.enc_length Wr.enc_one _ _ d.wait [⟨i.toNat, pad b⟩] (by rfl) hv6 (by rfl) hx6 (by unfold maxLen; simp; omega) (by simp; omega) hB6 ?_
    intro v7 w7 hO7 hg7 hat7
    have bg7 := (HM.out.2.2.2.below hb5 hg4).grown hg7 (fun e => hvne e.symm)
    have x7 := bg7.cell
    have y7 := bg7.frozen
    obtain ⟨A7, c7, rfl⟩ : ∃ A c, v7 = .slice A (d.wait.length + 1) c := by
      obtain ⟨A7, c7, e⟩ := hO7.slice
      exact ⟨A7, c7, by rw [e, List.length_append]; rfl⟩
    have HO7 := Lib.hid (And.intro hO7 (And.intro hg7 (And.intro hat7 bg7)))
    clear hO7 hg7 hat7 bg7
    refine hK _ _ (.inr (by rfl)) ?_
    clear hK K
    try simp only [Act.put, List.setIfInBounds_toArray, List.set_cons_zero, List.set_cons_succ]
    refine wpEnd_pure (i := 8) (oi := ?oi_8) (v := ?v_8) ?hi_8 (by kernel_rfl) ?hQ_8 ?hy_8 ?hS_8 ?h_8
    case hi_8 => (simp only [List.getElem?_toArray, List.getElem?_cons_succ, List.getElem?_cons_zero]; rfl)
    case hQ_8 => exact fun _ _ _ h => h
    case hy_8 => (refine Or.inl ⟨by rfl, ?_⟩; intro w hSw; (try dsimp only at hSw); first | (go_simp; done) | (go_simp; with_reducible rfl))
    case hS_8 => exact .inr (by rfl)
    try simp only [Act.put, List.setIfInBounds_toArray, List.set_cons_zero, List.set_cons_succ]
    refine wpEnd_pure (i := 9) (oi := ?oi_9) (v := ?v_9) ?hi_9 (by kernel_rfl) ?hQ_9 ?hy_9 ?hS_9 ?h_9
    case hi_9 => (simp only [List.getElem?_toArray, List.getElem?_cons_succ, List.getElem?_cons_zero]; rfl)
    case hQ_9 => exact fun _ _ _ h => h
    case hy_9 => (refine Or.inl ⟨by rfl, ?_⟩; intro w hSw; (try dsimp only at hSw); first | (go_simp; done) | (go_simp; with_reducible rfl))
    case hS_9 => exact .inr (by rfl)
    try simp only [Act.put, List.setIfInBounds_toArray, List.set_cons_zero, List.set_cons_succ]
    refine wpEnd_one (i := 10) (o := ?o_10) (by kernel_rfl) ?ho_10 ?hg_10 (fun K hK => ?_)
    case ho_10 => (simp only [List.getElem?_toArray, List.getElem?_cons_succ, List.getElem?_cons_zero]; rfl)
    case hg_10 => rfl
    go_simp
    refine hK _ _ (.inr (by rfl)) ?_
    clear hK K
    try simp only [Act.put, List.setIfInBounds_toArray, List.set_cons_zero, List.set_cons_succ]
    refine wpEnd_done (by kernel_rfl) ?_ _
    go_wp2
    go_ret
    obtain ⟨hO7, hg7, hat7, bg7⟩ := HO7.out
    obtain ⟨M4, hs4, _, _⟩ := HM.out
    obtain ⟨hok2, e1, e2⟩ := HK2.out
    have hF0 := HF0.out
    have hs7 := (hs4.drew.below hb5).kept hg7 ((hs4.drew.below hb5).ne_of hv6 (by decide))
    have M7 : Mod F w w7 := (M4.then_drew.then_below hb5).then_grown hg7 (fun k e => .inl ((hF0 k).2 (.inr (.inr e))))
    have bg8 := bg7.set_ 1 (.slice A7 (d.wait.length + 1) c7)
    have hs8 := hs7.far (p := ⟨g, 1, none⟩) hsne (.slice A7 (d.wait.length + 1) c7)
    have hO8 := hO7.far (p := ⟨g, 1, none⟩) (hO7.ne_blk bg7 (by decide)) (.slice A7 (d.wait.length + 1) c7)
    have M8 := M7.then_set (p := ⟨g, 1, none⟩) (.inl gF) (.slice A7 (d.wait.length + 1) c7)
    refine ⟨by rw [e1]; rfl, fun k => k = g ∨ (Value.slice As d.secs.length cs).ownBlock = some k ∨ (Value.slice A7 (d.wait.length + 1) c7).ownBlock = some k, ?_, M8, ?_⟩
    · rw [e2] at hok2 ⊢
      exact DP.mk' bg8 (by simp only [Dk.burn_secs]) (by simp) (by simp only [Dk.burn_secs]; exact hs8) hO8 hg hok2
    · rintro k (rfl | h | h)
      · exact .inl gF
      · exact .inl ((hF0 k).2 (.inr (.inl h)))
      · rcases hat7 with e | e
        · exact .inl ((hF0 k).2 (.inr (.inr (by rw [← e]; exact h))))
        · right
          rw [e] at h
          have := Option.some.inj h
          have h4 := M4.size
          have h5 := hb5.size
          have h6 : w4.heap.size ≤ w5.heap.size := h5
          omega
end Go.Proofs.Ytaledjcbblgmeaa
