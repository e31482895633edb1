/- The walk of DiskSome. -/
import Derived.Test.YtaledjcbblgmeaaDkV
namespace Go.Proofs.Ytaledjcbblgmeaa
open Go.RowKit

theorem pad_first (x : UInt8) : (pad [x]).l[0]? = some x := by rw [pad_l (by simp)]; rfl
section
variable {E : Dk} (h1 : E.off = false) (h2 : E.wait = []) (h3 : E.secs.length = 4) (h4 : E.fuse = none)
include h1 h3 in
theorem some_look {D : Dk} (ho : D.off = E.off) (hs : D.secs = E.secs) : D.look 2 = 0 := by
  unfold Dk.look
  rw [ho, hs, h1, h3]
  decide
include h1 h2 h3 h4 in
theorem some_write (x : UInt8) : E.writeE 2 [x] = 0 ∧ E.write 2 [x] = { E with wait := [⟨2, pad [x]⟩] } := by
  have hl := some_look (D := E) h1 h3 rfl rfl
  have hb : E.burnt = true := by unfold Dk.burnt; rw [h4]
  constructor
  · unfold Dk.writeE
    rw [if_neg (by simp [hl]), if_neg (by simp), if_pos hb]
  · unfold Dk.write
    have hbb : E.burn = E := by unfold Dk.burn; rw [h4]
    rw [if_neg (by simp [hl]), if_neg (by simp), if_pos hb, h2, hbb]
    rfl
include h1 h2 h3 h4 in
theorem some_write2 (x y : UInt8) : (E.write 2 [x]).writeE 2 [y] = 0 ∧ (E.write 2 [x]).write 2 [y] = { E with wait := [⟨2, pad [x]⟩, ⟨2, pad [y]⟩] } := by
  rw [(some_write h1 h2 h3 h4 x).2]
  have hl := some_look (E := E) (D := { E with wait := [⟨2, pad [x]⟩] }) h1 h3 rfl rfl
  have hb : ({ E with wait := [⟨2, pad [x]⟩] } : Dk).burnt = true := by unfold Dk.burnt; simp only [h4]
  constructor
  · unfold Dk.writeE
    rw [if_neg (by simp [hl]), if_neg (by simp), if_pos hb]
  · unfold Dk.write
    have hbb : ({ E with wait := [⟨2, pad [x]⟩] } : Dk).burn = { E with wait := [⟨2, pad [x]⟩] } := by unfold Dk.burn; simp only [h4]
    rw [if_neg (by simp [hl]), if_neg (by simp), if_pos hb, hbb]
    rfl
include h1 h2 h3 h4 in
theorem some_read (x y : UInt8) (k0 k1 : Bool) : (((E.write 2 [x]).write 2 [y]).crash [k0, k1]).read 2 = if k1 = true then pad [y] else if k0 = true then pad [x] else E.read 2 := by
  rw [(some_write2 h1 h2 h3 h4 x y).2]
  cases k0 <;> cases k1 <;> simp [Dk.crash, landed, Dk.read, Dk.seen, h2, h3]
end

set_option maxRecDepth 100000 in
set_option maxHeartbeats 16000000 in
theorem diskSome_walk (v : Value) (l : List De) (x0 x1 : UInt8) (k0 k1 : Bool) (w : World) (hS : Sl 4 De.enc w v l) (hr : ∀ x ∈ l, x.ok w) (hl : l.length ≤ maxLen) :
    Calls Try.prog 3 #[v, .agg #[.int .u8 x0.toNat, .int .u8 x1.toNat], .agg #[.bool k0, .bool k1]] w fun e w' => e = .returned (.bool true) ∧ Below w.heap.size w w' := by
  obtain ⟨WA, hWA⟩ : ∃ WA, WA = w.alloc (.cells #[.int .u8 x0.toNat, .int .u8 x1.toNat] 23) := ⟨_, rfl⟩
  obtain ⟨WB, hWB⟩ : ∃ WB, WB = WA.alloc (.cells #[.bool k0, .bool k1] 24) := ⟨_, rfl⟩
  have qA : Below w.heap.size w WA := by rw [hWA]; exact (Below.refl _ _).alloc (Nat.le_refl _) _
  have qB' : Below WA.heap.size WA WB := by rw [hWB]; exact (Below.refl _ _).alloc (Nat.le_refl _) _
  have zA : WA.heap.size = w.heap.size + 1 := by rw [hWA]; simp
  have bA : Blk WA w.heap.size 23 #[.int .u8 x0.toNat, .int .u8 x1.toNat] := by rw [hWA]; exact Blk.new _ _ _
  have bB : Blk WB (w.heap.size + 1) 24 #[.bool k0, .bool k1] := by rw [hWB, ← zA]; exact Blk.new _ _ _
  have bA' := bA.below qB' bA.lt
  have qB : Below w.heap.size w WB := qA.trans (qB'.mono qA.size)
  have HP := Lib.hid (play5 v l WB (hS.below qB) (fun x hx => by
    obtain ⟨hi, b, keep, hb, hk⟩ := hr x hx
    exact ⟨hi, b, keep, hb.below qB, hk.below qB⟩) hl)
  have H0 := Lib.hid (And.intro bA' (And.intro bB qB))
  have HWW := Lib.hid (show WB = (w.alloc (.cells #[.int .u8 x0.toNat, .int .u8 x1.toNat] 23)).alloc (.cells #[.bool k0, .bool k1] 24) from by rw [hWB, hWA])
  clear hS hr hl bA bB bA' qA qB' qB hWA hWB zA
  obtain ⟨GX, hGX⟩ : ∃ GX, GX = w.heap.size := ⟨_, rfl⟩
  obtain ⟨BB, hBB⟩ : ∃ BB, BB = WB.heap.size := ⟨_, rfl⟩
  have HGX := Lib.hid hGX
  rw [← hGX] at H0
  have hgx : GX + 1 < BB := by rw [hBB]; exact H0.out.2.1.lt
  have hgw : GX ≤ w.heap.size := by omega
  have hgw' : w.heap.size ≤ GX := by omega
  have hbw : BB ≤ WB.heap.size := by omega
  have hbw' : WB.heap.size ≤ BB := by omega
  have HBBE := Lib.hid hBB
  clear hGX hBB
  go_enter Try.func3, Try.ntmps3
  go_upto_region 1 with (fail)
  rw [← HWW.out, ← HGX.out]
  go_wp2_with fail
  refine HP.out.mono ?_
  rintro e w1 ⟨gd, gr, D, F, rfl, hP, hD4, hDw, hB⟩
  rw [← HBBE.out] at hP hB
  have H1 := Lib.hid (And.intro hP (And.intro hDw (And.intro hB hD4)))
  have z1 := hB.size
  clear hP hD4 hDw hB HP
  go_wp2_with fail
  refine (live5 w1).mono ?_
  rintro e w2 ⟨rfl, b2⟩
  have p2 := H1.out.1.below b2
  have q2 : Below BB WB w2 := H1.out.2.2.1.trans (b2.mono (by omega))
  obtain ⟨F1, F2, p3, _, _, _⟩ := p2
  have H2 := Lib.hid (And.intro p3 q2)
  have HDW := H1.out.2.1
  have z2 := q2.size
  clear p3 q2 b2
  go_wp2_with fail
  refine (disk_Crash BB gd D F1 [] none 0 0 w2 H2.out.1 (Sl.nil _ _ _) (fun h => by simp at h) (by omega)).mono ?_
  rintro e w4 ⟨rfl, F5, h4, u4⟩
  have q4 : Below BB WB w4 := Mod.below H2.out.2 u4.1 (fun i hi => (H2.out.1.lt i hi).1) (by omega)
  obtain ⟨E, hE⟩ : ∃ E, E = D.crash [] := ⟨_, rfl⟩
  rw [← hE] at h4
  have HE := Lib.hid (show E.off = false ∧ E.secs.length = 4 ∧ E.wait = [] ∧ E.fuse = none from by
    rw [hE]
    exact ⟨rfl, by rw [Dk.crash_len]; exact H1.out.2.2.2, rfl, rfl⟩)
  have H4 := Lib.hid (And.intro h4 q4)
  have z4 := q4.size
  clear h4 u4 q4 hE H1 H2 HDW
  go_wp2_with fail
  refine (disk_Read BB gd E F5 2 w4 H4.out.1 HE.out.1 (by rw [HE.out.2.1]; decide) (by rw [HE.out.2.2.1]; simp)).mono ?_
  rintro e w6 ⟨v6, rfl, hv6, b6, fr6⟩
  obtain ⟨c, hc⟩ : ∃ c, (E.read 2).l[0]? = some c := ⟨_, List.getElem?_eq_getElem (by rw [(E.read 2).h]; decide)⟩
  obtain ⟨g6, o6, k6, rfl, hk6, hg6, c6⟩ := hv6.first hc
  have hf6 : ¬ F5 g6 := fun hf => by have := fr6 g6 o6 _ _ rfl; have := (H4.out.1.lt g6 hf).2; omega
  have q6 : Below BB WB w6 := H4.out.2.trans (b6.mono (by omega))
  have d6 := H4.out.1.below b6
  have x6 := H0.out.1.below q6 (by omega)
  have y6 := H0.out.2.1.below q6 (by omega)
  obtain ⟨W, hW⟩ : ∃ W, W = w6.drew := ⟨_, rfl⟩
  have HW := Lib.hid hW
  have HS := Lib.hid (show w6.drew.cell? ⟨GX, 0, none⟩ = some (.int .u8 x0.toNat) ∧ w6.drew.cell? ⟨GX, 1, none⟩ = some (.int .u8 x1.toNat) from ⟨x6.drew.cell 0, x6.drew.cell 1⟩)
  have HD := Lib.hid (And.intro d6.drew (Upd.refl F5 w6.drew))
  have HY := Lib.hid (And.intro y6.drew (And.intro (show w6.drew.cell? ⟨g6, o6, none⟩ = some (.int .u8 c.toNat) from c6) q6.drew))
  have hg6' : g6 < W.heap.size := by rw [hW]; exact hg6
  have HBB : BB ≤ W.heap.size := by rw [hW]; have := q6.size; show BB ≤ w6.heap.size; omega
  rw [← hW] at HS HD HY
  have HC := Lib.hid hc
  have HE0 := Lib.hid (And.intro (some_write HE.out.1 HE.out.2.2.1 HE.out.2.1 HE.out.2.2.2 x0).1 (some_write2 HE.out.1 HE.out.2.2.1 HE.out.2.1 HE.out.2.2.2 x0 x1).1)
  have HER := Lib.hid (some_read HE.out.1 HE.out.2.2.1 HE.out.2.1 HE.out.2.2.2 x0 x1 k0 k1)
  clear hv6 b6 fr6 c6 q6 d6 x6 y6 hW hc H4
  go_wp2_with fail
  refine wp_region_end (fun w' => w'.cell? ⟨GX, 0, none⟩ = some (.int .u8 x0.toNat) ∧ w'.cell? ⟨GX, 1, none⟩ = some (.int .u8 x1.toNat)) 9 (by kernel_rfl) ?_
  rw [← HW.out]
  refine wpEnd_pure (i := 0) (oi := ?oi0_3) (v := ?v0_3) ?hi0_3 (by kernel_rfl) ?hQ0_3 ?hy0_3 ?hS0_3 ?h0_3
  case hi0_3 => (simp only [List.getElem?_toArray, List.getElem?_cons_succ, List.getElem?_cons_zero]; rfl)
  case hQ0_3 => exact fun _ _ _ h => h
  case hy0_3 => (refine Or.inl ⟨by rfl, ?_⟩; intro w hSw; (try dsimp only at hSw); first | (go_simp; done) | (go_simp; with_reducible rfl))
  case hS0_3 => exact .inl HS.out
  try simp only [Act.put, List.setIfInBounds_toArray, List.set_cons_zero, List.set_cons_succ]
  refine wpEnd_pure (i := 1) (oi := ?oi1_4) (v := ?v1_4) ?hi1_4 (by kernel_rfl) ?hQ1_4 ?hy1_4 ?hS1_4 ?h1_4
  case hi1_4 => (simp only [List.getElem?_toArray, List.getElem?_cons_succ, List.getElem?_cons_zero]; rfl)
  case hQ1_4 => exact fun _ _ _ h => h
  case hy1_4 => (refine Or.inl ⟨by rfl, ?_⟩; intro w hSw; (try dsimp only at hSw); first | (go_simp; done) | (go_simp; with_reducible rfl))
  case hS1_4 => exact .inl HS.out
  try simp only [Act.put, List.setIfInBounds_toArray, List.set_cons_zero, List.set_cons_succ]
  refine wpEnd_pure (i := 5) (oi := ?oi5_5) (v := ?v5_5) ?hi5_5 (by kernel_rfl) ?hQ5_5 ?hy5_5 ?hS5_5 ?h5_5
  case hi5_5 => (simp only [List.getElem?_toArray, List.getElem?_cons_succ, List.getElem?_cons_zero]; rfl)
  case hQ5_5 => exact fun _ _ _ h => h
  case hy5_5 => (refine Or.inl ⟨by rfl, ?_⟩; intro w hSw; (try dsimp only at hSw); first | (go_simp; done) | (go_simp; with_reducible rfl))
  case hS5_5 => exact .inl HS.out
  try simp only [Act.put, List.setIfInBounds_toArray, List.set_cons_zero, List.set_cons_succ]
  refine wpEnd_pure (i := 6) (oi := ?oi6_6) (v := ?v6_6) ?hi6_6 (by kernel_rfl) ?hQ6_6 ?hy6_6 ?hS6_6 ?h6_6
  case hi6_6 => (simp only [List.getElem?_toArray, List.getElem?_cons_succ, List.getElem?_cons_zero]; rfl)
  case hQ6_6 => exact fun _ _ _ h => h
  case hy6_6 => (refine Or.inl ⟨by rfl, ?_⟩; intro w hSw; (try dsimp only at hSw); first | (go_simp; done) | (go_simp; with_reducible rfl))
  case hS6_6 => exact .inl HS.out
  try simp only [Act.put, List.setIfInBounds_toArray, List.set_cons_zero, List.set_cons_succ]
  refine wpEnd_take (i := 2) (oi := ?oi2_7) (v := ?v2_7) [4, 3, 2] ?hi2_7 (by kernel_rfl) ?hQ2_7 ?hy2_7 ?hS2_7 ?h2_7
  case hi2_7 => (simp only [List.getElem?_toArray, List.getElem?_cons_succ, List.getElem?_cons_zero]; rfl)
  case hQ2_7 => exact fun _ _ _ h => h
  case hy2_7 => (refine Or.inl ⟨by rfl, ?_⟩; intro w hSw; (try dsimp only at hSw); first | (go_simp; done) | (go_simp; with_reducible rfl))
  case hS2_7 => exact HS.out
  try simp only [Act.put, List.setIfInBounds_toArray, List.set_cons_zero, List.set_cons_succ]
  refine wpEnd_take (i := 7) (oi := ?oi7_8) (v := ?v7_8) [8, 7] ?hi7_8 (by kernel_rfl) ?hQ7_8 ?hy7_8 ?hS7_8 ?h7_8
  case hi7_8 => (simp only [List.getElem?_toArray, List.getElem?_cons_succ, List.getElem?_cons_zero]; rfl)
  case hQ7_8 => exact fun _ _ _ h => h
  case hy7_8 => (refine Or.inl ⟨by rfl, ?_⟩; intro w hSw; (try dsimp only at hSw); first | (go_simp; done) | (go_simp; with_reducible rfl))
  case hS7_8 => exact HS.out
  try simp only [Act.put, List.setIfInBounds_toArray, List.set_cons_zero, List.set_cons_succ]
  have hs := HS.out
  have hd := HD.out.1
  have hu := HD.out.2
  refine wpEnd_two (i := 3) (j := 8) (by kernel_rfl) ?x23 ?y23 ?p23 ?q23 ?r23 ?s23 (fun K hK => ?_) (fun K hK => ?_)
  case p23 => (simp only [List.getElem?_toArray, List.getElem?_cons_succ, List.getElem?_cons_zero]; rfl)
  case q23 => (simp only [List.getElem?_toArray, List.getElem?_cons_succ, List.getElem?_cons_zero]; rfl)
  case r23 => rfl
  case s23 => rfl
  · skip
    refine wp_oneV 31 5 38 (by rfl) (.int .u8 x0.toNat) [.int .u8 x0.toNat] (by rfl) rfl Try.underlying31 sizeByte (by kernel_rfl) (by simp) (by simp) ?_
    intro wa ba ha za
    clear za
    have sl3 : SlU wa (.slice (some ⟨W.heap.size, 0, none⟩) 1 1) [x0] := Sl.of_blk ba u8E_length rfl rfl (Nat.le_refl _)
    have fr3 : ¬ F5 W.heap.size := fun hf => by have := (hd.lt _ hf).2; omega
    have lt3 : W.heap.size < wa.heap.size := ba.lt
    have hd := hd.below ha
    have hu := hu.below ha
    have hs := And.intro ((ha.cell (p := ⟨GX, 0, none⟩) (World.block_lt_of_cell? _ _ hs.1)).trans hs.1) ((ha.cell (p := ⟨GX, 1, none⟩) (World.block_lt_of_cell? _ _ hs.2)).trans hs.2)
    clear ba ha
    refine hK _ _ (.inl hs) ?_
    clear hK K
    try simp only [Act.put, List.setIfInBounds_toArray, List.set_cons_zero, List.set_cons_succ]
    refine wpEnd_two (i := 4) (j := 8) (by kernel_rfl) ?x17 ?y17 ?p17 ?q17 ?r17 ?s17 (fun K hK => ?_) (fun K hK => ?_)
    case p17 => (simp only [List.getElem?_toArray, List.getElem?_cons_succ, List.getElem?_cons_zero]; rfl)
    case q17 => (simp only [List.getElem?_toArray, List.getElem?_cons_succ, List.getElem?_cons_zero]; rfl)
    case r17 => rfl
    case s17 => rfl
    · skip
      go_simp
      go_at_call 19
      refine (disk_Write BB gd E F5 2 [x0] _ 1 1 _ hd sl3 (fun _ k o hk hf => by cases hk; exact fr3 hf) (Nat.le_trans HBB hu.1.size) (by rw [HE.out.2.2.1]; simp)).mono ?_
      rintro e wb ⟨rfl, Gb, kb, ub⟩
      rw [HE0.out.1]
      have ng : ¬ F5 GX := fun hf => by have := (hd.lt GX hf).1; omega
      have hs := And.intro ((ub.1.cell (p := ⟨GX, 0, none⟩) (World.block_lt_of_cell? _ _ hs.1) ng).trans hs.1) ((ub.1.cell (p := ⟨GX, 1, none⟩) (World.block_lt_of_cell? _ _ hs.2) ng).trans hs.2)
      have hd := kb
      have hu := hu.trans ub
      clear kb ub ng
      refine hK _ _ (.inl hs) ?_
      clear hK K
      try simp only [Act.put, List.setIfInBounds_toArray, List.set_cons_zero, List.set_cons_succ]
      refine wpEnd_one (i := 8) (o := ?o8_9) (by kernel_rfl) ?ho8_9 ?hg8_9 (fun K hK => ?_)
      case ho8_9 => (simp only [List.getElem?_toArray, List.getElem?_cons_succ, List.getElem?_cons_zero]; rfl)
      case hg8_9 => rfl
      refine wp_oneV 31 5 43 (by rfl) (.int .u8 x1.toNat) [.int .u8 x1.toNat] (by rfl) rfl Try.underlying31 sizeByte (by kernel_rfl) (by simp) (by simp) ?_
      intro wc bc hc zc
      clear zc
      have sl8 : SlU wc (.slice (some ⟨wb.heap.size, 0, none⟩) 1 1) [x1] := Sl.of_blk bc u8E_length rfl rfl (Nat.le_refl _)
      have fr8 : ¬ Gb wb.heap.size := fun hf => by have := (hd.lt _ hf).2; omega
      have lt8 : wb.heap.size < wc.heap.size := bc.lt
      have hd := hd.below hc
      have hu := hu.below hc
      have hs := And.intro ((hc.cell (p := ⟨GX, 0, none⟩) (World.block_lt_of_cell? _ _ hs.1)).trans hs.1) ((hc.cell (p := ⟨GX, 1, none⟩) (World.block_lt_of_cell? _ _ hs.2)).trans hs.2)
      clear bc hc
      refine hK _ _ (.inl hs) ?_
      clear hK K
      try simp only [Act.put, List.setIfInBounds_toArray, List.set_cons_zero, List.set_cons_succ]
      refine wpEnd_one (i := 9) (o := ?o9_10) (by kernel_rfl) ?ho9_10 ?hg9_10 (fun K hK => ?_)
      case ho9_10 => (simp only [List.getElem?_toArray, List.getElem?_cons_succ, List.getElem?_cons_zero]; rfl)
      case hg9_10 => rfl
      go_simp
      go_at_call 19
      refine (disk_Write BB gd (E.write 2 [x0]) Gb 2 [x1] _ 1 1 _ hd sl8 (fun _ k o hk hf => by cases hk; exact fr8 hf) (Nat.le_trans HBB hu.1.size) (by have := Dk.write_wait E 2 [x0]; rw [HE.out.2.2.1] at this; simp at this; omega)).mono ?_
      rintro e wd ⟨rfl, Gd, kd, ud⟩
      rw [HE0.out.2]
      have HF := Lib.hid (And.intro kd (hu.trans ud))
      clear kd ud hd hu hs
      refine hK _ _ (.inr (by rfl)) ?_
      clear hK K
      try simp only [Act.put, List.setIfInBounds_toArray, List.set_cons_zero, List.set_cons_succ]
      refine wpEnd_pure (i := 10) (oi := ?oi10_11) (v := ?v10_11) ?hi10_11 (by kernel_rfl) ?hQ10_11 ?hy10_11 ?hS10_11 ?h10_11
      case hi10_11 => (simp only [List.getElem?_toArray, List.getElem?_cons_succ, List.getElem?_cons_zero]; rfl)
      case hQ10_11 => exact fun _ _ _ h => h
      case hy10_11 => (refine Or.inl ⟨by rfl, ?_⟩; intro w hSw; (try dsimp only at hSw); first | (go_simp; done) | (go_simp; with_reducible rfl))
      case hS10_11 => exact .inr (by rfl)
      try simp only [Act.put, List.setIfInBounds_toArray, List.set_cons_zero, List.set_cons_succ]
      refine wpEnd_pure (i := 11) (oi := ?oi11_12) (v := ?v11_12) ?hi11_12 (by kernel_rfl) ?hQ11_12 ?hy11_12 ?hS11_12 ?h11_12
      case hi11_12 => (simp only [List.getElem?_toArray, List.getElem?_cons_succ, List.getElem?_cons_zero]; rfl)
      case hQ11_12 => exact fun _ _ _ h => h
      case hy11_12 => (refine Or.inl ⟨by rfl, ?_⟩; intro w hSw; (try dsimp only at hSw); first | (go_simp; done) | (go_simp; with_reducible rfl))
      case hS11_12 => exact .inr (by rfl)
      try simp only [Act.put, List.setIfInBounds_toArray, List.set_cons_zero, List.set_cons_succ]
      refine wpEnd_done (by kernel_rfl) ?_ _
      have m0 := HF.out.2.1
      have hny : ¬ F5 (GX + 1) := fun hf => by have := (HD.out.1.lt _ hf).1; omega
      have yd0 : wd.cell? ⟨GX + 1, 0, none⟩ = some (.bool k0) := (m0.cell (p := ⟨GX + 1, 0, none⟩) HY.out.1.lt hny).trans (HY.out.1.cell 0)
      have yd1 : wd.cell? ⟨GX + 1, 1, none⟩ = some (.bool k1) := (m0.cell (p := ⟨GX + 1, 1, none⟩) HY.out.1.lt hny).trans (HY.out.1.cell 1)
      have s8 := Sl.new wd 4 [k0, k1] boE_length #[.bool k0, .bool k1] rfl 2 rfl
      have qa : Below wd.heap.size wd (wd.alloc (.cells #[.bool k0, .bool k1] 4)) := (Below.refl _ _).alloc (Nat.le_refl _) _
      have H9 := Lib.hid (And.intro s8 (And.intro (HF.out.1.below qa) (And.intro (HF.out.2.below qa) (fun i hi => (HF.out.1.lt i hi).2))))
      clear s8 qa m0
      go_wp2_with fail
      refine (disk_Crash BB gd ((E.write 2 [x0]).write 2 [x1]) Gd [k0, k1] _ 2 2 _ H9.out.2.1 H9.out.1 (fun _ k o hk hf => by cases hk; have := H9.out.2.2.2 _ hf; omega) (by have := Dk.write_wait (E.write 2 [x0]) 2 [x1]; have := Dk.write_wait E 2 [x0]; rw [HE.out.2.2.1] at this; simp at this; omega)).mono ?_
      rintro e wf ⟨rfl, Gf, hf1, uf⟩
      have Hf := Lib.hid (And.intro hf1 (H9.out.2.2.1.trans uf))
      clear hf1 uf H9 yd0 yd1
      go_wp2_with fail
      refine (disk_Read BB gd _ Gf 2 wf Hf.out.1 rfl (by rw [Dk.crash_len, Dk.write_len, Dk.write_len, HE.out.2.1]; decide) (by simp [Dk.crash])).mono ?_
      rintro e wg ⟨vg, rfl, hvg, bg, _⟩
      have ug := Hf.out.2.below bg
      have xg0 : wg.cell? ⟨GX, 0, none⟩ = some (.int .u8 x0.toNat) := (ug.1.cell (p := ⟨GX, 0, none⟩) (World.block_lt_of_cell? _ _ HS.out.1) (fun hf => by have := (HD.out.1.lt GX hf).1; omega)).trans HS.out.1
      have xg1 : wg.cell? ⟨GX, 1, none⟩ = some (.int .u8 x1.toNat) := (ug.1.cell (p := ⟨GX, 1, none⟩) (World.block_lt_of_cell? _ _ HS.out.2) (fun hf => by have := (HD.out.1.lt GX hf).1; omega)).trans HS.out.2
      have yg0 : wg.cell? ⟨GX + 1, 0, none⟩ = some (.bool k0) := (ug.1.cell (p := ⟨GX + 1, 0, none⟩) HY.out.1.lt hny).trans (HY.out.1.cell 0)
      have yg1 : wg.cell? ⟨GX + 1, 1, none⟩ = some (.bool k1) := (ug.1.cell (p := ⟨GX + 1, 1, none⟩) HY.out.1.lt hny).trans (HY.out.1.cell 1)
      have cg : wg.cell? ⟨g6, o6, none⟩ = some (.int .u8 c.toNat) := (ug.1.cell (p := ⟨g6, o6, none⟩) hg6' hf6).trans HY.out.2.1
      have HQ := Lib.hid (H0.out.2.2.trans ((Mod.below HY.out.2.2 ug.1 (fun i hi => (HD.out.1.lt i hi).1) HBB).mono (by omega)))
      rw [HER.out] at hvg
      have HV := Lib.hid hvg
      clear hvg bg ug Hf HF HD
      cases k0 <;> cases k1
      · obtain ⟨g9, o9, k9, rfl, hk9, hg9, c9⟩ := Sl.first HV.out HC.out
        go_wp2
        go_ret
        exact ⟨rfl, HQ.out.mono hgw'⟩
      · obtain ⟨g9, o9, k9, rfl, hk9, hg9, c9⟩ := Sl.first HV.out (pad_first x1)
        go_wp2
        go_ret
        exact ⟨rfl, HQ.out.mono hgw'⟩
      · obtain ⟨g9, o9, k9, rfl, hk9, hg9, c9⟩ := Sl.first HV.out (pad_first x0)
        go_wp2
        go_ret
        exact ⟨rfl, HQ.out.mono hgw'⟩
      · obtain ⟨g9, o9, k9, rfl, hk9, hg9, c9⟩ := Sl.first HV.out (pad_first x1)
        go_wp2
        go_ret
        exact ⟨rfl, HQ.out.mono hgw'⟩
    · skip
      refine wp_oneV 31 5 43 (by rfl) (.int .u8 x1.toNat) [.int .u8 x1.toNat] (by rfl) rfl Try.underlying31 sizeByte (by kernel_rfl) (by simp) (by simp) ?_
      intro wc bc hc zc
      clear zc
      have sl8 : SlU wc (.slice (some ⟨wa.heap.size, 0, none⟩) 1 1) [x1] := Sl.of_blk bc u8E_length rfl rfl (Nat.le_refl _)
      have fr8 : ¬ F5 wa.heap.size := fun hf => by have := (hd.lt _ hf).2; omega
      have lt8 : wa.heap.size < wc.heap.size := bc.lt
      have hd := hd.below hc
      have hu := hu.below hc
      have hs := And.intro ((hc.cell (p := ⟨GX, 0, none⟩) (World.block_lt_of_cell? _ _ hs.1)).trans hs.1) ((hc.cell (p := ⟨GX, 1, none⟩) (World.block_lt_of_cell? _ _ hs.2)).trans hs.2)
      have sl3 := sl3.below hc
      have lt3 := Nat.lt_of_lt_of_le lt3 hc.size
      clear bc hc
      refine hK _ _ (.inl hs) ?_
      clear hK K
      try simp only [Act.put, List.setIfInBounds_toArray, List.set_cons_zero, List.set_cons_succ]
      refine wpEnd_one (i := 4) (o := ?o4_13) (by kernel_rfl) ?ho4_13 ?hg4_13 (fun K hK => ?_)
      case ho4_13 => (simp only [List.getElem?_toArray, List.getElem?_cons_succ, List.getElem?_cons_zero]; rfl)
      case hg4_13 => rfl
      go_simp
      go_at_call 19
      refine (disk_Write BB gd E F5 2 [x0] _ 1 1 _ hd sl3 (fun _ k o hk hf => by cases hk; exact fr3 hf) (Nat.le_trans HBB hu.1.size) (by rw [HE.out.2.2.1]; simp)).mono ?_
      rintro e wb ⟨rfl, Gb, kb, ub⟩
      rw [HE0.out.1]
      have ng : ¬ F5 GX := fun hf => by have := (hd.lt GX hf).1; omega
      have hs := And.intro ((ub.1.cell (p := ⟨GX, 0, none⟩) (World.block_lt_of_cell? _ _ hs.1) ng).trans hs.1) ((ub.1.cell (p := ⟨GX, 1, none⟩) (World.block_lt_of_cell? _ _ hs.2) ng).trans hs.2)
      have sl8 := sl8.mod ub.1 (fun _ k o hk hf => by cases hk; exact fr8 hf)
      have fr8 : ¬ Gb wa.heap.size := fun hf => ub.apart (K := (· = wa.heap.size)) (fun i e => by rw [e]; exact lt8) (fun i hi e => fr8 (e ▸ hi)) _ hf rfl
      have lt8 := Nat.lt_of_lt_of_le lt8 ub.1.size
      have hd := kb
      have hu := hu.trans ub
      clear kb ub ng
      refine hK _ _ (.inl hs) ?_
      clear hK K
      try simp only [Act.put, List.setIfInBounds_toArray, List.set_cons_zero, List.set_cons_succ]
      refine wpEnd_one (i := 9) (o := ?o9_14) (by kernel_rfl) ?ho9_14 ?hg9_14 (fun K hK => ?_)
      case ho9_14 => (simp only [List.getElem?_toArray, List.getElem?_cons_succ, List.getElem?_cons_zero]; rfl)
      case hg9_14 => rfl
      go_simp
      go_at_call 19
      refine (disk_Write BB gd (E.write 2 [x0]) Gb 2 [x1] _ 1 1 _ hd sl8 (fun _ k o hk hf => by cases hk; exact fr8 hf) (Nat.le_trans HBB hu.1.size) (by have := Dk.write_wait E 2 [x0]; rw [HE.out.2.2.1] at this; simp at this; omega)).mono ?_
      rintro e wd ⟨rfl, Gd, kd, ud⟩
      rw [HE0.out.2]
      have HF := Lib.hid (And.intro kd (hu.trans ud))
      clear kd ud hd hu hs
      refine hK _ _ (.inr (by rfl)) ?_
      clear hK K
      try simp only [Act.put, List.setIfInBounds_toArray, List.set_cons_zero, List.set_cons_succ]
      refine wpEnd_pure (i := 10) (oi := ?oi10_15) (v := ?v10_15) ?hi10_15 (by kernel_rfl) ?hQ10_15 ?hy10_15 ?hS10_15 ?h10_15
      case hi10_15 => (simp only [List.getElem?_toArray, List.getElem?_cons_succ, List.getElem?_cons_zero]; rfl)
      case hQ10_15 => exact fun _ _ _ h => h
      case hy10_15 => (refine Or.inl ⟨by rfl, ?_⟩; intro w hSw; (try dsimp only at hSw); first | (go_simp; done) | (go_simp; with_reducible rfl))
      case hS10_15 => exact .inr (by rfl)
      try simp only [Act.put, List.setIfInBounds_toArray, List.set_cons_zero, List.set_cons_succ]
      refine wpEnd_pure (i := 11) (oi := ?oi11_16) (v := ?v11_16) ?hi11_16 (by kernel_rfl) ?hQ11_16 ?hy11_16 ?hS11_16 ?h11_16
      case hi11_16 => (simp only [List.getElem?_toArray, List.getElem?_cons_succ, List.getElem?_cons_zero]; rfl)
      case hQ11_16 => exact fun _ _ _ h => h
      case hy11_16 => (refine Or.inl ⟨by rfl, ?_⟩; intro w hSw; (try dsimp only at hSw); first | (go_simp; done) | (go_simp; with_reducible rfl))
      case hS11_16 => exact .inr (by rfl)
      try simp only [Act.put, List.setIfInBounds_toArray, List.set_cons_zero, List.set_cons_succ]
      refine wpEnd_done (by kernel_rfl) ?_ _
      have m0 := HF.out.2.1
      have hny : ¬ F5 (GX + 1) := fun hf => by have := (HD.out.1.lt _ hf).1; omega
      have yd0 : wd.cell? ⟨GX + 1, 0, none⟩ = some (.bool k0) := (m0.cell (p := ⟨GX + 1, 0, none⟩) HY.out.1.lt hny).trans (HY.out.1.cell 0)
      have yd1 : wd.cell? ⟨GX + 1, 1, none⟩ = some (.bool k1) := (m0.cell (p := ⟨GX + 1, 1, none⟩) HY.out.1.lt hny).trans (HY.out.1.cell 1)
      have s8 := Sl.new wd 4 [k0, k1] boE_length #[.bool k0, .bool k1] rfl 2 rfl
      have qa : Below wd.heap.size wd (wd.alloc (.cells #[.bool k0, .bool k1] 4)) := (Below.refl _ _).alloc (Nat.le_refl _) _
      have H9 := Lib.hid (And.intro s8 (And.intro (HF.out.1.below qa) (And.intro (HF.out.2.below qa) (fun i hi => (HF.out.1.lt i hi).2))))
      clear s8 qa m0
      go_wp2_with fail
      refine (disk_Crash BB gd ((E.write 2 [x0]).write 2 [x1]) Gd [k0, k1] _ 2 2 _ H9.out.2.1 H9.out.1 (fun _ k o hk hf => by cases hk; have := H9.out.2.2.2 _ hf; omega) (by have := Dk.write_wait (E.write 2 [x0]) 2 [x1]; have := Dk.write_wait E 2 [x0]; rw [HE.out.2.2.1] at this; simp at this; omega)).mono ?_
      rintro e wf ⟨rfl, Gf, hf1, uf⟩
      have Hf := Lib.hid (And.intro hf1 (H9.out.2.2.1.trans uf))
      clear hf1 uf H9 yd0 yd1
      go_wp2_with fail
      refine (disk_Read BB gd _ Gf 2 wf Hf.out.1 rfl (by rw [Dk.crash_len, Dk.write_len, Dk.write_len, HE.out.2.1]; decide) (by simp [Dk.crash])).mono ?_
      rintro e wg ⟨vg, rfl, hvg, bg, _⟩
      have ug := Hf.out.2.below bg
      have xg0 : wg.cell? ⟨GX, 0, none⟩ = some (.int .u8 x0.toNat) := (ug.1.cell (p := ⟨GX, 0, none⟩) (World.block_lt_of_cell? _ _ HS.out.1) (fun hf => by have := (HD.out.1.lt GX hf).1; omega)).trans HS.out.1
      have xg1 : wg.cell? ⟨GX, 1, none⟩ = some (.int .u8 x1.toNat) := (ug.1.cell (p := ⟨GX, 1, none⟩) (World.block_lt_of_cell? _ _ HS.out.2) (fun hf => by have := (HD.out.1.lt GX hf).1; omega)).trans HS.out.2
      have yg0 : wg.cell? ⟨GX + 1, 0, none⟩ = some (.bool k0) := (ug.1.cell (p := ⟨GX + 1, 0, none⟩) HY.out.1.lt hny).trans (HY.out.1.cell 0)
      have yg1 : wg.cell? ⟨GX + 1, 1, none⟩ = some (.bool k1) := (ug.1.cell (p := ⟨GX + 1, 1, none⟩) HY.out.1.lt hny).trans (HY.out.1.cell 1)
      have cg : wg.cell? ⟨g6, o6, none⟩ = some (.int .u8 c.toNat) := (ug.1.cell (p := ⟨g6, o6, none⟩) hg6' hf6).trans HY.out.2.1
      have HQ := Lib.hid (H0.out.2.2.trans ((Mod.below HY.out.2.2 ug.1 (fun i hi => (HD.out.1.lt i hi).1) HBB).mono (by omega)))
      rw [HER.out] at hvg
      have HV := Lib.hid hvg
      clear hvg bg ug Hf HF HD
      cases k0 <;> cases k1
      · obtain ⟨g9, o9, k9, rfl, hk9, hg9, c9⟩ := Sl.first HV.out HC.out
        go_wp2
        go_ret
        exact ⟨rfl, HQ.out.mono hgw'⟩
      · obtain ⟨g9, o9, k9, rfl, hk9, hg9, c9⟩ := Sl.first HV.out (pad_first x1)
        go_wp2
        go_ret
        exact ⟨rfl, HQ.out.mono hgw'⟩
      · obtain ⟨g9, o9, k9, rfl, hk9, hg9, c9⟩ := Sl.first HV.out (pad_first x0)
        go_wp2
        go_ret
        exact ⟨rfl, HQ.out.mono hgw'⟩
      · obtain ⟨g9, o9, k9, rfl, hk9, hg9, c9⟩ := Sl.first HV.out (pad_first x1)
        go_wp2
        go_ret
        exact ⟨rfl, HQ.out.mono hgw'⟩
  · skip
    refine wp_oneV 31 5 43 (by rfl) (.int .u8 x1.toNat) [.int .u8 x1.toNat] (by rfl) rfl Try.underlying31 sizeByte (by kernel_rfl) (by simp) (by simp) ?_
    intro wc bc hc zc
    clear zc
    have sl8 : SlU wc (.slice (some ⟨W.heap.size, 0, none⟩) 1 1) [x1] := Sl.of_blk bc u8E_length rfl rfl (Nat.le_refl _)
    have fr8 : ¬ F5 W.heap.size := fun hf => by have := (hd.lt _ hf).2; omega
    have lt8 : W.heap.size < wc.heap.size := bc.lt
    have hd := hd.below hc
    have hu := hu.below hc
    have hs := And.intro ((hc.cell (p := ⟨GX, 0, none⟩) (World.block_lt_of_cell? _ _ hs.1)).trans hs.1) ((hc.cell (p := ⟨GX, 1, none⟩) (World.block_lt_of_cell? _ _ hs.2)).trans hs.2)
    clear bc hc
    refine hK _ _ (.inl hs) ?_
    clear hK K
    try simp only [Act.put, List.setIfInBounds_toArray, List.set_cons_zero, List.set_cons_succ]
    refine wpEnd_one (i := 3) (o := ?o3_18) (by kernel_rfl) ?ho3_18 ?hg3_18 (fun K hK => ?_)
    case ho3_18 => (simp only [List.getElem?_toArray, List.getElem?_cons_succ, List.getElem?_cons_zero]; rfl)
    case hg3_18 => rfl
    refine wp_oneV 31 5 38 (by rfl) (.int .u8 x0.toNat) [.int .u8 x0.toNat] (by rfl) rfl Try.underlying31 sizeByte (by kernel_rfl) (by simp) (by simp) ?_
    intro wa ba ha za
    clear za
    have sl3 : SlU wa (.slice (some ⟨wc.heap.size, 0, none⟩) 1 1) [x0] := Sl.of_blk ba u8E_length rfl rfl (Nat.le_refl _)
    have fr3 : ¬ F5 wc.heap.size := fun hf => by have := (hd.lt _ hf).2; omega
    have lt3 : wc.heap.size < wa.heap.size := ba.lt
    have hd := hd.below ha
    have hu := hu.below ha
    have hs := And.intro ((ha.cell (p := ⟨GX, 0, none⟩) (World.block_lt_of_cell? _ _ hs.1)).trans hs.1) ((ha.cell (p := ⟨GX, 1, none⟩) (World.block_lt_of_cell? _ _ hs.2)).trans hs.2)
    have sl8 := sl8.below ha
    have lt8 := Nat.lt_of_lt_of_le lt8 ha.size
    clear ba ha
    refine hK _ _ (.inl hs) ?_
    clear hK K
    try simp only [Act.put, List.setIfInBounds_toArray, List.set_cons_zero, List.set_cons_succ]
    refine wpEnd_one (i := 4) (o := ?o4_19) (by kernel_rfl) ?ho4_19 ?hg4_19 (fun K hK => ?_)
    case ho4_19 => (simp only [List.getElem?_toArray, List.getElem?_cons_succ, List.getElem?_cons_zero]; rfl)
    case hg4_19 => rfl
    go_simp
    go_at_call 19
    refine (disk_Write BB gd E F5 2 [x0] _ 1 1 _ hd sl3 (fun _ k o hk hf => by cases hk; exact fr3 hf) (Nat.le_trans HBB hu.1.size) (by rw [HE.out.2.2.1]; simp)).mono ?_
    rintro e wb ⟨rfl, Gb, kb, ub⟩
    rw [HE0.out.1]
    have ng : ¬ F5 GX := fun hf => by have := (hd.lt GX hf).1; omega
    have hs := And.intro ((ub.1.cell (p := ⟨GX, 0, none⟩) (World.block_lt_of_cell? _ _ hs.1) ng).trans hs.1) ((ub.1.cell (p := ⟨GX, 1, none⟩) (World.block_lt_of_cell? _ _ hs.2) ng).trans hs.2)
    have sl8 := sl8.mod ub.1 (fun _ k o hk hf => by cases hk; exact fr8 hf)
    have fr8 : ¬ Gb W.heap.size := fun hf => ub.apart (K := (· = W.heap.size)) (fun i e => by rw [e]; exact lt8) (fun i hi e => fr8 (e ▸ hi)) _ hf rfl
    have lt8 := Nat.lt_of_lt_of_le lt8 ub.1.size
    have hd := kb
    have hu := hu.trans ub
    clear kb ub ng
    refine hK _ _ (.inl hs) ?_
    clear hK K
    try simp only [Act.put, List.setIfInBounds_toArray, List.set_cons_zero, List.set_cons_succ]
    refine wpEnd_one (i := 9) (o := ?o9_20) (by kernel_rfl) ?ho9_20 ?hg9_20 (fun K hK => ?_)
    case ho9_20 => (simp only [List.getElem?_toArray, List.getElem?_cons_succ, List.getElem?_cons_zero]; rfl)
    case hg9_20 => rfl
    go_simp
    go_at_call 19
    refine (disk_Write BB gd (E.write 2 [x0]) Gb 2 [x1] _ 1 1 _ hd sl8 (fun _ k o hk hf => by cases hk; exact fr8 hf) (Nat.le_trans HBB hu.1.size) (by have := Dk.write_wait E 2 [x0]; rw [HE.out.2.2.1] at this; simp at this; omega)).mono ?_
    rintro e wd ⟨rfl, Gd, kd, ud⟩
    rw [HE0.out.2]
    have HF := Lib.hid (And.intro kd (hu.trans ud))
    clear kd ud hd hu hs
    refine hK _ _ (.inr (by rfl)) ?_
    clear hK K
    try simp only [Act.put, List.setIfInBounds_toArray, List.set_cons_zero, List.set_cons_succ]
    refine wpEnd_pure (i := 10) (oi := ?oi10_21) (v := ?v10_21) ?hi10_21 (by kernel_rfl) ?hQ10_21 ?hy10_21 ?hS10_21 ?h10_21
    case hi10_21 => (simp only [List.getElem?_toArray, List.getElem?_cons_succ, List.getElem?_cons_zero]; rfl)
    case hQ10_21 => exact fun _ _ _ h => h
    case hy10_21 => (refine Or.inl ⟨by rfl, ?_⟩; intro w hSw; (try dsimp only at hSw); first | (go_simp; done) | (go_simp; with_reducible rfl))
    case hS10_21 => exact .inr (by rfl)
    try simp only [Act.put, List.setIfInBounds_toArray, List.set_cons_zero, List.set_cons_succ]
    refine wpEnd_pure (i := 11) (oi := ?oi11_22) (v := ?v11_22) ?hi11_22 (by kernel_rfl) ?hQ11_22 ?hy11_22 ?hS11_22 ?h11_22
    case hi11_22 => (simp only [List.getElem?_toArray, List.getElem?_cons_succ, List.getElem?_cons_zero]; rfl)
    case hQ11_22 => exact fun _ _ _ h => h
    case hy11_22 => (refine Or.inl ⟨by rfl, ?_⟩; intro w hSw; (try dsimp only at hSw); first | (go_simp; done) | (go_simp; with_reducible rfl))
    case hS11_22 => exact .inr (by rfl)
    try simp only [Act.put, List.setIfInBounds_toArray, List.set_cons_zero, List.set_cons_succ]
    refine wpEnd_done (by kernel_rfl) ?_ _
    have m0 := HF.out.2.1
    have hny : ¬ F5 (GX + 1) := fun hf => by have := (HD.out.1.lt _ hf).1; omega
    have yd0 : wd.cell? ⟨GX + 1, 0, none⟩ = some (.bool k0) := (m0.cell (p := ⟨GX + 1, 0, none⟩) HY.out.1.lt hny).trans (HY.out.1.cell 0)
    have yd1 : wd.cell? ⟨GX + 1, 1, none⟩ = some (.bool k1) := (m0.cell (p := ⟨GX + 1, 1, none⟩) HY.out.1.lt hny).trans (HY.out.1.cell 1)
    have s8 := Sl.new wd 4 [k0, k1] boE_length #[.bool k0, .bool k1] rfl 2 rfl
    have qa : Below wd.heap.size wd (wd.alloc (.cells #[.bool k0, .bool k1] 4)) := (Below.refl _ _).alloc (Nat.le_refl _) _
    have H9 := Lib.hid (And.intro s8 (And.intro (HF.out.1.below qa) (And.intro (HF.out.2.below qa) (fun i hi => (HF.out.1.lt i hi).2))))
    clear s8 qa m0
    go_wp2_with fail
    refine (disk_Crash BB gd ((E.write 2 [x0]).write 2 [x1]) Gd [k0, k1] _ 2 2 _ H9.out.2.1 H9.out.1 (fun _ k o hk hf => by cases hk; have := H9.out.2.2.2 _ hf; omega) (by have := Dk.write_wait (E.write 2 [x0]) 2 [x1]; have := Dk.write_wait E 2 [x0]; rw [HE.out.2.2.1] at this; simp at this; omega)).mono ?_
    rintro e wf ⟨rfl, Gf, hf1, uf⟩
    have Hf := Lib.hid (And.intro hf1 (H9.out.2.2.1.trans uf))
    clear hf1 uf H9 yd0 yd1
    go_wp2_with fail
    refine (disk_Read BB gd _ Gf 2 wf Hf.out.1 rfl (by rw [Dk.crash_len, Dk.write_len, Dk.write_len, HE.out.2.1]; decide) (by simp [Dk.crash])).mono ?_
    rintro e wg ⟨vg, rfl, hvg, bg, _⟩
    have ug := Hf.out.2.below bg
    have xg0 : wg.cell? ⟨GX, 0, none⟩ = some (.int .u8 x0.toNat) := (ug.1.cell (p := ⟨GX, 0, none⟩) (World.block_lt_of_cell? _ _ HS.out.1) (fun hf => by have := (HD.out.1.lt GX hf).1; omega)).trans HS.out.1
    have xg1 : wg.cell? ⟨GX, 1, none⟩ = some (.int .u8 x1.toNat) := (ug.1.cell (p := ⟨GX, 1, none⟩) (World.block_lt_of_cell? _ _ HS.out.2) (fun hf => by have := (HD.out.1.lt GX hf).1; omega)).trans HS.out.2
    have yg0 : wg.cell? ⟨GX + 1, 0, none⟩ = some (.bool k0) := (ug.1.cell (p := ⟨GX + 1, 0, none⟩) HY.out.1.lt hny).trans (HY.out.1.cell 0)
    have yg1 : wg.cell? ⟨GX + 1, 1, none⟩ = some (.bool k1) := (ug.1.cell (p := ⟨GX + 1, 1, none⟩) HY.out.1.lt hny).trans (HY.out.1.cell 1)
    have cg : wg.cell? ⟨g6, o6, none⟩ = some (.int .u8 c.toNat) := (ug.1.cell (p := ⟨g6, o6, none⟩) hg6' hf6).trans HY.out.2.1
    have HQ := Lib.hid (H0.out.2.2.trans ((Mod.below HY.out.2.2 ug.1 (fun i hi => (HD.out.1.lt i hi).1) HBB).mono (by omega)))
    rw [HER.out] at hvg
    have HV := Lib.hid hvg
    clear hvg bg ug Hf HF HD
    cases k0 <;> cases k1
    · obtain ⟨g9, o9, k9, rfl, hk9, hg9, c9⟩ := Sl.first HV.out HC.out
      go_wp2
      go_ret
      exact ⟨rfl, HQ.out.mono hgw'⟩
    · obtain ⟨g9, o9, k9, rfl, hk9, hg9, c9⟩ := Sl.first HV.out (pad_first x1)
      go_wp2
      go_ret
      exact ⟨rfl, HQ.out.mono hgw'⟩
    · obtain ⟨g9, o9, k9, rfl, hk9, hg9, c9⟩ := Sl.first HV.out (pad_first x0)
      go_wp2
      go_ret
      exact ⟨rfl, HQ.out.mono hgw'⟩
    · obtain ⟨g9, o9, k9, rfl, hk9, hg9, c9⟩ := Sl.first HV.out (pad_first x1)
      go_wp2
      go_ret
      exact ⟨rfl, HQ.out.mono hgw'⟩
end Go.Proofs.Ytaledjcbblgmeaa
