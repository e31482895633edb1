/- A deed on a disk and on the reference's. -/
import Derived.Test.YtaledjcbblgmeaaDkL
import Derived.Deep.Cut
namespace Go.Proofs.Ytaledjcbblgmeaa
open Go.RowKit
attribute [local go_sem ↓] Go.wp_at_zero Go.wp_at_succ

theorem sizeDeed : (Try.prog.info? 50).map (·.size) = some 4 := by kernel_rfl
def DoPost (B gd gr : Nat) (d : Dk) (F : Nat → Prop) (w : World) (e : Ending) (w' : World) : Prop := e = .returned (.bool true) ∧ ∃ G, Pair w' B gd gr d G ∧ Upd F w G w'
theorem Upd.after {F G : Nat → Prop} {a w w' : World} (hb : Below a.heap.size a w) (h : Upd F w G w') : Upd F a G w' :=
  ⟨(Mod.of_below F hb).trans h.1 (fun _ hi => .inl hi), fun i hi => (h.2 i hi).imp id (fun h => Nat.le_trans hb.size h)⟩
theorem Upd.afterM {F G K : Nat → Prop} {a w w' : World} (hb : Mod K a w) (hK : ∀ i, K i → a.heap.size ≤ i) (h : Upd F w G w') : Upd F a G w' :=
  ⟨⟨h.1.os.trans hb.os, h.1.tape.trans hb.tape, h.1.output.trans hb.output, Nat.le_trans hb.size h.1.size, fun i hi hn => (h.1.block i (Nat.lt_of_lt_of_le hi hb.size) hn).trans (hb.block i hi (fun hk => by have := hK i hk; omega))⟩,
    fun i hi => (h.2 i hi).imp id (fun h => Nat.le_trans hb.size h)⟩

set_option maxRecDepth 100000 in
set_option maxHeartbeats 8000000 in
theorem do5 (B gd gr : Nat) (d : Dk) (F : Nat → Prop) (k i : Int) (b : List UInt8) (keep : List Bool) (A A2 : Option Addr) (n c n2 c2 : Nat) (w : World) (h : Pair w B gd gr d F) (hB : B ≤ w.heap.size) (hw : d.wait.length ≤ 1000000)
    (hb : SlU w (.slice A n c) b) (hk : Sl 1 boE w (.slice A2 n2 c2) keep) (hA : 0 < b.length → ∀ g o, A = some ⟨g, o, none⟩ → g < B) (hA2 : 0 < keep.length → ∀ g o, A2 = some ⟨g, o, none⟩ → g < B) (hi : i ≤ 9223372036854775807) :
    Calls Try.prog 27 #[.pointer (some ⟨gd, 0, none⟩), .pointer (some ⟨gr, 0, none⟩), .agg #[.int .i64 k, .int .i64 i, .slice A n c, .slice A2 n2 c2]] w (DoPost B gd gr (d.deed k i b keep) F w) := by
  have HFB := Lib.hid (fun i hi => (h.lt i hi).1)
  have HFL := Lib.hid (fun i hi => (h.lt i hi).2)
  have hlb := hb.len.2
  have hlk := hk.len.2
  obtain ⟨GX, hGX⟩ : ∃ GX, GX = w.heap.size := ⟨_, rfl⟩
  obtain ⟨W, hW⟩ : ∃ W, W = w.alloc (.cells #[.int .i64 k, .int .i64 i, .slice A n c, .slice A2 n2 c2] 50) := ⟨_, rfl⟩
  have qW : Below w.heap.size w W := by rw [hW]; exact (Below.refl _ _).alloc (Nat.le_refl _) _
  have bW : Blk W GX 50 #[.int .i64 k, .int .i64 i, .slice A n c, .slice A2 n2 c2] := by rw [hW, hGX]; exact Blk.new _ _ _
  have xW := bW.cell
  have H := Lib.hid (And.intro h (And.intro hb (And.intro hk (And.intro qW bW))))
  have HW := Lib.hid hW
  have HI := Lib.hid hi
  have hg1 : GX ≤ w.heap.size := by omega
  have hg2 : w.heap.size ≤ GX := by omega
  have HGX := Lib.hid hGX
  clear hb hk qW bW hW h hGX hi
  go_enter Try.func27, Try.ntmps27
  go_upto_region 1 with (fail)
  rw [← HW.out, ← HGX.out]
  go_wp2_with fail
  refine (few5 k i A A2 n c n2 c2 W hlb hlk).mono ?_
  rintro e w1 ⟨rfl, hb1⟩
  obtain ⟨h0, hbs, hks, qW, bW⟩ := H.out
  have bW1 := bW.below hb1 bW.lt
  have q1 : Below w.heap.size w w1 := qW.trans (hb1.mono qW.size)
  have H1 := Lib.hid (And.intro bW1 q1)
  clear bW1 q1 hb1 xW h0 hbs hks qW bW
  go_wp2_with (refine wpList_store_blk rfl 50 (.tmp 5) (.tmp 8) (by rfl) GX 0 (by rfl) _ (by rfl) [.int .i64 k, .int .i64 i, .slice A (min n 66) c, .slice A2 (min n2 40) c2] (by rfl) 50 [.int .i64 k, .int .i64 i, .slice A n c, .slice A2 n2 c2] H1.out.1 sizeDeed (by simp) (by simp [Value.oneCell']) ?_
               intro w2 b2 hm2 hz2
               clear hz2
               have b2 : Blk w2 GX 50 #[.int .i64 k, .int .i64 i, .slice A (min n 66) c, .slice A2 (min n2 40) c2] := b2
               have m2 : Mod (· = GX) w w2 := (Mod.of_below _ H1.out.2).trans hm2 (fun _ e => .inl e)
               have x2 := b2.cell
               have H2 := Lib.hid (And.intro b2 m2)
               clear b2 m2 hm2)
  all_goals
    obtain ⟨h0, hbs, hks, _, _⟩ := H.out
    obtain ⟨_, m2⟩ := H2.out
    obtain ⟨F1, F2, p1, p2, hap, hFF⟩ := h0.mod m2 (fun i e hi => by have := HFL.out i hi; omega)
    have hbt : SlU w2 (.slice A (min n 66) c) (b.take 66) := by
      have := (hbs.take (m := min n 66) (by omega)).mod m2 (fun hp g o hg e => by
        have := hA (by rw [List.length_take] at hp; omega) g o hg
        omega)
      rwa [show b.take (min n 66) = b.take 66 from by rw [hbs.len.1, List.take_eq_take_iff]; omega] at this
    have hkt : Sl 1 boE w2 (.slice A2 (min n2 40) c2) (keep.take 40) := by
      have := (hks.take (m := min n2 40) (by omega)).mod m2 (fun hp g o hg e => by
        have := hA2 (by rw [List.length_take] at hp; omega) g o hg
        omega)
      rwa [show keep.take (min n2 40) = keep.take 40 from by rw [hks.len.1, List.take_eq_take_iff]; omega] at this
    have f1 : ∀ i, F1 i → i < w.heap.size := fun i hi => HFL.out i ((hFF i).2 (.inl hi))
    have f2 : ∀ i, F2 i → i < w.heap.size := fun i hi => HFL.out i ((hFF i).2 (.inr hi))
    have b1 : ∀ i, F1 i → B ≤ i := fun i hi => HFB.out i ((hFF i).2 (.inl hi))
    have b2 : ∀ i, F2 i → B ≤ i := fun i hi => HFB.out i ((hFF i).2 (.inr hi))
    have hA' : 0 < (b.take 66).length → ∀ k o, A = some ⟨k, o, none⟩ → ¬ F1 k ∧ ¬ F2 k := fun hp k o hk => by
      have := hA (by rw [List.length_take] at hp; omega) k o hk
      exact ⟨fun hf => by have := b1 k hf; omega, fun hf => by have := b2 k hf; omega⟩
    have hA2' : 0 < (keep.take 40).length → ∀ k o, A2 = some ⟨k, o, none⟩ → ¬ F1 k ∧ ¬ F2 k := fun hp k o hk => by
      have := hA2 (by rw [List.length_take] at hp; omega) k o hk
      exact ⟨fun hf => by have := b1 k hf; omega, fun hf => by have := b2 k hf; omega⟩
    have hB2 : B ≤ w2.heap.size := Nat.le_trans hB m2.size
    have hk40 : (keep.take 40).length ≤ 1000000 := by rw [List.length_take]; omega
    have HP := Lib.hid (And.intro p1 (And.intro p2 (And.intro hap (And.intro hFF (And.intro hbt (And.intro hkt (And.intro f1 (And.intro f2 (And.intro hA' hA2')))))))))
    have M2 := Lib.hid (fun G w4 (u : Upd F w2 G w4) => Upd.afterM m2 (fun i e => by omega) u)
    clear h0 hbs hks p1 p2 hap hFF hbt hkt f1 f2 b1 b2 hA' hA2' m2 HFB HFL H H1 H2 hA hA2
  · skip
    have hk0 : k = 0 := beq_iff_eq.1 (by assumption : (k == 0) = true)
    have hd : d.deed k i b keep = d.write i (b.take 66) := by unfold Dk.deed; rw [if_pos hk0]
    have HD := Lib.hid hd
    have HS := Lib.hid (And.intro (x2 1) (x2 2))
    clear hd x2
    refine wp_region_end (fun w' => w'.cell? ⟨GX, 1, none⟩ = some (.int .i64 i) ∧ w'.cell? ⟨GX, 2, none⟩ = some (.slice A (min n 66) c)) 12 (by kernel_rfl) ?_
    refine wpEnd_pure (i := 0) (oi := ?oi_0) (v := ?v_0) ?hi_0 (by kernel_rfl) ?hQ_0 ?hy_0 ?hS_0 ?h_0
    case hi_0 => (simp only [List.getElem?_toArray, List.getElem?_cons_succ, List.getElem?_cons_zero]; rfl)
    case hQ_0 => exact fun _ _ _ h => h
    case hy_0 => (refine Or.inl ⟨by rfl, ?_⟩; intro w hSw; (try dsimp only at hSw); first | (go_simp; done) | (go_simp; with_reducible rfl))
    case hS_0 => exact .inl (by exact HS.out)
    try simp only [Act.put, List.setIfInBounds_toArray, List.set_cons_zero, List.set_cons_succ]
    refine wpEnd_pure (i := 1) (oi := ?oi_1) (v := ?v_1) ?hi_1 (by kernel_rfl) ?hQ_1 ?hy_1 ?hS_1 ?h_1
    case hi_1 => (simp only [List.getElem?_toArray, List.getElem?_cons_succ, List.getElem?_cons_zero]; rfl)
    case hQ_1 => exact fun _ _ _ h => h
    case hy_1 => (refine Or.inl ⟨by rfl, ?_⟩; intro w hSw; (try dsimp only at hSw); first | (go_simp; done) | (go_simp; with_reducible rfl))
    case hS_1 => exact .inl (by exact HS.out)
    try simp only [Act.put, List.setIfInBounds_toArray, List.set_cons_zero, List.set_cons_succ]
    refine wpEnd_take (i := 2) (oi := ?oi_2) (v := ?v_2) [5, 2] ?hi_2 (by kernel_rfl) ?hQ_2 ?hy_2 ?hS_2 ?h_2
    case hi_2 => (simp only [List.getElem?_toArray, List.getElem?_cons_succ, List.getElem?_cons_zero]; rfl)
    case hQ_2 => exact fun _ _ _ h => h
    case hy_2 => (refine Or.inl ⟨by rfl, ?_⟩; intro w hSw; (try dsimp only at hSw); first | (go_simp; done) | (go_simp; with_reducible rfl))
    case hS_2 => exact HS.out
    try simp only [Act.put, List.setIfInBounds_toArray, List.set_cons_zero, List.set_cons_succ]
    refine wpEnd_pure (i := 3) (oi := ?oi_3) (v := ?v_3) ?hi_3 (by kernel_rfl) ?hQ_3 ?hy_3 ?hS_3 ?h_3
    case hi_3 => (simp only [List.getElem?_toArray, List.getElem?_cons_succ, List.getElem?_cons_zero]; rfl)
    case hQ_3 => exact fun _ _ _ h => h
    case hy_3 => (refine Or.inl ⟨by rfl, ?_⟩; intro w hSw; (try dsimp only at hSw); first | (go_simp; done) | (go_simp; with_reducible rfl))
    case hS_3 => exact .inl (by exact HS.out)
    try simp only [Act.put, List.setIfInBounds_toArray, List.set_cons_zero, List.set_cons_succ]
    refine wpEnd_take (i := 4) (oi := ?oi_4) (v := ?v_4) [5, 4] ?hi_4 (by kernel_rfl) ?hQ_4 ?hy_4 ?hS_4 ?h_4
    case hi_4 => (simp only [List.getElem?_toArray, List.getElem?_cons_succ, List.getElem?_cons_zero]; rfl)
    case hQ_4 => exact fun _ _ _ h => h
    case hy_4 => (refine Or.inl ⟨by rfl, ?_⟩; intro w hSw; (try dsimp only at hSw); first | (go_simp; done) | (go_simp; with_reducible rfl))
    case hS_4 => exact HS.out
    try simp only [Act.put, List.setIfInBounds_toArray, List.set_cons_zero, List.set_cons_succ]
    refine wpEnd_pure (i := 6) (oi := ?oi_6) (v := ?v_6) ?hi_6 (by kernel_rfl) ?hQ_6 ?hy_6 ?hS_6 ?h_6
    case hi_6 => (simp only [List.getElem?_toArray, List.getElem?_cons_succ, List.getElem?_cons_zero]; rfl)
    case hQ_6 => exact fun _ _ _ h => h
    case hy_6 => (refine Or.inl ⟨by rfl, ?_⟩; intro w hSw; (try dsimp only at hSw); first | (go_simp; done) | (go_simp; with_reducible rfl))
    case hS_6 => exact .inl (by exact HS.out)
    try simp only [Act.put, List.setIfInBounds_toArray, List.set_cons_zero, List.set_cons_succ]
    refine wpEnd_pure (i := 7) (oi := ?oi_7) (v := ?v_7) ?hi_7 (by kernel_rfl) ?hQ_7 ?hy_7 ?hS_7 ?h_7
    case hi_7 => (simp only [List.getElem?_toArray, List.getElem?_cons_succ, List.getElem?_cons_zero]; rfl)
    case hQ_7 => exact fun _ _ _ h => h
    case hy_7 => (refine Or.inl ⟨by rfl, ?_⟩; intro w hSw; (try dsimp only at hSw); first | (go_simp; done) | (go_simp; with_reducible rfl))
    case hS_7 => exact .inl (by exact HS.out)
    try simp only [Act.put, List.setIfInBounds_toArray, List.set_cons_zero, List.set_cons_succ]
    refine wpEnd_take (i := 8) (oi := ?oi_8) (v := ?v_8) [11, 8] ?hi_8 (by kernel_rfl) ?hQ_8 ?hy_8 ?hS_8 ?h_8
    case hi_8 => (simp only [List.getElem?_toArray, List.getElem?_cons_succ, List.getElem?_cons_zero]; rfl)
    case hQ_8 => exact fun _ _ _ h => h
    case hy_8 => (refine Or.inl ⟨by rfl, ?_⟩; intro w hSw; (try dsimp only at hSw); first | (go_simp; done) | (go_simp; with_reducible rfl))
    case hS_8 => exact HS.out
    try simp only [Act.put, List.setIfInBounds_toArray, List.set_cons_zero, List.set_cons_succ]
    refine wpEnd_pure (i := 9) (oi := ?oi_9) (v := ?v_9) ?hi_9 (by kernel_rfl) ?hQ_9 ?hy_9 ?hS_9 ?h_9
    case hi_9 => (simp only [List.getElem?_toArray, List.getElem?_cons_succ, List.getElem?_cons_zero]; rfl)
    case hQ_9 => exact fun _ _ _ h => h
    case hy_9 => (refine Or.inl ⟨by rfl, ?_⟩; intro w hSw; (try dsimp only at hSw); first | (go_simp; done) | (go_simp; with_reducible rfl))
    case hS_9 => exact .inl (by exact HS.out)
    try simp only [Act.put, List.setIfInBounds_toArray, List.set_cons_zero, List.set_cons_succ]
    refine wpEnd_take (i := 10) (oi := ?oi_10) (v := ?v_10) [11, 10] ?hi_10 (by kernel_rfl) ?hQ_10 ?hy_10 ?hS_10 ?h_10
    case hi_10 => (simp only [List.getElem?_toArray, List.getElem?_cons_succ, List.getElem?_cons_zero]; rfl)
    case hQ_10 => exact fun _ _ _ h => h
    case hy_10 => (refine Or.inl ⟨by rfl, ?_⟩; intro w hSw; (try dsimp only at hSw); first | (go_simp; done) | (go_simp; with_reducible rfl))
    case hS_10 => exact HS.out
    try simp only [Act.put, List.setIfInBounds_toArray, List.set_cons_zero, List.set_cons_succ]
    refine wpEnd_one (i := 5) (o := ?o_5) (by kernel_rfl) ?ho_5 ?hg_5 (fun K hK => ?_)
    case ho_5 => (simp only [List.getElem?_toArray, List.getElem?_cons_succ, List.getElem?_cons_zero]; rfl)
    case hg_5 => rfl
    go_simp
    go_at_call 19
    refine (disk_Write B gd d F1 i (b.take 66) A (min n 66) c _ HP.out.1.drew HP.out.2.2.2.2.1.drew (fun hp k o hk => (HP.out.2.2.2.2.2.2.2.2.1 hp k o hk).1) hB2 hw).mono ?_
    rintro e w3 ⟨rfl, G1, h3, u3⟩
    have H3 := Lib.hid (And.intro h3 u3)
    have s3 : w3.cell? ⟨GX, 1, none⟩ = some (.int .i64 i) ∧ w3.cell? ⟨GX, 2, none⟩ = some (.slice A (min n 66) c) := by
      have hz : GX < w2.drew.heap.size := by
        have := World.block_lt_of_cell? _ _ HS.out.1
        exact this
      have hn : ¬ F1 GX := fun hf => by have := HP.out.2.2.2.2.2.2.1 GX hf; omega
      exact ⟨(u3.1.cell (p := ⟨GX, 1, none⟩) hz hn).trans HS.out.1, (u3.1.cell (p := ⟨GX, 2, none⟩) hz hn).trans HS.out.2⟩
    have r3 := HP.out.2.1.drew.mod u3.1 HP.out.2.2.1
    have sl3 := HP.out.2.2.2.2.1.drew.mod u3.1 (fun hp k o hk => (HP.out.2.2.2.2.2.2.2.2.1 hp k o hk).1)
    have hB3 : B ≤ w3.heap.size := Nat.le_trans hB2 u3.1.size
    have HR3 := Lib.hid (And.intro r3 sl3)
    clear h3 u3 r3 sl3
    refine hK _ _ (.inl (s3)) ?_
    clear hK K
    try simp only [Act.put, List.setIfInBounds_toArray, List.set_cons_zero, List.set_cons_succ]
    refine wpEnd_one (i := 11) (o := ?o_11) (by kernel_rfl) ?ho_11 ?hg_11 (fun K hK => ?_)
    case ho_11 => (simp only [List.getElem?_toArray, List.getElem?_cons_succ, List.getElem?_cons_zero]; rfl)
    case hg_11 => rfl
    go_simp
    go_at_call 56
    refine (rdisk_Write B gr d F2 i (b.take 66) A (min n 66) c _ HR3.out.1 HR3.out.2 (fun hp k o hk => (HP.out.2.2.2.2.2.2.2.2.1 hp k o hk).2) hB3 hw).mono ?_
    rintro e w4 ⟨rfl, G2, h4, u4⟩
    have H4 := Lib.hid (And.intro h4 u4)
    have s4 : w4.cell? ⟨GX, 1, none⟩ = some (.int .i64 i) ∧ w4.cell? ⟨GX, 2, none⟩ = some (.slice A (min n 66) c) := by
      have hz : GX < w3.heap.size := World.block_lt_of_cell? _ _ s3.1
      have hn : ¬ F2 GX := fun hf => by have := HP.out.2.2.2.2.2.2.2.1 GX hf; omega
      exact ⟨(u4.1.cell (p := ⟨GX, 1, none⟩) hz hn).trans s3.1, (u4.1.cell (p := ⟨GX, 2, none⟩) hz hn).trans s3.2⟩
    clear h4 u4
    refine hK _ _ (.inl (s4)) ?_
    clear hK K
    try simp only [Act.put, List.setIfInBounds_toArray, List.set_cons_zero, List.set_cons_succ]
    refine wpEnd_one (i := 12) (o := ?o_12) (by kernel_rfl) ?ho_12 ?hg_12 (fun K hK => ?_)
    case ho_12 => (simp only [List.getElem?_toArray, List.getElem?_cons_succ, List.getElem?_cons_zero]; rfl)
    case hg_12 => rfl
    go_simp
    refine hK _ _ (.inr (by rfl)) ?_
    clear hK K
    try simp only [Act.put, List.setIfInBounds_toArray, List.set_cons_zero, List.set_cons_succ]
    refine wpEnd_pure (i := 13) (oi := ?oi_13) (v := ?v_13) ?hi_13 (by kernel_rfl) ?hQ_13 ?hy_13 ?hS_13 ?h_13
    case hi_13 => (simp only [List.getElem?_toArray, List.getElem?_cons_succ, List.getElem?_cons_zero]; rfl)
    case hQ_13 => exact fun _ _ _ h => h
    case hy_13 => (refine Or.inl ⟨by rfl, ?_⟩; intro w hSw; (try dsimp only at hSw); first | (go_simp; done) | (go_simp; with_reducible rfl))
    case hS_13 => exact .inr (by rfl)
    try simp only [Act.put, List.setIfInBounds_toArray, List.set_cons_zero, List.set_cons_succ]
    refine wpEnd_done (by kernel_rfl) ?_ _
    go_wp2
    go_ret
    obtain ⟨G, hG, uG⟩ := Pair.step (gd := gd) (gr := gr) HP.out.2.1.drew HP.out.2.2.1 H3.out.2 H3.out.1 H4.out.2 H4.out.1 HP.out.2.2.2.1
    exact ⟨by simp, G, by rw [HD.out]; exact hG, M2.out G _ (Upd.after (Below.refl _ _).drew uG)⟩
  · have hk0 : k ≠ 0 := beq_eq_false_iff_ne.1 (by assumption : (k == 0) = false)
    have hk1 : k = 1 := beq_iff_eq.1 (by assumption : (k == 1) = true)
    have hd : d.deed k i b keep = d.flush := by unfold Dk.deed; rw [if_neg hk0, if_pos hk1]
    have HD := Lib.hid hd
    clear hd x2 hk0 hk1
    refine (disk_Flush B gd d F1 w2 HP.out.1 hw).mono ?_
    rintro e w3 ⟨rfl, G1, h3, u3⟩
    have H3 := Lib.hid (And.intro h3 u3)
    have r3 := HP.out.2.1.mod u3.1 HP.out.2.2.1
    have hB3 : B ≤ w3.heap.size := Nat.le_trans hB2 u3.1.size
    have HR3 := Lib.hid r3
    clear h3 u3 r3
    go_wp2_with fail
    refine (rdisk_Flush B gr d F2 w3 HR3.out hw hB3).mono ?_
    rintro e w4 ⟨rfl, G2, h4, u4⟩
    have H4 := Lib.hid (And.intro h4 u4)
    clear h4 u4
    go_wp2
    go_ret
    obtain ⟨G, hG, uG⟩ := Pair.step (gd := gd) (gr := gr) HP.out.2.1 HP.out.2.2.1 H3.out.2 H3.out.1 H4.out.2 H4.out.1 HP.out.2.2.2.1
    exact ⟨by simp, G, by rw [HD.out]; exact hG, M2.out G _ uG⟩
  · have hk0 : k ≠ 0 := beq_eq_false_iff_ne.1 (by assumption : (k == 0) = false)
    have hk1 : k ≠ 1 := beq_eq_false_iff_ne.1 (by assumption : (k == 1) = false)
    have hk2 : k = 2 := beq_iff_eq.1 (by assumption : (k == 2) = true)
    have hd : d.deed k i b keep = d.cut i := by unfold Dk.deed; rw [if_neg hk0, if_neg hk1, if_pos hk2]
    have HD := Lib.hid hd
    have hz : GX < w2.heap.size := World.block_lt_of_cell? _ _ (x2 1)
    have HX := Lib.hid (x2 1)
    clear hd x2 hk0 hk1 hk2
    refine (disk_Cut B gd d F1 i w2 HP.out.1 HI.out).mono ?_
    rintro e w3 ⟨rfl, h3, u3⟩
    have H3 := Lib.hid (And.intro h3 u3)
    have hn : ¬ F1 GX := fun hf => by have := HP.out.2.2.2.2.2.2.1 GX hf; omega
    have x3 : w3.cell? ⟨GX, 1, none⟩ = some (.int .i64 i) := (u3.1.cell (p := ⟨GX, 1, none⟩) hz hn).trans HX.out
    have r3 := HP.out.2.1.mod u3.1 HP.out.2.2.1
    have HR3 := Lib.hid r3
    clear h3 u3 r3 hn
    go_wp2_with fail
    refine (rdisk_Cut B gr d F2 i w3 HR3.out HI.out).mono ?_
    rintro e w4 ⟨rfl, h4, u4⟩
    have H4 := Lib.hid (And.intro h4 u4)
    clear h4 u4
    go_wp2
    go_ret
    obtain ⟨G, hG, uG⟩ := Pair.step (gd := gd) (gr := gr) HP.out.2.1 HP.out.2.2.1 H3.out.2 H3.out.1 H4.out.2 H4.out.1 HP.out.2.2.2.1
    exact ⟨rfl, G, by rw [HD.out]; exact hG, M2.out G _ uG⟩
  · have hk0 : k ≠ 0 := beq_eq_false_iff_ne.1 (by assumption : (k == 0) = false)
    have hk1 : k ≠ 1 := beq_eq_false_iff_ne.1 (by assumption : (k == 1) = false)
    have hk2 : k ≠ 2 := beq_eq_false_iff_ne.1 (by assumption : (k == 2) = false)
    have hk3 : k = 3 := beq_iff_eq.1 (by assumption : (k == 3) = true)
    have hd : d.deed k i b keep = d.crash (keep.take 40) := by unfold Dk.deed; rw [if_neg hk0, if_neg hk1, if_neg hk2, if_pos hk3]
    have HD := Lib.hid hd
    have hz : GX < w2.heap.size := World.block_lt_of_cell? _ _ (x2 3)
    have HX := Lib.hid (x2 3)
    clear hd x2 hk0 hk1 hk2 hk3
    refine (disk_Crash B gd d F1 (keep.take 40) A2 (min n2 40) c2 w2 HP.out.1 HP.out.2.2.2.2.2.1 (fun hp k o hk => (HP.out.2.2.2.2.2.2.2.2.2 hp k o hk).1) hw).mono ?_
    rintro e w3 ⟨rfl, G1, h3, u3⟩
    have H3 := Lib.hid (And.intro h3 u3)
    have hn : ¬ F1 GX := fun hf => by have := HP.out.2.2.2.2.2.2.1 GX hf; omega
    have x3 : w3.cell? ⟨GX, 3, none⟩ = some (.slice A2 (min n2 40) c2) := (u3.1.cell (p := ⟨GX, 3, none⟩) hz hn).trans HX.out
    have r3 := HP.out.2.1.mod u3.1 HP.out.2.2.1
    have sl3 := HP.out.2.2.2.2.2.1.mod u3.1 (fun hp k o hk => (HP.out.2.2.2.2.2.2.2.2.2 hp k o hk).1)
    have hB3 : B ≤ w3.heap.size := Nat.le_trans hB2 u3.1.size
    have HR3 := Lib.hid (And.intro r3 sl3)
    clear h3 u3 r3 hn sl3
    go_wp2_with fail
    refine (rdisk_Crash B gr d F2 (keep.take 40) A2 (min n2 40) c2 w3 HR3.out.1 HR3.out.2 (fun hp k o hk => (HP.out.2.2.2.2.2.2.2.2.2 hp k o hk).2) hw hk40 hB3).mono ?_
    rintro e w4 ⟨rfl, G2, h4, u4⟩
    have H4 := Lib.hid (And.intro h4 u4)
    clear h4 u4
    go_wp2
    go_ret
    obtain ⟨G, hG, uG⟩ := Pair.step (gd := gd) (gr := gr) HP.out.2.1 HP.out.2.2.1 H3.out.2 H3.out.1 H4.out.2 H4.out.1 HP.out.2.2.2.1
    exact ⟨rfl, G, by rw [HD.out]; exact hG, M2.out G _ uG⟩
  · have hk0 : k ≠ 0 := beq_eq_false_iff_ne.1 (by assumption : (k == 0) = false)
    have hk1 : k ≠ 1 := beq_eq_false_iff_ne.1 (by assumption : (k == 1) = false)
    have hk2 : k ≠ 2 := beq_eq_false_iff_ne.1 (by assumption : (k == 2) = false)
    have hk3 : k ≠ 3 := beq_eq_false_iff_ne.1 (by assumption : (k == 3) = false)
    have hd : d.deed k i b keep = d := by unfold Dk.deed; rw [if_neg hk0, if_neg hk1, if_neg hk2, if_neg hk3]
    go_ret
    refine ⟨rfl, F, ?_, M2.out F _ (Upd.refl _ _)⟩
    rw [hd]
    exact ⟨F1, F2, HP.out.1, HP.out.2.1, HP.out.2.2.1, HP.out.2.2.2.1⟩
end Go.Proofs.Ytaledjcbblgmeaa
