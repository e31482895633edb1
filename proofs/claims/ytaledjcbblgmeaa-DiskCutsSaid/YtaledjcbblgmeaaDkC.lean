/- The program's disk: Crash, Flush: the Writes that wait, some of them, are done. -/
import Derived.Test.YtaledjcbblgmeaaDkR
namespace Go.Proofs.Ytaledjcbblgmeaa
open Go.RowKit

/-- Behind the first k Writes that wait. -/
def LandSt (B g : Nat) (d : Dk) (f : Int) (off : Bool) (As : Option Addr) (cs : Nat) (Aw : Option Addr) (cw : Nat) (keep : Nat → Bool) (F : Nat → Prop) (w0 : World) (k : Nat) (w : World) : Prop :=
  Blk w g 89 #[.slice As d.secs.length cs, .slice Aw d.wait.length cw, .int .i64 f, .bool off] ∧
  Own B 91 64 Sec.enc w (.slice As d.secs.length cs) (landed keep 0 (d.wait.take k) d.secs) ∧ Own B 93 65 Wr.enc w (.slice Aw d.wait.length cw) d.wait ∧ Mod F w0 w
section
variable {B g : Nat} {d : Dk} {f : Int} {off : Bool} {As : Option Addr} {cs : Nat} {Aw : Option Addr} {cw : Nat} {keep : Nat → Bool} {F : Nat → Prop} {w0 w : World} {k : Nat}
theorem LandSt.var (h : LandSt B g d f off As cs Aw cw keep F w0 k w) {w5 w6 : World} (h5 : Below w.heap.size w w5) (h6 : Mod (· = w.heap.size) w5 w6) : LandSt B g d f off As cs Aw cw keep F w0 k w6 := by
  obtain ⟨h1, h2, h3, h4⟩ := h
  refine ⟨(h1.below h5 h1.lt).mod h6 (by have := h1.lt; omega), (h2.below h5).mod h6 (fun i hi => by have := (h2.lt i hi).2; omega), (h3.below h5).mod h6 (fun i hi => by have := (h3.lt i hi).2; omega), ?_⟩
  exact (h4.then_below h5).trans h6 (fun i e => .inr (by subst e; exact h4.size))
theorem LandSt.skip (h : LandSt B g d f off As cs Aw cw keep F w0 k w) {y : Wr} (hy : d.wait[k]? = some y) (hk : keep k = false) : LandSt B g d f off As cs Aw cw keep F w0 (k + 1) w := by
  obtain ⟨h1, h2, h3, h4⟩ := h
  refine ⟨h1, ?_, h3, h4⟩
  rw [landed_take keep d.wait d.secs hy, if_neg (by rw [hk]; decide)]
  exact h2
theorem LandSt.drew (h : LandSt B g d f off As cs Aw cw keep F w0 k w) : LandSt B g d f off As cs Aw cw keep F w0 k w.drew := ⟨h.1.drew, h.2.1.drew, h.2.2.1.drew, h.2.2.2.then_drew⟩
theorem LandSt.put (h : LandSt B g d f off As cs Aw cw keep F w0 k w) {y : Wr} (hy : d.wait[k]? = some y) (hk : keep k = true) {gs : Nat} (hA : As = some ⟨gs, 0, none⟩) (hF : F gs) {w' : World}
    (hO : Own B 91 64 Sec.enc w' (.slice As d.secs.length cs) ((landed keep 0 (d.wait.take k) d.secs).set y.at_ y.data)) (hm : Mod (· = gs) w w') : LandSt B g d f off As cs Aw cw keep F w0 (k + 1) w' := by
  obtain ⟨h1, h2, h3, h4⟩ := h
  refine ⟨h1.mod hm (fun e => h2.ne_blk h1 (by decide) (by subst e; exact Own.blk hA)), ?_, h3.mod hm (fun i hi e => ?_), h4.trans hm (fun i e => .inl (by subst e; exact hF))⟩
  · rw [landed_take keep d.wait d.secs hy, if_pos hk]
    exact hO
  · subst e
    rcases h3.ne_of h2 (by decide) with h5 | h5
    · rw [hi] at h5; cases h5
    · exact h5 (by rw [hi, Own.blk hA])
end

def CrashPost (B g : Nat) (d : Dk) (F : Nat → Prop) (keep : List Bool) (w : World) (e : Ending) (w' : World) : Prop := e = .returned (.tuple #[]) ∧ ∃ F', DP w' B g (d.crash keep) F' ∧ Upd F w F' w'
set_option maxRecDepth 100000 in
set_option maxHeartbeats 8000000 in
theorem disk_Crash (B g : Nat) (d : Dk) (F : Nat → Prop) (keep : List Bool) (A : Option Addr) (n c : Nat) (w : World) (h : DP w B g d F) (hS : Sl 1 boE w (.slice A n c) keep) (hA : 0 < keep.length → ∀ k o, A = some ⟨k, o, none⟩ → ¬ F k)
    (hw : d.wait.length ≤ 1000000) :
    Calls Try.prog 17 #[.pointer (some ⟨g, 0, none⟩), .slice A n c] w (CrashPost B g d F keep w) := by
  obtain ⟨As, cs, Aw, cw, hb, hs, hv, hg, hok, hF⟩ := h
  obtain rfl : n = _ := hS.len.1
  have x := hb.cell
  have hgl := hb.lt
  have gF : F g := (hF g).2 (.inl rfl)
  have hL0 : LandSt B g d (fuseI d.fuse) d.off As cs Aw cw (fun k => keep.getD k false) F w 0 w := ⟨hb, by rw [List.take_zero]; exact hs, hv, Mod.refl _ _⟩
  have HL0 := Lib.hid hL0
  have HSl := Lib.hid hS
  have HW := Lib.hid hw
  clear hb hs hv hL0 hS hw
  go_enter Try.func17, Try.ntmps17
  go_wp2_with fail
  go_loopw [13] (fun t wr => ∃ k : Nat, t = .int .i64 k ∧ k ≤ d.wait.length ∧ LandSt B g d (fuseI d.fuse) d.off As cs Aw cw (fun k => keep.getD k false) F w k wr) (fun t _ => d.wait.length - (RowKit.intOf t).toNat)
  case atStart => exact ⟨0, rfl, by omega, HL0.out⟩
  case round =>
    clear x HL0
    have hw := HW.out
    obtain ⟨k, rfl, hk, hL⟩ := hrel
    by_cases hlt : k < d.wait.length
    · skip
      obtain ⟨y, hy⟩ : ∃ y, d.wait[k]? = some y := ⟨_, List.getElem?_eq_getElem hlt⟩
      have haN : y.at_ < d.secs.length := hok.1 y (List.mem_of_getElem? hy)
      obtain ⟨gs, rfl, -, hcs, hgs, hBs⟩ := hL.2.1.some_ (by rw [landed_length]; omega)
      have hFs : F gs := (hF gs).2 (.inr (.inl rfl))
      have hvl := hL.2.2.1.sl Wr.enc_length
      obtain ⟨gw, ow, rfl, hgw, hcw⟩ := hvl.at_ hy
      have HVR := Lib.hid (hvl.range hy)
      have hkI : (k : Int) < (d.wait.length : Int) := by omega
      have haI : (y.at_ : Int) < (d.secs.length : Int) := by omega
      have HY := Lib.hid hy
      have x3 := hL.1.cell
      have HL := Lib.hid hL
      clear hvl hy hcw hL
      by_cases hkk : k < keep.length
      · have hkkI : (k : Int) < (keep.length : Int) := by omega
        obtain ⟨b, hbk⟩ : ∃ b, keep[k]? = some b := ⟨_, List.getElem?_eq_getElem hkk⟩
        obtain ⟨gk, ok, rfl, hgk, -⟩ := HSl.out.at_ hbk
        have ck := HSl.out.cell hbk 0 _ rfl
        rw [Nat.mul_one, Nat.add_zero] at ck
        have hFk := hA (by omega) gk ok rfl
        have hgr : gk < wr.heap.size := by have := HL.out.2.2.2.size; omega
        have CK := Lib.hid ((HL.out.2.2.2.cell (p := ⟨gk, ok + k, none⟩) hgk hFk).trans ck)
        have hgd : keep.getD k false = b := by rw [List.getD_eq_getElem?_getD, hbk]; rfl
        have HK := Lib.hid hgd
        clear ck hbk hgd
        cases b with
        | true =>
          go_wp2_with (first
            | (refine wpList_load_mid rfl 93 (.tmp 16) (by rfl) gw (ow + k * 65) (by rfl) y.enc _ HVR.out Try.underlying93 rfl (by rw [Wr.enc_length]; exact sizeWrite) ?_)
            | (refine wpList_alloc_blk rfl 93 (by rfl) _ zeroWrite ?_; intro w5 b5 hb5 hz5; clear hz5)
            | (refine wpList_store_blk rfl 93 _ _ (by rfl) wr.heap.size 0 (by rfl) _ (by rfl) y.enc (by rfl) 93 (Wr.enc ⟨0, Sec.zero⟩) b5 (by rw [Wr.enc_length]; exact sizeWrite) (by rw [Wr.enc_length, Wr.enc_length]; omega) y.enc_one ?_; intro w6 b6 hm6 hz6; clear hz6; rw [splice_whole _ _ (by rw [Wr.enc_length, Wr.enc_length])] at b6
               have L6 := Lib.hid (HL.out.var hb5 hm6)
               have m6 := Lib.hid ((Mod.of_below (· = wr.heap.size) hb5).trans hm6 (fun _ e => .inl e))
               have xat : w6.cell? ⟨wr.heap.size, 0, none⟩ = some (.int .i64 y.at_) := b6.cell 0
               have x6 := L6.out.1.cell
               have HS := Lib.hid (And.intro (L6.out.1.drew.cell 0) (And.intro (b6.drew.cell 0) (b6.drew.range 1 y.data.enc (fun j v hv => by rw [Nat.add_comm 1 j]; exact hv))))
               have ck6 : w6.cell? ⟨gk, ok + k, none⟩ = some (.bool true) := (m6.out.cell (p := ⟨gk, ok + k, none⟩) hgr (by show gk ≠ _; omega)).trans CK.out
               clear b5 hb5 hm6 b6))
          refine wp_region_end (fun w' => w'.cell? ⟨g, 0, none⟩ = some (.slice (some ⟨gs, 0, none⟩) d.secs.length cs) ∧ w'.cell? ⟨wr.heap.size, 0, none⟩ = some (.int .i64 y.at_) ∧ w'.rangeAt wr.heap.size 1 y.data.enc) 9 (by kernel_rfl) ?_
          refine wpEnd_pure (i := 0) (oi := ?oi_0) (v := ?v_0) ?hi_0 (by kernel_rfl) ?hQ_0 ?hy_0 ?hS_0 ?h_0
          case hi_0 => (simp only [List.getElem?_toArray, List.getElem?_cons_succ, List.getElem?_cons_zero]; rfl)
          case hQ_0 => exact fun _ _ _ h => h
          case hy_0 => (refine Or.inl ⟨by rfl, ?_⟩; intro w hSw; (try dsimp only at hSw); first | (go_simp; done) | (go_simp; with_reducible rfl))
          case hS_0 => exact .inl (by exact HS.out)
          try simp only [Act.put, List.setIfInBounds_toArray, List.set_cons_zero, List.set_cons_succ]
          refine wpEnd_pure (i := 1) (oi := ?oi_1) (v := ?v_1) ?hi_1 (by kernel_rfl) ?hQ_1 ?hy_1 ?hS_1 ?h_1
          case hi_1 => (simp only [List.getElem?_toArray, List.getElem?_cons_succ, List.getElem?_cons_zero]; rfl)
          case hQ_1 => exact fun _ _ _ h => h
          case hy_1 => (refine Or.inl ⟨by rfl, ?_⟩; intro w hSw; (try dsimp only at hSw); first | (go_simp; done) | (go_simp; with_reducible rfl))
          case hS_1 => exact .inl (by exact HS.out)
          try simp only [Act.put, List.setIfInBounds_toArray, List.set_cons_zero, List.set_cons_succ]
          refine wpEnd_pure (i := 2) (oi := ?oi_2) (v := ?v_2) ?hi_2 (by kernel_rfl) ?hQ_2 ?hy_2 ?hS_2 ?h_2
          case hi_2 => (simp only [List.getElem?_toArray, List.getElem?_cons_succ, List.getElem?_cons_zero]; rfl)
          case hQ_2 => exact fun _ _ _ h => h
          case hy_2 => (refine Or.inl ⟨by rfl, ?_⟩; intro w hSw; (try dsimp only at hSw); first | (go_simp; done) | (go_simp; with_reducible rfl))
          case hS_2 => exact .inl (by exact HS.out)
          try simp only [Act.put, List.setIfInBounds_toArray, List.set_cons_zero, List.set_cons_succ]
          refine wpEnd_take (i := 3) (oi := ?oi_3) (v := ?v_3) [8, 3] ?hi_3 (by kernel_rfl) ?hQ_3 ?hy_3 ?hS_3 ?h_3
          case hi_3 => (simp only [List.getElem?_toArray, List.getElem?_cons_succ, List.getElem?_cons_zero]; rfl)
          case hQ_3 => exact fun _ _ _ h => h
          case hy_3 => (refine Or.inl ⟨by rfl, ?_⟩; intro w hSw; (try dsimp only at hSw); first | (go_simp; done) | (go_simp; with_reducible rfl))
          case hS_3 => exact HS.out
          try simp only [Act.put, List.setIfInBounds_toArray, List.set_cons_zero, List.set_cons_succ]
          refine wpEnd_pure (i := 4) (oi := ?oi_4) (v := ?v_4) ?hi_4 (by kernel_rfl) ?hQ_4 ?hy_4 ?hS_4 ?h_4
          case hi_4 => (simp only [List.getElem?_toArray, List.getElem?_cons_succ, List.getElem?_cons_zero]; rfl)
          case hQ_4 => exact fun _ _ _ h => h
          case hy_4 => (refine Or.inl ⟨by rfl, ?_⟩; intro w hSw; (try dsimp only at hSw); first | (go_simp; done) | (go_simp; with_reducible rfl))
          case hS_4 => exact .inl (by exact HS.out)
          try simp only [Act.put, List.setIfInBounds_toArray, List.set_cons_zero, List.set_cons_succ]
          refine wpEnd_take (i := 5) (oi := ?oi_5) (v := ?v_5) [8, 5] ?hi_5 (by kernel_rfl) ?hQ_5 ?hy_5 ?hS_5 ?h_5
          case hi_5 => (simp only [List.getElem?_toArray, List.getElem?_cons_succ, List.getElem?_cons_zero]; rfl)
          case hQ_5 => exact fun _ _ _ h => h
          case hy_5 => (refine Or.inl ⟨by rfl, ?_⟩; intro w hSw; (try dsimp only at hSw); first | (go_simp; done) | (go_simp; with_reducible rfl))
          case hS_5 => exact HS.out
          try simp only [Act.put, List.setIfInBounds_toArray, List.set_cons_zero, List.set_cons_succ]
          refine wpEnd_pure (i := 6) (oi := ?oi_6) (v := ?v_6) ?hi_6 (by kernel_rfl) ?hQ_6 ?hy_6 ?hS_6 ?h_6
          case hi_6 => (simp only [List.getElem?_toArray, List.getElem?_cons_succ, List.getElem?_cons_zero]; rfl)
          case hQ_6 => exact fun _ _ _ h => h
          case hy_6 => (refine Or.inl ⟨by rfl, ?_⟩; intro w hSw; (try dsimp only at hSw); first | (go_simp; done) | (go_simp; with_reducible rfl))
          case hS_6 => exact .inl (by exact HS.out)
          try simp only [Act.put, List.setIfInBounds_toArray, List.set_cons_zero, List.set_cons_succ]
          refine wpEnd_take (i := 7) (oi := ?oi_7) (v := ?v_7) [7] ?hi_7 (by kernel_rfl) ?hQ_7 ?hy_7 ?hS_7 ?h_7
          case hi_7 => (simp only [List.getElem?_toArray, List.getElem?_cons_succ, List.getElem?_cons_zero]; rfl)
          case hQ_7 => exact fun _ _ _ h => h
          case hy_7 => (refine yieldsIf_load_mid ?_ _ (.tmp 34) ?_ wr.heap.size 1 ?_ y.data.enc _ (fun _ h => And.right (And.right h)) Try.underlying91 rfl (by rw [Sec.enc_length]; exact sizeSec) <;> rfl)
          case hS_7 => exact HS.out
          try simp only [Act.put, List.setIfInBounds_toArray, List.set_cons_zero, List.set_cons_succ]
          refine wpEnd_pure (i := 8) (oi := ?oi_8) (v := ?v_8) ?hi_8 (by kernel_rfl) ?hQ_8 ?hy_8 ?hS_8 ?h_8
          case hi_8 => (simp only [List.getElem?_toArray, List.getElem?_cons_succ, List.getElem?_cons_zero]; rfl)
          case hQ_8 => exact fun _ _ _ h => h
          case hy_8 => (refine Or.inl ⟨by rfl, ?_⟩; intro w hSw; (try dsimp only at hSw); first | (go_simp; done) | (go_simp; with_reducible rfl))
          case hS_8 => exact .inl (by exact HS.out)
          try simp only [Act.put, List.setIfInBounds_toArray, List.set_cons_zero, List.set_cons_succ]
          refine wpEnd_one (i := 9) (o := ?o_9) (by kernel_rfl) ?ho_9 ?hg_9 (fun K hK => ?_)
          case ho_9 => (simp only [List.getElem?_toArray, List.getElem?_cons_succ, List.getElem?_cons_zero]; rfl)
          case hg_9 => rfl
          refine wp_store_elem 91 (.tmp 36) (.tmp 35) (by rfl) L6.out.drew.2.1 Sec.enc_length Sec.enc_one y.at_ (by rw [landed_length]; exact haN) (by rfl) y.data (by rfl) sizeSec ?_
          intro w8 hO8 hm8
          have L8 := Lib.hid (L6.out.drew.put HY.out HK.out rfl hFs hO8 hm8)
          clear hO8 hm8
          refine hK _ _ (.inr (by rfl)) ?_
          clear hK K
          try simp only [Act.put, List.setIfInBounds_toArray, List.set_cons_zero, List.set_cons_succ]
          refine wpEnd_done (by kernel_rfl) ?_ _
          go_wp2
          go_roundw
          case rel => exact ⟨k + 1, by go_num, by omega, L8.out⟩
          case measure => simp [RowKit.intOf]; omega
        | false =>
          go_wp2_with (first
            | (refine wpList_load_mid rfl 93 (.tmp 16) (by rfl) gw (ow + k * 65) (by rfl) y.enc _ HVR.out Try.underlying93 rfl (by rw [Wr.enc_length]; exact sizeWrite) ?_)
            | (refine wpList_alloc_blk rfl 93 (by rfl) _ zeroWrite ?_; intro w5 b5 hb5 hz5; clear hz5)
            | (refine wpList_store_blk rfl 93 _ _ (by rfl) wr.heap.size 0 (by rfl) _ (by rfl) y.enc (by rfl) 93 (Wr.enc ⟨0, Sec.zero⟩) b5 (by rw [Wr.enc_length]; exact sizeWrite) (by rw [Wr.enc_length, Wr.enc_length]; omega) y.enc_one ?_; intro w6 b6 hm6 hz6; clear hz6; rw [splice_whole _ _ (by rw [Wr.enc_length, Wr.enc_length])] at b6
               have L6 := Lib.hid (HL.out.var hb5 hm6)
               have m6 := Lib.hid ((Mod.of_below (· = wr.heap.size) hb5).trans hm6 (fun _ e => .inl e))
               have ck6 : w6.cell? ⟨gk, ok + k, none⟩ = some (.bool false) := (m6.out.cell (p := ⟨gk, ok + k, none⟩) hgr (by show gk ≠ _; omega)).trans CK.out
               clear b5 hb5 hm6 b6))
          go_roundw
          case rel => exact ⟨k + 1, by go_num, by omega, L6.out.skip HY.out HK.out⟩
          case measure => simp [RowKit.intOf]; omega
      · have hkkI : ¬ (k : Int) < (keep.length : Int) := by omega
        have hgd : keep.getD k false = false := by rw [List.getD_eq_getElem?_getD, List.getElem?_eq_none (by omega)]; rfl
        have HK := Lib.hid hgd
        clear hgd
        go_wp2_with (first
          | (refine wpList_load_mid rfl 93 (.tmp 16) (by rfl) gw (ow + k * 65) (by rfl) y.enc _ HVR.out Try.underlying93 rfl (by rw [Wr.enc_length]; exact sizeWrite) ?_)
          | (refine wpList_alloc_blk rfl 93 (by rfl) _ zeroWrite ?_; intro w5 b5 hb5 hz5; clear hz5)
          | (refine wpList_store_blk rfl 93 _ _ (by rfl) wr.heap.size 0 (by rfl) _ (by rfl) y.enc (by rfl) 93 (Wr.enc ⟨0, Sec.zero⟩) b5 (by rw [Wr.enc_length]; exact sizeWrite) (by rw [Wr.enc_length, Wr.enc_length]; omega) y.enc_one ?_; intro w6 b6 hm6 hz6; clear hz6; rw [splice_whole _ _ (by rw [Wr.enc_length, Wr.enc_length])] at b6
             have L6 := Lib.hid (HL.out.var hb5 hm6)
             have m6 := Lib.hid ((Mod.of_below (· = wr.heap.size) hb5).trans hm6 (fun _ e => .inl e))
             skip
             clear b5 hb5 hm6 b6))
        go_roundw
        case rel => exact ⟨k + 1, by go_num, by omega, L6.out.skip HY.out HK.out⟩
        case measure => simp [RowKit.intOf]; omega
    · obtain rfl : k = d.wait.length := by omega
      obtain ⟨b1, hs1, hv1, m1⟩ := hL
      rw [List.take_length] at hs1
      have x3 := b1.cell
      have y3 := b1.frozen
      have s1 := b1.set_ 1 (.slice none 0 0)
      have s2 := s1.set_ 2 (.int .i64 (-1))
      have s3 := Lib.hid (s2.set_ 3 (.bool false))
      have f1 := hs1.far (p := ⟨g, 1, none⟩) (hs1.ne_blk b1 (by decide)) (.slice none 0 0)
      have f2 := f1.far (p := ⟨g, 2, none⟩) (f1.ne_blk s1 (by decide)) (.int .i64 (-1))
      have f3 := Lib.hid (f2.far (p := ⟨g, 3, none⟩) (f2.ne_blk s2 (by decide)) (.bool false))
      have M3 := Lib.hid (((m1.then_set (p := ⟨g, 1, none⟩) (.inl gF) (.slice none 0 0)).then_set (p := ⟨g, 2, none⟩) (.inl gF) (.int .i64 (-1))).then_set (p := ⟨g, 3, none⟩) (.inl gF) (.bool false))
      clear b1 hs1 hv1 m1 s1 s2 f1 f2
      go_wp2
      go_end0
      refine ⟨rfl, _, DP.mk' (d := d.crash keep) s3.out (Dk.crash_len d keep).symm rfl f3.out (Own.nil _ _ _ _ _) hg (Dk.ok_crash hok keep), M3.out, ?_⟩
      rintro i (rfl | h | h)
      · exact .inl gF
      · exact .inl ((hF i).2 (.inr (.inl h)))
      · simp [Value.ownBlock] at h

def FlushPost (B g : Nat) (d : Dk) (F : Nat → Prop) (w : World) (e : Ending) (w' : World) : Prop := e = .returned (.int .i64 d.flushE) ∧ ∃ F', DP w' B g d.flush F' ∧ Upd F w F' w'
set_option maxRecDepth 100000 in
set_option maxHeartbeats 8000000 in
theorem disk_Flush (B g : Nat) (d : Dk) (F : Nat → Prop) (w : World) (h : DP w B g d F) (hw : d.wait.length ≤ 1000000) :
    Calls Try.prog 22 #[.pointer (some ⟨g, 0, none⟩)] w (FlushPost B g d F w) := by
  have HD := Lib.hid h
  obtain ⟨As, cs, Aw, cw, hb, hs, hv, hg, hok, hF⟩ := h
  have x := hb.cell
  have gF : F g := (hF g).2 (.inl rfl)
  cases ho : d.off with
  | true =>
    have P : FlushPost B g d F w (.returned (.int .i64 7)) w := by
      refine ⟨by unfold Dk.flushE; rw [if_pos ho], F, ?_, Upd.refl _ _⟩
      unfold Dk.flush; rw [if_pos ho]; exact HD.out
    have HP := Lib.hid P
    rw [ho] at x
    clear hb hs hv P HD hok hF
    go_enter Try.func22, Try.ntmps22
    go_wp2
    go_ret
    exact HP.out
  | false =>
  have HU := disk_burn g w (.slice As d.secs.length cs) (.slice Aw d.wait.length cw) d hb hok
  have hsne := hs.ne_blk hb (by decide)
  have hvne := hv.ne_blk hb (by decide)
  rw [ho] at x
  cases hbu : d.burnt with
  | false =>
    have e1 : d.flushE = 7 := by unfold Dk.flushE; rw [if_neg (by simp [ho]), if_neg (by simp [hbu])]
    have e2 : d.flush = d.burn := by unfold Dk.flush; rw [if_neg (by simp [ho]), if_neg (by simp [hbu])]
    have P : ∀ w', Blk w' g 89 #[.slice As d.secs.length cs, .slice Aw d.wait.length cw, .int .i64 (fuseI d.burn.fuse), .bool d.burn.off] → Mod (· = g) w w' → FlushPost B g d F w (.returned (.int .i64 7)) w' := fun w' h1 h2 => by
      refine ⟨by rw [e1], F, ?_, h2.wider (fun i hi => by subst hi; exact gF), fun i hi => .inl hi⟩
      rw [e2]
      refine ⟨As, cs, Aw, cw, ?_, ?_, ?_, hg, Dk.ok_burn hok, ?_⟩
      · rw [Dk.burn_secs, Dk.burn_wait]; exact h1
      · rw [Dk.burn_secs]; exact hs.mod h2 (fun k hk e => hsne (by rw [hk, e]))
      · rw [Dk.burn_wait]; exact hv.mod h2 (fun k hk e => hvne (by rw [hk, e]))
      · rw [Dk.burn_secs, Dk.burn_wait]; exact hF
    have HP := Lib.hid P
    have HUU := Lib.hid HU
    clear hb hs hv hF e1 e2 P hok HU hsne hvne HD
    go_enter Try.func22, Try.ntmps22
    go_wp2_with fail
    refine HUU.out.mono ?_
    rintro e w1 ⟨rfl, hb1, hm1, _⟩
    have P := Lib.hid (HP.out w1 hb1 hm1)
    clear hb1 hm1 HP HUU
    rw [hbu]
    go_wp2
    go_ret
    exact P.out
  | true =>
    have e1 : d.flushE = 0 := by unfold Dk.flushE; rw [if_neg (by simp [ho]), if_pos hbu]
    have e2 : d.flush = { d.burn with secs := landed (fun _ => true) 0 d.wait d.secs, wait := [] } := by unfold Dk.flush; rw [if_neg (by simp [ho]), if_pos hbu]
    have hok2 := Dk.ok_flush hok
    have HUU := Lib.hid HU
    have HX := Lib.hid (And.intro hs (And.intro hv (And.intro e1 (And.intro e2 hok2))))
    clear HU HD hs hv e1 e2 hok2 hb
    have HW := Lib.hid hw
    clear hw
    go_enter Try.func22, Try.ntmps22
    go_wp2_with fail
    refine HUU.out.mono ?_
    rintro e w1 ⟨rfl, hb1, hm1, hz1⟩
    clear hz1
    have hL0 : LandSt B g d (fuseI d.burn.fuse) d.burn.off As cs Aw cw (fun _ => true) F w 0 w1 := ⟨hb1, by rw [List.take_zero]; exact HX.out.1.mod hm1 (fun k hk e => hsne (by rw [hk, e])), HX.out.2.1.mod hm1 (fun k hk e => hvne (by rw [hk, e])), hm1.wider (fun i hi => by subst hi; exact gF)⟩
    have HL0 := Lib.hid hL0
    have x1 := hb1.cell
    clear hb1 hm1 HUU hL0 x
    rw [hbu]
    go_wp2_with fail
    clear x1
    go_loopw [21] (fun t wr => ∃ k : Nat, t = .int .i64 k ∧ k ≤ d.wait.length ∧ LandSt B g d (fuseI d.burn.fuse) d.burn.off As cs Aw cw (fun _ => true) F w k wr) (fun t _ => d.wait.length - (RowKit.intOf t).toNat)
    case atStart => exact ⟨0, rfl, by omega, HL0.out⟩
    case round =>
      clear HL0
      have hw := HW.out
      obtain ⟨k, rfl, hk, hL⟩ := hrel
      by_cases hlt : k < d.wait.length
      · skip
        obtain ⟨y, hy⟩ : ∃ y, d.wait[k]? = some y := ⟨_, List.getElem?_eq_getElem hlt⟩
        have haN : y.at_ < d.secs.length := hok.1 y (List.mem_of_getElem? hy)
        obtain ⟨gs, rfl, -, hcs, hgs, hBs⟩ := hL.2.1.some_ (by rw [landed_length]; omega)
        have hFs : F gs := (hF gs).2 (.inr (.inl rfl))
        have hvl := hL.2.2.1.sl Wr.enc_length
        obtain ⟨gw, ow, rfl, hgw, hcw⟩ := hvl.at_ hy
        have HVR := Lib.hid (hvl.range hy)
        have hkI : (k : Int) < (d.wait.length : Int) := by omega
        have haI : (y.at_ : Int) < (d.secs.length : Int) := by omega
        have HY := Lib.hid hy
        have x3 := hL.1.cell
        have HL := Lib.hid hL
        clear hvl hy hcw hL
        go_wp2_with (first
          | (refine wpList_load_mid rfl 93 (.tmp 23) (by rfl) gw (ow + k * 65) (by rfl) y.enc _ HVR.out Try.underlying93 rfl (by rw [Wr.enc_length]; exact sizeWrite) ?_)
          | (refine wpList_alloc_blk rfl 93 (by rfl) _ zeroWrite ?_; intro w5 b5 hb5 hz5; clear hz5)
          | (refine wpList_store_blk rfl 93 _ _ (by rfl) wr.heap.size 0 (by rfl) _ (by rfl) y.enc (by rfl) 93 (Wr.enc ⟨0, Sec.zero⟩) b5 (by rw [Wr.enc_length]; exact sizeWrite) (by rw [Wr.enc_length, Wr.enc_length]; omega) y.enc_one ?_; intro w6 b6 hm6 hz6; clear hz6; rw [splice_whole _ _ (by rw [Wr.enc_length, Wr.enc_length])] at b6
             have L6 := Lib.hid (HL.out.var hb5 hm6)
             have m6 := Lib.hid ((Mod.of_below (· = wr.heap.size) hb5).trans hm6 (fun _ e => .inl e))
             have xat : w6.cell? ⟨wr.heap.size, 0, none⟩ = some (.int .i64 y.at_) := b6.cell 0
             have x6 := L6.out.1.cell
             have HS := Lib.hid (And.intro (L6.out.1.drew.cell 0) (And.intro (b6.drew.cell 0) (b6.drew.range 1 y.data.enc (fun j v hv => by rw [Nat.add_comm 1 j]; exact hv))))
             clear b5 hb5 hm6 b6))
        refine wp_region_end (fun w' => w'.cell? ⟨g, 0, none⟩ = some (.slice (some ⟨gs, 0, none⟩) d.secs.length cs) ∧ w'.cell? ⟨wr.heap.size, 0, none⟩ = some (.int .i64 y.at_) ∧ w'.rangeAt wr.heap.size 1 y.data.enc) 9 (by kernel_rfl) ?_
        refine wpEnd_pure (i := 0) (oi := ?oi_0) (v := ?v_0) ?hi_0 (by kernel_rfl) ?hQ_0 ?hy_0 ?hS_0 ?h_0
        case hi_0 => (simp only [List.getElem?_toArray, List.getElem?_cons_succ, List.getElem?_cons_zero]; rfl)
        case hQ_0 => exact fun _ _ _ h => h
        case hy_0 => (refine Or.inl ⟨by rfl, ?_⟩; intro w hSw; (try dsimp only at hSw); first | (go_simp; done) | (go_simp; with_reducible rfl))
        case hS_0 => exact .inl (by exact HS.out)
        try simp only [Act.put, List.setIfInBounds_toArray, List.set_cons_zero, List.set_cons_succ]
        refine wpEnd_pure (i := 1) (oi := ?oi_1) (v := ?v_1) ?hi_1 (by kernel_rfl) ?hQ_1 ?hy_1 ?hS_1 ?h_1
        case hi_1 => (simp only [List.getElem?_toArray, List.getElem?_cons_succ, List.getElem?_cons_zero]; rfl)
        case hQ_1 => exact fun _ _ _ h => h
        case hy_1 => (refine Or.inl ⟨by rfl, ?_⟩; intro w hSw; (try dsimp only at hSw); first | (go_simp; done) | (go_simp; with_reducible rfl))
        case hS_1 => exact .inl (by exact HS.out)
        try simp only [Act.put, List.setIfInBounds_toArray, List.set_cons_zero, List.set_cons_succ]
        refine wpEnd_pure (i := 2) (oi := ?oi_2) (v := ?v_2) ?hi_2 (by kernel_rfl) ?hQ_2 ?hy_2 ?hS_2 ?h_2
        case hi_2 => (simp only [List.getElem?_toArray, List.getElem?_cons_succ, List.getElem?_cons_zero]; rfl)
        case hQ_2 => exact fun _ _ _ h => h
        case hy_2 => (refine Or.inl ⟨by rfl, ?_⟩; intro w hSw; (try dsimp only at hSw); first | (go_simp; done) | (go_simp; with_reducible rfl))
        case hS_2 => exact .inl (by exact HS.out)
        try simp only [Act.put, List.setIfInBounds_toArray, List.set_cons_zero, List.set_cons_succ]
        refine wpEnd_take (i := 3) (oi := ?oi_3) (v := ?v_3) [8, 3] ?hi_3 (by kernel_rfl) ?hQ_3 ?hy_3 ?hS_3 ?h_3
        case hi_3 => (simp only [List.getElem?_toArray, List.getElem?_cons_succ, List.getElem?_cons_zero]; rfl)
        case hQ_3 => exact fun _ _ _ h => h
        case hy_3 => (refine Or.inl ⟨by rfl, ?_⟩; intro w hSw; (try dsimp only at hSw); first | (go_simp; done) | (go_simp; with_reducible rfl))
        case hS_3 => exact HS.out
        try simp only [Act.put, List.setIfInBounds_toArray, List.set_cons_zero, List.set_cons_succ]
        refine wpEnd_pure (i := 4) (oi := ?oi_4) (v := ?v_4) ?hi_4 (by kernel_rfl) ?hQ_4 ?hy_4 ?hS_4 ?h_4
        case hi_4 => (simp only [List.getElem?_toArray, List.getElem?_cons_succ, List.getElem?_cons_zero]; rfl)
        case hQ_4 => exact fun _ _ _ h => h
        case hy_4 => (refine Or.inl ⟨by rfl, ?_⟩; intro w hSw; (try dsimp only at hSw); first | (go_simp; done) | (go_simp; with_reducible rfl))
        case hS_4 => exact .inl (by exact HS.out)
        try simp only [Act.put, List.setIfInBounds_toArray, List.set_cons_zero, List.set_cons_succ]
        refine wpEnd_take (i := 5) (oi := ?oi_5) (v := ?v_5) [8, 5] ?hi_5 (by kernel_rfl) ?hQ_5 ?hy_5 ?hS_5 ?h_5
        case hi_5 => (simp only [List.getElem?_toArray, List.getElem?_cons_succ, List.getElem?_cons_zero]; rfl)
        case hQ_5 => exact fun _ _ _ h => h
        case hy_5 => (refine Or.inl ⟨by rfl, ?_⟩; intro w hSw; (try dsimp only at hSw); first | (go_simp; done) | (go_simp; with_reducible rfl))
        case hS_5 => exact HS.out
        try simp only [Act.put, List.setIfInBounds_toArray, List.set_cons_zero, List.set_cons_succ]
        refine wpEnd_pure (i := 6) (oi := ?oi_6) (v := ?v_6) ?hi_6 (by kernel_rfl) ?hQ_6 ?hy_6 ?hS_6 ?h_6
        case hi_6 => (simp only [List.getElem?_toArray, List.getElem?_cons_succ, List.getElem?_cons_zero]; rfl)
        case hQ_6 => exact fun _ _ _ h => h
        case hy_6 => (refine Or.inl ⟨by rfl, ?_⟩; intro w hSw; (try dsimp only at hSw); first | (go_simp; done) | (go_simp; with_reducible rfl))
        case hS_6 => exact .inl (by exact HS.out)
        try simp only [Act.put, List.setIfInBounds_toArray, List.set_cons_zero, List.set_cons_succ]
        refine wpEnd_take (i := 7) (oi := ?oi_7) (v := ?v_7) [7] ?hi_7 (by kernel_rfl) ?hQ_7 ?hy_7 ?hS_7 ?h_7
        case hi_7 => (simp only [List.getElem?_toArray, List.getElem?_cons_succ, List.getElem?_cons_zero]; rfl)
        case hQ_7 => exact fun _ _ _ h => h
        case hy_7 => (refine yieldsIf_load_mid ?_ _ (.tmp 31) ?_ wr.heap.size 1 ?_ y.data.enc _ (fun _ h => And.right (And.right h)) Try.underlying91 rfl (by rw [Sec.enc_length]; exact sizeSec) <;> rfl)
        case hS_7 => exact HS.out
        try simp only [Act.put, List.setIfInBounds_toArray, List.set_cons_zero, List.set_cons_succ]
        refine wpEnd_pure (i := 8) (oi := ?oi_8) (v := ?v_8) ?hi_8 (by kernel_rfl) ?hQ_8 ?hy_8 ?hS_8 ?h_8
        case hi_8 => (simp only [List.getElem?_toArray, List.getElem?_cons_succ, List.getElem?_cons_zero]; rfl)
        case hQ_8 => exact fun _ _ _ h => h
        case hy_8 => (refine Or.inl ⟨by rfl, ?_⟩; intro w hSw; (try dsimp only at hSw); first | (go_simp; done) | (go_simp; with_reducible rfl))
        case hS_8 => exact .inl (by exact HS.out)
        try simp only [Act.put, List.setIfInBounds_toArray, List.set_cons_zero, List.set_cons_succ]
        refine wpEnd_one (i := 9) (o := ?o_9) (by kernel_rfl) ?ho_9 ?hg_9 (fun K hK => ?_)
        case ho_9 => (simp only [List.getElem?_toArray, List.getElem?_cons_succ, List.getElem?_cons_zero]; rfl)
        case hg_9 => rfl
        refine wp_store_elem 91 (.tmp 33) (.tmp 32) (by rfl) L6.out.drew.2.1 Sec.enc_length Sec.enc_one y.at_ (by rw [landed_length]; exact haN) (by rfl) y.data (by rfl) sizeSec ?_
        intro w8 hO8 hm8
        have L8 := Lib.hid (L6.out.drew.put HY.out rfl rfl hFs hO8 hm8)
        clear hO8 hm8
        refine hK _ _ (.inr (by rfl)) ?_
        clear hK K
        try simp only [Act.put, List.setIfInBounds_toArray, List.set_cons_zero, List.set_cons_succ]
        refine wpEnd_done (by kernel_rfl) ?_ _
        go_wp2
        go_roundw
        case rel => exact ⟨k + 1, by go_num, by omega, L8.out⟩
        case measure => simp [RowKit.intOf]; omega
      · obtain rfl : k = d.wait.length := by omega
        obtain ⟨b1, hs1, hv1, m1⟩ := hL
        rw [List.take_length] at hs1
        have x3 := b1.cell
        have y3 := b1.frozen
        have s1 := Lib.hid (b1.set_ 1 (.slice none 0 0))
        have f1 := Lib.hid (hs1.far (p := ⟨g, 1, none⟩) (hs1.ne_blk b1 (by decide)) (.slice none 0 0))
        have M1 := Lib.hid (m1.then_set (p := ⟨g, 1, none⟩) (.inl gF) (.slice none 0 0))
        clear b1 hs1 hv1 m1
        go_wp2
        go_ret
        obtain ⟨_, _, e1, e2, hok2⟩ := HX.out
        refine ⟨by rw [e1]; rfl, _, DP.mk' (d := d.flush) (by rw [e2]; exact s1.out) (Dk.flush_len d).symm (by rw [e2]; rfl) (by rw [e2]; exact f1.out) (by rw [e2]; exact Own.nil _ _ _ _ _) hg hok2, M1.out, ?_⟩
        rintro i (rfl | h | h)
        · exact .inl gF
        · exact .inl ((hF i).2 (.inr (.inl h)))
        · simp [Value.ownBlock] at h
end Go.Proofs.Ytaledjcbblgmeaa
