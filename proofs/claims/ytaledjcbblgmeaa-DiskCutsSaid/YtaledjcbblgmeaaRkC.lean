/- The reference's disk: land, Flush, Crash. -/
import Derived.Test.YtaledjcbblgmeaaRkR
namespace Go.Proofs.Ytaledjcbblgmeaa
open Go.RowKit

/-- The blocks of a disk that is landed: behind the first k Writes that wait. -/
def LandR (B g : Nat) (d : Dk) (left : Int) (Al : Option Addr) (cl : Nat) (Aw : Option Addr) (cw : Nat) (keep : Nat → Bool) (F : Nat → Prop) (w0 : World) (k : Nat) (w : World) : Prop :=
  Blk w g 98 #[.slice Al d.secs.length cl, .slice Aw d.wait.length cw, .bool d.fuse.isSome, .int .i64 left, .bool d.off] ∧
  Own B 90 64 Sec.enc w (.slice Al d.secs.length cl) (landed keep 0 (d.wait.take k) d.secs) ∧ Own B 126 65 Wr.enc w (.slice Aw d.wait.length cw) d.wait ∧ Mod F w0 w ∧ (∀ i, (Value.slice Al d.secs.length cl).ownBlock = some i → w0.heap.size ≤ i)
section
variable {B g : Nat} {d : Dk} {left : Int} {Al : Option Addr} {cl : Nat} {Aw : Option Addr} {cw : Nat} {keep : Nat → Bool} {F : Nat → Prop} {w0 w : World} {k : Nat}
theorem LandR.skip (h : LandR B g d left Al cl Aw cw keep F w0 k w) {y : Wr} (hy : d.wait[k]? = some y) (hk : keep k = false) : LandR B g d left Al cl Aw cw keep F w0 (k + 1) w := by
  obtain ⟨h1, h2, h3, h4, h5⟩ := h
  refine ⟨h1, ?_, h3, h4, h5⟩
  rw [landed_take keep d.wait d.secs hy, if_neg (by rw [hk]; decide)]
  exact h2
theorem LandR.drew (h : LandR B g d left Al cl Aw cw keep F w0 k w) : LandR B g d left Al cl Aw cw keep F w0 k w.drew := ⟨h.1.drew, h.2.1.drew, h.2.2.1.drew, h.2.2.2.1.then_drew, h.2.2.2.2⟩
theorem LandR.put (h : LandR B g d left Al cl Aw cw keep F w0 k w) {y : Wr} (hy : d.wait[k]? = some y) (hk : keep k = true) {gs : Nat} (hA : Al = some ⟨gs, 0, none⟩) {w' : World}
    (hO : Own B 90 64 Sec.enc w' (.slice Al d.secs.length cl) ((landed keep 0 (d.wait.take k) d.secs).set y.at_ y.data)) (hm : Mod (· = gs) w w') : LandR B g d left Al cl Aw cw keep F w0 (k + 1) w' := by
  obtain ⟨h1, h2, h3, h4, h5⟩ := h
  refine ⟨h1.mod hm (fun e => h2.ne_blk h1 (by decide) (by subst e; exact Own.blk hA)), ?_, h3.mod hm (fun i hi e => ?_), h4.trans hm (fun i e => .inr (by subst e; exact h5 _ (Own.blk hA))), h5⟩
  · rw [landed_take keep d.wait d.secs hy, if_pos hk]
    exact hO
  · subst e
    rcases h3.ne_of h2 (by decide) with h6 | h6
    · rw [hi] at h6; cases h6
    · exact h6 (by rw [hi, Own.blk hA])
end
def LandPost (B g : Nat) (d : Dk) (keep : Nat → Bool) (F : Nat → Prop) (w : World) (e : Ending) (w' : World) : Prop :=
  e = .returned (.tuple #[]) ∧ ∃ F', RP w' B g { d with secs := landed keep 0 d.wait d.secs, wait := [] } F' ∧ Upd F w F' w'
theorem Dk.ok_land {d : Dk} (h : d.ok) (keep : Nat → Bool) : ({ d with secs := landed keep 0 d.wait d.secs, wait := [] } : Dk).ok := ⟨fun x hx => by simp at hx, by simp only [landed_length]; exact h.2.1, h.2.2⟩

set_option maxRecDepth 100000 in
set_option maxHeartbeats 8000000 in
theorem rdisk_land (B g : Nat) (d : Dk) (F : Nat → Prop) (keep : List Bool) (all : Bool) (A : Option Addr) (n c : Nat) (w : World) (h : RP w B g d F) (hS : Sl 1 boE w (.slice A n c) keep) (hA : 0 < keep.length → ∀ k o, A = some ⟨k, o, none⟩ → ¬ F k)
    (hw : d.wait.length ≤ 1000000) (hkl : keep.length ≤ 1000000) (hB : B ≤ w.heap.size) :
    Calls Try.prog 77 #[.pointer (some ⟨g, 0, none⟩), .slice A n c, .bool all] w (LandPost B g d (fun k => all || keep.getD k false) F w) := by
  obtain ⟨As, cs, Aw, cw, left, hb, h0, hs, hv, hg, hok, hF⟩ := h
  obtain rfl : n = _ := hS.len.1
  have x := hb.cell
  have hgl := hb.lt
  have gF : F g := (hF g).2 (.inl rfl)
  have hn128 : d.secs.length ≤ 128 := hok.2.1
  have H := Lib.hid (And.intro hb (And.intro (hs.sl Sec.enc_length) (And.intro hv hS)))
  have HW := Lib.hid hw
  have HF := Lib.hid hF
  have HA := Lib.hid hA
  have H0 := Lib.hid h0
  obtain ⟨i0, hi, hz0, hz1, hz2⟩ := info_parts infoRSec
  clear hb hs hv hS hw hF hA h0
  go_enter Try.func77, Try.ntmps77
  go_wp2_with (first
    | (refine wpList_empty rfl 95 90 (by rfl) Try.underlying95 (by kernel_rfl) ?_
       intro w1 b1 hb1 hz1
       clear hz1
       have hO1 : Own w.heap.size 90 64 Sec.enc w1 (.slice (some ⟨w.heap.size, 0, none⟩) 0 0) ([] : List Sec) := Own.of_blk b1 Sec.enc_length rfl rfl (Nat.le_refl _) (by simp)
       have x1 := (H.out.1.below hb1 hgl).cell
       have hs1 := H.out.2.1.below hb1
       have hB1 : w.heap.size ≤ w1.heap.size := hb1.size
       have HO1 := Lib.hid (And.intro hO1 (And.intro hs1 hb1))
       clear x b1 hb1 hO1 hs1)
    | (at_builtin
       refine wpList_app _ rfl (.tmp 8) (.tmp 12) 95 (by rfl) w.heap.size 90 i0 _ 64 64 Sec.enc Try.underlying95 hi hz0 hz1 hz2 rfl (by decide) Sec.enc_length Sec.enc_one _ _ [] d.secs (by rfl) HO1.out.1 (by rfl) HO1.out.2.1 (by unfold maxLen; simp; omega) (by simp; omega) hB1 ?_
       intro v2 w2 hO2 hg2 hat2
       rw [List.nil_append] at hO2
       obtain ⟨Al, cl, rfl⟩ := hO2.slice
       have q2 := HO1.out.2.2.grown hg2 hB1 (fun k hk => (HO1.out.1.lt k hk).1)
       have b2 := H.out.1.below q2 hgl
       have v2' := H.out.2.2.1.below q2
       have HO2 := Lib.hid (And.intro hO2 (And.intro q2 (And.intro b2 v2')))
       clear hO2 q2 hg2 hat2 b2 v2' x1)
    | (refine wpList_store_blk rfl 95 (.tmp 15) (.tmp 13) (by rfl) g 0 (by rfl) _ (by rfl) [.slice Al d.secs.length cl] (by rfl) 98 [.slice As d.secs.length cs, .slice Aw d.wait.length cw, .bool d.fuse.isSome, .int .i64 left, .bool d.off] HO2.out.2.2.1 (by kernel_rfl) (by simp) (by simp [Value.oneCell']) ?_
       intro w3 b3 hm3 hz3
       clear hz3
       have b3 : Blk w3 g 98 #[.slice Al d.secs.length cl, .slice Aw d.wait.length cw, .bool d.fuse.isSome, .int .i64 left, .bool d.off] := b3
       have hL0 : LandR B g d left Al cl Aw cw (fun k => all || keep.getD k false) F w 0 w3 := by
         obtain ⟨hO2, q2, b2, v2⟩ := HO2.out
         refine ⟨b3, ?_, v2.mod hm3 (fun k hk e => by subst e; exact v2.ne_blk b2 (by decide) hk), ?_, fun i hi => (hO2.lt i hi).1⟩
         · rw [List.take_zero]
           exact (hO2.mod hm3 (fun k hk e => by subst e; exact hO2.ne_blk b2 (by decide) hk)).lower hB
         · exact (Mod.of_below F q2).trans hm3 (fun i e => .inl (by subst e; exact gF))
       have HL0 := Lib.hid hL0
       clear hL0 b3 hm3))
  go_loopw [6] (fun t wr => ∃ k : Nat, t = .int .i64 k ∧ k ≤ d.wait.length ∧ LandR B g d left Al cl Aw cw (fun k => all || keep.getD k false) F w k wr) (fun t _ => d.wait.length - (RowKit.intOf t).toNat)
  case atStart => exact ⟨0, rfl, by omega, HL0.out⟩
  case round =>
    clear HL0
    have hw := HW.out
    obtain ⟨k, rfl, hk, hL⟩ := hrel
    have x3 := hL.1.cell
    by_cases hlt : k < d.wait.length
    · obtain ⟨y, hy⟩ : ∃ y, d.wait[k]? = some y := ⟨_, List.getElem?_eq_getElem hlt⟩
      have haN : y.at_ < d.secs.length := hok.1 y (List.mem_of_getElem? hy)
      obtain ⟨gs, rfl, -, hcs, hgs, hBs⟩ := hL.2.1.some_ (by rw [landed_length]; omega)
      have hvl := hL.2.2.1.sl Wr.enc_length
      obtain ⟨gw, ow, rfl, hgw, hcw⟩ := hvl.at_ hy
      have hr := hvl.range hy
      have hr1 : wr.rangeAt gw (ow + k * 65 + 1) y.data.enc := fun j v hv => by
        have := hr (j + 1) v (by simpa [Wr.enc] using hv)
        rwa [show ow + k * 65 + (j + 1) = ow + k * 65 + 1 + j by omega] at this
      have c0 : wr.cell? ⟨gw, ow + k * 65, none⟩ = some (.int .i64 y.at_) := by
        have := hr 0 _ rfl
        rwa [Nat.add_zero] at this
      have HS := Lib.hid (And.intro (hL.1.drew.cell 0) (And.intro (hL.1.drew.cell 1) (And.intro c0 hr1)))
      have hkI : (k : Int) < (d.wait.length : Int) := by omega
      have haI : (y.at_ : Int) < (d.secs.length : Int) := by omega
      have HY := Lib.hid hy
      have HL := Lib.hid hL
      clear hvl hy hcw hL hr hr1 c0
      cases hall : all with
      | true =>
        rw [hall] at HL
        go_wp2_with fail
        refine wp_region_end (fun w' => w'.cell? ⟨g, 0, none⟩ = some (.slice (some ⟨gs, 0, none⟩) d.secs.length cl) ∧ w'.cell? ⟨g, 1, none⟩ = some (.slice (some ⟨gw, ow, none⟩) d.wait.length cw) ∧ w'.cell? ⟨gw, ow + k * 65, none⟩ = some (.int .i64 y.at_) ∧ w'.rangeAt gw (ow + k * 65 + 1) y.data.enc) 21 (by kernel_rfl) ?_
        refine wpEnd_pure (i := 0) (oi := ?ois8_0) (v := ?vs8_0) ?his8_0 (by kernel_rfl) ?hQs8_0 ?hys8_0 ?hSs8_0 ?hs8_0
        case his8_0 => (simp only [List.getElem?_toArray, List.getElem?_cons_succ, List.getElem?_cons_zero]; rfl)
        case hQs8_0 => exact fun _ _ _ h => h
        case hys8_0 => (refine Or.inl ⟨by rfl, ?_⟩; intro w hSw; (try dsimp only at hSw); first | (go_simp; done) | (go_simp; with_reducible rfl))
        case hSs8_0 => exact .inl (by exact HS.out)
        try simp only [Act.put, List.setIfInBounds_toArray, List.set_cons_zero, List.set_cons_succ]
        refine wpEnd_pure (i := 1) (oi := ?ois8_1) (v := ?vs8_1) ?his8_1 (by kernel_rfl) ?hQs8_1 ?hys8_1 ?hSs8_1 ?hs8_1
        case his8_1 => (simp only [List.getElem?_toArray, List.getElem?_cons_succ, List.getElem?_cons_zero]; rfl)
        case hQs8_1 => exact fun _ _ _ h => h
        case hys8_1 => (refine Or.inl ⟨by rfl, ?_⟩; intro w hSw; (try dsimp only at hSw); first | (go_simp; done) | (go_simp; with_reducible rfl))
        case hSs8_1 => exact .inl (by exact HS.out)
        try simp only [Act.put, List.setIfInBounds_toArray, List.set_cons_zero, List.set_cons_succ]
        refine wpEnd_pure (i := 2) (oi := ?ois8_2) (v := ?vs8_2) ?his8_2 (by kernel_rfl) ?hQs8_2 ?hys8_2 ?hSs8_2 ?hs8_2
        case his8_2 => (simp only [List.getElem?_toArray, List.getElem?_cons_succ, List.getElem?_cons_zero]; rfl)
        case hQs8_2 => exact fun _ _ _ h => h
        case hys8_2 => (refine Or.inl ⟨by rfl, ?_⟩; intro w hSw; (try dsimp only at hSw); first | (go_simp; done) | (go_simp; with_reducible rfl))
        case hSs8_2 => exact .inl (by exact HS.out)
        try simp only [Act.put, List.setIfInBounds_toArray, List.set_cons_zero, List.set_cons_succ]
        refine wpEnd_take (i := 3) (oi := ?ois8_3) (v := ?vs8_3) [20, 3] ?his8_3 (by kernel_rfl) ?hQs8_3 ?hys8_3 ?hSs8_3 ?hs8_3
        case his8_3 => (simp only [List.getElem?_toArray, List.getElem?_cons_succ, List.getElem?_cons_zero]; rfl)
        case hQs8_3 => exact fun _ _ _ h => h
        case hys8_3 => (refine Or.inl ⟨by rfl, ?_⟩; intro w hSw; (try dsimp only at hSw); first | (go_simp; done) | (go_simp; with_reducible rfl))
        case hSs8_3 => exact HS.out
        try simp only [Act.put, List.setIfInBounds_toArray, List.set_cons_zero, List.set_cons_succ]
        refine wpEnd_pure (i := 4) (oi := ?ois8_4) (v := ?vs8_4) ?his8_4 (by kernel_rfl) ?hQs8_4 ?hys8_4 ?hSs8_4 ?hs8_4
        case his8_4 => (simp only [List.getElem?_toArray, List.getElem?_cons_succ, List.getElem?_cons_zero]; rfl)
        case hQs8_4 => exact fun _ _ _ h => h
        case hys8_4 => (refine Or.inl ⟨by rfl, ?_⟩; intro w hSw; (try dsimp only at hSw); first | (go_simp; done) | (go_simp; with_reducible rfl))
        case hSs8_4 => exact .inl (by exact HS.out)
        try simp only [Act.put, List.setIfInBounds_toArray, List.set_cons_zero, List.set_cons_succ]
        refine wpEnd_pure (i := 5) (oi := ?ois8_5) (v := ?vs8_5) ?his8_5 (by kernel_rfl) ?hQs8_5 ?hys8_5 ?hSs8_5 ?hs8_5
        case his8_5 => (simp only [List.getElem?_toArray, List.getElem?_cons_succ, List.getElem?_cons_zero]; rfl)
        case hQs8_5 => exact fun _ _ _ h => h
        case hys8_5 => (refine Or.inl ⟨by rfl, ?_⟩; intro w hSw; (try dsimp only at hSw); first | (go_simp; done) | (go_simp; with_reducible rfl))
        case hSs8_5 => exact .inl (by exact HS.out)
        try simp only [Act.put, List.setIfInBounds_toArray, List.set_cons_zero, List.set_cons_succ]
        refine wpEnd_pure (i := 6) (oi := ?ois8_6) (v := ?vs8_6) ?his8_6 (by kernel_rfl) ?hQs8_6 ?hys8_6 ?hSs8_6 ?hs8_6
        case his8_6 => (simp only [List.getElem?_toArray, List.getElem?_cons_succ, List.getElem?_cons_zero]; rfl)
        case hQs8_6 => exact fun _ _ _ h => h
        case hys8_6 => (refine Or.inl ⟨by rfl, ?_⟩; intro w hSw; (try dsimp only at hSw); first | (go_simp; done) | (go_simp; with_reducible rfl))
        case hSs8_6 => exact .inl (by exact HS.out)
        try simp only [Act.put, List.setIfInBounds_toArray, List.set_cons_zero, List.set_cons_succ]
        refine wpEnd_take (i := 7) (oi := ?ois8_7) (v := ?vs8_7) [20, 11, 10, 9, 7] ?his8_7 (by kernel_rfl) ?hQs8_7 ?hys8_7 ?hSs8_7 ?hs8_7
        case his8_7 => (simp only [List.getElem?_toArray, List.getElem?_cons_succ, List.getElem?_cons_zero]; rfl)
        case hQs8_7 => exact fun _ _ _ h => h
        case hys8_7 => (refine Or.inl ⟨by rfl, ?_⟩; intro w hSw; (try dsimp only at hSw); first | (go_simp; done) | (go_simp; with_reducible rfl))
        case hSs8_7 => exact HS.out
        try simp only [Act.put, List.setIfInBounds_toArray, List.set_cons_zero, List.set_cons_succ]
        refine wpEnd_pure (i := 8) (oi := ?ois8_8) (v := ?vs8_8) ?his8_8 (by kernel_rfl) ?hQs8_8 ?hys8_8 ?hSs8_8 ?hs8_8
        case his8_8 => (simp only [List.getElem?_toArray, List.getElem?_cons_succ, List.getElem?_cons_zero]; rfl)
        case hQs8_8 => exact fun _ _ _ h => h
        case hys8_8 => (refine Or.inl ⟨by rfl, ?_⟩; intro w hSw; (try dsimp only at hSw); first | (go_simp; done) | (go_simp; with_reducible rfl))
        case hSs8_8 => exact .inl (by exact HS.out)
        try simp only [Act.put, List.setIfInBounds_toArray, List.set_cons_zero, List.set_cons_succ]
        refine wpEnd_pure (i := 9) (oi := ?ois8_9) (v := ?vs8_9) ?his8_9 (by kernel_rfl) ?hQs8_9 ?hys8_9 ?hSs8_9 ?hs8_9
        case his8_9 => (simp only [List.getElem?_toArray, List.getElem?_cons_succ, List.getElem?_cons_zero]; rfl)
        case hQs8_9 => exact fun _ _ _ h => h
        case hys8_9 => (refine Or.inl ⟨by rfl, ?_⟩; intro w hSw; (try dsimp only at hSw); first | (go_simp; done) | (go_simp; with_reducible rfl))
        case hSs8_9 => exact .inl (by exact HS.out)
        try simp only [Act.put, List.setIfInBounds_toArray, List.set_cons_zero, List.set_cons_succ]
        refine wpEnd_pure (i := 10) (oi := ?ois8_10) (v := ?vs8_10) ?his8_10 (by kernel_rfl) ?hQs8_10 ?hys8_10 ?hSs8_10 ?hs8_10
        case his8_10 => (simp only [List.getElem?_toArray, List.getElem?_cons_succ, List.getElem?_cons_zero]; rfl)
        case hQs8_10 => exact fun _ _ _ h => h
        case hys8_10 => (refine Or.inl ⟨by rfl, ?_⟩; intro w hSw; (try dsimp only at hSw); first | (go_simp; done) | (go_simp; with_reducible rfl))
        case hSs8_10 => exact .inl (by exact HS.out)
        try simp only [Act.put, List.setIfInBounds_toArray, List.set_cons_zero, List.set_cons_succ]
        refine wpEnd_take (i := 11) (oi := ?ois8_11) (v := ?vs8_11) [20, 11] ?his8_11 (by kernel_rfl) ?hQs8_11 ?hys8_11 ?hSs8_11 ?hs8_11
        case his8_11 => (simp only [List.getElem?_toArray, List.getElem?_cons_succ, List.getElem?_cons_zero]; rfl)
        case hQs8_11 => exact fun _ _ _ h => h
        case hys8_11 => (refine Or.inl ⟨by rfl, ?_⟩; intro w hSw; (try dsimp only at hSw); first | (go_simp; done) | (go_simp; with_reducible rfl))
        case hSs8_11 => exact HS.out
        try simp only [Act.put, List.setIfInBounds_toArray, List.set_cons_zero, List.set_cons_succ]
        refine wpEnd_pure (i := 12) (oi := ?ois8_12) (v := ?vs8_12) ?his8_12 (by kernel_rfl) ?hQs8_12 ?hys8_12 ?hSs8_12 ?hs8_12
        case his8_12 => (simp only [List.getElem?_toArray, List.getElem?_cons_succ, List.getElem?_cons_zero]; rfl)
        case hQs8_12 => exact fun _ _ _ h => h
        case hys8_12 => (refine Or.inl ⟨by rfl, ?_⟩; intro w hSw; (try dsimp only at hSw); first | (go_simp; done) | (go_simp; with_reducible rfl))
        case hSs8_12 => exact .inl (by exact HS.out)
        try simp only [Act.put, List.setIfInBounds_toArray, List.set_cons_zero, List.set_cons_succ]
        refine wpEnd_pure (i := 13) (oi := ?ois8_13) (v := ?vs8_13) ?his8_13 (by kernel_rfl) ?hQs8_13 ?hys8_13 ?hSs8_13 ?hs8_13
        case his8_13 => (simp only [List.getElem?_toArray, List.getElem?_cons_succ, List.getElem?_cons_zero]; rfl)
        case hQs8_13 => exact fun _ _ _ h => h
        case hys8_13 => (refine Or.inl ⟨by rfl, ?_⟩; intro w hSw; (try dsimp only at hSw); first | (go_simp; done) | (go_simp; with_reducible rfl))
        case hSs8_13 => exact .inl (by exact HS.out)
        try simp only [Act.put, List.setIfInBounds_toArray, List.set_cons_zero, List.set_cons_succ]
        refine wpEnd_pure (i := 14) (oi := ?ois8_14) (v := ?vs8_14) ?his8_14 (by kernel_rfl) ?hQs8_14 ?hys8_14 ?hSs8_14 ?hs8_14
        case his8_14 => (simp only [List.getElem?_toArray, List.getElem?_cons_succ, List.getElem?_cons_zero]; rfl)
        case hQs8_14 => exact fun _ _ _ h => h
        case hys8_14 => (refine Or.inl ⟨by rfl, ?_⟩; intro w hSw; (try dsimp only at hSw); first | (go_simp; done) | (go_simp; with_reducible rfl))
        case hSs8_14 => exact .inl (by exact HS.out)
        try simp only [Act.put, List.setIfInBounds_toArray, List.set_cons_zero, List.set_cons_succ]
        refine wpEnd_take (i := 15) (oi := ?ois8_15) (v := ?vs8_15) [19, 18, 17, 15] ?his8_15 (by kernel_rfl) ?hQs8_15 ?hys8_15 ?hSs8_15 ?hs8_15
        case his8_15 => (simp only [List.getElem?_toArray, List.getElem?_cons_succ, List.getElem?_cons_zero]; rfl)
        case hQs8_15 => exact fun _ _ _ h => h
        case hys8_15 => (refine Or.inl ⟨by rfl, ?_⟩; intro w hSw; (try dsimp only at hSw); first | (go_simp; done) | (go_simp; with_reducible rfl))
        case hSs8_15 => exact HS.out
        try simp only [Act.put, List.setIfInBounds_toArray, List.set_cons_zero, List.set_cons_succ]
        refine wpEnd_pure (i := 16) (oi := ?ois8_16) (v := ?vs8_16) ?his8_16 (by kernel_rfl) ?hQs8_16 ?hys8_16 ?hSs8_16 ?hs8_16
        case his8_16 => (simp only [List.getElem?_toArray, List.getElem?_cons_succ, List.getElem?_cons_zero]; rfl)
        case hQs8_16 => exact fun _ _ _ h => h
        case hys8_16 => (refine Or.inl ⟨by rfl, ?_⟩; intro w hSw; (try dsimp only at hSw); first | (go_simp; done) | (go_simp; with_reducible rfl))
        case hSs8_16 => exact .inl (by exact HS.out)
        try simp only [Act.put, List.setIfInBounds_toArray, List.set_cons_zero, List.set_cons_succ]
        refine wpEnd_pure (i := 17) (oi := ?ois8_17) (v := ?vs8_17) ?his8_17 (by kernel_rfl) ?hQs8_17 ?hys8_17 ?hSs8_17 ?hs8_17
        case his8_17 => (simp only [List.getElem?_toArray, List.getElem?_cons_succ, List.getElem?_cons_zero]; rfl)
        case hQs8_17 => exact fun _ _ _ h => h
        case hys8_17 => (refine Or.inl ⟨by rfl, ?_⟩; intro w hSw; (try dsimp only at hSw); first | (go_simp; done) | (go_simp; with_reducible rfl))
        case hSs8_17 => exact .inl (by exact HS.out)
        try simp only [Act.put, List.setIfInBounds_toArray, List.set_cons_zero, List.set_cons_succ]
        refine wpEnd_pure (i := 18) (oi := ?ois8_18) (v := ?vs8_18) ?his8_18 (by kernel_rfl) ?hQs8_18 ?hys8_18 ?hSs8_18 ?hs8_18
        case his8_18 => (simp only [List.getElem?_toArray, List.getElem?_cons_succ, List.getElem?_cons_zero]; rfl)
        case hQs8_18 => exact fun _ _ _ h => h
        case hys8_18 => (refine Or.inl ⟨by rfl, ?_⟩; intro w hSw; (try dsimp only at hSw); first | (go_simp; done) | (go_simp; with_reducible rfl))
        case hSs8_18 => exact .inl (by exact HS.out)
        try simp only [Act.put, List.setIfInBounds_toArray, List.set_cons_zero, List.set_cons_succ]
        refine wpEnd_take (i := 19) (oi := ?ois8_19) (v := ?vs8_19) [19] ?his8_19 (by kernel_rfl) ?hQs8_19 ?hys8_19 ?hSs8_19 ?hs8_19
        case his8_19 => (simp only [List.getElem?_toArray, List.getElem?_cons_succ, List.getElem?_cons_zero]; rfl)
        case hQs8_19 => exact fun _ _ _ h => h
        case hys8_19 => (refine yieldsIf_load_mid ?_ _ (.tmp 56) ?_ gw (ow + k * 65 + 1) ?_ y.data.enc _ (fun _ h => And.right (And.right (And.right h))) Try.underlying90 rfl (by rw [Sec.enc_length]; exact sizeRSec) <;> rfl)
        case hSs8_19 => exact HS.out
        try simp only [Act.put, List.setIfInBounds_toArray, List.set_cons_zero, List.set_cons_succ]
        refine wpEnd_pure (i := 20) (oi := ?ois8_20) (v := ?vs8_20) ?his8_20 (by kernel_rfl) ?hQs8_20 ?hys8_20 ?hSs8_20 ?hs8_20
        case his8_20 => (simp only [List.getElem?_toArray, List.getElem?_cons_succ, List.getElem?_cons_zero]; rfl)
        case hQs8_20 => exact fun _ _ _ h => h
        case hys8_20 => (refine Or.inl ⟨by rfl, ?_⟩; intro w hSw; (try dsimp only at hSw); first | (go_simp; done) | (go_simp; with_reducible rfl))
        case hSs8_20 => exact .inl (by exact HS.out)
        try simp only [Act.put, List.setIfInBounds_toArray, List.set_cons_zero, List.set_cons_succ]
        refine wpEnd_one (i := 21) (o := ?os8_21) (by kernel_rfl) ?hos8_21 ?hgs8_21 (fun K hK => ?_)
        case hos8_21 => (simp only [List.getElem?_toArray, List.getElem?_cons_succ, List.getElem?_cons_zero]; rfl)
        case hgs8_21 => rfl
        refine wp_store_elem 90 (.tmp 58) (.tmp 57) (by rfl) HL.out.drew.2.1 Sec.enc_length Sec.enc_one y.at_ (by rw [landed_length]; exact haN) (by rfl) y.data (by rfl) sizeRSec ?_
        intro w8 hO8 hm8
        have L8 := Lib.hid (HL.out.drew.put HY.out rfl rfl hO8 hm8)
        clear hO8 hm8
        refine hK _ _ (.inr (by rfl)) ?_
        clear hK K
        try simp only [Act.put, List.setIfInBounds_toArray, List.set_cons_zero, List.set_cons_succ]
        refine wpEnd_done (by kernel_rfl) ?_ _
        go_wp2
        go_roundw
        case rel => exact ⟨k + 1, by go_num, by omega, L8.out⟩
        case measure => simp [RowKit.intOf]; omega
      | false =>
        rw [hall] at HL
        by_cases hkk : k < keep.length
        · have hkkI : (k : Int) < (keep.length : Int) := by omega
          obtain ⟨b, hbk⟩ : ∃ b, keep[k]? = some b := ⟨_, List.getElem?_eq_getElem hkk⟩
          obtain ⟨gk, ok, rfl, hgk, -⟩ := H.out.2.2.2.at_ hbk
          have ck := H.out.2.2.2.cell hbk 0 _ rfl
          rw [Nat.mul_one, Nat.add_zero] at ck
          have hFk := HA.out (by omega) gk ok rfl
          have ckr := (HL.out.2.2.2.1.cell (p := ⟨gk, ok + k, none⟩) hgk hFk).trans ck
          have hgd : keep.getD k false = b := by rw [List.getD_eq_getElem?_getD, hbk]; rfl
          have HK := Lib.hid hgd
          clear ck hbk hgd
          cases b with
          | true =>
            go_wp2_with fail
            refine wp_region_end (fun w' => w'.cell? ⟨g, 0, none⟩ = some (.slice (some ⟨gs, 0, none⟩) d.secs.length cl) ∧ w'.cell? ⟨g, 1, none⟩ = some (.slice (some ⟨gw, ow, none⟩) d.wait.length cw) ∧ w'.cell? ⟨gw, ow + k * 65, none⟩ = some (.int .i64 y.at_) ∧ w'.rangeAt gw (ow + k * 65 + 1) y.data.enc) 21 (by kernel_rfl) ?_
            refine wpEnd_pure (i := 0) (oi := ?ois12_0) (v := ?vs12_0) ?his12_0 (by kernel_rfl) ?hQs12_0 ?hys12_0 ?hSs12_0 ?hs12_0
            case his12_0 => (simp only [List.getElem?_toArray, List.getElem?_cons_succ, List.getElem?_cons_zero]; rfl)
            case hQs12_0 => exact fun _ _ _ h => h
            case hys12_0 => (refine Or.inl ⟨by rfl, ?_⟩; intro w hSw; (try dsimp only at hSw); first | (go_simp; done) | (go_simp; with_reducible rfl))
            case hSs12_0 => exact .inl (by exact HS.out)
            try simp only [Act.put, List.setIfInBounds_toArray, List.set_cons_zero, List.set_cons_succ]
            refine wpEnd_pure (i := 1) (oi := ?ois12_1) (v := ?vs12_1) ?his12_1 (by kernel_rfl) ?hQs12_1 ?hys12_1 ?hSs12_1 ?hs12_1
            case his12_1 => (simp only [List.getElem?_toArray, List.getElem?_cons_succ, List.getElem?_cons_zero]; rfl)
            case hQs12_1 => exact fun _ _ _ h => h
            case hys12_1 => (refine Or.inl ⟨by rfl, ?_⟩; intro w hSw; (try dsimp only at hSw); first | (go_simp; done) | (go_simp; with_reducible rfl))
            case hSs12_1 => exact .inl (by exact HS.out)
            try simp only [Act.put, List.setIfInBounds_toArray, List.set_cons_zero, List.set_cons_succ]
            refine wpEnd_pure (i := 2) (oi := ?ois12_2) (v := ?vs12_2) ?his12_2 (by kernel_rfl) ?hQs12_2 ?hys12_2 ?hSs12_2 ?hs12_2
            case his12_2 => (simp only [List.getElem?_toArray, List.getElem?_cons_succ, List.getElem?_cons_zero]; rfl)
            case hQs12_2 => exact fun _ _ _ h => h
            case hys12_2 => (refine Or.inl ⟨by rfl, ?_⟩; intro w hSw; (try dsimp only at hSw); first | (go_simp; done) | (go_simp; with_reducible rfl))
            case hSs12_2 => exact .inl (by exact HS.out)
            try simp only [Act.put, List.setIfInBounds_toArray, List.set_cons_zero, List.set_cons_succ]
            refine wpEnd_take (i := 3) (oi := ?ois12_3) (v := ?vs12_3) [20, 3] ?his12_3 (by kernel_rfl) ?hQs12_3 ?hys12_3 ?hSs12_3 ?hs12_3
            case his12_3 => (simp only [List.getElem?_toArray, List.getElem?_cons_succ, List.getElem?_cons_zero]; rfl)
            case hQs12_3 => exact fun _ _ _ h => h
            case hys12_3 => (refine Or.inl ⟨by rfl, ?_⟩; intro w hSw; (try dsimp only at hSw); first | (go_simp; done) | (go_simp; with_reducible rfl))
            case hSs12_3 => exact HS.out
            try simp only [Act.put, List.setIfInBounds_toArray, List.set_cons_zero, List.set_cons_succ]
            refine wpEnd_pure (i := 4) (oi := ?ois12_4) (v := ?vs12_4) ?his12_4 (by kernel_rfl) ?hQs12_4 ?hys12_4 ?hSs12_4 ?hs12_4
            case his12_4 => (simp only [List.getElem?_toArray, List.getElem?_cons_succ, List.getElem?_cons_zero]; rfl)
            case hQs12_4 => exact fun _ _ _ h => h
            case hys12_4 => (refine Or.inl ⟨by rfl, ?_⟩; intro w hSw; (try dsimp only at hSw); first | (go_simp; done) | (go_simp; with_reducible rfl))
            case hSs12_4 => exact .inl (by exact HS.out)
            try simp only [Act.put, List.setIfInBounds_toArray, List.set_cons_zero, List.set_cons_succ]
            refine wpEnd_pure (i := 5) (oi := ?ois12_5) (v := ?vs12_5) ?his12_5 (by kernel_rfl) ?hQs12_5 ?hys12_5 ?hSs12_5 ?hs12_5
            case his12_5 => (simp only [List.getElem?_toArray, List.getElem?_cons_succ, List.getElem?_cons_zero]; rfl)
            case hQs12_5 => exact fun _ _ _ h => h
            case hys12_5 => (refine Or.inl ⟨by rfl, ?_⟩; intro w hSw; (try dsimp only at hSw); first | (go_simp; done) | (go_simp; with_reducible rfl))
            case hSs12_5 => exact .inl (by exact HS.out)
            try simp only [Act.put, List.setIfInBounds_toArray, List.set_cons_zero, List.set_cons_succ]
            refine wpEnd_pure (i := 6) (oi := ?ois12_6) (v := ?vs12_6) ?his12_6 (by kernel_rfl) ?hQs12_6 ?hys12_6 ?hSs12_6 ?hs12_6
            case his12_6 => (simp only [List.getElem?_toArray, List.getElem?_cons_succ, List.getElem?_cons_zero]; rfl)
            case hQs12_6 => exact fun _ _ _ h => h
            case hys12_6 => (refine Or.inl ⟨by rfl, ?_⟩; intro w hSw; (try dsimp only at hSw); first | (go_simp; done) | (go_simp; with_reducible rfl))
            case hSs12_6 => exact .inl (by exact HS.out)
            try simp only [Act.put, List.setIfInBounds_toArray, List.set_cons_zero, List.set_cons_succ]
            refine wpEnd_take (i := 7) (oi := ?ois12_7) (v := ?vs12_7) [20, 11, 10, 9, 7] ?his12_7 (by kernel_rfl) ?hQs12_7 ?hys12_7 ?hSs12_7 ?hs12_7
            case his12_7 => (simp only [List.getElem?_toArray, List.getElem?_cons_succ, List.getElem?_cons_zero]; rfl)
            case hQs12_7 => exact fun _ _ _ h => h
            case hys12_7 => (refine Or.inl ⟨by rfl, ?_⟩; intro w hSw; (try dsimp only at hSw); first | (go_simp; done) | (go_simp; with_reducible rfl))
            case hSs12_7 => exact HS.out
            try simp only [Act.put, List.setIfInBounds_toArray, List.set_cons_zero, List.set_cons_succ]
            refine wpEnd_pure (i := 8) (oi := ?ois12_8) (v := ?vs12_8) ?his12_8 (by kernel_rfl) ?hQs12_8 ?hys12_8 ?hSs12_8 ?hs12_8
            case his12_8 => (simp only [List.getElem?_toArray, List.getElem?_cons_succ, List.getElem?_cons_zero]; rfl)
            case hQs12_8 => exact fun _ _ _ h => h
            case hys12_8 => (refine Or.inl ⟨by rfl, ?_⟩; intro w hSw; (try dsimp only at hSw); first | (go_simp; done) | (go_simp; with_reducible rfl))
            case hSs12_8 => exact .inl (by exact HS.out)
            try simp only [Act.put, List.setIfInBounds_toArray, List.set_cons_zero, List.set_cons_succ]
            refine wpEnd_pure (i := 9) (oi := ?ois12_9) (v := ?vs12_9) ?his12_9 (by kernel_rfl) ?hQs12_9 ?hys12_9 ?hSs12_9 ?hs12_9
            case his12_9 => (simp only [List.getElem?_toArray, List.getElem?_cons_succ, List.getElem?_cons_zero]; rfl)
            case hQs12_9 => exact fun _ _ _ h => h
            case hys12_9 => (refine Or.inl ⟨by rfl, ?_⟩; intro w hSw; (try dsimp only at hSw); first | (go_simp; done) | (go_simp; with_reducible rfl))
            case hSs12_9 => exact .inl (by exact HS.out)
            try simp only [Act.put, List.setIfInBounds_toArray, List.set_cons_zero, List.set_cons_succ]
            refine wpEnd_pure (i := 10) (oi := ?ois12_10) (v := ?vs12_10) ?his12_10 (by kernel_rfl) ?hQs12_10 ?hys12_10 ?hSs12_10 ?hs12_10
            case his12_10 => (simp only [List.getElem?_toArray, List.getElem?_cons_succ, List.getElem?_cons_zero]; rfl)
            case hQs12_10 => exact fun _ _ _ h => h
            case hys12_10 => (refine Or.inl ⟨by rfl, ?_⟩; intro w hSw; (try dsimp only at hSw); first | (go_simp; done) | (go_simp; with_reducible rfl))
            case hSs12_10 => exact .inl (by exact HS.out)
            try simp only [Act.put, List.setIfInBounds_toArray, List.set_cons_zero, List.set_cons_succ]
            refine wpEnd_take (i := 11) (oi := ?ois12_11) (v := ?vs12_11) [20, 11] ?his12_11 (by kernel_rfl) ?hQs12_11 ?hys12_11 ?hSs12_11 ?hs12_11
            case his12_11 => (simp only [List.getElem?_toArray, List.getElem?_cons_succ, List.getElem?_cons_zero]; rfl)
            case hQs12_11 => exact fun _ _ _ h => h
            case hys12_11 => (refine Or.inl ⟨by rfl, ?_⟩; intro w hSw; (try dsimp only at hSw); first | (go_simp; done) | (go_simp; with_reducible rfl))
            case hSs12_11 => exact HS.out
            try simp only [Act.put, List.setIfInBounds_toArray, List.set_cons_zero, List.set_cons_succ]
            refine wpEnd_pure (i := 12) (oi := ?ois12_12) (v := ?vs12_12) ?his12_12 (by kernel_rfl) ?hQs12_12 ?hys12_12 ?hSs12_12 ?hs12_12
            case his12_12 => (simp only [List.getElem?_toArray, List.getElem?_cons_succ, List.getElem?_cons_zero]; rfl)
            case hQs12_12 => exact fun _ _ _ h => h
            case hys12_12 => (refine Or.inl ⟨by rfl, ?_⟩; intro w hSw; (try dsimp only at hSw); first | (go_simp; done) | (go_simp; with_reducible rfl))
            case hSs12_12 => exact .inl (by exact HS.out)
            try simp only [Act.put, List.setIfInBounds_toArray, List.set_cons_zero, List.set_cons_succ]
            refine wpEnd_pure (i := 13) (oi := ?ois12_13) (v := ?vs12_13) ?his12_13 (by kernel_rfl) ?hQs12_13 ?hys12_13 ?hSs12_13 ?hs12_13
            case his12_13 => (simp only [List.getElem?_toArray, List.getElem?_cons_succ, List.getElem?_cons_zero]; rfl)
            case hQs12_13 => exact fun _ _ _ h => h
            case hys12_13 => (refine Or.inl ⟨by rfl, ?_⟩; intro w hSw; (try dsimp only at hSw); first | (go_simp; done) | (go_simp; with_reducible rfl))
            case hSs12_13 => exact .inl (by exact HS.out)
            try simp only [Act.put, List.setIfInBounds_toArray, List.set_cons_zero, List.set_cons_succ]
            refine wpEnd_pure (i := 14) (oi := ?ois12_14) (v := ?vs12_14) ?his12_14 (by kernel_rfl) ?hQs12_14 ?hys12_14 ?hSs12_14 ?hs12_14
            case his12_14 => (simp only [List.getElem?_toArray, List.getElem?_cons_succ, List.getElem?_cons_zero]; rfl)
            case hQs12_14 => exact fun _ _ _ h => h
            case hys12_14 => (refine Or.inl ⟨by rfl, ?_⟩; intro w hSw; (try dsimp only at hSw); first | (go_simp; done) | (go_simp; with_reducible rfl))
            case hSs12_14 => exact .inl (by exact HS.out)
            try simp only [Act.put, List.setIfInBounds_toArray, List.set_cons_zero, List.set_cons_succ]
            refine wpEnd_take (i := 15) (oi := ?ois12_15) (v := ?vs12_15) [19, 18, 17, 15] ?his12_15 (by kernel_rfl) ?hQs12_15 ?hys12_15 ?hSs12_15 ?hs12_15
            case his12_15 => (simp only [List.getElem?_toArray, List.getElem?_cons_succ, List.getElem?_cons_zero]; rfl)
            case hQs12_15 => exact fun _ _ _ h => h
            case hys12_15 => (refine Or.inl ⟨by rfl, ?_⟩; intro w hSw; (try dsimp only at hSw); first | (go_simp; done) | (go_simp; with_reducible rfl))
            case hSs12_15 => exact HS.out
            try simp only [Act.put, List.setIfInBounds_toArray, List.set_cons_zero, List.set_cons_succ]
            refine wpEnd_pure (i := 16) (oi := ?ois12_16) (v := ?vs12_16) ?his12_16 (by kernel_rfl) ?hQs12_16 ?hys12_16 ?hSs12_16 ?hs12_16
            case his12_16 => (simp only [List.getElem?_toArray, List.getElem?_cons_succ, List.getElem?_cons_zero]; rfl)
            case hQs12_16 => exact fun _ _ _ h => h
            case hys12_16 => (refine Or.inl ⟨by rfl, ?_⟩; intro w hSw; (try dsimp only at hSw); first | (go_simp; done) | (go_simp; with_reducible rfl))
            case hSs12_16 => exact .inl (by exact HS.out)
            try simp only [Act.put, List.setIfInBounds_toArray, List.set_cons_zero, List.set_cons_succ]
            refine wpEnd_pure (i := 17) (oi := ?ois12_17) (v := ?vs12_17) ?his12_17 (by kernel_rfl) ?hQs12_17 ?hys12_17 ?hSs12_17 ?hs12_17
            case his12_17 => (simp only [List.getElem?_toArray, List.getElem?_cons_succ, List.getElem?_cons_zero]; rfl)
            case hQs12_17 => exact fun _ _ _ h => h
            case hys12_17 => (refine Or.inl ⟨by rfl, ?_⟩; intro w hSw; (try dsimp only at hSw); first | (go_simp; done) | (go_simp; with_reducible rfl))
            case hSs12_17 => exact .inl (by exact HS.out)
            try simp only [Act.put, List.setIfInBounds_toArray, List.set_cons_zero, List.set_cons_succ]
            refine wpEnd_pure (i := 18) (oi := ?ois12_18) (v := ?vs12_18) ?his12_18 (by kernel_rfl) ?hQs12_18 ?hys12_18 ?hSs12_18 ?hs12_18
            case his12_18 => (simp only [List.getElem?_toArray, List.getElem?_cons_succ, List.getElem?_cons_zero]; rfl)
            case hQs12_18 => exact fun _ _ _ h => h
            case hys12_18 => (refine Or.inl ⟨by rfl, ?_⟩; intro w hSw; (try dsimp only at hSw); first | (go_simp; done) | (go_simp; with_reducible rfl))
            case hSs12_18 => exact .inl (by exact HS.out)
            try simp only [Act.put, List.setIfInBounds_toArray, List.set_cons_zero, List.set_cons_succ]
            refine wpEnd_take (i := 19) (oi := ?ois12_19) (v := ?vs12_19) [19] ?his12_19 (by kernel_rfl) ?hQs12_19 ?hys12_19 ?hSs12_19 ?hs12_19
            case his12_19 => (simp only [List.getElem?_toArray, List.getElem?_cons_succ, List.getElem?_cons_zero]; rfl)
            case hQs12_19 => exact fun _ _ _ h => h
            case hys12_19 => (refine yieldsIf_load_mid ?_ _ (.tmp 56) ?_ gw (ow + k * 65 + 1) ?_ y.data.enc _ (fun _ h => And.right (And.right (And.right h))) Try.underlying90 rfl (by rw [Sec.enc_length]; exact sizeRSec) <;> rfl)
            case hSs12_19 => exact HS.out
            try simp only [Act.put, List.setIfInBounds_toArray, List.set_cons_zero, List.set_cons_succ]
            refine wpEnd_pure (i := 20) (oi := ?ois12_20) (v := ?vs12_20) ?his12_20 (by kernel_rfl) ?hQs12_20 ?hys12_20 ?hSs12_20 ?hs12_20
            case his12_20 => (simp only [List.getElem?_toArray, List.getElem?_cons_succ, List.getElem?_cons_zero]; rfl)
            case hQs12_20 => exact fun _ _ _ h => h
            case hys12_20 => (refine Or.inl ⟨by rfl, ?_⟩; intro w hSw; (try dsimp only at hSw); first | (go_simp; done) | (go_simp; with_reducible rfl))
            case hSs12_20 => exact .inl (by exact HS.out)
            try simp only [Act.put, List.setIfInBounds_toArray, List.set_cons_zero, List.set_cons_succ]
            refine wpEnd_one (i := 21) (o := ?os12_21) (by kernel_rfl) ?hos12_21 ?hgs12_21 (fun K hK => ?_)
            case hos12_21 => (simp only [List.getElem?_toArray, List.getElem?_cons_succ, List.getElem?_cons_zero]; rfl)
            case hgs12_21 => rfl
            refine wp_store_elem 90 (.tmp 58) (.tmp 57) (by rfl) HL.out.drew.2.1 Sec.enc_length Sec.enc_one y.at_ (by rw [landed_length]; exact haN) (by rfl) y.data (by rfl) sizeRSec ?_
            intro w8 hO8 hm8
            have L8 := Lib.hid (HL.out.drew.put HY.out (by rw [HK.out]; rfl) rfl hO8 hm8)
            clear hO8 hm8
            refine hK _ _ (.inr (by rfl)) ?_
            clear hK K
            try simp only [Act.put, List.setIfInBounds_toArray, List.set_cons_zero, List.set_cons_succ]
            refine wpEnd_done (by kernel_rfl) ?_ _
            go_wp2
            go_roundw
            case rel => exact ⟨k + 1, by go_num, by omega, L8.out⟩
            case measure => simp [RowKit.intOf]; omega
          | false =>
            go_wp2
            go_roundw
            case rel => exact ⟨k + 1, by go_num, by omega, HL.out.skip HY.out (by rw [HK.out]; rfl)⟩
            case measure => simp [RowKit.intOf]; omega
        · have hkkI : ¬ (k : Int) < (keep.length : Int) := by omega
          have hgd : keep.getD k false = false := by rw [List.getD_eq_getElem?_getD, List.getElem?_eq_none (by omega)]; rfl
          have HK := Lib.hid hgd
          clear hgd
          go_wp2
          go_roundw
          case rel => exact ⟨k + 1, by go_num, by omega, HL.out.skip HY.out (by rw [HK.out]; rfl)⟩
          case measure => simp [RowKit.intOf]; omega
    · obtain rfl : k = d.wait.length := by omega
      obtain ⟨b1, hs1, hv1, m1, hf1⟩ := hL
      rw [List.take_length] at hs1
      have y3 := b1.frozen
      have s1 := Lib.hid (b1.set_ 1 (.slice none 0 0))
      have f1 := Lib.hid (hs1.far (p := ⟨g, 1, none⟩) (hs1.ne_blk b1 (by decide)) (.slice none 0 0))
      have M1 := Lib.hid (m1.then_set (p := ⟨g, 1, none⟩) (.inl gF) (.slice none 0 0))
      have F1 := Lib.hid hf1
      clear b1 hs1 hv1 m1 hf1
      go_wp2
      go_end0
      have e1 : d.secs.length = (landed (fun k => all || keep.getD k false) 0 d.wait d.secs).length := (landed_length _ _ _ _).symm
      refine ⟨rfl, _, RP.mk' (d := { d with secs := landed (fun k => all || keep.getD k false) 0 d.wait d.secs, wait := [] }) s1.out rfl H0.out e1 rfl f1.out (Own.nil _ _ _ _ _) hg (Dk.ok_land hok _), M1.out, ?_⟩
      rintro i (rfl | h | h)
      · exact .inl gF
      · exact .inr (F1.out i h)
      · simp [Value.ownBlock] at h

def RFlushPost (B g : Nat) (d : Dk) (F : Nat → Prop) (w : World) (e : Ending) (w' : World) : Prop := e = .returned (.int .i64 d.flushE) ∧ ∃ F', RP w' B g d.flush F' ∧ Upd F w F' w'
set_option maxRecDepth 100000 in
set_option maxHeartbeats 4000000 in
theorem rdisk_Flush (B g : Nat) (d : Dk) (F : Nat → Prop) (w : World) (h : RP w B g d F) (hw : d.wait.length ≤ 1000000) (hB : B ≤ w.heap.size) :
    Calls Try.prog 57 #[.pointer (some ⟨g, 0, none⟩)] w (RFlushPost B g d F w) := by
  have HD := Lib.hid h
  obtain ⟨As, cs, Aw, cw, left, hb, h0, hs, hv, hg, hok, hF⟩ := h
  have x := hb.cell
  have gF : F g := (hF g).2 (.inl rfl)
  cases ho : d.off with
  | true =>
    have P : RFlushPost B g d F w (.returned (.int .i64 7)) w := by
      refine ⟨by unfold Dk.flushE; rw [if_pos ho], F, ?_, Upd.refl _ _⟩
      unfold Dk.flush; rw [if_pos ho]; exact HD.out
    have HP := Lib.hid P
    rw [ho] at x
    clear hb hs hv P HD hok hF h0
    go_enter Try.func57, Try.ntmps57
    go_wp2
    go_ret
    exact HP.out
  | false =>
  have HU := rdisk_spend g w (.slice As d.secs.length cs) (.slice Aw d.wait.length cw) d left hb h0 hok
  have hsne := hs.ne_blk hb (by decide)
  have hvne := hv.ne_blk hb (by decide)
  have RPb : ∀ w' left', Blk w' g 98 #[.slice As d.secs.length cs, .slice Aw d.wait.length cw, .bool d.burn.fuse.isSome, .int .i64 left', .bool d.burn.off] → (∀ k : Nat, d.burn.fuse = some k → left' = k) → Mod (· = g) w w' → RP w' B g d.burn F ∧ Upd F w F w' := fun w' left' h1 h0' h2 => by
    refine ⟨⟨As, cs, Aw, cw, left', ?_, h0', ?_, ?_, hg, Dk.ok_burn hok, ?_⟩, h2.wider (fun i hi => by subst hi; exact gF), fun i hi => .inl hi⟩
    · rw [Dk.burn_secs, Dk.burn_wait]; exact h1
    · rw [Dk.burn_secs]; exact hs.mod h2 (fun k hk e => hsne (by rw [hk, e]))
    · rw [Dk.burn_wait]; exact hv.mod h2 (fun k hk e => hvne (by rw [hk, e]))
    · rw [Dk.burn_secs, Dk.burn_wait]; exact hF
  rw [ho] at x
  have HRP := Lib.hid RPb
  have HUU := Lib.hid HU
  have HW := Lib.hid hw
  clear hb hs hv hF hok HU hsne hvne HD h0 RPb hw
  cases hbu : d.burnt with
  | false =>
    have e1 : d.flushE = 7 := by unfold Dk.flushE; rw [if_neg (by simp [ho]), if_neg (by simp [hbu])]
    have e2 : d.flush = d.burn := by unfold Dk.flush; rw [if_neg (by simp [ho]), if_neg (by simp [hbu])]
    have HE := Lib.hid (And.intro e1 e2)
    clear e1 e2
    go_enter Try.func57, Try.ntmps57
    go_wp2_with fail
    refine HUU.out.mono ?_
    rintro e w1 ⟨rfl, ⟨left', hb1, hl1⟩, hm1, _⟩
    have P := Lib.hid (HRP.out w1 left' hb1 hl1 hm1)
    clear hb1 hm1 HRP HUU hl1
    rw [hbu]
    go_wp2
    go_ret
    exact ⟨by rw [HE.out.1]; rfl, F, by rw [HE.out.2]; exact P.out.1, P.out.2⟩
  | true =>
    have e1 : d.flushE = 0 := by unfold Dk.flushE; rw [if_neg (by simp [ho]), if_pos hbu]
    have e2 : d.flush = { d.burn with secs := landed (fun _ => true) 0 d.wait d.secs, wait := [] } := by unfold Dk.flush; rw [if_neg (by simp [ho]), if_pos hbu]
    have HE := Lib.hid (And.intro e1 e2)
    clear e1 e2
    go_enter Try.func57, Try.ntmps57
    go_wp2_with fail
    refine HUU.out.mono ?_
    rintro e w1 ⟨rfl, ⟨left', hb1, hl1⟩, hm1, hz1⟩
    have P := Lib.hid (HRP.out w1 left' hb1 hl1 hm1)
    have hB1 : B ≤ w1.heap.size := by omega
    clear hb1 hm1 HRP HUU hl1 hz1 x
    rw [hbu]
    go_wp2_with fail
    refine (rdisk_land B g d.burn F [] true none 0 0 w1 P.out.1 (Sl.nil _ _ _) (fun h => by simp at h) (by rw [Dk.burn_wait]; exact HW.out) (by simp) hB1).mono ?_
    rintro e w2 ⟨rfl, F2, h2, u2⟩
    have HQ := Lib.hid (And.intro h2 u2)
    clear h2 u2
    go_wp2
    go_ret
    refine ⟨by rw [HE.out.1]; rfl, F2, ?_, P.out.2.trans HQ.out.2⟩
    rw [HE.out.2]
    have := HQ.out.1
    simp only [Bool.true_or] at this
    rw [Dk.burn_secs, Dk.burn_wait] at this
    exact this

def RCrashPost (B g : Nat) (d : Dk) (F : Nat → Prop) (keep : List Bool) (w : World) (e : Ending) (w' : World) : Prop := e = .returned (.tuple #[]) ∧ ∃ F', RP w' B g (d.crash keep) F' ∧ Upd F w F' w'
set_option maxRecDepth 100000 in
set_option maxHeartbeats 4000000 in
theorem rdisk_Crash (B g : Nat) (d : Dk) (F : Nat → Prop) (keep : List Bool) (A : Option Addr) (n c : Nat) (w : World) (h : RP w B g d F) (hS : Sl 1 boE w (.slice A n c) keep) (hA : 0 < keep.length → ∀ k o, A = some ⟨k, o, none⟩ → ¬ F k)
    (hw : d.wait.length ≤ 1000000) (hkl : keep.length ≤ 1000000) (hB : B ≤ w.heap.size) :
    Calls Try.prog 59 #[.pointer (some ⟨g, 0, none⟩), .slice A n c] w (RCrashPost B g d F keep w) := by
  have HC := Lib.hid (rdisk_land B g d F keep false A n c w h hS hA hw hkl hB)
  clear h hS hA hw hB
  go_enter Try.func59, Try.ntmps59
  go_wp2_with fail
  refine HC.out.mono ?_
  rintro e w1 ⟨rfl, F1, h1, u1⟩
  obtain ⟨As, cs, Aw, cw, left, hb, h0, hs, hv, hg, hok, hF⟩ := h1
  have x := hb.cell
  have y := hb.frozen
  have gF : F1 g := (hF g).2 (.inl rfl)
  have b1 := hb.set_ 4 (.bool false)
  have b2 := Lib.hid (b1.set_ 2 (.bool false))
  have s1 := hs.far (p := ⟨g, 4, none⟩) (hs.ne_blk hb (by decide)) (.bool false)
  have s2 := Lib.hid (s1.far (p := ⟨g, 2, none⟩) (s1.ne_blk b1 (by decide)) (.bool false))
  have v1 := hv.far (p := ⟨g, 4, none⟩) (hv.ne_blk hb (by decide)) (.bool false)
  have v2 := Lib.hid (v1.far (p := ⟨g, 2, none⟩) (v1.ne_blk b1 (by decide)) (.bool false))
  have M2 := Lib.hid (((Mod.refl F1 w1).then_set (p := ⟨g, 4, none⟩) (.inl gF) (.bool false)).then_set (p := ⟨g, 2, none⟩) (.inl gF) (.bool false))
  have HU := Lib.hid u1
  have HF := Lib.hid hF
  have hok' := Dk.ok_crash (d := d) (keep := keep) 
  clear hb hs hv b1 s1 v1 u1 hF HC
  go_wp2
  go_end0
  refine ⟨rfl, F1, ⟨As, cs, Aw, cw, left, b2.out, (fun k hk => by cases hk), s2.out, v2.out, hg, ?_, HF.out⟩, HU.out.trans ⟨M2.out, fun i hi => .inl hi⟩⟩
  exact ⟨hok.1, hok.2.1, fun k hk => by cases hk⟩
end Go.Proofs.Ytaledjcbblgmeaa
