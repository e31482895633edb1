/- What must be whatever is asked, of codec. -/
import Derived.Test.YtafbphiedaijmaaDoorCodG
import Derived.Test.YtafbphiedaijmaaDoorCodC
namespace Go.Proofs.YtafbphiedaijmaaDoor
open Go.RowKit Go.Lib
attribute [local go_sem ↓] Go.wp_at_zero Go.wp_at_succ

def r5 : Rw := ⟨[⟨1, 5, ⟨#[]⟩⟩], 0, 1⟩
theorem r5_b : r5.b = true := by
  rw [Rw.b_iff]
  refine ⟨⟨by decide, by decide⟩, ?_, by decide⟩
  intro x hx
  have : x = ⟨1, 5, ⟨#[]⟩⟩ := by simpa [r5] using hx
  subst this
  show valB 1 5 ⟨#[]⟩ = true
  unfold valB
  rw [if_pos rfl, Lib.toList_data]
  rfl
theorem r5_ok : r5.ok := by
  refine ⟨?_, by decide, by decide⟩
  intro x hx
  have : x = ⟨1, 5, ⟨#[]⟩⟩ := by simpa [r5] using hx
  subst this
  exact ⟨by decide, by decide, by decide, by decide⟩
theorem r5_bytes : r5.bytes = [1, 128, 0, 0, 0, 0, 0, 0, 5, 0, 3, 232, 3, 233] := by decide +kernel
theorem r5_key : r5.key = [1, 128, 0, 0, 0, 0, 0, 0, 5] := by
  unfold Rw.key r5
  dsimp only
  have : Vl.b ⟨1, 5, ⟨#[]⟩⟩ = true := by
    have := r5_b
    rw [Rw.b_iff] at this
    exact this.2.1 _ (by simp [r5])
  rw [if_pos this]
  decide +kernel
theorem rowC_self (r : Rw) : rowC r r = 0 := by
  have h : ∀ l : List Vl, valsC l l = 0 := by
    intro l
    induction l with
    | nil => rfl
    | cons a t ih => rw [valsC, if_pos (show cmpW a a = 0 from cV_self _ _ _), ih]
  have c : ∀ a : Int, cmpI a a = 0 := fun a => by unfold cmpI; rw [if_neg (by omega), if_neg (by omega)]
  unfold rowC
  rw [h, c, c]
  rfl

theorem conv_sl {w : World} {v : Value} {l : List UInt8} (h : SlU w v l) : (convert 27 9 v).run Tryd.prog w = .ok (.string ⟨l.toArray⟩) w := by
  obtain ⟨A, c, rfl, _, h3, h4⟩ := h
  cases l with
  | nil =>
    cases A with
    | none =>
      rw [h3 rfl]
      exact conv_own (OwnB.nil w.heap.size w)
    | some a =>
      exact run_convert_bytes_back w _ _ 5 _ _ [] Tryd.underlying27 Tryd.underlying5 Tryd.underlying9 (fun j hj => by simp at hj)
  | cons b t =>
    obtain ⟨g, o, rfl, _, hc⟩ := h4 (by simp)
    refine run_convert_bytes_back w _ _ 5 _ _ (b :: t) Tryd.underlying27 Tryd.underlying5 Tryd.underlying9 ?_
    intro j hj
    rw [plain_add]
    have := hc j _ (List.getElem?_eq_getElem hj) 0 _ rfl
    rwa [Nat.mul_one, Nat.add_zero] at this

set_option maxRecDepth 100000 in
set_option maxHeartbeats 8000000 in
theorem live4 (w : World) : Calls Tryd.prog 10 #[] w fun e w' => e = .returned (.bool true) ∧ Below w.heap.size w w' := by
  obtain ⟨W0, hW0⟩ : ∃ W0, W0 = (w.alloc (.cells #[.int .u8 1, .int .i64 5, .string ⟨#[]⟩] 43)).alloc (.cells #[.slice (some ⟨w.heap.size, 0, none⟩) 1 1, .int .i64 0, .int .i64 1] 26) := ⟨_, rfl⟩
  have q0 : Below w.heap.size w W0 := by rw [hW0]; exact ((Below.refl _ _).alloc (Nat.le_refl _) _).alloc (by simp) _
  have hS0 : Sl 3 Vl.enc W0 (.slice (some ⟨w.heap.size, 0, none⟩) 1 1) r5.l := by
    rw [hW0]
    exact (Sl.new w 43 r5.l Vl.enc_length #[.int .u8 1, .int .i64 5, .string ⟨#[]⟩] rfl 1 rfl).alloc _
  have b1 : Blk W0 (w.heap.size + 1) 26 #[.slice (some ⟨w.heap.size, 0, none⟩) 1 1, .int .i64 0, .int .i64 1] := by
    rw [hW0]
    have := Blk.new (w.alloc (.cells #[.int .u8 1, .int .i64 5, .string ⟨#[]⟩] 43)) 26 #[.slice (some ⟨w.heap.size, 0, none⟩) 1 1, .int .i64 0, .int .i64 1]
    simpa using this
  have HW0 := Lib.hid hW0
  have HS0 := Lib.hid hS0
  have HB1 := Lib.hid b1
  have H1 := Lib.hid (fun w h => codec_encode r5 (.slice (some ⟨w.heap.size, 0, none⟩) 1 1) w r5_ok h (by decide) r5_b)
  clear hW0 hS0 b1
  go_enter Tryd.func10, Tryd.ntmps10
  go_wp2_with fail
  rw [← HW0.out]
  refine (codec_encode r5 _ W0 r5_ok HS0.out (by decide) r5_b).mono ?_
  rintro e w1 ⟨⟨v1, rfl, hO1⟩, hb1⟩
  rw [r5_bytes] at hO1
  have hS1 := hO1.sl u8E_length
  have hS1' := HS0.out.below hb1
  have b11 := HB1.out.below hb1 HB1.out.lt
  have q1 := keepS' q0 hb1
  have hl1 := HB1.out.lt
  clear hb1
  go_wp2_with fail
  refine (codec_decode v1 _ _ hS1 (by decide)).mono ?_
  rintro e w2 ⟨hb2, ⟨r, v2, hr, rfl, hO2⟩ | ⟨hno, _⟩⟩
  rotate_left
  · exact absurd ⟨r5_b, r5_ok, r5_bytes.symm⟩ (hno r5)
  obtain rfl := isRow_one hr ⟨r5_b, r5_ok, r5_bytes.symm⟩
  rw [show r5.f = 0 from rfl, show r5.t = 1 from rfl]
  obtain ⟨A2, c2, rfl⟩ : ∃ A c, v2 = .slice A 1 c := hO2.slice
  obtain ⟨A1, c1, rfl⟩ : ∃ A c, v1 = .slice A 14 c := hS1.slice
  obtain ⟨g1, o1, rfl, hg1, _⟩ := hS1.at_ (k := 0) (x := 1) rfl
  have hlen1 := hS1.len.2
  have hc9 : (9 : Int) ≤ (c1 : Int) := by omega
  obtain ⟨W3, hW3⟩ : ∃ W3, W3 = w2.alloc (.cells #[.slice A2 1 c2, .int .i64 0, .int .i64 1] 26) := ⟨_, rfl⟩
  have hb3 : Below w2.heap.size w2 W3 := by rw [hW3]; exact (Below.refl _ _).alloc (Nat.le_refl _) _
  have q3 := keepS' (keepS' q1 hb2) hb3
  have hz3 := hb3.size
  have hz2 := hb2.size
  have hS3 := (hS1.below hb2).below hb3
  have d0 := hS3.cell (k := 9) (x := 0) rfl 0 _ rfl
  have d1 := hS3.cell (k := 10) (x := 3) rfl 0 _ rfl
  have d2 := hS3.cell (k := 13) (x := 233) rfl 0 _ rfl
  simp only [Nat.add_zero, Nat.mul_one] at d0 d1 d2
  have hS9 : SlU W3 (.slice (some ⟨g1, o1, none⟩) 9 c1) [1, 128, 0, 0, 0, 0, 0, 0, 5] := hS3.take (m := 9) (by omega)
  have hcv := conv_sl hS9
  have hSr := (hS1'.below hb2).below hb3
  have hSx := (hO2.sl Vl.enc_length).below hb3
  have b13 := (b11.below hb2 b11.lt).below hb3 (b11.below hb2 b11.lt).lt
  have b43 : Blk W3 w2.heap.size 26 #[.slice A2 1 c2, .int .i64 0, .int .i64 1] := by rw [hW3]; exact Blk.new _ _ _
  have y0 := b13.cell_ _ (i := 0) rfl
  have y1 := b13.cell_ _ (i := 1) rfl
  have y2 := b13.cell_ _ (i := 2) rfl
  have z0 := b43.cell_ _ (i := 0) rfl
  have z1 := b43.cell_ _ (i := 1) rfl
  have z2 := b43.cell_ _ (i := 2) rfl
  have lt1 := b13.lt
  have lt2 := b43.lt
  have lt3 : g1 < W3.heap.size := by omega
  obtain ⟨G, hG⟩ : ∃ G, G = w.heap.size := ⟨_, rfl⟩
  have HCm := Lib.hid (fun w h1 h2 => codec_compare r5 r5 (.slice A2 1 c2) (.slice (some ⟨G, 0, none⟩) 1 1) w h1 h2 (by decide) (by decide))
  have HKy := Lib.hid (fun w h => codec_key r5 (.slice (some ⟨G, 0, none⟩) 1 1) w r5_ok h (by decide))
  rw [rowC_self] at HCm
  rw [r5_key] at HKy
  rw [hG] at HCm HKy
  clear hG
  have HW3 := Lib.hid hW3
  clear hS1 hS1' b11 hO2 hO1 b13 b43 hb2 hb3 hW3 hS3 hr HB1 HW0 HS0 H1
  go_wp2_with fail
  rw [← HW3.out]
  go_region_held3 (fun w' => w'.cell? ⟨w.heap.size + 1, 0, none⟩ = some (.slice (some ⟨w.heap.size, 0, none⟩) 1 1) ∧ w'.cell? ⟨w.heap.size + 1, 1, none⟩ = some (.int .i64 0) ∧ w'.cell? ⟨w.heap.size + 1, 2, none⟩ = some (.int .i64 1) ∧
      w'.cell? ⟨w2.heap.size, 0, none⟩ = some (.slice A2 1 c2) ∧ w'.cell? ⟨w2.heap.size, 1, none⟩ = some (.int .i64 0) ∧ w'.cell? ⟨w2.heap.size, 2, none⟩ = some (.int .i64 1) ∧
      w'.cell? ⟨g1, o1 + 9, none⟩ = some (.int .u8 0) ∧ w'.cell? ⟨g1, o1 + 10, none⟩ = some (.int .u8 3) ∧ w'.cell? ⟨g1, o1 + 13, none⟩ = some (.int .u8 233) ∧
      (convert 27 9 (.slice (some ⟨g1, o1, none⟩) 9 c1)).run Tryd.prog w' = .ok (.string ⟨#[1, 128, 0, 0, 0, 0, 0, 0, 5]⟩) w')
    (first | (exact ⟨y0, y1, y2, z0, z1, z2, d0, d1, d2, conv_sl hS9.drew⟩) | (go_split_ands; refine ⟨?_, ?_, ?_, ?_, ?_, ?_, ?_, ?_, ?_, ?_⟩ <;> first | (rw [hb6.cell (p := ⟨_, _, none⟩) (by simp; omega)]; assumption) | exact conv_sl hS9 | exact conv_sl hS9.drew | go_keep))
    (first
      | (go_at_call 14; refine (HCm.out _ hSx.drew hSr.drew).mono ?_; rintro e w6 ⟨rfl, hb6⟩; have hS9 := hS9.drew.below hb6; have hSr := hSr.drew.below hb6; have q3 := keepS' q3.drew hb6; have hz6 : W3.heap.size ≤ w6.heap.size := hb6.size)
      | (go_at_call 18; refine (HKy.out _ hSr).mono ?_; rintro e w6 ⟨rfl, hb6⟩; have hS9 := hS9.below hb6; have q3 := keepS' q3 hb6; have hz6 := hb6.size))
  go_wp2
  go_ret
  exact ⟨rfl, q3⟩

/-- A row cut to eight values. -/
def Rw.few (r : Rw) : Rw := ⟨r.l.take 8, r.f, r.t⟩
theorem Rw.few_ok {r : Rw} (h : r.ok) : r.few.ok := ⟨fun x hx => h.1 x (List.mem_of_mem_take hx), h.2⟩
theorem Rw.few_le (r : Rw) : r.few.l.length ≤ 8 := by unfold Rw.few; simp; omega
/-- What few hands back. -/
def FewPost (A : Option Addr) (r : Rw) (w : World) (e : Ending) (w' : World) : Prop := ∃ n c, e = .returned (.agg #[.slice A n c, .int .i64 r.f, .int .i64 r.t]) ∧ Sl 3 Vl.enc w' (.slice A n c) r.few.l ∧ Below w.heap.size w w'

set_option maxRecDepth 100000 in
set_option maxHeartbeats 2000000 in
theorem few4 (r : Rw) (A : Option Addr) (n c : Nat) (w : World) (hS : Sl 3 Vl.enc w (.slice A n c) r.l) (hl : r.l.length ≤ 9223372036854775807) :
    Calls Tryd.prog 5 #[.agg #[.slice A n c, .int .i64 r.f, .int .i64 r.t]] w (FewPost A r w) := by
  obtain ⟨l, f, t⟩ := r
  dsimp only at *
  obtain rfl : n = _ := hS.len.1
  have hlen := hS.len.2
  by_cases h8 : 8 < l.length
  · have h8' : (8 : Int) < (l.length : Int) := by omega
    have h8c : (8 : Int) ≤ (c : Int) := by omega
    have HS := Lib.hid (hS.take (m := 8) (by omega))
    clear hS
    go_enter Tryd.func5, Tryd.ntmps5
    go_wp2
    refine bodyPost_ret (v := .agg #[.slice A 8 c, .int .i64 f, .int .i64 t]) (by simp [results, Tryd.results5, go_sem]) rfl ?_
    have q : ∀ o p, Below w.heap.size w ((w.alloc o).alloc p) := fun o p => ((Below.refl _ _).alloc (Nat.le_refl _) o).alloc (by simp) p
    exact ⟨_, _, rfl, HS.out.below (q _ _), q _ _⟩
  · have h8' : ¬ (8 : Int) < (l.length : Int) := by omega
    have hS2 : Sl 3 Vl.enc w (.slice A l.length c) (l.take 8) := by rw [List.take_of_length_le (by omega)]; exact hS
    have HS := Lib.hid hS2
    clear hS hS2
    go_enter Tryd.func5, Tryd.ntmps5
    go_wp2
    refine bodyPost_ret (v := .agg #[.slice A l.length c, .int .i64 f, .int .i64 t]) (by simp [results, Tryd.results5, go_sem]) rfl ?_
    have q : ∀ o p, Below w.heap.size w ((w.alloc o).alloc p) := fun o p => ((Below.refl _ _).alloc (Nat.le_refl _) o).alloc (by simp) p
    exact ⟨_, _, rfl, HS.out.below (q _ _), q _ _⟩
end Go.Proofs.YtafbphiedaijmaaDoor
