/- The walk of ValueParses. -/
import Derived.Test.YtdcdglbliemnkaaDoorParse
import Derived.Test.YtdcdglbliemnkaaDoorLive3
namespace Go.Proofs.YtdcdglbliemnkaaDoor
open Go.RowKit Go.Lib

theorem parse_print {k n : Int} {s : ByteArray} (hv : valB k n s = true) (h1 : -9223372036854775808 ≤ n) (h2 : n ≤ 9223372036854775807) :
    (printR k n s).2 = 0 ∧ parseR (printR k n s).1 = ⟨k, n, s, 0⟩ ∧ (printR k n s).1.size ≤ 1000000 := by
  rcases valB_cases hv with ⟨rfl, e⟩ | ⟨rfl, rfl, e⟩
  · obtain rfl : s = ⟨#[]⟩ := ByteArray.ext (Array.ext' e)
    rw [print_num]
    refine ⟨rfl, ?_, by have := dec_le n h1 h2; show (decL n).length ≤ _; omega⟩
    rw [← refP_eq, refP]
    obtain ⟨c, r, hd, h39, _⟩ := decL_head n
    have hu : unquoteR ⟨(decL n).toArray⟩ = (⟨#[]⟩, 0, 8) := unquoteR_ne hd h39
    have hn : numR (decL n) = n := numR_dec n h1 h2
    rw [hu, if_neg (fun h => by simp at h)]
    show (if printR 1 (numR (decL n)) ⟨#[]⟩ = (⟨(decL n).toArray⟩, 0) then (⟨1, numR (decL n), ⟨#[]⟩, 0⟩ : PR) else noP) = _
    rw [hn, print_num, if_pos rfl]
  · have hp : printR 2 0 s = quoteR s := by rw [printR, hv]; rfl
    rw [hp]
    obtain ⟨q1, q2⟩ := quoteR_right e
    have hsz : (quoteR s).1.size = (quoteL s.data.toList).length := by rw [← q2]; simp
    have h32 := right_short e
    have hd := (dbl_le s.data.toList).2
    have hb := back s (quoteR s).1 [] e (by rw [q2]; simp) (fun d r' h => by cases h)
    refine ⟨q1, ?_, by rw [hsz, quoteL]; simp at h32 hd ⊢; omega⟩
    rw [← refP_eq, refP, hb, if_pos ⟨rfl, rfl⟩]
    have : printR 2 0 s = ((quoteR s).1, 0) := by rw [hp]; exact Prod.ext rfl q1
    rw [this, if_pos rfl]

theorem print_wrong {k n : Int} {s : ByteArray} (hv : valB k n s = false) : printR k n s = (⟨#[]⟩, 3) := by rw [printR, hv]; rfl

set_option maxHeartbeats 1000000 in
theorem short3 (s : ByteArray) (w : World) :
    Calls Tryd.prog 41 #[.string s] w fun e w' => e = .returned (.string (if 100 < s.size then s.extract 0 100 else s)) ∧ w = w' := by
  by_cases h : 100 < s.size
  · have HS : Hid ((if 100 < s.size then s.extract 0 100 else s) = s.extract 0 100) := Lib.hid (if_pos h)
    have h' : (100 : Int) < (s.size : Int) := by omega
    go_enter Tryd.func41, Tryd.ntmps41
    go_wp2
    go_ret
    exact ⟨rfl, rfl⟩
  · have HS : Hid ((if 100 < s.size then s.extract 0 100 else s) = s) := Lib.hid (if_neg h)
    have h' : ¬ (100 : Int) < (s.size : Int) := by omega
    go_enter Tryd.func41, Tryd.ntmps41
    go_wp2
    go_ret
    exact ⟨rfl, rfl⟩

set_option maxRecDepth 100000 in
set_option maxHeartbeats 4000000 in
theorem valueParses_walk (s0 : ByteArray) (k n : Int) (t : ByteArray) (w : World) (a1 : -9223372036854775808 ≤ n) (a2 : n ≤ 9223372036854775807) (hE : Env w) :
    Calls Tryd.prog 12 #[.string s0, .agg #[.int .u8 k, .int .i64 n, .string t]] w fun e w' => e = .returned (.bool true) ∧ Below w.heap.size w w' := by
  have HE := Lib.hid hE
  clear hE
  have HS := Lib.hid (fun w => short3 s0 w)
  obtain ⟨s, hs⟩ : ∃ s, s = if 100 < s0.size then s0.extract 0 100 else s0 := ⟨_, rfl⟩
  rw [← hs] at HS
  have hsz : s.size ≤ 100 := by
    rw [hs]
    split
    · simp; omega
    · omega
  clear hs
  have H1 := Lib.hid (fun w hE => value_parse s w (by omega) hE)
  have H2 := Lib.hid (fun w hE => ref3_parse s w (by omega) hE)
  have H3 := Lib.hid (fun w => value_print k n t w a1 a2)
  generalize parseR s = P at *
  obtain ⟨O, hO⟩ : ∃ O, O = w.alloc (.cells #[.int .u8 k, .int .i64 n, .string t] 38) := ⟨_, rfl⟩
  have c0 : Below w.heap.size w O := by rw [hO]; exact (Below.refl _ _).alloc (Nat.le_refl _) _
  have B0 : Blk O w.heap.size 38 #[.int .u8 k, .int .i64 n, .string t] := by rw [hO]; exact Blk.new _ _ _
  cases hv : valB k n t with
  | true =>
    obtain ⟨p1, p2, p3⟩ := parse_print hv a1 a2
    have H4 := Lib.hid (fun w hE => value_parse (printR k n t).1 w p3 hE)
    rw [p1] at H3
    rw [p2] at H4
    generalize (printR k n t).1 = T at *
    clear p1 p2 p3 hv
    go_enter Tryd.func12, Tryd.ntmps12
    go_wp2_with fail
    rw [← hO]
    clear hO
    refine (HS.out _).mono ?_
    rintro e w' ⟨rfl, rfl⟩
    go_wp2_with fail
    refine (H1.out _ (HE.out.below c0)).mono ?_
    rintro e w1 ⟨rfl, hb1⟩
    have C0 := (B0.below hb1 B0.lt).alloc (.cells #[.int .u8 P.k, .int .i64 P.n, .string P.s] 38)
    have N1 := Blk.new w1 38 #[.int .u8 P.k, .int .i64 P.n, .string P.s]
    have c1 := keepS' c0 hb1
    have d1 := c1.alloc c1.size (.cells #[.int .u8 P.k, .int .i64 P.n, .string P.s] 38)
    clear hb1 B0
    go_wp2_with fail
    refine (H2.out _ (HE.out.below d1)).mono ?_
    rintro e w2 ⟨rfl, hb2⟩
    have C2 := (C0.below hb2 C0.lt).alloc (.cells #[.int .u8 P.k, .int .i64 P.n, .string P.s] 38)
    have N2 := (N1.below hb2 N1.lt).alloc (.cells #[.int .u8 P.k, .int .i64 P.n, .string P.s] 38)
    have M2 := Blk.new w2 38 #[.int .u8 P.k, .int .i64 P.n, .string P.s]
    have c2 := keepS' d1 hb2
    have d2 := c2.alloc c2.size (.cells #[.int .u8 P.k, .int .i64 P.n, .string P.s] 38)
    have x2 := C2.cell
    clear hb2 C0 N1 c1 d1
    go_wp2_with fail
    refine (H3.out _).mono ?_
    rintro e w3 ⟨rfl, hb3⟩
    have C3 := C2.below hb3 C2.lt
    have N3 := N2.below hb3 N2.lt
    have M3 := M2.below hb3 M2.lt
    have d3 := keepS' d2 hb3
    clear hb3 C2 N2 M2 x2 c2 d2
    go_wp2_with fail
    refine (H4.out _ (HE.out.below d3)).mono ?_
    rintro e w4 ⟨rfl, hb4⟩
    have C4 := (C3.below hb4 C3.lt).alloc (.cells #[.int .u8 k, .int .i64 n, .string t] 38)
    have N4 := (N3.below hb4 N3.lt).alloc (.cells #[.int .u8 k, .int .i64 n, .string t] 38)
    have M4 := (M3.below hb4 M3.lt).alloc (.cells #[.int .u8 k, .int .i64 n, .string t] 38)
    have c4 := keepS' d3 hb4
    have d4 := c4.alloc c4.size (.cells #[.int .u8 k, .int .i64 n, .string t] 38)
    have K4 := Blk.new w4 38 #[.int .u8 k, .int .i64 n, .string t]
    have x4 := C4.cell
    have y4 := K4.cell
    clear hb4 C3 N3 M3 d3 c4
    go_wp2_with fail
    refine (live3 _ (HE.out.below d4)).mono ?_
    rintro e w5 ⟨rfl, hb5⟩
    have x5 := (N4.below hb5 N4.lt).cell
    have y5 := (M4.below hb5 M4.lt).cell
    have d5 := keepS' d4 hb5
    clear hb5 C4 N4 M4 K4 x4 y4 d4
    go_wp2
    go_ret
    exact ⟨rfl, d5⟩
  | false =>
    rw [print_wrong hv] at H3
    clear hv
    go_enter Tryd.func12, Tryd.ntmps12
    go_wp2_with fail
    rw [← hO]
    clear hO
    refine (HS.out _).mono ?_
    rintro e w' ⟨rfl, rfl⟩
    go_wp2_with fail
    refine (H1.out _ (HE.out.below c0)).mono ?_
    rintro e w1 ⟨rfl, hb1⟩
    have C0 := (B0.below hb1 B0.lt).alloc (.cells #[.int .u8 P.k, .int .i64 P.n, .string P.s] 38)
    have N1 := Blk.new w1 38 #[.int .u8 P.k, .int .i64 P.n, .string P.s]
    have c1 := keepS' c0 hb1
    have d1 := c1.alloc c1.size (.cells #[.int .u8 P.k, .int .i64 P.n, .string P.s] 38)
    clear hb1 B0
    go_wp2_with fail
    refine (H2.out _ (HE.out.below d1)).mono ?_
    rintro e w2 ⟨rfl, hb2⟩
    have C2 := (C0.below hb2 C0.lt).alloc (.cells #[.int .u8 P.k, .int .i64 P.n, .string P.s] 38)
    have N2 := (N1.below hb2 N1.lt).alloc (.cells #[.int .u8 P.k, .int .i64 P.n, .string P.s] 38)
    have M2 := Blk.new w2 38 #[.int .u8 P.k, .int .i64 P.n, .string P.s]
    have c2 := keepS' d1 hb2
    have d2 := c2.alloc c2.size (.cells #[.int .u8 P.k, .int .i64 P.n, .string P.s] 38)
    have x2 := C2.cell
    clear hb2 C0 N1 c1 d1
    go_wp2_with fail
    refine (H3.out _).mono ?_
    rintro e w3 ⟨rfl, hb3⟩
    have N3 := N2.below hb3 N2.lt
    have M3 := M2.below hb3 M2.lt
    have d3 := keepS' d2 hb3
    clear hb3 C2 N2 M2 x2 c2 d2
    go_wp2_with fail
    refine (live3 _ (HE.out.below d3)).mono ?_
    rintro e w5 ⟨rfl, hb5⟩
    have x5 := (N3.below hb5 N3.lt).cell
    have y5 := (M3.below hb5 M3.lt).cell
    have d5 := keepS' d3 hb5
    clear hb5 N3 M3 d3
    go_wp2
    go_ret
    exact ⟨rfl, d5⟩
end Go.Proofs.YtdcdglbliemnkaaDoor
