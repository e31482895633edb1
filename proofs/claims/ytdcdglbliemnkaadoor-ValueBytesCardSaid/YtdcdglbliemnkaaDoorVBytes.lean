/- The walk of ValueBytes. -/
import Derived.Test.YtdcdglbliemnkaaDoorRefD
import Derived.Test.YtdcdglbliemnkaaDoorLive3
namespace Go.Proofs.YtdcdglbliemnkaaDoor
open Go.RowKit Go.Lib

theorem SlB.len {w : World} {v : Value} {l : List UInt8} (h : SlB w v l) : ∃ a c, v = .slice a l.length c := by
  rcases h with ⟨rfl, rfl | ⟨a, c, rfl⟩⟩ | ⟨g, o, c, rfl, _⟩
  · exact ⟨_, _, rfl⟩
  · exact ⟨_, _, rfl⟩
  · exact ⟨_, _, rfl⟩
theorem valB_size {k n : Int} {s : ByteArray} (hv : valB k n s = true) : s.size ≤ 32 := by
  rcases valB_cases hv with ⟨rfl, e⟩ | ⟨rfl, rfl, e⟩
  · have : s.size = 0 := by have := congrArg List.length e; simpa using this
    omega
  · have := right_short e
    simpa using this

set_option maxRecDepth 100000 in
set_option maxHeartbeats 4000000 in
theorem valueBytes_walk (k n : Int) (s : ByteArray) (vb : Value) (L : List UInt8) (w : World) (a1 : -9223372036854775808 ≤ n) (a2 : n ≤ 9223372036854775807) (a3 : s.size ≤ 9223372036854775807) (hL : SlB w vb L) (hLl : L.length ≤ 140737488351232) (hE : Env w) :
    Calls Tryd.prog 11 #[.agg #[.int .u8 k, .int .i64 n, .string s], vb] w fun e w' => e = .returned (.bool true) ∧ Below w.heap.size w w' := by
  have HE := Lib.hid hE
  clear hE
  obtain ⟨O, hO⟩ : ∃ O, O = w.alloc (.cells #[.int .u8 k, .int .i64 n, .string s] 38) := ⟨_, rfl⟩
  have c0 : Below w.heap.size w O := by rw [hO]; exact (Below.refl _ _).alloc (Nat.le_refl _) _
  have B0 : Blk O w.heap.size 38 #[.int .u8 k, .int .i64 n, .string s] := by rw [hO]; exact Blk.new _ _ _
  have hz0 := B0.lt
  obtain ⟨X, er, H1, H2⟩ : ∃ (X : List UInt8) (er : Int),
      Hid (∀ w, Calls Tryd.prog 34 #[.agg #[.int .u8 k, .int .i64 n, .string s]] w fun e w' => (∃ v, e = .returned (.tuple #[v, .int .i64 er]) ∧ OwnB w.heap.size w' v X) ∧ Below w.heap.size w w') ∧
      Hid (∀ w, Env w → Calls Tryd.prog 39 #[.agg #[.int .u8 k, .int .i64 n, .string s]] w fun e w' => (∃ v, e = .returned (.tuple #[v, .int .i64 er]) ∧ OwnB w.heap.size w' v X) ∧ Below w.heap.size w w') := by
    cases hv : valB k n s with
    | true => exact ⟨_, 0, Lib.hid (fun w => value_bytes k n s w a1 a2 hv), Lib.hid (fun w hE => ref3_bytes k n s w a1 a2 hv hE)⟩
    | false => exact ⟨[], 3, Lib.hid (fun w => (value_bytes_no k n s w hv).mono fun e w' ⟨he, hb⟩ => ⟨⟨_, he, OwnB.nil _ _⟩, hb⟩), Lib.hid (fun w hE => (ref3_bytes_no k n s w hv a3 hE).mono fun e w' ⟨he, hb⟩ => ⟨⟨_, he, OwnB.nil _ _⟩, hb⟩)⟩
  by_cases h60 : 60 < L.length
  all_goals
    first
    | (have hcut : ∃ g o c, vb = .slice (some ⟨g, o, none⟩) L.length c ∧ SlB w (.slice (some ⟨g, o, none⟩) 60 c) (L.take 60) ∧ 60 ≤ c := by
         rcases hL with ⟨rfl, _⟩ | ⟨g, o, c, rfl, hc, hg, hcell⟩
         · simp at h60
         · refine ⟨g, o, c, rfl, .inr ⟨g, o, c, ?_, ?_, hg, fun j x hj => hcell j x ?_⟩, by omega⟩
           · rw [List.length_take, Nat.min_eq_left (by omega)]
           · rw [List.length_take]; omega
           · rw [List.getElem?_take] at hj
             split at hj
             · exact hj
             · cases hj
       obtain ⟨g, o, c, rfl, S0, hc60⟩ := hcut
       have h60' : (60 : Int) < (L.length : Int) := by omega
       have hl : (L.take 60).length ≤ 4611686018427387904 := by rw [List.length_take]; omega)
    | (obtain ⟨A, c, rfl⟩ := hL.len
       have S0 := hL
       have h60' : ¬ (60 : Int) < (L.length : Int) := by omega
       have hl : L.length ≤ 4611686018427387904 := by omega)
    go_enter Tryd.func11, Tryd.ntmps11
    go_wp2_with fail
    rw [← hO]
    clear hO
    refine (H1.out _).mono ?_
    rintro e w1 ⟨⟨x, rfl, X1⟩, hb1⟩
    have C0 := B0.below hb1 hz0
    have x0 := C0.cell
    have c1 := keepS' c0 hb1
    have hz1 := C0.lt
    clear hb1
    go_wp2_with fail
    refine (H2.out _ (HE.out.below c1)).mono ?_
    rintro e w2 ⟨⟨y, rfl, Y1⟩, hb2⟩
    have X2 := X1.below hb2
    have c2 := keepS' c1 hb2
    have S2 := S0.below c2
    clear hb2 X1 x0 C0
    go_wp2_with fail
    refine (value_read _ _ _ S2 hl).mono ?_
    rintro e w3 ⟨rfl, hb3⟩
    have X3 := X2.below hb3
    have Y3 := Y1.below hb3
    have c3 := keepS' c2 hb3
    clear hb3 X2 Y1 S2
    have HR4 := Lib.hid (fun w' (hb : Below w.heap.size w w') hE' => ref3_read _ _ w' (S0.below hb) hl hE')
    generalize readR _ = R at *
    have N3 := Blk.new w3 38 #[.int .u8 R.k, .int .i64 R.n, .string R.s]
    have b3 : Below w3.heap.size w3 (w3.alloc (.cells #[.int .u8 R.k, .int .i64 R.n, .string R.s] 38)) := (Below.refl _ _).alloc (Nat.le_refl _) _
    have X3' := X3.below b3
    have Y3' := Y3.below b3
    have c3' := keepS' c3 b3
    have hz3 := N3.lt
    clear X3 Y3 b3
    go_wp2_with fail
    refine (HR4.out _ c3' (HE.out.below c3')).mono ?_
    rintro e w4 ⟨rfl, hb4⟩
    have N4 := N3.below hb4 hz3
    have X4 := X3'.below hb4
    have Y4 := Y3'.below hb4
    have c4 := keepS' c3' hb4
    clear hb4 X3' Y3' N3 HR4
    have N4' := N4.alloc (.cells #[.int .u8 R.k, .int .i64 R.n, .string R.s] 38)
    have M4 := Blk.new w4 38 #[.int .u8 R.k, .int .i64 R.n, .string R.s]
    have b4 : Below w4.heap.size w4 (w4.alloc (.cells #[.int .u8 R.k, .int .i64 R.n, .string R.s] 38)) := (Below.refl _ _).alloc (Nat.le_refl _) _
    have X4' := X4.below b4
    have Y4' := Y4.below b4
    have c4' := keepS' c4 b4
    clear X4 Y4 b4 N4
    go_wp2_with fail
    refine (live3 _ (HE.out.below c4')).mono ?_
    rintro e w5 ⟨rfl, hb5⟩
    have n5 := (N4'.below hb5 N4'.lt).cell
    have m5 := (M4.below hb5 M4.lt).cell
    have xc := conv_own (X4'.below hb5)
    have yc := conv_own (Y4'.below hb5)
    have c5 := keepS' c4' hb5
    clear hb5 X4' Y4' N4' M4
    go_wp2
    go_ret
    exact ⟨rfl, c5⟩
end Go.Proofs.YtdcdglbliemnkaaDoor
