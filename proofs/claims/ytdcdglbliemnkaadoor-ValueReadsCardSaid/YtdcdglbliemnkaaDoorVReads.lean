/- The walk of ValueReads: Read takes Bytes back, whatever follows. -/
import Derived.Test.YtdcdglbliemnkaaDoorRead
import Derived.Test.YtdcdglbliemnkaaDoorVOrder
import Derived.Laws.AppendOwnNone
namespace Go.Proofs.YtdcdglbliemnkaaDoor
open Go.RowKit Go.Lib

theorem beN_be (u : Nat) (h : u < 18446744073709551616) : beN (beL u) = u := by
  simp only [beN, beL, List.foldl_cons, List.foldl_nil, UInt8.toNat_ofNat', Nat.reducePow]
  omega
theorem index_end : ∀ (l L : List UInt8), (∀ x ∈ l, x ≠ 0) → indexByte (l ++ 0 :: L) 0 = l.length
  | [], L, _ => rfl
  | x :: l, L, h => by
    have ih := index_end l L (fun u hu => h u (List.mem_cons_of_mem _ hu))
    have hx : (x == 0) = false := beq_eq_false_iff_ne.2 (h x (List.mem_cons_self ..))
    have hn : (((l.length : Int)) == -1) = false := beq_eq_false_iff_ne.2 (by omega)
    rw [List.cons_append, indexByte, hx, ih, hn]
    simp
theorem read_back {k n : Int} {s : ByteArray} (hv : valB k n s = true) (h1 : -9223372036854775808 ≤ n) (h2 : n ≤ 9223372036854775807) (L : List UInt8) :
    readR (bytesV k n s ++ L) = ⟨k, n, s, ((bytesV k n s).length : Int), 0⟩ := by
  rcases valB_cases hv with ⟨rfl, e⟩ | ⟨rfl, rfl, e⟩
  · have hs : s = ⟨#[]⟩ := ByteArray.ext (Array.ext' (by rw [e]))
    subst hs
    simp only [bytesV, if_true]
    rw [List.cons_append, readR, if_pos ⟨rfl, by simp [eightL, beL]⟩]
    have ht : (eightL n ++ L).take 8 = eightL n := List.take_left' (by simp [eightL, beL])
    have hl : (1 :: eightL n).length = 9 := by simp [eightL, beL]
    rw [ht, hl]
    have hb : beN (eightL n) = flipN n := beN_be _ (flip_lt n h1 h2)
    rw [hb]
    have : (flipN n : Int) - 9223372036854775808 = n := by unfold flipN; omega
    rw [this]
    rfl
  · simp only [bytesV, show ¬ ((2 : Int) = 1) by decide, if_false]
    have hi := index_end s.data.toList L (right_nz e)
    have hl : (2 :: (s.data.toList ++ [0])).length = s.data.toList.length + 2 := by simp
    rw [hl]
    rw [show (2 :: (s.data.toList ++ [0])) ++ L = 2 :: (s.data.toList ++ 0 :: L) by simp, readR, if_neg (fun h => by have := h.1; revert this; decide), hi]
    have ht : (s.data.toList ++ 0 :: L).take ((s.data.toList.length : Int)).toNat = s.data.toList := List.take_left' (by simp)
    rw [ht, if_pos ⟨rfl, by omega, e⟩]
    congr 1

theorem OwnB.sl {B : Nat} {w : World} {v : Value} {l : List UInt8} (h : OwnB B w v l) (hne : l ≠ []) : SlB w v l := by
  obtain ⟨g, c, rfl, _, hg, hc, hcell⟩ := h.open hne
  exact .inr ⟨g, 0, c, rfl, hc, hg, fun j x hj => by rw [Nat.zero_add]; exact hcell j x hj⟩

theorem news_cells {w : World} {g o : Nat} {l : List UInt8} (h : ∀ j x, l[j]? = some x → w.cell? ⟨g, o + j, none⟩ = some (.int .u8 x.toNat)) : ∀ j u, (Lib.byteCells l)[j]? = some u → w.cell? ((⟨g, o, none⟩ : Addr).add j) = some u := by
  intro j u hu
  have e : (⟨g, o, none⟩ : Addr).add j = ⟨g, o + j, none⟩ := by unfold Addr.add; split <;> simp_all
  rw [e]
  simp only [Lib.byteCells, List.getElem?_map, Option.map_eq_some_iff] at hu
  obtain ⟨x, hx, rfl⟩ := hu
  exact h j x hx
theorem byteCells_one (l : List UInt8) : ∀ u ∈ Lib.byteCells l, u.oneCell' = true := by
  intro u hu
  simp only [Lib.byteCells, List.mem_map] at hu
  obtain ⟨x, _, rfl⟩ := hu
  rfl
theorem byteCells_length (l : List UInt8) : (Lib.byteCells l).length = l.length * 1 := by simp [Lib.byteCells]
theorem byteCells_append (a b : List UInt8) : Lib.byteCells (a ++ b) = Lib.byteCells a ++ Lib.byteCells b := by simp [Lib.byteCells]
theorem empty_own (w : World) (B : Nat) (hB : B ≤ w.heap.size) : (w.alloc (.cells #[] 5)).ownsRow B 5 1 (.slice (some ⟨w.heap.size, 0, none⟩) 0 0) 0 [] :=
  World.ownsRow_lit w #[] 0 hB (by unfold maxLen; omega) rfl

set_option maxRecDepth 100000 in
set_option maxHeartbeats 4000000 in
theorem valueReads_walk (k n : Int) (s : ByteArray) (vb : Value) (L : List UInt8) (w : World) (a1 : -9223372036854775808 ≤ n) (a2 : n ≤ 9223372036854775807) (hL : SlB w vb L) (hLl : L.length ≤ 140737488351232) (hE : Env w) :
    Calls Tryd.prog 8 #[.agg #[.int .u8 k, .int .i64 n, .string s], vb] w fun e w' => e = .returned (.bool true) ∧ Below w.heap.size w w' := by
  obtain ⟨i0, hi, hz0, hz1, hz2⟩ := info_parts infoByte
  obtain ⟨O, hO⟩ : ∃ O, O = w.alloc (.cells #[.int .u8 k, .int .i64 n, .string s] 38) := ⟨_, rfl⟩
  have c0 : Below w.heap.size w O := by rw [hO]; exact (Below.refl _ _).alloc (Nat.le_refl _) _
  have z0 : w.heap.size < O.heap.size := by rw [hO]; simp
  have p0 : O.cell? ⟨w.heap.size, 0, none⟩ = some (.int .u8 k) := by rw [hO]; simp [go_sem]
  have p1 : O.cell? ⟨w.heap.size, 1, none⟩ = some (.int .i64 n) := by rw [hO]; simp [go_sem]
  have p2 : O.cell? ⟨w.heap.size, 2, none⟩ = some (.string s) := by rw [hO]; simp [go_sem]
  have HO := Lib.hid hO
  clear hO
  cases v1 : valB k n s with
  | false =>
    have N1 := Lib.hid (fun w => value_bytes_no k n s w v1)
    have HR := Lib.hid (fun w => value_right k n s w)
    rw [v1] at HR
    clear v1
    go_enter Tryd.func8, Tryd.ntmps8
    go_wp2_with fail
    rw [← HO.out]
    refine (N1.out _).mono ?_
    rintro e w1 ⟨rfl, hb1⟩
    have c1 := keepS' c0 hb1
    have z1 : w.heap.size < w1.heap.size := by have := hb1.size; omega
    have q0 : w1.cell? ⟨w.heap.size, 0, none⟩ = some (.int .u8 k) := by rw [bcell hb1 _ _ z0]; exact p0
    have q1 : w1.cell? ⟨w.heap.size, 1, none⟩ = some (.int .i64 n) := by rw [bcell hb1 _ _ z0]; exact p1
    have q2 : w1.cell? ⟨w.heap.size, 2, none⟩ = some (.string s) := by rw [bcell hb1 _ _ z0]; exact p2
    clear hb1 p0 p1 p2 HO
    go_wp2_with fail
    refine (live3 _ (hE.below c1)).mono ?_
    rintro e w2 ⟨rfl, hb2⟩
    have c2 := keepS' c1 hb2
    have r0 : w2.cell? ⟨w.heap.size, 0, none⟩ = some (.int .u8 k) := by rw [bcell hb2 _ _ z1]; exact q0
    have r1 : w2.cell? ⟨w.heap.size, 1, none⟩ = some (.int .i64 n) := by rw [bcell hb2 _ _ z1]; exact q1
    have r2 : w2.cell? ⟨w.heap.size, 2, none⟩ = some (.string s) := by rw [bcell hb2 _ _ z1]; exact q2
    clear hb2 q0 q1 q2
    go_wp2_with fail
    refine (HR.out _).mono ?_
    rintro e w3 ⟨rfl, hb3⟩
    go_wp2
    go_ret
    exact ⟨rfl, keepS' c2 hb3⟩
  | true =>
    have N1 := Lib.hid (fun w => value_bytes k n s w a1 a2 v1)
    have hrb := read_back v1 a1 a2 L
    have hX34 : (bytesV k n s).length ≤ 34 ∧ bytesV k n s ≠ [] := by
      rcases valB_cases v1 with ⟨rfl, e⟩ | ⟨rfl, rfl, e⟩
      · exact ⟨by simp [bytesV, eightL, beL], by simp [bytesV]⟩
      · have := right_short e
        exact ⟨by simp [bytesV] at this ⊢; omega, by simp [bytesV]⟩
    obtain ⟨hX, hXne⟩ := hX34
    generalize bytesV k n s = X at *
    have HRB := Lib.hid hrb
    clear v1 hrb
    go_enter Tryd.func8, Tryd.ntmps8
    go_wp2_with fail
    rw [← HO.out]
    refine (N1.out _).mono ?_
    rintro e w1 ⟨⟨x, rfl, X1⟩, hb1⟩
    obtain ⟨g, cx, rfl, _, hg, _, hxc⟩ := X1.open hXne
    have c1 := keepS' c0 hb1
    have z1 : w.heap.size < w1.heap.size := by have := hb1.size; omega
    have q0 : w1.cell? ⟨w.heap.size, 0, none⟩ = some (.int .u8 k) := by rw [bcell hb1 _ _ z0]; exact p0
    have q1 : w1.cell? ⟨w.heap.size, 1, none⟩ = some (.int .i64 n) := by rw [bcell hb1 _ _ z0]; exact p1
    have q2 : w1.cell? ⟨w.heap.size, 2, none⟩ = some (.string s) := by rw [bcell hb1 _ _ z0]; exact p2
    clear hb1 p0 p1 p2 HO X1
    have hzz : w.heap.size ≤ w1.heap.size := c1.size
    have hn1 : ∀ j u, (Lib.byteCells X)[j]? = some u → (w1.alloc (.cells #[] 5)).cell? ((⟨g, 0, none⟩ : Addr).add j) = some u := news_cells (fun j x hj => by rw [World.cell?_alloc_lt _ _ _ hg, Nat.zero_add]; exact hxc j x hj)
    go_wp2_with (at_builtin; refine wpList_append_own _ rfl _ _ 39 rfl w1.heap.size 5 i0 (.int .u8 0) 1 1 Tryd.underlying39 hi hz0 hz1 hz2 rfl (by decide) _ _ _ rfl (empty_own w1 w1.heap.size (Nat.le_refl _)) ⟨g, 0, none⟩ X.length cx (Lib.byteCells X) rfl (byteCells_length X) hn1 (byteCells_one X) (by unfold maxLen; omega) (by omega) (by simp) ?_)
    intro v2 w2 hown2 hgrow2 _
    have c2 : Below w.heap.size w w2 := (c1.alloc hzz _).grown hgrow2 (by simp; omega) (fun j hj => by simp [Value.ownBlock] at hj; omega)
    have hbz : Below w1.heap.size w1 w2 := ((Below.refl _ _).alloc (Nat.le_refl _) (.cells #[] 5)).grown hgrow2 (by simp) (fun j hj => by simp [Value.ownBlock] at hj; omega)
    have z2 : w.heap.size < w2.heap.size := by have := hbz.size; omega
    have zz2 : w1.heap.size ≤ w2.heap.size := hbz.size
    have r0 : w2.cell? ⟨w.heap.size, 0, none⟩ = some (.int .u8 k) := by rw [bcell hbz _ _ z1]; exact q0
    have r1 : w2.cell? ⟨w.heap.size, 1, none⟩ = some (.int .i64 n) := by rw [bcell hbz _ _ z1]; exact q1
    have r2 : w2.cell? ⟨w.heap.size, 2, none⟩ = some (.string s) := by rw [bcell hbz _ _ z1]; exact q2
    clear hn1 hxc hgrow2 hbz q0 q1 q2
    have hLlen : L.length + X.length ≤ 140737488355328 := by omega
    rcases hL with ⟨rfl, rfl | ⟨ab, cb, rfl⟩⟩ | ⟨gb, ob, cb, rfl, hcb, hgb, hcellb⟩
    · go_wp2_with (at_builtin; refine wpList_append_own_none rfl _ _ 39 rfl w1.heap.size 5 i0 1 Tryd.underlying39 hi _ _ _ rfl hown2 rfl ?_)
      have hO3 : OwnB w1.heap.size w2 v2 (X ++ []) := by rw [List.append_nil]; exact hown2
      have t0 := r0
      have t1 := r1
      have t2 := r2
      have z3 := z2
      have c3 := c2
      clear r0 r1 r2 c2
      have hne : X ++ [] ≠ [] := by simp [hXne]
      have S3 : SlB w2 v2 (X ++ []) := OwnB.sl hO3 hne
      go_wp2_with fail
      refine (value_read v2 (X ++ []) w2 S3 (by rw [List.length_append]; first | omega | (simp; omega))).mono ?_
      rintro e w4 ⟨rfl, hb4⟩
      rw [HRB.out]
      have s0 : w4.cell? ⟨w.heap.size, 0, none⟩ = some (.int .u8 k) := by rw [bcell hb4 _ _ z3]; exact t0
      have s1 : w4.cell? ⟨w.heap.size, 1, none⟩ = some (.int .i64 n) := by rw [bcell hb4 _ _ z3]; exact t1
      have s2 : w4.cell? ⟨w.heap.size, 2, none⟩ = some (.string s) := by rw [bcell hb4 _ _ z3]; exact t2
      have c4 := keepS' c3 hb4
      have z4 : w.heap.size < w4.heap.size := by have := hb4.size; omega
      have c5 : Below w.heap.size w (w4.alloc (.cells #[.int .u8 k, .int .i64 n, .string s] 38)) := c4.alloc c4.size _
      clear hb4 t0 t1 t2 c3 S3 hO3
      go_wp2_with fail
      refine (live3 _ (hE.below c5)).mono ?_
      rintro e w5 ⟨rfl, hb5⟩
      have u0 : w5.cell? ⟨w.heap.size, 0, none⟩ = some (.int .u8 k) := by rw [bcell hb5 _ _ (by simp; omega), World.cell?_alloc_lt _ _ _ z4]; exact s0
      have u1 : w5.cell? ⟨w.heap.size, 1, none⟩ = some (.int .i64 n) := by rw [bcell hb5 _ _ (by simp; omega), World.cell?_alloc_lt _ _ _ z4]; exact s1
      have u2 : w5.cell? ⟨w.heap.size, 2, none⟩ = some (.string s) := by rw [bcell hb5 _ _ (by simp; omega), World.cell?_alloc_lt _ _ _ z4]; exact s2
      have y0 : w5.cell? ⟨w4.heap.size, 0, none⟩ = some (.int .u8 k) := by rw [bcell hb5 _ _ (by simp)]; simp [go_sem]
      have y1 : w5.cell? ⟨w4.heap.size, 1, none⟩ = some (.int .i64 n) := by rw [bcell hb5 _ _ (by simp)]; simp [go_sem]
      have y2 : w5.cell? ⟨w4.heap.size, 2, none⟩ = some (.string s) := by rw [bcell hb5 _ _ (by simp)]; simp [go_sem]
      have c6 := keepS' c5 hb5
      clear hb5 s0 s1 s2
      go_wp2
      go_ret
      exact ⟨rfl, c6⟩
    · go_wp2_with (at_builtin; refine wpList_append_own _ rfl _ _ 39 rfl w1.heap.size 5 i0 (.int .u8 0) 1 1 Tryd.underlying39 hi hz0 hz1 hz2 rfl (by decide) _ _ _ rfl hown2 ab 0 cb [] rfl rfl (fun j u hj => by cases hj) (fun u hu => by cases hu) (by unfold maxLen; omega) (by omega) zz2 ?_)
      intro v3 w3 hown3 hgrow3 _
      have hlt2 := hown2.lt
      have c3 : Below w.heap.size w w3 := c2.grown hgrow3 c2.size (fun j hj => by have := (hlt2 j hj).1; omega)
      have hbz : Below w1.heap.size w2 w3 := (Below.refl _ _).grown hgrow3 zz2 (fun j hj => (hlt2 j hj).1)
      have z3 : w.heap.size < w3.heap.size := by have := hbz.size; omega
      have t0 : w3.cell? ⟨w.heap.size, 0, none⟩ = some (.int .u8 k) := (hbz.cell (p := ⟨w.heap.size, 0, none⟩) z1).trans r0
      have t1 : w3.cell? ⟨w.heap.size, 1, none⟩ = some (.int .i64 n) := (hbz.cell (p := ⟨w.heap.size, 1, none⟩) z1).trans r1
      have t2 : w3.cell? ⟨w.heap.size, 2, none⟩ = some (.string s) := (hbz.cell (p := ⟨w.heap.size, 2, none⟩) z1).trans r2
      have hO3 : OwnB w1.heap.size w3 v3 (X ++ []) := by unfold OwnB; first | (rw [byteCells_append, List.length_append]; exact hown3) | (rw [List.append_nil]; exact hown3)
      clear r0 r1 r2 hgrow3 hown3 hown2 c2 hbz hlt2
      have hne : X ++ [] ≠ [] := by simp [hXne]
      have S3 : SlB w3 v3 (X ++ []) := OwnB.sl hO3 hne
      go_wp2_with fail
      refine (value_read v3 (X ++ []) w3 S3 (by rw [List.length_append]; first | omega | (simp; omega))).mono ?_
      rintro e w4 ⟨rfl, hb4⟩
      rw [HRB.out]
      have s0 : w4.cell? ⟨w.heap.size, 0, none⟩ = some (.int .u8 k) := by rw [bcell hb4 _ _ z3]; exact t0
      have s1 : w4.cell? ⟨w.heap.size, 1, none⟩ = some (.int .i64 n) := by rw [bcell hb4 _ _ z3]; exact t1
      have s2 : w4.cell? ⟨w.heap.size, 2, none⟩ = some (.string s) := by rw [bcell hb4 _ _ z3]; exact t2
      have c4 := keepS' c3 hb4
      have z4 : w.heap.size < w4.heap.size := by have := hb4.size; omega
      have c5 : Below w.heap.size w (w4.alloc (.cells #[.int .u8 k, .int .i64 n, .string s] 38)) := c4.alloc c4.size _
      clear hb4 t0 t1 t2 c3 S3 hO3
      go_wp2_with fail
      refine (live3 _ (hE.below c5)).mono ?_
      rintro e w5 ⟨rfl, hb5⟩
      have u0 : w5.cell? ⟨w.heap.size, 0, none⟩ = some (.int .u8 k) := by rw [bcell hb5 _ _ (by simp; omega), World.cell?_alloc_lt _ _ _ z4]; exact s0
      have u1 : w5.cell? ⟨w.heap.size, 1, none⟩ = some (.int .i64 n) := by rw [bcell hb5 _ _ (by simp; omega), World.cell?_alloc_lt _ _ _ z4]; exact s1
      have u2 : w5.cell? ⟨w.heap.size, 2, none⟩ = some (.string s) := by rw [bcell hb5 _ _ (by simp; omega), World.cell?_alloc_lt _ _ _ z4]; exact s2
      have y0 : w5.cell? ⟨w4.heap.size, 0, none⟩ = some (.int .u8 k) := by rw [bcell hb5 _ _ (by simp)]; simp [go_sem]
      have y1 : w5.cell? ⟨w4.heap.size, 1, none⟩ = some (.int .i64 n) := by rw [bcell hb5 _ _ (by simp)]; simp [go_sem]
      have y2 : w5.cell? ⟨w4.heap.size, 2, none⟩ = some (.string s) := by rw [bcell hb5 _ _ (by simp)]; simp [go_sem]
      have c6 := keepS' c5 hb5
      clear hb5 s0 s1 s2
      go_wp2
      go_ret
      exact ⟨rfl, c6⟩
    · have hnb : ∀ j u, (Lib.byteCells L)[j]? = some u → w2.cell? ((⟨gb, ob, none⟩ : Addr).add j) = some u := news_cells (fun j x hj => by rw [c2.cell (p := ⟨gb, ob + j, none⟩) hgb]; exact hcellb j x hj)
      go_wp2_with (at_builtin; refine wpList_append_own _ rfl _ _ 39 rfl w1.heap.size 5 i0 (.int .u8 0) 1 1 Tryd.underlying39 hi hz0 hz1 hz2 rfl (by decide) _ _ _ rfl hown2 ⟨gb, ob, none⟩ L.length cb (Lib.byteCells L) rfl (byteCells_length L) hnb (byteCells_one L) (by unfold maxLen; omega) (by omega) zz2 ?_)
      intro v3 w3 hown3 hgrow3 _
      have hlt2 := hown2.lt
      have c3 : Below w.heap.size w w3 := c2.grown hgrow3 c2.size (fun j hj => by have := (hlt2 j hj).1; omega)
      have hbz : Below w1.heap.size w2 w3 := (Below.refl _ _).grown hgrow3 zz2 (fun j hj => (hlt2 j hj).1)
      have z3 : w.heap.size < w3.heap.size := by have := hbz.size; omega
      have t0 : w3.cell? ⟨w.heap.size, 0, none⟩ = some (.int .u8 k) := (hbz.cell (p := ⟨w.heap.size, 0, none⟩) z1).trans r0
      have t1 : w3.cell? ⟨w.heap.size, 1, none⟩ = some (.int .i64 n) := (hbz.cell (p := ⟨w.heap.size, 1, none⟩) z1).trans r1
      have t2 : w3.cell? ⟨w.heap.size, 2, none⟩ = some (.string s) := (hbz.cell (p := ⟨w.heap.size, 2, none⟩) z1).trans r2
      have hO3 : OwnB w1.heap.size w3 v3 (X ++ L) := by unfold OwnB; first | (rw [byteCells_append, List.length_append]; exact hown3) | (rw [List.append_nil]; exact hown3)
      clear r0 r1 r2 hgrow3 hown3 hown2 c2 hbz hlt2
      have hne : X ++ L ≠ [] := by simp [hXne]
      have S3 : SlB w3 v3 (X ++ L) := OwnB.sl hO3 hne
      go_wp2_with fail
      refine (value_read v3 (X ++ L) w3 S3 (by rw [List.length_append]; first | omega | (simp; omega))).mono ?_
      rintro e w4 ⟨rfl, hb4⟩
      rw [HRB.out]
      have s0 : w4.cell? ⟨w.heap.size, 0, none⟩ = some (.int .u8 k) := by rw [bcell hb4 _ _ z3]; exact t0
      have s1 : w4.cell? ⟨w.heap.size, 1, none⟩ = some (.int .i64 n) := by rw [bcell hb4 _ _ z3]; exact t1
      have s2 : w4.cell? ⟨w.heap.size, 2, none⟩ = some (.string s) := by rw [bcell hb4 _ _ z3]; exact t2
      have c4 := keepS' c3 hb4
      have z4 : w.heap.size < w4.heap.size := by have := hb4.size; omega
      have c5 : Below w.heap.size w (w4.alloc (.cells #[.int .u8 k, .int .i64 n, .string s] 38)) := c4.alloc c4.size _
      clear hb4 t0 t1 t2 c3 S3 hO3
      go_wp2_with fail
      refine (live3 _ (hE.below c5)).mono ?_
      rintro e w5 ⟨rfl, hb5⟩
      have u0 : w5.cell? ⟨w.heap.size, 0, none⟩ = some (.int .u8 k) := by rw [bcell hb5 _ _ (by simp; omega), World.cell?_alloc_lt _ _ _ z4]; exact s0
      have u1 : w5.cell? ⟨w.heap.size, 1, none⟩ = some (.int .i64 n) := by rw [bcell hb5 _ _ (by simp; omega), World.cell?_alloc_lt _ _ _ z4]; exact s1
      have u2 : w5.cell? ⟨w.heap.size, 2, none⟩ = some (.string s) := by rw [bcell hb5 _ _ (by simp; omega), World.cell?_alloc_lt _ _ _ z4]; exact s2
      have y0 : w5.cell? ⟨w4.heap.size, 0, none⟩ = some (.int .u8 k) := by rw [bcell hb5 _ _ (by simp)]; simp [go_sem]
      have y1 : w5.cell? ⟨w4.heap.size, 1, none⟩ = some (.int .i64 n) := by rw [bcell hb5 _ _ (by simp)]; simp [go_sem]
      have y2 : w5.cell? ⟨w4.heap.size, 2, none⟩ = some (.string s) := by rw [bcell hb5 _ _ (by simp)]; simp [go_sem]
      have c6 := keepS' c5 hb5
      clear hb5 s0 s1 s2
      go_wp2
      go_ret
      exact ⟨rfl, c6⟩
end Go.Proofs.YtdcdglbliemnkaaDoor
