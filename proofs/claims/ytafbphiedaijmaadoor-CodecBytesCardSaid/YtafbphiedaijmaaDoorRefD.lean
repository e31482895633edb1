/- The reference's Read, Compare of values. -/
import Derived.Test.YtafbphiedaijmaaDoorRefC
import Derived.Test.YtafbphiedaijmaaDoorRead
import Derived.Test.YtafbphiedaijmaaDoorCmpV
namespace Go.Proofs.YtafbphiedaijmaaDoor
open Go.RowKit Go.Lib

theorem nz_index : ∀ (r : List UInt8) (k : Nat), k ≤ r.length → (∀ x ∈ r.take k, x ≠ 0) → r[k]? = some 0 → indexByte r 0 = (k : Int)
  | [], k, h, _, h2 => by simp at h2
  | x :: r, 0, _, _, h2 => by
    have : x = 0 := by simpa using h2
    subst this
    rfl
  | x :: r, k + 1, h, h1, h2 => by
    have ih := nz_index r k (by simpa using h) (fun u hu => h1 u (by simp [hu])) (by simpa using h2)
    have hx : (x == 0) = false := beq_eq_false_iff_ne.2 (h1 x (by simp))
    have hn : (((k : Int)) == -1) = false := beq_eq_false_iff_ne.2 (by omega)
    rw [indexByte, hx, ih, hn]
    simp
theorem nz_none : ∀ (r : List UInt8), (∀ x ∈ r, x ≠ 0) → indexByte r 0 = -1
  | [], _ => rfl
  | x :: r, h1 => by
    have ih := nz_none r (fun u hu => h1 u (by simp [hu]))
    have hx : (x == 0) = false := beq_eq_false_iff_ne.2 (h1 x (by simp))
    rw [indexByte, hx, ih]
    rfl
theorem sub_flip (U : Nat) (h : U < 18446744073709551616) : IntKind.i64.wrap (IntKind.u64.wrap ((U : Int) - 9223372036854775808)) = (U : Int) - 9223372036854775808 := by
  rw [IntKind.wrap_i64, IntKind.wrap_u64]
  omega

set_option maxRecDepth 100000 in
set_option maxHeartbeats 4000000 in
theorem ref3_read (v : Value) (l : List UInt8) (w : World) (h : SlB w v l) (hl : l.length ≤ 4611686018427387904) (hE : Env w) :
    Calls Tryd.prog 26 #[v] w fun e w' => e = .returned (.tuple #[.agg #[.int .u8 (readR l).k, .int .i64 (readR l).n, .string (readR l).s], .int .i64 (readR l).c, .int .i64 (readR l).e]) ∧ Below w.heap.size w w' := by
  have hb0 : ∀ o, Below w.heap.size w (w.alloc o) := fun o => (Below.refl _ _).alloc (Nat.le_refl _) o
  rcases l with _ | ⟨b, r⟩
  · have hv : ∃ a c, v = .slice a 0 c := by
      rcases h with ⟨_, rfl | ⟨a, c, rfl⟩⟩ | ⟨g, o, c, rfl, _⟩
      · exact ⟨_, _, rfl⟩
      · exact ⟨_, _, rfl⟩
      · exact ⟨_, _, rfl⟩
    obtain ⟨a, c, rfl⟩ := hv
    have H : Hid (readR [] = noR) := Lib.hid rfl
    go_enter Tryd.func26, Tryd.ntmps26
    go_wp2
    go_returns
    exact ⟨by rw [H.out]; rfl, hb0 _⟩
  · rcases h with ⟨h, _⟩ | ⟨g, o, c, rfl, hc, hg, hcell⟩
    · cases h
    have x0 := hcell 0 b rfl
    rw [Nat.add_zero] at x0
    have HC := Lib.hid hcell
    clear hcell
    have HE := Lib.hid hE
    clear hE
    obtain ⟨O, hO⟩ : ∃ O, O = w.alloc (.cells #[.int .u8 0, .int .i64 0, .string ⟨#[]⟩] 43) := ⟨_, rfl⟩
    have c0 : Below w.heap.size w O := by rw [hO]; exact hb0 _
    have z0 : w.heap.size < O.heap.size := by rw [hO]; simp
    have HB : Blk O w.heap.size 43 #[.int .u8 0, .int .i64 0, .string ⟨#[]⟩] := by rw [hO]; exact Blk.new w _ _
    by_cases h1 : b.toNat = 1 ∧ 9 ≤ r.length + 1
    · have hb1 : b = 1 := u8_eq h1.1
      have h1' : ((b.toNat : Int) == 1) = true := by rw [h1.1]; rfl
      have hlen : 9 ≤ (b :: r).length := by simp; omega
      have hlen' : (9 : Int) ≤ ((b :: r).length : Int) := by omega
      have h8 : 8 ≤ r.length := by omega
      generalize hL : (b :: r).length = L at *
      clear h1
      go_enter Tryd.func26, Tryd.ntmps26
      go_wp2
      have HP : Hid (∀ j, j < 8 → ∃ x : UInt8, r[j]? = some x ∧ O.cell? ⟨g, o + (j + 1), none⟩ = some (.int .u8 x.toNat)) := Lib.hid (fun j hj => by
        refine ⟨r[j]'(by omega), List.getElem?_eq_getElem _, ?_⟩
        rw [c0.cell (p := ⟨g, o + (j + 1), none⟩) hg]
        exact HC.out (j + 1) _ (by simp))
      have HO := Lib.hid hO
      rw [← hO]
      clear hO
      go_loop [5, 6] (fun u t => ∃ i : Nat, t = .int .i64 ((i : Int) + 1) ∧ i ≤ 8 ∧ u = .int .u64 (beN (r.take i))) (fun _ t => 10 - (RowKit.intOf t).toNat)
      case atStart => exact ⟨0, rfl, by omega, rfl⟩
      case round =>
        obtain ⟨i, rfl, hi, rfl⟩ := hrel
        have hlt := beN_lt 8 (r.take i) (by rw [List.length_take]; omega) (by omega)
        by_cases hp : i < 8
        · obtain ⟨x, hx, hcx⟩ := HP.out i hp
          have hlt7 := beN_lt 7 (r.take i) (by rw [List.length_take]; omega) (by omega)
          have hst : beN (r.take (i + 1)) = beN (r.take i) * 256 + x.toNat := by
            rw [List.take_add_one, hx]
            exact beN_snoc _ _
          have hor := or_step (beN (r.take i)) x.toNat hlt7 x.toNat_lt
          have HS := Lib.hid hst
          generalize beN (r.take i) = A at *
          clear hst hx hlt7 hlt
          go_wp2
          go_round
          case rel => exact ⟨i + 1, by go_num, by omega, by rw [HS.out, Int.natCast_add, Int.natCast_mul]; rfl⟩
          case measure => simp [RowKit.intOf]; omega
        · have hi8 : i = 8 := by omega
          subst hi8
          have hx2 := sub_flip (beN (r.take 8)) (by omega)
          have HR : Hid (readR (b :: r) = ⟨1, (beN (r.take 8) : Int) - 9223372036854775808, ⟨#[]⟩, 9, 0⟩) := Lib.hid (by rw [readR, if_pos ⟨hb1, h8⟩])
          have hx3 := hx2
          rw [IntWalk.i64_left] at hx3
          generalize (beN (r.take 8) : Int) = U at *
          have cc := HB.cell
          have cf := HB.frozen
          have HB3 := fun a b c => ((HB.set_ 0 a).set_ 1 b).set_ 2 c
          have c3 := fun a b c i => (HB3 a b c).cell i
          clear HO HP HC HB3
          go_wp2
          refine bodyPost_ret (by simp [results, Tryd.results26, go_sem, c3]; try rfl) rfl ?_
          exact ⟨by have h := HR.out; rw [hb1] at h; rw [h], ((c0.setCell (p := ⟨w.heap.size, 0, none⟩) (Nat.le_refl _) _).setCell (p := ⟨w.heap.size, 1, none⟩) (Nat.le_refl _) _).setCell (p := ⟨w.heap.size, 2, none⟩) (Nat.le_refl _) _⟩
    · by_cases h2 : b.toNat = 2
      · have hb2 : b = 2 := u8_eq h2
        have h1' : ((b.toNat : Int) == 1) = false := beq_eq_false_iff_ne.2 (by omega)
        have h2' : ((b.toNat : Int) == 2) = true := by rw [h2]; rfl
        have hL : (b :: r).length = r.length + 1 := rfl
        have hl' : r.length + 1 ≤ 4611686018427387904 := hl
        have hc' : r.length + 1 ≤ c := hc
        rw [hL] at hc hl
        have H0 := Lib.hid hL
        have HR2 := Lib.hid hb2
        rw [hL]
        have HP : Hid (∀ j, j < r.length → ∃ x : UInt8, r[j]? = some x ∧ O.cell? ⟨g, o + (j + 1), none⟩ = some (.int .u8 x.toNat)) := Lib.hid (fun j hj => by
          refine ⟨r[j]'(by omega), List.getElem?_eq_getElem _, ?_⟩
          rw [c0.cell (p := ⟨g, o + (j + 1), none⟩) hg]
          exact HC.out (j + 1) _ (by simp))
        clear h1 hL hb2
        go_enter Tryd.func26, Tryd.ntmps26
        by_cases h9 : 9 ≤ r.length + 1
        all_goals
          go_wp2
          have HO := Lib.hid hO
          rw [← hO]
          clear hO
          go_loop [7] (fun t => ∃ k : Nat, t = .int .i64 ((k : Int) + 1) ∧ k ≤ r.length ∧ Hid (∀ x ∈ r.take k, x ≠ 0)) (fun t => r.length + 1 - (RowKit.intOf t).toNat)
          case atStart => exact ⟨0, rfl, by omega, Lib.hid (fun x hx => by simp at hx)⟩
          case round =>
            obtain ⟨k, rfl, hk, HZ⟩ := hrel
            by_cases hp : k < r.length
            · obtain ⟨x, hx, hcx⟩ := HP.out k hp
              by_cases hx0 : x.toNat = 0
              · obtain rfl : x = 0 := u8_eq hx0
                have hix := nz_index r k (by omega) HZ.out hx
                have hcv : ∀ W cap, Below w.heap.size w W → (convert 27 9 (.slice (some ⟨g, o + 1, none⟩) k cap)).run Tryd.prog W = .ok (.string ⟨(r.take k).toArray⟩) W := fun W cap hW => by
                  have hlen : (r.take k).length = k := by rw [List.length_take]; omega
                  have h := run_convert_bytes_back W 27 9 5 ⟨g, o + 1, none⟩ cap (r.take k) Tryd.underlying27 Tryd.underlying5 Tryd.underlying9 (fun j hj => by
                    rw [addr_off, hW.cell (p := ⟨g, o + 1 + j, none⟩) hg, show o + 1 + j = o + (j + 1) by omega]
                    refine HC.out (j + 1) _ ?_
                    rw [List.getElem_take, List.getElem?_cons_succ, List.getElem?_eq_getElem (by omega)])
                  rw [hlen] at h
                  exact h
                have hcvO := fun cap => hcv O cap c0
                have hc1 : ¬ c = 1 := by omega
                obtain ⟨T, hT⟩ : ∃ T : ByteArray, T = ⟨(r.take k).toArray⟩ := ⟨_, rfl⟩
                rw [← hT] at hcvO
                have hTl : T.data.toList = r.take k := by rw [hT]
                have hTs : T.size ≤ 9223372036854775807 := by
                  have : T.size = (r.take k).length := by rw [hT]; rfl
                  rw [this, List.length_take]; omega
                have HRT := Lib.hid (fun w hE => ref3_right 2 0 T w hTs hE)
                rw [show valB 2 0 T = rightL T.data.toList by simp [valB]] at HRT
                have HB1 := HB.alloc (.cells #[.int .u8 2, .int .i64 0, .string T] 43)
                have hEO := HE.out.below ((c0.alloc c0.size (.cells #[.int .u8 2, .int .i64 0, .string T] 43)))
                have hok : readR (b :: r) = if rightL T.data.toList = true then ⟨2, 0, T, (k : Int) + 2, 0⟩ else noR := by
                  rw [readR, if_neg (fun e => by have := e.1; rw [HR2.out] at this; revert this; decide), hix, Int.toNat_natCast, ← hTl]
                  have : T = ⟨T.data.toList.toArray⟩ := by rw [hTl, hT]
                  cases hrr : rightL T.data.toList with
                  | true => rw [if_pos ⟨HR2.out, by omega, rfl⟩, ← this]; rfl
                  | false => rw [if_neg (fun e => by simp at e)]; rfl
                have HE2 := Lib.hid hEO
                clear hcv hix hT hTl hEO hx HP HC
                cases hrr : rightL T.data.toList with
                | false =>
                  rw [hrr] at hok HRT
                  have HK := Lib.hid hok
                  clear hok hrr
                  go_wp2_with fail
                  refine (HRT.out _ HE2.out).mono ?_
                  rintro e w1 ⟨rfl, hb1⟩
                  have HB2 := HB1.below hb1 (by simp; omega)
                  have cc := HB2.cell
                  have cf := HB2.frozen
                  have HB3 := fun a b c => ((HB2.set_ 0 a).set_ 1 b).set_ 2 c
                  have c3 := fun a b c i => (HB3 a b c).cell i
                  have q1 := keepS' (c0.alloc c0.size _) hb1
                  clear HB3 hb1
                  go_wp2
                  refine bodyPost_ret (by simp [results, Tryd.results26, go_sem, c3]; try rfl) rfl ?_
                  exact ⟨by rw [HK.out]; rfl, ((q1.setCell (p := ⟨w.heap.size, 0, none⟩) (Nat.le_refl _) _).setCell (p := ⟨w.heap.size, 1, none⟩) (Nat.le_refl _) _).setCell (p := ⟨w.heap.size, 2, none⟩) (Nat.le_refl _) _⟩
                | true =>
                  rw [hrr] at hok HRT
                  have HK := Lib.hid hok
                  clear hok hrr
                  go_wp2_with fail
                  refine (HRT.out _ HE2.out).mono ?_
                  rintro e w1 ⟨rfl, hb1⟩
                  have HB2 := HB1.below hb1 (by simp; omega)
                  have cc := HB2.cell
                  have cf := HB2.frozen
                  have HB3 := fun a b c => ((HB2.set_ 0 a).set_ 1 b).set_ 2 c
                  have c3 := fun a b c i => (HB3 a b c).cell i
                  have HN := Blk.below (Blk.new O 43 #[.int .u8 2, .int .i64 0, .string T]) hb1 (by simp)
                  have cn := HN.cell
                  have q1 := keepS' (c0.alloc c0.size _) hb1
                  clear HB3 hb1
                  go_wp2
                  refine bodyPost_ret (by simp [results, Tryd.results26, go_sem, c3]; try rfl) rfl ?_
                  exact ⟨by rw [HK.out]; rfl, ((q1.setCell (p := ⟨w.heap.size, 0, none⟩) (Nat.le_refl _) _).setCell (p := ⟨w.heap.size, 1, none⟩) (Nat.le_refl _) _).setCell (p := ⟨w.heap.size, 2, none⟩) (Nat.le_refl _) _⟩
              · have HZ2 : Hid (∀ y ∈ r.take (k + 1), y ≠ 0) := Lib.hid (fun y hy => by
                  rw [List.take_add_one, hx, List.mem_append] at hy
                  rcases hy with hy | hy
                  · exact HZ.out y hy
                  · have : y = x := by simpa using hy
                    subst this
                    intro e
                    rw [e] at hx0
                    exact hx0 rfl)
                have hx0' : ((x.toNat : Int) == 0) = false := beq_eq_false_iff_ne.2 (by omega)
                clear HZ hx HP HC
                go_wp2
                go_round
                case rel => exact ⟨k + 1, by go_num, by omega, HZ2⟩
                case measure => simp [RowKit.intOf]; omega
            · have hkr : k = r.length := by omega
              have hnz := nz_none r (fun x hx => HZ.out x (by rw [hkr, List.take_length]; exact hx))
              have HK : Hid (readR (b :: r) = noR) := Lib.hid (by rw [readR, if_neg (fun e => by have := e.1; rw [HR2.out] at this; revert this; decide), hnz, if_neg (fun e => by simp at e)])
              have cc := HB.cell
              have cf := HB.frozen
              have HB3 := fun a b c => ((HB.set_ 0 a).set_ 1 b).set_ 2 c
              have c3 := fun a b c i => (HB3 a b c).cell i
              clear hnz HB3 HP HC HZ
              go_wp2
              refine bodyPost_ret (by simp [results, Tryd.results26, go_sem, c3]; try rfl) rfl ?_
              exact ⟨by rw [HK.out]; rfl, ((c0.setCell (p := ⟨w.heap.size, 0, none⟩) (Nat.le_refl _) _).setCell (p := ⟨w.heap.size, 1, none⟩) (Nat.le_refl _) _).setCell (p := ⟨w.heap.size, 2, none⟩) (Nat.le_refl _) _⟩
      · have HK : Hid (readR (b :: r) = noR) := Lib.hid (by
          rw [readR, if_neg (fun e => h1 ⟨by rw [e.1]; rfl, by omega⟩), if_neg (fun e => h2 (by rw [e.1]; rfl))])
        have h2' : ((b.toNat : Int) == 2) = false := beq_eq_false_iff_ne.2 (by omega)
        have hlen0 : 0 < (b :: r).length := by simp
        have hLr : (b :: r).length = r.length + 1 := rfl
        by_cases hb1 : b.toNat = 1
        · have h9 : ¬ (9 : Int) ≤ ((b :: r).length : Int) := by rw [hLr]; omega
          have h1' : ((b.toNat : Int) == 1) = true := by rw [hb1]; rfl
          generalize hL : (b :: r).length = L at *
          clear h1 h2 hb1 HC
          go_enter Tryd.func26, Tryd.ntmps26
          go_wp2
          go_returns
          exact ⟨by rw [HK.out]; rfl, hb0 _⟩
        · have h1' : ((b.toNat : Int) == 1) = false := beq_eq_false_iff_ne.2 (by omega)
          generalize hL : (b :: r).length = L at *
          clear h1 h2 hb1 HC
          go_enter Tryd.func26, Tryd.ntmps26
          go_wp2
          all_goals
            go_returns
            exact ⟨by rw [HK.out]; rfl, hb0 _⟩
end Go.Proofs.YtafbphiedaijmaaDoor
