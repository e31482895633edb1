/- value.Read. -/
import Derived.Test.YtafbphiedaijmaaDoorBytesOrd
import Derived.Lib.IndexLaws
namespace Go.Proofs.YtafbphiedaijmaaDoor
open Go.RowKit Go.Lib

/-- v is a slice of bytes that read so. -/
def SlB (w : World) (v : Value) (l : List UInt8) : Prop := (l = [] ∧ (v = .slice none 0 0 ∨ ∃ a c, v = .slice (some a) 0 c)) ∨ ∃ g o c, v = .slice (some ⟨g, o, none⟩) l.length c ∧ l.length ≤ c ∧ g < w.heap.size ∧ ∀ j x, l[j]? = some x → w.cell? ⟨g, o + j, none⟩ = some (.int .u8 x.toNat)
theorem SlB.below {w w' : World} {v : Value} {l : List UInt8} (h : SlB w v l) (hb : Below w.heap.size w w') : SlB w' v l := by
  rcases h with h | ⟨g, o, c, h1, h2, h3, h4⟩
  · exact .inl h
  · exact .inr ⟨g, o, c, h1, h2, by have := hb.size; omega, fun j x hj => (hb.cell (p := ⟨g, o + j, none⟩) h3).trans (h4 j x hj)⟩

/-- The number that bytes are, the greatest first. -/
def beN (l : List UInt8) : Nat := l.foldl (fun a c => a * 256 + c.toNat) 0
theorem beN_snoc (l : List UInt8) (c : UInt8) : beN (l ++ [c]) = beN l * 256 + c.toNat := by simp [beN]
theorem beN_lt : ∀ (k : Nat) (l : List UInt8), l.length ≤ k → k ≤ 8 → beN l < 256 ^ k := by
  intro k
  induction k with
  | zero =>
    intro l h _
    have : l = [] := List.eq_nil_of_length_eq_zero (by omega)
    subst this
    decide
  | succ k ih =>
    intro l h hk
    rcases List.eq_nil_or_concat l with rfl | ⟨l', c, rfl⟩
    · simp [beN]; exact Nat.pow_pos (by decide)
    · rw [List.concat_eq_append, beN_snoc]
      have := ih l' (by simp at h; omega) (by omega)
      have hc := c.toNat_lt
      rw [Nat.pow_succ]
      omega
structure RR where
  k : Int
  n : Int
  s : ByteArray
  c : Int
  e : Int
def noR : RR := ⟨0, 0, ⟨#[]⟩, 0, 3⟩
/-- What value.Read hands back. -/
def readR (l : List UInt8) : RR := match l with
  | [] => noR
  | b :: r => if b = 1 ∧ 8 ≤ r.length then ⟨1, (beN (r.take 8) : Int) - 9223372036854775808, ⟨#[]⟩, 9, 0⟩
    else if b = 2 ∧ indexByte r 0 ≠ -1 ∧ rightL (r.take (indexByte r 0).toNat) = true then ⟨2, 0, ⟨(r.take (indexByte r 0).toNat).toArray⟩, indexByte r 0 + 2, 0⟩ else noR

theorem or_step (A c : Nat) (hA : A < 72057594037927936) (hc : c < 256) : bits .or .u64 (IntKind.u64.wrap ((A : Int) * 256)) (IntKind.u64.wrap (c : Int)) = ((A * 256 + c : Nat) : Int) := by
  rw [show IntKind.u64.wrap ((A : Int) * 256) = ((A * 256 : Nat) : Int) by rw [IntKind.wrap_u64]; omega, show IntKind.u64.wrap (c : Int) = (c : Int) by rw [IntKind.wrap_u64]; omega, u64_or_nat _ _ (by omega) (by omega)]
  have h := Nat.two_pow_add_eq_or_of_lt (i := 8) (b := c) (by omega) A
  rw [show A * 256 = 2 ^ 8 * A by omega, ← h]
theorem flip_back (U : Nat) (h : U < 18446744073709551616) : ∃ X, bits .xor .u64 (U : Int) 9223372036854775808 = X ∧ IntKind.i64.wrap X = (U : Int) - 9223372036854775808 := by
  by_cases h1 : U < 9223372036854775808
  · refine ⟨_, u64_xor_nat U 9223372036854775808 h (by omega), ?_⟩
    rw [xor_low U h1, IntKind.wrap_i64]
    omega
  · obtain ⟨x, rfl⟩ : ∃ x, U = 9223372036854775808 + x := ⟨U - 9223372036854775808, by omega⟩
    refine ⟨_, u64_xor_nat _ 9223372036854775808 h (by omega), ?_⟩
    rw [← xor_low x (by omega), Nat.xor_assoc, Nat.xor_self, Nat.xor_zero, IntKind.wrap_i64, xor_low x (by omega)]
    omega

set_option maxHeartbeats 4000000 in
theorem value_read (v : Value) (l : List UInt8) (w : World) (h : SlB w v l) (hl : l.length ≤ 4611686018427387904) :
    Calls Tryd.prog 51 #[v] w fun e w' => e = .returned (.tuple #[.agg #[.int .u8 (readR l).k, .int .i64 (readR l).n, .string (readR l).s], .int .i64 (readR l).c, .int .i64 (readR l).e]) ∧ Below w.heap.size w w' := by
  have hb0 : ∀ o, Below w.heap.size w (w.alloc o) := fun o => (Below.refl _ _).alloc (Nat.le_refl _) o
  rcases l with _ | ⟨b, r⟩
  · have hv : ∃ a c, v = .slice a 0 c := by
      rcases h with ⟨_, rfl | ⟨a, c, rfl⟩⟩ | ⟨g, o, c, rfl, _⟩
      · exact ⟨_, _, rfl⟩
      · exact ⟨_, _, rfl⟩
      · exact ⟨_, _, rfl⟩
    obtain ⟨a, c, rfl⟩ := hv
    have H : Hid (readR [] = noR) := Lib.hid rfl
    go_enter Tryd.func51, Tryd.ntmps51
    go_wp2
    go_returns
    exact ⟨rfl, (hb0 _).alloc (by simp) _⟩
  · rcases h with ⟨h, _⟩ | ⟨g, o, c, rfl, hc, hg, hcell⟩
    · cases h
    have x0 := hcell 0 b rfl
    rw [Nat.add_zero] at x0
    have HC := Lib.hid hcell
    clear hcell
    by_cases h1 : b.toNat = 1
    · by_cases h8 : 8 ≤ r.length
      · have hb1 : b = 1 := u8_eq h1
        have h1' : ((b.toNat : Int) == 1) = true := by rw [h1]; rfl
        have hlen : 8 < (b :: r).length := by simp; omega
        have hlen' : (8 : Int) < ((b :: r).length : Int) := by omega
        generalize hL : (b :: r).length = L at *
        go_enter Tryd.func51, Tryd.ntmps51
        go_wp2
        obtain ⟨O, hO⟩ : ∃ O, O = (w.alloc (.cells #[.int .u8 0, .int .i64 0, .string ⟨#[]⟩] 43)).alloc (.cells #[.int .u8 0, .int .i64 0, .string ⟨#[]⟩] 43) := ⟨_, rfl⟩
        have c0 : Below w.heap.size w O := by rw [hO]; exact (hb0 _).alloc (by simp) _
        have z0 : w.heap.size + 1 < O.heap.size := by rw [hO]; simp
        have HP : Hid (∀ j, j < 8 → ∃ x : UInt8, r[j]? = some x ∧ O.cell? ⟨g, o + 1 + j, none⟩ = some (.int .u8 x.toNat)) := Lib.hid (fun j hj => by
          refine ⟨r[j]'(by omega), List.getElem?_eq_getElem _, ?_⟩
          rw [c0.cell (p := ⟨g, o + 1 + j, none⟩) hg, show o + 1 + j = o + (j + 1) by omega]
          exact HC.out (j + 1) _ (by simp))
        have HO := Lib.hid hO
        rw [← hO]
        clear hO
        go_loopw [7, 28] (fun u t wr => ∃ i : Nat, t = .int .i64 i ∧ i ≤ 8 ∧ u = .int .u64 (beN (r.take i)) ∧ wr = O) (fun _ t _ => 8 - (RowKit.intOf t).toNat)
        case atStart => exact ⟨0, rfl, by omega, rfl, rfl⟩
        case round =>
          obtain ⟨i, rfl, hi, rfl, rfl⟩ := hrel
          have hlt := beN_lt 8 (r.take i) (by rw [List.length_take]; omega) (by omega)
          by_cases hp : i < 8
          · obtain ⟨x, hx, hcx⟩ := HP.out i hp
            have hlt7 := beN_lt 7 (r.take i) (by rw [List.length_take]; omega) (by omega)
            have hst : beN (r.take (i + 1)) = beN (r.take i) * 256 + x.toNat := by
              rw [List.take_add_one, hx]
              exact beN_snoc _ _
            have hor := or_step (beN (r.take i)) x.toNat hlt7 x.toNat_lt
            have HS := Lib.hid hst
            generalize beN (r.take i) = A at *
            clear hst hx hlt7 hlt
            go_wp2
            go_roundw
            case rel => exact ⟨i + 1, by go_num, by omega, by rw [HS.out, Int.natCast_add, Int.natCast_mul]; rfl, trivial⟩
            case measure => simp [RowKit.intOf]; omega
          · have hi8 : i = 8 := by omega
            subst hi8
            obtain ⟨X, hx1, hx2⟩ := flip_back (beN (r.take 8)) (by omega)
            have hx2' := hx2
            rw [IntWalk.i64_left] at hx2'
            have HR : Hid (readR (b :: r) = ⟨1, (beN (r.take 8) : Int) - 9223372036854775808, ⟨#[]⟩, 9, 0⟩) := Lib.hid (by rw [readR, if_pos ⟨hb1, h8⟩])
            have hN1 : -9223372036854775808 ≤ (beN (r.take 8) : Int) - 9223372036854775808 := by omega
            generalize (beN (r.take 8) : Int) = U at *
            have HV := Lib.hid (fun w => value_right 1 (U - 9223372036854775808) ⟨#[]⟩ w)
            rw [show valB 1 (U - 9223372036854775808) ⟨#[]⟩ = true from by unfold valB; rw [if_pos rfl, Lib.toList_data]; rfl] at HV
            obtain rfl := HO.out
            clear HO HP HC
            go_wp2_with fail
            refine (HV.out _).mono ?_
            rintro e w1 ⟨rfl, hb1⟩
            have hk : Below w.heap.size w ((w.alloc (.cells #[.int .u8 0, .int .i64 0, .string ⟨#[]⟩] 43)).alloc (.cells #[.int .u8 1, .int .i64 (U - 9223372036854775808), .string ⟨#[]⟩] 43)) := (hb0 _).alloc (by simp) _
            have g0 : w1.cell? ⟨w.heap.size + 1, 0, none⟩ = some (.int .u8 1) := by rw [hb1.cell (p := ⟨w.heap.size + 1, 0, none⟩) (by simp)]; simp [go_sem]
            have g1 : w1.cell? ⟨w.heap.size + 1, 1, none⟩ = some (.int .i64 (U - 9223372036854775808)) := by rw [hb1.cell (p := ⟨w.heap.size + 1, 1, none⟩) (by simp)]; simp [go_sem]
            have g2 : w1.cell? ⟨w.heap.size + 1, 2, none⟩ = some (.string ⟨#[]⟩) := by rw [hb1.cell (p := ⟨w.heap.size + 1, 2, none⟩) (by simp)]; simp [go_sem]
            have d0 : w1.cell? ⟨w.heap.size, 0, none⟩ = some (.int .u8 0) := by rw [hb1.cell (p := ⟨w.heap.size, 0, none⟩) (by simp; omega)]; simp [go_sem]
            have f0 : w1.frozen? ⟨w.heap.size, 0, none⟩ = false := by rw [hb1.frozen (p := ⟨w.heap.size, 0, none⟩) (by simp; omega)]; simp [go_sem]
            have d1 : w1.cell? ⟨w.heap.size, 1, none⟩ = some (.int .i64 0) := by rw [hb1.cell (p := ⟨w.heap.size, 1, none⟩) (by simp; omega)]; simp [go_sem]
            have f1 : w1.frozen? ⟨w.heap.size, 1, none⟩ = false := by rw [hb1.frozen (p := ⟨w.heap.size, 1, none⟩) (by simp; omega)]; simp [go_sem]
            have d2 : w1.cell? ⟨w.heap.size, 2, none⟩ = some (.string ⟨#[]⟩) := by rw [hb1.cell (p := ⟨w.heap.size, 2, none⟩) (by simp; omega)]; simp [go_sem]
            have f2 : w1.frozen? ⟨w.heap.size, 2, none⟩ = false := by rw [hb1.frozen (p := ⟨w.heap.size, 2, none⟩) (by simp; omega)]; simp [go_sem]
            have s0 : ∀ v, (w1.setCell ⟨w.heap.size, 0, none⟩ v).cell? ⟨w.heap.size, 0, none⟩ = some v := fun v => World.cell?_setCell_same _ _ _ d0
            have s1 : ∀ u v, ((w1.setCell ⟨w.heap.size, 0, none⟩ u).setCell ⟨w.heap.size, 1, none⟩ v).cell? ⟨w.heap.size, 1, none⟩ = some v := fun u v => World.cell?_setCell_same _ _ _ (by rw [World.cell?_setCell_other _ _ _ _ (by simp)]; exact d1)
            have s2 : ∀ u x v, (((w1.setCell ⟨w.heap.size, 0, none⟩ u).setCell ⟨w.heap.size, 1, none⟩ x).setCell ⟨w.heap.size, 2, none⟩ v).cell? ⟨w.heap.size, 2, none⟩ = some v := fun u x v => World.cell?_setCell_same _ _ _ (by rw [World.cell?_setCell_other _ _ _ _ (by simp), World.cell?_setCell_other _ _ _ _ (by simp)]; exact d2)
            have cc : Below w.heap.size w w1 := hk.trans (hb1.mono hk.size)
            clear hb1 hk
            go_wp2
            refine bodyPost_ret (by simp [results, Tryd.results51, go_sem, s0, s1, s2]; try rfl) rfl ?_
            exact ⟨by rw [HR.out], ((cc.setCell (p := ⟨w.heap.size, 0, none⟩) (Nat.le_refl _) _).setCell (p := ⟨w.heap.size, 1, none⟩) (Nat.le_refl _) _).setCell (p := ⟨w.heap.size, 2, none⟩) (Nat.le_refl _) _⟩
      · have HR : Hid (readR (b :: r) = noR) := Lib.hid (by
          have e2 : ¬ b = 2 := fun e => by rw [e] at h1; cases h1
          rw [readR, if_neg (fun e => h8 e.2), if_neg (fun e => e2 e.1)])
        have h1' : ((b.toNat : Int) == 1) = true := by rw [h1]; rfl
        have h2' : ((b.toNat : Int) == 2) = false := by rw [h1]; rfl
        have hlen : (b :: r).length ≤ 8 := by simp; omega
        have hlen0 : 0 < (b :: r).length := by simp
        have hlen' : ¬ (8 : Int) < ((b :: r).length : Int) := by omega
        have hlen2 : ¬ 8 < (b :: r).length := by omega
        generalize hL : (b :: r).length = L at *
        clear HC
        go_enter Tryd.func51, Tryd.ntmps51
        go_wp2
        go_returns
        exact ⟨by rw [HR.out]; rfl, (hb0 _).alloc (by simp) _⟩
    · have h1' : ((b.toNat : Int) == 1) = false := beq_eq_false_iff_ne.2 (by omega)
      have e1 : ¬ b = 1 := fun e => h1 (by rw [e]; rfl)
      by_cases h2 : b.toNat = 2
      · have h2' : ((b.toNat : Int) == 2) = true := by rw [h2]; rfl
        have e2 : b = 2 := u8_eq h2
        by_cases hc1 : c = 1
        · subst hc1
          have hr : r = [] := List.eq_nil_of_length_eq_zero (by have h : r.length + 1 ≤ 1 := hc; omega)
          subst hr
          have HR : Hid (readR [b] = noR) := Lib.hid (by rw [readR, if_neg (fun e => e1 e.1), if_neg (fun e => e.2.1 rfl)])
          have HI : Hid (∀ cap W, Calls Tryd.prog 59 #[.slice (some ⟨g, o, none⟩) 0 cap, .int .u8 0] W fun e w' => e = .returned (.int .i64 (-1)) ∧ W = w') := Lib.hid (fun cap W => by
            refine (Tryd.bytes_IndexByte_bytes g o cap ⟨#[]⟩ 0 W (fun i hi => absurd hi (Nat.not_lt_zero i))).mono ?_
            rintro e w' ⟨h1, h2⟩
            exact ⟨h1, h2.symm⟩)
          have hl1 : [b].length = 1 := rfl
          rw [hl1] at *
          clear HC
          go_enter Tryd.func51, Tryd.ntmps51
          go_wp2_with fail
          refine (HI.out _ _).mono ?_
          rintro e w1 ⟨rfl, rfl⟩
          go_wp2
          go_returns
          exact ⟨by rw [HR.out]; rfl, (hb0 _).alloc (by simp) _⟩
        · have hL : (b :: r).length = r.length + 1 := rfl
          have hc' : r.length + 1 ≤ c := hc
          have hl' : r.length + 1 ≤ 4611686018427387904 := hl
          rw [hL]
          clear hc hl hL
          have hbytes : ∀ j x, r[j]? = some x → w.cell? ⟨g, o + 1 + j, none⟩ = some (.int .u8 x.toNat) := fun j x hj => by
            rw [show o + 1 + j = o + (j + 1) by omega]
            exact HC.out (j + 1) x hj
          have HI : Hid (∀ cap W, Below w.heap.size w W → Calls Tryd.prog 59 #[.slice (some ⟨g, o + 1, none⟩) r.length cap, .int .u8 0] W fun e w' => e = .returned (.int .i64 (indexByte r 0)) ∧ W = w') := Lib.hid (fun cap W hW => by
            refine (Tryd.bytes_IndexByte_bytes g (o + 1) cap ⟨r.toArray⟩ 0 W (fun i hi => (hW.cell (p := ⟨g, o + 1 + i, none⟩) hg).trans (hbytes i _ (by
              have hi' : i < r.length := hi
              rw [List.getElem?_eq_getElem hi']
              rfl)))).mono ?_
            rintro e w' ⟨h1, h2⟩
            exact ⟨h1, h2.symm⟩)
          have HB := Lib.hid hbytes
          have hge := indexByte_ge r 0
          clear hbytes HC
          by_cases hm : indexByte r 0 = -1
          · have HR : Hid (readR (b :: r) = noR) := Lib.hid (by rw [readR, if_neg (fun e => e1 e.1), if_neg (fun e => e.2.1 hm)])
            rw [hm] at HI
            go_enter Tryd.func51, Tryd.ntmps51
            go_wp2_with fail
            refine (HI.out _ _ ((hb0 _).alloc (by simp) _)).mono ?_
            rintro e w1 ⟨rfl, rfl⟩
            go_wp2
            go_returns
            exact ⟨by rw [HR.out]; rfl, (hb0 _).alloc (by simp) _⟩
          · obtain ⟨k, hk⟩ := Int.eq_ofNat_of_zero_le (show 0 ≤ indexByte r 0 by omega)
            have hkr : k < r.length := by
              have h := (indexByte_some (show indexByte r 0 = (k : Int) from hk)).1
              by_cases hlt : k < r.length
              · exact hlt
              · rw [List.getElem?_eq_none (by omega)] at h; cases h
            have hcv : ∀ W cap, Below w.heap.size w W → (convert 27 9 (.slice (some ⟨g, o + 1, none⟩) k cap)).run Tryd.prog W = .ok (.string ⟨(r.take k).toArray⟩) W := fun W cap hW => by
              have hlen : (r.take k).length = k := by rw [List.length_take]; omega
              have h := run_convert_bytes_back W 27 9 5 ⟨g, o + 1, none⟩ cap (r.take k) Tryd.underlying27 Tryd.underlying5 Tryd.underlying9 (fun j hj => by
                have e : (⟨g, o + 1, none⟩ : Addr).add j = ⟨g, o + 1 + j, none⟩ := by unfold Addr.add; split <;> simp_all
                rw [e, hW.cell (p := ⟨g, o + 1 + j, none⟩) hg]
                refine HB.out j _ ?_
                rw [List.getElem_take, List.getElem?_eq_getElem (by omega)])
              rw [hlen] at h
              exact h
            have HR : Hid (readR (b :: r) = if rightL (r.take k) = true then ⟨2, 0, ⟨(r.take k).toArray⟩, (k : Int) + 2, 0⟩ else noR) := Lib.hid (by
              rw [readR, if_neg (fun e => e1 e.1), hk]
              show (if b = 2 ∧ (k : Int) ≠ -1 ∧ rightL (r.take k) = true then _ else _) = _
              by_cases hq : rightL (r.take k) = true
              · rw [if_pos hq, if_pos ⟨e2, by omega, hq⟩]; rfl
              · rw [if_neg hq, if_neg (fun e => hq e.2.2)])
            rw [hk] at HI
            have hvb : valB 2 0 ⟨(r.take k).toArray⟩ = rightL (r.take k) := by unfold valB; rw [if_neg (by decide), if_pos rfl]; simp
            have HV := Lib.hid (fun w => value_right 2 0 ⟨(r.take k).toArray⟩ w)
            rw [hvb] at HV
            generalize hT : (⟨(r.take k).toArray⟩ : ByteArray) = T at *
            obtain ⟨O, hO⟩ : ∃ O, O = (w.alloc (.cells #[.int .u8 0, .int .i64 0, .string ⟨#[]⟩] 43)).alloc (.cells #[.int .u8 0, .int .i64 0, .string ⟨#[]⟩] 43) := ⟨_, rfl⟩
            have hcv' := fun cap => hcv _ cap ((hb0 (.cells #[.int .u8 0, .int .i64 0, .string ⟨#[]⟩] 43)).alloc (by simp) (.cells #[.int .u8 0, .int .i64 0, .string ⟨#[]⟩] 43))
            have hk62 : k + 2 ≤ 4611686018427387904 := by omega
            have hcap : k + 1 ≤ c := by omega
            cases hq : rightL (r.take k) with
            | true =>
              rw [hq] at HV
              rw [hq, if_pos rfl] at HR
              clear hq hge hm hk hvb hT hcv hO HB
              go_enter Tryd.func51, Tryd.ntmps51
              go_wp2_with fail
              refine (HI.out _ _ ((hb0 _).alloc (by simp) _)).mono ?_
              rintro e w1 ⟨rfl, rfl⟩
              go_wp2_with fail
              refine (HV.out _).mono ?_
              rintro e w1 ⟨rfl, hb1⟩
              have hk : Below w.heap.size w ((w.alloc (.cells #[.int .u8 0, .int .i64 0, .string ⟨#[]⟩] 43)).alloc (.cells #[.int .u8 2, .int .i64 0, .string T] 43)) := (hb0 _).alloc (by simp) _
              have g0 : w1.cell? ⟨w.heap.size + 1, 0, none⟩ = some (.int .u8 2) := by rw [hb1.cell (p := ⟨w.heap.size + 1, 0, none⟩) (by simp)]; simp [go_sem]
              have g1 : w1.cell? ⟨w.heap.size + 1, 1, none⟩ = some (.int .i64 0) := by rw [hb1.cell (p := ⟨w.heap.size + 1, 1, none⟩) (by simp)]; simp [go_sem]
              have g2 : w1.cell? ⟨w.heap.size + 1, 2, none⟩ = some (.string T) := by rw [hb1.cell (p := ⟨w.heap.size + 1, 2, none⟩) (by simp)]; simp [go_sem]
              have d0 : w1.cell? ⟨w.heap.size, 0, none⟩ = some (.int .u8 0) := by rw [hb1.cell (p := ⟨w.heap.size, 0, none⟩) (by simp; omega)]; simp [go_sem]
              have f0 : w1.frozen? ⟨w.heap.size, 0, none⟩ = false := by rw [hb1.frozen (p := ⟨w.heap.size, 0, none⟩) (by simp; omega)]; simp [go_sem]
              have d1 : w1.cell? ⟨w.heap.size, 1, none⟩ = some (.int .i64 0) := by rw [hb1.cell (p := ⟨w.heap.size, 1, none⟩) (by simp; omega)]; simp [go_sem]
              have f1 : w1.frozen? ⟨w.heap.size, 1, none⟩ = false := by rw [hb1.frozen (p := ⟨w.heap.size, 1, none⟩) (by simp; omega)]; simp [go_sem]
              have d2 : w1.cell? ⟨w.heap.size, 2, none⟩ = some (.string ⟨#[]⟩) := by rw [hb1.cell (p := ⟨w.heap.size, 2, none⟩) (by simp; omega)]; simp [go_sem]
              have f2 : w1.frozen? ⟨w.heap.size, 2, none⟩ = false := by rw [hb1.frozen (p := ⟨w.heap.size, 2, none⟩) (by simp; omega)]; simp [go_sem]
              have s0 : ∀ v, (w1.setCell ⟨w.heap.size, 0, none⟩ v).cell? ⟨w.heap.size, 0, none⟩ = some v := fun v => World.cell?_setCell_same _ _ _ d0
              have s1 : ∀ u v, ((w1.setCell ⟨w.heap.size, 0, none⟩ u).setCell ⟨w.heap.size, 1, none⟩ v).cell? ⟨w.heap.size, 1, none⟩ = some v := fun u v => World.cell?_setCell_same _ _ _ (by rw [World.cell?_setCell_other _ _ _ _ (by simp)]; exact d1)
              have s2 : ∀ u x v, (((w1.setCell ⟨w.heap.size, 0, none⟩ u).setCell ⟨w.heap.size, 1, none⟩ x).setCell ⟨w.heap.size, 2, none⟩ v).cell? ⟨w.heap.size, 2, none⟩ = some v := fun u x v => World.cell?_setCell_same _ _ _ (by rw [World.cell?_setCell_other _ _ _ _ (by simp), World.cell?_setCell_other _ _ _ _ (by simp)]; exact d2)
              have cc : Below w.heap.size w w1 := hk.trans (hb1.mono hk.size)
              clear hb1 hk
              go_wp2
              refine bodyPost_ret (by simp [results, Tryd.results51, go_sem, s0, s1, s2]; try rfl) rfl ?_
              exact ⟨by rw [HR.out], ((cc.setCell (p := ⟨w.heap.size, 0, none⟩) (Nat.le_refl _) _).setCell (p := ⟨w.heap.size, 1, none⟩) (Nat.le_refl _) _).setCell (p := ⟨w.heap.size, 2, none⟩) (Nat.le_refl _) _⟩
            | false =>
              rw [hq] at HV
              rw [hq, if_neg (by simp)] at HR
              clear hq hge hm hk hvb hT hcv hO HB
              go_enter Tryd.func51, Tryd.ntmps51
              go_wp2_with fail
              refine (HI.out _ _ ((hb0 _).alloc (by simp) _)).mono ?_
              rintro e w1 ⟨rfl, rfl⟩
              go_wp2_with fail
              refine (HV.out _).mono ?_
              rintro e w1 ⟨rfl, hb1⟩
              have hk : Below w.heap.size w ((w.alloc (.cells #[.int .u8 0, .int .i64 0, .string ⟨#[]⟩] 43)).alloc (.cells #[.int .u8 2, .int .i64 0, .string T] 43)) := (hb0 _).alloc (by simp) _
              have d0 : w1.cell? ⟨w.heap.size, 0, none⟩ = some (.int .u8 0) := by rw [hb1.cell (p := ⟨w.heap.size, 0, none⟩) (by simp; omega)]; simp [go_sem]
              have f0 : w1.frozen? ⟨w.heap.size, 0, none⟩ = false := by rw [hb1.frozen (p := ⟨w.heap.size, 0, none⟩) (by simp; omega)]; simp [go_sem]
              have d1 : w1.cell? ⟨w.heap.size, 1, none⟩ = some (.int .i64 0) := by rw [hb1.cell (p := ⟨w.heap.size, 1, none⟩) (by simp; omega)]; simp [go_sem]
              have f1 : w1.frozen? ⟨w.heap.size, 1, none⟩ = false := by rw [hb1.frozen (p := ⟨w.heap.size, 1, none⟩) (by simp; omega)]; simp [go_sem]
              have d2 : w1.cell? ⟨w.heap.size, 2, none⟩ = some (.string ⟨#[]⟩) := by rw [hb1.cell (p := ⟨w.heap.size, 2, none⟩) (by simp; omega)]; simp [go_sem]
              have f2 : w1.frozen? ⟨w.heap.size, 2, none⟩ = false := by rw [hb1.frozen (p := ⟨w.heap.size, 2, none⟩) (by simp; omega)]; simp [go_sem]
              have s0 : ∀ v, (w1.setCell ⟨w.heap.size, 0, none⟩ v).cell? ⟨w.heap.size, 0, none⟩ = some v := fun v => World.cell?_setCell_same _ _ _ d0
              have s1 : ∀ u v, ((w1.setCell ⟨w.heap.size, 0, none⟩ u).setCell ⟨w.heap.size, 1, none⟩ v).cell? ⟨w.heap.size, 1, none⟩ = some v := fun u v => World.cell?_setCell_same _ _ _ (by rw [World.cell?_setCell_other _ _ _ _ (by simp)]; exact d1)
              have s2 : ∀ u x v, (((w1.setCell ⟨w.heap.size, 0, none⟩ u).setCell ⟨w.heap.size, 1, none⟩ x).setCell ⟨w.heap.size, 2, none⟩ v).cell? ⟨w.heap.size, 2, none⟩ = some v := fun u x v => World.cell?_setCell_same _ _ _ (by rw [World.cell?_setCell_other _ _ _ _ (by simp), World.cell?_setCell_other _ _ _ _ (by simp)]; exact d2)
              have cc : Below w.heap.size w w1 := hk.trans (hb1.mono hk.size)
              clear hb1 hk
              go_wp2
              refine bodyPost_ret (by simp [results, Tryd.results51, go_sem, s0, s1, s2]; try rfl) rfl ?_
              exact ⟨by rw [HR.out]; rfl, ((cc.setCell (p := ⟨w.heap.size, 0, none⟩) (Nat.le_refl _) _).setCell (p := ⟨w.heap.size, 1, none⟩) (Nat.le_refl _) _).setCell (p := ⟨w.heap.size, 2, none⟩) (Nat.le_refl _) _⟩
      · have HR : Hid (readR (b :: r) = noR) := Lib.hid (by
          have e2 : ¬ b = 2 := fun e => h2 (by rw [e]; rfl)
          rw [readR, if_neg (fun e => e1 e.1), if_neg (fun e => e2 e.1)])
        have h2' : ((b.toNat : Int) == 2) = false := beq_eq_false_iff_ne.2 (by omega)
        have hlen0 : 0 < (b :: r).length := by simp
        generalize hL : (b :: r).length = L at *
        clear HC
        go_enter Tryd.func51, Tryd.ntmps51
        go_wp2
        go_returns
        exact ⟨by rw [HR.out]; rfl, (hb0 _).alloc (by simp) _⟩
end Go.Proofs.YtafbphiedaijmaaDoor
