/- codec's reader. -/
import Derived.Test.YtafbphiedaijmaaDoorCodB
import Derived.Test.YtafbphiedaijmaaDoorCodE
import Derived.Defers
import Derived.Recover
import Derived.Laws.BitsAllLaws
import Derived.Laws.BitsLemmas
namespace Go.Proofs.YtafbphiedaijmaaDoor
open Go.RowKit Go.Lib
attribute [local go_sem ↓] Go.wp_at_zero Go.wp_at_succ

/-- What goes up where a reader gives up. -/
def torn : List PanicEntry := [{ v := .iface 48 (.agg #[]), recovered := false }]

theorem codec_give (w : World) : Calls Tryd.prog 42 #[] w fun e w' => e = .panicked torn ∧ w = w' := by
  go_enter Tryd.func42, Tryd.ntmps42
  go_wp2
  exact ⟨rfl, rfl, rfl⟩

/-- The reader at block g has these bytes left; they lie below block b. -/
def Rd (b : Nat) (w : World) (g : Nat) (l : List UInt8) : Prop := ∃ A n c, Blk w g 51 #[.slice A n c] ∧ SlU w (.slice A n c) l ∧ (0 < l.length → ∀ g1 o1, A = some ⟨g1, o1, none⟩ → g1 < b)
/-- A block of one cell holds no other cell. -/
theorem Blk.one_ne {w : World} {g g' o : Nat} {t : TypeId} {v u : Value} (h : Blk w g t #[v]) (hc : w.cell? ⟨g', o, none⟩ = some u) (hne : v ≠ u) : g' ≠ g := by
  rintro rfl
  rw [h.cell] at hc
  cases o with
  | zero => simp at hc; exact hne hc
  | succ o => simp at hc
section
variable {b : Nat} {w w' : World} {g : Nat} {l : List UInt8}
theorem Rd.lt (h : Rd b w g l) : g < w.heap.size := by obtain ⟨A, n, c, h, _⟩ := h; exact h.lt
theorem Rd.grown (h : Rd b w g l) {row : Option Nat} (hg : w.grownBy w' row) (hr : some g ≠ row) (hb : ∀ k, row = some k → b ≤ k) : Rd b w' g l := by
  obtain ⟨A, n, c, h1, h2, h3⟩ := h
  exact ⟨A, n, c, h1.grown hg hr, h2.grown hg (fun h0 g1 o1 e he => by have := h3 h0 g1 o1 e; have := hb g1 he.symm; omega), h3⟩
theorem Rd.below (h : Rd b w g l) (hb : Below w.heap.size w w') : Rd b w' g l := h.grown (row := none) (gr_of hb none) (by simp) (fun k h => by cases h)
theorem Rd.alloc (h : Rd b w g l) (o : Obj) : Rd b (w.alloc o) g l := h.below ((Below.refl _ _).alloc (Nat.le_refl _) o)
theorem Rd.drew (h : Rd b w g l) : Rd b w.drew g l := h
theorem Rd.drewN (h : Rd b w g l) (n : Nat) : Rd b (w.drewN n) g l := h
theorem Rd.cut {A : Option Addr} {n c : Nat} (h1 : Blk w g 51 #[.slice A n c]) (h2 : SlU w (.slice A n c) l) (h3 : 0 < l.length → ∀ g1 o1, A = some ⟨g1, o1, none⟩ → g1 < b) {k : Nat} (hk : k ≤ n) :
    Rd b (w.setCell ⟨g, 0, none⟩ (.slice (if c = k then A else A.map (·.add k)) (n - k) (c - k))) g (l.drop k) := by
  have hd := h2.drop hk
  rw [Nat.mul_one] at hd
  have hn := h2.len
  refine ⟨_, _, _, h1.set_ 0 _, Sl.far (p := ⟨g, 0, none⟩) hd _ (fun h0 g1 o1 e => ?_), fun h0 g1 o1 e => ?_⟩
  · obtain ⟨b0, hb0⟩ : ∃ b0, (l.drop k)[0]? = some b0 := ⟨(l.drop k)[0]'h0, List.getElem?_eq_getElem _⟩
    rw [e] at hd
    exact h1.one_ne (hd.cell hb0 0 _ rfl) (by intro h; cases h)
  · rw [List.length_drop] at h0
    have h00 : 0 < l.length := by omega
    obtain ⟨g0, o0, e0, _, _⟩ := h2.at_ (List.getElem?_eq_getElem h00)
    have hg0 := h3 h00 g0 o0 e0
    rw [e0] at e
    split at e
    · simp only [Option.some.injEq, Addr.mk.injEq] at e
      omega
    · rw [Option.map_some, plain_add] at e
      simp only [Option.some.injEq, Addr.mk.injEq] at e
      omega
theorem Rd.far (h : Rd b w g l) {p : Addr} (hp : g ≠ p.block) (hb : b ≤ p.block) (u : Value) : Rd b (w.setCell p u) g l :=
  h.grown (grownBy_set w p u) (fun e => hp (Option.some.inj e)) (fun k e => by rw [← Option.some.inj e]; exact hb)
end

set_option maxHeartbeats 1000000 in
theorem reader_next_no (g : Nat) {bb : Nat} (w : World) (h : Rd bb w g []) :
    Calls Tryd.prog 39 #[.pointer (some ⟨g, 0, none⟩)] w fun e w' => e = .panicked torn ∧ w = w' := by
  obtain ⟨A, n0, c, hB, hS, hbb⟩ := h
  obtain rfl : n0 = _ := hS.len.1
  have x0 := hB.cell_ _ (i := 0) rfl
  clear hS
  go_enter Tryd.func39, Tryd.ntmps39
  go_wp2_with fail
  refine (codec_give _).mono ?_
  rintro e w' ⟨rfl, rfl⟩
  exact ⟨rfl, rfl, rfl⟩

set_option maxHeartbeats 1000000 in
theorem reader_next (g : Nat) (b : UInt8) (r : List UInt8) {bb : Nat} (w : World) (h : Rd bb w g (b :: r)) (hl : r.length ≤ 4611686018427387904) :
    Calls Tryd.prog 39 #[.pointer (some ⟨g, 0, none⟩)] w fun e w' => e = .returned (.int .u8 b.toNat) ∧ w = w' := by
  obtain ⟨A, n0, c, hB, hS, hbb⟩ := h
  obtain rfl : n0 = _ := hS.len.1
  obtain ⟨g', o', rfl, hg, hc⟩ := hS.at_ (k := 0) (x := b) rfl
  have c0 := hc 0 _ rfl
  simp only [Nat.zero_mul, Nat.add_zero] at c0
  obtain ⟨n, hn⟩ : ∃ n, n = (b :: r).length := ⟨_, rfl⟩
  rw [← hn] at hB
  have hn1 : 1 ≤ n := by rw [hn]; simp
  have hnl : n ≤ 4611686018427387905 := by rw [hn]; simp; omega
  have x0 := hB.cell_ _ (i := 0) rfl
  have hI : (0 : Int) < (n : Int) := by omega
  have h0 : ((n : Int) == 0) = false := by simp; omega
  clear hS hc hn hB
  go_enter Tryd.func39, Tryd.ntmps39
  go_wp2
  go_ret
  exact ⟨rfl, rfl⟩

set_option maxRecDepth 100000 in
set_option maxHeartbeats 1000000 in
theorem reader_point_no (g : Nat) (l : List UInt8) {bb : Nat} (w : World) (h : Rd bb w g l) (hl : l.length < 2) :
    Calls Tryd.prog 41 #[.pointer (some ⟨g, 0, none⟩)] w fun e w' => e = .panicked torn ∧ w = w' := by
  obtain ⟨A, n0, c, hB, hS, hbb⟩ := h
  obtain rfl : n0 = _ := hS.len.1
  have x0 := hB.cell_ _ (i := 0) rfl
  clear hS
  have hlI : (l.length : Int) < 2 := by omega
  go_enter Tryd.func41, Tryd.ntmps41
  go_wp2_with fail
  refine (codec_give _).mono ?_
  rintro e w' ⟨rfl, rfl⟩
  exact ⟨rfl, rfl, rfl⟩

theorem only_drewN' {a w : World} {row : Option Nat} (h : a.grownBy w row) (n : Nat) : a.grownBy (w.drewN n) row := ⟨h.os, h.tape, h.output, h.size, h.block⟩
theorem ofInt_i64' (a : Nat) (ha : a < 9223372036854775808) : (BitVec.ofInt 64 (a : Int)).toNat = a := by
  rw [BitVec.ofInt_natCast, BitVec.toNat_ofNat]; exact Nat.mod_eq_of_lt (by omega)
theorem or_nat (a b : Nat) (ha : a < 9223372036854775808) (hb : b < 9223372036854775808) : bits .or .i64 (a : Int) (b : Int) = ((a ||| b : Nat) : Int) := by
  have hx : a ||| b < 2 ^ 63 := Nat.or_lt_two_pow (by omega) (by omega)
  show IntKind.i64.wrap ((BitVec.ofInt 64 (a : Int) ||| BitVec.ofInt 64 (b : Int)).toNat : Int) = _
  rw [BitVec.toNat_or, ofInt_i64' a ha, ofInt_i64' b hb, IntKind.wrap_i64]
  omega
theorem or_two (a b : Nat) (ha : a < 256) (hb : b < 256) : bits .or .i64 ((a : Int) * 256) (b : Int) = ((a * 256 + b : Nat) : Int) := by
  have e : ((a : Int) * 256) = ((a * 256 : Nat) : Int) := by omega
  rw [e, or_nat _ _ (by omega) (by omega)]
  congr 1
  have h := Nat.two_pow_add_eq_or_of_lt (i := 8) (b := b) (by omega) a
  rw [Nat.mul_comm] at h
  exact h.symm

set_option maxRecDepth 100000 in
set_option maxHeartbeats 2000000 in
theorem reader_point (g : Nat) (a b : UInt8) (r : List UInt8) {bb : Nat} (w : World) (h : Rd bb w g (a :: b :: r)) (hl : r.length ≤ 4611686018427387904) :
    Calls Tryd.prog 41 #[.pointer (some ⟨g, 0, none⟩)] w fun e w' => e = .returned (.int .i64 (pointN a b)) ∧ Rd bb w' g r ∧ w.grownBy w' (some g) := by
  obtain ⟨A, n0, c, hB, hS, hbb⟩ := h
  obtain rfl : n0 = _ := hS.len.1
  have hlen := hS.len
  have hdrop := hS.drop (k := 2) (by simp)
  obtain ⟨g', o', rfl, hg, hc⟩ := hS.at_ (k := 0) (x := a) rfl
  have c0 := hc 0 _ rfl
  have c1 := hS.cell (k := 1) (x := b) rfl 0 _ rfl
  simp only [Nat.zero_mul, Nat.add_zero, Nat.one_mul] at c0 c1
  obtain ⟨n, hn⟩ : ∃ n, n = (a :: b :: r).length := ⟨_, rfl⟩
  rw [← hn] at hB hlen hdrop
  have hn1 : 2 ≤ n := by rw [hn]; simp
  have hnl : n ≤ 4611686018427387906 := by rw [hn]; simp; omega
  have hnc := hlen.2
  have x0 := hB.cell_ _ (i := 0) rfl
  have xf := hB.frozen
  have hI : (1 : Int) < (n : Int) := by omega
  have hI0 : (0 : Int) < (n : Int) := by omega
  have hI2 : (2 : Int) ≤ (n : Int) := by omega
  have h0 : ¬ (n : Int) < 2 := by omega
  have hor := or_two a.toNat b.toNat (UInt8.toNat_lt a) (UInt8.toNat_lt b)
  have HOR := Lib.hid hor
  have HD := Lib.hid hdrop
  have hgb : g' < bb := hbb (by simp) g' o' rfl
  have hgg : g' ≠ g := hB.one_ne c0 (by intro h; cases h)
  have HB := Lib.hid hB
  have ha := UInt8.toNat_lt a
  have hb := UInt8.toNat_lt b
  clear hS hc hn hB hlen hor hdrop
  go_enter Tryd.func41, Tryd.ntmps41
  go_wp2_with fail
  go_quiet (fail)
  rw [HOR.out]
  have HP : Hid (pointN a b = ((a.toNat * 256 + b.toNat : Nat) : Int) - 1000) := Lib.hid rfl
  have hN : a.toNat * 256 + b.toNat < 65536 := by omega
  generalize a.toNat * 256 + b.toNat = N at *
  go_wp2
  all_goals
    go_ret
    refine ⟨ret_int (by rw [HP.out]; omega), ⟨_, _, _, (HB.out.drewN nq).set_ 0 _, ?_, ?_⟩, ?_⟩
    · have h2 := HD.out
      first
      | (have hc2 : c = 2 := by assumption
         subst hc2
         rw [if_pos rfl] at h2)
      | (have hc2 : ¬ c = 2 := by assumption
         rw [if_neg hc2, Option.map_some, plain_add] at h2)
      exact Sl.far (p := ⟨g, 0, none⟩) (h2.drewN nq) _ (fun _ g1 o1 e => by
        simp only [Option.some.injEq, Addr.mk.injEq] at e
        rw [← e.1]; exact hgg)
    · intro _ g1 o1 e
      simp only [Option.some.injEq, Addr.mk.injEq] at e
      rw [← e.1]; exact hgb
    · exact (World.grownBy.trans (only_drewN' (World.grownBy.refl w _) nq) (grownBy_set _ _ _))

set_option maxRecDepth 100000 in
set_option maxHeartbeats 2000000 in
theorem reader_value_no (g : Nat) (l : List UInt8) {bb : Nat} (w : World) (h : Rd bb w g l) (hl : l.length ≤ 4611686018427387904) (he : (readR l).e ≠ 0) :
    Calls Tryd.prog 40 #[.pointer (some ⟨g, 0, none⟩)] w fun e w' => e = .panicked torn ∧ Below w.heap.size w w' := by
  obtain ⟨A, n0, c, hB, hS, hbb⟩ := h
  obtain rfl : n0 = _ := hS.len.1
  have x0 := hB.cell_ _ (i := 0) rfl
  have hlt := hB.lt
  have HV := Lib.hid (fun w h => value_read (.slice A l.length c) l w h hl)
  have HS := Lib.hid hS
  generalize readR l = R at *
  obtain ⟨rk, rn, rs, rc, re⟩ := R
  dsimp only at HV he
  have he' : (re != 0) = true := by simpa using he
  have hb0 : ∀ o, Below w.heap.size w (w.alloc o) := fun o => (Below.refl _ _).alloc (Nat.le_refl _) o
  clear hS hB he
  go_enter Tryd.func40, Tryd.ntmps40
  go_wp2_with fail
  refine (HV.out _ ((HS.out.alloc _).b)).mono ?_
  rintro e w2 ⟨rfl, hb2⟩
  have q2 := keepS' (hb0 _) hb2
  go_wp2_with fail
  refine (codec_give _).mono ?_
  rintro e w' ⟨rfl, rfl⟩
  exact ⟨rfl, rfl, q2.alloc q2.size _⟩

set_option maxRecDepth 100000 in
set_option maxHeartbeats 2000000 in
theorem reader_value (g : Nat) (x : Vl) (L : List UInt8) {bb : Nat} (w : World) (h : Rd bb w g (x.bytes ++ L)) (hl : (x.bytes ++ L).length ≤ 4611686018427387904) (hx : x.b = true) (hok : x.ok) :
    Calls Tryd.prog 40 #[.pointer (some ⟨g, 0, none⟩)] w fun e w' => e = .returned (.agg #[.int .u8 x.k, .int .i64 x.n, .string x.s]) ∧ Rd bb w' g L ∧ w.grownBy w' (some g) := by
  obtain ⟨A, n0, c, hB, hS, hbb⟩ := h
  obtain rfl : n0 = _ := hS.len.1
  have hlen := hS.len
  have hbs := bytes_short hx
  have hdrop := hS.drop (k := x.bytes.length) (by simp)
  rw [List.drop_left, Nat.mul_one] at hdrop
  have hbl : (x.bytes ++ L).length = x.bytes.length + L.length := List.length_append
  have HV := Lib.hid (fun w h => value_read_v x L (.slice A (x.bytes ++ L).length c) w hok hx h hl)
  have HS := Lib.hid hS
  obtain ⟨n, hn⟩ : ∃ n, n = (x.bytes ++ L).length := ⟨_, rfl⟩
  obtain ⟨m, hm⟩ : ∃ m, m = x.bytes.length := ⟨_, rfl⟩
  have hne : 0 < L.length → ∀ g1 o1, (if c = x.bytes.length then A else A.map (·.add x.bytes.length)) = some ⟨g1, o1, none⟩ → g1 ≠ g ∧ g1 < w.heap.size ∧ g1 < bb := by
    intro h0 g1 o1 e
    obtain ⟨b0, hb0⟩ : ∃ b0, L[0]? = some b0 := ⟨L[0]'h0, List.getElem?_eq_getElem _⟩
    have hd2 := hdrop
    rw [e] at hd2
    refine ⟨hB.one_ne (hd2.cell hb0 0 _ rfl) (by intro h; cases h), hd2.lt h0, ?_⟩
    have h00 : 0 < (x.bytes ++ L).length := by omega
    obtain ⟨g0, o0, e0, _, _⟩ := hS.at_ (List.getElem?_eq_getElem h00)
    have hg0 := hbb h00 g0 o0 e0
    rw [e0] at e
    split at e
    · simp only [Option.some.injEq, Addr.mk.injEq] at e
      omega
    · rw [Option.map_some, plain_add] at e
      simp only [Option.some.injEq, Addr.mk.injEq] at e
      omega
  rw [← hn] at hB HV HS hlen hdrop hbl
  rw [← hm] at HV hdrop hbl hbs hne
  have hmn : m ≤ n := by omega
  have hnc := hlen.2
  have x0 := hB.cell_ _ (i := 0) rfl
  have hlt := hB.lt
  have hmI : (0 : Int) ≤ (m : Int) := by omega
  have hmnI : (m : Int) ≤ (n : Int) := by omega
  have hnl : n ≤ 4611686018427387904 := by omega
  have HD := Lib.hid hdrop
  have HB := Lib.hid hB
  have HNE := Lib.hid hne
  clear hS hB hlen hn hm hdrop hne hbl
  have hb0 : ∀ o, Below w.heap.size w (w.alloc o) := fun o => (Below.refl _ _).alloc (Nat.le_refl _) o
  have HB0 := Lib.hid hb0
  clear hb0
  go_enter Tryd.func40, Tryd.ntmps40
  go_wp2_with fail
  refine (HV.out _ (HS.out.alloc _)).mono ?_
  rintro e w2 ⟨rfl, hb2⟩
  have q2 := keepS' (HB0.out _) hb2
  have bg := HB.out.below q2 hlt
  have br := (Blk.new w 43 #[.int .u8 0, .int .i64 0, .string ⟨#[]⟩]).below hb2 (by simp)
  have HD2 := Lib.hid (HD.out.below q2)
  have y0 := bg.cell_ _ (i := 0) rfl
  have yf := bg.frozen
  have r0 := br.cell_ _ (i := 0) rfl
  have r1 := br.cell_ _ (i := 1) rfl
  have r2 := br.cell_ _ (i := 2) rfl
  have rf := br.frozen
  have hrl := br.lt
  have hgl := bg.lt
  have HBG := Lib.hid bg
  have HBR := Lib.hid br
  clear hb2 bg br x0 HV
  by_cases hcm : c = m
  · subst hcm
    obtain rfl : n = c := by omega
    have HF : Hid (∀ V o, V = Value.slice A 0 0 → ∃ W, W = (((((w2.setCell ⟨g, 0, none⟩ V).setCell ⟨w.heap.size, 0, none⟩ (.int .u8 x.k)).setCell ⟨w.heap.size, 1, none⟩ (.int .i64 x.n)).setCell ⟨w.heap.size, 2, none⟩ (.string x.s)).alloc o) ∧ Blk W w.heap.size 43 #[.int .u8 x.k, .int .i64 x.n, .string x.s] ∧ Rd bb W g L ∧ w.grownBy W (some g)) := Lib.hid (by
      rintro V o rfl
      have hd := HD2.out
      rw [if_pos rfl, Nat.sub_self] at hd
      have hL : L = [] := List.eq_nil_of_length_eq_zero hd.len.1.symm
      subst hL
      refine ⟨_, rfl, (((((HBR.out.far (p := ⟨g, 0, none⟩) (by simp; omega) _).set_ 0 _).set_ 1 _).set_ 2 _).alloc o), ⟨_, _, _, (((((HBG.out.set_ 0 _).far (p := ⟨w.heap.size, 0, none⟩) (by simp; omega) _).far (p := ⟨w.heap.size, 1, none⟩) (by simp; omega) _).far (p := ⟨w.heap.size, 2, none⟩) (by simp; omega) _).alloc o), ?_, ?_⟩, ?_⟩
      · exact (Sl.far (Sl.far (Sl.far (Sl.far hd _ (fun h => by simp at h)) _ (fun h => by simp at h)) _ (fun h => by simp at h)) _ (fun h => by simp at h)).alloc o
      · intro h; simp at h
      · exact gr_alloc (gr_set (gr_set (gr_set (gr_set (gr_of q2 _) (.inl rfl) _) (.inr (Nat.le_refl _)) _) (.inr (Nat.le_refl _)) _) (.inr (Nat.le_refl _)) _) o)
    go_wp2
    obtain ⟨W, hW, c3, hRd, hgr⟩ := HF.out _ (.cells #[.int .u8 x.k, .int .i64 x.n, .string x.s] 43) rfl
    rw [← hW]
    have x3 := c3.cell
    refine bodyPost_ret (v := .agg #[.int .u8 x.k, .int .i64 x.n, .string x.s]) (by simp [results, Tryd.results40, go_sem, x3]) rfl ?_
    exact ⟨rfl, hRd, hgr⟩
  · have hcm2 : m < c := by omega
    have hd0 := HD2.out
    rw [if_neg hcm] at hd0
    have hne0 := HNE.out
    rw [if_neg hcm] at hne0
    have HF : Hid (∀ V o, V = Value.slice (A.map (·.add m)) (n - m) (c - m) → ∃ W, W = (((((w2.setCell ⟨g, 0, none⟩ V).setCell ⟨w.heap.size, 0, none⟩ (.int .u8 x.k)).setCell ⟨w.heap.size, 1, none⟩ (.int .i64 x.n)).setCell ⟨w.heap.size, 2, none⟩ (.string x.s)).alloc o) ∧ Blk W w.heap.size 43 #[.int .u8 x.k, .int .i64 x.n, .string x.s] ∧ Rd bb W g L ∧ w.grownBy W (some g)) := Lib.hid (by
      rintro V o rfl
      refine ⟨_, rfl, (((((HBR.out.far (p := ⟨g, 0, none⟩) (by simp; omega) _).set_ 0 _).set_ 1 _).set_ 2 _).alloc o), ⟨_, _, _, (((((HBG.out.set_ 0 _).far (p := ⟨w.heap.size, 0, none⟩) (by simp; omega) _).far (p := ⟨w.heap.size, 1, none⟩) (by simp; omega) _).far (p := ⟨w.heap.size, 2, none⟩) (by simp; omega) _).alloc o), ?_, ?_⟩, ?_⟩
      · have hr : 0 < L.length → ∀ g1 o1, A.map (·.add m) = some ⟨g1, o1, none⟩ → g1 ≠ w.heap.size := fun h g1 o1 e => by have := (hne0 h g1 o1 e).2.1; omega
        exact (Sl.far (p := ⟨w.heap.size, 2, none⟩) (Sl.far (p := ⟨w.heap.size, 1, none⟩) (Sl.far (p := ⟨w.heap.size, 0, none⟩) (Sl.far (p := ⟨g, 0, none⟩) hd0 _ (fun h g1 o1 e => (hne0 h g1 o1 e).1)) _ hr) _ hr) _ hr).alloc o
      · exact fun h g1 o1 e => (hne0 h g1 o1 e).2.2
      · exact gr_alloc (gr_set (gr_set (gr_set (gr_set (gr_of q2 _) (.inl rfl) _) (.inr (Nat.le_refl _)) _) (.inr (Nat.le_refl _)) _) (.inr (Nat.le_refl _)) _) o)
    clear hd0 hne0
    go_wp2
    obtain ⟨W, hW, c3, hRd, hgr⟩ := HF.out _ (.cells #[.int .u8 x.k, .int .i64 x.n, .string x.s] 43) rfl
    rw [← hW]
    have x3 := c3.cell
    refine bodyPost_ret (v := .agg #[.int .u8 x.k, .int .i64 x.n, .string x.s]) (by simp [results, Tryd.results40, go_sem, x3]) rfl ?_
    exact ⟨rfl, hRd, hgr⟩
end Go.Proofs.YtafbphiedaijmaaDoor
