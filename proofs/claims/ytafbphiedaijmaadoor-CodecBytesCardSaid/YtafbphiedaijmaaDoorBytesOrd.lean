/- The order of values' bytes is that of values. No program in sight. -/
import Derived.Test.YtafbphiedaijmaaDoorOrder
import Derived.Test.YtafbphiedaijmaaDoorVal
namespace Go.Proofs.YtafbphiedaijmaaDoor
open Go.Lib

def or2 (a b : Int) : Int := if a = 0 then b else a
theorem or2_assoc (a b c : Int) : or2 (or2 a b) c = or2 a (or2 b c) := by
  unfold or2
  by_cases ha : a = 0 <;> simp [ha]
theorem cmp_split (u v : Nat) : cmpI u v = or2 (cmpI (u / 256 : Nat) (v / 256 : Nat)) (cmpI (u % 256 : Nat) (v % 256 : Nat)) := by
  unfold or2 cmpI
  repeat' split
  all_goals omega
theorem cb_cons (a b : UInt8) (r bs : List UInt8) : compareBytes (a :: r) (b :: bs) = or2 (cmpI a.toNat b.toNat) (compareBytes r bs) := cb_step a b r bs
theorem cb_nil : compareBytes [] [] = 0 := rfl
theorem or2_zero (a : Int) : or2 a 0 = a := by unfold or2; split <;> omega
theorem cb_be (u v : Nat) (hu : u < 18446744073709551616) (hv : v < 18446744073709551616) : compareBytes (beL u) (beL v) = cmpI u v := by
  have e : ∀ (x d : Nat), x / d / 256 = x / (d * 256) := fun x d => Nat.div_div_eq_div_mul x d 256
  have s0 := cmp_split u v
  have s1 := cmp_split (u / 256) (v / 256)
  have s2 := cmp_split (u / 65536) (v / 65536)
  have s3 := cmp_split (u / 16777216) (v / 16777216)
  have s4 := cmp_split (u / 4294967296) (v / 4294967296)
  have s5 := cmp_split (u / 1099511627776) (v / 1099511627776)
  have s6 := cmp_split (u / 281474976710656) (v / 281474976710656)
  rw [e, e] at s1 s2 s3 s4 s5 s6
  simp only [Nat.reduceMul] at s1 s2 s3 s4 s5 s6
  have m7 : ∀ x : Nat, x < 18446744073709551616 → x / 72057594037927936 % 256 = x / 72057594037927936 := fun x hx => by omega
  simp only [beL, cb_cons, cb_nil, or2_zero, UInt8.toNat_ofNat', Nat.reducePow]
  rw [m7 u hu, m7 v hv, s0, s1, s2, s3, s4, s5, s6]
  simp only [or2_assoc]

theorem decN_nz (n b0 b1 b2 b3 : Nat) : ((decodeN n b0 b1 b2 b3).2 = 1 ∧ (decodeN n b0 b1 b2 b3).1 = b0) ∨ (128 ≤ b0 ∧ (1 < (decodeN n b0 b1 b2 b3).2 → 128 ≤ b1) ∧ (2 < (decodeN n b0 b1 b2 b3).2 → 128 ≤ b2) ∧ (3 < (decodeN n b0 b1 b2 b3).2 → 128 ≤ b3)) := by
  unfold decodeN
  repeat' split
  all_goals first
    | (left; exact ⟨rfl, rfl⟩)
    | (right; refine ⟨?_, ?_, ?_, ?_⟩ <;> (try simp only) <;> omega)

theorem take_nz (l : List UInt8) (w : Nat) (hw : w ≤ 4) (h0 : 0 < w → (l.getD 0 0).toNat ≠ 0) (h1 : 1 < w → (l.getD 1 0).toNat ≠ 0) (h2 : 2 < w → (l.getD 2 0).toNat ≠ 0) (h3 : 3 < w → (l.getD 3 0).toNat ≠ 0) : ∀ x ∈ l.take w, x ≠ 0 := by
  intro x hx e
  subst e
  obtain ⟨i, hi, he⟩ := List.getElem_of_mem hx
  rw [List.length_take] at hi
  rw [List.getElem_take] at he
  have hg : l.getD i 0 = 0 := by rw [List.getD_eq_getElem?_getD, List.getElem?_eq_getElem (by omega)]; exact he
  rcases (show i = 0 ∨ i = 1 ∨ i = 2 ∨ i = 3 by omega) with rfl | rfl | rfl | rfl
  · exact h0 (by omega) (by rw [hg]; rfl)
  · exact h1 (by omega) (by rw [hg]; rfl)
  · exact h2 (by omega) (by rw [hg]; rfl)
  · exact h3 (by omega) (by rw [hg]; rfl)
theorem rightD_nz : ∀ (f : Nat) (l : List UInt8) (n : Nat), rightD f l n = true → l.length ≤ f → ∀ x ∈ l, x ≠ 0
  | 0, l, n, _, h, x, hx => by
    have : l = [] := List.eq_nil_of_length_eq_zero (by omega)
    subst this
    cases hx
  | f + 1, l, n, h, hl, x, hx => by
    by_cases hne : l = []
    · subst hne; cases hx
    · rw [rightD_step hne] at h
      split at h
      · cases h
      · split at h
        · cases h
        · rename_i h32
          split at h
          · cases h
          · have hw := decodeL_width l
            have ih := rightD_nz f (l.drop (decodeL l).2) (n + 1) h (by rw [List.length_drop]; omega)
            rw [← List.take_append_drop (decodeL l).2 l] at hx
            rcases List.mem_append.1 hx with hx | hx
            · have h4 := width4 l
              have hz := decN_nz l.length (l.getD 0 0).toNat (l.getD 1 0).toNat (l.getD 2 0).toNat (l.getD 3 0).toNat
              rw [← decodeL_N] at hz
              refine take_nz l (decodeL l).2 h4 ?_ ?_ ?_ ?_ x hx
              all_goals
                intro hq
                rcases hz with ⟨z1, z2⟩ | ⟨z1, z2, z3, z4⟩ <;> omega
            · exact ih x hx
theorem right_nz {l : List UInt8} (h : rightL l = true) : ∀ x ∈ l, x ≠ 0 := rightD_nz _ _ _ h (Nat.le_refl _)
theorem cb_end : ∀ a b : List UInt8, (∀ x ∈ a, x ≠ 0) → (∀ x ∈ b, x ≠ 0) → compareBytes (a ++ [0]) (b ++ [0]) = compareBytes a b
  | [], [], _, _ => by decide
  | [], y :: b, _, h => by
    have hy : y.toNat ≠ 0 := fun e => h y (List.mem_cons_self ..) (UInt8.toNat_inj.1 e)
    show compareBytes (0 :: []) (y :: (b ++ [0])) = -1
    have c : cmpI (0 : UInt8).toNat y.toNat = -1 := by unfold cmpI; rw [if_pos (by simp; omega)]
    rw [cb_cons, c]; rfl
  | x :: a, [], h, _ => by
    have hx : x.toNat ≠ 0 := fun e => h x (List.mem_cons_self ..) (UInt8.toNat_inj.1 e)
    show compareBytes (x :: (a ++ [0])) (0 :: []) = 1
    have c : cmpI x.toNat (0 : UInt8).toNat = 1 := by unfold cmpI; rw [if_neg (by simp), if_pos (by simp; omega)]
    rw [cb_cons, c]; rfl
  | x :: a, y :: b, h, h' => by
    show compareBytes (x :: (a ++ [0])) (y :: (b ++ [0])) = _
    rw [cb_cons, cb_cons, cb_end a b (fun u hu => h u (List.mem_cons_of_mem _ hu)) (fun u hu => h' u (List.mem_cons_of_mem _ hu))]

theorem empty_of {s : ByteArray} (h : s.toList.isEmpty = true) : s.data.toList = [] := by
  rw [Lib.toList_data] at h
  simpa using h
theorem valB_cases {k n : Int} {s : ByteArray} (h : valB k n s = true) : (k = 1 ∧ s.data.toList = []) ∨ (k = 2 ∧ n = 0 ∧ rightL s.data.toList = true) := by
  unfold valB at h
  split at h
  · rename_i h1; exact .inl ⟨h1, empty_of h⟩
  · split at h
    · rename_i h2
      simp at h
      exact .inr ⟨h2, h.1, h.2⟩
    · cases h
theorem bytes_order {k1 n1 : Int} {s1 : ByteArray} {k2 n2 : Int} {s2 : ByteArray} (v1 : valB k1 n1 s1 = true) (v2 : valB k2 n2 s2 = true)
    (a1 : -9223372036854775808 ≤ n1) (a2 : n1 ≤ 9223372036854775807) (b1 : -9223372036854775808 ≤ n2) (b2 : n2 ≤ 9223372036854775807) : compareBytes (bytesV k1 n1 s1) (bytesV k2 n2 s2) = cV k1 n1 s1 k2 n2 s2 := by
  have c11 : cmpI 1 1 = 0 := by decide
  have c22 : cmpI 2 2 = 0 := by decide
  have c00 : cmpI 0 0 = 0 := by decide
  rcases valB_cases v1 with ⟨rfl, e1⟩ | ⟨rfl, rfl, e1⟩ <;> rcases valB_cases v2 with ⟨rfl, e2⟩ | ⟨rfl, rfl, e2⟩
  · rw [cV_eq, e1, e2, c11, if_pos rfl]
    simp only [bytesV, if_true]
    rw [cb_cons, show cmpI ((1 : UInt8).toNat : Int) ((1 : UInt8).toNat : Int) = 0 from by decide]
    show compareBytes (eightL n1) (eightL n2) = _
    unfold eightL
    rw [cb_be _ _ (flip_lt n1 a1 a2) (flip_lt n2 b1 b2)]
    have : cmpI (flipN n1) (flipN n2) = cmpI n1 n2 := by unfold cmpI flipN; repeat' split; all_goals omega
    rw [this, cb_nil]
    by_cases hc : cmpI n1 n2 = 0
    · rw [if_pos hc, hc]; rfl
    · rw [if_neg hc]
  · rw [cV_eq]
    rfl
  · rw [cV_eq]
    rfl
  · rw [cV_eq, c22, if_pos rfl, c00, if_pos rfl]
    simp only [bytesV, show ¬ ((2 : Int) = 1) by decide, if_false]
    rw [cb_cons, show cmpI ((2 : UInt8).toNat : Int) ((2 : UInt8).toNat : Int) = 0 from by decide]
    show compareBytes (s1.data.toList ++ [0]) (s2.data.toList ++ [0]) = _
    rw [cb_end _ _ (right_nz e1) (right_nz e2)]
    split <;> omega
theorem cb_eq : ∀ a b : List UInt8, compareBytes a b = 0 → a = b
  | [], [], _ => rfl
  | [], _ :: _, h => by simp [compareBytes] at h
  | _ :: _, [], h => by simp [compareBytes] at h
  | a :: r, b :: bs, h => by
    rw [cb_cons] at h
    unfold or2 at h
    split at h
    · rename_i hc
      have e : a = b := by
        unfold cmpI at hc
        split at hc
        · omega
        · split at hc
          · omega
          · exact UInt8.toNat_inj.1 (by omega)
      rw [e, cb_eq r bs h]
    · contradiction
theorem cmpI_eq {a b : Int} (h : cmpI a b = 0) : a = b := by
  unfold cmpI at h
  split at h
  · omega
  · split at h <;> omega
theorem cV_zero {k1 n1 : Int} {s1 : ByteArray} {k2 n2 : Int} {s2 : ByteArray} (h : cV k1 n1 s1 k2 n2 s2 = 0) : k1 = k2 ∧ n1 = n2 ∧ s1 = s2 := by
  rw [cV_eq] at h
  split at h
  · rename_i h1
    split at h
    · rename_i h2
      refine ⟨cmpI_eq h1, cmpI_eq h2, ?_⟩
      have h3 : compareBytes s1.data.toList s2.data.toList = 0 := by
        split at h
        · assumption
        · contradiction
      have := cb_eq _ _ h3
      exact ByteArray.ext (Array.ext' this)
    · contradiction
  · contradiction
end Go.Proofs.YtafbphiedaijmaaDoor
