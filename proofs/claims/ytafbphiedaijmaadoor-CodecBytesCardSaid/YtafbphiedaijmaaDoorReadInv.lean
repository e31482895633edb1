/- What value.Read reads is a value's bytes, and what follows. No program in sight. -/
import Derived.Test.YtafbphiedaijmaaDoorVs
namespace Go.Proofs.YtafbphiedaijmaaDoor
open Go.RowKit Go.Lib

theorem be_beN {t : List UInt8} (h : t.length = 8) : beL (beN t) = t := by
  match t, h with
  | [e0, e1, e2, e3, e4, e5, e6, e7], _ =>
    have h0 := e0.toNat_lt
    have h1 := e1.toNat_lt
    have h2 := e2.toNat_lt
    have h3 := e3.toNat_lt
    have h4 := e4.toNat_lt
    have h5 := e5.toNat_lt
    have h6 := e6.toNat_lt
    have h7 := e7.toNat_lt
    simp only [beN, beL, List.foldl_cons, List.foldl_nil]
    have key : ∀ (u : Nat) (x : UInt8), u % 256 = x.toNat → UInt8.ofNat u = x := fun u x h => by
      apply UInt8.toNat_inj.1
      rw [UInt8.toNat_ofNat']
      omega
    congr 1
    · exact key _ _ (by omega)
    congr 1
    · exact key _ _ (by omega)
    congr 1
    · exact key _ _ (by omega)
    congr 1
    · exact key _ _ (by omega)
    congr 1
    · exact key _ _ (by omega)
    congr 1
    · exact key _ _ (by omega)
    congr 1
    · exact key _ _ (by omega)
    congr 1
    · exact key _ _ (by omega)

theorem index_spec : ∀ (l : List UInt8), indexByte l 0 ≠ -1 → ∃ n : Nat, indexByte l 0 = n ∧ n < l.length ∧ l = l.take n ++ 0 :: l.drop (n + 1)
  | [], h => absurd rfl h
  | x :: r, h => by
    rw [indexByte] at h ⊢
    by_cases hx : (x == 0) = true
    · rw [if_pos hx]
      exact ⟨0, rfl, by simp, by simp [eq_of_beq hx]⟩
    · rw [if_neg hx] at h ⊢
      by_cases hr : indexByte r 0 = -1
      · simp [hr] at h
      · obtain ⟨n, h1, h2, h3⟩ := index_spec r hr
        refine ⟨n + 1, ?_, by simp; omega, ?_⟩
        · simp only [h1]
          have : ((n : Int) == -1) = false := beq_eq_false_iff_ne.2 (by omega)
          rw [this]
          simp
        · rw [List.take_succ_cons, List.drop_succ_cons, List.cons_append, ← h3]

theorem read_inv {l : List UInt8} (h : (readR l).e = 0) :
    ∃ (x : Vl) (L : List UInt8), x.b = true ∧ x.ok ∧ l = x.bytes ++ L ∧ readR l = ⟨x.k, x.n, x.s, (x.bytes.length : Int), 0⟩ := by
  cases l with
  | nil => simp [readR, noR] at h
  | cons b r =>
    rw [readR] at h ⊢
    by_cases h1 : b = 1 ∧ 8 ≤ r.length
    · rw [if_pos h1]
      obtain ⟨rfl, h8⟩ := h1
      have ht : (r.take 8).length = 8 := by rw [List.length_take]; omega
      have hlt := beN_lt 8 (r.take 8) (by omega) (by omega)
      have e8 : eightL ((beN (r.take 8) : Int) - 9223372036854775808) = r.take 8 := by
        unfold eightL flipN
        rw [show ((beN (r.take 8) : Int) - 9223372036854775808 + 9223372036854775808).toNat = beN (r.take 8) by omega]
        exact be_beN ht
      have hb1 : (Vl.b ⟨1, (beN (r.take 8) : Int) - 9223372036854775808, ⟨#[]⟩⟩) = true := by
        show valB 1 _ ⟨#[]⟩ = true
        unfold valB
        rw [if_pos rfl, Lib.toList_data]
        rfl
      have hz1 : (ByteArray.mk #[]).size ≤ 9223372036854775807 := by decide
      refine ⟨⟨1, (beN (r.take 8) : Int) - 9223372036854775808, ⟨#[]⟩⟩, r.drop 8, hb1, ⟨⟨by simp; omega, by simp; omega⟩, by simp, by simp, hz1⟩, ?_, ?_⟩
      · show 1 :: r = bytesV 1 _ _ ++ _
        unfold bytesV
        rw [if_pos rfl, e8, List.cons_append, List.take_append_drop]
      · have : (Vl.bytes ⟨1, (beN (r.take 8) : Int) - 9223372036854775808, ⟨#[]⟩⟩).length = 9 := by
          show (bytesV 1 _ _).length = 9
          unfold bytesV
          rw [if_pos rfl, e8, List.length_cons, ht]
        rw [this]
        rfl
    · rw [if_neg h1] at h ⊢
      by_cases h2 : b = 2 ∧ indexByte r 0 ≠ -1 ∧ rightL (r.take (indexByte r 0).toNat) = true
      · rw [if_pos h2]
        obtain ⟨rfl, hi, hr⟩ := h2
        obtain ⟨n, e1, e2, e3⟩ := index_spec r hi
        rw [e1, Int.toNat_natCast] at hr ⊢
        have hs : (ByteArray.mk (r.take n).toArray).data.toList = r.take n := by simp
        have hval : valB 2 0 ⟨(r.take n).toArray⟩ = true := by
          unfold valB
          rw [if_neg (by decide), if_pos rfl, hs, hr]; rfl
        have hsz := valB_cases hval
        have hsz2 : (ByteArray.mk (r.take n).toArray).size ≤ 9223372036854775807 := by
          rcases hsz with ⟨h, _⟩ | ⟨_, _, h⟩
          · exact absurd h (by decide)
          · have := right_short h
            have e : (ByteArray.mk (r.take n).toArray).size = (ByteArray.mk (r.take n).toArray).data.toList.length := by
              show (r.take n).toArray.size = _
              simp
            rw [e]
            omega
        have hbl : (Vl.bytes ⟨2, 0, ⟨(r.take n).toArray⟩⟩).length = n + 2 := by
          show (bytesV 2 0 _).length = _
          unfold bytesV
          rw [if_neg (by decide), hs]
          simp only [List.length_cons, List.length_append, List.length_take, List.length_nil]
          omega
        refine ⟨⟨2, 0, ⟨(r.take n).toArray⟩⟩, r.drop (n + 1), hval, ⟨⟨by simp, by simp⟩, by simp, by simp, hsz2⟩, ?_, ?_⟩
        · show 2 :: r = bytesV 2 0 _ ++ _
          unfold bytesV
          rw [if_neg (by decide), hs]
          show 2 :: r = 2 :: ((r.take n ++ [0]) ++ r.drop (n + 1))
          rw [List.append_assoc]
          exact congrArg _ e3
        · rw [hbl]; rfl
      · rw [if_neg h2] at h
        simp [noR] at h
end Go.Proofs.YtafbphiedaijmaaDoor
