/- Tokens end in a byte below 128; runes do not lie across such an end. -/
import Derived.Test.YtbideikffodclaaDoorLexF
namespace Go.Proofs.YtbideikffodclaaDoor
open Go.RowKit Go.Lib

theorem get_of_take {l : List UInt8} {m : List UInt8} {n j : Nat} {x : UInt8} (h : l.take n = m) (hj : m[j]? = some x) : l[j]? = some x := by
  rw [← h, List.getElem?_take] at hj
  split at hj
  · exact hj
  · cases hj
theorem takeWhile_at {p : UInt8 → Bool} (l : List UInt8) (j : Nat) (h : j < runN p l) : ∃ x, l[j]? = some x ∧ p x = true := by
  unfold runN at h
  have h1 : (l.takeWhile p)[j]? = some ((l.takeWhile p)[j]) := List.getElem?_eq_getElem h
  refine ⟨_, ?_, List.all_eq_true.1 (List.all_takeWhile (l := l) (p := p)) _ (List.getElem_mem h)⟩
  have hpre := List.takeWhile_prefix p (l := l)
  obtain ⟨t, ht⟩ := hpre
  have hh := List.getElem?_append_left (l₂ := t) h
  rw [ht] at hh
  exact hh.trans h1
theorem runN_le (p : UInt8 → Bool) (l : List UInt8) : runN p l ≤ l.length := by
  unfold runN
  exact (List.takeWhile_sublist (p := p) (l := l)).length_le
theorem wordB_low {c : UInt8} (h : wordB c = true) : c.toNat < 128 := by
  rw [← wrdI_B] at h
  have := (low_split _).2.2 h
  omega
theorem isD_low {c : UInt8} (h : isD c = true) : c.toNat < 128 := by
  rw [← digI_B] at h
  have := (low_split _).2.1 h
  omega
theorem letB_word {c : UInt8} (h : letB c = true) : wordB c = true := by unfold wordB; rw [h]; rfl

theorem signR_some {s : ByteArray} (h : signR s ≠ ⟨#[]⟩) : signR s ∈ signs ∧ hasPrefix s.data.toList (signR s).data.toList = true := by
  unfold signR at h ⊢
  cases hf : signs.find? fun x : ByteArray => hasPrefix s.data.toList x.data.toList with
  | none => rw [hf] at h; exact absurd rfl h
  | some x => exact ⟨List.mem_of_find?_eq_some hf, by simpa using List.find?_some hf⟩
theorem signs_low : ∀ x ∈ signs, 0 < x.size ∧ ∀ c ∈ x.data.toList, c.toNat < 128 := by decide +kernel
theorem prefix_at {l p : List UInt8} (h : hasPrefix l p = true) : l.take p.length = p ∧ p.length ≤ l.length := by
  unfold hasPrefix at h
  obtain ⟨t, rfl⟩ := List.isPrefixOf_iff_prefix.1 h
  simp

/-- What a token is like: it begins and ends in a byte below 128, and lies in the text. -/
theorem nextR_ok {c : UInt8} {s : ByteArray} {r : List UInt8} (hs : s.data.toList = c :: r) (h : (nextR c s).2 ≠ 0) :
    c.toNat < 128 ∧ (nextR c s).2 ≤ s.size ∧ ∃ x, s.data.toList[(nextR c s).2 - 1]? = some x ∧ x.toNat < 128 := by
  have hl : s.data.toList.length = s.size := by simp
  unfold nextR at h ⊢
  by_cases h1 : letB c = true
  · rw [if_pos h1] at h ⊢
    unfold namedR at h ⊢
    by_cases h12 : 12 < runN wordB s.data.toList
    · rw [if_pos h12] at h; exact absurd rfl h
    · rw [if_neg h12] at h ⊢
      have h' : runN wordB s.data.toList ≠ 0 := h
      have hle := runN_le wordB s.data.toList
      obtain ⟨x, hx, hw⟩ := takeWhile_at (p := wordB) s.data.toList (runN wordB s.data.toList - 1) (by omega)
      exact ⟨wordB_low (letB_word h1), by rw [hl] at hle; exact hle, x, hx, wordB_low hw⟩
  · rw [if_neg h1] at h ⊢
    by_cases h2 : isD c = true ∨ c = 45
    · rw [if_pos h2] at h ⊢
      have hc : c.toNat < 128 := by
        rcases h2 with h2 | rfl
        · exact isD_low h2
        · decide
      unfold numberR at h ⊢
      split at h
      · rename_i he
        rw [if_pos he]
        have ht : (s.extract 1 s.size).data.toList = r := by rw [Lib.extract_to_end, hs]; rfl
        have hle := runN_le isD r
        have hrl : r.length + 1 = s.size := by rw [← hl, hs]; rfl
        refine ⟨hc, ?_, ?_⟩
        · show numberN s ≤ _
          unfold numberN; rw [ht]; omega
        · show ∃ x, s.data.toList[numberN s - 1]? = some x ∧ _
          unfold numberN
          rw [ht, hs]
          by_cases h0 : runN isD r = 0
          · rw [h0]; exact ⟨c, rfl, hc⟩
          · obtain ⟨x, hx, hw⟩ := takeWhile_at (p := isD) r (runN isD r - 1) (by omega)
            refine ⟨x, ?_, isD_low hw⟩
            rw [show 1 + runN isD r - 1 = (runN isD r - 1) + 1 by omega, List.getElem?_cons_succ]
            exact hx
      · exact absurd rfl h
    · rw [if_neg h2] at h ⊢
      by_cases h3 : c = 39
      · rw [if_pos h3] at h ⊢
        subst h3
        unfold quotedR at h ⊢
        split at h
        · rename_i he
          rw [if_pos he]
          have hrl : r.length + 1 = s.size := by rw [← hl, hs]; rfl
          cases hu : unq r with
          | none => rw [unquoteR_open hs hu] at he; simp at he
          | some p =>
            obtain ⟨t, n⟩ := p
            have hv := unquoteR_some hs hu
            obtain ⟨e1, e2⟩ := unq_inv r.length r (Nat.le_refl _) t n hu
            by_cases hr : rightL t = true
            · rw [if_pos hr] at hv
              rw [hv]
              refine ⟨by decide, ?_, 39, ?_, by decide⟩
              · show ((n : Int) + 2).toNat ≤ s.size; omega
              · show s.data.toList[((n : Int) + 2).toNat - 1]? = _
                rw [show ((n : Int) + 2).toNat - 1 = n + 1 by omega, hs, List.getElem?_cons_succ]
                refine get_of_take e1 ?_
                have hdl : (dbl t).length = n := by
                  have := congrArg List.length e1
                  rw [List.length_take] at this
                  simp at this
                  omega
                rw [List.getElem?_append_right (by omega), hdl]
                simp
            · rw [if_neg hr] at hv
              rw [hv] at he
              simp at he
        · exact absurd rfl h
      · rw [if_neg h3] at h ⊢
        unfold signedR at h ⊢
        have hne : signR s ≠ ⟨#[]⟩ := fun e => by rw [e] at h; exact h rfl
        obtain ⟨m1, m2⟩ := signR_some hne
        obtain ⟨q1, q2⟩ := signs_low _ m1
        obtain ⟨t1, t2⟩ := prefix_at m2
        have hxl : (signR s).data.toList.length = (signR s).size := by simp
        rw [hxl] at t1 t2
        have hlast : (signR s).data.toList[(signR s).size - 1]? = some ((signR s).data.toList[(signR s).size - 1]'(by omega)) := List.getElem?_eq_getElem _
        have hfirst : (signR s).data.toList[0]? = some ((signR s).data.toList[0]'(by omega)) := List.getElem?_eq_getElem _
        have hc : c = (signR s).data.toList[0]'(by omega) := by
          have := get_of_take t1 hfirst
          rw [hs] at this
          simpa using this
        refine ⟨by rw [hc]; exact q2 _ (List.getElem_mem _), by rw [hl] at t2; exact t2, _, get_of_take t1 hlast, q2 _ (List.getElem_mem _)⟩

theorem decN_wide (n b0 b1 b2 b3 : Nat) : (1 < (decodeN n b0 b1 b2 b3).2 → 128 ≤ b0 ∧ 128 ≤ b1) ∧ (2 < (decodeN n b0 b1 b2 b3).2 → 128 ≤ b2) ∧ (3 < (decodeN n b0 b1 b2 b3).2 → 128 ≤ b3) := by
  unfold decodeN
  repeat' split
  all_goals simp
  all_goals omega
/-- A rune does not lie across a place behind a byte below 128. -/
theorem no_cross {s : ByteArray} {p b : Nat} (hp : p < b) (hb : b ≤ s.size) {x : UInt8} (hx : s.data.toList[b - 1]? = some x) (hlow : x.toNat < 128) : p + (Utf8.decode s p).2 ≤ b := by
  have h4 : (Utf8.decode s p).2 ≤ 4 := by
    rw [← decodeL_drop]
    exact width4 _
  have hw := decN_wide (s.data.toList.length - p) (s.data.toList.getD p 0).toNat (s.data.toList.getD (p + 1) 0).toNat (s.data.toList.getD (p + 2) 0).toNat (s.data.toList.getD (p + 3) 0).toNat
  rw [← Lib.decode_N] at hw
  have hg : s.data.toList.getD (b - 1) 0 = x := by rw [List.getD_eq_getElem?_getD, hx]; rfl
  have hne : ∀ j, b - 1 = p + j → (s.data.toList.getD (p + j) 0).toNat < 128 := fun j hj => by rw [← hj, hg]; exact hlow
  by_cases h : p + (Utf8.decode s p).2 ≤ b
  · exact h
  · exfalso
    obtain ⟨w1, w2, w3⟩ := hw
    have hb4 : b - 1 = p + 0 ∨ b - 1 = p + 1 ∨ b - 1 = p + 2 := by omega
    rcases hb4 with e | e | e
    · have := hne 0 e
      have := (w1 (by omega)).1
      simp at *
      omega
    · have := hne 1 e
      have := (w1 (by omega)).2
      omega
    · have := hne 2 e
      have := w2 (by omega)
      omega
end Go.Proofs.YtbideikffodclaaDoor
