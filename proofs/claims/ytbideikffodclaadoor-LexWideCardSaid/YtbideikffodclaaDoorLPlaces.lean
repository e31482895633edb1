/- LexPlaces: the plain law. -/
import Derived.Test.YtbideikffodclaaDoorLTokens
namespace Go.Proofs.YtbideikffodclaaDoor
open Go.RowKit Go.Lib

/-- What a token is like at its place. -/
structure TokOk (s : ByteArray) (T : Tk) (i : Nat) : Prop where
  at_ : i < s.size
  kind : T.k = 1 ∨ T.k = 2 ∨ T.k = 3 ∨ T.k = 4
  text : T.k = 2 ∨ T.k = 4 → (s.data.toList.drop i).take T.t.size = T.t.data.toList ∧ T.t.size ≤ s.size - i
  mark : (T.k = 3) ↔ s.data.toList[i]? = some 39
theorem isD_39 : isD 39 = false := by decide
theorem letB_39 : letB 39 = false := by decide
theorem signs_39 : ∀ x ∈ signs, ∀ c, x.data.toList[0]? = some c → c ≠ 39 := by
  intro x hx c hc e
  subst e
  simp only [signs, List.mem_cons, List.not_mem_nil, or_false] at hx
  rcases hx with rfl | rfl | rfl | rfl | rfl | rfl | rfl | rfl | rfl | rfl <;> simp at hc

theorem nextR_tok {s : ByteArray} {p : Nat} (hp : p < s.size) (h : ¬ (nextR (s[p]'hp) (s.extract p s.size)).2 = 0) : TokOk s (nextR (s[p]'hp) (s.extract p s.size)).1 p := by
  have hd : (s.extract p s.size).data.toList = s.data.toList.drop p := Lib.extract_to_end s p
  have hc := drop_cons hp
  have h0 : s.data.toList[p]? = some (s[p]'hp) := by
    have := congrArg (fun l => l[0]?) hc
    simpa [List.getElem?_drop] using this
  have hsz : (s.extract p s.size).size = s.size - p := by simp
  generalize hcc : (s[p]'hp) = c at *
  unfold nextR at h ⊢
  by_cases h1 : letB c = true
  · rw [if_pos h1] at h ⊢
    unfold namedR at h ⊢
    split at h
    · exact absurd rfl h
    · rename_i hn
      rw [if_neg hn]
      refine ⟨hp, .inl rfl, fun e => by rcases e with e | e <;> (simp at e), ?_⟩
      rw [h0]
      constructor
      · intro e; simp at e
      · intro e
        have : c = 39 := by simpa using e
        rw [this, letB_39] at h1
        cases h1
  · rw [if_neg h1] at h ⊢
    by_cases h2 : isD c = true ∨ c = 45
    · rw [if_pos h2] at h ⊢
      unfold numberR at h ⊢
      split at h
      · rename_i he
        rw [if_pos he]
        have hle : numberN (s.extract p s.size) ≤ s.size - p := by
          rw [← hsz]
          unfold numberN
          have := runN_le isD ((s.extract p s.size).extract 1 (s.extract p s.size).size).data.toList
          have e : ((s.extract p s.size).extract 1 (s.extract p s.size).size).data.toList.length = (s.extract p s.size).size - 1 := by simp; omega
          rw [e] at this
          omega
        have hts : ((s.extract p s.size).extract 0 (numberN (s.extract p s.size))).size = numberN (s.extract p s.size) := by
          rw [ByteArray.size_extract, hsz]; omega
        refine ⟨hp, .inr (.inl rfl), fun _ => ⟨?_, by show ((s.extract p s.size).extract 0 (numberN (s.extract p s.size))).size ≤ _; rw [hts]; exact hle⟩, ?_⟩
        · show (s.data.toList.drop p).take ((s.extract p s.size).extract 0 (numberN (s.extract p s.size))).size = ((s.extract p s.size).extract 0 (numberN (s.extract p s.size))).data.toList
          rw [hts, Lib.extract_data, hd]
          simp
        · rw [h0]
          constructor
          · intro e; simp at e
          · intro e
            have : c = 39 := by simpa using e
            subst this
            rcases h2 with h2 | h2
            · rw [isD_39] at h2; cases h2
            · exact absurd h2 (by decide)
      · exact absurd rfl h
    · rw [if_neg h2] at h ⊢
      by_cases h3 : c = 39
      · rw [if_pos h3] at h ⊢
        unfold quotedR at h ⊢
        split at h
        · rename_i he
          rw [if_pos he]
          refine ⟨hp, .inr (.inr (.inl rfl)), fun e => by rcases e with e | e <;> (simp at e), ?_⟩
          rw [h0, h3]
          exact ⟨fun _ => rfl, fun _ => rfl⟩
        · exact absurd rfl h
      · rw [if_neg h3] at h ⊢
        unfold signedR at h ⊢
        have hne : signR (s.extract p s.size) ≠ ⟨#[]⟩ := fun e => by rw [e] at h; exact h rfl
        obtain ⟨m1, m2⟩ := signR_some hne
        obtain ⟨t1, t2⟩ := prefix_at m2
        have hxl : (signR (s.extract p s.size)).data.toList.length = (signR (s.extract p s.size)).size := by simp
        rw [hxl, hd] at t1
        rw [hxl] at t2
        have hl2 : (s.extract p s.size).data.toList.length = s.size - p := by rw [← hsz]; simp
        rw [hl2] at t2
        refine ⟨hp, .inr (.inr (.inr rfl)), fun _ => ⟨t1, t2⟩, ?_⟩
        rw [h0]
        constructor
        · intro e; simp at e
        · intro e
          exact absurd (by simpa using e) h3

/-- Tokens, each at its place, one behind the other. -/
def Row (s : ByteArray) (p : Nat) (l : List (Tk × Nat)) : Prop := (∀ (k : Nat) (T : Tk) (i : Nat), l[k]? = some (T, i) → TokOk s T i ∧ i < p) ∧ ∀ (k : Nat) (T : Tk) (i : Nat) (T' : Tk) (i' : Nat), l[k]? = some (T, i) → l[k + 1]? = some (T', i') → i < i'
theorem Row.nil (s : ByteArray) (p : Nat) : Row s p [] := ⟨fun k T i h => by simp at h, fun k T i T' i' h => by simp at h⟩
theorem Row.more {s : ByteArray} {p q : Nat} {l : List (Tk × Nat)} (h : Row s p l) (hq : p ≤ q) : Row s q l := ⟨fun k T i hk => ⟨(h.1 k T i hk).1, by have := (h.1 k T i hk).2; omega⟩, h.2⟩
theorem Row.snoc {s : ByteArray} {p q : Nat} {l : List (Tk × Nat)} {T : Tk} (h : Row s p l) (ht : TokOk s T p) (hq : p < q) : Row s q (l ++ [(T, p)]) := by
  refine ⟨fun k T' i hk => ?_, fun k T' i T'' i' hk hk' => ?_⟩
  · by_cases hlt : k < l.length
    · rw [List.getElem?_append_left hlt] at hk
      have := h.1 k T' i hk
      exact ⟨this.1, by omega⟩
    · rw [List.getElem?_append_right (by omega)] at hk
      have hk0 : k - l.length = 0 := by
        by_cases hz : k - l.length = 0
        · exact hz
        · rw [List.getElem?_eq_none (by simp; omega)] at hk; cases hk
      rw [hk0] at hk
      simp at hk
      obtain ⟨rfl, rfl⟩ := hk
      exact ⟨ht, hq⟩
  · by_cases hlt : k + 1 < l.length
    · rw [List.getElem?_append_left (by omega)] at hk
      rw [List.getElem?_append_left hlt] at hk'
      exact h.2 k T' i T'' i' hk hk'
    · rw [List.getElem?_append_right (by omega)] at hk'
      have hk0 : k + 1 - l.length = 0 := by
        by_cases hz : k + 1 - l.length = 0
        · exact hz
        · rw [List.getElem?_eq_none (by simp; omega)] at hk'; cases hk'
      rw [hk0] at hk'
      simp at hk'
      obtain ⟨rfl, rfl⟩ := hk'
      rw [List.getElem?_append_left (by omega)] at hk
      exact (h.1 k T' i hk).2
theorem tokD_row {s : ByteArray} : ∀ (f p : Nat) (acc : List (Tk × Nat)), Row s p acc → ((tokD s f p acc).e = 0 ∧ ∃ q, Row s q (tokD s f p acc).l) ∨ ((tokD s f p acc).l = [] ∧ ((tokD s f p acc).e = 8 ∨ (tokD s f p acc).e = 4))
  | 0, p, acc, h => .inl ⟨rfl, p, h⟩
  | f + 1, p, acc, h => by
    by_cases hp : p < s.size
    · cases hsp : spB (s[p]'hp) with
      | true => rw [tokD_sp hp hsp]; exact tokD_row f _ _ (h.more (by omega))
      | false =>
        by_cases hn : (nextR (s[p]'hp) (s.extract p s.size)).2 = 0
        · rw [tokD_bad hp hsp hn]; exact .inr ⟨rfl, .inl rfl⟩
        · by_cases hl : 100 ≤ acc.length
          · rw [tokD_full hp hsp hn hl]; exact .inr ⟨rfl, .inr rfl⟩
          · rw [tokD_tok hp hsp hn hl]
            exact tokD_row f _ _ (h.snoc (nextR_tok hp hn) (by omega))
    · rw [tokD_end (by omega)]
      exact .inl ⟨rfl, p, h⟩
theorem tokR_row (s : ByteArray) : ((tokR s).e = 0 ∧ ∃ q, Row s q (tokR s).l) ∨ ((tokR s).l = [] ∧ ((tokR s).e = 8 ∨ (tokR s).e = 4)) := by
  unfold tokR
  split
  · exact .inr ⟨rfl, .inr rfl⟩
  · exact tokD_row _ _ _ (Row.nil _ _)
theorem TokOk.cut {s : ByteArray} {T : Tk} {i : Nat} (h : TokOk s T i) (hk : T.k = 2 ∨ T.k = 4) : s.extract i (i + T.t.size) = T.t ∧ i + T.t.size ≤ s.size := by
  obtain ⟨h1, h2⟩ := h.text hk
  have := h.at_
  refine ⟨?_, by omega⟩
  apply ByteArray.ext
  apply Array.ext'
  rw [Lib.extract_data, show i + T.t.size - i = T.t.size by omega]
  exact h1

theorem mark_yes {s : ByteArray} {i : Nat} (h : i < s.size) (hm : s.data.toList[i]? = some 39) : (((s[i]'h).toNat : Int) == 39) = true := by
  have hc := drop_cons h
  have h0 : s.data.toList[i]? = some (s[i]'h) := by
    have := congrArg (fun l => l[0]?) hc
    simpa [List.getElem?_drop] using this
  rw [h0] at hm
  rw [Option.some.inj hm]
  rfl
theorem mark_no {s : ByteArray} {i : Nat} (h : i < s.size) (hm : ¬ s.data.toList[i]? = some 39) : (((s[i]'h).toNat : Int) == 39) = false := by
  have hc := drop_cons h
  have h0 : s.data.toList[i]? = some (s[i]'h) := by
    have := congrArg (fun l => l[0]?) hc
    simpa [List.getElem?_drop] using this
  refine beq_eq_false_iff_ne.2 (fun e => hm ?_)
  rw [h0]
  have e2 : (s[i]'h).toNat = 39 := by omega
  exact congrArg some (u8_eq e2)
end Go.Proofs.YtbideikffodclaaDoor
