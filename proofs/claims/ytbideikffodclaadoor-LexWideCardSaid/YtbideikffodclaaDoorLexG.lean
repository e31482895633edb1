/- Rows of tokens. -/
import Derived.Test.YtbideikffodclaaDoorLexP
import Derived.Lib.OthersKept
namespace Go.Proofs.YtbideikffodclaaDoor
open Go.RowKit Go.Lib

theorem infoTok : (Tryd.prog.info? 32).map (fun i => (i.zero, i.size, i.bytes)) = some (some (.agg #[.int .u8 0, .string ⟨#[]⟩, .int .i64 0, .int .i64 0]), 4, 40) := by kernel_rfl
def tokCells (T : Tk) (i : Nat) : List Value := [.int .u8 T.k, .string T.t, .int .i64 T.n, .int .i64 i]
def rowT (l : List (Tk × Nat)) : List Value := l.flatMap fun p => tokCells p.1 p.2
theorem rowT_snoc (l : List (Tk × Nat)) (T : Tk) (i : Nat) : rowT (l ++ [(T, i)]) = rowT l ++ tokCells T i := by simp [rowT]
/-- v is a slice of the call's own with just these tokens. -/
def OwnT (B : Nat) (w : World) (v : Value) (l : List (Tk × Nat)) : Prop := w.ownsRow B 32 4 v l.length (rowT l)
theorem OwnT.nil (B : Nat) (w : World) : OwnT B w (.slice none 0 0) [] := World.ownsRow_nil _ _ _ _
theorem OwnT.below {B : Nat} {w w' : World} {v : Value} {l : List (Tk × Nat)} (h : OwnT B w v l) (hb : Below w.heap.size w w') : OwnT B w' v l := by
  refine World.ownsRow.kept h (row := none) ⟨hb.os, hb.tape, hb.output, hb.size, fun i hi _ => hb.block i hi⟩ ?_
  cases v.ownBlock <;> simp
theorem OwnT.slice {B : Nat} {w : World} {v : Value} {l : List (Tk × Nat)} (h : OwnT B w v l) : ∃ A c, v = .slice A l.length c := by
  rcases h.2 with ⟨rfl, h0⟩ | ⟨g, cap, cur, rfl, _⟩
  · exact ⟨none, 0, by rw [h0]⟩
  · exact ⟨_, _, rfl⟩
theorem OwnT.iterAt {B : Nat} {w : World} {v : Value} {l : List (Tk × Nat)} (h : OwnT B w v l) {k : Nat} {s : ByteArray} {p : Nat} (hk : w.heap[k]? = some (.stringIter s p)) (p' : Nat) : OwnT B (w.iterAt k s p') v l := by
  refine ⟨h.1, ?_⟩
  rcases h.2 with hn | ⟨g, cap, cur, hv, hbg, hg, rest⟩
  · exact .inl hn
  · have hkg : g ≠ k := by
      intro e1
      rw [e1, hk] at hg
      cases hg
    exact .inr ⟨g, cap, cur, hv, hbg, (Lib.iterAt_other w k g s p' hkg).trans hg, rest⟩
theorem OwnT.apart {B : Nat} {w : World} {v : Value} {l : List (Tk × Nat)} (h : OwnT B w v l) {k : Nat} {s : ByteArray} {p : Nat} (hk : w.heap[k]? = some (.stringIter s p)) : some k ≠ v.ownBlock := by
  rcases h.2 with ⟨rfl, _⟩ | ⟨g, cap, cur, rfl, _, hg, _⟩
  · simp [Value.ownBlock]
  · intro e
    have e' : k = g := by simpa [Value.ownBlock] using e
    rw [e', hg] at hk
    cases hk
theorem iter_pos {w : World} {k : Nat} {s : ByteArray} {p : Nat} (hk : w.heap[k]? = some (.stringIter s p)) : w.iterPos k = p := by unfold World.iterPos; rw [hk]
theorem tok_new (w : World) (T : Tk) (i : Nat) (t : TypeId) : ∀ j u, (tokCells T i)[j]? = some u → (w.alloc (.cells #[.int .u8 T.k, .string T.t, .int .i64 T.n, .int .i64 i] t)).cell? ((⟨w.heap.size, 0, none⟩ : Addr).add j) = some u := by
  intro j u h
  rw [addr_off, (Blk.new w _ _).cell, Nat.zero_add]
  show (tokCells T i).toArray[j]? = some u
  simpa using h

theorem tokD_end {s : ByteArray} {f p : Nat} {acc : List (Tk × Nat)} (h : s.size ≤ p) : tokD s f p acc = ⟨acc, 0, 0⟩ := by
  cases f with
  | zero => rfl
  | succ f => rw [tokD, if_pos h]
theorem tokD_sp {s : ByteArray} {f p : Nat} {acc : List (Tk × Nat)} (h : p < s.size) (hs : spB (s[p]'h) = true) : tokD s (f + 1) p acc = tokD s f (p + 1) acc := by
  rw [tokD, if_neg (by omega), if_pos (by rw [getD_at h]; exact hs)]
theorem tokD_bad {s : ByteArray} {f p : Nat} {acc : List (Tk × Nat)} (h : p < s.size) (hs : spB (s[p]'h) = false) (hn : (nextR (s[p]'h) (s.extract p s.size)).2 = 0) : tokD s (f + 1) p acc = ⟨[], p, 8⟩ := by
  rw [tokD, if_neg (by omega), getD_at h, if_neg (by simp [hs]), if_pos hn]
theorem tokD_full {s : ByteArray} {f p : Nat} {acc : List (Tk × Nat)} (h : p < s.size) (hs : spB (s[p]'h) = false) (hn : ¬ (nextR (s[p]'h) (s.extract p s.size)).2 = 0) (hl : 100 ≤ acc.length) : tokD s (f + 1) p acc = ⟨[], p, 4⟩ := by
  rw [tokD, if_neg (by omega), getD_at h, if_neg (by simp [hs]), if_neg hn, if_pos hl]
theorem tokD_tok {s : ByteArray} {f p : Nat} {acc : List (Tk × Nat)} (h : p < s.size) (hs : spB (s[p]'h) = false) (hn : ¬ (nextR (s[p]'h) (s.extract p s.size)).2 = 0) (hl : ¬ 100 ≤ acc.length) :
    tokD s (f + 1) p acc = tokD s f (p + (nextR (s[p]'h) (s.extract p s.size)).2) (acc ++ [((nextR (s[p]'h) (s.extract p s.size)).1, p)]) := by
  rw [tokD, if_neg (by omega), getD_at h, if_neg (by simp [hs]), if_neg hn, if_neg hl]

theorem spB_low {c : UInt8} (h : spB c = true) : c.toNat < 128 := by
  unfold spB at h
  simp only [Bool.or_eq_true, beq_iff_eq] at h
  rcases h with ((rfl | rfl) | rfl) | rfl <;> decide

/-- What the token at a place is like. -/
theorem token_at {s : ByteArray} {p : Nat} (h : p < s.size) (hn : ¬ (nextR (s[p]'h) (s.extract p s.size)).2 = 0) :
    (s[p]'h).toNat < 128 ∧ p + (nextR (s[p]'h) (s.extract p s.size)).2 ≤ s.size ∧ ∃ x, s.data.toList[p + (nextR (s[p]'h) (s.extract p s.size)).2 - 1]? = some x ∧ x.toNat < 128 := by
  have hd : (s.extract p s.size).data.toList = (s[p]'h) :: s.data.toList.drop (p + 1) := by rw [Lib.extract_to_end]; exact drop_cons h
  obtain ⟨h1, h2, x, h3, h4⟩ := nextR_ok hd hn
  have hsz : (s.extract p s.size).size = s.size - p := by simp
  rw [hsz] at h2
  refine ⟨h1, by omega, x, ?_, h4⟩
  rw [Lib.extract_to_end, List.getElem?_drop] at h3
  rw [← h3]
  congr 1
  omega
end Go.Proofs.YtbideikffodclaaDoor
