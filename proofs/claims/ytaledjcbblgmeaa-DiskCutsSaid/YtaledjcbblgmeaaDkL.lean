/- What the disk's statements are made of: a deed cut short; a disk and the reference's, side by side. -/
import Derived.Test.YtaledjcbblgmeaaRkF
namespace Go.Proofs.Ytaledjcbblgmeaa
open Go.RowKit

/-- A deed in memory. -/
structure De where
  kind : Int
  i : Int
  vB : Value
  vK : Value
def De.enc (x : De) : List Value := [.int .i64 x.kind, .int .i64 x.i, x.vB, x.vK]
theorem De.enc_length (x : De) : x.enc.length = 4 := rfl
def De.reads (w : World) (x : De) (b : List UInt8) (keep : List Bool) : Prop := SlU w x.vB b ∧ Sl 1 boE w x.vK keep
def De.ok (w : World) (x : De) : Prop := (-9223372036854775808 ≤ x.i ∧ x.i ≤ 9223372036854775807) ∧ ∃ b keep, x.reads w b keep
/-- What a deed makes of a disk. -/
def Dk.deed (d : Dk) (kind i : Int) (b : List UInt8) (keep : List Bool) : Dk :=
  if kind = 0 then d.write i (b.take 66) else if kind = 1 then d.flush else if kind = 2 then d.cut i else if kind = 3 then d.crash (keep.take 40) else d

def FewPost5 (k i : Int) (A A2 : Option Addr) (n c n2 c2 : Nat) (w : World) (e : Ending) (w' : World) : Prop :=
  e = .returned (.agg #[.int .i64 k, .int .i64 i, .slice A (min n 66) c, .slice A2 (min n2 40) c2]) ∧ Below w.heap.size w w'
set_option maxRecDepth 100000 in
set_option maxHeartbeats 2000000 in
theorem few5 (k i : Int) (A A2 : Option Addr) (n c n2 c2 : Nat) (w : World) (h1 : n ≤ c) (h2 : n2 ≤ c2) :
    Calls Try.prog 55 #[.agg #[.int .i64 k, .int .i64 i, .slice A n c, .slice A2 n2 c2]] w (FewPost5 k i A A2 n c n2 c2 w) := by
  have q : ∀ o p, Below w.heap.size w ((w.alloc o).alloc p) := fun o p => ((Below.refl _ _).alloc (Nat.le_refl _) o).alloc (by simp) p
  have HQ := Lib.hid q
  clear q
  by_cases h66 : 66 < n
  · have a1 : (66 : Int) < (n : Int) := by omega
    have a2 : (66 : Int) ≤ (c : Int) := by omega
    have e1 : min n 66 = 66 := by omega
    rw [show FewPost5 k i A A2 n c n2 c2 w = FewPost5 k i A A2 n c n2 c2 w from rfl]
    by_cases h40 : 40 < n2
    · have b1 : (40 : Int) < (n2 : Int) := by omega
      have b2 : (40 : Int) ≤ (c2 : Int) := by omega
      have e2 : min n2 40 = 40 := by omega
      have HE := Lib.hid (And.intro e1 e2)
      clear e1 e2
      go_enter Try.func55, Try.ntmps55
      go_wp2
      refine bodyPost_ret (v := .agg #[.int .i64 k, .int .i64 i, .slice A 66 c, .slice A2 40 c2]) (by simp [results, Try.results55, go_sem]) rfl ?_
      exact ⟨by rw [HE.out.1, HE.out.2], HQ.out _ _⟩
    · have b1 : ¬ (40 : Int) < (n2 : Int) := by omega
      have e2 : min n2 40 = n2 := by omega
      have HE := Lib.hid (And.intro e1 e2)
      clear e1 e2
      go_enter Try.func55, Try.ntmps55
      go_wp2
      refine bodyPost_ret (v := .agg #[.int .i64 k, .int .i64 i, .slice A 66 c, .slice A2 n2 c2]) (by simp [results, Try.results55, go_sem]) rfl ?_
      exact ⟨by rw [HE.out.1, HE.out.2], HQ.out _ _⟩
  · have a1 : ¬ (66 : Int) < (n : Int) := by omega
    have e1 : min n 66 = n := by omega
    by_cases h40 : 40 < n2
    · have b1 : (40 : Int) < (n2 : Int) := by omega
      have b2 : (40 : Int) ≤ (c2 : Int) := by omega
      have e2 : min n2 40 = 40 := by omega
      have HE := Lib.hid (And.intro e1 e2)
      clear e1 e2
      go_enter Try.func55, Try.ntmps55
      go_wp2
      refine bodyPost_ret (v := .agg #[.int .i64 k, .int .i64 i, .slice A n c, .slice A2 40 c2]) (by simp [results, Try.results55, go_sem]) rfl ?_
      exact ⟨by rw [HE.out.1, HE.out.2], HQ.out _ _⟩
    · have b1 : ¬ (40 : Int) < (n2 : Int) := by omega
      have e2 : min n2 40 = n2 := by omega
      have HE := Lib.hid (And.intro e1 e2)
      clear e1 e2
      go_enter Try.func55, Try.ntmps55
      go_wp2
      refine bodyPost_ret (v := .agg #[.int .i64 k, .int .i64 i, .slice A n c, .slice A2 n2 c2]) (by simp [results, Try.results55, go_sem]) rfl ?_
      exact ⟨by rw [HE.out.1, HE.out.2], HQ.out _ _⟩

/-- Both disks have the same data; their blocks are apart. -/
def Pair (w : World) (B gd gr : Nat) (d : Dk) (F : Nat → Prop) : Prop :=
  ∃ F1 F2, DP w B gd d F1 ∧ RP w B gr d F2 ∧ (∀ i, F1 i → ¬ F2 i) ∧ ∀ i, F i ↔ F1 i ∨ F2 i
theorem DP.drew {w : World} {B g : Nat} {d : Dk} {F : Nat → Prop} (h : DP w B g d F) : DP w.drew B g d F := h
theorem RP.drew {w : World} {B g : Nat} {d : Dk} {F : Nat → Prop} (h : RP w B g d F) : RP w.drew B g d F := h
section
variable {w w' : World} {B gd gr : Nat} {d : Dk} {F K : Nat → Prop}
theorem Pair.lt (h : Pair w B gd gr d F) : ∀ i, F i → B ≤ i ∧ i < w.heap.size := by
  obtain ⟨F1, F2, h1, h2, h3, h4⟩ := h
  intro i hi
  rcases (h4 i).1 hi with h | h
  · exact h1.lt i h
  · exact h2.lt i h
theorem Pair.mod (h : Pair w B gd gr d F) (m : Mod K w w') (hd : ∀ i, K i → ¬ F i) : Pair w' B gd gr d F := by
  obtain ⟨F1, F2, h1, h2, h3, h4⟩ := h
  exact ⟨F1, F2, h1.mod m (fun i hi hk => hd i hi ((h4 i).2 (.inl hk))), h2.mod m (fun i hi hk => hd i hi ((h4 i).2 (.inr hk))), h3, h4⟩
theorem Pair.below (h : Pair w B gd gr d F) (hb : Below w.heap.size w w') : Pair w' B gd gr d F := h.mod (Mod.of_below (fun _ => False) hb) (fun _ hk => hk.elim)
/-- First the one turns, then the other. -/
theorem Pair.step {w1 w2 : World} {d' : Dk} {F1 F2 G1 G2 : Nat → Prop} (hr : RP w B gr d F2) (hap : ∀ i, F1 i → ¬ F2 i) (u1 : Upd F1 w G1 w1) (h1 : DP w1 B gd d' G1) (u2 : Upd F2 w1 G2 w2) (h2 : RP w2 B gr d' G2) (h4 : ∀ i, F i ↔ F1 i ∨ F2 i) :
    ∃ G, Pair w2 B gd gr d' G ∧ Upd F w G w2 := by
  have a1 : ∀ i, G1 i → ¬ F2 i := u1.apart (fun i hi => (hr.lt i hi).2) hap
  have a2 : ∀ i, F2 i → ¬ G1 i := fun i hi hg => a1 i hg hi
  have a3 : ∀ i, G2 i → ¬ G1 i := u2.apart (fun i hi => (h1.lt i hi).2) a2
  refine ⟨fun i => G1 i ∨ G2 i, ⟨G1, G2, h1.mod u2.1 a2, h2, fun i hi hg => a3 i hg hi, fun _ => Iff.rfl⟩, ?_, ?_⟩
  · exact (u1.1.wider (fun i hi => (h4 i).2 (.inl hi))).trans u2.1 (fun i hi => .inl ((h4 i).2 (.inr hi)))
  · rintro i (hi | hi)
    · rcases u1.2 i hi with h | h
      · exact .inl ((h4 i).2 (.inl h))
      · exact .inr h
    · rcases u2.2 i hi with h | h
      · exact .inl ((h4 i).2 (.inr h))
      · exact .inr (Nat.le_trans u1.1.size h)
end
end Go.Proofs.Ytaledjcbblgmeaa
