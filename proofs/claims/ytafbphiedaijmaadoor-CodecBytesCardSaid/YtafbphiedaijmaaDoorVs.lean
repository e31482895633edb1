/- Values as data; rows of bytes in the words of Sl, Own. -/
import Derived.Test.YtafbphiedaijmaaDoorU8
import Derived.Test.YtafbphiedaijmaaDoorVReads
namespace Go.Proofs.YtafbphiedaijmaaDoor
open Go.RowKit Go.Lib

structure Vl where
  k : Int
  n : Int
  s : ByteArray
deriving DecidableEq
def Vl.enc (x : Vl) : List Value := [.int .u8 x.k, .int .i64 x.n, .string x.s]
theorem Vl.enc_length (x : Vl) : x.enc.length = 3 := rfl
theorem Vl.enc_one (x : Vl) : ∀ u ∈ x.enc, u.oneCell' = true := by
  intro u hu
  simp only [Vl.enc, List.mem_cons, List.not_mem_nil, or_false] at hu
  rcases hu with rfl | rfl | rfl <;> rfl
/-- Can it be? -/
def Vl.b (x : Vl) : Bool := valB x.k x.n x.s
def Vl.bytes (x : Vl) : List UInt8 := bytesV x.k x.n x.s
/-- Its number is an int64. -/
def Vl.ok (x : Vl) : Prop := (-9223372036854775808 ≤ x.n ∧ x.n ≤ 9223372036854775807) ∧ 0 ≤ x.k ∧ x.k ≤ 255 ∧ x.s.size ≤ 9223372036854775807

theorem Sl.b {w : World} {v : Value} {l : List UInt8} (h : SlU w v l) : SlB w v l := by
  obtain ⟨A, c, rfl, h2, h3, h4⟩ := h
  cases l with
  | nil =>
    refine .inl ⟨rfl, ?_⟩
    cases A with
    | none => rw [h3 rfl]; exact .inl rfl
    | some a => exact .inr ⟨a, c, rfl⟩
  | cons b t =>
    obtain ⟨g, o, rfl, hg, hc⟩ := h4 (by simp)
    refine .inr ⟨g, o, c, rfl, h2, hg, fun j x hj => ?_⟩
    have := hc j x hj 0 _ rfl
    rwa [Nat.mul_one, Nat.add_zero] at this
theorem SlB.u {w : World} {v : Value} {l : List UInt8} (h : SlB w v l) (_ : l = [] → v = .slice none 0 0 ∨ ∃ a c, v = .slice (some a) 0 c) : SlU w v l := by
  rcases h with ⟨rfl, rfl | ⟨a, c, rfl⟩⟩ | ⟨g, o, c, rfl, h2, h3, h4⟩
  · exact Sl.nil _ _ _
  · exact ⟨_, c, rfl, by simp, (fun h => by cases h), (fun h => by simp at h)⟩
  · refine ⟨_, c, rfl, h2, (fun h => by cases h), fun _ => ⟨g, o, rfl, h3, fun k x hk j u hu => ?_⟩⟩
    cases j with
    | zero =>
      have e : u = .int .u8 x.toNat := by simpa [u8E] using hu.symm
      subst e
      have := h4 k x hk
      rwa [Nat.mul_one, Nat.add_zero]
    | succ j => simp [u8E] at hu
theorem SlB.su {w : World} {v : Value} {l : List UInt8} (h : SlB w v l) : SlU w v l := h.u (fun hl => by
  rcases h with ⟨_, h⟩ | ⟨g, o, c, h1, _⟩
  · exact h
  · exact .inr ⟨_, _, by rw [h1, hl]; rfl⟩)

theorem bytes_short {x : Vl} (h : x.b = true) : x.bytes.length ≤ 34 ∧ 2 ≤ x.bytes.length := by
  unfold Vl.b at h
  unfold Vl.bytes
  rcases valB_cases h with ⟨h1, e⟩ | ⟨h1, h2, e⟩
  · rw [h1]; exact ⟨by simp [bytesV, eightL, beL], by simp [bytesV, eightL, beL]⟩
  · have := right_short e
    rw [h1]
    exact ⟨by simp [bytesV] at this ⊢; omega, by simp [bytesV]⟩
theorem flat_bytes_le : ∀ (l : List Vl), (∀ x ∈ l, x.b = true) → (l.flatMap Vl.bytes).length ≤ 34 * l.length
  | [], _ => by simp
  | a :: t, h => by
    have h1 := (bytes_short (h a (List.mem_cons_self ..))).1
    have h2 := flat_bytes_le t (fun x hx => h x (List.mem_cons_of_mem _ hx))
    rw [List.flatMap_cons, List.length_append, List.length_cons]
    omega

theorem infoVal : (Tryd.prog.info? 43).map (fun i => (i.zero, i.size, i.bytes)) = some (some (.agg #[.int .u8 0, .int .i64 0, .string ⟨#[]⟩]), 3, 32) := by kernel_rfl

/-- value.Bytes of what can be. -/
theorem value_bytes_v (x : Vl) (w : World) (hx : x.ok) (hv : x.b = true) :
    Calls Tryd.prog 20 #[.agg #[.int .u8 x.k, .int .i64 x.n, .string x.s]] w fun e w' => (∃ v, e = .returned (.tuple #[v, .int .i64 0]) ∧ OwnU w.heap.size w' v x.bytes) ∧ Below w.heap.size w w' :=
  (value_bytes x.k x.n x.s w hx.1.1 hx.1.2 hv).mono fun _ _ ⟨⟨v, h1, h2⟩, h3⟩ => ⟨⟨v, h1, h2.u⟩, h3⟩
/-- value.Read of a value's bytes, whatever follows. -/
theorem value_read_v (x : Vl) (L : List UInt8) (v : Value) (w : World) (hx : x.ok) (hv : x.b = true) (h : SlU w v (x.bytes ++ L)) (hl : (x.bytes ++ L).length ≤ 4611686018427387904) :
    Calls Tryd.prog 51 #[v] w fun e w' => e = .returned (.tuple #[.agg #[.int .u8 x.k, .int .i64 x.n, .string x.s], .int .i64 (x.bytes.length : Int), .int .i64 0]) ∧ Below w.heap.size w w' := by
  have e := read_back (k := x.k) (n := x.n) (s := x.s) hv hx.1.1 hx.1.2 L
  have := value_read v (x.bytes ++ L) w h.b hl
  unfold Vl.bytes at this
  rw [e] at this
  exact this
end Go.Proofs.YtafbphiedaijmaaDoor
