/- Slices of bytes, and of bits, as data. -/
import Derived.Test.YtafbphiedaijmaaDoorSl
namespace Go.Proofs.YtafbphiedaijmaaDoor
open Go.RowKit

def u8E (c : UInt8) : List Value := [.int .u8 c.toNat]
theorem u8E_length (c : UInt8) : (u8E c).length = 1 := rfl
theorem u8E_one (c : UInt8) : ∀ u ∈ u8E c, u.oneCell' = true := by
  intro u hu
  simp only [u8E, List.mem_cons, List.not_mem_nil, or_false] at hu
  subst hu; rfl
abbrev OwnU (B : Nat) (w : World) (v : Value) (l : List UInt8) : Prop := Own B 5 1 u8E w v l
abbrev SlU (w : World) (v : Value) (l : List UInt8) : Prop := Sl 1 u8E w v l
def boE (b : Bool) : List Value := [.bool b]
theorem boE_length (b : Bool) : (boE b).length = 1 := rfl
theorem boE_one (b : Bool) : ∀ u ∈ boE b, u.oneCell' = true := by
  intro u hu
  simp only [boE, List.mem_cons, List.not_mem_nil, or_false] at hu
  subst hu; rfl
theorem u8E_flat' (l : List UInt8) : l.flatMap u8E = l.map fun c => .int .u8 c.toNat := by
  induction l with
  | nil => rfl
  | cons a t ih => simp only [List.flatMap_cons, ih]; simp [u8E]
end Go.Proofs.YtafbphiedaijmaaDoor
