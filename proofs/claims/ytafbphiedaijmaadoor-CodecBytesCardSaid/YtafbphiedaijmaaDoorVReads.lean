/- The walk of ValueReads: Read takes Bytes back, whatever follows. -/
import Derived.Test.YtafbphiedaijmaaDoorRead
import Derived.Test.YtafbphiedaijmaaDoorVOrder
import Derived.Laws.AppendOwnNone
namespace Go.Proofs.YtafbphiedaijmaaDoor
open Go.RowKit Go.Lib

theorem beN_be (u : Nat) (h : u < 18446744073709551616) : beN (beL u) = u := by
  simp only [beN, beL, List.foldl_cons, List.foldl_nil, UInt8.toNat_ofNat', Nat.reducePow]
  omega
theorem index_end : ∀ (l L : List UInt8), (∀ x ∈ l, x ≠ 0) → indexByte (l ++ 0 :: L) 0 = l.length
  | [], L, _ => rfl
  | x :: l, L, h => by
    have ih := index_end l L (fun u hu => h u (List.mem_cons_of_mem _ hu))
    have hx : (x == 0) = false := beq_eq_false_iff_ne.2 (h x (List.mem_cons_self ..))
    have hn : (((l.length : Int)) == -1) = false := beq_eq_false_iff_ne.2 (by omega)
    rw [List.cons_append, indexByte, hx, ih, hn]
    simp
theorem read_back {k n : Int} {s : ByteArray} (hv : valB k n s = true) (h1 : -9223372036854775808 ≤ n) (h2 : n ≤ 9223372036854775807) (L : List UInt8) :
    readR (bytesV k n s ++ L) = ⟨k, n, s, ((bytesV k n s).length : Int), 0⟩ := by
  rcases valB_cases hv with ⟨rfl, e⟩ | ⟨rfl, rfl, e⟩
  · have hs : s = ⟨#[]⟩ := ByteArray.ext (Array.ext' (by rw [e]))
    subst hs
    simp only [bytesV, if_true]
    rw [List.cons_append, readR, if_pos ⟨rfl, by simp [eightL, beL]⟩]
    have ht : (eightL n ++ L).take 8 = eightL n := List.take_left' (by simp [eightL, beL])
    have hl : (1 :: eightL n).length = 9 := by simp [eightL, beL]
    rw [ht, hl]
    have hb : beN (eightL n) = flipN n := beN_be _ (flip_lt n h1 h2)
    rw [hb]
    have : (flipN n : Int) - 9223372036854775808 = n := by unfold flipN; omega
    rw [this]
    rfl
  · simp only [bytesV, show ¬ ((2 : Int) = 1) by decide, if_false]
    have hi := index_end s.data.toList L (right_nz e)
    have hl : (2 :: (s.data.toList ++ [0])).length = s.data.toList.length + 2 := by simp
    rw [hl]
    rw [show (2 :: (s.data.toList ++ [0])) ++ L = 2 :: (s.data.toList ++ 0 :: L) by simp, readR, if_neg (fun h => by have := h.1; revert this; decide), hi]
    have ht : (s.data.toList ++ 0 :: L).take ((s.data.toList.length : Int)).toNat = s.data.toList := List.take_left' (by simp)
    rw [ht, if_pos ⟨rfl, by omega, e⟩]
    congr 1

theorem OwnB.sl {B : Nat} {w : World} {v : Value} {l : List UInt8} (h : OwnB B w v l) (hne : l ≠ []) : SlB w v l := by
  obtain ⟨g, c, rfl, _, hg, hc, hcell⟩ := h.open hne
  exact .inr ⟨g, 0, c, rfl, hc, hg, fun j x hj => by rw [Nat.zero_add]; exact hcell j x hj⟩

theorem news_cells {w : World} {g o : Nat} {l : List UInt8} (h : ∀ j x, l[j]? = some x → w.cell? ⟨g, o + j, none⟩ = some (.int .u8 x.toNat)) : ∀ j u, (Lib.byteCells l)[j]? = some u → w.cell? ((⟨g, o, none⟩ : Addr).add j) = some u := by
  intro j u hu
  have e : (⟨g, o, none⟩ : Addr).add j = ⟨g, o + j, none⟩ := by unfold Addr.add; split <;> simp_all
  rw [e]
  simp only [Lib.byteCells, List.getElem?_map, Option.map_eq_some_iff] at hu
  obtain ⟨x, hx, rfl⟩ := hu
  exact h j x hx
theorem byteCells_one (l : List UInt8) : ∀ u ∈ Lib.byteCells l, u.oneCell' = true := by
  intro u hu
  simp only [Lib.byteCells, List.mem_map] at hu
  obtain ⟨x, _, rfl⟩ := hu
  rfl
theorem byteCells_length (l : List UInt8) : (Lib.byteCells l).length = l.length * 1 := by simp [Lib.byteCells]
theorem byteCells_append (a b : List UInt8) : Lib.byteCells (a ++ b) = Lib.byteCells a ++ Lib.byteCells b := by simp [Lib.byteCells]
theorem empty_own (w : World) (B : Nat) (hB : B ≤ w.heap.size) : (w.alloc (.cells #[] 5)).ownsRow B 5 1 (.slice (some ⟨w.heap.size, 0, none⟩) 0 0) 0 [] :=
  World.ownsRow_lit w #[] 0 hB (by unfold maxLen; omega) rfl

end Go.Proofs.YtafbphiedaijmaaDoor
