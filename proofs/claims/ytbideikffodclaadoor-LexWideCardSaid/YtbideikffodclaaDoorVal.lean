/- value.Right, value.Bytes. -/
import Derived.Test.YtbideikffodclaaDoorEight
import Derived.Test.YtbideikffodclaaDoorFront
import Derived.Maps.AppendAt
import Derived.Laws.OwnMore
import Derived.Lib.AppendStr
namespace Go.Proofs.YtbideikffodclaaDoor
open Go.RowKit Go.Lib

/-- Can it be a value? -/
def valB (k n : Int) (s : ByteArray) : Bool := if k = 1 then s.toList.isEmpty else if k = 2 then (n == 0 && rightL s.data.toList) else false

theorem keepS' {W w0 w1 : World} (hs : Below W.heap.size W w0) (hb : Below w0.heap.size w0 w1) : Below W.heap.size W w1 := hs.trans (hb.mono hs.size)

/-- A value's bytes. -/
def bytesV (k n : Int) (s : ByteArray) : List UInt8 := if k = 1 then 1 :: eightL n else 2 :: (s.data.toList ++ [0])

theorem addr_add (g j : Nat) : (⟨g, 0, none⟩ : Addr).add j = ⟨g, j, none⟩ := by unfold Addr.add; split <;> simp_all
theorem arr_cells (w : World) (cs : Array Value) (t : TypeId) (o : Obj) (j : Nat) (u : Value) (h : cs.toList[j]? = some u) : ((w.alloc (.cells cs t)).alloc o).cell? ((⟨w.heap.size, 0, none⟩ : Addr).add j) = some u := by
  rw [addr_add, World.cell?_alloc_lt _ _ _ (by simp)]
  have hh := heap_alloc_new w (.cells cs t)
  generalize w.alloc (.cells cs t) = w1 at *
  unfold World.cell?
  simp only [hh]
  simpa using h
theorem lit_own (w : World) (B : Nat) (A : Obj) (x : Value) (hB : B ≤ w.heap.size) : ((w.alloc A).alloc (.cells #[x] 5)).ownsRow B 5 1 (.slice (some ⟨w.heap.size + 1, 0, none⟩) 1 1) 1 [x] := by
  have e : (w.alloc A).heap.size = w.heap.size + 1 := by simp
  rw [← e]
  exact World.ownsRow_lit (w.alloc A) #[x] 1 (by rw [e]; omega) (by unfold maxLen; omega) rfl
theorem lit_own0 (w : World) (B : Nat) (x : Value) (hB : B ≤ w.heap.size) : (w.alloc (.cells #[x] 5)).ownsRow B 5 1 (.slice (some ⟨w.heap.size, 0, none⟩) 1 1) 1 [x] :=
  World.ownsRow_lit w #[x] 1 hB (by unfold maxLen; omega) rfl
theorem eight_cells (n : Int) : ∃ e0 e1 e2 e3 e4 e5 e6 e7 : UInt8, eightL n = [e0, e1, e2, e3, e4, e5, e6, e7] := ⟨_, _, _, _, _, _, _, _, rfl⟩

end Go.Proofs.YtbideikffodclaaDoor
