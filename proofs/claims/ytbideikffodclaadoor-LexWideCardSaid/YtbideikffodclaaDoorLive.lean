/- regestalaw02.live: what must be whatever is asked. -/
import Derived.Test.YtbideikffodclaaDoorUnq
import Derived.Test.YtbideikffodclaaDoorName
import Derived.Test.YtbideikffodclaaDoorFold
namespace Go.Proofs.YtbideikffodclaaDoor
open Go.RowKit Go.Lib

theorem keepS' {W w0 w1 : World} (hs : Below W.heap.size W w0) (hb : Below w0.heap.size w0 w1) : Below W.heap.size W w1 := hs.trans (hb.mono hs.size)

theorem q1 : quoteR ⟨#[105, 116, 39, 115]⟩ = (⟨#[39, 105, 116, 39, 39, 115, 39]⟩, 0) := by decide +kernel
theorem q2 : unquoteR ⟨#[39, 97, 39, 39, 98, 39, 99]⟩ = (⟨#[97, 39, 98]⟩, 6, 0) := by decide +kernel
theorem q3 : runesL (ByteArray.mk #[195, 164, 98]).data.toList = 2 := by decide +kernel
theorem q4 : (ByteArray.mk #[195, 164, 98]).extract 0 (frontN (ByteArray.mk #[195, 164, 98]).data.toList 1) = ⟨#[195, 164]⟩ := by decide +kernel
theorem q5 : keyB ⟨#[115, 101, 108, 101, 99, 116]⟩ = true := by decide +kernel
theorem q6 : nameB ⟨#[115, 101, 108, 101, 99, 116]⟩ = false := by decide +kernel
theorem q7 : (foldL (ByteArray.mk #[97, 66]).data.toList).toArray = #[97, 98] := by decide +kernel

end Go.Proofs.YtbideikffodclaaDoor
