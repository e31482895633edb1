/- The walk of CodecOrder. -/
import Derived.Test.YtafbphiedaijmaaDoorCodL
import Derived.Test.YtafbphiedaijmaaDoorCodO
import Derived.Deep.DeepCutAuto
import Derived.Deep.RegionWith
namespace Go.Proofs.YtafbphiedaijmaaDoor
open Go.RowKit Go.Lib
attribute [local go_sem ↓] Go.wp_at_zero Go.wp_at_succ

/-- Two rows, each cut, in the boxes g and h. -/
def TwoRows (g h : Nat) (a b : Rw) (w0 w : World) : Prop := ∃ A n c A' n' c', Blk w g 26 #[.slice A n c, .int .i64 a.f, .int .i64 a.t] ∧ Blk w h 26 #[.slice A' n' c', .int .i64 b.f, .int .i64 b.t] ∧ Sl 3 Vl.enc w (.slice A n c) a.l ∧ Sl 3 Vl.enc w (.slice A' n' c') b.l ∧ Below w0.heap.size w0 w

end Go.Proofs.YtafbphiedaijmaaDoor
