/- The walk of DiskPlays. -/
import Derived.Test.YtaledjcbblgmeaaDkV
namespace Go.Proofs.Ytaledjcbblgmeaa
open Go.RowKit

set_option maxRecDepth 100000 in
set_option maxHeartbeats 4000000 in
theorem diskPlays_walk (v : Value) (l : List De) (w : World) (hS : Sl 4 De.enc w v l) (hr : ∀ x ∈ l, x.ok w) (hl : l.length ≤ maxLen) :
    Calls Try.prog 6 #[v] w fun e w' => e = .returned (.bool true) ∧ Below w.heap.size w w' := by
  have HP := Lib.hid (play5 v l w hS hr hl)
  clear hS hr hl
  go_enter Try.func6, Try.ntmps6
  go_wp2_with fail
  refine HP.out.mono ?_
  rintro e w1 ⟨gd, gr, D, F, rfl, hP, hD4, hDw, hB⟩
  have H1 := Lib.hid (And.intro hP (And.intro hDw hB))
  clear hP hD4 hDw hB HP
  go_wp2_with fail
  refine (live5 w1).mono ?_
  rintro e w2 ⟨rfl, b2⟩
  have p2 := H1.out.1.below b2
  have q2 := H1.out.2.2.trans (b2.mono H1.out.2.2.size)
  have H2 := Lib.hid (And.intro p2 q2)
  clear p2 q2 b2
  go_wp2_with fail
  refine (same5 w.heap.size gd gr D F w2 H2.out.1 (by have := H1.out.2.1; omega)).mono ?_
  rintro e w3 ⟨rfl, b3⟩
  have q3 := Lib.hid (H2.out.2.trans (b3.mono H2.out.2.size))
  clear b3
  go_wp2
  go_ret
  exact ⟨rfl, q3.out⟩
end Go.Proofs.Ytaledjcbblgmeaa
