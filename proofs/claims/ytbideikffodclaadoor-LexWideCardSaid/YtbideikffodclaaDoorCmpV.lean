/- value.Compare: cmp.Compare at Kind and int64, cmp.Or at int. -/
import Derived.Test.YtbideikffodclaaDoorWordB
import Derived.Deep.QuietTactic
import Derived.BigQuiet
import Derived.Deep.LoopGhost
import Derived.StillTailTactics
import Derived.Deep.RegionWith
namespace Go.Proofs.YtbideikffodclaaDoor
open Go.RowKit

/-- How two numbers stand to one another. -/
def cmpI (a b : Int) : Int := if a < b then -1 else if b < a then 1 else 0

/-- The first that is not 0. -/
def orI : List Int → Int
  | [] => 0
  | x :: l => if x = 0 then orI l else x

theorem same_ {P : Program} {f : FuncId} {args : Array Value} {w : World} {v : Value} (h : Calls P f args w fun e w' => e = .returned v ∧ w = w') : Calls P f args w fun e w' => e = .returned v ∧ w' = w :=
  h.mono fun _ _ ⟨he, hw⟩ => ⟨he, hw.symm⟩

end Go.Proofs.YtbideikffodclaaDoor
