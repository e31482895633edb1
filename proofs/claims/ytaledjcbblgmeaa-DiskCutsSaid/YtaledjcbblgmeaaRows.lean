/-
  No cell of these rows narrows 'for every input' (looked for: loops, veiled, ifaces, maps, wideKeys, modest, calm, conditions, laid).
  DERIVED. THE GIVEN ROWS OF THIS SEAT. 12 by the template 'for every input the law returns true; each argument reads behind the call as it read before'; 0 by the template 'total and deterministic' (their statements: YtaledjcbblgmeaaTotals.lean).
  GIVEN WITH THE SEED: the statements are not yours to turn. If you find one false, say at which input.
  Laid BY PROGRAM, IN A SANDBOX (cutbox-rows.mjs): the forced cells as the released guide's own fill.sh prints them over the translation bd56c3c297da8140… (all of the seat's roots in one cut). By AI agents, Wed Nov 11 2026. No macro, syntax, notation, axiom, sorry.
-/
import Derived.Test.YtaledjcbblgmeaaChecked
import GoSem.Claim
import GoSem.ClaimJoined
import GoSem.ClaimMapViews
import Derived.JoinedTies
import Derived.KernelRfl
namespace Go.Proofs.Ytaledjcbblgmeaa
/- THE CELL 'sum', in the pinned program and in every row, IS THE sha256 OF THE DUMP (.gsa) THAT YtaledjcbblgmeaaProg.lean LOADS. Nothing in Lean hashes anything: it is a label: what it is worth is what the hold of that sum in a sandbox is worth. -/
noncomputable def Try.pinned : Pinned := { name := "ytaledjcbblgmeaa", sum := "bd56c3c297da8140d3ca15fe3872e5ca3ba726b3ad5587cdf0924e107887a0a9", checked := Try.checked }
namespace Rows
def none {H : Type} : Left H := { results := [], args := [] }

/-- 'regestalaw05.DiskSome': WHATEVER THE INPUT: true; the input reads as it did. -/
def diskSomeSpec : ChangeSpec := { name := "diskSome", fn := fun _ => fun
  | [d1, d2, d3] => { results := [.lit (.bool true)], args := [d1, d2, d3] }
  | _ => none }
def diskSomeRow : OpenClaim := { program := "ytaledjcbblgmeaa", sum := "bd56c3c297da8140d3ca15fe3872e5ca3ba726b3ad5587cdf0924e107887a0a9", func := "regesta/regestalaw05.DiskSome", spec := "diskSome", apart := false }
def DiskSomeSaid : Prop := diskSomeRow.holds Try.pinned (OpenSpec.ofChange diskSomeSpec)

/-- ITS FALSE NEIGHBOUR: 'it returns false'. Refute it at one input. -/
def diskSomeWrong : ChangeSpec := { name := "diskSome", fn := fun _ => fun
  | [d1, d2, d3] => { results := [.lit (.bool false)], args := [d1, d2, d3] }
  | _ => none }
def DiskSomeWrongFalsely : Prop := diskSomeRow.holds Try.pinned (OpenSpec.ofChange diskSomeWrong)

/-- 'regestalaw05.DiskCuts': WHATEVER THE INPUT: true; the input reads as it did. -/
def diskCutsSpec : ChangeSpec := { name := "diskCuts", fn := fun _ => fun
  | [d1, d2] => { results := [.lit (.bool true)], args := [d1, d2] }
  | _ => none }
def diskCutsRow : OpenClaim := { program := "ytaledjcbblgmeaa", sum := "bd56c3c297da8140d3ca15fe3872e5ca3ba726b3ad5587cdf0924e107887a0a9", func := "regesta/regestalaw05.DiskCuts", spec := "diskCuts", apart := false }
def DiskCutsSaid : Prop := diskCutsRow.holds Try.pinned (OpenSpec.ofChange diskCutsSpec)

/-- ITS FALSE NEIGHBOUR: 'it returns false'. Refute it at one input. -/
def diskCutsWrong : ChangeSpec := { name := "diskCuts", fn := fun _ => fun
  | [d1, d2] => { results := [.lit (.bool false)], args := [d1, d2] }
  | _ => none }
def DiskCutsWrongFalsely : Prop := diskCutsRow.holds Try.pinned (OpenSpec.ofChange diskCutsWrong)

/-- 'regestalaw05.DiskStays': WHATEVER THE INPUT: true; the input reads as it did. -/
def diskStaysSpec : ChangeSpec := { name := "diskStays", fn := fun _ => fun
  | [d1, d2] => { results := [.lit (.bool true)], args := [d1, d2] }
  | _ => none }
def diskStaysRow : OpenClaim := { program := "ytaledjcbblgmeaa", sum := "bd56c3c297da8140d3ca15fe3872e5ca3ba726b3ad5587cdf0924e107887a0a9", func := "regesta/regestalaw05.DiskStays", spec := "diskStays", apart := false }
def DiskStaysSaid : Prop := diskStaysRow.holds Try.pinned (OpenSpec.ofChange diskStaysSpec)

/-- ITS FALSE NEIGHBOUR: 'it returns false'. Refute it at one input. -/
def diskStaysWrong : ChangeSpec := { name := "diskStays", fn := fun _ => fun
  | [d1, d2] => { results := [.lit (.bool false)], args := [d1, d2] }
  | _ => none }
def DiskStaysWrongFalsely : Prop := diskStaysRow.holds Try.pinned (OpenSpec.ofChange diskStaysWrong)

/-- 'regestalaw05.DiskPlays': WHATEVER THE INPUT: true; the input reads as it did. -/
def diskPlaysSpec : ChangeSpec := { name := "diskPlays", fn := fun _ => fun
  | [d] => { results := [.lit (.bool true)], args := [d] }
  | _ => none }
def diskPlaysRow : OpenClaim := { program := "ytaledjcbblgmeaa", sum := "bd56c3c297da8140d3ca15fe3872e5ca3ba726b3ad5587cdf0924e107887a0a9", func := "regesta/regestalaw05.DiskPlays", spec := "diskPlays", apart := false }
def DiskPlaysSaid : Prop := diskPlaysRow.holds Try.pinned (OpenSpec.ofChange diskPlaysSpec)

/-- ITS FALSE NEIGHBOUR: 'it returns false'. Refute it at one input. -/
def diskPlaysWrong : ChangeSpec := { name := "diskPlays", fn := fun _ => fun
  | [d] => { results := [.lit (.bool false)], args := [d] }
  | _ => none }
def DiskPlaysWrongFalsely : Prop := diskPlaysRow.holds Try.pinned (OpenSpec.ofChange diskPlaysWrong)

/-- 'regestalaw05.DiskForks': WHATEVER THE INPUT: true; the input reads as it did. -/
def diskForksSpec : ChangeSpec := { name := "diskForks", fn := fun _ => fun
  | [d1, d2] => { results := [.lit (.bool true)], args := [d1, d2] }
  | _ => none }
def diskForksRow : OpenClaim := { program := "ytaledjcbblgmeaa", sum := "bd56c3c297da8140d3ca15fe3872e5ca3ba726b3ad5587cdf0924e107887a0a9", func := "regesta/regestalaw05.DiskForks", spec := "diskForks", apart := false }
def DiskForksSaid : Prop := diskForksRow.holds Try.pinned (OpenSpec.ofChange diskForksSpec)

/-- ITS FALSE NEIGHBOUR: 'it returns false'. Refute it at one input. -/
def diskForksWrong : ChangeSpec := { name := "diskForks", fn := fun _ => fun
  | [d1, d2] => { results := [.lit (.bool false)], args := [d1, d2] }
  | _ => none }
def DiskForksWrongFalsely : Prop := diskForksRow.holds Try.pinned (OpenSpec.ofChange diskForksWrong)

/-- 'regestalaw06.WalNone': WHATEVER THE INPUT: true; the input reads as it did. -/
def walNoneSpec : ChangeSpec := { name := "walNone", fn := fun _ => fun
  | [d1, d2] => { results := [.lit (.bool true)], args := [d1, d2] }
  | _ => none }
def walNoneRow : OpenClaim := { program := "ytaledjcbblgmeaa", sum := "bd56c3c297da8140d3ca15fe3872e5ca3ba726b3ad5587cdf0924e107887a0a9", func := "regesta/regestalaw06.WalNone", spec := "walNone", unfollowed := true, recurses := true, apart := false }
def WalNoneSaid : Prop := walNoneRow.holds Try.pinned (OpenSpec.ofChange walNoneSpec)

/-- ITS FALSE NEIGHBOUR: 'it returns false'. Refute it at one input. -/
def walNoneWrong : ChangeSpec := { name := "walNone", fn := fun _ => fun
  | [d1, d2] => { results := [.lit (.bool false)], args := [d1, d2] }
  | _ => none }
def WalNoneWrongFalsely : Prop := walNoneRow.holds Try.pinned (OpenSpec.ofChange walNoneWrong)

/-- 'regestalaw06.WalSure': WHATEVER THE INPUT: true; the input reads as it did. -/
def walSureSpec : ChangeSpec := { name := "walSure", fn := fun _ => fun
  | [d] => { results := [.lit (.bool true)], args := [d] }
  | _ => none }
def walSureRow : OpenClaim := { program := "ytaledjcbblgmeaa", sum := "bd56c3c297da8140d3ca15fe3872e5ca3ba726b3ad5587cdf0924e107887a0a9", func := "regesta/regestalaw06.WalSure", spec := "walSure", unfollowed := true, recurses := true, apart := false }
def WalSureSaid : Prop := walSureRow.holds Try.pinned (OpenSpec.ofChange walSureSpec)

/-- ITS FALSE NEIGHBOUR: 'it returns false'. Refute it at one input. -/
def walSureWrong : ChangeSpec := { name := "walSure", fn := fun _ => fun
  | [d] => { results := [.lit (.bool false)], args := [d] }
  | _ => none }
def WalSureWrongFalsely : Prop := walSureRow.holds Try.pinned (OpenSpec.ofChange walSureWrong)

/-- 'regestalaw06.WalCut': WHATEVER THE INPUT: true; the input reads as it did. -/
def walCutSpec : ChangeSpec := { name := "walCut", fn := fun _ => fun
  | [d1, d2] => { results := [.lit (.bool true)], args := [d1, d2] }
  | _ => none }
def walCutRow : OpenClaim := { program := "ytaledjcbblgmeaa", sum := "bd56c3c297da8140d3ca15fe3872e5ca3ba726b3ad5587cdf0924e107887a0a9", func := "regesta/regestalaw06.WalCut", spec := "walCut", unfollowed := true, recurses := true, apart := false }
def WalCutSaid : Prop := walCutRow.holds Try.pinned (OpenSpec.ofChange walCutSpec)

/-- ITS FALSE NEIGHBOUR: 'it returns false'. Refute it at one input. -/
def walCutWrong : ChangeSpec := { name := "walCut", fn := fun _ => fun
  | [d1, d2] => { results := [.lit (.bool false)], args := [d1, d2] }
  | _ => none }
def WalCutWrongFalsely : Prop := walCutRow.holds Try.pinned (OpenSpec.ofChange walCutWrong)

/-- 'regestalaw06.WalSwitches': WHATEVER THE INPUT: true; the input reads as it did. -/
def walSwitchesSpec : ChangeSpec := { name := "walSwitches", fn := fun _ => fun
  | [d1, d2, d3] => { results := [.lit (.bool true)], args := [d1, d2, d3] }
  | _ => none }
def walSwitchesRow : OpenClaim := { program := "ytaledjcbblgmeaa", sum := "bd56c3c297da8140d3ca15fe3872e5ca3ba726b3ad5587cdf0924e107887a0a9", func := "regesta/regestalaw06.WalSwitches", spec := "walSwitches", unfollowed := true, recurses := true, apart := false }
def WalSwitchesSaid : Prop := walSwitchesRow.holds Try.pinned (OpenSpec.ofChange walSwitchesSpec)

/-- ITS FALSE NEIGHBOUR: 'it returns false'. Refute it at one input. -/
def walSwitchesWrong : ChangeSpec := { name := "walSwitches", fn := fun _ => fun
  | [d1, d2, d3] => { results := [.lit (.bool false)], args := [d1, d2, d3] }
  | _ => none }
def WalSwitchesWrongFalsely : Prop := walSwitchesRow.holds Try.pinned (OpenSpec.ofChange walSwitchesWrong)

/-- 'regestalaw06.WalPlays': WHATEVER THE INPUT: true; the input reads as it did. -/
def walPlaysSpec : ChangeSpec := { name := "walPlays", fn := fun _ => fun
  | [d] => { results := [.lit (.bool true)], args := [d] }
  | _ => none }
def walPlaysRow : OpenClaim := { program := "ytaledjcbblgmeaa", sum := "bd56c3c297da8140d3ca15fe3872e5ca3ba726b3ad5587cdf0924e107887a0a9", func := "regesta/regestalaw06.WalPlays", spec := "walPlays", unfollowed := true, recurses := true, apart := false }
def WalPlaysSaid : Prop := walPlaysRow.holds Try.pinned (OpenSpec.ofChange walPlaysSpec)

/-- ITS FALSE NEIGHBOUR: 'it returns false'. Refute it at one input. -/
def walPlaysWrong : ChangeSpec := { name := "walPlays", fn := fun _ => fun
  | [d] => { results := [.lit (.bool false)], args := [d] }
  | _ => none }
def WalPlaysWrongFalsely : Prop := walPlaysRow.holds Try.pinned (OpenSpec.ofChange walPlaysWrong)

/-- 'regestatop.TopHalves': WHATEVER THE INPUT: true; the input reads as it did. -/
def topHalvesSpec : ChangeSpec := { name := "topHalves", fn := fun _ => fun
  | [d1, d2] => { results := [.lit (.bool true)], args := [d1, d2] }
  | _ => none }
def topHalvesRow : OpenClaim := { program := "ytaledjcbblgmeaa", sum := "bd56c3c297da8140d3ca15fe3872e5ca3ba726b3ad5587cdf0924e107887a0a9", func := "regesta/regestatop.TopHalves", spec := "topHalves", unfollowed := true, recurses := true, apart := false }
def TopHalvesSaid : Prop := topHalvesRow.holds Try.pinned (OpenSpec.ofChange topHalvesSpec)

/-- ITS FALSE NEIGHBOUR: 'it returns false'. Refute it at one input. -/
def topHalvesWrong : ChangeSpec := { name := "topHalves", fn := fun _ => fun
  | [d1, d2] => { results := [.lit (.bool false)], args := [d1, d2] }
  | _ => none }
def TopHalvesWrongFalsely : Prop := topHalvesRow.holds Try.pinned (OpenSpec.ofChange topHalvesWrong)

/-- 'regestatop.TopCounts': WHATEVER THE INPUT: true; the input reads as it did. -/
def topCountsSpec : ChangeSpec := { name := "topCounts", fn := fun _ => fun
  | [d1, d2] => { results := [.lit (.bool true)], args := [d1, d2] }
  | _ => none }
def topCountsRow : OpenClaim := { program := "ytaledjcbblgmeaa", sum := "bd56c3c297da8140d3ca15fe3872e5ca3ba726b3ad5587cdf0924e107887a0a9", func := "regesta/regestatop.TopCounts", spec := "topCounts", unfollowed := true, recurses := true, apart := false }
def TopCountsSaid : Prop := topCountsRow.holds Try.pinned (OpenSpec.ofChange topCountsSpec)

/-- ITS FALSE NEIGHBOUR: 'it returns false'. Refute it at one input. -/
def topCountsWrong : ChangeSpec := { name := "topCounts", fn := fun _ => fun
  | [d1, d2] => { results := [.lit (.bool false)], args := [d1, d2] }
  | _ => none }
def TopCountsWrongFalsely : Prop := topCountsRow.holds Try.pinned (OpenSpec.ofChange topCountsWrong)

/- THE SECOND FORM. 'bulk': how many values and letters a reading holds, each counted each time it is reached (what is shared counts as often as it is met; a slice's spare places count too). A statement '..UptoSaid' is the law's where the arguments, and the package variables that the reading takes, are together of bulk at most 1048576: NARROWER than '..Said'. Prove '..Said' where nothing that the law and all that it calls make is longer than what came in: it says more and counts as full. Else prove '..UptoSaid'. A law counts once. -/
mutual
def uptoBulk {H : Type} : DataW H → Nat
  | .lit (.string bytes) => bytes.length + 1
  | .lit _ => 1
  | .nil => 1
  | .ptr d => uptoBulk d + 1
  | .slice elems spare => uptoBulkAll elems + uptoBulkAll spare + 1
  | .agg parts => uptoBulkAll parts + 1
  | .iface _ d => uptoBulk d + 1
  | .map entries => uptoBulkEntries entries + 1
  | .held _ => 1
def uptoBulkAll {H : Type} : List (DataW H) → Nat
  | [] => 0
  | d :: r => uptoBulk d + uptoBulkAll r
def uptoBulkEntries {H : Type} : List (Lit × DataW H) → Nat
  | [] => 0
  | x :: r => uptoBulkEntry x + uptoBulkEntries r
def uptoBulkEntry {H : Type} : Lit × DataW H → Nat
  | (.string bytes, d) => bytes.length + uptoBulk d + 1
  | (_, d) => uptoBulk d + 1
 end
def uptoSmall : (H : Type) → List (DataW H) → Bool := fun _ ds => decide (uptoBulkAll ds ≤ 1048576)
def OpenSpec.upto (s : _root_.Go.ChangeSpec) : _root_.Go.OpenSpec := { _root_.Go.OpenSpec.ofChange s with cond := some uptoSmall }

/-- 'regestalaw05.DiskSome', WHERE WHAT IT READS IS OF BULK AT MOST 1048576: true; the input reads as it did. -/
def diskSomeUptoRow : OpenClaim := { program := "ytaledjcbblgmeaa", sum := "bd56c3c297da8140d3ca15fe3872e5ca3ba726b3ad5587cdf0924e107887a0a9", func := "regesta/regestalaw05.DiskSome", spec := "diskSome", apart := false, narrowed := true }
def DiskSomeUptoSaid : Prop := diskSomeUptoRow.holds Try.pinned (OpenSpec.upto diskSomeSpec)

/-- 'regestalaw05.DiskCuts', WHERE WHAT IT READS IS OF BULK AT MOST 1048576: true; the input reads as it did. -/
def diskCutsUptoRow : OpenClaim := { program := "ytaledjcbblgmeaa", sum := "bd56c3c297da8140d3ca15fe3872e5ca3ba726b3ad5587cdf0924e107887a0a9", func := "regesta/regestalaw05.DiskCuts", spec := "diskCuts", apart := false, narrowed := true }
def DiskCutsUptoSaid : Prop := diskCutsUptoRow.holds Try.pinned (OpenSpec.upto diskCutsSpec)

/-- 'regestalaw05.DiskStays', WHERE WHAT IT READS IS OF BULK AT MOST 1048576: true; the input reads as it did. -/
def diskStaysUptoRow : OpenClaim := { program := "ytaledjcbblgmeaa", sum := "bd56c3c297da8140d3ca15fe3872e5ca3ba726b3ad5587cdf0924e107887a0a9", func := "regesta/regestalaw05.DiskStays", spec := "diskStays", apart := false, narrowed := true }
def DiskStaysUptoSaid : Prop := diskStaysUptoRow.holds Try.pinned (OpenSpec.upto diskStaysSpec)

/-- 'regestalaw05.DiskPlays', WHERE WHAT IT READS IS OF BULK AT MOST 1048576: true; the input reads as it did. -/
def diskPlaysUptoRow : OpenClaim := { program := "ytaledjcbblgmeaa", sum := "bd56c3c297da8140d3ca15fe3872e5ca3ba726b3ad5587cdf0924e107887a0a9", func := "regesta/regestalaw05.DiskPlays", spec := "diskPlays", apart := false, narrowed := true }
def DiskPlaysUptoSaid : Prop := diskPlaysUptoRow.holds Try.pinned (OpenSpec.upto diskPlaysSpec)

/-- 'regestalaw05.DiskForks', WHERE WHAT IT READS IS OF BULK AT MOST 1048576: true; the input reads as it did. -/
def diskForksUptoRow : OpenClaim := { program := "ytaledjcbblgmeaa", sum := "bd56c3c297da8140d3ca15fe3872e5ca3ba726b3ad5587cdf0924e107887a0a9", func := "regesta/regestalaw05.DiskForks", spec := "diskForks", apart := false, narrowed := true }
def DiskForksUptoSaid : Prop := diskForksUptoRow.holds Try.pinned (OpenSpec.upto diskForksSpec)

/-- 'regestalaw06.WalNone', WHERE WHAT IT READS IS OF BULK AT MOST 1048576: true; the input reads as it did. -/
def walNoneUptoRow : OpenClaim := { program := "ytaledjcbblgmeaa", sum := "bd56c3c297da8140d3ca15fe3872e5ca3ba726b3ad5587cdf0924e107887a0a9", func := "regesta/regestalaw06.WalNone", spec := "walNone", unfollowed := true, recurses := true, apart := false, narrowed := true }
def WalNoneUptoSaid : Prop := walNoneUptoRow.holds Try.pinned (OpenSpec.upto walNoneSpec)

/-- 'regestalaw06.WalSure', WHERE WHAT IT READS IS OF BULK AT MOST 1048576: true; the input reads as it did. -/
def walSureUptoRow : OpenClaim := { program := "ytaledjcbblgmeaa", sum := "bd56c3c297da8140d3ca15fe3872e5ca3ba726b3ad5587cdf0924e107887a0a9", func := "regesta/regestalaw06.WalSure", spec := "walSure", unfollowed := true, recurses := true, apart := false, narrowed := true }
def WalSureUptoSaid : Prop := walSureUptoRow.holds Try.pinned (OpenSpec.upto walSureSpec)

/-- 'regestalaw06.WalCut', WHERE WHAT IT READS IS OF BULK AT MOST 1048576: true; the input reads as it did. -/
def walCutUptoRow : OpenClaim := { program := "ytaledjcbblgmeaa", sum := "bd56c3c297da8140d3ca15fe3872e5ca3ba726b3ad5587cdf0924e107887a0a9", func := "regesta/regestalaw06.WalCut", spec := "walCut", unfollowed := true, recurses := true, apart := false, narrowed := true }
def WalCutUptoSaid : Prop := walCutUptoRow.holds Try.pinned (OpenSpec.upto walCutSpec)

/-- 'regestalaw06.WalSwitches', WHERE WHAT IT READS IS OF BULK AT MOST 1048576: true; the input reads as it did. -/
def walSwitchesUptoRow : OpenClaim := { program := "ytaledjcbblgmeaa", sum := "bd56c3c297da8140d3ca15fe3872e5ca3ba726b3ad5587cdf0924e107887a0a9", func := "regesta/regestalaw06.WalSwitches", spec := "walSwitches", unfollowed := true, recurses := true, apart := false, narrowed := true }
def WalSwitchesUptoSaid : Prop := walSwitchesUptoRow.holds Try.pinned (OpenSpec.upto walSwitchesSpec)

/-- 'regestalaw06.WalPlays', WHERE WHAT IT READS IS OF BULK AT MOST 1048576: true; the input reads as it did. -/
def walPlaysUptoRow : OpenClaim := { program := "ytaledjcbblgmeaa", sum := "bd56c3c297da8140d3ca15fe3872e5ca3ba726b3ad5587cdf0924e107887a0a9", func := "regesta/regestalaw06.WalPlays", spec := "walPlays", unfollowed := true, recurses := true, apart := false, narrowed := true }
def WalPlaysUptoSaid : Prop := walPlaysUptoRow.holds Try.pinned (OpenSpec.upto walPlaysSpec)

/-- 'regestatop.TopHalves', WHERE WHAT IT READS IS OF BULK AT MOST 1048576: true; the input reads as it did. -/
def topHalvesUptoRow : OpenClaim := { program := "ytaledjcbblgmeaa", sum := "bd56c3c297da8140d3ca15fe3872e5ca3ba726b3ad5587cdf0924e107887a0a9", func := "regesta/regestatop.TopHalves", spec := "topHalves", unfollowed := true, recurses := true, apart := false, narrowed := true }
def TopHalvesUptoSaid : Prop := topHalvesUptoRow.holds Try.pinned (OpenSpec.upto topHalvesSpec)

/-- 'regestatop.TopCounts', WHERE WHAT IT READS IS OF BULK AT MOST 1048576: true; the input reads as it did. -/
def topCountsUptoRow : OpenClaim := { program := "ytaledjcbblgmeaa", sum := "bd56c3c297da8140d3ca15fe3872e5ca3ba726b3ad5587cdf0924e107887a0a9", func := "regesta/regestatop.TopCounts", spec := "topCounts", unfollowed := true, recurses := true, apart := false, narrowed := true }
def TopCountsUptoSaid : Prop := topCountsUptoRow.holds Try.pinned (OpenSpec.upto topCountsSpec)

end Rows
end Go.Proofs.Ytaledjcbblgmeaa
