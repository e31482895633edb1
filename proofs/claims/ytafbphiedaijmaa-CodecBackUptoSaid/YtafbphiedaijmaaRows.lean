/-
  No cell of these rows narrows 'for every input' (looked for: loops, veiled, ifaces, maps, wideKeys, modest, calm, conditions, laid).
  DERIVED. THE GIVEN ROWS OF THIS SEAT. 6 by the template 'for every input the law returns true; each argument reads behind the call as it read before'; 0 by the template 'total and deterministic' (their statements: YtafbphiedaijmaaTotals.lean).
  GIVEN WITH THE SEED: the statements are not yours to turn. If you find one false, say at which input.
  Laid BY PROGRAM, IN A SANDBOX (cutbox-rows.mjs): the forced cells as the released guide's own fill.sh prints them over the translation 0e2ca6e7bc093cd1… (all of the seat's roots in one cut). By AI agents, Wed Nov 11 2026. No macro, syntax, notation, axiom, sorry.
-/
import Derived.Test.YtafbphiedaijmaaChecked
import GoSem.Claim
import GoSem.ClaimJoined
import GoSem.ClaimMapViews
import Derived.JoinedTies
import Derived.KernelRfl
namespace Go.Proofs.Ytafbphiedaijmaa
/- THE CELL 'sum', in the pinned program and in every row, IS THE sha256 OF THE DUMP (.gsa) THAT YtafbphiedaijmaaProg.lean LOADS. Nothing in Lean hashes anything: it is a label: what it is worth is what the hold of that sum in a sandbox is worth. -/
noncomputable def Try.pinned : Pinned := { name := "ytafbphiedaijmaa", sum := "0e2ca6e7bc093cd1c4c30633022b5acbd05882d6e5f120d806937cf228fba1a7", checked := Try.checked }
namespace Rows
def none {H : Type} : Left H := { results := [], args := [] }

/-- 'regestalaw04.CodecBack': WHATEVER THE INPUT: true; the input reads as it did. -/
def codecBackSpec : ChangeSpec := { name := "codecBack", fn := fun _ => fun
  | [d1, d2] => { results := [.lit (.bool true)], args := [d1, d2] }
  | _ => none }
def codecBackRow : OpenClaim := { program := "ytafbphiedaijmaa", sum := "0e2ca6e7bc093cd1c4c30633022b5acbd05882d6e5f120d806937cf228fba1a7", func := "regesta/regestalaw04.CodecBack", spec := "codecBack", inPlace := ["internal/bytealg.IndexByte", "internal/bytealg.abigen_runtime_cmpstring"], unfollowed := true, recurses := true, apart := false }
def CodecBackSaid : Prop := codecBackRow.holds Try.pinned (OpenSpec.ofChange codecBackSpec)

/-- ITS FALSE NEIGHBOUR: 'it returns false'. Refute it at one input. -/
def codecBackWrong : ChangeSpec := { name := "codecBack", fn := fun _ => fun
  | [d1, d2] => { results := [.lit (.bool false)], args := [d1, d2] }
  | _ => none }
def CodecBackWrongFalsely : Prop := codecBackRow.holds Try.pinned (OpenSpec.ofChange codecBackWrong)

/-- 'regestalaw04.CodecOrder': WHATEVER THE INPUT: true; the input reads as it did. -/
def codecOrderSpec : ChangeSpec := { name := "codecOrder", fn := fun _ => fun
  | [d1, d2] => { results := [.lit (.bool true)], args := [d1, d2] }
  | _ => none }
def codecOrderRow : OpenClaim := { program := "ytafbphiedaijmaa", sum := "0e2ca6e7bc093cd1c4c30633022b5acbd05882d6e5f120d806937cf228fba1a7", func := "regesta/regestalaw04.CodecOrder", spec := "codecOrder", inPlace := ["internal/bytealg.IndexByte", "internal/bytealg.abigen_runtime_cmpstring"], unfollowed := true, recurses := true, apart := false }
def CodecOrderSaid : Prop := codecOrderRow.holds Try.pinned (OpenSpec.ofChange codecOrderSpec)

/-- ITS FALSE NEIGHBOUR: 'it returns false'. Refute it at one input. -/
def codecOrderWrong : ChangeSpec := { name := "codecOrder", fn := fun _ => fun
  | [d1, d2] => { results := [.lit (.bool false)], args := [d1, d2] }
  | _ => none }
def CodecOrderWrongFalsely : Prop := codecOrderRow.holds Try.pinned (OpenSpec.ofChange codecOrderWrong)

/-- 'regestalaw24.RedoCut': WHATEVER THE INPUT: true; the input reads as it did. -/
def redoCutSpec : ChangeSpec := { name := "redoCut", fn := fun _ => fun
  | [d1, d2] => { results := [.lit (.bool true)], args := [d1, d2] }
  | _ => none }
def redoCutRow : OpenClaim := { program := "ytafbphiedaijmaa", sum := "0e2ca6e7bc093cd1c4c30633022b5acbd05882d6e5f120d806937cf228fba1a7", func := "regesta/regestalaw24.RedoCut", spec := "redoCut", inPlace := ["internal/bytealg.IndexByte"], unfollowed := true, recurses := true, apart := false }
def RedoCutSaid : Prop := redoCutRow.holds Try.pinned (OpenSpec.ofChange redoCutSpec)

/-- ITS FALSE NEIGHBOUR: 'it returns false'. Refute it at one input. -/
def redoCutWrong : ChangeSpec := { name := "redoCut", fn := fun _ => fun
  | [d1, d2] => { results := [.lit (.bool false)], args := [d1, d2] }
  | _ => none }
def RedoCutWrongFalsely : Prop := redoCutRow.holds Try.pinned (OpenSpec.ofChange redoCutWrong)

/-- 'regestalaw24.RedoBack': WHATEVER THE INPUT: true; the input reads as it did. -/
def redoBackSpec : ChangeSpec := { name := "redoBack", fn := fun _ => fun
  | [d1, d2] => { results := [.lit (.bool true)], args := [d1, d2] }
  | _ => none }
def redoBackRow : OpenClaim := { program := "ytafbphiedaijmaa", sum := "0e2ca6e7bc093cd1c4c30633022b5acbd05882d6e5f120d806937cf228fba1a7", func := "regesta/regestalaw24.RedoBack", spec := "redoBack", inPlace := ["internal/bytealg.IndexByte", "internal/bytealg.abigen_runtime_cmpstring"], unfollowed := true, recurses := true, apart := false }
def RedoBackSaid : Prop := redoBackRow.holds Try.pinned (OpenSpec.ofChange redoBackSpec)

/-- ITS FALSE NEIGHBOUR: 'it returns false'. Refute it at one input. -/
def redoBackWrong : ChangeSpec := { name := "redoBack", fn := fun _ => fun
  | [d1, d2] => { results := [.lit (.bool false)], args := [d1, d2] }
  | _ => none }
def RedoBackWrongFalsely : Prop := redoBackRow.holds Try.pinned (OpenSpec.ofChange redoBackWrong)

/-- 'regestatop.TopLine': WHATEVER THE INPUT: true; the input reads as it did. -/
def topLineSpec : ChangeSpec := { name := "topLine", fn := fun _ => fun
  | [d] => { results := [.lit (.bool true)], args := [d] }
  | _ => none }
def topLineRow : OpenClaim := { program := "ytafbphiedaijmaa", sum := "0e2ca6e7bc093cd1c4c30633022b5acbd05882d6e5f120d806937cf228fba1a7", func := "regesta/regestatop.TopLine", spec := "topLine", inPlace := ["internal/bytealg.IndexByte"], apart := false }
def TopLineSaid : Prop := topLineRow.holds Try.pinned (OpenSpec.ofChange topLineSpec)

/-- ITS FALSE NEIGHBOUR: 'it returns false'. Refute it at one input. -/
def topLineWrong : ChangeSpec := { name := "topLine", fn := fun _ => fun
  | [d] => { results := [.lit (.bool false)], args := [d] }
  | _ => none }
def TopLineWrongFalsely : Prop := topLineRow.holds Try.pinned (OpenSpec.ofChange topLineWrong)

/-- 'regestatop.TopKeys': WHATEVER THE INPUT: true; the input reads as it did. -/
def topKeysSpec : ChangeSpec := { name := "topKeys", fn := fun _ => fun
  | [d] => { results := [.lit (.bool true)], args := [d] }
  | _ => none }
def topKeysRow : OpenClaim := { program := "ytafbphiedaijmaa", sum := "0e2ca6e7bc093cd1c4c30633022b5acbd05882d6e5f120d806937cf228fba1a7", func := "regesta/regestatop.TopKeys", spec := "topKeys", inPlace := ["internal/bytealg.abigen_runtime_cmpstring"], unfollowed := true, recurses := true, apart := false }
def TopKeysSaid : Prop := topKeysRow.holds Try.pinned (OpenSpec.ofChange topKeysSpec)

/-- ITS FALSE NEIGHBOUR: 'it returns false'. Refute it at one input. -/
def topKeysWrong : ChangeSpec := { name := "topKeys", fn := fun _ => fun
  | [d] => { results := [.lit (.bool false)], args := [d] }
  | _ => none }
def TopKeysWrongFalsely : Prop := topKeysRow.holds Try.pinned (OpenSpec.ofChange topKeysWrong)

/- THE SECOND FORM. 'bulk': how many values and letters a reading holds, each counted each time it is reached (what is shared counts as often as it is met; a slice's spare places count too). A statement '..UptoSaid' is the law's where the arguments, and the package variables that the reading takes, are together of bulk at most 1048576: NARROWER than '..Said'. Prove '..Said' where nothing that the law and all that it calls make is longer than what came in: it says more and counts as full. Else prove '..UptoSaid'. A law counts once. -/
mutual
def uptoBulk {H : Type} : DataW H → Nat
  | .lit (.string bytes) => bytes.length + 1
  | .lit _ => 1
  | .nil => 1
  | .ptr d => uptoBulk d + 1
  | .slice elems spare => uptoBulkAll elems + uptoBulkAll spare + 1
  | .agg parts => uptoBulkAll parts + 1
  | .iface _ d => uptoBulk d + 1
  | .map entries => uptoBulkEntries entries + 1
  | .held _ => 1
def uptoBulkAll {H : Type} : List (DataW H) → Nat
  | [] => 0
  | d :: r => uptoBulk d + uptoBulkAll r
def uptoBulkEntries {H : Type} : List (Lit × DataW H) → Nat
  | [] => 0
  | x :: r => uptoBulkEntry x + uptoBulkEntries r
def uptoBulkEntry {H : Type} : Lit × DataW H → Nat
  | (.string bytes, d) => bytes.length + uptoBulk d + 1
  | (_, d) => uptoBulk d + 1
 end
def uptoSmall : (H : Type) → List (DataW H) → Bool := fun _ ds => decide (uptoBulkAll ds ≤ 1048576)
def OpenSpec.upto (s : _root_.Go.ChangeSpec) : _root_.Go.OpenSpec := { _root_.Go.OpenSpec.ofChange s with cond := some uptoSmall }

/-- 'regestalaw04.CodecBack', WHERE WHAT IT READS IS OF BULK AT MOST 1048576: true; the input reads as it did. -/
def codecBackUptoRow : OpenClaim := { program := "ytafbphiedaijmaa", sum := "0e2ca6e7bc093cd1c4c30633022b5acbd05882d6e5f120d806937cf228fba1a7", func := "regesta/regestalaw04.CodecBack", spec := "codecBack", inPlace := ["internal/bytealg.IndexByte", "internal/bytealg.abigen_runtime_cmpstring"], unfollowed := true, recurses := true, apart := false, narrowed := true }
def CodecBackUptoSaid : Prop := codecBackUptoRow.holds Try.pinned (OpenSpec.upto codecBackSpec)

/-- 'regestalaw04.CodecOrder', WHERE WHAT IT READS IS OF BULK AT MOST 1048576: true; the input reads as it did. -/
def codecOrderUptoRow : OpenClaim := { program := "ytafbphiedaijmaa", sum := "0e2ca6e7bc093cd1c4c30633022b5acbd05882d6e5f120d806937cf228fba1a7", func := "regesta/regestalaw04.CodecOrder", spec := "codecOrder", inPlace := ["internal/bytealg.IndexByte", "internal/bytealg.abigen_runtime_cmpstring"], unfollowed := true, recurses := true, apart := false, narrowed := true }
def CodecOrderUptoSaid : Prop := codecOrderUptoRow.holds Try.pinned (OpenSpec.upto codecOrderSpec)

/-- 'regestalaw24.RedoCut', WHERE WHAT IT READS IS OF BULK AT MOST 1048576: true; the input reads as it did. -/
def redoCutUptoRow : OpenClaim := { program := "ytafbphiedaijmaa", sum := "0e2ca6e7bc093cd1c4c30633022b5acbd05882d6e5f120d806937cf228fba1a7", func := "regesta/regestalaw24.RedoCut", spec := "redoCut", inPlace := ["internal/bytealg.IndexByte"], unfollowed := true, recurses := true, apart := false, narrowed := true }
def RedoCutUptoSaid : Prop := redoCutUptoRow.holds Try.pinned (OpenSpec.upto redoCutSpec)

/-- 'regestalaw24.RedoBack', WHERE WHAT IT READS IS OF BULK AT MOST 1048576: true; the input reads as it did. -/
def redoBackUptoRow : OpenClaim := { program := "ytafbphiedaijmaa", sum := "0e2ca6e7bc093cd1c4c30633022b5acbd05882d6e5f120d806937cf228fba1a7", func := "regesta/regestalaw24.RedoBack", spec := "redoBack", inPlace := ["internal/bytealg.IndexByte", "internal/bytealg.abigen_runtime_cmpstring"], unfollowed := true, recurses := true, apart := false, narrowed := true }
def RedoBackUptoSaid : Prop := redoBackUptoRow.holds Try.pinned (OpenSpec.upto redoBackSpec)

/-- 'regestatop.TopLine', WHERE WHAT IT READS IS OF BULK AT MOST 1048576: true; the input reads as it did. -/
def topLineUptoRow : OpenClaim := { program := "ytafbphiedaijmaa", sum := "0e2ca6e7bc093cd1c4c30633022b5acbd05882d6e5f120d806937cf228fba1a7", func := "regesta/regestatop.TopLine", spec := "topLine", inPlace := ["internal/bytealg.IndexByte"], apart := false, narrowed := true }
def TopLineUptoSaid : Prop := topLineUptoRow.holds Try.pinned (OpenSpec.upto topLineSpec)

/-- 'regestatop.TopKeys', WHERE WHAT IT READS IS OF BULK AT MOST 1048576: true; the input reads as it did. -/
def topKeysUptoRow : OpenClaim := { program := "ytafbphiedaijmaa", sum := "0e2ca6e7bc093cd1c4c30633022b5acbd05882d6e5f120d806937cf228fba1a7", func := "regesta/regestatop.TopKeys", spec := "topKeys", inPlace := ["internal/bytealg.abigen_runtime_cmpstring"], unfollowed := true, recurses := true, apart := false, narrowed := true }
def TopKeysUptoSaid : Prop := topKeysUptoRow.holds Try.pinned (OpenSpec.upto topKeysSpec)

end Rows
end Go.Proofs.Ytafbphiedaijmaa
