/- word.Unquote. -/
import Derived.Test.YtafbphiedaijmaaDoorWordB
import Derived.Test.YtafbphiedaijmaaDoorQuote
import Derived.Test.YtafbphiedaijmaaDoorRepl
namespace Go.Proofs.YtafbphiedaijmaaDoor
open Go.RowKit Go.Lib

theorem unquoteR_nil {s : ByteArray} (h : s.data.toList = []) : unquoteR s = (⟨#[]⟩, 0, 8) := by unfold unquoteR; rw [h]
theorem unquoteR_ne {s : ByteArray} {c : UInt8} {r : List UInt8} (h : s.data.toList = c :: r) (hc : c ≠ 39) : unquoteR s = (⟨#[]⟩, 0, 8) := by unfold unquoteR; rw [h]; simp [hc]
theorem unquoteR_open {s : ByteArray} {r : List UInt8} (h : s.data.toList = 39 :: r) (hu : unq r = none) : unquoteR s = ((⟨#[]⟩, (s.size : Int), 8) : ByteArray × Int × Int) := by unfold unquoteR; rw [h]; simp [hu]
theorem unquoteR_some {s : ByteArray} {r t : List UInt8} {n : Nat} (h : s.data.toList = 39 :: r) (hu : unq r = some (t, n)) : unquoteR s = if rightL t then ((⟨t.toArray⟩, (n : Int) + 2, 0) : ByteArray × Int × Int) else (⟨#[]⟩, 0, 3) := by unfold unquoteR; rw [h]; simp [hu]

theorem size_pos_cons {s : ByteArray} (h : 0 < s.size) : s.data.toList = s[0] :: s.data.toList.drop 1 := by
  have := drop_cons h
  simpa using this

end Go.Proofs.YtafbphiedaijmaaDoor
