/- The program's disk: where its data lie; what each small method answers. -/
import Derived.Test.YtaledjcbblgmeaaProg
import Derived.Test.YtaledjcbblgmeaaDkS
import Derived.Test.YtaledjcbblgmeaaArr
import Derived.WalkKit
import Derived.Outline
import Derived.WalkSpells
import Derived.Deep.DrawnRows
namespace Go.Proofs.Ytaledjcbblgmeaa
open Go.RowKit

def fuseI : Option Nat → Int
  | none => -1
  | some k => k
/-- A disk of the program: its struct in block g, its rows behind; F: its blocks. -/
def DP (w : World) (B g : Nat) (d : Dk) (F : Nat → Prop) : Prop :=
  ∃ As cs Aw cw, Blk w g 89 #[.slice As d.secs.length cs, .slice Aw d.wait.length cw, .int .i64 (fuseI d.fuse), .bool d.off] ∧
    Own B 91 64 Sec.enc w (.slice As d.secs.length cs) d.secs ∧ Own B 93 65 Wr.enc w (.slice Aw d.wait.length cw) d.wait ∧ B ≤ g ∧ d.ok ∧
    ∀ i, F i ↔ i = g ∨ (Value.slice As d.secs.length cs).ownBlock = some i ∨ (Value.slice Aw d.wait.length cw).ownBlock = some i
section
variable {w w' : World} {B g : Nat} {d : Dk} {F K : Nat → Prop}
theorem DP.lt (h : DP w B g d F) : ∀ i, F i → B ≤ i ∧ i < w.heap.size := by
  obtain ⟨As, cs, Aw, cw, h1, h2, h3, h4, h5, h6⟩ := h
  intro i hi
  rcases (h6 i).1 hi with rfl | h | h
  · exact ⟨h4, h1.lt⟩
  · exact h2.lt i h
  · exact h3.lt i h
theorem DP.mod (h : DP w B g d F) (m : Mod K w w') (hd : ∀ i, K i → ¬ F i) : DP w' B g d F := by
  obtain ⟨As, cs, Aw, cw, h1, h2, h3, h4, h5, h6⟩ := h
  exact ⟨As, cs, Aw, cw, h1.mod m (fun hk => hd g hk ((h6 g).2 (.inl rfl))), h2.mod m (fun i hi hk => hd i hk ((h6 i).2 (.inr (.inl hi)))), h3.mod m (fun i hi hk => hd i hk ((h6 i).2 (.inr (.inr hi)))), h4, h5, h6⟩
theorem DP.below (h : DP w B g d F) (hb : Below w.heap.size w w') : DP w' B g d F := h.mod (Mod.of_below (fun _ => False) hb) (fun _ hk => hk.elim)
theorem DP.mk' {As Aw : Option Addr} {n cs m cw : Nat} (h1 : Blk w g 89 #[.slice As n cs, .slice Aw m cw, .int .i64 (fuseI d.fuse), .bool d.off]) (hn : n = d.secs.length) (hm : m = d.wait.length)
    (h2 : Own B 91 64 Sec.enc w (.slice As n cs) d.secs) (h3 : Own B 93 65 Wr.enc w (.slice Aw m cw) d.wait) (h4 : B ≤ g) (h5 : d.ok) :
    DP w B g d (fun k => k = g ∨ (Value.slice As n cs).ownBlock = some k ∨ (Value.slice Aw m cw).ownBlock = some k) := by
  subst hn hm
  exact ⟨As, cs, Aw, cw, h1, h2, h3, h4, h5, fun _ => Iff.rfl⟩
theorem DP.ok (h : DP w B g d F) : d.ok := by
  obtain ⟨As, cs, Aw, cw, h1, h2, h3, h4, h5, h6⟩ := h
  exact h5
end

set_option maxRecDepth 100000 in
theorem disk_Size (g : Nat) (w : World) (vs vw : Value) (A : Option Addr) (n c : Nat) (f : Int) (b : Bool) (hB : Blk w g 89 #[.slice A n c, vw, .int .i64 f, .bool b]) (hn : n ≤ 128) :
    Calls Try.prog 28 #[.pointer (some ⟨g, 0, none⟩)] w fun e w' => e = .returned (.int .i64 n) ∧ w = w' := by
  have x := hB.cell
  have hn' : (n : Int) ≤ 128 := by omega
  clear hB
  go_enter Try.func28, Try.ntmps28
  go_wp2
  go_ret
  exact ⟨rfl, rfl⟩
set_option maxRecDepth 100000 in
theorem disk_look (g : Nat) (i : Int) (w : World) (vw : Value) (A : Option Addr) (n c : Nat) (f : Int) (b : Bool) (hB : Blk w g 89 #[.slice A n c, vw, .int .i64 f, .bool b]) (hn : n ≤ 128) :
    Calls Try.prog 50 #[.pointer (some ⟨g, 0, none⟩), .int .i64 i] w fun e w' => e = .returned (.int .i64 (if b = true then 7 else if i < 0 ∨ (n : Int) ≤ i then 2 else 0)) ∧ w = w' := by
  have x := hB.cell
  have hn' : (n : Int) ≤ 128 := by omega
  clear hB
  cases b with
  | true =>
    go_enter Try.func50, Try.ntmps50
    go_wp2
    go_ret
    exact ⟨rfl, rfl⟩
  | false =>
    by_cases h0 : i < 0
    · go_enter Try.func50, Try.ntmps50
      go_wp2
      go_ret
      exact ⟨by simp [h0], rfl⟩
    · by_cases h1 : (n : Int) ≤ i
      · go_enter Try.func50, Try.ntmps50
        go_wp2
        go_ret
        exact ⟨by simp [h1], rfl⟩
      · go_enter Try.func50, Try.ntmps50
        go_wp2
        go_ret
        exact ⟨by simp [h0, h1], rfl⟩
/-- One more is done, or it goes off: the struct alone turns. -/
def BurnPost (g : Nat) (vs vw : Value) (d : Dk) (w : World) (e : Ending) (w' : World) : Prop :=
  e = .returned (.bool d.burnt) ∧ Blk w' g 89 #[vs, vw, .int .i64 (fuseI d.burn.fuse), .bool d.burn.off] ∧ Mod (· = g) w w' ∧ w'.heap.size = w.heap.size
set_option maxRecDepth 100000 in
theorem disk_burn (g : Nat) (w : World) (vs vw : Value) (d : Dk) (hB : Blk w g 89 #[vs, vw, .int .i64 (fuseI d.fuse), .bool d.off]) (hd : d.ok) :
    Calls Try.prog 51 #[.pointer (some ⟨g, 0, none⟩)] w (BurnPost g vs vw d w) := by
  obtain ⟨secs, wait, fuse, off⟩ := d
  have x := hB.cell
  have y := hB.frozen
  have S3 := Lib.hid (fun u => hB.set_ 3 u)
  have S2 := Lib.hid (fun u => hB.set_ 2 u)
  have HB := Lib.hid hB
  have hk := hd.2.2
  clear hB hd
  cases fuse with
  | none =>
    simp only [fuseI] at x
    go_enter Try.func51, Try.ntmps51
    go_wp2
    go_ret
    exact ⟨rfl, HB.out, Mod.refl _ _, rfl⟩
  | some k =>
    cases k with
    | zero =>
      simp only [fuseI] at x
      go_enter Try.func51, Try.ntmps51
      go_wp2
      go_ret
      exact ⟨rfl, S3.out _, (Mod.set w ⟨g, 3, none⟩ (.bool true) :), by simp⟩
    | succ k =>
      have hk' : k + 1 ≤ 9223372036854775807 := hk _ rfl
      obtain ⟨m, hm⟩ : ∃ m : Nat, m = k + 1 := ⟨_, rfl⟩
      simp only [fuseI, ← hm] at x
      have hm1 : (0 : Int) < (m : Int) := by omega
      have hm2 : (m : Int) ≤ 9223372036854775807 := by omega
      have e : (k : Int) = (m : Int) - 1 := by omega
      have S2' : Hid (Blk (w.setCell ⟨g, 2, none⟩ (.int .i64 ((m : Int) - 1))) g 89 #[vs, vw, .int .i64 k, .bool off]) := Lib.hid (by rw [e]; exact S2.out _)
      have z : ((m : Int) == 0) = false := beq_eq_false_iff_ne.2 (by omega)
      clear hk hk' hm e S2 S3 HB
      go_enter Try.func51, Try.ntmps51
      go_wp2
      go_ret
      exact ⟨rfl, S2'.out, (Mod.set w ⟨g, 2, none⟩ (.int .i64 ((m : Int) - 1)) :), by simp⟩
end Go.Proofs.Ytaledjcbblgmeaa
