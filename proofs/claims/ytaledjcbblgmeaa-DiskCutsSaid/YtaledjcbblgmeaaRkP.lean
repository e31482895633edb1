/- The reference's disk: where its data lie; New, Size, Off, Waiting, spend, Cut. -/
import Derived.Test.YtaledjcbblgmeaaDkM
namespace Go.Proofs.Ytaledjcbblgmeaa
open Go.RowKit

/-- The reference's disk: its struct in block g, its rows behind; F: its blocks. -/
def RP (w : World) (B g : Nat) (d : Dk) (F : Nat → Prop) : Prop :=
  ∃ As cs Aw cw left, Blk w g 98 #[.slice As d.secs.length cs, .slice Aw d.wait.length cw, .bool d.fuse.isSome, .int .i64 left, .bool d.off] ∧ (∀ k : Nat, d.fuse = some k → left = k) ∧
    Own B 90 64 Sec.enc w (.slice As d.secs.length cs) d.secs ∧ Own B 126 65 Wr.enc w (.slice Aw d.wait.length cw) d.wait ∧ B ≤ g ∧ d.ok ∧
    ∀ i, F i ↔ i = g ∨ (Value.slice As d.secs.length cs).ownBlock = some i ∨ (Value.slice Aw d.wait.length cw).ownBlock = some i
section
variable {w w' : World} {B g : Nat} {d : Dk} {F K : Nat → Prop}
theorem RP.lt (h : RP w B g d F) : ∀ i, F i → B ≤ i ∧ i < w.heap.size := by
  obtain ⟨As, cs, Aw, cw, left, h1, h0, h2, h3, h4, h5, h6⟩ := h
  intro i hi
  rcases (h6 i).1 hi with rfl | h | h
  · exact ⟨h4, h1.lt⟩
  · exact h2.lt i h
  · exact h3.lt i h
theorem RP.mod (h : RP w B g d F) (m : Mod K w w') (hd : ∀ i, K i → ¬ F i) : RP w' B g d F := by
  obtain ⟨As, cs, Aw, cw, left, h1, h0, h2, h3, h4, h5, h6⟩ := h
  exact ⟨As, cs, Aw, cw, left, h1.mod m (fun hk => hd g hk ((h6 g).2 (.inl rfl))), h0, h2.mod m (fun i hi hk => hd i hk ((h6 i).2 (.inr (.inl hi)))), h3.mod m (fun i hi hk => hd i hk ((h6 i).2 (.inr (.inr hi)))), h4, h5, h6⟩
theorem RP.below (h : RP w B g d F) (hb : Below w.heap.size w w') : RP w' B g d F := h.mod (Mod.of_below (fun _ => False) hb) (fun _ hk => hk.elim)
theorem RP.mk' {As Aw : Option Addr} {n cs m cw : Nat} {left : Int} {b : Bool} (h1 : Blk w g 98 #[.slice As n cs, .slice Aw m cw, .bool b, .int .i64 left, .bool d.off]) (hb : b = d.fuse.isSome) (h0 : ∀ k : Nat, d.fuse = some k → left = k) (hn : n = d.secs.length) (hm : m = d.wait.length)
    (h2 : Own B 90 64 Sec.enc w (.slice As n cs) d.secs) (h3 : Own B 126 65 Wr.enc w (.slice Aw m cw) d.wait) (h4 : B ≤ g) (h5 : d.ok) :
    RP w B g d (fun k => k = g ∨ (Value.slice As n cs).ownBlock = some k ∨ (Value.slice Aw m cw).ownBlock = some k) := by
  subst hn hm hb
  exact ⟨As, cs, Aw, cw, left, h1, h0, h2, h3, h4, h5, fun _ => Iff.rfl⟩
theorem RP.ok (h : RP w B g d F) : d.ok := by
  obtain ⟨As, cs, Aw, cw, left, h1, h0, h2, h3, h4, h5, h6⟩ := h
  exact h5
end
theorem infoRSec3 : (Try.prog.info? 90).map (fun i => (i.zero.map (·.cells), i.size, i.bytes)) = some (some (Sec.enc Sec.zero).toArray, 64, 64) := by kernel_rfl
theorem infoRSec : (Try.prog.info? 90).map (fun i => (i.zero, i.size, i.bytes)) = some (some (.agg (Sec.enc Sec.zero).toArray), 64, 64) := by kernel_rfl
theorem sizeRSec : (Try.prog.info? 90).map (·.size) = some 64 := by kernel_rfl
theorem zeroRSec : ((Try.prog.info? 90).bind (·.zero)).map (·.cells) = some (Sec.enc Sec.zero).toArray := by kernel_rfl
theorem infoRWrite : (Try.prog.info? 126).map (fun i => (i.zero, i.size, i.bytes)) = some (some (.agg ((Wr.enc ⟨0, Sec.zero⟩).toArray)), 65, 72) := by kernel_rfl
theorem sizeRWrite : (Try.prog.info? 126).map (·.size) = some 65 := by kernel_rfl
theorem zeroRWrite : ((Try.prog.info? 126).bind (·.zero)).map (·.cells) = some (Wr.enc ⟨0, Sec.zero⟩).toArray := by kernel_rfl
theorem builtRWrite (i : Int) : Try.prog.built 126 [(0, .int .i64 i)] = some ((.int .i64 i :: Sec.zero.enc).toArray) := by kernel_rfl

set_option maxRecDepth 100000 in
theorem rdisk_Size (B g : Nat) (d : Dk) (F : Nat → Prop) (w : World) (h : RP w B g d F) : Calls Try.prog 52 #[.pointer (some ⟨g, 0, none⟩)] w fun e w' => e = .returned (.int .i64 d.secs.length) ∧ w = w' := by
  obtain ⟨As, cs, Aw, cw, left, hb, h0, hs, hv, hg, hok, hF⟩ := h
  have x := hb.cell
  clear hb hs hv hok hF h0
  go_enter Try.func52, Try.ntmps52
  go_wp2
  go_ret
  exact ⟨rfl, rfl⟩
set_option maxRecDepth 100000 in
theorem rdisk_Off (B g : Nat) (d : Dk) (F : Nat → Prop) (w : World) (h : RP w B g d F) : Calls Try.prog 53 #[.pointer (some ⟨g, 0, none⟩)] w fun e w' => e = .returned (.bool d.off) ∧ w = w' := by
  obtain ⟨As, cs, Aw, cw, left, hb, h0, hs, hv, hg, hok, hF⟩ := h
  have x := hb.cell
  clear hb hs hv hok hF h0
  go_enter Try.func53, Try.ntmps53
  go_wp2
  go_ret
  exact ⟨rfl, rfl⟩
set_option maxRecDepth 100000 in
theorem rdisk_Waiting (B g : Nat) (d : Dk) (F : Nat → Prop) (w : World) (h : RP w B g d F) : Calls Try.prog 54 #[.pointer (some ⟨g, 0, none⟩)] w fun e w' => e = .returned (.int .i64 d.wait.length) ∧ w = w' := by
  obtain ⟨As, cs, Aw, cw, left, hb, h0, hs, hv, hg, hok, hF⟩ := h
  have x := hb.cell
  clear hb hs hv hok hF h0
  go_enter Try.func54, Try.ntmps54
  go_wp2
  go_ret
  exact ⟨rfl, rfl⟩
def RNewPost (n : Nat) (w : World) (e : Ending) (w' : World) : Prop := ∃ g F, e = .returned (.pointer (some ⟨g, 0, none⟩)) ∧ RP w' w.heap.size g (Dk.new n) F ∧ Below w.heap.size w w'
set_option maxRecDepth 100000 in
theorem rdisk_New (n : Nat) (w : World) (h1 : 1 ≤ n) (h2 : n ≤ 128) : Calls Try.prog 33 #[.int .i64 n] w (RNewPost n w) := by
  have a1 : ¬ (n : Int) < 1 := by omega
  have a2 : ¬ (128 : Int) < n := by omega
  go_enter Try.func33, Try.ntmps33
  go_wp2_with (first
    | (refine wpList_make_blk rfl _ _ 95 90 rfl Try.underlying95 Sec.enc_length (by decide) Sec.zero 64 infoRSec3 n (by rfl) (by rfl) (by omega) (by unfold maxLen; omega) ?_; intro w1 b1 hb1 hz1
       have HB := Lib.hid (And.intro b1 (And.intro hb1 hz1))
       clear b1 hb1 hz1))
  go_ret
  obtain ⟨b1, hb1, hz1⟩ := HB.out
  have hl : (List.replicate n Sec.zero).length = n := List.length_replicate ..
  have hO := Own.of_blk (B := w.heap.size) b1 Sec.enc_length rfl hl.symm (Nat.le_refl _) (by rw [hl]; unfold maxLen; omega)
  refine ⟨w1.heap.size, _, rfl, RP.mk' (d := Dk.new n) (Blk.new _ _ _) rfl (fun k hk => by simp [Dk.new] at hk) hl.symm rfl (hO.alloc _) (Own.nil _ _ _ _ _) (by omega) (Dk.ok_new h2), ?_⟩
  exact hb1.trans ((Below.refl _ _).alloc (by omega) _)
set_option maxRecDepth 100000 in
theorem rdisk_New_no (n : Int) (w : World) (h : n < 1 ∨ 128 < n) : Calls Try.prog 33 #[.int .i64 n] w fun e w' => e = .returned (.pointer none) ∧ w = w' := by
  by_cases a1 : n < 1
  · go_enter Try.func33, Try.ntmps33
    go_wp2
    go_ret
    exact ⟨rfl, rfl⟩
  · have a2 : 128 < n := by omega
    go_enter Try.func33, Try.ntmps33
    go_wp2
    go_ret
    exact ⟨rfl, rfl⟩
/-- One more is done, or it goes off: the struct alone turns. -/
def SpendPost (g : Nat) (vs vw : Value) (d : Dk) (w : World) (e : Ending) (w' : World) : Prop :=
  e = .returned (.bool d.burnt) ∧ (∃ left, Blk w' g 98 #[vs, vw, .bool d.burn.fuse.isSome, .int .i64 left, .bool d.burn.off] ∧ ∀ k : Nat, d.burn.fuse = some k → left = k) ∧ Mod (· = g) w w' ∧ w'.heap.size = w.heap.size
set_option maxRecDepth 100000 in
theorem rdisk_spend (g : Nat) (w : World) (vs vw : Value) (d : Dk) (left : Int) (hB : Blk w g 98 #[vs, vw, .bool d.fuse.isSome, .int .i64 left, .bool d.off]) (h0 : ∀ k : Nat, d.fuse = some k → left = k) (hd : d.ok) :
    Calls Try.prog 76 #[.pointer (some ⟨g, 0, none⟩)] w (SpendPost g vs vw d w) := by
  obtain ⟨secs, wait, fuse, off⟩ := d
  have x := hB.cell
  have y := hB.frozen
  have S4 := Lib.hid (fun u => hB.set_ 4 u)
  have S3 := Lib.hid (fun u => hB.set_ 3 u)
  have HB := Lib.hid hB
  have hk := hd.2.2
  clear hB hd
  cases fuse with
  | none =>
    clear h0 hk
    go_enter Try.func76, Try.ntmps76
    go_wp2
    go_ret
    refine ⟨rfl, ⟨_, S3.out _, fun k hk => ?_⟩, (Mod.set w ⟨g, 3, none⟩ _ :), by simp⟩
    simp [Dk.burn] at hk
  | some k =>
    obtain rfl := h0 k rfl
    cases k with
    | zero =>
      clear h0 hk
      go_enter Try.func76, Try.ntmps76
      go_wp2
      go_ret
      exact ⟨rfl, ⟨_, S4.out _, fun k hk => by cases hk; rfl⟩, (Mod.set w ⟨g, 4, none⟩ (.bool true) :), by simp⟩
    | succ k =>
      have hk' : k + 1 ≤ 9223372036854775807 := hk _ rfl
      obtain ⟨m, hm⟩ : ∃ m : Nat, m = k + 1 := ⟨_, rfl⟩
      rw [← hm] at x
      have hm1 : (0 : Int) < (m : Int) := by omega
      have hm2 : (m : Int) ≤ 9223372036854775807 := by omega
      have e : (m : Int) - 1 = (k : Int) := by omega
      have S3' : Hid (Blk (w.setCell ⟨g, 3, none⟩ (.int .i64 ((m : Int) - 1))) g 98 #[vs, vw, .bool true, .int .i64 ((m : Int) - 1), .bool off]) := Lib.hid (by simpa [hm] using S3.out (.int .i64 ((m : Int) - 1)))
      have z : ((m : Int) == 0) = false := beq_eq_false_iff_ne.2 (by omega)
      have E := Lib.hid e
      clear hk hk' hm e S4 S3 HB h0
      simp only [Option.isSome_some] at x
      go_enter Try.func76, Try.ntmps76
      go_wp2
      go_ret
      exact ⟨rfl, ⟨_, S3'.out, fun j hj => by cases hj; exact E.out⟩, (Mod.set w ⟨g, 3, none⟩ (.int .i64 ((m : Int) - 1)) :), by simp⟩
def RCutPost (B g : Nat) (d : Dk) (F : Nat → Prop) (n : Int) (w : World) (e : Ending) (w' : World) : Prop := e = .returned (.tuple #[]) ∧ RP w' B g (d.cut n) F ∧ Upd F w F w'
set_option maxRecDepth 100000 in
theorem rdisk_Cut (B g : Nat) (d : Dk) (F : Nat → Prop) (n : Int) (w : World) (h : RP w B g d F) (hn : n ≤ 9223372036854775807) :
    Calls Try.prog 58 #[.pointer (some ⟨g, 0, none⟩), .int .i64 n] w (RCutPost B g d F n w) := by
  have HD := Lib.hid h
  obtain ⟨As, cs, Aw, cw, left, hb, h0, hs, hv, hg, hok, hF⟩ := h
  have x := hb.cell
  have y := hb.frozen
  have HB := Lib.hid (And.intro hb (And.intro hs (And.intro hv hF)))
  have hgl := hb.lt
  clear hb hs hv hF h0
  have HN := Lib.hid hn
  clear hn
  cases ho : d.off with
  | true =>
    rw [ho] at x
    have P : RCutPost B g d F n w (.returned (.tuple #[])) w := ⟨rfl, by unfold Dk.cut; rw [if_pos ho]; exact HD.out, Upd.refl _ _⟩
    have HP := Lib.hid P
    clear P HD HB hok
    go_enter Try.func58, Try.ntmps58
    go_wp2
    go_end0
    exact HP.out
  | false =>
    rw [ho] at x
    have P : ∀ m : Int, m = (n.toNat : Int) → RCutPost B g d F n w (.returned (.tuple #[])) ((w.setCell ⟨g, 2, none⟩ (.bool true)).setCell ⟨g, 3, none⟩ (.int .i64 m)) := fun m hm => by
      obtain ⟨hb, hs, hv, hF⟩ := HB.out
      subst hm
      have e : d.cut n = { d with fuse := some n.toNat } := by unfold Dk.cut; rw [if_neg (by simp [ho])]
      have hok2 := Dk.ok_cut hok HN.out
      rw [e] at hok2
      have M : Mod F w ((w.setCell ⟨g, 2, none⟩ (.bool true)).setCell ⟨g, 3, none⟩ (.int .i64 n.toNat)) := ((Mod.refl F w).then_set (p := ⟨g, 2, none⟩) (.inl ((hF g).2 (.inl rfl))) _).then_set (p := ⟨g, 3, none⟩) (.inl ((hF g).2 (.inl rfl))) _
      refine ⟨rfl, ?_, M, fun i hi => .inl hi⟩
      rw [e]
      have b2 := hb.set_ 2 (.bool true)
      have s2 := hs.far (p := ⟨g, 2, none⟩) (hs.ne_blk hb (by decide)) (.bool true)
      have v2 := hv.far (p := ⟨g, 2, none⟩) (hv.ne_blk hb (by decide)) (.bool true)
      exact ⟨As, cs, Aw, cw, _, b2.set_ 3 _, fun k hk => by cases hk; rfl, s2.far (p := ⟨g, 3, none⟩) (s2.ne_blk b2 (by decide)) _, v2.far (p := ⟨g, 3, none⟩) (v2.ne_blk b2 (by decide)) _, hg, hok2, hF⟩
    have HP := Lib.hid P
    clear P HD HB hok
    by_cases h0 : 0 ≤ n
    · have e : max n 0 = n := by omega
      have hnn : ¬ n < 0 := by omega
      go_enter Try.func58, Try.ntmps58
      go_wp2
      go_end0
      exact HP.out _ (by omega)
    · have e : max n 0 = 0 := by omega
      have hnn : n < 0 := by omega
      go_enter Try.func58, Try.ntmps58
      go_wp2
      go_end0
      exact HP.out _ (by omega)
end Go.Proofs.Ytaledjcbblgmeaa
