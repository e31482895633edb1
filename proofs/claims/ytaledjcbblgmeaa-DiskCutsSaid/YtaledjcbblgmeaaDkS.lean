/- A disk as data: sectors, writes that wait, its fuse, whether it is off. No program in sight. -/
import Derived.Test.YtaledjcbblgmeaaMod
namespace Go.Proofs.Ytaledjcbblgmeaa
open Go.RowKit

/-- A sector's bytes. -/
structure Sec where
  l : List UInt8
  h : l.length = 64
theorem Sec.eq {a b : Sec} (h : a.l = b.l) : a = b := by cases a; cases b; simp_all
def byteE (l : List UInt8) : List Value := l.map fun c => .int .u8 c.toNat
theorem byteE_length (l : List UInt8) : (byteE l).length = l.length := List.length_map ..
theorem byteE_one (l : List UInt8) : ∀ u ∈ byteE l, u.oneCell' = true := fun u hu => by
  obtain ⟨c, _, rfl⟩ := List.mem_map.1 hu
  rfl
def Sec.enc (s : Sec) : List Value := byteE s.l
theorem Sec.enc_length (s : Sec) : s.enc.length = 64 := (byteE_length _).trans s.h
theorem Sec.enc_one (s : Sec) : ∀ u ∈ s.enc, u.oneCell' = true := byteE_one _
/-- Bytes, and zeros behind them. -/
def pad (b : List UInt8) : Sec := ⟨(b ++ List.replicate 64 0).take 64, by simp⟩
theorem pad_l {b : List UInt8} (h : b.length ≤ 64) : (pad b).l = b ++ List.replicate (64 - b.length) 0 := by
  simp only [pad, List.take_append, List.take_replicate, List.take_of_length_le h]
  congr 2
  omega
def Sec.zero : Sec := pad []
/-- A write that waits. -/
structure Wr where
  at_ : Nat
  data : Sec
def Wr.enc (x : Wr) : List Value := .int .i64 x.at_ :: x.data.enc
theorem Wr.enc_length (x : Wr) : x.enc.length = 65 := by simp [Wr.enc, Sec.enc_length]
theorem Wr.enc_one (x : Wr) : ∀ u ∈ x.enc, u.oneCell' = true := fun u hu => by
  rcases List.mem_cons.1 hu with rfl | h
  · rfl
  · exact x.data.enc_one u h

structure Dk where
  secs : List Sec
  wait : List Wr
  fuse : Option Nat
  off : Bool
def Dk.ok (d : Dk) : Prop := (∀ x ∈ d.wait, x.at_ < d.secs.length) ∧ d.secs.length ≤ 128 ∧ ∀ k, d.fuse = some k → k ≤ 9223372036854775807
def Dk.new (n : Nat) : Dk := ⟨List.replicate n Sec.zero, [], none, false⟩
/-- What is wrong with a disk, and a sector's number. -/
def Dk.look (d : Dk) (i : Int) : Int := if d.off = true then 7 else if i < 0 ∨ (d.secs.length : Int) ≤ i then 2 else 0
/-- One more is done, or the disk goes off. -/
def Dk.burn (d : Dk) : Dk :=
  match d.fuse with
  | some 0 => { d with off := true }
  | some (k + 1) => { d with fuse := some k }
  | none => d
def Dk.burnt (d : Dk) : Bool := match d.fuse with
  | some 0 => false
  | _ => true
def Dk.writeE (d : Dk) (i : Int) (b : List UInt8) : Int := if d.look i ≠ 0 then d.look i else if 64 < b.length then 3 else if d.burnt = true then 0 else 7
def Dk.write (d : Dk) (i : Int) (b : List UInt8) : Dk :=
  if d.look i ≠ 0 then d else if 64 < b.length then d else if d.burnt = true then { d.burn with wait := d.wait ++ [⟨i.toNat, pad b⟩] } else d.burn
/-- The first k that wait, seen at a sector. -/
def Dk.seen (d : Dk) (i : Nat) (s : Sec) (k : Nat) : Sec := (d.wait.take k).foldl (fun b x => if x.at_ = i then x.data else b) s
def Dk.read (d : Dk) (i : Nat) : Sec := d.seen i (d.secs.getD i Sec.zero) d.wait.length
/-- Writes that wait, some of them, are done. -/
def landed (keep : Nat → Bool) : Nat → List Wr → List Sec → List Sec
  | _, [], s => s
  | k, x :: t, s => landed keep (k + 1) t (if keep k = true then s.set x.at_ x.data else s)
def Dk.flushE (d : Dk) : Int := if d.off = true then 7 else if d.burnt = true then 0 else 7
def Dk.flush (d : Dk) : Dk := if d.off = true then d else if d.burnt = true then { d.burn with secs := landed (fun _ => true) 0 d.wait d.secs, wait := [] } else d.burn
def Dk.cut (d : Dk) (n : Int) : Dk := if d.off = true then d else { d with fuse := some n.toNat }
def Dk.crash (d : Dk) (keep : List Bool) : Dk := ⟨landed (fun k => keep.getD k false) 0 d.wait d.secs, [], none, false⟩

theorem landed_length (keep : Nat → Bool) : ∀ (l : List Wr) (k : Nat) (s : List Sec), (landed keep k l s).length = s.length
  | [], _, _ => rfl
  | x :: t, k, s => by
    rw [landed, landed_length keep t]
    split <;> simp
theorem landed_snoc (keep : Nat → Bool) : ∀ (l : List Wr) (k : Nat) (s : List Sec) (x : Wr), landed keep k (l ++ [x]) s = if keep (k + l.length) = true then (landed keep k l s).set x.at_ x.data else landed keep k l s
  | [], k, s, x => by simp [landed]
  | y :: t, k, s, x => by
    rw [List.cons_append, landed, landed_snoc keep t (k + 1), landed]
    rw [show k + 1 + t.length = k + (y :: t).length by simp; omega]
theorem landed_take (keep : Nat → Bool) (l : List Wr) (s : List Sec) {k : Nat} {x : Wr} (h : l[k]? = some x) :
    landed keep 0 (l.take (k + 1)) s = if keep k = true then (landed keep 0 (l.take k) s).set x.at_ x.data else landed keep 0 (l.take k) s := by
  obtain ⟨hk, e⟩ := List.getElem?_eq_some_iff.1 h
  rw [List.take_succ_eq_append_getElem hk, landed_snoc, e, List.length_take, Nat.zero_add, show min k l.length = k by omega]
theorem Dk.seen_succ (d : Dk) (i : Nat) (s : Sec) {k : Nat} {x : Wr} (h : d.wait[k]? = some x) : d.seen i s (k + 1) = if x.at_ = i then x.data else d.seen i s k := by
  obtain ⟨hk, e⟩ := List.getElem?_eq_some_iff.1 h
  unfold Dk.seen
  rw [List.take_succ_eq_append_getElem hk, List.foldl_append, e]
  rfl

theorem Dk.ok_new {n : Nat} (h : n ≤ 128) : (Dk.new n).ok := ⟨fun x hx => by simp [Dk.new] at hx, by simpa [Dk.new] using h, fun k hk => by simp [Dk.new] at hk⟩
theorem Dk.burn_secs (d : Dk) : d.burn.secs = d.secs := by unfold Dk.burn; split <;> rfl
theorem Dk.burn_wait (d : Dk) : d.burn.wait = d.wait := by unfold Dk.burn; split <;> rfl
theorem Dk.ok_burn {d : Dk} (h : d.ok) : d.burn.ok := by
  obtain ⟨h1, h2, h3⟩ := h
  refine ⟨?_, ?_, ?_⟩
  · rw [Dk.burn_wait, Dk.burn_secs]; exact h1
  · rw [Dk.burn_secs]; exact h2
  · intro k hk
    unfold Dk.burn at hk
    split at hk
    · exact h3 k hk
    · rename_i m hm
      have := h3 _ hm
      have : m = k := by simpa using hk
      omega
    · exact h3 k hk
theorem Dk.ok_write {d : Dk} (h : d.ok) (i : Int) (b : List UInt8) : (d.write i b).ok := by
  have hb := Dk.ok_burn h
  unfold Dk.write
  split
  · exact h
  · rename_i hl
    split
    · exact h
    · split
      · refine ⟨fun x hx => ?_, hb.2.1, hb.2.2⟩
        rw [Dk.burn_secs]
        rcases List.mem_append.1 hx with h1 | h1
        · exact h.1 x h1
        · simp only [List.mem_singleton] at h1
          subst h1
          simp only [Dk.look] at hl
          split at hl
          · simp at hl
          · split at hl
            · simp at hl
            · simp only []
              omega
      · exact hb
theorem Dk.ok_flush {d : Dk} (h : d.ok) : d.flush.ok := by
  have hb := Dk.ok_burn h
  unfold Dk.flush
  split
  · exact h
  · split
    · exact ⟨fun x hx => by simp at hx, by simp only [landed_length]; exact h.2.1, hb.2.2⟩
    · exact hb
theorem Dk.ok_cut {d : Dk} (h : d.ok) {n : Int} (hn : n ≤ 9223372036854775807) : (d.cut n).ok := by
  unfold Dk.cut
  split
  · exact h
  · exact ⟨h.1, h.2.1, fun k hk => by simp at hk; omega⟩
theorem Dk.ok_crash {d : Dk} (h : d.ok) (keep : List Bool) : (d.crash keep).ok := ⟨fun x hx => by simp [Dk.crash] at hx, by simp only [Dk.crash, landed_length]; exact h.2.1, fun k hk => by simp [Dk.crash] at hk⟩
theorem Dk.write_len (d : Dk) (i : Int) (b : List UInt8) : (d.write i b).secs.length = d.secs.length := by
  unfold Dk.write
  split
  · rfl
  · split
    · rfl
    · split <;> simp [Dk.burn_secs]
theorem Dk.flush_len (d : Dk) : d.flush.secs.length = d.secs.length := by
  unfold Dk.flush
  split
  · rfl
  · split
    · simp [landed_length]
    · simp [Dk.burn_secs]
theorem Dk.cut_len (d : Dk) (n : Int) : (d.cut n).secs.length = d.secs.length := by unfold Dk.cut; split <;> rfl
theorem Dk.crash_len (d : Dk) (keep : List Bool) : (d.crash keep).secs.length = d.secs.length := by simp [Dk.crash, landed_length]
end Go.Proofs.Ytaledjcbblgmeaa
