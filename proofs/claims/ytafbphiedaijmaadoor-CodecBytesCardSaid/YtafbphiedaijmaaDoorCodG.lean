/- codec.Decode. -/
import Derived.Test.YtafbphiedaijmaaDoorCodF
import Derived.Tactics2
import Derived.Laws.Pointers
namespace Go.Proofs.YtafbphiedaijmaaDoor
open Go.RowKit Go.Lib

set_option maxRecDepth 100000 in
set_option maxHeartbeats 1000000 in
theorem decode_idle (p q : Addr) (w : World) :
    CallsD Tryd.prog 24 #[.pointer (some p), .pointer (some q)] .returning w fun e u' w' => e = .returned (.tuple #[]) ∧ u' = .returning ∧ w' = w := by
  refine callsD_of_wpS Tryd.func24 rfl fun c₀ cs hu => ?_
  apply wpS_seq
  apply wpS_region
  simp [wpOpsS, go_sem, recoverD, hu, Tryd.ntmps24, Exit.thenS]
  refine wpS_of_wp ?_
  go_wp2
  cases c₀
  simp_all [bodyPostS, results, Tryd.results24]

set_option maxRecDepth 100000 in
set_option maxHeartbeats 1000000 in
theorem decode_caught (G H : Nat) (w : World) (hG : Blk w G 26 #[.slice none 0 0, .int .i64 0, .int .i64 0]) (hH : Blk w H 29 #[.int .i64 0]) :
    CallsD Tryd.prog 24 #[.pointer (some ⟨G, 0, none⟩), .pointer (some ⟨H, 0, none⟩)] (.panicking torn) w fun e u' w' => e = .returned (.tuple #[]) ∧ u' = .panicking [{ v := .iface 48 (.agg #[]), recovered := true }] ∧
      w' = (((w.setCell ⟨G, 0, none⟩ (.slice none 0 0)).setCell ⟨G, 1, none⟩ (.int .i64 0)).setCell ⟨G, 2, none⟩ (.int .i64 0)).setCell ⟨H, 0, none⟩ (.int .i64 3) := by
  have hne := hG.ne_ hH (by decide)
  have x0 := hG.cell_ _ (i := 0) rfl
  have x1 := hG.cell_ _ (i := 1) rfl
  have x2 := hG.cell_ _ (i := 2) rfl
  have xf := hG.frozen
  have y0 := hH.cell_ _ (i := 0) rfl
  have yf := hH.frozen
  refine callsD_of_wpS Tryd.func24 rfl fun c₀ cs hu => ?_
  apply wpS_seq
  apply wpS_region
  unfold torn at hu
  simp [wpOpsS, go_sem, recoverD, hu, Tryd.ntmps24, Exit.thenS]
  refine wpS_of_wp ?_
  have hta : ∀ w : World, (Instr.typeAssert (.iface 48 (.agg #[])) 20 48 true).run Tryd.prog w = .ok (.tuple #[.agg #[], .bool true]) w := fun w => by rfl
  have htm : (#[Value.pointer (some ⟨G, 0, none⟩), .pointer (some ⟨H, 0, none⟩)] ++ (((Array.replicate 9 undef).setIfInBounds 1 (Value.iface 48 (.agg #[]))).setIfInBounds 0 (Value.iface 48 (.agg #[])))) = #[Value.pointer (some ⟨G, 0, none⟩), .pointer (some ⟨H, 0, none⟩), .iface 48 (.agg #[]), .iface 48 (.agg #[]), undef, undef, undef, undef, undef, undef, undef] := rfl
  rw [htm]
  clear htm
  go_wp2
  simp [bodyPostS, results, Tryd.results24]

theorem World.ownsRow_mono' {α : Type} {B B' : Nat} {e : TypeId} {size : Nat} {enc : α → List Value} {w : World} {v : Value} {l : List α} (h : Own B e size enc w v l) (hb : B' ≤ B) : Own B' e size enc w v l := by
  refine ⟨h.1, ?_⟩
  rcases h.2 with h | ⟨g, cap, cur, h1, h2, h3⟩
  · exact .inl h
  · exact .inr ⟨g, cap, cur, h1, by omega, h3⟩
/-- What codec.Decode hands back. -/
def DecPost (l : List UInt8) (w : World) (e : Ending) (w' : World) : Prop :=
  Below w.heap.size w w' ∧ ((∃ r v, IsRow l r ∧ e = .returned (.tuple #[.agg #[v, .int .i64 r.f, .int .i64 r.t], .int .i64 0]) ∧ Own w.heap.size 43 3 Vl.enc w' v r.l) ∨
    ((∀ r, ¬ IsRow l r) ∧ e = .returned (.tuple #[.agg #[.slice none 0 0, .int .i64 0, .int .i64 0], .int .i64 3])))

theorem below_gr {w w0 w' : World} {g : Nat} (h : Below w.heap.size w w0) (hg : w0.grownBy w' (some g)) (hb : w.heap.size ≤ g) : Below w.heap.size w w' :=
  h.grown hg h.size (fun k e => by rw [← Option.some.inj e]; exact hb)

set_option maxRecDepth 100000 in
set_option maxHeartbeats 4000000 in
theorem codec_decode (v : Value) (l : List UInt8) (w : World) (hS : SlU w v l) (hl : l.length ≤ 4398046511104) :
    Calls Tryd.prog 8 #[v] w (DecPost l w) := by
  obtain ⟨A, c, rfl⟩ := hS.slice
  have hmf : ∀ (fn : Fn) (first cap : Array Value) (w : World), (Instr.makeFunc fn first cap).run Tryd.prog w = .ok (.func fn first cap) w := fun _ _ _ _ => rfl
  obtain ⟨W0, hW0⟩ : ∃ W0, W0 = ((w.alloc (.cells #[.slice none 0 0, .int .i64 0, .int .i64 0] 26)).alloc (.cells #[.int .i64 0] 29)).alloc (.cells #[.slice A l.length c] 51) := ⟨_, rfl⟩
  have q0 : Below w.heap.size w W0 := by rw [hW0]; exact (((Below.refl _ _).alloc (Nat.le_refl _) _).alloc (by simp) _).alloc (by simp; omega) _
  have b1 : Blk W0 w.heap.size 26 #[.slice none 0 0, .int .i64 0, .int .i64 0] := by rw [hW0]; exact ((Blk.new _ _ _).alloc _).alloc _
  have b2 : Blk W0 (w.heap.size + 1) 29 #[.int .i64 0] := by
    rw [hW0]
    have := Blk.new (w.alloc (.cells #[.slice none 0 0, .int .i64 0, .int .i64 0] 26)) 29 #[.int .i64 0]
    simpa using this.alloc (.cells #[.slice A l.length c] 51)
  have b3 : Blk W0 (w.heap.size + 2) 51 #[.slice A l.length c] := by
    rw [hW0]
    have := Blk.new ((w.alloc (.cells #[.slice none 0 0, .int .i64 0, .int .i64 0] 26)).alloc (.cells #[.int .i64 0] 29)) 51 #[.slice A l.length c]
    simpa using this
  have hRd : Rd w.heap.size W0 (w.heap.size + 2) l := ⟨A, _, c, b3, hS.below q0, fun h0 g1 o1 e => by
    subst e
    exact hS.lt h0⟩
  have hz0 := b3.lt
  have HW0 := Lib.hid hW0
  clear hW0 hS b3
  go_enter_defers Tryd.func8, Tryd.ntmps8
  go_wp2_with fail
  rw [← HW0.out]
  refine (reader_row (w.heap.size + 2) l W0 hRd (by omega) hl).mono ?_
  rintro e w1 ⟨hg1, ⟨r, vr, hr, rfl, hO⟩ | ⟨hno, rfl⟩⟩
  · have b11 := b1.grown hg1 (by simp)
    have b21 := b2.grown hg1 (by simp)
    have q1 := below_gr q0 hg1 (by omega)
    obtain ⟨Av, cv, rfl⟩ := hO.slice
    have x0 := b11.cell_ _ (i := 0) rfl
    have x1 := b11.cell_ _ (i := 1) rfl
    have x2 := b11.cell_ _ (i := 2) rfl
    have xf := b11.frozen
    have y0 := b21.cell_ _ (i := 0) rfl
    have yf := b21.frozen
    have hO1 : Own w.heap.size 43 3 Vl.enc w1 (.slice Av r.l.length cv) r.l := World.ownsRow_mono' hO (by omega)
    have hot : (Value.slice Av r.l.length cv).ownBlock ≠ some w.heap.size := fun e => hO1.apart b11 (fun cur h => by injection h with _ h; exact absurd h (by decide)) e.symm
    have hoe : (Value.slice Av r.l.length cv).ownBlock ≠ some (w.heap.size + 1) := fun e => hO1.apart b21 (fun cur h => by injection h with _ h; exact absurd h (by decide)) e.symm
    have HO := Lib.hid ((((hO1.far (p := ⟨w.heap.size, 0, none⟩) hot (.slice Av r.l.length cv)).far (p := ⟨w.heap.size, 1, none⟩) hot (.int .i64 r.f)).far (p := ⟨w.heap.size, 2, none⟩) hot (.int .i64 r.t)).far (p := ⟨w.heap.size + 1, 0, none⟩) hoe (.int .i64 0))
    have HB := Lib.hid ((((q1.setCell (p := ⟨w.heap.size, 0, none⟩) (Nat.le_refl _) (.slice Av r.l.length cv)).setCell (p := ⟨w.heap.size, 1, none⟩) (Nat.le_refl _) (.int .i64 r.f)).setCell (p := ⟨w.heap.size, 2, none⟩) (Nat.le_refl _) (.int .i64 r.t)).setCell (p := ⟨w.heap.size + 1, 0, none⟩) (by simp) (.int .i64 0))
    have HC := Lib.hid ((((b11.set_ 0 (.slice Av r.l.length cv)).set_ 1 (.int .i64 r.f)).set_ 2 (.int .i64 r.t)).far (p := ⟨w.heap.size + 1, 0, none⟩) (by simp) (.int .i64 0))
    have HD := Lib.hid ((((b21.far (p := ⟨w.heap.size, 0, none⟩) (by simp) (.slice Av r.l.length cv)).far (p := ⟨w.heap.size, 1, none⟩) (by simp) (.int .i64 r.f)).far (p := ⟨w.heap.size, 2, none⟩) (by simp) (.int .i64 r.t)).set_ 0 (.int .i64 0))
    have HR := Lib.hid hr
    clear b1 b2 b11 b21 hO hO1 hot hoe hr HW0 q0 hRd
    go_wp2
    refine leaves_cons (f := 24) (args := #[.pointer (some ⟨w.heap.size, 0, none⟩), .pointer (some ⟨w.heap.size + 1, 0, none⟩)]) (by simp) (by simp [go_sem]) ?_
    refine (decode_idle _ _ _).mono ?_
    rintro e u' w'' ⟨rfl, rfl, rfl⟩
    have x3 := HC.out.cell
    have y3 := HD.out.cell
    simp [Leaves, settle, results, Tryd.results8, go_sem, x3, y3]
    exact ⟨HB.out, .inl ⟨r, _, HR.out, rfl, HO.out⟩⟩
  · have b11 := b1.grown hg1 (by simp)
    have b21 := b2.grown hg1 (by simp)
    have q1 := below_gr q0 hg1 (by omega)
    refine leaves_cons (f := 24) (args := #[.pointer (some ⟨w.heap.size, 0, none⟩), .pointer (some ⟨w.heap.size + 1, 0, none⟩)]) (by simp) (by simp [go_sem]) ?_
    refine (decode_caught w.heap.size (w.heap.size + 1) _ b11 b21).mono ?_
    rintro e u' w'' ⟨rfl, rfl, rfl⟩
    have x3 := ((((b11.set_ 0 (.slice none 0 0)).set_ 1 (.int .i64 0)).set_ 2 (.int .i64 0)).far (p := ⟨w.heap.size + 1, 0, none⟩) (by simp) (.int .i64 3)).cell
    have y3 := ((((b21.far (p := ⟨w.heap.size, 0, none⟩) (by simp) (.slice none 0 0)).far (p := ⟨w.heap.size, 1, none⟩) (by simp) (.int .i64 0)).far (p := ⟨w.heap.size, 2, none⟩) (by simp) (.int .i64 0)).set_ 0 (.int .i64 3)).cell
    have HB := ((((q1.setCell (p := ⟨w.heap.size, 0, none⟩) (Nat.le_refl _) (.slice none 0 0)).setCell (p := ⟨w.heap.size, 1, none⟩) (Nat.le_refl _) (.int .i64 0)).setCell (p := ⟨w.heap.size, 2, none⟩) (Nat.le_refl _) (.int .i64 0)).setCell (p := ⟨w.heap.size + 1, 0, none⟩) (by simp) (.int .i64 3))
    simp [Leaves, settle, results, Tryd.results8, go_sem, x3, y3]
    exact ⟨HB, .inr ⟨hno, rfl⟩⟩
end Go.Proofs.YtafbphiedaijmaaDoor
