/- The wrap with the reach; an argument that is a slice of bytes, opened. -/
import Derived.Test.YtafbphiedaijmaaDoorArgs
import Derived.Test.YtafbphiedaijmaaDoorRead
import Derived.ChangeSlices
namespace Go.Proofs.YtafbphiedaijmaaDoor
open Go.ChangeShapes Go.WideShapes Go.ChangeAt Go.RowKit Go.Joins

section
variable {H : Type} {enc : TypeId × Value → H}
/-- The wrap of a row that lists variables, with the world's shape and the reach. -/
theorem handed_sized {a : Assume} {C : Checked} {os : Os} {f : FuncId} {fn : Func} {s : ChangeSpec} {conds : List PathCond} {apart fresh handsOn again : Bool} {X : World → Array Value → Prop}
    (hX : ∀ (w w' : World) (args : Array Value), w.heap = w'.heap → X w args → X w' args)
    (own : ownKnob C.prog.godebug = none) (started : os.Started) (noInit : C.prog.inits.idxOf? f = none) (hfn : C.prog.funcs[f]? = some fn)
    (witness : ∃ (w : World) (tape : Tape) (i : Input), w.os = os ∧ (w.forCall tape i).Shaped C.prog ∧ i.vars = [] ∧ Input.okWide C.prog (w.forCall tape i) .any w.heap.size f i ∧
      ((s.pre enc C.prog fn conds apart (w.forCall tape i).memory i.args ∧ X (w.forCall tape i).memory i.args) ∧ sizedMet enc C.prog fn (OpenSpec.ofChange s) apart (w.forCall tape i).memory i.args) ∧ a.holds C.prog (lone (Frame.enter C.prog f i.args .normal) [] (w.forCall tape i)))
    (contract : ∀ (W : World) (base : Nat) (args : Array Value) (ds gs : List (DataW H)) (before : List MemPlace),
      (∀ (j : Nat) t v, fn.params[j]? = some t → args[j]? = some v → Value.okWide C.prog W .any base t v) →
      DataW.Whole enc C.prog fn.params.toList s.vars apart W args.toList ds gs before → (DataW.weightsEach C.prog (fn.params.toList ++ s.plain.varTypes C.prog) (ds ++ gs)).all (· ≤ reachBytes) = true → X W args → W.ShapedOpen C.prog →
      Calls C.prog f args W fun e W' => ∃ v, e = .returned v ∧ s.post enc C.prog fn apart fresh handsOn again W args v W') :
    ReturnsInHanded a C os f .any (fun w args => (s.pre enc C.prog fn conds apart w args ∧ X w args) ∧ sizedMet enc C.prog fn (OpenSpec.ofChange s) apart w args) (s.post enc C.prog fn apart fresh handsOn again) := by
  refine returnsInHanded_of_calls own started noInit witness ?_
  intro w tape i _ hsh _ hok hpre _
  obtain ⟨_, _, _, fn', hfn', _, _, _, _, hval⟩ := hok
  have e : fn' = fn := Option.some.inj (hfn'.symm.trans hfn)
  subst e
  obtain ⟨⟨⟨ds, gs, before, hw, _⟩, hx⟩, hz⟩ := hpre
  refine (contract (w.forCall tape i) w.heap.size i.args ds gs before hval (DataW.Whole.of_heap (w' := w.forCall tape i) (by rfl) hw) (hz.weights hw) (hX _ _ _ (by rfl) hx) hsh).mono fun e W' ⟨v, he, hp⟩ => ?_
  subst he
  exact ChangeSpec.post_blind hp
end

section
variable {H : Type} {enc : TypeId × Value → H} {w : World} {base : Nat} {held : Bool}
theorem cellsByte1 : Tryd.prog.cellsOf 5 = 1 := by kernel_rfl
theorem bytesByte1 : Tryd.prog.bytesOf 5 = 1 := by kernel_rfl
theorem open_bytes {r : Reach} {b0 : Nat} {v : Value} {d : DataW H} {p : List MemPlace} (hv : Value.okWide Tryd.prog w r b0 27 v) (h : DataW.Trod enc Tryd.prog w base (fun _ => true) held 27 v d p) :
    ∃ l : List UInt8, SlB w v l ∧ (l = [] ∨ ∃ e s : List (DataW H), d = .slice e s ∧ e.length = l.length) := by
  obtain ⟨a', l', c', rfl⟩ := okWide_slice Tryd.underlying27 hv
  obtain ⟨fuel, hf⟩ := h
  rcases Go.ChangeShapes.open_ints Tryd.underlying27 Tryd.underlying5 cellsByte1 hf with ⟨hcs, _⟩ | ⟨a, len, cap, zs, hcs, _, hle, _, hzl, hx, hcell, hwf⟩
  · have hv' : Value.slice a' l' c' = .slice none 0 0 := by simpa [Value.cells] using hcs
    exact ⟨[], .inl ⟨rfl, .inl hv'⟩, .inl rfl⟩
  · have hv' : Value.slice a' l' c' = .slice (some a) len cap := by simpa [Value.cells] using hcs
    rw [if_pos rfl] at hzl
    by_cases h0 : len = 0
    · subst h0
      exact ⟨[], .inl ⟨rfl, .inr ⟨a, cap, hv'⟩⟩, .inl rfl⟩
    · obtain ⟨b, off, rfl, hc⟩ := ints_at hcell (by omega)
      refine ⟨(zs.take len).map fun z => UInt8.ofNat z.toNat, .inr ⟨b, off, cap, ?_, ?_, ?_, ?_⟩, .inr ⟨_, _, by rw [← (Prod.mk.inj hx).1], ?_⟩⟩
      · rw [hv']; simp; omega
      · simp; omega
      · exact World.block_lt_of_cell? _ _ (hc 0 (by omega))
      · intro j x hj
        have hj' : j < len := by
          have := List.getElem?_eq_some_iff.1 hj
          obtain ⟨h, _⟩ := this
          simp at h
          omega
        rw [hc j (by omega)]
        have hb := bounds_u8 (hwf (zs.getD j 0) (by rw [List.getD_eq_getElem?_getD, List.getElem?_eq_getElem (by omega)]; exact List.getElem_mem _))
        rw [List.getElem?_map, List.getElem?_take, if_pos hj'] at hj
        rw [List.getElem?_eq_getElem (by omega)] at hj
        rw [List.getD_eq_getElem?_getD, List.getElem?_eq_getElem (by omega)] at hb ⊢
        simp at hj hb ⊢
        rw [← hj]
        simp
        omega
      · simp [lits]
end
end Go.Proofs.YtafbphiedaijmaaDoor
