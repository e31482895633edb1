/- value.Right, value.Bytes. -/
import Derived.Test.YtafbphiedaijmaaDoorEight
import Derived.Test.YtafbphiedaijmaaDoorFront
import Derived.Maps.AppendAt
import Derived.Laws.OwnMore
import Derived.Lib.AppendStr
namespace Go.Proofs.YtafbphiedaijmaaDoor
open Go.RowKit Go.Lib

/-- Can it be a value? -/
def valB (k n : Int) (s : ByteArray) : Bool := if k = 1 then s.toList.isEmpty else if k = 2 then (n == 0 && rightL s.data.toList) else false

theorem keepS' {W w0 w1 : World} (hs : Below W.heap.size W w0) (hb : Below w0.heap.size w0 w1) : Below W.heap.size W w1 := hs.trans (hb.mono hs.size)

set_option maxHeartbeats 1000000 in
theorem value_right (k n : Int) (s : ByteArray) (w : World) :
    Calls Tryd.prog 27 #[.agg #[.int .u8 k, .int .i64 n, .string s]] w fun e w' => e = .returned (.bool (valB k n s)) ∧ Below w.heap.size w w' := by
  have hb0 : ∀ o, Below w.heap.size w (w.alloc o) := fun o => (Below.refl _ _).alloc (Nat.le_refl _) o
  by_cases h1 : k = 1
  · subst h1
    have H : Hid (valB 1 n s = s.toList.isEmpty) := Lib.hid rfl
    go_enter Tryd.func27, Tryd.ntmps27
    go_wp2
    go_ret
    exact ⟨ret_bool H.out.symm, hb0 _⟩
  · by_cases h2 : k = 2
    · subst h2
      by_cases hn : n = 0
      · subst hn
        have H : Hid (valB 2 0 s = rightL s.data.toList) := Lib.hid (by unfold valB; rw [if_neg (by decide), if_pos rfl]; simp)
        go_enter Tryd.func27, Tryd.ntmps27
        go_wp2_with fail
        refine (word_right _ _).mono ?_
        rintro e w1 ⟨rfl, hb1⟩
        go_wp2
        go_ret
        exact ⟨ret_bool H.out.symm, keepS' (hb0 _) hb1⟩
      · have hn' : (n == 0) = false := beq_eq_false_iff_ne.2 hn
        have H : Hid (valB 2 n s = false) := Lib.hid (by unfold valB; rw [if_neg (by decide), if_pos rfl, hn']; rfl)
        clear hn
        go_enter Tryd.func27, Tryd.ntmps27
        go_wp2
        go_ret
        exact ⟨ret_bool H.out.symm, hb0 _⟩
    · have e1 : (k == 1) = false := beq_eq_false_iff_ne.2 h1
      have e2 : (k == 2) = false := beq_eq_false_iff_ne.2 h2
      have H : Hid (valB k n s = false) := Lib.hid (by unfold valB; rw [if_neg h1, if_neg h2])
      go_enter Tryd.func27, Tryd.ntmps27
      go_wp2
      go_ret
      exact ⟨ret_bool H.out.symm, hb0 _⟩

/-- A value's bytes. -/
def bytesV (k n : Int) (s : ByteArray) : List UInt8 := if k = 1 then 1 :: eightL n else 2 :: (s.data.toList ++ [0])

theorem addr_add (g j : Nat) : (⟨g, 0, none⟩ : Addr).add j = ⟨g, j, none⟩ := by unfold Addr.add; split <;> simp_all
theorem arr_cells (w : World) (cs : Array Value) (t : TypeId) (o : Obj) (j : Nat) (u : Value) (h : cs.toList[j]? = some u) : ((w.alloc (.cells cs t)).alloc o).cell? ((⟨w.heap.size, 0, none⟩ : Addr).add j) = some u := by
  rw [addr_add, World.cell?_alloc_lt _ _ _ (by simp)]
  have hh := heap_alloc_new w (.cells cs t)
  generalize w.alloc (.cells cs t) = w1 at *
  unfold World.cell?
  simp only [hh]
  simpa using h
theorem lit_own (w : World) (B : Nat) (A : Obj) (x : Value) (hB : B ≤ w.heap.size) : ((w.alloc A).alloc (.cells #[x] 5)).ownsRow B 5 1 (.slice (some ⟨w.heap.size + 1, 0, none⟩) 1 1) 1 [x] := by
  have e : (w.alloc A).heap.size = w.heap.size + 1 := by simp
  rw [← e]
  exact World.ownsRow_lit (w.alloc A) #[x] 1 (by rw [e]; omega) (by unfold maxLen; omega) rfl
theorem lit_own0 (w : World) (B : Nat) (x : Value) (hB : B ≤ w.heap.size) : (w.alloc (.cells #[x] 5)).ownsRow B 5 1 (.slice (some ⟨w.heap.size, 0, none⟩) 1 1) 1 [x] :=
  World.ownsRow_lit w #[x] 1 hB (by unfold maxLen; omega) rfl
theorem eight_cells (n : Int) : ∃ e0 e1 e2 e3 e4 e5 e6 e7 : UInt8, eightL n = [e0, e1, e2, e3, e4, e5, e6, e7] := ⟨_, _, _, _, _, _, _, _, rfl⟩

set_option maxRecDepth 100000 in
set_option maxHeartbeats 2000000 in
theorem value_bytes (k n : Int) (s : ByteArray) (w : World) (h1 : -9223372036854775808 ≤ n) (h2 : n ≤ 9223372036854775807) (hv : valB k n s = true) :
    Calls Tryd.prog 20 #[.agg #[.int .u8 k, .int .i64 n, .string s]] w fun e w' => (∃ v, e = .returned (.tuple #[v, .int .i64 0]) ∧ OwnB w.heap.size w' v (bytesV k n s)) ∧ Below w.heap.size w w' := by
  obtain ⟨i0, hi, hz0, hz1, hz2⟩ := info_parts infoByte
  have hb0 : ∀ o, Below w.heap.size w (w.alloc o) := fun o => (Below.refl _ _).alloc (Nat.le_refl _) o
  have HR := Lib.hid (fun w => value_right k n s w)
  rw [hv] at HR
  by_cases hk : k = 1
  · subst hk
    obtain ⟨e0, e1, e2, e3, e4, e5, e6, e7, hc⟩ := eight_cells n
    have HV : Hid (bytesV 1 n s = [1, e0, e1, e2, e3, e4, e5, e6, e7]) := Lib.hid (by rw [bytesV, if_pos rfl, hc])
    have HE : Hid (∀ w, Calls Tryd.prog 38 #[.int .i64 n] w fun e w' => e = .returned (.agg #[.int .u8 e0.toNat, .int .u8 e1.toNat, .int .u8 e2.toNat, .int .u8 e3.toNat, .int .u8 e4.toNat, .int .u8 e5.toNat, .int .u8 e6.toNat, .int .u8 e7.toNat]) ∧ Below w.heap.size w w') := Lib.hid (fun w => by
      have h := value_eight n w h1 h2
      rw [hc] at h
      exact h)
    clear hv hc
    go_enter Tryd.func20, Tryd.ntmps20
    go_wp2_with fail
    refine (HR.out _).mono ?_
    rintro e w1 ⟨rfl, hb1⟩
    have d0 : w1.cell? ⟨w.heap.size, 0, none⟩ = some (.int .u8 1) := by rw [hb1.cell (p := ⟨w.heap.size, 0, none⟩) (by simp)]; simp [go_sem]
    have d1 : w1.cell? ⟨w.heap.size, 1, none⟩ = some (.int .i64 n) := by rw [hb1.cell (p := ⟨w.heap.size, 1, none⟩) (by simp)]; simp [go_sem]
    have c1 := keepS' (hb0 _) hb1
    clear hb1
    go_wp2_with fail
    refine (HE.out _).mono ?_
    rintro e w2 ⟨rfl, hb2⟩
    have c2 := keepS' c1 hb2
    clear hb2 c1 d0 d1
    have hz2' : w.heap.size ≤ w2.heap.size := c2.size
    go_wp2_with (at_builtin; refine wpList_append_own _ rfl _ _ 27 rfl w.heap.size 5 i0 (.int .u8 0) 1 1 Tryd.underlying27 hi hz0 hz1 hz2 rfl (by decide) _ _ _ rfl (lit_own w2 w.heap.size _ (.int .u8 1) hz2') ⟨w2.heap.size, 0, none⟩ 8 8 [.int .u8 e0.toNat, .int .u8 e1.toNat, .int .u8 e2.toNat, .int .u8 e3.toNat, .int .u8 e4.toNat, .int .u8 e5.toNat, .int .u8 e6.toNat, .int .u8 e7.toNat] rfl rfl (fun j u hj => arr_cells w2 _ _ _ j u hj) (by simp [Value.oneCell']) (by unfold maxLen; omega) (by omega) (by simp; omega) ?_)
    intro v' w3 hown' hgrow _
    have HO : Hid (OwnB w.heap.size w3 v' (bytesV 1 n s)) := Lib.hid (by
      rw [HV.out]
      exact hown')
    have c3 : Below w.heap.size w w3 := ((c2.alloc hz2' _).alloc (by simp; omega) _).grown hgrow (by simp; omega) (fun k hk => by simp [Value.ownBlock] at hk; omega)
    clear hown' hgrow HV
    go_wp2
    go_ret2
    exact ⟨⟨_, rfl, HO.out⟩, c3⟩
  · have h2k : k = 2 := by
      unfold valB at hv
      rw [if_neg hk] at hv
      split at hv
      · assumption
      · cases hv
    subst h2k
    have hr : rightL s.data.toList = true := by
      unfold valB at hv
      rw [if_neg hk, if_pos rfl] at hv
      simp at hv
      exact hv.2
    have h32 : s.size ≤ 32 := by have := right_short hr; simpa using this
    have HV : Hid (bytesV 2 n s = 2 :: (s.data.toList ++ [0])) := Lib.hid rfl
    clear hv hr hk
    go_enter Tryd.func20, Tryd.ntmps20
    go_wp2_with fail
    refine (HR.out _).mono ?_
    rintro e w1 ⟨rfl, hb1⟩
    have d0 : w1.cell? ⟨w.heap.size, 0, none⟩ = some (.int .u8 2) := by rw [hb1.cell (p := ⟨w.heap.size, 0, none⟩) (by simp)]; simp [go_sem]
    have d2 : w1.cell? ⟨w.heap.size, 2, none⟩ = some (.string s) := by rw [hb1.cell (p := ⟨w.heap.size, 2, none⟩) (by simp)]; simp [go_sem]
    have hlt : w.heap.size < w1.heap.size := by have := hb1.size; simp at this; omega
    have c1 := keepS' (hb0 _) hb1
    clear hb1
    have hz1' : w.heap.size ≤ w1.heap.size := c1.size
    go_wp2_with (at_builtin; refine wpList_append_own_string _ rfl _ _ 27 9 rfl w.heap.size 5 i0 Tryd.underlying27 Tryd.underlying9 hi hz0 hz1 hz2 _ _ _ rfl (lit_own0 w1 w.heap.size (.int .u8 2) hz1') s rfl (by unfold maxLen; omega) (by omega) (by simp; omega) ?_)
    intro v2 w2 hown2 hgrow2 _
    have c2 : Below w.heap.size w w2 := (c1.alloc hz1' _).grown hgrow2 (by simp; omega) (fun k hk => by simp [Value.ownBlock] at hk; omega)
    have hz2' : w.heap.size ≤ w2.heap.size := c2.size
    clear d0 d2 hgrow2 c1
    go_wp2_with (at_builtin; refine wpList_append_own _ rfl _ _ 27 rfl w.heap.size 5 i0 (.int .u8 0) 1 1 Tryd.underlying27 hi hz0 hz1 hz2 rfl (by decide) _ _ _ rfl (hown2.alloc _) ⟨w2.heap.size, 0, none⟩ 1 1 [.int .u8 0] rfl rfl (cell_one_new _ _ _) (by simp [Value.oneCell']) (by unfold maxLen; omega) (by omega) (by simp; omega) ?_)
    intro v' w3 hown' hgrow _
    have HO : Hid (OwnB w.heap.size w3 v' (bytesV 2 n s)) := Lib.hid (by
      rw [HV.out]
      unfold OwnB
      have e1 : (2 :: (s.data.toList ++ [0])).length = 1 + s.size + 1 := by simp; omega
      have e2 : Lib.byteCells (2 :: (s.data.toList ++ [0])) = [.int .u8 2] ++ strCells s ++ [.int .u8 0] := by simp [Lib.byteCells, strCells]
      rw [e1, e2]
      exact hown')
    have c3 : Below w.heap.size w w3 := (c2.alloc hz2' _).grown hgrow (by simp; omega) (fun k hk => (hown2.lt k hk).1)
    clear hown' hgrow hown2 HV
    go_wp2
    go_ret2
    exact ⟨⟨_, rfl, HO.out⟩, c3⟩
end Go.Proofs.YtafbphiedaijmaaDoor
