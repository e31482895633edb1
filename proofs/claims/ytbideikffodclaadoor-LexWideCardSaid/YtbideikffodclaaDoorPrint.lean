/- value.Print, the reference's Print and Compare. -/
import Derived.Test.YtbideikffodclaaDoorDigM
import Derived.Test.YtbideikffodclaaDoorRefC
import Derived.Test.YtbideikffodclaaDoorRefB
import Derived.Test.YtbideikffodclaaDoorCmpV
namespace Go.Proofs.YtbideikffodclaaDoor
open Go.RowKit Go.Lib

/-- What value.Print hands back. -/
def printR (k n : Int) (s : ByteArray) : ByteArray × Int := if valB k n s then (if k = 2 then quoteR s else (⟨(decL n).toArray⟩, 0)) else (⟨#[]⟩, 3)

theorem ret_pair {a b : ByteArray} {c d : Int} (h : (a, c) = (b, d)) : Ending.returned (.tuple #[.string a, .int .i64 c]) = .returned (.tuple #[.string b, .int .i64 d]) := by
  simp only [Prod.mk.injEq] at h
  rw [h.1, h.2]

set_option maxHeartbeats 1000000 in
theorem ref3_print (k n : Int) (s : ByteArray) (w : World) (h1 : -9223372036854775808 ≤ n) (h2 : n ≤ 9223372036854775807) (hs : s.size ≤ 9223372036854775807) (hE : Env w) :
    Calls Tryd.prog 38 #[.agg #[.int .u8 k, .int .i64 n, .string s]] w fun e w' => e = .returned (.tuple #[.string (printR k n s).1, .int .i64 (printR k n s).2]) ∧ Below w.heap.size w w' := by
  have hb0 : ∀ o, Below w.heap.size w (w.alloc o) := fun o => (Below.refl _ _).alloc (Nat.le_refl _) o
  have HR := Lib.hid (fun w hE => ref3_right k n s w hs hE)
  have HE := Lib.hid hE
  clear hE
  cases hv : valB k n s with
  | false =>
    rw [hv] at HR
    have HP : Hid (printR k n s = (⟨#[]⟩, 3)) := Lib.hid (by rw [printR, hv]; rfl)
    clear hv
    go_enter Tryd.func38, Tryd.ntmps38
    go_wp2_with fail
    refine (HR.out _ (HE.out.below (hb0 _))).mono ?_
    rintro e w1 ⟨rfl, hb1⟩
    go_wp2
    go_ret2
    exact ⟨by rw [HP.out]; rfl, keepS' (hb0 _) hb1⟩
  | true =>
    rw [hv] at HR
    rcases valB_cases hv with ⟨rfl, e⟩ | ⟨rfl, rfl, e⟩
    · have HP : Hid (printR 1 n s = (⟨(decL n).toArray⟩, 0)) := Lib.hid (by rw [printR, hv]; rfl)
      clear hv e
      go_enter Tryd.func38, Tryd.ntmps38
      go_wp2_with fail
      refine (HR.out _ (HE.out.below (hb0 _))).mono ?_
      rintro e w1 ⟨rfl, hb1⟩
      have x := (Blk.below (Blk.new w _ _) hb1 (by simp)).cell
      have c1 := keepS' (hb0 _) hb1
      clear hb1
      go_wp2_with fail
      refine (ref_Digits (n.natAbs + 1) n _ (by omega) h1 h2).mono ?_
      rintro e w2 ⟨rfl, rfl⟩
      go_wp2
      go_ret2
      exact ⟨by rw [HP.out]; rfl, c1⟩
    · have HP : Hid (printR 2 0 s = quoteR s) := Lib.hid (by rw [printR, hv]; rfl)
      have hs32 : s.size ≤ 32 := by have := right_short e; simpa using this
      clear hv e
      go_enter Tryd.func38, Tryd.ntmps38
      go_wp2_with fail
      refine (HR.out _ (HE.out.below (hb0 _))).mono ?_
      rintro e w1 ⟨rfl, hb1⟩
      have x := (Blk.below (Blk.new w _ _) hb1 (by simp)).cell
      have c1 := keepS' (hb0 _) hb1
      clear hb1
      go_wp2_with fail
      refine (ref_quote s _ (by omega) (HE.out.below c1)).mono ?_
      rintro e w2 ⟨rfl, hb2⟩
      go_wp2
      go_ret2
      exact ⟨by rw [HP.out]; rfl, keepS' c1 hb2⟩
end Go.Proofs.YtbideikffodclaaDoor
