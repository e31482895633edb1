/- The walk of DiskStays. -/
import Derived.Test.YtaledjcbblgmeaaDkV
import Derived.Deep.QuietTactic
import Derived.BigQuiet
namespace Go.Proofs.Ytaledjcbblgmeaa
open Go.RowKit

def strE (s : ByteArray) : List Value := [.string s]
theorem strE_length (s : ByteArray) : (strE s).length = 1 := rfl
theorem strE_one (s : ByteArray) : ∀ u ∈ strE s, u.oneCell' = true := by
  intro u hu
  simp only [strE, List.mem_cons, List.not_mem_nil, or_false] at hu
  subst hu; rfl
theorem infoStr : (Try.prog.info? 9).map (fun i => (i.zero, i.size, i.bytes)) = some (some (.string ⟨#[]⟩), 1, 16) := by kernel_rfl
def told (D : Dk) (i : Nat) : ByteArray := ⟨(D.read i).l.toArray⟩
theorem Dk.crash_crash (D : Dk) (keep : List Bool) : (D.crash []).crash keep = D.crash [] := by simp [Dk.crash, landed]
theorem told_step (D : Dk) (k : Nat) : (List.range (k + 1)).map (told D) = (List.range k).map (told D) ++ [told D k] := by rw [List.range_succ, List.map_append]; rfl

set_option maxRecDepth 100000 in
set_option maxHeartbeats 4000000 in
theorem diskStays_walk (v vk : Value) (l : List De) (keep : List Bool) (w : World) (hS : Sl 4 De.enc w v l) (hr : ∀ x ∈ l, x.ok w) (hl : l.length ≤ maxLen) (hk : Sl 1 boE w vk keep) :
    Calls Try.prog 5 #[v, vk] w fun e w' => e = .returned (.bool true) ∧ Below w.heap.size w w' := by
  have HP := Lib.hid (play5 v l w hS hr hl)
  obtain ⟨Ak, ck, rfl⟩ := hk.slice
  have HK := Lib.hid hk
  clear hS hr hl hk
  obtain ⟨i0, hi, hz0, hz1, hz2⟩ := info_parts infoStr
  go_enter Try.func5, Try.ntmps5
  go_wp2_with fail
  refine HP.out.mono ?_
  rintro e w1 ⟨gd, gr, D, F, rfl, hP, hD4, hDw, hB⟩
  have H1 := Lib.hid (And.intro hP (And.intro hDw (And.intro hB hD4)))
  clear hP hD4 hDw hB HP
  go_wp2_with fail
  refine (live5 w1).mono ?_
  rintro e w2 ⟨rfl, b2⟩
  have p2 := H1.out.1.below b2
  have q2 := H1.out.2.2.1.trans (b2.mono H1.out.2.2.1.size)
  obtain ⟨F1, F2, p3, _, _, _⟩ := p2
  have H2 := Lib.hid (And.intro p3 q2)
  have HDW := H1.out.2.1
  clear p3 q2 b2
  go_wp2_with fail
  refine (disk_Crash w.heap.size gd D F1 [] none 0 0 w2 H2.out.1 (Sl.nil _ _ _) (fun h => by simp at h) (by omega)).mono ?_
  rintro e w4 ⟨rfl, F4, h4, u4⟩
  have q4 : Below w.heap.size w w4 := Mod.below H2.out.2 u4.1 (fun i hi => (H2.out.1.lt i hi).1) H2.out.2.size
  have H4 := Lib.hid (And.intro h4 q4)
  obtain ⟨E, hE⟩ : ∃ E, E = D.crash [] := ⟨_, rfl⟩
  have e1 : E.off = false := by rw [hE]; rfl
  have e2 : E.wait = [] := by rw [hE]; rfl
  have e3 : E.secs.length = 4 := by rw [hE, Dk.crash_len]; exact H1.out.2.2.2
  have e4 : E.crash keep = E := by rw [hE, Dk.crash_crash]
  rw [← hE] at H4
  have HE := Lib.hid (And.intro e1 (And.intro e2 (And.intro e3 e4)))
  clear h4 u4 q4 hE e1 e2 e3 e4 H1 H2 HDW
  go_wp2_with fail
  go_loopw [8, 9] (fun o t wr => ∃ k : Nat, t = .int .i64 k ∧ k ≤ 4 ∧ Own w4.heap.size 9 1 strE wr o ((List.range k).map (told E)) ∧ Below w4.heap.size w4 wr) (fun _ t _ => 4 - (RowKit.intOf t).toNat)
  case atStart => exact ⟨0, rfl, by omega, Own.nil _ _ _ _ _, Below.refl _ _⟩
  case round =>
    obtain ⟨k, rfl, hk, hO, hB⟩ := hrel
    have hlk : ((List.range k).map (told E)).length = k := by simp
    obtain ⟨Ao, co, ho⟩ := hO.slice
    rw [hlk] at ho
    subst ho
    have HO := Lib.hid (And.intro hO hB)
    have HLK := Lib.hid hlk
    have hz := hB.size
    clear hO hB hlk
    by_cases hk4 : k < 4
    · have hkI : (k : Int) < 4 := by omega
      go_wp2_with fail
      refine (disk_Read w.heap.size gd E F4 k wr (H4.out.1.below HO.out.2) HE.out.1 (by rw [HE.out.2.2.1]; exact hk4) (by rw [HE.out.2.1]; simp)).mono ?_
      rintro e w5 ⟨v5, rfl, hv5, b5, _⟩
      have cv := conv_slU hv5
      have cv' : (convert 31 9 v5).run Try.prog w5 = .ok (.string (told E k)) w5 := cv
      have hO5 := (HO.out.1.below b5).alloc (.cells #[.string (told E k)] 9)
      have hx5 := Sl.new w5 9 [told E k] strE_length #[.string (told E k)] rfl 1 rfl
      have q5 := (HO.out.2.trans (b5.mono hz)).alloc (Nat.le_trans hz b5.size) (.cells #[.string (told E k)] 9)
      have H5 := Lib.hid (And.intro hO5 (And.intro hx5 q5))
      clear hv5 cv hO5 hx5 q5 b5
      have HT := Lib.hid (told_step E k)
      generalize told E k = s at *
      go_wp2_with (at_builtin; refine wpList_app _ rfl _ _ 41 (by rfl) w4.heap.size 9 i0 (.string ⟨#[]⟩) 1 16 strE Try.underlying41 hi hz0 hz1 hz2 rfl (by decide) strE_length strE_one _ _ ((List.range k).map (told E)) [s] (by rfl) H5.out.1 (by rfl) H5.out.2.1 (by unfold maxLen; simp; omega) (by simp; omega) H5.out.2.2.size ?_
                   intro v6 w6 hO6 hg6 _
                   have q6 := H5.out.2.2.grown hg6 H5.out.2.2.size (fun j hj => (H5.out.1.lt j hj).1)
                   have H6 := Lib.hid (And.intro hO6 q6)
                   clear hO6 hg6 q6)
      go_roundw
      case rel => exact ⟨k + 1, by go_num, by omega, by rw [HT.out]; exact H6.out.1, H6.out.2⟩
      case measure => simp [RowKit.intOf]; omega
    · obtain rfl : k = 4 := by omega
      have qr : Below w.heap.size w wr := H4.out.2.trans (HO.out.2.mono H4.out.2.size)
      have HQR := Lib.hid qr
      clear qr
      go_wp2_with fail
      refine (disk_Crash w.heap.size gd E F4 keep Ak keep.length ck wr (H4.out.1.below HO.out.2) (HK.out.below HQR.out) (fun hp k o e hf => by subst e; have := HK.out.lt hp; have := (H4.out.1.lt _ hf).1; omega) (by rw [HE.out.2.1]; simp)).mono ?_
      rintro e w7 ⟨rfl, F7, h7, u7⟩
      rw [HE.out.2.2.2] at h7
      have hO7 := HO.out.1.mod u7.1 (fun j hj hf => by have := (HO.out.1.lt j hj).1; have := (H4.out.1.lt j hf).2; omega)
      have q7 : Below w.heap.size w w7 := Mod.below HQR.out u7.1 (fun i hi => (H4.out.1.lt i hi).1) HQR.out.size
      have H7 := Lib.hid (And.intro h7 (And.intro (hO7.sl strE_length) q7))
      clear h7 u7 hO7 q7
      obtain ⟨wo, rfl⟩ : ∃ wo : World, wo = wr := ⟨_, rfl⟩
      go_wp2_with fail
      go_loopw [12] (fun t wr => ∃ k : Nat, t = .int .i64 k ∧ k ≤ 4 ∧ Below w7.heap.size w7 wr) (fun t _ => 4 - (RowKit.intOf t).toNat)
      case atStart => exact ⟨0, rfl, by omega, Below.refl _ _⟩
      case round =>
        obtain ⟨k, rfl, hk, hB⟩ := hrel
        have hz7 := hB.size
        have HB := Lib.hid hB
        clear hB
        by_cases hk4 : k < 4
        · have hkI : (k : Int) < 4 := by omega
          go_wp2_with fail
          refine (disk_Read w.heap.size gd E F7 k wr (H7.out.1.below HB.out) HE.out.1 (by rw [HE.out.2.2.1]; exact hk4) (by rw [HE.out.2.1]; simp)).mono ?_
          rintro e w8 ⟨v8, rfl, hv8, b8, _⟩
          have cv : ∀ n, (convert 31 9 v8).run Try.prog (w8.drewN n) = .ok (.string (told E k)) (w8.drewN n) := fun n => conv_slU (hv8.drewN n)
          have q8 : Below w7.heap.size w7 w8 := HB.out.trans (b8.mono hz7)
          have hs8 := H7.out.2.1.below q8
          have hx : ((List.range 4).map (told E))[k]? = some (told E k) := by simp [hk4]
          obtain ⟨gs, os, rfl, hgs, hcs⟩ := hs8.at_ hx
          have cs := hcs 0 _ rfl
          rw [Nat.mul_one, Nat.add_zero] at cs
          have HQ8 := Lib.hid q8
          clear hv8 b8 q8 hs8 hx hcs
          go_wp2_with fail
          go_quiet (fail)
          go_wp2
          go_roundw
          case rel => exact ⟨k + 1, by go_num, by omega, ⟨HQ8.out.os, HQ8.out.tape, HQ8.out.output, HQ8.out.size, HQ8.out.block⟩⟩
          case measure => simp [RowKit.intOf]; omega
        · obtain rfl : k = 4 := by omega
          have h9 := H7.out.1.below HB.out
          have e5 : E.wait.length = 0 := by rw [HE.out.2.1]; rfl
          have HQ := Lib.hid (H7.out.2.2.trans (HB.out.mono H7.out.2.2.size))
          have R1 := disk_Off w.heap.size gd E F7 wr h9
          have R2 := disk_Waiting w.heap.size gd E F7 wr h9
          rw [HE.out.1] at R1
          rw [e5] at R2
          have HR := Lib.hid (And.intro R1 R2)
          clear h9 e5 R1 R2
          go_wp2_with (first
            | (go_at_call 21; refine HR.out.1.mono ?_; rintro e w' ⟨rfl, rfl⟩)
            | (go_at_call 23; refine HR.out.2.mono ?_; rintro e w' ⟨rfl, rfl⟩))
          go_ret
          exact ⟨rfl, HQ.out⟩
end Go.Proofs.Ytaledjcbblgmeaa
