/- Chapter 5: the walk of FrameAll. -/
import Derived.Test.YtkohfgkokboghaaFrameAll
namespace Go.Proofs.Ytkohfgkokboghaa
set_option linter.unusedVariables false
set_option linter.unusedSimpArgs false
open Go.RowKit

theorem RdB.take05 {w : World} {B n c : Nat} {A : Option Addr} {l : List UInt8} (h : RdB w B A n c l) (k : Nat) : RdB w B A (l.take k).length c (l.take k) := by
  have hl := h.length
  have hle := h.le
  have := RdB.take h (k := (l.take k).length) (c' := c) (by simp; omega) (by simp; omega) (Nat.le_refl _)
  rwa [List.length_take, show l.take (min k l.length) = l.take k from by rw [List.take_eq_take_iff]; omega, ← List.length_take] at this

set_option maxHeartbeats 1000000 in
theorem frameAll_walk {A : Option Addr} {n c : Nat} {l : List UInt8} (w : World) (hr : RdB w w.heap.size A n c l) :
    Calls Try.prog 12 #[.slice A n c] w fun e w' => e = .returned (.bool true) ∧ Below w.heap.size w w' := by
  have hr2 := hr.take05 200
  have hl2 : (l.take 200).length ≤ 200 := by simp; omega
  have hfew := few05 A n c _ l w hr
  generalize l.take 200 = l2 at *
  have HF := Lib.hid hfew
  clear hfew
  go_enter Try.func12, Try.ntmps12
  go_wp2_with fail
  refine HF.out.mono ?_
  rintro e w1 ⟨rfl, rfl⟩
  go_wp2_with fail
  refine (fall_any _ _ _ _ w hr2 (by omega)).mono ?_
  rintro e w1 ⟨A1, c1, ys, k, code, rfl, hall1, hown1, hb1⟩
  go_wp2_with fail
  refine (rall_any _ _ _ _ w1 ((hr2.below hb1).more hb1.size) (by omega)).mono ?_
  rintro e w2 ⟨A2, c2, zs, k2, code2, rfl, hall2, hown2, hb2⟩
  obtain ⟨he, rfl, rfl⟩ := hall1.det hall2
  have hb12 := chain hb1 hb2
  have hs1 := (hown1.rd hb1.size).below hb2
  have hs2 := hown2.rd hb2.size
  go_wp2_with fail
  refine (same05 _ _ _ _ _ _ _ _ _ _ w2 hs1 hs2).mono ?_
  rintro e w3 ⟨rfl, j, rfl⟩
  rw [decide_eq_true he]
  go_wp2_with fail
  refine (awake05 _).mono ?_
  rintro e w4 ⟨rfl, hb4⟩
  go_wp2_with fail
  go_ret
  exact ⟨rfl, chain (below_drewN hb12 j) hb4⟩
end Go.Proofs.Ytkohfgkokboghaa
