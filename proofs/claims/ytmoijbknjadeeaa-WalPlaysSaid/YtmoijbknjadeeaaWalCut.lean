
/- Chapter 7: bytes that are not too many. -/
import Derived.Test.YtmoijbknjadeeaaBytes
namespace Go.Proofs.Ytmoijbknjadeeaa
set_option linter.unusedVariables false
set_option linter.unusedSimpArgs false
open Go.RowKit
theorem cut07 (A : Option Addr) (n c : Nat) (B : Nat) (l : List UInt8) (w : World) (hr : RdB w B A n c l) :
    Calls Try.prog 33 #[.slice A n c] w fun e w' => e = .returned (.slice A (l.take 40).length c) ∧ w = w' := by
  obtain rfl : l.length = n := hr.length
  have hle := hr.le
  by_cases h : l.length ≤ 40
  · have e1 : (l.take 40).length = l.length := by simp; omega
    rw [e1]
    clear e1
    go_enter Try.func33, Try.ntmps33
    go_wp2
    go_ret
    exact ⟨rfl, rfl⟩
  · have e1 : (l.take 40).length = 40 := by simp; omega
    rw [e1]
    clear e1
    go_enter Try.func33, Try.ntmps33
    go_wp2
    go_ret
    exact ⟨rfl, rfl⟩
theorem RdB.take07 {w : World} {B n c : Nat} {A : Option Addr} {l : List UInt8} (h : RdB w B A n c l) (k : Nat) : RdB w B A (l.take k).length c (l.take k) := by
  have hl := h.length
  have hle := h.le
  have hq : (l.take k).length ≤ n := by rw [List.length_take]; omega
  have h2 := RdB.take h (k := (l.take k).length) (c' := c) hq (by omega) (Nat.le_refl _)
  have e : l.take (l.take k).length = l.take k := by
    rw [List.length_take]
    by_cases hk : k ≤ l.length
    · rw [Nat.min_eq_left hk]
    · rw [Nat.min_eq_right (by omega), List.take_length, List.take_of_length_le (by omega)]
  rw [e] at h2
  exact h2
end Go.Proofs.Ytmoijbknjadeeaa
