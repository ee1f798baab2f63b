
/- frame.Size, Put, Next; chapter 5's helpers. -/
import Derived.Test.YtmoijbknjadeeaaSeal
import Derived.Test.YtmoijbknjadeeaaFramePure
namespace Go.Proofs.Ytmoijbknjadeeaa
set_option linter.unusedVariables false
set_option linter.unusedSimpArgs false
open Go.RowKit

theorem size_ok (n : Nat) (h1 : 1 ≤ n) (h2 : n ≤ 1048576) (w : World) : Calls Try.prog 88 #[.int .i64 (n : Int)] w fun e w' => e = .returned (.int .i64 ((n : Int) + 8)) ∧ w = w' := by
  go_enter Try.func88, Try.ntmps88
  go_wp2
  go_ret
  exact ⟨by simp; omega, rfl⟩
theorem size_low (n : Int) (h : n < 1) (w : World) : Calls Try.prog 88 #[.int .i64 n] w fun e w' => e = .returned (.int .i64 0) ∧ w = w' := by
  go_enter Try.func88, Try.ntmps88
  go_wp2
  go_ret
  exact ⟨rfl, rfl⟩
theorem size_high (n : Int) (h : 1048576 < n) (w : World) : Calls Try.prog 88 #[.int .i64 n] w fun e w' => e = .returned (.int .i64 0) ∧ w = w' := by
  go_enter Try.func88, Try.ntmps88
  go_wp2
  go_ret
  exact ⟨rfl, rfl⟩

theorem fput_ok (A : Option Addr) (n c : Nat) (l : List UInt8) (w : World) (hr : RdB w w.heap.size A n c l) (h1 : 1 ≤ n) (h2 : n ≤ 1048576) :
    Calls Try.prog 63 #[.slice A n c] w fun e w' => ∃ A2 c2, e = .returned (.tuple #[.slice A2 (8 + n) c2, .int .i64 0]) ∧ OwnB w' w.heap.size A2 (8 + n) c2 (frameL l) ∧ Below w.heap.size w w' := by
  obtain rfl : l.length = n := hr.length
  have hlt := of_lt l
  have hne : ((l.length : Int) + 8 == 0) = false := by simp; omega
  go_enter Try.func63, Try.ntmps63
  go_wp2_with fail
  refine (size_ok _ h1 h2 _).mono ?_
  rintro e w1 ⟨rfl, rfl⟩
  go_wp2_with fail
  refine (put_any none 0 0 [] l.length 4 w RdB.nil (by omega) (by omega) (by omega) (by omega)).mono ?_
  rintro e w1 ⟨A1, c1, rfl, hown1, hb1⟩
  rw [List.nil_append] at hown1
  go_wp2_with fail
  refine (of_any _ _ _ _ _ _ (hr.below hb1)).mono ?_
  rintro e w2 ⟨rfl, rfl⟩
  go_wp2_with fail
  refine (put_any _ _ _ _ (ofN l) 4 w1 hown1.rd (by omega) (by omega) (by omega) (by omega)).mono ?_
  rintro e w2 ⟨A2, c2, rfl, hown2, hb2⟩
  have hb12 := chain hb1 hb2
  have hown2' := hown2.lower hb1.size
  go_wp2_with (at_builtin; refine app_u8 rfl (.tmp 18) (.tmp 19) rfl rfl hown2' rfl (hr.below hb12) ?_ (by omega) hb12.size; intro A3 c3 w3 hown3 hb3 _ _)
  go_ret2
  have e1 : 0 + 4 + 4 + l.length = 8 + l.length := by omega
  rw [List.append_assoc] at hown3
  refine ⟨A3, c3, ?_, hown3, hb12.trans hb3⟩
  simp

theorem fput_zero (A : Option Addr) (c : Nat) (w : World) :
    Calls Try.prog 63 #[.slice A 0 c] w fun e w' => e = .returned (.tuple #[.slice none 0 0, .int .i64 1]) ∧ w = w' := by
  go_enter Try.func63, Try.ntmps63
  go_wp2_with (go_at_call 88; refine (size_low _ (by omega) _).mono ?_; rintro e w1 ⟨rfl, rfl⟩)
  go_ret2
  exact ⟨rfl, rfl⟩

end Go.Proofs.Ytmoijbknjadeeaa
