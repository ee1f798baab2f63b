/- Chapter 3: the laws' helpers and the walk of PackNil. -/
import Derived.Test.YtkohfgkokboghaaRef03b
namespace Go.Proofs.Ytkohfgkokboghaa
set_option linter.unusedSimpArgs false
set_option linter.unusedVariables false
open Go.RowKit

theorem few03 (A : Option Addr) (n c : Nat) (B : Nat) (l : List UInt8) (w : World) (hr : RdB w B A n c l) :
    Calls Try.prog 24 #[.slice A n c] w fun e w' => e = .returned (.slice A (l.take 200).length c) ∧ w = w' := by
  obtain rfl : l.length = n := hr.length
  have hle := hr.le
  by_cases h : l.length ≤ 200
  · have e1 : (l.take 200).length = l.length := by simp; omega
    rw [e1]
    clear e1
    go_enter Try.func24, Try.ntmps24
    go_wp2
    go_ret
    exact ⟨rfl, rfl⟩
  · have e1 : (l.take 200).length = 200 := by simp; omega
    rw [e1]
    clear e1
    go_enter Try.func24, Try.ntmps24
    go_wp2
    go_ret
    exact ⟨rfl, rfl⟩

theorem RdB.take' {w : World} {B n c : Nat} {A : Option Addr} {l : List UInt8} (h : RdB w B A n c l) (k : Nat) : RdB w B A (l.take k).length c (l.take k) := by
  have hn := h.length
  have hle := h.le
  by_cases hk : k ≤ n
  · have e : (l.take k).length = k := by simp; omega
    rw [e]
    exact h.take hk (by omega) (Nat.le_refl _)
  · rw [List.take_of_length_le (by omega), hn]
    exact h

theorem awake03 (w : World) : Calls Try.prog 23 #[] w fun e w' => e = .returned (.bool true) ∧ Below w.heap.size w w' := by
  go_enter Try.func23, Try.ntmps23
  go_wp2_with (go_at_call 25; refine (put_any none 0 0 [] 258 2 _ RdB.nil (by omega) (by omega) (by omega) (by omega)).mono ?_; rintro e w1 ⟨A, c, rfl, hown, hb⟩; obtain ⟨b, rfl, _, _⟩ := hown.form (by omega); have hc0 := (hown.at_ (k := 0) (by simp [putN_length])).1; have hc1 := (hown.at_ (k := 1) (by simp [putN_length])).1; simp [putN] at hc0 hc1)
  go_ret
  exact ⟨rfl, hb⟩

/-- a reader that is not there -/
theorem bad_nil (w : World) : Calls Try.prog 21 #[.pointer none] w fun e w' => e = .returned (.bool true) ∧ w = w' := by
  go_enter Try.func21, Try.ntmps21
  go_wp2
  go_ret
  exact ⟨rfl, rfl⟩
theorem spoil_nil (w : World) : Calls Try.prog 51 #[.pointer none] w fun e w' => e = .returned (.tuple #[]) ∧ w = w' := by
  go_enter Try.func51, Try.ntmps51
  go_wp2
  go_end0
  exact ⟨rfl, rfl⟩
theorem left_nil (w : World) : Calls Try.prog 20 #[.pointer none] w fun e w' => e = .returned (.int .i64 0) ∧ w = w' := by
  go_enter Try.func20, Try.ntmps20
  go_wp2_with (go_at_call 21; refine (bad_nil _).mono ?_; rintro e w1 ⟨rfl, rfl⟩)
  go_ret
  exact ⟨rfl, rfl⟩
theorem done_nil (w : World) : Calls Try.prog 22 #[.pointer none] w fun e w' => e = .returned (.bool false) ∧ w = w' := by
  go_enter Try.func22, Try.ntmps22
  go_wp2_with (go_at_call 21; refine (bad_nil _).mono ?_; rintro e w1 ⟨rfl, rfl⟩)
  go_ret
  exact ⟨rfl, rfl⟩
theorem bytes_nil (n : Int) (w : World) : Calls Try.prog 19 #[.pointer none, .int .i64 n] w fun e w' => e = .returned (.slice none 0 0) ∧ w = w' := by
  go_enter Try.func19, Try.ntmps19
  go_wp2_with (first | (go_at_call 21; refine (bad_nil _).mono ?_; rintro e w1 ⟨rfl, rfl⟩) | (go_at_call 51; refine (spoil_nil _).mono ?_; rintro e w1 ⟨rfl, rfl⟩))
  go_ret
  exact ⟨rfl, rfl⟩
theorem u_nil (n : Int) (w : World) : Calls Try.prog 17 #[.pointer none, .int .i64 n] w fun e w' => e = .returned (.int .u64 0) ∧ w = w' := by
  by_cases h1 : n < 1
  · go_enter Try.func17, Try.ntmps17
    go_wp2_with (go_at_call 51; refine (spoil_nil _).mono ?_; rintro e w1 ⟨rfl, rfl⟩)
    go_ret
    exact ⟨rfl, rfl⟩
  by_cases h8 : 8 < n
  · go_enter Try.func17, Try.ntmps17
    go_wp2_with (go_at_call 51; refine (spoil_nil _).mono ?_; rintro e w1 ⟨rfl, rfl⟩)
    go_ret
    exact ⟨rfl, rfl⟩
  · go_enter Try.func17, Try.ntmps17
    go_wp2_with (go_at_call 19; refine (bytes_nil _ _).mono ?_; rintro e w1 ⟨rfl, rfl⟩)
    refine wp_loop_rounds 1 ?_
    rw [rounds_succ]
    go_wp2
    go_ret
    exact ⟨rfl, rfl⟩
theorem text_nil (w : World) : Calls Try.prog 18 #[.pointer none] w fun e w' => e = .returned (.string ⟨#[]⟩) ∧ w = w' := by
  have hcv := fun w => conv_str (RdB.nil (w := w) (B := 0))
  go_enter Try.func18, Try.ntmps18
  go_wp2_with (first | (go_at_call 17; refine (u_nil _ _).mono ?_; rintro e w1 ⟨rfl, rfl⟩) | (go_at_call 19; refine (bytes_nil _ _).mono ?_; rintro e w1 ⟨rfl, rfl⟩))
  go_ret
  exact ⟨rfl, rfl⟩

theorem packNil_walk {n : Int} (w : World) (hn : -9223372036854775808 ≤ n ∧ n ≤ 9223372036854775807) :
    Calls Try.prog 4 #[.int .i64 n] w fun e w' => e = .returned (.bool true) ∧ Below w.heap.size w w' := by
  go_enter Try.func4, Try.ntmps4
  go_wp2_with (first | (go_at_call 17; refine (u_nil _ _).mono ?_; rintro e w1 ⟨rfl, rfl⟩) | (go_at_call 19; refine (bytes_nil _ _).mono ?_; rintro e w1 ⟨rfl, rfl⟩) | (go_at_call 18; refine (text_nil _).mono ?_; rintro e w1 ⟨rfl, rfl⟩) | (go_at_call 20; refine (left_nil _).mono ?_; rintro e w1 ⟨rfl, rfl⟩) | (go_at_call 21; refine (bad_nil _).mono ?_; rintro e w1 ⟨rfl, rfl⟩) | (go_at_call 22; refine (done_nil _).mono ?_; rintro e w1 ⟨rfl, rfl⟩) | (go_at_call 23; refine (awake03 _).mono ?_; rintro e w1 ⟨rfl, hb⟩))
  go_ret
  exact ⟨rfl, hb⟩
end Go.Proofs.Ytkohfgkokboghaa
