
/- pack.Put -/
import Derived.Test.YtmoijbknjadeeaaBytes
import Derived.Test.YtmoijbknjadeeaaBase
namespace Go.Proofs.Ytmoijbknjadeeaa
set_option linter.unusedSimpArgs false
set_option linter.unusedVariables false
open Go.RowKit

theorem byte_of (x j : Nat) : (x : Int) / 2 ^ (8 * j) % 256 = ((UInt8.ofNat (x / 256 ^ j)).toNat : Int) := by
  have h : (2 : Int) ^ (8 * j) = ((256 ^ j : Nat) : Int) := by rw [Int.pow_mul]; simp
  rw [UInt8.toNat_ofNat', h]
  simp

set_option maxHeartbeats 400000 in
theorem put_any (A : Option Addr) (n c : Nat) (l : List UInt8) (x width : Nat) (w : World) (hr : RdB w w.heap.size A n c l) (hn : n ≤ 1099511627776) (hx : x < 18446744073709551616) (h1 : 1 ≤ width) (h8 : width ≤ 8) :
    Calls Try.prog 89 #[.slice A n c, .int .u64 (x : Int), .int .i64 (width : Int)] w fun e w' => ∃ A2 c2, e = .returned (.slice A2 (n + width) c2) ∧ OwnB w' w.heap.size A2 (n + width) c2 (l ++ putN x width) ∧ Below w.heap.size w w' := by
  go_enter Try.func89, Try.ntmps89
  go_wp2_with (go_at_call 54; refine (clone_any A n c l _ hr hn).mono ?_; rintro e w1 ⟨A2, c2, rfl, hown, hb⟩)
  go_loopw [7, 8] (fun v i wr => ∃ (k : Int) (A3 : Option Addr) (c3 m : Nat), -1 ≤ k ∧ k < width ∧ i = .int .i64 k ∧ m + (k + 1).toNat = n + width ∧ v = .slice A3 m c3 ∧ OwnB wr w.heap.size A3 m c3 (l ++ putN (x / 256 ^ (k + 1).toNat) (width - (k + 1).toNat)) ∧ Below w.heap.size w wr) (fun _ i _ => (intOf i + 1).toNat)
  case atStart => exact ⟨_, _, _, _, by omega, by omega, rfl, by omega, rfl, by simpa [putN] using hown, hb⟩
  case round =>
    obtain ⟨k, A3, c3, m, hk1, hk2, rfl, hm, rfl, hown3, hb3⟩ := hrel
    by_cases hk : 0 ≤ k
    · obtain ⟨j, rfl⟩ := Int.eq_ofNat_of_zero_le hk
      have hbyte : (x : Int) / 2 ^ (8 * j) % 256 = ((UInt8.ofNat (x / 256 ^ j)).toNat : Int) := byte_of x j
      have Hb := Lib.hid hbyte
      clear hbyte
      go_wp2_with (at_builtin; refine app_u8 rfl (.tmp 24) (.tmp 30) rfl rfl (hown3.alloc _) rfl (RdB.one (b := UInt8.ofNat (x / 256 ^ j)) Hb.out) ?_ ?c1 ?c2; intro A4 c4 w2 hown4 hb4 _ _)
      case c1 => omega
      case c2 => have := hb3.size; simp; omega
      go_roundw
      case rel =>
        refine ⟨(j : Int) - 1, A4, c4, m + 1, by omega, by omega, rfl, by omega, rfl, ?_, (hb3.alloc hb3.size _).trans hb4⟩
        have e1 : ((j : Int) + 1).toNat = j + 1 := by omega
        have e2 : ((j : Int) - 1 + 1).toNat = j := by omega
        rw [e1, List.append_assoc] at hown4
        rw [e2]
        have e3 : width - j = width - (j + 1) + 1 := by omega
        rw [e3, putN, Nat.div_div_eq_div_mul, ← Nat.pow_succ]
        exact hown4
      case measure => simp [intOf]
    · go_wp2_with fail
      go_ret
      obtain rfl : k = -1 := by omega
      simp at hown3 hm
      subst hm
      exact ⟨A3, c3, rfl, hown3, hb3⟩
end Go.Proofs.Ytmoijbknjadeeaa
