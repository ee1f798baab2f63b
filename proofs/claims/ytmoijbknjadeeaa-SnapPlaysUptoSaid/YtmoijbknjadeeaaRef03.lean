
/- The reference's Put, Text and Num. -/
import Derived.Test.YtmoijbknjadeeaaPack
import Derived.IntWalk
namespace Go.Proofs.Ytmoijbknjadeeaa
set_option linter.unusedSimpArgs false
set_option linter.unusedVariables false
open Go.RowKit

set_option maxHeartbeats 400000 in
theorem ref_put (x width : Nat) (w : World) (hx : x < 18446744073709551616) (h1 : 1 ≤ width) (h8 : width ≤ 8) :
    Calls Try.prog 114 #[.int .u64 (x : Int), .int .i64 (width : Int)] w fun e w' => ∃ A, e = .returned (.slice A width width) ∧ OwnB w' w.heap.size A width width (putN x width) ∧ Below w.heap.size w w' := by
  go_enter Try.func114, Try.ntmps114
  go_wp2_with (at_make; refine make_u8 rfl (.tmp 13) (.tmp 13) rfl w.heap.size width rfl rfl ?_ ?c1 ?c2 ?c3 ?c4; intro w1 hown hb)
  case c1 => rfl
  case c2 => rfl
  case c3 => omega
  case c4 => omega
  go_loopw [0, 6] (fun v i wr => ∃ (k : Int), -1 ≤ k ∧ k < width ∧ i = .int .i64 k ∧ v = .int .u64 ((x / 256 ^ (width - (k + 1).toNat) : Nat) : Int) ∧ OwnB wr w.heap.size (some ⟨w.heap.size, 0, none⟩) width width (List.replicate (k + 1).toNat 0 ++ putN x (width - (k + 1).toNat)) ∧ Below w.heap.size w wr) (fun _ i _ => (intOf i + 1).toNat)
  case atStart => exact ⟨_, by omega, by omega, rfl, by simp, by simpa [putN] using hown, hb⟩
  case round =>
    obtain ⟨k, hk1, hk2, rfl, rfl, hown3, hb3⟩ := hrel
    by_cases hk : 0 ≤ k
    · obtain ⟨j, rfl⟩ := Int.eq_ofNat_of_zero_le hk
      have e1 : ((j : Int) + 1).toNat = j + 1 := by omega
      have e0 : ((j : Int) - 1 + 1).toNat = j := by omega
      simp only [e1] at hown3 ⊢
      clear e1
      obtain ⟨hc, hf⟩ := hown3.at_ (k := j) (by simp; omega)
      generalize hyd : x / 256 ^ (width - (j + 1)) = y at *
      have hy : y < 18446744073709551616 := by rw [← hyd]; exact Nat.lt_of_le_of_lt (Nat.div_le_self _ _) hx
      have HD := Lib.hid hyd
      have HE := Lib.hid e0
      clear hyd e0
      go_wp2
      go_roundw
      case rel =>
        obtain ⟨s1, s2, _⟩ := hown3.set j (UInt8.ofNat y) (v := (y : Int) % 256) (by rw [UInt8.toNat_ofNat']; simp)
        refine ⟨(j : Int) - 1, by omega, by omega, rfl, ?_, ?_, hb3.trans s2⟩
        · rw [HE.out, ← HD.out, show width - j = width - (j + 1) + 1 from by omega, Nat.pow_succ, ← Nat.div_div_eq_div_mul]
          simp
        · rw [HE.out]
          have e2 : (List.replicate (j + 1) 0 ++ putN x (width - (j + 1))).set j (UInt8.ofNat y) = List.replicate j 0 ++ putN x (width - j) := by
            rw [show width - j = width - (j + 1) + 1 from by omega, putN_cons, HD.out, List.replicate_succ', List.append_assoc, List.set_append_right _ _ (by simp)]
            simp
          rw [e2] at s1
          exact s1
      case measure => simp [intOf]
    · obtain rfl : k = -1 := by omega
      go_wp2
      go_ret
      simp at hown3
      exact ⟨_, rfl, hown3, hb3⟩

theorem ref_put_w (x : Nat) (width : Int) (w : World) (hx : x < 18446744073709551616) :
    Calls Try.prog 114 #[.int .u64 (x : Int), .int .i64 width] w fun e w' => ∃ A, e = .returned (.slice A (putW x width).length (putW x width).length) ∧ OwnB w' w.heap.size A (putW x width).length (putW x width).length (putW x width) ∧ Below w.heap.size w w' := by
  by_cases hw : 1 ≤ width ∧ width ≤ 8
  · obtain ⟨k, rfl⟩ := Int.eq_ofNat_of_zero_le (show 0 ≤ width by omega)
    have e1 : putW x (k : Int) = putN x k := by unfold putW; rw [if_pos hw]; simp
    rw [e1, putN_length]
    exact ref_put x k w hx (by omega) (by omega)
  · have e1 : putW x width = [] := by unfold putW; rw [if_neg hw]
    rw [e1]
    clear e1
    by_cases h1 : width < 1
    · clear hw
      go_enter Try.func114, Try.ntmps114
      go_wp2
      go_ret
      exact ⟨none, rfl, OwnB.nil, Below.refl _ _⟩
    · have h8 : 8 < width := by omega
      clear hw
      go_enter Try.func114, Try.ntmps114
      go_wp2
      go_ret
      exact ⟨none, rfl, OwnB.nil, Below.refl _ _⟩

theorem add_step (x c : Nat) (hc : c < 256) : IntKind.u64.wrap (IntKind.u64.wrap ((x : Int) * 256) + IntKind.u64.wrap (c : Int)) = (((x * 256 + c) % 18446744073709551616 : Nat) : Int) := by
  simp only [IntKind.wrap_u64]
  omega

theorem ref_num (A : Option Addr) (n c : Nat) (B : Nat) (l : List UInt8) (w : World) (hr : RdB w B A n c l) :
    Calls Try.prog 91 #[.slice A n c] w fun e w' => e = .returned (.int .u64 (num l : Int)) ∧ w = w' := by
  obtain rfl : l.length = n := hr.length
  have hle := hr.le
  have hmax := hr.max
  unfold maxLen at hmax
  go_enter Try.func91, Try.ntmps91
  go_wp2
  go_loop [3, 8] (fun v i => ∃ k : Nat, k ≤ l.length ∧ i = .int .i64 (k : Int) ∧ v = .int .u64 (num (l.take k) : Int)) (fun _ i => l.length - (intOf i).toNat)
  case atStart => exact ⟨0, Nat.zero_le _, rfl, rfl⟩
  case round =>
    obtain ⟨k, hk, rfl, rfl⟩ := hrel
    by_cases hlt : k < l.length
    · obtain ⟨b, off, rfl, hb, hc⟩ := hr.get hlt
      have hx := num_lt (l.take k)
      go_wp2
      go_round
      case rel =>
        refine ⟨k + 1, by omega, by go_num, ?_⟩
        rw [List.take_succ_eq_append_getElem hlt, num_snoc, ← add_step _ _ (UInt8.toNat_lt _)]
      case measure => simp [intOf]; omega
    · obtain rfl : k = l.length := by omega
      go_wp2
      go_ret
      exact ⟨by simp, rfl⟩

theorem cells3 {w : World} {g : Nat} {a b d : Value} {t : TypeId} (h : w.heap[g]? = some (.cells #[a, b, d] t)) :
    w.cell? ⟨g, 0, none⟩ = some a ∧ w.cell? ⟨g, 1, none⟩ = some b ∧ w.cell? ⟨g, 2, none⟩ = some d ∧ w.frozen? ⟨g, 0, none⟩ = false ∧ w.frozen? ⟨g, 1, none⟩ = false ∧ w.frozen? ⟨g, 2, none⟩ = false ∧ g < w.heap.size := by
  refine ⟨by simp [World.cell?, h], by simp [World.cell?, h], by simp [World.cell?, h], by simp [World.frozen?, h], by simp [World.frozen?, h], by simp [World.frozen?, h], (Array.getElem?_eq_some_iff.1 h).1⟩

theorem only_drewN {w w' : World} {row : Option Nat} (h : w.grownBy w' row) (k : Nat) : w.grownBy (w'.drewN k) row := ⟨h.os, h.tape, h.output, h.size, h.block⟩
theorem drewN_only {w w' : World} {row : Option Nat} {k : Nat} (h : (w.drewN k).grownBy w' row) : w.grownBy w' row := ⟨h.os, h.tape, h.output, h.size, h.block⟩

end Go.Proofs.Ytmoijbknjadeeaa
