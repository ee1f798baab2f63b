
/- sum.table, More, Of; the reference's Byte, More, Of, Four. -/
import Derived.Test.YtmoijbknjadeeaaBytes
import Derived.Test.YtmoijbknjadeeaaSumPure
import Derived.Test.YtmoijbknjadeeaaBase
namespace Go.Proofs.Ytmoijbknjadeeaa
set_option linter.unusedVariables false
set_option linter.unusedSimpArgs false
open Go.RowKit

theorem table_at (j : Nat) (hj : j < 16) (w : World) :
    (Instr.index 166 (.agg #[.int .u32 0, .int .u32 274646895, .int .u32 549293790, .int .u32 820201905, .int .u32 1098587580, .int .u32 1361435347, .int .u32 1640403810, .int .u32 1905808397, .int .u32 2197175160, .int .u32 2460548119, .int .u32 2722870694, .int .u32 2987750089, .int .u32 3280807620, .int .u32 3553878443, .int .u32 3811616794, .int .u32 4084100981]) (.int .u32 (j : Int))).run Try.prog w = .ok (.int .u32 (tblN j : Int)) w := by
  have hc : j = 0 ∨ j = 1 ∨ j = 2 ∨ j = 3 ∨ j = 4 ∨ j = 5 ∨ j = 6 ∨ j = 7 ∨ j = 8 ∨ j = 9 ∨ j = 10 ∨ j = 11 ∨ j = 12 ∨ j = 13 ∨ j = 14 ∨ j = 15 := by omega
  rcases hc with rfl | rfl | rfl | rfl | rfl | rfl | rfl | rfl | rfl | rfl | rfl | rfl | rfl | rfl | rfl | rfl <;> (show _ = _; kernel_rfl)

theorem table_any (k : Nat) (hk : k < 4294967296) (w : World) :
    Calls Try.prog 125 #[.int .u32 (k : Int)] w fun e w' => e = .returned (.int .u32 (tblN (k % 16) : Int)) ∧ w = w' := by
  have ha : bits .and .u32 (k : Int) 15 = ((k % 16 : Nat) : Int) := by
    have := u32_and_nat k 15 hk (by omega)
    rw [show ((15 : Nat) : Int) = 15 from rfl] at this
    rw [this, show 15 = 2 ^ 4 - 1 from rfl, Nat.and_two_pow_sub_one_eq_mod]
  have hm : k % 16 < 16 := Nat.mod_lt _ (by omega)
  generalize k % 16 = j at *
  have hidx := table_at j hm
  go_enter Try.func125, Try.ntmps125
  go_wp2_with fail
  go_ret
  exact ⟨rfl, rfl⟩

theorem byte_ref (s c : Nat) (hs : s < 4294967296) (hc : c < 256) (w : World) :
    Calls Try.prog 116 #[.int .u32 (s : Int), .int .u8 (c : Int)] w fun e w' => e = .returned (.int .u32 (byteN s c : Int)) ∧ w = w' := by
  have hx : s ^^^ c < 4294967296 := Nat.xor_lt_two_pow (n := 32) hs (by omega)
  have hxor := u32_xor_nat s c hs (by omega)
  unfold byteN
  generalize s ^^^ c = y at *
  go_enter Try.func116, Try.ntmps116
  go_wp2_with fail
  clear hxor
  go_loop [5, 6] (fun v i => ∃ k z : Nat, k ≤ 8 ∧ i = .int .i64 (k : Int) ∧ v = .int .u32 (z : Int) ∧ z < 4294967296 ∧ bitK (8 - k) z = bitK 8 y) (fun _ i => 8 - (intOf i).toNat)
  case atStart => exact ⟨0, y, by omega, rfl, rfl, hx, rfl⟩
  case round =>
    obtain ⟨k, z, hk, rfl, rfl, hz, hb⟩ := hrel
    have HB := Lib.hid hb
    clear hb
    by_cases hlt : k < 8
    · by_cases ho : z % 2 = 1
      · have h1 : ((z : Int) % 2 == 1) = true := by simp; omega
        have h2 : bits .xor .u32 ((z : Int) / 2) 2197175160 = ((z / 2 ^^^ 2197175160 : Nat) : Int) := by
          have := u32_xor_nat (z / 2) 2197175160 (by omega) (by omega)
          simpa using this
        have hbz : bit z = z / 2 ^^^ 2197175160 := by unfold bit; rw [if_pos ho]
        have hlz := bit_lt hz
        rw [hbz] at hlz
        have HZ := Lib.hid hbz
        clear hbz ho
        generalize z / 2 ^^^ 2197175160 = z2 at *
        go_wp2_with fail
        go_round
        case rel =>
          refine ⟨k + 1, z2, by omega, by go_num, rfl, hlz, ?_⟩
          rw [← HB.out, show 8 - k = 8 - (k + 1) + 1 from by omega, bitK, HZ.out]
        case measure => simp [intOf]; omega
      · have h1 : ((z : Int) % 2 == 1) = false := by simp; omega
        have hbz : bit z = z / 2 := by unfold bit; rw [if_neg ho]
        have HZ := Lib.hid hbz
        clear hbz ho
        go_wp2_with fail
        go_round
        case rel =>
          refine ⟨k + 1, z / 2, by omega, by go_num, by simp, by omega, ?_⟩
          rw [← HB.out, show 8 - k = 8 - (k + 1) + 1 from by omega, bitK, HZ.out]
        case measure => simp [intOf]; omega
    · obtain rfl : k = 8 := by omega
      go_wp2_with fail
      go_ret
      exact ⟨by rw [← HB.out]; rfl, rfl⟩

theorem more_ref (s : Nat) (hs : s < 4294967296) (A : Option Addr) (n c B : Nat) (l : List UInt8) (w : World) (hr : RdB w B A n c l) :
    Calls Try.prog 97 #[.int .u32 (s : Int), .slice A n c] w fun e w' => e = .returned (.int .u32 (moreN s l : Int)) ∧ w = w' := by
  obtain rfl : l.length = n := hr.length
  have hle := hr.le
  have hmax := hr.max
  unfold maxLen at hmax
  go_enter Try.func97, Try.ntmps97
  go_wp2_with fail
  go_loop [0, 9] (fun v i => ∃ k z : Nat, k ≤ l.length ∧ i = .int .i64 (k : Int) ∧ v = .int .u32 (z : Int) ∧ z < 4294967296 ∧ z = moreN s (l.take k)) (fun _ i => l.length - (intOf i).toNat)
  case atStart => exact ⟨0, s, Nat.zero_le _, rfl, rfl, hs, rfl⟩
  case round =>
    obtain ⟨k, z, hk, rfl, rfl, hz, hb⟩ := hrel
    have HB := Lib.hid hb
    clear hb
    by_cases hlt : k < l.length
    · obtain ⟨b, off, rfl, _, hc⟩ := hr.get hlt
      have hcl := l[k].toNat_lt
      have hnx := byte_lt hz l[k]
      have hcall := byte_ref z l[k].toNat hz hcl
      have HS : Hid (moreN s (l.take (k + 1)) = byteN z l[k].toNat) := by
        show moreN s (l.take (k + 1)) = byteN z l[k].toNat
        rw [List.take_succ_eq_append_getElem hlt, more_snoc, ← HB.out]
      generalize byteN z l[k].toNat = z2 at *
      have HC := Lib.hid hcall
      clear hcall
      go_wp2_with (go_at_call 116; refine (HC.out _).mono ?_; rintro e w1 ⟨rfl, rfl⟩)
      go_round
      case rel => exact ⟨k + 1, z2, by omega, by go_num, rfl, hnx, HS.out.symm⟩
      case measure => simp [intOf]; omega
    · obtain rfl : k = l.length := by omega
      go_wp2_with fail
      go_ret
      exact ⟨by rw [HB.out]; simp, rfl⟩

theorem of_ref (A : Option Addr) (n c B : Nat) (l : List UInt8) (w : World) (hr : RdB w B A n c l) :
    Calls Try.prog 78 #[.slice A n c] w fun e w' => e = .returned (.int .u32 (ofN l : Int)) ∧ w = w' := by
  have hlt := more_lt (s := 4294967295) (by omega) l
  have hcall := more_ref 4294967295 (by omega) A n c B l w hr
  have hof : (ofN l : Int) = 4294967295 - (moreN 4294967295 l : Int) := by unfold ofN; omega
  rw [hof]
  clear hof
  generalize moreN 4294967295 l = z at *
  have HC := Lib.hid hcall
  clear hcall
  go_enter Try.func78, Try.ntmps78
  go_wp2_with (go_at_call 97; refine HC.out.mono ?_; rintro e w1 ⟨rfl, rfl⟩)
  go_ret
  exact ⟨rfl, rfl⟩

theorem half_step (y : Nat) (hy : y < 4294967296) : bits .xor .u32 ((y : Int) / 16) (tblN (y % 16) : Int) = (halfN y : Int) := by
  have ht : tblN (y % 16) < 4294967296 := bitK_lt 4 (by omega)
  have := u32_xor_nat (y / 16) (tblN (y % 16)) (by omega) ht
  simpa [halfN] using this

theorem more_any (s : Nat) (hs : s < 4294967296) (A : Option Addr) (n c B : Nat) (l : List UInt8) (w : World) (hr : RdB w B A n c l) :
    Calls Try.prog 113 #[.int .u32 (s : Int), .slice A n c] w fun e w' => e = .returned (.int .u32 (moreN s l : Int)) ∧ w = w' := by
  obtain rfl : l.length = n := hr.length
  have hle := hr.le
  have hmax := hr.max
  unfold maxLen at hmax
  go_enter Try.func113, Try.ntmps113
  go_wp2_with fail
  go_loop [0, 9] (fun v i => ∃ k z : Nat, k ≤ l.length ∧ i = .int .i64 (k : Int) ∧ v = .int .u32 (z : Int) ∧ z < 4294967296 ∧ z = moreN s (l.take k)) (fun _ i => l.length - (intOf i).toNat)
  case atStart => exact ⟨0, s, Nat.zero_le _, rfl, rfl, hs, rfl⟩
  case round =>
    obtain ⟨k, z, hk, rfl, rfl, hz, hb⟩ := hrel
    have HB := Lib.hid hb
    clear hb
    by_cases hlt : k < l.length
    · obtain ⟨b, off, rfl, _, hc⟩ := hr.get hlt
      have hcl := l[k].toNat_lt
      have hxor := u32_xor_nat z l[k].toNat hz (by omega)
      have hy : z ^^^ l[k].toNat < 4294967296 := Nat.xor_lt_two_pow (n := 32) hz (by omega)
      have HS : Hid (moreN s (l.take (k + 1)) = halfN (halfN (z ^^^ l[k].toNat))) := by
        show moreN s (l.take (k + 1)) = _
        rw [List.take_succ_eq_append_getElem hlt, more_snoc, ← HB.out, byte_eq]
      generalize z ^^^ l[k].toNat = y at *
      have h1 := half_step y hy
      have ht1 := table_any y hy
      have hy2 := half_lt hy
      generalize halfN y = y2 at *
      generalize tblN (y % 16) = t1 at *
      have h2 := half_step y2 hy2
      have ht2 := table_any y2 hy2
      have hy3 := half_lt hy2
      generalize halfN y2 = y3 at *
      generalize tblN (y2 % 16) = t2 at *
      have HT1 := Lib.hid ht1
      have HT2 := Lib.hid ht2
      clear ht1 ht2
      go_wp2_with fail
      refine (HT1.out _).mono ?_
      rintro e w1 ⟨rfl, rfl⟩
      go_wp2_with fail
      refine (HT2.out _).mono ?_
      rintro e w1 ⟨rfl, rfl⟩
      go_wp2_with fail
      go_round
      case rel => exact ⟨k + 1, y3, by omega, by go_num, rfl, hy3, HS.out.symm⟩
      case measure => simp [intOf]; omega
    · obtain rfl : k = l.length := by omega
      go_wp2_with fail
      go_ret
      exact ⟨by rw [HB.out]; simp, rfl⟩

theorem of_any (A : Option Addr) (n c B : Nat) (l : List UInt8) (w : World) (hr : RdB w B A n c l) :
    Calls Try.prog 90 #[.slice A n c] w fun e w' => e = .returned (.int .u32 (ofN l : Int)) ∧ w = w' := by
  have hlt := more_lt (s := 4294967295) (by omega) l
  have hcall := more_any 4294967295 (by omega) A n c B l w hr
  have hof : (ofN l : Int) = 4294967295 - (moreN 4294967295 l : Int) := by unfold ofN; omega
  rw [hof]
  clear hof
  generalize moreN 4294967295 l = z at *
  have HC := Lib.hid hcall
  clear hcall
  have hsg : IntKind.u32.signed = false := rfl
  have hnot : bits .xor .u32 IntKind.u32.max (z : Int) = 4294967295 - (z : Int) := by
    have h1 := u32_xor_nat 4294967295 z (by omega) hlt
    have h2 := not_u32 hlt
    rw [show IntKind.u32.max = ((4294967295 : Nat) : Int) from rfl, h1, ← h2]
    omega
  go_enter Try.func90, Try.ntmps90
  go_wp2_with (go_at_call 113; refine HC.out.mono ?_; rintro e w1 ⟨rfl, rfl⟩)
  go_ret
  exact ⟨rfl, rfl⟩

theorem four_ref (x : Nat) (hx : x < 4294967296) (w : World) :
    Calls Try.prog 77 #[.int .u32 (x : Int)] w fun e w' => ∃ A, e = .returned (.slice A 4 4) ∧ OwnB w' w.heap.size A 4 4 (fourL x) ∧ Below w.heap.size w w' := by
  go_enter Try.func77, Try.ntmps77
  go_wp2_with fail
  go_ret
  refine ⟨_, rfl, OwnB.lit (l := fourL x) ?_ (Nat.le_refl _) (by simp [maxLen, fourL]), (Below.refl _ _).alloc (Nat.le_refl _) _⟩
  simp [fourL, bys, UInt8.toNat_ofNat']
  omega
end Go.Proofs.Ytmoijbknjadeeaa
