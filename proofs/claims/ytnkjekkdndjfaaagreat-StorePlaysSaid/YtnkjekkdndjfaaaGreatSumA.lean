
/- The sum of bytes as plain functions on numbers: one bit, one byte, many bytes; that it is linear over exclusive or; that a burst is seen. No program is named here. -/
import Derived.RegionTactic
import Derived.BigRegion
import Derived.BigQuiet
import Derived.Lib.SlBytesConst
import Derived.Test.YtnkjekkdndjfaaaGreatBytes
import Derived.Test.YtnkjekkdndjfaaaGreatBase
import Derived.Test.YtnkjekkdndjfaaaGreatPkA
namespace Go.Proofs.YtnkjekkdndjfaaaGreat
set_option linter.unusedVariables false
set_option linter.unusedSimpArgs false

/-- one bit -/
def bit (s : Nat) : Nat := if s % 2 = 1 then s / 2 ^^^ 2197175160 else s / 2
/-- so many bits -/
def bitK : Nat → Nat → Nat
  | 0, s => s
  | k + 1, s => bitK k (bit s)
def byteN (s c : Nat) : Nat := bitK 8 (s ^^^ c)
def moreN (s : Nat) (l : List UInt8) : Nat := l.foldl (fun s c => byteN s c.toNat) s
def ofN (l : List UInt8) : Nat := 4294967295 - moreN 4294967295 l
def fourL (n : Nat) : List UInt8 := [UInt8.ofNat n, UInt8.ofNat (n / 256), UInt8.ofNat (n / 65536), UInt8.ofNat (n / 16777216)]
/-- what four bits that go do to the rest -/
def tblN (j : Nat) : Nat := bitK 4 j
def halfN (s : Nat) : Nat := s / 16 ^^^ tblN (s % 16)

theorem xor_half (a b : Nat) : (a ^^^ b) / 2 = a / 2 ^^^ b / 2 := by
  have := Nat.shiftRight_xor_distrib (a := a) (b := b) (i := 1)
  simpa [Nat.shiftRight_eq_div_pow] using this
theorem xor_odd (a b : Nat) : (a ^^^ b) % 2 = (a % 2 + b % 2) % 2 := by
  have h := Nat.xor_mod_two_pow (a := a) (b := b) (n := 1)
  rw [Nat.pow_one] at h
  rw [h]
  rcases Nat.mod_two_eq_zero_or_one a with ha | ha <;> rcases Nat.mod_two_eq_zero_or_one b with hb | hb <;> rw [ha, hb] <;> rfl

theorem bit_xor (a b : Nat) : bit (a ^^^ b) = bit a ^^^ bit b := by
  unfold bit
  rw [xor_half, xor_odd]
  rcases Nat.mod_two_eq_zero_or_one a with ha | ha <;> rcases Nat.mod_two_eq_zero_or_one b with hb | hb <;> rw [ha, hb] <;> simp
  · rw [Nat.xor_assoc]
  · rw [Nat.xor_assoc, Nat.xor_assoc, Nat.xor_comm (b / 2)]
  · rw [Nat.xor_assoc, Nat.xor_comm 2197175160 (b / 2 ^^^ 2197175160), Nat.xor_assoc, Nat.xor_self, Nat.xor_zero]
theorem bitK_xor (k a b : Nat) : bitK k (a ^^^ b) = bitK k a ^^^ bitK k b := by
  induction k generalizing a b with
  | zero => rfl
  | succ k ih => rw [bitK, bit_xor, ih]; rfl
theorem bit_even (x : Nat) : bit (2 * x) = x := by
  unfold bit
  rw [if_neg (by omega)]
  omega
theorem bitK_shift (k x : Nat) : bitK k (2 ^ k * x) = x := by
  induction k generalizing x with
  | zero => simp [bitK]
  | succ k ih =>
    rw [bitK, Nat.pow_succ, show 2 ^ k * 2 * x = 2 * (2 ^ k * x) from by rw [Nat.mul_comm (2 ^ k) 2, Nat.mul_assoc], bit_even, ih]
theorem bitK_add (j k s : Nat) : bitK (j + k) s = bitK k (bitK j s) := by
  induction j generalizing s with
  | zero => simp [bitK]
  | succ j ih => rw [Nat.succ_add, bitK, ih]; rfl
theorem xor_low (c k x : Nat) (hc : c < 2 ^ k) : c ^^^ 2 ^ k * x = c + 2 ^ k * x := by
  have h := Nat.two_pow_add_eq_or_of_lt hc x
  rw [Nat.add_comm, h]
  apply Nat.eq_of_testBit_eq
  intro i
  rw [Nat.testBit_xor, Nat.testBit_or, Nat.testBit_two_pow_mul]
  by_cases hi : k ≤ i
  · rw [Nat.testBit_lt_two_pow (Nat.lt_of_lt_of_le hc (Nat.pow_le_pow_right (by omega) hi))]
    simp
  · simp [hi]

theorem half_eq (s : Nat) : bitK 4 s = halfN s := by
  have h : s = s % 16 ^^^ 2 ^ 4 * (s / 16) := by
    rw [xor_low _ _ _ (by omega)]
    omega
  unfold halfN tblN
  conv => lhs; rw [h]
  rw [bitK_xor, bitK_shift, Nat.xor_comm]
theorem byte_eq (s c : Nat) : byteN s c = halfN (halfN (s ^^^ c)) := by
  unfold byteN
  rw [show (8 : Nat) = 4 + 4 from rfl, bitK_add, half_eq, half_eq]

theorem bit_lt {s : Nat} (h : s < 4294967296) : bit s < 4294967296 := by
  unfold bit
  split
  · exact Nat.xor_lt_two_pow (n := 32) (by omega) (by decide)
  · omega
theorem bitK_lt (k : Nat) {s : Nat} (h : s < 4294967296) : bitK k s < 4294967296 := by
  induction k generalizing s with
  | zero => exact h
  | succ k ih => exact ih (bit_lt h)
theorem half_lt {s : Nat} (h : s < 4294967296) : halfN s < 4294967296 := by rw [← half_eq]; exact bitK_lt 4 h
theorem byte_lt {s : Nat} (h : s < 4294967296) (c : UInt8) : byteN s c.toNat < 4294967296 :=
  bitK_lt 8 (Nat.xor_lt_two_pow (n := 32) h (by have := c.toNat_lt; omega))
theorem more_lt {s : Nat} (h : s < 4294967296) (l : List UInt8) : moreN s l < 4294967296 := by
  induction l generalizing s with
  | nil => exact h
  | cons c l ih => exact ih (byte_lt h c)
theorem more_append (s : Nat) (a b : List UInt8) : moreN s (a ++ b) = moreN (moreN s a) b := by simp [moreN]
theorem more_snoc (s : Nat) (a : List UInt8) (c : UInt8) : moreN s (a ++ [c]) = byteN (moreN s a) c.toNat := by simp [moreN]
theorem of_lt (l : List UInt8) : ofN l < 4294967296 := by unfold ofN; omega

/-! bytes as one great number, the first byte the lowest -/
def bigN : List UInt8 → Nat
  | [] => 0
  | c :: l => c.toNat + 256 * bigN l
theorem more_big (s : Nat) (l : List UInt8) : moreN s l = bitK (8 * l.length) (s ^^^ bigN l) := by
  induction l generalizing s with
  | nil => simp [moreN, bigN, bitK]
  | cons c l ih =>
    have h1 : moreN s (c :: l) = moreN (byteN s c.toNat) l := rfl
    have h2 : s ^^^ bigN (c :: l) = (s ^^^ c.toNat) ^^^ 2 ^ 8 * bigN l := by
      have := xor_low c.toNat 8 (bigN l) c.toNat_lt
      rw [show bigN (c :: l) = c.toNat + 2 ^ 8 * bigN l from rfl, ← this, Nat.xor_assoc]
    rw [h1, ih, h2, show 8 * (c :: l).length = 8 + 8 * l.length from by simp; omega, bitK_add, bitK_xor 8 (s ^^^ c.toNat), bitK_shift]
    rfl

theorem bit_pos {s : Nat} (h0 : s ≠ 0) (h : s < 4294967296) : bit s ≠ 0 := by
  unfold bit
  split
  · intro e
    have : s / 2 = 2197175160 := by
      have e2 := congrArg (· ^^^ 2197175160) e
      simp only [Nat.xor_assoc, Nat.xor_self, Nat.xor_zero, Nat.zero_xor] at e2
      exact e2
    omega
  · omega
theorem bitK_pos (k : Nat) {s : Nat} (h0 : s ≠ 0) (h : s < 4294967296) : bitK k s ≠ 0 := by
  induction k generalizing s with
  | zero => exact h0
  | succ k ih => exact ih (bit_pos h0 h) (bit_lt h)

theorem big_four (n : Nat) (h : n < 4294967296) : bigN (fourL n) = n := by
  simp [fourL, bigN]
  omega
theorem not_u32 {s : Nat} (hs : s < 4294967296) : 4294967295 - s = 4294967295 ^^^ s := by
  have : 2 ^ 32 - 1 - s = (2 ^ 32 - 1) ^^^ s := by
    apply Nat.eq_of_testBit_eq
    intro i
    rw [Nat.testBit_xor, Nat.testBit_two_pow_sub_one, show 2 ^ 32 - 1 - s = 2 ^ 32 - (s + 1) from by omega, Nat.testBit_two_pow_sub_succ (by omega)]
    by_cases hi : i < 32
    · simp [hi]
    · rw [Nat.testBit_lt_two_pow (Nat.lt_of_lt_of_le hs (Nat.pow_le_pow_right (n := 2) (by omega) (show 32 ≤ i by omega)))]
      simp [hi]
  exact this
/-- the state behind bytes and their sum is always the same -/
theorem more_sealed (l : List UInt8) : moreN 4294967295 (l ++ fourL (ofN l)) = bitK 32 4294967295 := by
  have hs := more_lt (s := 4294967295) (by omega) l
  rw [more_append, more_big (moreN 4294967295 l), big_four _ (of_lt l)]
  congr 1
  unfold ofN
  generalize moreN 4294967295 l = s at *
  have h2 := not_u32 hs
  rw [h2, Nat.xor_comm 4294967295 s, ← Nat.xor_assoc, Nat.xor_self, Nat.zero_xor]

/-- whole: bytes whose last four are the sum of those ahead -/
def Whole (y : List UInt8) : Prop := 4 ≤ y.length ∧ y.drop (y.length - 4) = fourL (ofN (y.take (y.length - 4)))
theorem whole_state {y : List UInt8} (h : Whole y) : moreN 4294967295 y = bitK 32 4294967295 := by
  have := more_sealed (y.take (y.length - 4))
  rw [← h.2, List.take_append_drop] at this
  exact this
theorem whole_sealed (l : List UInt8) : Whole (l ++ fourL (ofN l)) := by
  have h4 : (l ++ fourL (ofN l)).length = l.length + 4 := by simp [fourL]
  refine ⟨by omega, ?_⟩
  rw [h4, Nat.add_sub_cancel, List.drop_left, List.take_left]

/-- P4.4: two rows of one length that differ by a burst of less than 33 bits are not both whole -/
theorem burst {y z : List UInt8} (hl : z.length = y.length) (v at_ : Nat) (hv0 : v ≠ 0) (hv : v < 4294967296) (hat : at_ ≤ 8 * y.length) (hz : bigN z = bigN y ^^^ 2 ^ at_ * v) (hy : Whole y) : ¬ Whole z := by
  intro hzw
  have e := (whole_state hzw).trans (whole_state hy).symm
  rw [more_big, more_big, hl, hz, ← Nat.xor_assoc, bitK_xor _ (4294967295 ^^^ bigN y)] at e
  have e2 := congrArg (bitK (8 * y.length) (4294967295 ^^^ bigN y) ^^^ ·) e
  simp only [← Nat.xor_assoc, Nat.xor_self, Nat.zero_xor] at e2
  rw [show 8 * y.length = at_ + (8 * y.length - at_) from by omega, bitK_add, bitK_shift] at e2
  exact bitK_pos _ hv0 hv e2

theorem mul_xor8 (a b : Nat) : 2 ^ 8 * (a ^^^ b) = 2 ^ 8 * a ^^^ 2 ^ 8 * b := by
  have h := Nat.shiftLeft_xor_distrib (a := a) (b := b) (i := 8)
  simp only [Nat.shiftLeft_eq] at h
  rw [Nat.mul_comm, h, Nat.mul_comm a, Nat.mul_comm b]

/-- one bit turned -/
theorem big_flip : ∀ (l : List UInt8) (i j : Nat) (h : i < l.length), j < 8 → bigN (l.set i (UInt8.ofNat (l[i].toNat ^^^ 2 ^ j))) = bigN l ^^^ 2 ^ (8 * i + j)
  | c :: l, 0, j, h, hj => by
    have hx : c.toNat ^^^ 2 ^ j < 2 ^ 8 := Nat.xor_lt_two_pow c.toNat_lt (Nat.pow_lt_pow_right (by omega) hj)
    have h1 : (UInt8.ofNat (c.toNat ^^^ 2 ^ j)).toNat = c.toNat ^^^ 2 ^ j := by rw [UInt8.toNat_ofNat']; exact Nat.mod_eq_of_lt hx
    simp only [List.set_cons_zero, List.getElem_cons_zero, bigN, h1, Nat.mul_zero, Nat.zero_add]
    have e1 := xor_low _ 8 (bigN l) hx
    have e2 := xor_low c.toNat 8 (bigN l) c.toNat_lt
    rw [show 256 = 2 ^ 8 from rfl, ← e1, ← e2, Nat.xor_assoc, Nat.xor_comm (2 ^ j), Nat.xor_assoc]
  | c :: l, i + 1, j, h, hj => by
    have ih := big_flip l i j (by simpa using h) hj
    simp only [List.set_cons_succ, List.getElem_cons_succ, bigN, ih]
    have e1 := xor_low c.toNat 8 (bigN l ^^^ 2 ^ (8 * i + j)) c.toNat_lt
    have e2 := xor_low c.toNat 8 (bigN l) c.toNat_lt
    have e3 : 2 ^ 8 * (bigN l ^^^ 2 ^ (8 * i + j)) = 2 ^ 8 * bigN l ^^^ 2 ^ (8 * (i + 1) + j) := by
      rw [show 8 * (i + 1) + j = 8 + (8 * i + j) from by omega, mul_xor8, ← Nat.pow_add]
    rw [show 256 = 2 ^ 8 from rfl, ← e1, ← e2, e3, Nat.xor_assoc]

def wholeB (y : List UInt8) : Bool := decide (4 ≤ y.length) && decide (y.drop (y.length - 4) = fourL (ofN (y.take (y.length - 4))))
theorem wholeB_iff (y : List UInt8) : wholeB y = true ↔ Whole y := by simp [wholeB, Whole]
theorem wholeB_short {y : List UInt8} (h : y.length < 4) : wholeB y = false := by simp [wholeB]; omega
theorem wholeB_eq {y : List UInt8} (h : 4 ≤ y.length) : wholeB y = decide (y.take (y.length - 4) ++ fourL (ofN (y.take (y.length - 4))) = y) := by
  have e : (y.take (y.length - 4) ++ fourL (ofN (y.take (y.length - 4))) = y) ↔ y.drop (y.length - 4) = fourL (ofN (y.take (y.length - 4))) := by
    constructor
    · intro h
      have h2 := h.trans (List.take_append_drop (y.length - 4) y).symm
      exact (List.append_cancel_left h2).symm
    · intro h
      rw [← h, List.take_append_drop]
  simp [wholeB, h, e]
theorem wholeB_sealed (l : List UInt8) : wholeB (l ++ fourL (ofN l)) = true := (wholeB_iff _).2 (whole_sealed l)
theorem of_example : ofN [49, 50, 51, 52, 53, 54, 55, 56, 57] = 3808858755 := by decide +kernel
theorem fourL_length (x : Nat) : (fourL x).length = 4 := rfl
end Go.Proofs.YtnkjekkdndjfaaaGreat
namespace Go.Proofs.YtnkjekkdndjfaaaGreat
set_option linter.unusedVariables false
set_option linter.unusedSimpArgs false
open Go.RowKit

theorem table_at (j : Nat) (hj : j < 16) (w : World) :
    (Instr.index 231 (.agg #[.int .u32 0, .int .u32 274646895, .int .u32 549293790, .int .u32 820201905, .int .u32 1098587580, .int .u32 1361435347, .int .u32 1640403810, .int .u32 1905808397, .int .u32 2197175160, .int .u32 2460548119, .int .u32 2722870694, .int .u32 2987750089, .int .u32 3280807620, .int .u32 3553878443, .int .u32 3811616794, .int .u32 4084100981]) (.int .u32 (j : Int))).run Tryz.prog w = .ok (.int .u32 (tblN j : Int)) w := by
  have hc : j = 0 ∨ j = 1 ∨ j = 2 ∨ j = 3 ∨ j = 4 ∨ j = 5 ∨ j = 6 ∨ j = 7 ∨ j = 8 ∨ j = 9 ∨ j = 10 ∨ j = 11 ∨ j = 12 ∨ j = 13 ∨ j = 14 ∨ j = 15 := by omega
  rcases hc with rfl | rfl | rfl | rfl | rfl | rfl | rfl | rfl | rfl | rfl | rfl | rfl | rfl | rfl | rfl | rfl <;> (show _ = _; kernel_rfl)

theorem table_any (k : Nat) (hk : k < 4294967296) (w : World) :
    Calls Tryz.prog 161 #[.int .u32 (k : Int)] w fun e w' => e = .returned (.int .u32 (tblN (k % 16) : Int)) ∧ w = w' := by
  have ha : bits .and .u32 (k : Int) 15 = ((k % 16 : Nat) : Int) := by
    have := u32_and_nat k 15 hk (by omega)
    rw [show ((15 : Nat) : Int) = 15 from rfl] at this
    rw [this, show 15 = 2 ^ 4 - 1 from rfl, Nat.and_two_pow_sub_one_eq_mod]
  have hm : k % 16 < 16 := Nat.mod_lt _ (by omega)
  generalize k % 16 = j at *
  have hidx := table_at j hm
  go_enter Tryz.func161, Tryz.ntmps161
  go_wp2_with fail
  go_ret
  exact ⟨rfl, rfl⟩

theorem byte_ref (s c : Nat) (hs : s < 4294967296) (hc : c < 256) (w : World) :
    Calls Tryz.prog 153 #[.int .u32 (s : Int), .int .u8 (c : Int)] w fun e w' => e = .returned (.int .u32 (byteN s c : Int)) ∧ w = w' := by
  have hx : s ^^^ c < 4294967296 := Nat.xor_lt_two_pow (n := 32) hs (by omega)
  have hxor := u32_xor_nat s c hs (by omega)
  unfold byteN
  generalize s ^^^ c = y at *
  go_enter Tryz.func153, Tryz.ntmps153
  go_wp2_with fail
  clear hxor
  go_loop [5, 6] (fun v i => ∃ k z : Nat, k ≤ 8 ∧ i = .int .i64 (k : Int) ∧ v = .int .u32 (z : Int) ∧ z < 4294967296 ∧ bitK (8 - k) z = bitK 8 y) (fun _ i => 8 - (intOf i).toNat)
  case atStart => exact ⟨0, y, by omega, rfl, rfl, hx, rfl⟩
  case round =>
    obtain ⟨k, z, hk, rfl, rfl, hz, hb⟩ := hrel
    have HB := Lib.hid hb
    clear hb
    by_cases hlt : k < 8
    · by_cases ho : z % 2 = 1
      · have h1 : ((z : Int) % 2 == 1) = true := by simp; omega
        have h2 : bits .xor .u32 ((z : Int) / 2) 2197175160 = ((z / 2 ^^^ 2197175160 : Nat) : Int) := by
          have := u32_xor_nat (z / 2) 2197175160 (by omega) (by omega)
          simpa using this
        have hbz : bit z = z / 2 ^^^ 2197175160 := by unfold bit; rw [if_pos ho]
        have hlz := bit_lt hz
        rw [hbz] at hlz
        have HZ := Lib.hid hbz
        clear hbz ho
        generalize z / 2 ^^^ 2197175160 = z2 at *
        go_wp2_with fail
        go_round
        case rel =>
          refine ⟨k + 1, z2, by omega, by go_num, rfl, hlz, ?_⟩
          rw [← HB.out, show 8 - k = 8 - (k + 1) + 1 from by omega, bitK, HZ.out]
        case measure => simp [intOf]; omega
      · have h1 : ((z : Int) % 2 == 1) = false := by simp; omega
        have hbz : bit z = z / 2 := by unfold bit; rw [if_neg ho]
        have HZ := Lib.hid hbz
        clear hbz ho
        go_wp2_with fail
        go_round
        case rel =>
          refine ⟨k + 1, z / 2, by omega, by go_num, by simp, by omega, ?_⟩
          rw [← HB.out, show 8 - k = 8 - (k + 1) + 1 from by omega, bitK, HZ.out]
        case measure => simp [intOf]; omega
    · obtain rfl : k = 8 := by omega
      go_wp2_with fail
      go_ret
      exact ⟨by rw [← HB.out]; rfl, rfl⟩

theorem more_ref (s : Nat) (hs : s < 4294967296) (A : Option Addr) (n c B : Nat) (l : List UInt8) (w : World) (hr : RdB w B A n c l) :
    Calls Tryz.prog 131 #[.int .u32 (s : Int), .slice A n c] w fun e w' => e = .returned (.int .u32 (moreN s l : Int)) ∧ w = w' := by
  obtain rfl : l.length = n := hr.length
  have hle := hr.le
  have hmax := hr.max
  unfold maxLen at hmax
  go_enter Tryz.func131, Tryz.ntmps131
  go_wp2_with fail
  go_loop [0, 9] (fun v i => ∃ k z : Nat, k ≤ l.length ∧ i = .int .i64 (k : Int) ∧ v = .int .u32 (z : Int) ∧ z < 4294967296 ∧ z = moreN s (l.take k)) (fun _ i => l.length - (intOf i).toNat)
  case atStart => exact ⟨0, s, Nat.zero_le _, rfl, rfl, hs, rfl⟩
  case round =>
    obtain ⟨k, z, hk, rfl, rfl, hz, hb⟩ := hrel
    have HB := Lib.hid hb
    clear hb
    by_cases hlt : k < l.length
    · obtain ⟨b, off, rfl, _, hc⟩ := hr.get hlt
      have hcl := l[k].toNat_lt
      have hnx := byte_lt hz l[k]
      have hcall := byte_ref z l[k].toNat hz hcl
      have HS : Hid (moreN s (l.take (k + 1)) = byteN z l[k].toNat) := by
        show moreN s (l.take (k + 1)) = byteN z l[k].toNat
        rw [List.take_succ_eq_append_getElem hlt, more_snoc, ← HB.out]
      generalize byteN z l[k].toNat = z2 at *
      have HC := Lib.hid hcall
      clear hcall
      go_wp2_with (go_at_call 153; refine (HC.out _).mono ?_; rintro e w1 ⟨rfl, rfl⟩)
      go_round
      case rel => exact ⟨k + 1, z2, by omega, by go_num, rfl, hnx, HS.out.symm⟩
      case measure => simp [intOf]; omega
    · obtain rfl : k = l.length := by omega
      go_wp2_with fail
      go_ret
      exact ⟨by rw [HB.out]; simp, rfl⟩

theorem of_ref (A : Option Addr) (n c B : Nat) (l : List UInt8) (w : World) (hr : RdB w B A n c l) :
    Calls Tryz.prog 100 #[.slice A n c] w fun e w' => e = .returned (.int .u32 (ofN l : Int)) ∧ w = w' := by
  have hlt := more_lt (s := 4294967295) (by omega) l
  have hcall := more_ref 4294967295 (by omega) A n c B l w hr
  have hof : (ofN l : Int) = 4294967295 - (moreN 4294967295 l : Int) := by unfold ofN; omega
  rw [hof]
  clear hof
  generalize moreN 4294967295 l = z at *
  have HC := Lib.hid hcall
  clear hcall
  go_enter Tryz.func100, Tryz.ntmps100
  go_wp2_with (go_at_call 131; refine HC.out.mono ?_; rintro e w1 ⟨rfl, rfl⟩)
  go_ret
  exact ⟨rfl, rfl⟩

theorem half_step (y : Nat) (hy : y < 4294967296) : bits .xor .u32 ((y : Int) / 16) (tblN (y % 16) : Int) = (halfN y : Int) := by
  have ht : tblN (y % 16) < 4294967296 := bitK_lt 4 (by omega)
  have := u32_xor_nat (y / 16) (tblN (y % 16)) (by omega) ht
  simpa [halfN] using this

theorem more_any (s : Nat) (hs : s < 4294967296) (A : Option Addr) (n c B : Nat) (l : List UInt8) (w : World) (hr : RdB w B A n c l) :
    Calls Tryz.prog 150 #[.int .u32 (s : Int), .slice A n c] w fun e w' => e = .returned (.int .u32 (moreN s l : Int)) ∧ w = w' := by
  obtain rfl : l.length = n := hr.length
  have hle := hr.le
  have hmax := hr.max
  unfold maxLen at hmax
  go_enter Tryz.func150, Tryz.ntmps150
  go_wp2_with fail
  go_loop [0, 9] (fun v i => ∃ k z : Nat, k ≤ l.length ∧ i = .int .i64 (k : Int) ∧ v = .int .u32 (z : Int) ∧ z < 4294967296 ∧ z = moreN s (l.take k)) (fun _ i => l.length - (intOf i).toNat)
  case atStart => exact ⟨0, s, Nat.zero_le _, rfl, rfl, hs, rfl⟩
  case round =>
    obtain ⟨k, z, hk, rfl, rfl, hz, hb⟩ := hrel
    have HB := Lib.hid hb
    clear hb
    by_cases hlt : k < l.length
    · obtain ⟨b, off, rfl, _, hc⟩ := hr.get hlt
      have hcl := l[k].toNat_lt
      have hxor := u32_xor_nat z l[k].toNat hz (by omega)
      have hy : z ^^^ l[k].toNat < 4294967296 := Nat.xor_lt_two_pow (n := 32) hz (by omega)
      have HS : Hid (moreN s (l.take (k + 1)) = halfN (halfN (z ^^^ l[k].toNat))) := by
        show moreN s (l.take (k + 1)) = _
        rw [List.take_succ_eq_append_getElem hlt, more_snoc, ← HB.out, byte_eq]
      generalize z ^^^ l[k].toNat = y at *
      have h1 := half_step y hy
      have ht1 := table_any y hy
      have hy2 := half_lt hy
      generalize halfN y = y2 at *
      generalize tblN (y % 16) = t1 at *
      have h2 := half_step y2 hy2
      have ht2 := table_any y2 hy2
      have hy3 := half_lt hy2
      generalize halfN y2 = y3 at *
      generalize tblN (y2 % 16) = t2 at *
      have HT1 := Lib.hid ht1
      have HT2 := Lib.hid ht2
      clear ht1 ht2
      go_wp2_with fail
      refine (HT1.out _).mono ?_
      rintro e w1 ⟨rfl, rfl⟩
      go_wp2_with fail
      refine (HT2.out _).mono ?_
      rintro e w1 ⟨rfl, rfl⟩
      go_wp2_with fail
      go_round
      case rel => exact ⟨k + 1, y3, by omega, by go_num, rfl, hy3, HS.out.symm⟩
      case measure => simp [intOf]; omega
    · obtain rfl : k = l.length := by omega
      go_wp2_with fail
      go_ret
      exact ⟨by rw [HB.out]; simp, rfl⟩

theorem of_any (A : Option Addr) (n c B : Nat) (l : List UInt8) (w : World) (hr : RdB w B A n c l) :
    Calls Tryz.prog 121 #[.slice A n c] w fun e w' => e = .returned (.int .u32 (ofN l : Int)) ∧ w = w' := by
  have hlt := more_lt (s := 4294967295) (by omega) l
  have hcall := more_any 4294967295 (by omega) A n c B l w hr
  have hof : (ofN l : Int) = 4294967295 - (moreN 4294967295 l : Int) := by unfold ofN; omega
  rw [hof]
  clear hof
  generalize moreN 4294967295 l = z at *
  have HC := Lib.hid hcall
  clear hcall
  have hsg : IntKind.u32.signed = false := rfl
  have hnot : bits .xor .u32 IntKind.u32.max (z : Int) = 4294967295 - (z : Int) := by
    have h1 := u32_xor_nat 4294967295 z (by omega) hlt
    have h2 := not_u32 hlt
    rw [show IntKind.u32.max = ((4294967295 : Nat) : Int) from rfl, h1, ← h2]
    omega
  go_enter Tryz.func121, Tryz.ntmps121
  go_wp2_with (go_at_call 150; refine HC.out.mono ?_; rintro e w1 ⟨rfl, rfl⟩)
  go_ret
  exact ⟨rfl, rfl⟩

theorem four_ref (x : Nat) (hx : x < 4294967296) (w : World) :
    Calls Tryz.prog 99 #[.int .u32 (x : Int)] w fun e w' => ∃ A, e = .returned (.slice A 4 4) ∧ OwnB w' w.heap.size A 4 4 (fourL x) ∧ Below w.heap.size w w' := by
  go_enter Tryz.func99, Tryz.ntmps99
  go_wp2_with fail
  go_ret
  refine ⟨_, rfl, OwnB.lit (l := fourL x) ?_ (Nat.le_refl _) (by simp [maxLen, fourL]), (Below.refl _ _).alloc (Nat.le_refl _) _⟩
  simp [fourL, bys, UInt8.toNat_ofNat']
  omega
end Go.Proofs.YtnkjekkdndjfaaaGreat
namespace Go.Proofs.YtnkjekkdndjfaaaGreat
set_option linter.unusedVariables false
set_option linter.unusedSimpArgs false
open Go.RowKit

theorem reverse4 (g c base : Nat) (a b d e : UInt8) (w : World) (h : OwnB w base (some ⟨g, 0, none⟩) 4 c [a, b, d, e]) :
    Calls Tryz.prog 122 #[.slice (some ⟨g, 0, none⟩) 4 c] w fun r w' => r = .returned (.tuple #[]) ∧ OwnB w' base (some ⟨g, 0, none⟩) 4 c [e, d, b, a] ∧ Below base w w' := by
  obtain ⟨c0, f0⟩ := h.at_ (k := 0) (by simp)
  obtain ⟨c1, f1⟩ := h.at_ (k := 1) (by simp)
  obtain ⟨c2, f2⟩ := h.at_ (k := 2) (by simp)
  obtain ⟨c3, f3⟩ := h.at_ (k := 3) (by simp)
  simp at c0 c1 c2 c3
  go_enter Tryz.func122, Tryz.ntmps122
  go_wp2_with fail
  refine wp_loop_rounds 3 ?_
  rw [rounds_succ]
  go_wp2_with fail
  go_region
  all_goals go_wp2_with fail
  rw [rounds_succ]
  go_wp2_with fail
  go_region
  all_goals go_wp2_with fail
  rw [rounds_succ]
  go_wp2_with fail
  go_end0
  obtain ⟨s1, b1, _⟩ := h.set 0 e (v := (e.toNat : Int)) rfl
  obtain ⟨s2, b2, _⟩ := s1.set 3 a (v := (a.toNat : Int)) rfl
  obtain ⟨s3, b3, _⟩ := s2.set 1 d (v := (d.toNat : Int)) rfl
  obtain ⟨s4, b4, _⟩ := s3.set 2 b (v := (b.toNat : Int)) rfl
  exact ⟨rfl, s4, (((b1.trans b2).trans b3).trans b4).drew.drew⟩

theorem equal_any (A : Option Addr) (n c B : Nat) (l : List UInt8) (A2 : Option Addr) (n2 c2 B2 : Nat) (m : List UInt8) (w : World) (hl : RdB w B A n c l) (hm : RdB w B2 A2 n2 c2 m) :
    Calls Tryz.prog 143 #[.slice A n c, .slice A2 n2 c2] w fun e w' => e = .returned (.bool (decide (l = m))) ∧ ∃ k, w' = w.drewN k := by
  obtain rfl : l.length = n := hl.length
  obtain rfl : m.length = n2 := hm.length
  have hle := hl.le
  have hmax := hl.max
  unfold maxLen at hmax
  by_cases hlen : l.length = m.length
  · have h1 : ((l.length : Int) != (m.length : Int)) = false := by simp; omega
    have HL := Lib.hid hlen
    clear hlen
    go_enter Tryz.func143, Tryz.ntmps143
    go_wp2_with fail
    go_loopw [13] (fun i wr => ∃ k j : Nat, k ≤ l.length ∧ i = .int .i64 (k : Int) ∧ l.take k = m.take k ∧ wr = w.drewN j) (fun i _ => l.length - (intOf i).toNat)
    case atStart => exact ⟨0, 0, Nat.zero_le _, rfl, by simp, rfl⟩
    case round =>
      obtain ⟨k, j, hk, rfl, ht, rfl⟩ := hrel
      have HT := Lib.hid ht
      clear ht
      by_cases hlt : k < l.length
      · have hlt2 : k < m.length := by rw [← HL.out]; exact hlt
        obtain ⟨b, off, rfl, _, hc⟩ := hl.get hlt
        obtain ⟨b2, off2, rfl, _, hc2⟩ := hm.get hlt2
        have hi1 : (0 : Int) ≤ (k : Int) := by omega
        have hi2 : (k : Int) < (l.length : Int) := by omega
        have hi3 : (k : Int) < (m.length : Int) := by omega
        by_cases heq : l[k] = m[k]
        · have h2 : ((l[k].toNat : Int) != (m[k].toNat : Int)) = false := by simp [heq]
          have HQ := Lib.hid heq
          clear heq
          go_wp2_with fail
          go_quiet (fail)
          go_wp2_with fail
          go_roundw
          case rel => exact ⟨k + 1, _, by omega, by go_num, by rw [List.take_succ_eq_append_getElem hlt, List.take_succ_eq_append_getElem hlt2, HT.out, HQ.out], by first | rfl | rw [World.drewN_drewN]⟩
          case measure => simp [intOf]; omega
        · have h2 : ((l[k].toNat : Int) != (m[k].toNat : Int)) = true := by
            simp only [bne_iff_ne, ne_eq]
            intro h
            exact heq (UInt8.toNat_inj.1 (by omega))
          have hne : l ≠ m := by
            rintro rfl
            exact heq rfl
          have HN := Lib.hid (decide_eq_false hne)
          clear heq hne
          go_wp2_with fail
          go_quiet (fail)
          go_wp2_with fail
          go_ret
          exact ⟨by rw [HN.out]; rfl, j + nq, by rw [World.drewN_drewN]⟩
      · obtain rfl : k = l.length := by omega
        have hEq : l = m := by
          have := HT.out
          rw [List.take_length, HL.out, List.take_length] at this
          exact this
        have HN := Lib.hid (decide_eq_true hEq)
        clear hEq
        go_wp2_with fail
        go_ret
        exact ⟨by rw [HN.out]; rfl, _, rfl⟩
  · have h1 : ((l.length : Int) != (m.length : Int)) = true := by simp; omega
    have hne : l ≠ m := by
      rintro rfl
      exact hlen rfl
    have HN := Lib.hid (decide_eq_false hne)
    clear hlen hne
    go_enter Tryz.func143, Tryz.ntmps143
    go_wp2_with fail
    go_ret
    exact ⟨by rw [HN.out]; rfl, 0, rfl⟩

theorem grow_nil (n : Nat) (w : World) (h0 : 0 < n) (hn : n ≤ 1099511627776) :
    Calls Tryz.prog 57 #[.slice none 0 0, .int .i64 (n : Int)] w fun e w' => ∃ A c, e = .returned (.slice A 0 c) ∧ OwnB w' w.heap.size A 0 c [] ∧ Below w.heap.size w w' := by
  have hb : Tryz.t5.bytes = 1 := rfl
  have hns : Builtin.nextslicecap n 0 = n := by
    unfold Builtin.nextslicecap
    simp [h0]
  go_enter Tryz.func57, Tryz.ntmps57
  go_wp2_with fail
  go_ret
  have hge := grownCap_ge w n 0 5
  have hle := grownCap_le_maxLen w n 0 5 (by simp only [maxLen]; omega)
  unfold grownCap at hge hle
  generalize (Question.appendCap n 0 5).cut (w.tape w.drawn (Question.appendCap n 0 5)) = c at *
  refine ⟨_, c, rfl, ?_, ((Below.refl _ _).alloc (Nat.le_refl _) _).drew⟩
  refine ⟨by simp [bys], .inr ⟨w.heap.size, c, _, rfl, Nat.le_refl _, heap_alloc_new w _, Nat.zero_le _, hle, ?_, by simp [bys]⟩⟩
  simp [Builtin.zeroCells]
  omega

theorem grow_zero (w : World) : Calls Tryz.prog 57 #[.slice none 0 0, .int .i64 0] w fun e w' => e = .returned (.slice none 0 0) ∧ w = w' := by
  go_enter Tryz.func57, Tryz.ntmps57
  go_wp2_with fail
  go_ret
  exact ⟨rfl, rfl⟩

theorem grow_any (n : Nat) (w : World) (hn : n ≤ 1099511627776) :
    Calls Tryz.prog 57 #[.slice none 0 0, .int .i64 (n : Int)] w fun e w' => ∃ A c, e = .returned (.slice A 0 c) ∧ OwnB w' w.heap.size A 0 c [] ∧ Below w.heap.size w w' := by
  rcases Nat.eq_zero_or_pos n with rfl | h0
  · refine (grow_zero w).mono ?_
    rintro e w' ⟨rfl, rfl⟩
    exact ⟨none, 0, rfl, OwnB.nil, Below.refl _ _⟩
  · exact grow_nil n w h0 hn

theorem concat2 (g : Nat) (A : Option Addr) (n c : Nat) (l : List UInt8) (A2 : Option Addr) (n2 c2 : Nat) (m : List UInt8) (w : World) (h0 : w.cell? ⟨g, 0, none⟩ = some (.slice A n c)) (h1 : w.cell? ⟨g, 1, none⟩ = some (.slice A2 n2 c2))
    (hl : RdB w w.heap.size A n c l) (hm : RdB w w.heap.size A2 n2 c2 m) (hn : n ≤ 1099511627776 / 2) (hn2 : n2 ≤ 1099511627776 / 2) :
    Calls Tryz.prog 34 #[.slice (some ⟨g, 0, none⟩) 2 2] w fun e w' => ∃ A3 c3, e = .returned (.slice A3 (n + n2) c3) ∧ OwnB w' w.heap.size A3 (n + n2) c3 (l ++ m) ∧ Below w.heap.size w w' := by
  have hg : g < w.heap.size := World.block_lt_of_cell? w _ h0
  have hgr := grow_any (n + n2) w (by omega)
  rw [Int.natCast_add] at hgr
  have HG := Lib.hid hgr
  clear hgr
  go_enter Tryz.func34, Tryz.ntmps34
  go_wp2_with fail
  refine wp_loop_rounds 3 ?_
  rw [rounds_succ]
  go_wp2_with fail
  rw [rounds_succ]
  go_wp2_with fail
  rw [rounds_succ]
  go_wp2_with fail
  refine HG.out.mono ?_
  rintro e w1 ⟨A1, c1, rfl, hown1, hb1⟩
  have h0' : w1.cell? ⟨g, 0, none⟩ = some (.slice A n c) := (hb1.cell (p := ⟨g, 0, none⟩) hg).trans h0
  have h1' : w1.cell? ⟨g, 1, none⟩ = some (.slice A2 n2 c2) := (hb1.cell (p := ⟨g, 1, none⟩) hg).trans h1
  go_wp2_with fail
  refine wp_loop_rounds 3 ?_
  rw [rounds_succ]
  go_wp2_with (at_builtin; refine app_u8 rfl (.tmp 31) (.tmp 32) rfl rfl hown1 rfl (hl.below hb1) ?_ ?c1 ?c2; intro A3 c3 w2 hown2 hb2 _ _)
  case c1 => omega
  case c2 => exact hb1.size
  simp only [Nat.zero_add, List.nil_append] at hown2
  have h1'' : w2.cell? ⟨g, 1, none⟩ = some (.slice A2 n2 c2) := (hb2.cell (p := ⟨g, 1, none⟩) hg).trans h1'
  have hb12 := hb1.trans hb2
  rw [rounds_succ]
  go_wp2_with (at_builtin; refine app_u8 rfl (.tmp 31) (.tmp 32) rfl rfl hown2 rfl (hm.below hb12) ?_ ?c1 ?c2; intro A4 c4 w3 hown3 hb3 _ _)
  case c1 => omega
  case c2 => exact hb12.size
  rw [rounds_succ]
  go_wp2_with fail
  go_ret
  exact ⟨A4, c4, rfl, hown3, hb12.trans hb3⟩
end Go.Proofs.YtnkjekkdndjfaaaGreat
namespace Go.Proofs.YtnkjekkdndjfaaaGreat
set_option linter.unusedVariables false
set_option linter.unusedSimpArgs false
open Go.RowKit

theorem putN4 (x : Nat) : putN x 4 = [UInt8.ofNat (x / 16777216), UInt8.ofNat (x / 65536), UInt8.ofNat (x / 256), UInt8.ofNat x] := by
  simp [putN, Nat.div_div_eq_div_mul]

theorem seal_any (A : Option Addr) (n c : Nat) (l : List UInt8) (w : World) (hr : RdB w w.heap.size A n c l) (hn : n ≤ 1099511627776 / 2) :
    Calls Tryz.prog 78 #[.slice A n c] w fun e w' => ∃ A2 c2, e = .returned (.slice A2 (n + 4) c2) ∧ OwnB w' w.heap.size A2 (n + 4) c2 (l ++ fourL (ofN l)) ∧ Below w.heap.size w w' := by
  have hof := of_any A n c _ l w hr
  have hlt := of_lt l
  generalize ofN l = x at *
  have HOF := Lib.hid hof
  clear hof
  go_enter Tryz.func78, Tryz.ntmps78
  go_wp2_with fail
  refine HOF.out.mono ?_
  rintro e w1 ⟨rfl, rfl⟩
  go_wp2_with fail
  refine (put_any none 0 0 [] x 4 w RdB.nil (by omega) (by omega) (by omega) (by omega)).mono ?_
  rintro e w1 ⟨A1, c1, rfl, hown1, hb1⟩
  rw [List.nil_append, putN4] at hown1
  obtain ⟨g, rfl, hg, hgl⟩ := hown1.form (by omega)
  go_wp2_with fail
  refine (reverse4 g c1 _ _ _ _ _ _ hown1).mono ?_
  rintro e w2 ⟨rfl, hown2, hb2⟩
  have hb12 := hb1.trans hb2
  go_wp2_with fail
  refine (concat2 _ A n c l (some ⟨g, 0, none⟩) 4 c1 (fourL x) _ ?_ ?_ ((hr.below hb12).more hb12.size |>.alloc (Nat.le_refl _) _ |>.more (by simp)) (hown2.rd.alloc (Nat.le_refl _) _ |>.more (by simp)) hn (by omega)).mono ?_
  · unfold World.cell?
    rw [heap_alloc_new]
    rfl
  · unfold World.cell?
    rw [heap_alloc_new]
    rfl
  rintro e w3 ⟨A3, c3, rfl, hown3, hb3⟩
  go_wp2_with fail
  go_ret
  have hb4 := hb12.alloc hb12.size (.cells #[.slice A n c, .slice (some ⟨g, 0, none⟩) 4 c1] 22)
  exact ⟨A3, c3, rfl, hown3.lower hb4.size, chain hb4 hb3⟩

theorem whole_any (A : Option Addr) (n c : Nat) (l : List UInt8) (w : World) (hr : RdB w w.heap.size A n c l) (hn : n ≤ 1099511627776 / 2) :
    Calls Tryz.prog 104 #[.slice A n c] w fun e w' => e = .returned (.bool (wholeB l)) ∧ Below w.heap.size w w' := by
  obtain rfl : l.length = n := hr.length
  have hle := hr.le
  by_cases h4 : 4 ≤ l.length
  · have hr2 := hr.take (k := l.length - 4) (by omega) (c' := c) (by omega) (Nat.le_refl _)
    have hw := wholeB_eq h4
    rw [hw]
    clear hw
    obtain ⟨m, hm⟩ : ∃ m, l.length = m + 4 := ⟨l.length - 4, by omega⟩
    rw [hm] at hr hn hle h4 ⊢
    simp only [Nat.add_sub_cancel] at hr2 ⊢
    rw [hm, Nat.add_sub_cancel] at hr2
    have hs := seal_any A m c _ w hr2 (by omega)
    generalize l.take m ++ fourL (ofN (l.take m)) = y at *
    have HS := Lib.hid hs
    clear hs hm
    go_enter Tryz.func104, Tryz.ntmps104
    go_wp2_with (first | (go_at_call 78; refine HS.out.mono ?_; rintro e w1 ⟨A1, c1, rfl, hown1, hb1⟩) | (go_at_call 143; refine (equal_any _ _ _ _ _ _ _ _ _ _ _ hown1.rd (hr.below hb1)).mono ?_; rintro e w2 ⟨rfl, k, rfl⟩))
    go_ret
    exact ⟨rfl, below_drewN hb1 _⟩
  · rw [wholeB_short (by omega)]
    go_enter Tryz.func104, Tryz.ntmps104
    go_wp2_with fail
    go_ret
    exact ⟨rfl, Below.refl _ _⟩

theorem RdB.take04 {w : World} {B n c : Nat} {A : Option Addr} {l : List UInt8} (h : RdB w B A n c l) (k : Nat) : RdB w B A (l.take k).length c (l.take k) := by
  have hn := h.length
  have hle := h.le
  by_cases hk : k ≤ n
  · have e : (l.take k).length = k := by simp; omega
    rw [e]
    exact h.take hk (by omega) (Nat.le_refl _)
  · rw [List.take_of_length_le (by omega), hn]
    exact h

end Go.Proofs.YtnkjekkdndjfaaaGreat
