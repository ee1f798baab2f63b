
/- The sum of bytes as plain functions on numbers: one bit, one byte, many bytes; that it is linear over exclusive or; that a burst is seen. No program is named here. -/
namespace Go.Proofs.Ytmoijbknjadeeaa
set_option linter.unusedVariables false
set_option linter.unusedSimpArgs false

/-- one bit -/
def bit (s : Nat) : Nat := if s % 2 = 1 then s / 2 ^^^ 2197175160 else s / 2
/-- so many bits -/
def bitK : Nat → Nat → Nat
  | 0, s => s
  | k + 1, s => bitK k (bit s)
def byteN (s c : Nat) : Nat := bitK 8 (s ^^^ c)
def moreN (s : Nat) (l : List UInt8) : Nat := l.foldl (fun s c => byteN s c.toNat) s
def ofN (l : List UInt8) : Nat := 4294967295 - moreN 4294967295 l
def fourL (n : Nat) : List UInt8 := [UInt8.ofNat n, UInt8.ofNat (n / 256), UInt8.ofNat (n / 65536), UInt8.ofNat (n / 16777216)]
/-- what four bits that go do to the rest -/
def tblN (j : Nat) : Nat := bitK 4 j
def halfN (s : Nat) : Nat := s / 16 ^^^ tblN (s % 16)

theorem xor_half (a b : Nat) : (a ^^^ b) / 2 = a / 2 ^^^ b / 2 := by
  have := Nat.shiftRight_xor_distrib (a := a) (b := b) (i := 1)
  simpa [Nat.shiftRight_eq_div_pow] using this
theorem xor_odd (a b : Nat) : (a ^^^ b) % 2 = (a % 2 + b % 2) % 2 := by
  have h := Nat.xor_mod_two_pow (a := a) (b := b) (n := 1)
  rw [Nat.pow_one] at h
  rw [h]
  rcases Nat.mod_two_eq_zero_or_one a with ha | ha <;> rcases Nat.mod_two_eq_zero_or_one b with hb | hb <;> rw [ha, hb] <;> rfl

theorem bit_xor (a b : Nat) : bit (a ^^^ b) = bit a ^^^ bit b := by
  unfold bit
  rw [xor_half, xor_odd]
  rcases Nat.mod_two_eq_zero_or_one a with ha | ha <;> rcases Nat.mod_two_eq_zero_or_one b with hb | hb <;> rw [ha, hb] <;> simp
  · rw [Nat.xor_assoc]
  · rw [Nat.xor_assoc, Nat.xor_assoc, Nat.xor_comm (b / 2)]
  · rw [Nat.xor_assoc, Nat.xor_comm 2197175160 (b / 2 ^^^ 2197175160), Nat.xor_assoc, Nat.xor_self, Nat.xor_zero]
theorem bitK_xor (k a b : Nat) : bitK k (a ^^^ b) = bitK k a ^^^ bitK k b := by
  induction k generalizing a b with
  | zero => rfl
  | succ k ih => rw [bitK, bit_xor, ih]; rfl
theorem bit_even (x : Nat) : bit (2 * x) = x := by
  unfold bit
  rw [if_neg (by omega)]
  omega
theorem bitK_shift (k x : Nat) : bitK k (2 ^ k * x) = x := by
  induction k generalizing x with
  | zero => simp [bitK]
  | succ k ih =>
    rw [bitK, Nat.pow_succ, show 2 ^ k * 2 * x = 2 * (2 ^ k * x) from by rw [Nat.mul_comm (2 ^ k) 2, Nat.mul_assoc], bit_even, ih]
theorem bitK_add (j k s : Nat) : bitK (j + k) s = bitK k (bitK j s) := by
  induction j generalizing s with
  | zero => simp [bitK]
  | succ j ih => rw [Nat.succ_add, bitK, ih]; rfl
theorem xor_low (c k x : Nat) (hc : c < 2 ^ k) : c ^^^ 2 ^ k * x = c + 2 ^ k * x := by
  have h := Nat.two_pow_add_eq_or_of_lt hc x
  rw [Nat.add_comm, h]
  apply Nat.eq_of_testBit_eq
  intro i
  rw [Nat.testBit_xor, Nat.testBit_or, Nat.testBit_two_pow_mul]
  by_cases hi : k ≤ i
  · rw [Nat.testBit_lt_two_pow (Nat.lt_of_lt_of_le hc (Nat.pow_le_pow_right (by omega) hi))]
    simp
  · simp [hi]

theorem half_eq (s : Nat) : bitK 4 s = halfN s := by
  have h : s = s % 16 ^^^ 2 ^ 4 * (s / 16) := by
    rw [xor_low _ _ _ (by omega)]
    omega
  unfold halfN tblN
  conv => lhs; rw [h]
  rw [bitK_xor, bitK_shift, Nat.xor_comm]
theorem byte_eq (s c : Nat) : byteN s c = halfN (halfN (s ^^^ c)) := by
  unfold byteN
  rw [show (8 : Nat) = 4 + 4 from rfl, bitK_add, half_eq, half_eq]

theorem bit_lt {s : Nat} (h : s < 4294967296) : bit s < 4294967296 := by
  unfold bit
  split
  · exact Nat.xor_lt_two_pow (n := 32) (by omega) (by decide)
  · omega
theorem bitK_lt (k : Nat) {s : Nat} (h : s < 4294967296) : bitK k s < 4294967296 := by
  induction k generalizing s with
  | zero => exact h
  | succ k ih => exact ih (bit_lt h)
theorem half_lt {s : Nat} (h : s < 4294967296) : halfN s < 4294967296 := by rw [← half_eq]; exact bitK_lt 4 h
theorem byte_lt {s : Nat} (h : s < 4294967296) (c : UInt8) : byteN s c.toNat < 4294967296 :=
  bitK_lt 8 (Nat.xor_lt_two_pow (n := 32) h (by have := c.toNat_lt; omega))
theorem more_lt {s : Nat} (h : s < 4294967296) (l : List UInt8) : moreN s l < 4294967296 := by
  induction l generalizing s with
  | nil => exact h
  | cons c l ih => exact ih (byte_lt h c)
theorem more_append (s : Nat) (a b : List UInt8) : moreN s (a ++ b) = moreN (moreN s a) b := by simp [moreN]
theorem more_snoc (s : Nat) (a : List UInt8) (c : UInt8) : moreN s (a ++ [c]) = byteN (moreN s a) c.toNat := by simp [moreN]
theorem of_lt (l : List UInt8) : ofN l < 4294967296 := by unfold ofN; omega

/-! bytes as one great number, the first byte the lowest -/
def bigN : List UInt8 → Nat
  | [] => 0
  | c :: l => c.toNat + 256 * bigN l
theorem more_big (s : Nat) (l : List UInt8) : moreN s l = bitK (8 * l.length) (s ^^^ bigN l) := by
  induction l generalizing s with
  | nil => simp [moreN, bigN, bitK]
  | cons c l ih =>
    have h1 : moreN s (c :: l) = moreN (byteN s c.toNat) l := rfl
    have h2 : s ^^^ bigN (c :: l) = (s ^^^ c.toNat) ^^^ 2 ^ 8 * bigN l := by
      have := xor_low c.toNat 8 (bigN l) c.toNat_lt
      rw [show bigN (c :: l) = c.toNat + 2 ^ 8 * bigN l from rfl, ← this, Nat.xor_assoc]
    rw [h1, ih, h2, show 8 * (c :: l).length = 8 + 8 * l.length from by simp; omega, bitK_add, bitK_xor 8 (s ^^^ c.toNat), bitK_shift]
    rfl

theorem bit_pos {s : Nat} (h0 : s ≠ 0) (h : s < 4294967296) : bit s ≠ 0 := by
  unfold bit
  split
  · intro e
    have : s / 2 = 2197175160 := by
      have e2 := congrArg (· ^^^ 2197175160) e
      simp only [Nat.xor_assoc, Nat.xor_self, Nat.xor_zero, Nat.zero_xor] at e2
      exact e2
    omega
  · omega
theorem bitK_pos (k : Nat) {s : Nat} (h0 : s ≠ 0) (h : s < 4294967296) : bitK k s ≠ 0 := by
  induction k generalizing s with
  | zero => exact h0
  | succ k ih => exact ih (bit_pos h0 h) (bit_lt h)

theorem big_four (n : Nat) (h : n < 4294967296) : bigN (fourL n) = n := by
  simp [fourL, bigN]
  omega
theorem not_u32 {s : Nat} (hs : s < 4294967296) : 4294967295 - s = 4294967295 ^^^ s := by
  have : 2 ^ 32 - 1 - s = (2 ^ 32 - 1) ^^^ s := by
    apply Nat.eq_of_testBit_eq
    intro i
    rw [Nat.testBit_xor, Nat.testBit_two_pow_sub_one, show 2 ^ 32 - 1 - s = 2 ^ 32 - (s + 1) from by omega, Nat.testBit_two_pow_sub_succ (by omega)]
    by_cases hi : i < 32
    · simp [hi]
    · rw [Nat.testBit_lt_two_pow (Nat.lt_of_lt_of_le hs (Nat.pow_le_pow_right (n := 2) (by omega) (show 32 ≤ i by omega)))]
      simp [hi]
  exact this
/-- the state behind bytes and their sum is always the same -/
theorem more_sealed (l : List UInt8) : moreN 4294967295 (l ++ fourL (ofN l)) = bitK 32 4294967295 := by
  have hs := more_lt (s := 4294967295) (by omega) l
  rw [more_append, more_big (moreN 4294967295 l), big_four _ (of_lt l)]
  congr 1
  unfold ofN
  generalize moreN 4294967295 l = s at *
  have h2 := not_u32 hs
  rw [h2, Nat.xor_comm 4294967295 s, ← Nat.xor_assoc, Nat.xor_self, Nat.zero_xor]

/-- whole: bytes whose last four are the sum of those ahead -/
def Whole (y : List UInt8) : Prop := 4 ≤ y.length ∧ y.drop (y.length - 4) = fourL (ofN (y.take (y.length - 4)))
theorem whole_state {y : List UInt8} (h : Whole y) : moreN 4294967295 y = bitK 32 4294967295 := by
  have := more_sealed (y.take (y.length - 4))
  rw [← h.2, List.take_append_drop] at this
  exact this
theorem whole_sealed (l : List UInt8) : Whole (l ++ fourL (ofN l)) := by
  have h4 : (l ++ fourL (ofN l)).length = l.length + 4 := by simp [fourL]
  refine ⟨by omega, ?_⟩
  rw [h4, Nat.add_sub_cancel, List.drop_left, List.take_left]

/-- P4.4: two rows of one length that differ by a burst of less than 33 bits are not both whole -/
theorem burst {y z : List UInt8} (hl : z.length = y.length) (v at_ : Nat) (hv0 : v ≠ 0) (hv : v < 4294967296) (hat : at_ ≤ 8 * y.length) (hz : bigN z = bigN y ^^^ 2 ^ at_ * v) (hy : Whole y) : ¬ Whole z := by
  intro hzw
  have e := (whole_state hzw).trans (whole_state hy).symm
  rw [more_big, more_big, hl, hz, ← Nat.xor_assoc, bitK_xor _ (4294967295 ^^^ bigN y)] at e
  have e2 := congrArg (bitK (8 * y.length) (4294967295 ^^^ bigN y) ^^^ ·) e
  simp only [← Nat.xor_assoc, Nat.xor_self, Nat.zero_xor] at e2
  rw [show 8 * y.length = at_ + (8 * y.length - at_) from by omega, bitK_add, bitK_shift] at e2
  exact bitK_pos _ hv0 hv e2

theorem mul_xor8 (a b : Nat) : 2 ^ 8 * (a ^^^ b) = 2 ^ 8 * a ^^^ 2 ^ 8 * b := by
  have h := Nat.shiftLeft_xor_distrib (a := a) (b := b) (i := 8)
  simp only [Nat.shiftLeft_eq] at h
  rw [Nat.mul_comm, h, Nat.mul_comm a, Nat.mul_comm b]

/-- one bit turned -/
theorem big_flip : ∀ (l : List UInt8) (i j : Nat) (h : i < l.length), j < 8 → bigN (l.set i (UInt8.ofNat (l[i].toNat ^^^ 2 ^ j))) = bigN l ^^^ 2 ^ (8 * i + j)
  | c :: l, 0, j, h, hj => by
    have hx : c.toNat ^^^ 2 ^ j < 2 ^ 8 := Nat.xor_lt_two_pow c.toNat_lt (Nat.pow_lt_pow_right (by omega) hj)
    have h1 : (UInt8.ofNat (c.toNat ^^^ 2 ^ j)).toNat = c.toNat ^^^ 2 ^ j := by rw [UInt8.toNat_ofNat']; exact Nat.mod_eq_of_lt hx
    simp only [List.set_cons_zero, List.getElem_cons_zero, bigN, h1, Nat.mul_zero, Nat.zero_add]
    have e1 := xor_low _ 8 (bigN l) hx
    have e2 := xor_low c.toNat 8 (bigN l) c.toNat_lt
    rw [show 256 = 2 ^ 8 from rfl, ← e1, ← e2, Nat.xor_assoc, Nat.xor_comm (2 ^ j), Nat.xor_assoc]
  | c :: l, i + 1, j, h, hj => by
    have ih := big_flip l i j (by simpa using h) hj
    simp only [List.set_cons_succ, List.getElem_cons_succ, bigN, ih]
    have e1 := xor_low c.toNat 8 (bigN l ^^^ 2 ^ (8 * i + j)) c.toNat_lt
    have e2 := xor_low c.toNat 8 (bigN l) c.toNat_lt
    have e3 : 2 ^ 8 * (bigN l ^^^ 2 ^ (8 * i + j)) = 2 ^ 8 * bigN l ^^^ 2 ^ (8 * (i + 1) + j) := by
      rw [show 8 * (i + 1) + j = 8 + (8 * i + j) from by omega, mul_xor8, ← Nat.pow_add]
    rw [show 256 = 2 ^ 8 from rfl, ← e1, ← e2, e3, Nat.xor_assoc]

def wholeB (y : List UInt8) : Bool := decide (4 ≤ y.length) && decide (y.drop (y.length - 4) = fourL (ofN (y.take (y.length - 4))))
theorem wholeB_iff (y : List UInt8) : wholeB y = true ↔ Whole y := by simp [wholeB, Whole]
theorem wholeB_short {y : List UInt8} (h : y.length < 4) : wholeB y = false := by simp [wholeB]; omega
theorem wholeB_eq {y : List UInt8} (h : 4 ≤ y.length) : wholeB y = decide (y.take (y.length - 4) ++ fourL (ofN (y.take (y.length - 4))) = y) := by
  have e : (y.take (y.length - 4) ++ fourL (ofN (y.take (y.length - 4))) = y) ↔ y.drop (y.length - 4) = fourL (ofN (y.take (y.length - 4))) := by
    constructor
    · intro h
      have h2 := h.trans (List.take_append_drop (y.length - 4) y).symm
      exact (List.append_cancel_left h2).symm
    · intro h
      rw [← h, List.take_append_drop]
  simp [wholeB, h, e]
theorem wholeB_sealed (l : List UInt8) : wholeB (l ++ fourL (ofN l)) = true := (wholeB_iff _).2 (whole_sealed l)
theorem of_example : ofN [49, 50, 51, 52, 53, 54, 55, 56, 57] = 3808858755 := by decide +kernel
theorem fourL_length (x : Nat) : (fourL x).length = 4 := rfl
end Go.Proofs.Ytmoijbknjadeeaa
