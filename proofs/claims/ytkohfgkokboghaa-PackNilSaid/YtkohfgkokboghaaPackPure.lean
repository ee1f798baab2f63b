/- Plain functions on bytes: numbers as bytes, and what a reader of bytes does. No program is named here. -/
namespace Go.Proofs.Ytkohfgkokboghaa
set_option linter.unusedVariables false

/-- a number as so many bytes, the highest first -/
def putN (x : Nat) : Nat → List UInt8
  | 0 => []
  | k + 1 => putN (x / 256) k ++ [UInt8.ofNat x]
theorem putN_length (x k : Nat) : (putN x k).length = k := by
  induction k generalizing x with
  | zero => rfl
  | succ k ih => simp [putN, ih]

theorem putN_cons (x j : Nat) : putN x (j + 1) = UInt8.ofNat (x / 256 ^ j) :: putN x j := by
  induction j generalizing x with
  | zero => simp [putN]
  | succ j ih =>
    rw [putN, ih, putN, Nat.div_div_eq_div_mul, ← Nat.pow_succ']
    rfl

/-- the same at any width: nothing outside of 1 to 8 -/
def putW (x : Nat) (width : Int) : List UInt8 := if 1 ≤ width ∧ width ≤ 8 then putN x width.toNat else []

/-- the number of bytes -/
def num (l : List UInt8) : Nat := l.foldl (fun n c => (n * 256 + c.toNat) % 18446744073709551616) 0
theorem num_snoc (l : List UInt8) (c : UInt8) : num (l ++ [c]) = (num l * 256 + c.toNat) % 18446744073709551616 := by simp [num]
theorem num_lt (l : List UInt8) : num l < 18446744073709551616 := by
  rcases List.eq_nil_or_concat l with rfl | ⟨l', c, rfl⟩
  · simp [num]
  · rw [List.concat_eq_append, num_snoc]; omega

/-- what is still to be read, and whether the reader is bad -/
structure St where
  l : List UInt8
  bad : Bool

def St.bytes (s : St) (n : Int) : List UInt8 × St :=
  if s.bad = true ∨ n < 0 ∨ (s.l.length : Int) < n then ([], ⟨s.l, true⟩) else (s.l.take n.toNat, ⟨s.l.drop n.toNat, false⟩)
def St.u (s : St) (width : Int) : Nat × St :=
  if width < 1 ∨ 8 < width then (0, ⟨s.l, true⟩) else (num (s.bytes width).1, (s.bytes width).2)
def St.spoilt (s : St) (n : Nat) : St := if 64 < n then ⟨s.l, true⟩ else s
def St.text (s : St) : List UInt8 × St := ((s.u 1).2.spoilt (s.u 1).1).bytes (s.u 1).1
def St.left (s : St) : Nat := if s.bad = true then 0 else s.l.length

theorem St.bytes_bad {s : St} {n : Int} (h : s.bad = true ∨ n < 0 ∨ (s.l.length : Int) < n) : s.bytes n = ([], ⟨s.l, true⟩) := if_pos h
theorem St.bytes_ok {s : St} {n : Nat} (h : s.bad = false) (hn : n ≤ s.l.length) : s.bytes n = (s.l.take n, ⟨s.l.drop n, false⟩) := by
  unfold St.bytes
  rw [if_neg (by rw [h]; simp; omega)]
  simp
theorem St.bytes_length (s : St) (n : Int) : ((s.bytes n).1.length : Int) ≤ n ∨ (s.bytes n).1 = [] := by
  unfold St.bytes
  split
  · exact .inr rfl
  · simp; omega
theorem St.u_lt (s : St) (width : Int) : (s.u width).1 < 18446744073709551616 := by
  unfold St.u
  split
  · simp
  · exact num_lt _
theorem num_one_lt (l : List UInt8) (h : l.length ≤ 1) : num l < 256 := by
  match l, h with
  | [], _ => simp [num]
  | [c], _ => have := c.toNat_lt; simp [num]; omega
theorem St.u_one_lt (s : St) : (s.u 1).1 < 256 := by
  unfold St.u
  rw [if_neg (by omega)]
  refine num_one_lt _ ?_
  rcases s.bytes_length 1 with h | h
  · omega
  · rw [h]; simp
end Go.Proofs.Ytkohfgkokboghaa
