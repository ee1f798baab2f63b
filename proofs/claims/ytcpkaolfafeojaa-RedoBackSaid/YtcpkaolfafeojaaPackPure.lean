
/- Plain functions on bytes: numbers as bytes, and what a reader of bytes does. No program is named here. -/
namespace Go.Proofs.Ytcpkaolfafeojaa
set_option linter.unusedSimpArgs false
set_option linter.unusedVariables false

/-- a number as so many bytes, the highest first -/
def putN (x : Nat) : Nat → List UInt8
  | 0 => []
  | k + 1 => putN (x / 256) k ++ [UInt8.ofNat x]
theorem putN_length (x k : Nat) : (putN x k).length = k := by
  induction k generalizing x with
  | zero => rfl
  | succ k ih => simp [putN, ih]

theorem putN_cons (x j : Nat) : putN x (j + 1) = UInt8.ofNat (x / 256 ^ j) :: putN x j := by
  induction j generalizing x with
  | zero => simp [putN]
  | succ j ih =>
    rw [putN, ih, putN, Nat.div_div_eq_div_mul, ← Nat.pow_succ']
    rfl

/-- the same at any width: nothing outside of 1 to 8 -/
def putW (x : Nat) (width : Int) : List UInt8 := if 1 ≤ width ∧ width ≤ 8 then putN x width.toNat else []

theorem putW_length (x : Nat) (width : Int) : (putW x width).length ≤ 8 := by
  unfold putW
  split
  · rw [putN_length]; omega
  · simp

theorem cat_str (a b : List UInt8) : (⟨a.toArray⟩ ++ ⟨b.toArray⟩ : ByteArray) = ⟨(a ++ b).toArray⟩ := by
  apply ByteArray.ext
  rw [ByteArray.data_append]
  simp

/-- the number of bytes -/
def num (l : List UInt8) : Nat := l.foldl (fun n c => (n * 256 + c.toNat) % 18446744073709551616) 0
theorem num_snoc (l : List UInt8) (c : UInt8) : num (l ++ [c]) = (num l * 256 + c.toNat) % 18446744073709551616 := by simp [num]
theorem num_lt (l : List UInt8) : num l < 18446744073709551616 := by
  rcases List.eq_nil_or_concat l with rfl | ⟨l', c, rfl⟩
  · simp [num]
  · rw [List.concat_eq_append, num_snoc]; omega

/-- what is still to be read, and whether the reader is bad -/
structure St where
  l : List UInt8
  bad : Bool

def St.bytes (s : St) (n : Int) : List UInt8 × St :=
  if s.bad = true ∨ n < 0 ∨ (s.l.length : Int) < n then ([], ⟨s.l, true⟩) else (s.l.take n.toNat, ⟨s.l.drop n.toNat, false⟩)
def St.u (s : St) (width : Int) : Nat × St :=
  if width < 1 ∨ 8 < width then (0, ⟨s.l, true⟩) else (num (s.bytes width).1, (s.bytes width).2)
def St.spoilt (s : St) (n : Nat) : St := if 64 < n then ⟨s.l, true⟩ else s
def St.text (s : St) : List UInt8 × St := ((s.u 1).2.spoilt (s.u 1).1).bytes (s.u 1).1
def St.left (s : St) : Nat := if s.bad = true then 0 else s.l.length

theorem St.bytes_bad {s : St} {n : Int} (h : s.bad = true ∨ n < 0 ∨ (s.l.length : Int) < n) : s.bytes n = ([], ⟨s.l, true⟩) := if_pos h
theorem St.bytes_ok {s : St} {n : Nat} (h : s.bad = false) (hn : n ≤ s.l.length) : s.bytes n = (s.l.take n, ⟨s.l.drop n, false⟩) := by
  unfold St.bytes
  rw [if_neg (by rw [h]; simp; omega)]
  simp
theorem St.bytes_length (s : St) (n : Int) : ((s.bytes n).1.length : Int) ≤ n ∨ (s.bytes n).1 = [] := by
  unfold St.bytes
  split
  · exact .inr rfl
  · simp; omega
theorem St.u_lt (s : St) (width : Int) : (s.u width).1 < 18446744073709551616 := by
  unfold St.u
  split
  · simp
  · exact num_lt _
theorem num_one_lt (l : List UInt8) (h : l.length ≤ 1) : num l < 256 := by
  match l, h with
  | [], _ => simp [num]
  | [c], _ => have := c.toNat_lt; simp [num]; omega
theorem St.u_one_lt (s : St) : (s.u 1).1 < 256 := by
  unfold St.u
  rw [if_neg (by omega)]
  refine num_one_lt _ ?_
  rcases s.bytes_length 1 with h | h
  · omega
  · rw [h]; simp

/-- a text behind its length, one byte -/
def textL (s : ByteArray) : List UInt8 := UInt8.ofNat s.size :: s.data.toList
theorem textL_length (s : ByteArray) : (textL s).length = s.size + 1 := by
  simp only [textL, List.length_cons, Array.length_toList]
  rfl

theorem St.bytes_front (a r : List UInt8) : (⟨a ++ r, false⟩ : St).bytes (a.length : Int) = (a, ⟨r, false⟩) := by
  rw [St.bytes_ok rfl (by simp)]
  simp
theorem St.u_put (x : Nat) (width : Int) (h1 : 1 ≤ width) (h8 : width ≤ 8) (r : List UInt8) : (⟨putW x width ++ r, false⟩ : St).u width = (num (putW x width), ⟨r, false⟩) := by
  have e : ((putW x width).length : Int) = width := by
    unfold putW
    rw [if_pos ⟨h1, h8⟩, putN_length]
    omega
  unfold St.u
  rw [if_neg (by omega)]
  have := St.bytes_front (putW x width) r
  rw [e] at this
  rw [this]
theorem St.text_front (s : ByteArray) (hs : s.size ≤ 64) (r : List UInt8) : (⟨textL s ++ r, false⟩ : St).text = (s.data.toList, ⟨r, false⟩) := by
  have e1 : (⟨textL s ++ r, false⟩ : St).u 1 = (s.size, ⟨s.data.toList ++ r, false⟩) := by
    unfold St.u
    rw [if_neg (by omega)]
    have := St.bytes_front [UInt8.ofNat s.size] (s.data.toList ++ r)
    simp only [List.length_cons, List.length_nil] at this
    rw [show textL s ++ r = [UInt8.ofNat s.size] ++ (s.data.toList ++ r) from rfl, show ((1 : Int)) = ((0 + 1 : Nat) : Int) from rfl, this]
    simp [num]
    omega
  unfold St.text
  rw [e1]
  simp only [St.spoilt]
  rw [if_neg (by omega)]
  have := St.bytes_front s.data.toList r
  rw [Array.length_toList] at this
  exact this
end Go.Proofs.Ytcpkaolfafeojaa
