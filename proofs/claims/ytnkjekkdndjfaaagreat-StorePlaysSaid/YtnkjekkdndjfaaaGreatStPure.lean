
/- A state as bytes, as plain functions. No program is named here. -/
import Derived.Test.YtnkjekkdndjfaaaGreatEffPure
import Derived.Test.YtnkjekkdndjfaaaGreatKvOf
namespace Go.Proofs.YtnkjekkdndjfaaaGreat
set_option linter.unusedVariables false
set_option linter.unusedSimpArgs false
def itemL (x : It) : List UInt8 := putN x.r.toNat 8 ++ (longL x.k ++ longL x.v)
def stL (rev : Int) (l : List It) : List UInt8 := putN rev.toNat 8 ++ (putN l.length 4 ++ l.flatMap itemL)
theorem itemL_length (x : It) : (itemL x).length = 16 + x.k.size + x.v.size := by
  unfold itemL
  simp only [List.length_append, putN_length, longL_length]
  omega
/-- one item that is read -/
def St.item (s : St) : It × St :=
  let s1 := s.u 8
  let s2 := s1.2.long
  let s3 := s2.2.long
  (⟨⟨s2.1.toArray⟩, ⟨s3.1.toArray⟩, sgn s1.1⟩, s3.2)
/-- so many, till it is bad -/
def St.items : Nat → St → List It × St
  | 0, s => ([], s)
  | k + 1, s => if s.bad then ([], s) else (s.item.1 :: (St.items k s.item.2).1, (St.items k s.item.2).2)
theorem St.items_bad {s : St} (h : s.bad = true) (n : Nat) : s.items n = ([], s) := by
  cases n with
  | zero => rfl
  | succ n => rw [St.items, if_pos h]
theorem St.items_step {s : St} (h : s.bad = false) (n : Nat) : s.items (n + 1) = (s.item.1 :: (s.item.2.items n).1, (s.item.2.items n).2) := by
  rw [St.items, if_neg (by rw [h]; simp)]
structure RdSt where
  rev : Int
  l : List It
  s : St
def rdS (b : List UInt8) : RdSt :=
  let s1 := (⟨b, false⟩ : St).u 8
  let s2 := s1.2.u 4
  let r := s2.2.items s2.1
  ⟨sgn s1.1, r.1, r.2⟩
def okS (b : List UInt8) : Bool := (rdS b).s.done && rightL (rdS b).rev (rdS b).l
theorem sgn_nat {m : Nat} (h0 : 0 ≤ sgn m) : (sgn m).toNat = m ∨ 18446744073709551616 ≤ m := by
  unfold sgn at h0 ⊢
  split at h0
  · rename_i h; rw [if_pos h]; omega
  · rename_i h; rw [if_neg h]; omega
theorem It.ext' {x y : It} (h1 : x.k = y.k) (h2 : x.v = y.v) (h3 : x.r = y.r) : x = y := by cases x; cases y; simp_all
theorem St.item_front (x : It) (hk : x.k.size < 4294967296) (hv : x.v.size < 4294967296) (h0 : 0 ≤ x.r) (h1 : x.r < 9223372036854775808) (r : List UInt8) : (⟨itemL x ++ r, false⟩ : St).item = (x, ⟨r, false⟩) := by
  have e1 := St.u_putN x.r.toNat 8 (by omega) (by omega) (by omega) (longL x.k ++ (longL x.v ++ r))
  have e2 := St.long_front x.k hk (longL x.v ++ r)
  have e3 := St.long_front x.v hv r
  have e0 : itemL x ++ r = putN x.r.toNat 8 ++ (longL x.k ++ (longL x.v ++ r)) := by simp [itemL]
  have e1' : (⟨itemL x ++ r, false⟩ : St).u 8 = (x.r.toNat, ⟨longL x.k ++ (longL x.v ++ r), false⟩) := by rw [e0]; exact e1
  unfold St.item
  simp only [e1', e2, e3]
  congr 1
  refine It.ext' (y := x) rfl rfl ?_
  simp only [sgn]
  rw [if_pos (by omega)]
  omega
theorem St.items_front (r : List UInt8) : ∀ l : List It, (∀ x ∈ l, x.k.size < 4294967296 ∧ x.v.size < 4294967296 ∧ 0 ≤ x.r ∧ x.r < 9223372036854775808) → (⟨l.flatMap itemL ++ r, false⟩ : St).items l.length = (l, ⟨r, false⟩)
  | [], _ => rfl
  | x :: l, h => by
    obtain ⟨h1, h2, h3, h4⟩ := h x (by simp)
    rw [List.length_cons, St.items_step rfl, List.flatMap_cons, List.append_assoc, St.item_front x h1 h2 h3 h4, St.items_front r l fun y hy => h y (by simp [hy])]
theorem St.item_back {s : St} (h : s.item.2.bad = false) : s.bad = false ∧ ∃ m, m < 18446744073709551616 ∧ s.item.1.r = sgn m ∧ s.l = putN m 8 ++ (longL s.item.1.k ++ (longL s.item.1.v ++ s.item.2.l)) := by
  unfold St.item at *
  simp only at h ⊢
  generalize hs1 : s.u 8 = s1 at *
  generalize hs2 : s1.2.long = s2 at *
  generalize hs3 : s2.2.long = s3 at *
  obtain ⟨c1, c2⟩ := St.long_back (s := s2.2) (by rw [hs3]; exact h)
  obtain ⟨d1, d2⟩ := St.long_back (s := s1.2) (by rw [hs2]; exact c1)
  obtain ⟨f1, f2, f3⟩ := St.u_back (s := s) (k := 8) (by omega) (by omega) (by rw [show ((8 : Nat) : Int) = 8 from rfl, hs1]; exact d1)
  rw [show ((8 : Nat) : Int) = 8 from rfl, hs1] at f2 f3
  rw [hs2] at d2
  rw [hs3] at c2
  exact ⟨f1, s1.1, f3, rfl, by rw [f2, d2, c2]⟩
theorem St.items_back : ∀ (n : Nat) {s : St}, (s.items n).2.bad = false → s.bad = false ∧ (s.items n).1.length = n ∧ 16 * n + (s.items n).2.l.length ≤ s.l.length ∧ ((∀ x ∈ (s.items n).1, 0 ≤ x.r) → s.l = (s.items n).1.flatMap itemL ++ (s.items n).2.l)
  | 0, s, h => ⟨h, rfl, by simp [St.items], fun _ => rfl⟩
  | n + 1, s, h => by
    cases hb : s.bad with
    | true => rw [St.items_bad hb] at h; simp only at h; rw [hb] at h; cases h
    | false =>
      rw [St.items_step hb] at h ⊢
      simp only at h ⊢
      obtain ⟨i1, i2, i3, i4⟩ := St.items_back n h
      obtain ⟨_, m, hm, hr, hl⟩ := St.item_back i1
      have hlen := congrArg List.length hl
      simp only [List.length_append, putN_length, longL_length] at hlen
      refine ⟨trivial, by rw [List.length_cons, i2], by omega, fun hx => ?_⟩
      have h0 := hx s.item.1 (by simp)
      rw [hr] at h0
      have hmm : s.item.1.r.toNat = m := by
        rw [hr]
        rcases sgn_nat h0 with h | h
        · exact h
        · omega
      rw [hl, i4 fun x hx' => hx x (by simp [hx']), List.flatMap_cons, itemL, hmm]
      simp
/-- what is read is so short -/
theorem rdS_len {b : List UInt8} (h : (rdS b).s.done = true) : 16 * (rdS b).l.length ≤ b.length := by
  unfold rdS at *
  simp only at h ⊢
  simp only [St.done, Bool.and_eq_true, Bool.not_eq_true'] at h
  obtain ⟨i1, i2, i3, _⟩ := St.items_back _ h.1
  generalize hs1 : (⟨b, false⟩ : St).u 8 = s1 at *
  generalize hs2 : s1.2.u 4 = s2 at *
  obtain ⟨f1, f2, f3⟩ := St.u_back (s := s1.2) (k := 4) (by omega) (by omega) (by rw [show ((4 : Nat) : Int) = 4 from rfl, hs2]; exact i1)
  obtain ⟨k1, k2, k3⟩ := St.u_back (s := ⟨b, false⟩) (k := 8) (by omega) (by omega) (by rw [show ((8 : Nat) : Int) = 8 from rfl, hs1]; exact f1)
  rw [show ((4 : Nat) : Int) = 4 from rfl, hs2] at f2
  rw [show ((8 : Nat) : Int) = 8 from rfl, hs1] at k2
  have l1 := congrArg List.length f2
  have l2 := congrArg List.length k2
  simp only [List.length_append, putN_length] at l1 l2
  omega
theorem rightL_ok {rev : Int} {l : List It} (h : rightL rev l = true) : 0 ≤ rev ∧ ∀ x ∈ l, keyB x.k = true ∧ x.v.size ≤ 65536 ∧ 1 ≤ x.r ∧ x.r ≤ rev := by
  unfold rightL at h
  simp only [Bool.and_eq_true, decide_eq_true_eq] at h
  refine ⟨h.2, fun x hx => ?_⟩
  have := rightF_ok h.1 x hx
  unfold itOk at this
  simp only [Bool.and_eq_true, decide_eq_true_eq] at this
  exact ⟨this.1.1.1, this.1.1.2, this.1.2, this.2⟩
/-- bytes that are read as a state are that one's -/
theorem put_okS {b : List UInt8} (h : okS b = true) : stL (rdS b).rev (rdS b).l = b := by
  unfold okS at h
  rw [Bool.and_eq_true] at h
  obtain ⟨h1, h2⟩ := h
  obtain ⟨h0, hx⟩ := rightL_ok h2
  unfold rdS at *
  simp only at h1 h0 hx ⊢
  simp only [St.done, Bool.and_eq_true, Bool.not_eq_true', List.isEmpty_iff] at h1
  obtain ⟨i1, i2, i3, i4⟩ := St.items_back _ h1.1
  generalize hs1 : (⟨b, false⟩ : St).u 8 = s1 at *
  generalize hs2 : s1.2.u 4 = s2 at *
  obtain ⟨f1, f2, f3⟩ := St.u_back (s := s1.2) (k := 4) (by omega) (by omega) (by rw [show ((4 : Nat) : Int) = 4 from rfl, hs2]; exact i1)
  obtain ⟨k1, k2, k3⟩ := St.u_back (s := ⟨b, false⟩) (k := 8) (by omega) (by omega) (by rw [show ((8 : Nat) : Int) = 8 from rfl, hs1]; exact f1)
  rw [show ((4 : Nat) : Int) = 4 from rfl, hs2] at f2
  rw [show ((8 : Nat) : Int) = 8 from rfl, hs1] at k2 k3
  have e4 := i4 fun x hx' => by have := (hx x hx').2.2.1; omega
  rw [h1.2, List.append_nil] at e4
  have hr : (sgn s1.1).toNat = s1.1 := by
    rcases sgn_nat h0 with h | h
    · exact h
    · have : (256 : Nat) ^ 8 = 18446744073709551616 := by decide
      omega
  have k2' : b = putN s1.1 8 ++ s1.2.l := k2
  unfold stL
  rw [hr, i2, ← e4, ← f2, ← k2']
/-- a right state's bytes are read as it was -/
theorem rdS_put {rev : Int} {l : List It} (h : rightL rev l = true) (hr : rev < 9223372036854775808) (hl : l.length < 4294967296) : rdS (stL rev l) = ⟨rev, l, ⟨[], false⟩⟩ := by
  obtain ⟨h0, hx⟩ := rightL_ok h
  have e1 := St.u_putN rev.toNat 8 (by omega) (by omega) (by omega) (putN l.length 4 ++ l.flatMap itemL)
  have e2 := St.u_putN l.length 4 (by omega) (by omega) (by omega) (l.flatMap itemL)
  have e3 := St.items_front [] l fun x hx' => by
    obtain ⟨a, b, c, d⟩ := hx x hx'
    unfold keyB at a
    simp only [Bool.and_eq_true, decide_eq_true_eq] at a
    exact ⟨by omega, by omega, by omega, by omega⟩
  rw [List.append_nil] at e3
  have e1' : (⟨stL rev l, false⟩ : St).u 8 = _ := e1
  have e2' : (⟨putN l.length 4 ++ l.flatMap itemL, false⟩ : St).u 4 = _ := e2
  unfold rdS
  simp only [e1', e2', e3]
  congr 1
  simp only [sgn]
  rw [if_pos (by omega)]
  omega
theorem okS_put {rev : Int} {l : List It} (h : rightL rev l = true) (hr : rev < 9223372036854775808) (hl : l.length < 4294967296) : okS (stL rev l) = true := by
  unfold okS
  rw [rdS_put h hr hl]
  simp [h, St.done]
end Go.Proofs.YtnkjekkdndjfaaaGreat
