
/- Effects as bytes, as plain functions. No program is named here. -/
import Derived.Test.YtnkjekkdndjfaaaGreatBase
namespace Go.Proofs.YtnkjekkdndjfaaaGreat
set_option linter.unusedVariables false
set_option linter.unusedSimpArgs false

theorem num_lt_pw (l : List UInt8) (h : l.length ≤ 8) : num l < 256 ^ l.length := by
  induction hn : l.length generalizing l with
  | zero =>
    obtain rfl : l = [] := List.eq_nil_of_length_eq_zero hn
    simp [num]
  | succ k ih =>
    rcases List.eq_nil_or_concat l with rfl | ⟨l', c, rfl⟩
    · simp at hn
    · rw [List.concat_eq_append] at *
      rw [List.length_append, List.length_singleton] at hn h
      have := ih l' (by omega) (by omega)
      rw [num_snoc, Nat.pow_succ]
      have hc := c.toNat_lt
      have : (num l' * 256 + c.toNat) % 18446744073709551616 ≤ num l' * 256 + c.toNat := Nat.mod_le _ _
      omega
theorem num_putN : ∀ (k x : Nat), k ≤ 8 → x < 256 ^ k → num (putN x k) = x := by
  intro k
  induction k with
  | zero => intro x _ hx; simp at hx; subst hx; rfl
  | succ k ih =>
    intro x hk hx
    rw [Nat.pow_succ] at hx
    rw [putN, num_snoc, ih (x / 256) (by omega) (by omega), UInt8.toNat_ofNat']
    have hp : 256 ^ (k + 1) ≤ 256 ^ 8 := Nat.pow_le_pow_right (by omega) hk
    rw [Nat.pow_succ] at hp
    have h1 : x / 256 * 256 + x % 2 ^ 8 = x := by omega
    rw [h1]
    exact Nat.mod_eq_of_lt (by omega)
/-- bytes are their number's bytes -/
theorem putN_num (l : List UInt8) (h : l.length ≤ 8) : putN (num l) l.length = l := by
  induction hn : l.length generalizing l with
  | zero =>
    obtain rfl : l = [] := List.eq_nil_of_length_eq_zero hn
    rfl
  | succ k ih =>
    rcases List.eq_nil_or_concat l with rfl | ⟨l', c, rfl⟩
    · simp at hn
    · rw [List.concat_eq_append] at *
      rw [List.length_append, List.length_singleton] at hn h
      have hl : l'.length = k := by omega
      have h1 := num_lt_pw l' (by omega)
      have h2 : 256 ^ l'.length ≤ 256 ^ 7 := Nat.pow_le_pow_right (by omega) (by omega)
      have hc := c.toNat_lt
      have e : (num l' * 256 + c.toNat) % 18446744073709551616 = num l' * 256 + c.toNat := Nat.mod_eq_of_lt (by omega)
      rw [num_snoc, e, putN, show (num l' * 256 + c.toNat) / 256 = num l' from by omega, ih l' (by omega) hl]
      have e2 : UInt8.ofNat (num l' * 256 + c.toNat) = c := by
        apply UInt8.toNat_inj.1
        rw [UInt8.toNat_ofNat']
        omega
      rw [e2]
theorem St.u_putN (x k : Nat) (h1 : 1 ≤ k) (h8 : k ≤ 8) (hx : x < 256 ^ k) (r : List UInt8) : (⟨putN x k ++ r, false⟩ : St).u (k : Int) = (x, ⟨r, false⟩) := by
  have e : putW x (k : Int) = putN x k := by unfold putW; rw [if_pos (by omega)]; simp
  have := St.u_put x (k : Int) (by omega) (by omega) r
  rw [e, num_putN k x h8 hx] at this
  exact this

structure Eff where
  k : ByteArray
  v : ByteArray
  r : Int
  g : Bool
def Eff.right (e : Eff) : Prop := 1 ≤ e.k.size ∧ e.k.size ≤ 128 ∧ e.v.size ≤ 65536 ∧ 0 < e.r ∧ (e.g = true → e.v.size = 0)
instance (e : Eff) : Decidable e.right := by unfold Eff.right; infer_instance
def longL (s : ByteArray) : List UInt8 := putN s.size 4 ++ s.data.toList
theorem longL_length (s : ByteArray) : (longL s).length = 4 + s.size := by
  unfold longL
  rw [List.length_append, putN_length, Array.length_toList]
  rfl
def effL (e : Eff) : List UInt8 := putN (if e.g then 2 else 1) 1 ++ (putN e.r.toNat 8 ++ (longL e.k ++ longL e.v))
theorem effL_length (e : Eff) : (effL e).length = 17 + e.k.size + e.v.size := by
  unfold effL
  simp only [List.length_append, putN_length, longL_length]
  omega
def St.long (s : St) : List UInt8 × St := (s.u 4).2.bytes ((s.u 4).1 : Int)
def St.done (s : St) : Bool := !s.bad && s.l.isEmpty
def sgn (n : Nat) : Int := if n < 9223372036854775808 then (n : Int) else (n : Int) - 18446744073709551616
/-- what is read: all of it, whatever it is -/
structure RdE where
  kind : Nat
  e : Eff
  s : St
def rdE (b : List UInt8) : RdE :=
  let s1 := (⟨b, false⟩ : St).u 1
  let s2 := s1.2.u 8
  let s3 := s2.2.long
  let s4 := s3.2.long
  ⟨s1.1, ⟨⟨s3.1.toArray⟩, ⟨s4.1.toArray⟩, sgn s2.1, decide (s1.1 = 2)⟩, s4.2⟩
def okE (b : List UInt8) : Prop := (rdE b).s.done = true ∧ ((rdE b).kind = 1 ∨ (rdE b).kind = 2) ∧ (rdE b).e.right
instance (b : List UInt8) : Decidable (okE b) := by unfold okE; infer_instance

theorem St.long_front (s : ByteArray) (hs : s.size < 4294967296) (r : List UInt8) : (⟨longL s ++ r, false⟩ : St).long = (s.data.toList, ⟨r, false⟩) := by
  unfold St.long longL
  rw [List.append_assoc, show (4 : Int) = ((4 : Nat) : Int) from rfl, St.u_putN s.size 4 (by omega) (by omega) (by omega)]
  have := St.bytes_front s.data.toList r
  rw [Array.length_toList] at this
  exact this
theorem Eff.ext' {e f : Eff} (h1 : e.k = f.k) (h2 : e.v = f.v) (h3 : e.r = f.r) (h4 : e.g = f.g) : e = f := by
  cases e; cases f; simp_all
theorem rdE_put (e : Eff) (h : e.right) (hr : e.r < 9223372036854775808) : rdE (effL e) = ⟨if e.g then 2 else 1, e, ⟨[], false⟩⟩ := by
  obtain ⟨h1, h2, h3, h4, h5⟩ := h
  have hk : (if e.g then 2 else 1 : Nat) < 256 ^ 1 := by split <;> omega
  have e1 := St.u_putN (if e.g then 2 else 1) 1 (by omega) (by omega) hk (putN e.r.toNat 8 ++ (longL e.k ++ longL e.v))
  have e2 := St.u_putN e.r.toNat 8 (by omega) (by omega) (by omega) (longL e.k ++ longL e.v)
  have e3 := St.long_front e.k (by omega) (longL e.v)
  have e4 := St.long_front e.v (by omega) []
  rw [List.append_nil] at e4
  have e1' : (⟨effL e, false⟩ : St).u 1 = _ := e1
  have e2' : (⟨putN e.r.toNat 8 ++ (longL e.k ++ longL e.v), false⟩ : St).u 8 = _ := e2
  unfold rdE
  simp only [e1', e2', e3, e4]
  congr 1
  refine Eff.ext' (f := e) rfl rfl ?_ ?_
  · simp only [sgn]
    rw [if_pos (by omega)]
    omega
  · cases e.g <;> rfl
theorem okE_put (e : Eff) (h : e.right) (hr : e.r < 9223372036854775808) : okE (effL e) := by
  unfold okE
  rw [rdE_put e h hr]
  refine ⟨rfl, ?_, h⟩
  cases e.g <;> simp
/-- right effects that are not the same have not the same bytes -/
theorem effL_inj (e f : Eff) (he : e.right) (hf : f.right) (hre : e.r < 9223372036854775808) (hrf : f.r < 9223372036854775808) (h : effL e = effL f) : e = f := by
  have h1 := rdE_put e he hre
  rw [h, rdE_put f hf hrf] at h1
  injection h1 with _ h1 _
  exact h1.symm
theorem St.bytes_back {s : St} {n : Int} (h : (s.bytes n).2.bad = false) : s.bad = false ∧ 0 ≤ n ∧ s.l = (s.bytes n).1 ++ (s.bytes n).2.l ∧ ((s.bytes n).1.length : Int) = n := by
  unfold St.bytes at *
  split at h
  · cases h
  · rename_i hn
    rw [if_neg hn]
    simp only [not_or, Bool.not_eq_true] at hn
    refine ⟨hn.1, by omega, by simp, by simp; omega⟩
theorem St.u_back {s : St} {k : Nat} (h1 : 1 ≤ k) (h8 : k ≤ 8) (h : (s.u (k : Int)).2.bad = false) : s.bad = false ∧ s.l = putN (s.u (k : Int)).1 k ++ (s.u (k : Int)).2.l ∧ (s.u (k : Int)).1 < 256 ^ k := by
  unfold St.u at *
  rw [if_neg (by omega)] at *
  obtain ⟨b1, b2, b3, b4⟩ := St.bytes_back h
  have hl : (s.bytes (k : Int)).1.length = k := by omega
  refine ⟨b1, ?_, ?_⟩
  · have := putN_num (s.bytes (k : Int)).1 (by omega)
    rw [hl] at this
    simp only
    rw [this]
    exact b3
  · have := num_lt_pw (s.bytes (k : Int)).1 (by omega)
    rw [hl] at this
    exact this
theorem St.long_back {s : St} (h : s.long.2.bad = false) : s.bad = false ∧ s.l = longL ⟨s.long.1.toArray⟩ ++ s.long.2.l := by
  unfold St.long at *
  obtain ⟨b1, b2, b3, b4⟩ := St.bytes_back h
  obtain ⟨c1, c2, c3⟩ := St.u_back (k := 4) (by omega) (by omega) b1
  refine ⟨c1, ?_⟩
  rw [show ((4 : Nat) : Int) = 4 from rfl] at c2
  rw [c2, b3]
  unfold longL
  rw [show ByteArray.size ⟨((s.u 4).2.bytes ((s.u 4).1 : Int)).1.toArray⟩ = ((s.u 4).2.bytes ((s.u 4).1 : Int)).1.length from by simp [ByteArray.size]]
  rw [show (((s.u 4).2.bytes ((s.u 4).1 : Int)).1.length) = (s.u 4).1 from by omega]
  simp
/-- bytes that are read as an effect are that one's -/
theorem put_okE (b : List UInt8) (h : okE b) : effL (rdE b).e = b := by
  obtain ⟨h1, h2, h3⟩ := h
  unfold rdE at *
  simp only [St.done] at h1 h2 h3 ⊢
  generalize hs1 : (⟨b, false⟩ : St).u 1 = s1 at *
  generalize hs2 : s1.2.u 8 = s2 at *
  generalize hs3 : s2.2.long = s3 at *
  generalize hs4 : s3.2.long = s4 at *
  simp only [Bool.and_eq_true, Bool.not_eq_true', List.isEmpty_iff] at h1
  obtain ⟨g1, g2⟩ := h1
  obtain ⟨c1, c2⟩ := St.long_back (s := s3.2) (by rw [hs4]; exact g1)
  obtain ⟨d1, d2⟩ := St.long_back (s := s2.2) (by rw [hs3]; exact c1)
  obtain ⟨f1, f2, f3⟩ := St.u_back (s := s1.2) (k := 8) (by omega) (by omega) (by rw [show ((8 : Nat) : Int) = 8 from rfl, hs2]; exact d1)
  obtain ⟨k1, k2, k3⟩ := St.u_back (s := ⟨b, false⟩) (k := 1) (by omega) (by omega) (by rw [show ((1 : Nat) : Int) = 1 from rfl, hs1]; exact f1)
  rw [show ((8 : Nat) : Int) = 8 from rfl, hs2] at f2 f3
  rw [show ((1 : Nat) : Int) = 1 from rfl, hs1] at k2 k3
  rw [hs3] at d2
  rw [hs4] at c2
  simp only at k2
  unfold effL
  simp only
  obtain ⟨_, _, _, r4, _⟩ := h3
  simp only at r4
  have er : (sgn s2.1).toNat = s2.1 := by
    unfold sgn at r4 ⊢
    split at r4
    · rename_i hlt
      rw [if_pos hlt]; omega
    · omega
  have ek : (if decide (s1.1 = 2) = true then 2 else 1) = s1.1 := by
    rcases h2 with h2 | h2 <;> simp [h2]
  rw [er, ek, k2, f2, d2, c2, g2, List.append_nil]
end Go.Proofs.YtnkjekkdndjfaaaGreat
