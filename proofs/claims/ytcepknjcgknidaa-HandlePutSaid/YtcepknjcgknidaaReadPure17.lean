
/- Chapter 17: bytes read as a handle, in plain words. -/
import Derived.Test.YtcepknjcgknidaaPut17
import Derived.Test.YtcepknjcgknidaaEffPure
namespace Go.Proofs.Ytcepknjcgknidaa
set_option linter.unusedSimpArgs false
set_option linter.unusedVariables false
open Go.RowKit
def rdl : Nat → St → List Ct → List Ct × St
  | 0, s, acc => (acc, s)
  | n + 1, s, acc => if s.bad then (acc, s) else rdl n ((s.u 4).2.u 2).2 (acc ++ [⟨(s.u 4).1, (((s.u 4).2.u 2).1 : Int)⟩])
theorem rdl_bad {s : St} (h : s.bad = true) : ∀ (n : Nat) (acc : List Ct), rdl n s acc = (acc, s)
  | 0, _ => rfl
  | n + 1, acc => by rw [rdl, if_pos h]
def readH (b : List UInt8) : List Ct × Int :=
  let s1 := (⟨b, false⟩ : St).u 1
  let s2 := s1.2.u 2
  let r := rdl s2.1 s2.2 []
  if (!r.2.bad && r.2.l.isEmpty) && s1.1 == 72 && right17 r.1 then (r.1, 0) else ([], 3)
theorem St.u_lt_w (s : St) (k : Nat) (h8 : k ≤ 8) : (s.u (k : Int)).1 < 256 ^ k := by
  unfold St.u
  split
  · exact Nat.pow_pos (by omega)
  · have hl : (s.bytes (k : Int)).1.length ≤ k := by
      rcases St.bytes_length s (k : Int) with h | h
      · omega
      · rw [h]; simp
    exact Nat.lt_of_lt_of_le (num_lt_pw _ (by omega)) (Nat.pow_le_pow_right (by omega) hl)
def Ct.ok (y : Ct) : Prop := y.b < 4294967296 ∧ 0 ≤ y.n ∧ y.n < 65536
theorem rdl_put (r : List UInt8) : ∀ (l acc : List Ct), (∀ y ∈ l, y.ok) → rdl l.length ⟨l.flatMap ctB ++ r, false⟩ acc = (acc ++ l, ⟨r, false⟩)
  | [], acc, _ => by simp [rdl]
  | y :: l, acc, h => by
    obtain ⟨h1, h2, h3⟩ := h y (by simp)
    have u1 := St.u_putN y.b 4 (by omega) (by omega) (by omega) (putN y.n.toNat 2 ++ (l.flatMap ctB ++ r))
    have u2 := St.u_putN y.n.toNat 2 (by omega) (by omega) (by omega) (l.flatMap ctB ++ r)
    simp only [Int.cast_ofNat_Int] at u1 u2
    have e : (y :: l).flatMap ctB ++ r = putN y.b 4 ++ (putN y.n.toNat 2 ++ (l.flatMap ctB ++ r)) := by simp [ctB]
    rw [e, List.length_cons, rdl, u1, u2]
    rw [if_neg (by simp)]
    rw [rdl_put r l _ (fun y hy => h y (by simp [hy]))]
    have ey : (⟨y.b, (y.n.toNat : Int)⟩ : Ct) = y := by
      cases y
      simp at h2 ⊢
      omega
    rw [ey]
    simp
theorem rdl_back : ∀ (n : Nat) (s : St) (acc : List Ct), (rdl n s acc).2.bad = false → ∃ l, (rdl n s acc).1 = acc ++ l ∧ l.length = n ∧ s.bad = false ∧ s.l = l.flatMap ctB ++ (rdl n s acc).2.l ∧ ∀ y ∈ l, y.ok
  | 0, s, acc, h => ⟨[], by simp [rdl], rfl, h, by simp [rdl], by simp⟩
  | n + 1, s, acc, h => by
    by_cases hs : s.bad = true
    · rw [rdl_bad hs] at h
      rw [hs] at h; cases h
    · rw [rdl, if_neg hs] at h ⊢
      obtain ⟨l, h1, h2, h3, h4, h5⟩ := rdl_back n _ _ h
      have hu2 := St.u_back (s := (s.u 4).2) (k := 2) (by omega) (by omega) h3
      have hu1 := St.u_back (s := s) (k := 4) (by omega) (by omega) hu2.1
      simp only [Int.cast_ofNat_Int] at hu1 hu2
      refine ⟨⟨(s.u 4).1, (((s.u 4).2.u 2).1 : Int)⟩ :: l, ?_, by simp [h2], by simpa using hs, ?_, ?_⟩
      · rw [h1]; simp
      · rw [hu1.2.1, hu2.2.1, h4]
        simp [ctB]
      · intro y hy
        rcases List.mem_cons.1 hy with rfl | hy
        · have a := hu1.2.2
          have b := hu2.2.2
          refine ⟨by simp only; omega, by simp only; omega, by simp only; omega⟩
        · exact h5 y hy
theorem right_ok {l : List Ct} (h : right17 l = true) (hf : ∀ y ∈ l, y.b < 4294967296) : ∀ y ∈ l, y.ok := by
  intro y hy
  obtain ⟨k, hk, rfl⟩ := List.getElem_of_mem hy
  have := right_at h hk
  exact ⟨hf _ hy, by omega, by omega⟩
/-- a right handle's bytes are read as it was -/
theorem readH_put {l : List Ct} (h : right17 l = true) (hf : ∀ y ∈ l, y.b < 4294967296) : readH (putH l) = (l, 0) := by
  have h4 := (of_decide_eq_true h).2
  have u1 := St.u_putN 72 1 (by omega) (by omega) (by omega) (putN l.length 2 ++ (l.flatMap ctB))
  have u2 := St.u_putN l.length 2 (by omega) (by omega) (by omega) (l.flatMap ctB)
  simp only [Int.cast_ofNat_Int] at u1 u2
  have e : putH l = putN 72 1 ++ (putN l.length 2 ++ l.flatMap ctB) := rfl
  have u3 := rdl_put [] l [] (right_ok h hf)
  rw [List.append_nil, List.nil_append] at u3
  unfold readH
  rw [e]
  simp only [u1, u2, u3]
  simp [h]
theorem readH_back {b : List UInt8} (h : (readH b).2 = 0) : right17 (readH b).1 = true ∧ putH (readH b).1 = b ∧ ∀ y ∈ (readH b).1, y.ok := by
  unfold readH at h ⊢
  simp only at h ⊢
  generalize hs1 : (⟨b, false⟩ : St).u 1 = s1 at *
  generalize hs2 : s1.2.u 2 = s2 at *
  split at h
  · rename_i hc
    rw [if_pos hc]
    simp only [Bool.and_eq_true, Bool.not_eq_true', List.isEmpty_iff, beq_iff_eq] at hc
    obtain ⟨⟨⟨c1, c2⟩, c3⟩, c4⟩ := hc
    obtain ⟨l, h1, h2, h3, h4, h5⟩ := rdl_back s2.1 s2.2 [] c1
    rw [List.nil_append] at h1
    rw [c2, List.append_nil] at h4
    have hu2 := St.u_back (s := s1.2) (k := 2) (by omega) (by omega) (by rw [show ((2 : Nat) : Int) = 2 from rfl, hs2]; exact h3)
    have hu1 := St.u_back (s := ⟨b, false⟩) (k := 1) (by omega) (by omega) (by rw [show ((1 : Nat) : Int) = 1 from rfl, hs1]; exact hu2.1)
    rw [show ((2 : Nat) : Int) = 2 from rfl, hs2] at hu2
    rw [show ((1 : Nat) : Int) = 1 from rfl, hs1] at hu1
    refine ⟨c4, ?_, by rw [h1]; exact h5⟩
    rw [h1]
    have e := hu1.2.1
    rw [c3, hu2.2.1, h4] at e
    simp only at e
    rw [e]
    unfold putH
    rw [h2]
    rfl
  · cases h
theorem readH_no {b : List UInt8} (h : (readH b).2 ≠ 0) : readH b = ([], 3) := by
  unfold readH at h ⊢
  simp only at h ⊢
  split at h
  · exact absurd rfl h
  · rename_i hc
    rw [if_neg hc]
end Go.Proofs.Ytcepknjcgknidaa
