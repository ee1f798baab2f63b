
/- Chapter 17: just so many in a block, as the document has it, and as the program does it. -/
import Derived.Test.YtcepknjcgknidaaOf17
namespace Go.Proofs.Ytcepknjcgknidaa
set_option linter.unusedSimpArgs false
set_option linter.unusedVariables false
open Go.RowKit
/-- the document's loop -/
def setr (x : Nat) (m : Int) : Bool → List Ct → List Ct
  | d, [] => if d then [] else [⟨x, m⟩]
  | d, c :: l => ((if !d && decide (x ≤ c.b) then [⟨x, m⟩] else []) ++ (if c.b == x then [] else [c])) ++ setr x m (d || decide (x ≤ c.b)) l
def set17 (l : List Ct) (x : Nat) (m : Int) : List Ct := setr x m (m == 0) l
theorem setr_true (x : Nat) (m : Int) : ∀ l : List Ct, setr x m true l = l.filter fun c => !(c.b == x)
  | [] => rfl
  | c :: l => by
    simp only [setr, Bool.not_true, Bool.false_and, Bool.true_or, List.nil_append, Bool.false_eq_true, if_false, setr_true x m l, List.filter_cons]
    by_cases h : c.b = x <;> simp [h]
theorem setr_less (x : Nat) (m : Int) (d : Bool) (r : List Ct) : ∀ l : List Ct, (∀ c ∈ l, c.b < x) → setr x m d (l ++ r) = l ++ setr x m d r
  | [], _ => rfl
  | c :: l, h => by
    have hc := h c (by simp)
    have h1 : decide (x ≤ c.b) = false := decide_eq_false (by omega)
    have h2 : (c.b == x) = false := beq_eq_false_iff_ne.mpr (by omega)
    rw [List.cons_append, setr, h1, h2]
    simp [setr_less x m d r l fun c hc => h c (by simp [hc])]
theorem filter_more (x : Nat) : ∀ l : List Ct, (∀ c ∈ l, x < c.b) → (l.filter fun c => !(c.b == x)) = l := by
  intro l h
  rw [List.filter_eq_self]
  intro c hc
  have := h c hc
  simp; omega
theorem setr_more (x : Nat) (m : Int) (d : Bool) : ∀ l : List Ct, (∀ c ∈ l, x < c.b) → setr x m d l = (if d then [] else [⟨x, m⟩]) ++ l
  | [], _ => by cases d <;> rfl
  | c :: l, h => by
    have hc := h c (by simp)
    have h1 : decide (x ≤ c.b) = true := decide_eq_true (by omega)
    have h2 : (c.b == x) = false := beq_eq_false_iff_ne.mpr (by omega)
    rw [setr, h1, h2, Bool.or_true, setr_true, filter_more x l fun c hc => h c (by simp [hc])]
    cases d <;> simp
theorem setr_hit (x : Nat) (m : Int) (d : Bool) (c : Ct) (hc : c.b = x) (l : List Ct) (h : ∀ c ∈ l, x < c.b) : setr x m d (c :: l) = (if d then [] else [⟨x, m⟩]) ++ l := by
  have h1 : decide (x ≤ c.b) = true := decide_eq_true (by omega)
  have h2 : (c.b == x) = true := by simp [hc]
  rw [setr, h1, h2, Bool.or_true, setr_true, filter_more x l h]
  cases d <;> simp
theorem getD_mem_take {l : List Ct} {k : Nat} {c : Ct} (h : c ∈ l.take k) : ∃ t, t < k ∧ t < l.length ∧ l.getD t default = c := by
  obtain ⟨t, ht, e⟩ := List.getElem_of_mem h
  rw [List.length_take] at ht
  refine ⟨t, by omega, by omega, ?_⟩
  rw [getD_at (by omega), ← e, List.getElem_take]
theorem getD_mem_drop {l : List Ct} {k : Nat} {c : Ct} (h : c ∈ l.drop k) : ∃ t, k ≤ t ∧ t < l.length ∧ l.getD t default = c := by
  obtain ⟨t, ht, e⟩ := List.getElem_of_mem h
  rw [List.length_drop] at ht
  refine ⟨k + t, by omega, by omega, ?_⟩
  rw [getD_at (by omega), ← e, List.getElem_drop]
theorem asc_low {l : List Ct} (ha : right17 l = true) {x k : Nat} (hl : Low l x k) (j : Nat) (hj : k < j) (hjl : j < l.length) : x < (l.getD j default).b := by
  have := asc_of_right ha k j hj hjl
  have := hl.2.2 k (Nat.le_refl _) (by omega)
  omega
theorem set17_hit {l : List Ct} {x k : Nat} (m : Int) (ha : right17 l = true) (hl : Low l x k) (hk : k < l.length) (h : (l.getD k default).b = x) :
    set17 l x m = (l.take k ++ if m == 0 then [] else [⟨x, m⟩]) ++ l.drop (k + 1) := by
  have e : l = l.take k ++ (l[k] :: l.drop (k + 1)) := by rw [List.getElem_cons_drop, List.take_append_drop]
  unfold set17
  conv => lhs; rw [e]
  rw [setr_less x m _ _ (l.take k) (fun c hc => by obtain ⟨t, h1, h2, rfl⟩ := getD_mem_take hc; exact hl.2.1 t h1),
    setr_hit x m _ l[k] (by rw [← getD_at hk]; exact h) _ (fun c hc => by obtain ⟨t, h1, h2, rfl⟩ := getD_mem_drop hc; exact asc_low ha hl t (by omega) h2), List.append_assoc]
theorem set17_miss {l : List Ct} {x k : Nat} (m : Int) (ha : right17 l = true) (hl : Low l x k) (h : hit17 l x k = false) :
    set17 l x m = (l.take k ++ if m == 0 then [] else [⟨x, m⟩]) ++ l.drop k := by
  have hd := of_decide_eq_false h
  unfold set17
  conv => lhs; rw [← List.take_append_drop k l]
  rw [setr_less x m _ _ (l.take k) (fun c hc => by obtain ⟨t, h1, h2, rfl⟩ := getD_mem_take hc; exact hl.2.1 t h1),
    setr_more x m _ _ (fun c hc => by
      obtain ⟨t, h1, h2, rfl⟩ := getD_mem_drop hc
      rcases Nat.eq_or_lt_of_le h1 with h3 | h3
      · subst h3
        have h4 := hl.2.2 k (Nat.le_refl _) h2
        rcases Nat.eq_or_lt_of_le h4 with h5 | h5
        · exact absurd ⟨h2, h5.symm⟩ hd
        · exact h5
      · exact asc_low ha hl t h3 h2), List.append_assoc]
end Go.Proofs.Ytcepknjcgknidaa
