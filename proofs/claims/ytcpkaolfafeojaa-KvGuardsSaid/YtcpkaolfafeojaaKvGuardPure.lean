
/- Chapter 9, in plain words: what a guard does to a plan. -/
import Derived.Test.YtcpkaolfafeojaaKvInv
namespace Go.Proofs.Ytcpkaolfafeojaa
set_option linter.unusedVariables false
set_option linter.unusedSimpArgs false
theorem may_iff (l : List It) (ki : Int) (k v a : ByteArray) (r j j0 : Int) :
    mayE l ⟨ki, k, v, r, a, j⟩ = if mayE l ⟨ki, k, v, r, ⟨#[]⟩, j0⟩ ≠ 0 then mayE l ⟨ki, k, v, r, ⟨#[]⟩, j0⟩ else if 1 ≤ a.size ∧ stands l a j = false then 8 else 0 := by
  have e0 : ¬ (1 ≤ (⟨#[]⟩ : ByteArray).size ∧ stands l ⟨#[]⟩ j0 = false) := by
    rintro ⟨h, _⟩
    exact absurd h (by decide)
  unfold mayE
  simp only
  rw [if_neg e0]
  by_cases c1 : keyB k = false ∨ (ki ≠ 5 ∧ ¬ v.size ≤ 65536)
  · rw [if_pos c1, if_pos c1]; simp
  rw [if_neg c1, if_neg c1]
  by_cases c2 : ki = 3 ∧ (findI l k).isSome = true
  · rw [if_pos c2, if_pos c2]; simp
  rw [if_neg c2, if_neg c2]
  by_cases c3 : ki ≠ 3 ∧ (findI l k).isSome = false
  · rw [if_pos c3, if_pos c3]; simp
  rw [if_neg c3, if_neg c3]
  by_cases c4 : ki ≠ 3 ∧ (getI l k).r ≠ r
  · rw [if_pos c4, if_pos c4]; simp
  rw [if_neg c4, if_neg c4]
  simp
theorem guard_same {rev : Int} {l : List It} {ki : Int} {k v a : ByteArray} {r j j0 : Int} (h : ¬ 1 ≤ a.size ∨ stands l a j = true ∨ (planP rev l ⟨ki, k, v, r, ⟨#[]⟩, j0⟩).wr = false) :
    planP rev l ⟨ki, k, v, r, a, j⟩ = planP rev l ⟨ki, k, v, r, ⟨#[]⟩, j0⟩ := by
  have hm := may_iff l ki k v a r j j0
  unfold planP at h ⊢
  simp only at h ⊢
  by_cases h1 : ki = 1
  · rw [if_pos h1, if_pos h1]
  rw [if_neg h1, if_neg h1] at *
  by_cases h2 : ki = 2
  · rw [if_pos h2, if_pos h2]
  rw [if_neg h2, if_neg h2] at *
  by_cases h3 : ki < 3 ∨ 5 < ki
  · rw [if_pos h3, if_pos h3]
  rw [if_neg h3, if_neg h3] at *
  by_cases h4 : mayE l ⟨ki, k, v, r, ⟨#[]⟩, j0⟩ ≠ 0
  · rw [if_pos h4] at hm
    rw [hm, if_pos h4]
  · rw [if_neg h4] at hm h
    have hc : ¬ (1 ≤ a.size ∧ stands l a j = false) := by
      rintro ⟨x, y⟩
      rcases h with h | h | h
      · exact h x
      · rw [h] at y; cases y
      · cases h
    rw [if_neg hc] at hm
    rw [hm, if_neg h4, if_neg (by simp)]
theorem guard_no {rev : Int} {l : List It} {ki : Int} {k v a : ByteArray} {r j j0 : Int} (h1 : 1 ≤ a.size) (h2 : stands l a j = false) (h3 : (planP rev l ⟨ki, k, v, r, ⟨#[]⟩, j0⟩).wr = true) :
    planP rev l ⟨ki, k, v, r, a, j⟩ = ⟨⟨8, 0, ⟨#[]⟩, []⟩, Eff.zero, false⟩ := by
  obtain ⟨a1, a2, a3, _⟩ := plan_wr h3
  simp only at a1 a2
  have hm := may_iff l ki k v a r j j0
  rw [if_neg (by rw [a3]; simp), if_pos ⟨h1, h2⟩] at hm
  unfold planP
  simp only
  rw [if_neg (by omega), if_neg (by omega), if_neg (by omega), if_pos (by rw [hm]; simp), hm]
theorem guard_st {rev : Int} {l : List It} {o : Ask} (h : (planP rev l o).wr = false) : doSt rev l o = (rev, l) := by
  unfold doSt
  rw [h]
  simp
end Go.Proofs.Ytcpkaolfafeojaa
