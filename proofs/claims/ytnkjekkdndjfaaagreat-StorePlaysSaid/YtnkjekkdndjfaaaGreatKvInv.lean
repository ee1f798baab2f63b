
/- Chapter 9, in plain words: what holds of each state that comes of nothing by what is asked. -/
import Derived.Test.YtnkjekkdndjfaaaGreatKvDo
namespace Go.Proofs.YtnkjekkdndjfaaaGreat
set_option linter.unusedVariables false
set_option linter.unusedSimpArgs false
open Go.RowKit
/-- a state behind at most n things asked -/
structure Inv9 (rev : Int) (l : List It) (n : Nat) : Prop where
  lo : 0 ≤ rev
  hi : rev ≤ n
  asc : Asc l
  ok : ∀ x ∈ l, (1 ≤ x.k.size ∧ x.k.size ≤ 128) ∧ x.v.size ≤ 65536 ∧ 1 ≤ x.r ∧ x.r ≤ rev
theorem Inv9.nil : Inv9 0 [] 0 := ⟨by omega, by simp, List.Pairwise.nil, by simp⟩
theorem Inv9.more {rev : Int} {l : List It} {n m : Nat} (h : Inv9 rev l n) (hm : n ≤ m) : Inv9 rev l m := ⟨h.lo, by have := h.hi; omega, h.asc, h.ok⟩
theorem inc_small {rev : Int} (h0 : 0 ≤ rev) (h1 : rev < 9223372036854775807) : inc rev = rev + 1 := IntWalk.i64_in _ (by omega)
theorem find_mem {l : List It} {k : ByteArray} {x : It} (h : findI l k = some x) : x ∈ l ∧ x.k = k := by
  unfold findI at h
  exact ⟨List.mem_of_find?_eq_some h, by have := List.find?_some h; simpa using this⟩
theorem applyL_mem {e : It} {d : Bool} {l : List It} {x : It} (ha : Asc l) (h : x ∈ applyL e d l) : x = e ∨ x ∈ l := by
  obtain ⟨p, m, q, hc⟩ := cutI e.k l ha
  rw [hc.apply d] at h
  rw [hc.eq]
  simp only [List.mem_append] at h ⊢
  rcases h with h | h | h
  · exact .inr (.inl h)
  · cases d
    · simp at h; exact .inl h
    · simp at h
  · exact .inr (.inr (.inr h))
theorem keyB_iff (k : ByteArray) : keyB k = true ↔ 1 ≤ k.size ∧ k.size ≤ 128 := by unfold keyB; simp
/-- what a plan of a write says -/
theorem plan_wr {rev : Int} {l : List It} {o : Ask} (h : (planP rev l o).wr = true) :
    3 ≤ o.kind ∧ o.kind ≤ 5 ∧ mayE l o = 0 ∧ planP rev l o = ⟨⟨0, inc rev, ⟨#[]⟩, []⟩, ⟨o.key, if o.kind = 5 then ⟨#[]⟩ else o.val, inc rev, decide (o.kind = 5)⟩, true⟩ := by
  unfold planP at h ⊢
  by_cases h1 : o.kind = 1
  · rw [if_pos h1] at h; cases h
  · rw [if_neg h1] at h ⊢
    by_cases h2 : o.kind = 2
    · rw [if_pos h2] at h; cases h
    · rw [if_neg h2] at h ⊢
      by_cases h3 : o.kind < 3 ∨ 5 < o.kind
      · rw [if_pos h3] at h; cases h
      · rw [if_neg h3] at h ⊢
        by_cases h4 : mayE l o ≠ 0
        · rw [if_pos h4] at h; cases h
        · rw [if_neg h4] at h ⊢
          exact ⟨by omega, by omega, by simpa using h4, rfl⟩
theorem may_zero {l : List It} {o : Ask} (h : mayE l o = 0) : keyB o.key = true ∧ (o.kind ≠ 5 → o.val.size ≤ 65536) ∧ (o.kind = 3 → (findI l o.key).isSome = false) ∧ (o.kind ≠ 3 → (findI l o.key).isSome = true ∧ (getI l o.key).r = o.rev) ∧ (1 ≤ o.iff.size → stands l o.iff o.ifrev = true) := by
  unfold mayE at h
  split at h
  · omega
  · rename_i c1
    split at h
    · omega
    · rename_i c2
      split at h
      · omega
      · rename_i c3
        split at h
        · omega
        · rename_i c4
          split at h
          · omega
          · rename_i c5
            simp only [not_or, not_and, Bool.not_eq_false, Bool.not_eq_true] at c1 c2 c3 c4 c5
            refine ⟨c1.1, fun hk => ?_, fun hk => c2 hk, fun hk => ⟨c3 hk, ?_⟩, fun hi => c5 hi⟩
            · have := c1.2 hk; omega
            · have := c4 hk
              simpa using this
theorem plan_ap {rev : Int} {l : List It} {o : Ask} (h : (planP rev l o).wr = true) (h0 : 0 ≤ rev) (h1 : rev < 9223372036854775807) : apOk rev l (planP rev l o).eff = true := by
  obtain ⟨a1, a2, a3, a4⟩ := plan_wr h
  obtain ⟨b1, b2, b3, b4, _⟩ := may_zero a3
  rw [a4]
  unfold apOk
  simp only [Bool.and_eq_true, decide_eq_true_eq]
  refine ⟨⟨⟨⟨b1, ?_⟩, by omega⟩, trivial⟩, ?_⟩
  · by_cases h5 : o.kind = 5
    · rw [if_pos h5]; exact Nat.zero_le _
    · rw [if_neg h5]; exact b2 h5
  · by_cases h5 : o.kind = 5
    · rw [if_pos h5, decide_eq_true h5]
      have := (b4 (by omega)).1
      rw [this]
      rfl
    · rw [decide_eq_false h5]; rfl
/-- the state behind what is asked -/
theorem doSt_eq {rev : Int} {l : List It} {o : Ask} (h0 : 0 ≤ rev) (h1 : rev < 9223372036854775807) :
    doSt rev l o = if (planP rev l o).wr then (rev + 1, applyL ⟨o.key, if o.kind = 5 then ⟨#[]⟩ else o.val, rev + 1⟩ (decide (o.kind = 5)) l) else (rev, l) := by
  unfold doSt
  cases hw : (planP rev l o).wr with
  | false => simp
  | true =>
    rw [plan_ap hw h0 h1]
    obtain ⟨a1, a2, a3, a4⟩ := plan_wr hw
    rw [a4]
    simp [Eff.it, inc_small h0 h1]
theorem Inv9.step {rev : Int} {l : List It} {n : Nat} (h : Inv9 rev l n) (hn : n < 1000000) (o : Ask) : Inv9 (doSt rev l o).1 (doSt rev l o).2 (n + 1) := by
  have hlo := h.lo
  have hhi := h.hi
  rw [doSt_eq hlo (by omega)]
  cases hw : (planP rev l o).wr with
  | false => exact h.more (by omega)
  | true =>
    obtain ⟨a1, a2, a3, a4⟩ := plan_wr hw
    obtain ⟨b1, b2, b3, b4, _⟩ := may_zero a3
    refine ⟨by simp only [if_true]; omega, by simp only [if_true]; omega, applyL_asc _ _ h.asc, fun x hx => ?_⟩
    simp only [if_true] at hx ⊢
    rcases applyL_mem h.asc hx with rfl | hx
    · refine ⟨(keyB_iff _).1 b1, ?_, by simp only; omega, by simp only; omega⟩
      simp only
      by_cases h5 : o.kind = 5
      · rw [if_pos h5]; exact Nat.zero_le _
      · rw [if_neg h5]; exact b2 h5
    · obtain ⟨c1, c2, c3, c4⟩ := h.ok x hx
      exact ⟨c1, c2, c3, by omega⟩
theorem Inv9.keys {rev : Int} {l : List It} {n : Nat} (h : Inv9 rev l n) : ∀ x ∈ l, x.k.size ≤ 1000 := fun x hx => by have := (h.ok x hx).1; omega
theorem plan_key (rev : Int) (l : List It) (o : Ask) (ho : o.key.size ≤ maxLen) : (planP rev l o).eff.k.size ≤ maxLen := by
  by_cases hw : (planP rev l o).wr = true
  · rw [(plan_wr hw).2.2.2]; exact ho
  · unfold planP at hw ⊢
    split
    · exact Nat.zero_le _
    · split
      · exact Nat.zero_le _
      · split
        · exact Nat.zero_le _
        · split
          · exact Nat.zero_le _
          · exact ho
end Go.Proofs.YtnkjekkdndjfaaaGreat
