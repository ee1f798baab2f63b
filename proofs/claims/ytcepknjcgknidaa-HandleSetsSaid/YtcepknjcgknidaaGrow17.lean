
/- Chapter 17: append of made counts, where there is no room. -/
import Derived.Test.YtcepknjcgknidaaCopy17
import Derived.Lib.AppendZerosOnto
namespace Go.Proofs.Ytcepknjcgknidaa
set_option linter.unusedVariables false
set_option linter.unusedSimpArgs false
open Go.RowKit
theorem zero_rows (k : Nat) : (Builtin.zeroCells (Value.agg #[.int .u32 0, .int .i64 0]).cells k).toList = (List.replicate k (⟨0, 0⟩ : Ct)).flatMap Ct.row := by
  apply List.ext_getElem?
  intro j
  by_cases hj : j < k * 2
  · have h1 : (List.replicate k (⟨0, 0⟩ : Ct))[j / 2]? = some ⟨0, 0⟩ := by rw [List.getElem?_replicate, if_pos (by omega)]
    have h2 := flat_get Ct.row_length _ (j / 2) _ (j % 2) h1 (by omega)
    rw [show j / 2 * 2 + j % 2 = j by omega] at h2
    rw [h2]
    have h3 : j < (Builtin.zeroCells (Value.agg #[.int .u32 0, .int .i64 0]).cells k).toList.length := by simp [Builtin.zeroCells, Value.cells]; exact hj
    rw [List.getElem?_eq_getElem h3]
    simp only [Builtin.zeroCells, Array.getElem_toList, Array.getElem_map, Array.getElem_range]
    rcases (show j % 2 = 0 ∨ j % 2 = 1 by omega) with h | h
    · simp [Value.cells, h, Ct.row]
    · simp [Value.cells, h, Ct.row]
  · rw [List.getElem?_eq_none (by simp [Builtin.zeroCells, Value.cells]; omega), List.getElem?_eq_none (by rw [cts_len]; simp; omega)]
theorem next_le (m c : Nat) (h : c ≤ 1000000) (hm : m ≤ 2000000) : Builtin.nextslicecap m c ≤ 10000000 := by
  unfold Builtin.nextslicecap
  split
  · omega
  · split
    · omega
    · simp only [Builtin.growBy]
      split <;> (try omega)
      split <;> (try omega)
      split <;> (try omega)
      split <;> omega
theorem grow_zeros {w : World} {n c k : Nat} {A : Option Addr} {l : List Ct} (ty : TypeId) (hr : RdC w w.heap.size A n c l) (h0 : 0 < k) (hg : c < n + k) (hn : n + k ≤ 1000000) :
    ∃ A2 c2 w', (Builtin.append_ #[60, 3] ty #[.slice A n c, .int .i64 k]).run Try.prog w = .ok (.slice A2 (n + k) c2) w' ∧ OwnC w' w.heap.size A2 (n + k) c2 (l ++ List.replicate k ⟨0, 0⟩) ∧ Below w.heap.size w w' := by
  obtain ⟨i0, hi0, hz0, hz1, hz2⟩ := info_parts info_ct
  have hl := RdC.len hr
  have hle := hr.le
  have hold : (Builtin.firstCells i0.size n (.slice A n c)).run Try.prog w.drew = .ok (l.flatMap Ct.row).toArray w.drew := by
    rw [hz1]
    rcases A with _ | ad
    · have hc : c = 0 := by
        rcases Nat.eq_zero_or_pos c with h0 | h0
        · exact h0
        · obtain ⟨g, off, e, _⟩ := hr.cells h0
          cases e
      have hl0 : l = [] := List.eq_nil_of_length_eq_zero (by omega)
      rw [hl0]
      simp [Builtin.firstCells]
    · by_cases hc : 0 < c
      · obtain ⟨g, off, e, hgb, hcell⟩ := hr.cells hc
        obtain rfl := Option.some.inj e
        have hsrc : ∀ j v, (l.flatMap Ct.row)[j]? = some v → w.drew.cell? ((⟨g, off, none⟩ : Addr).add j) = some v := by
          intro j v hj
          have hplain : (⟨g, off, none⟩ : Addr).add j = ⟨g, off + j, none⟩ := by unfold Addr.add; split <;> simp_all
          rw [hplain]
          exact hcell j v hj
        have hload := run_loadCells_list (P := Try.prog) w.drew ⟨g, off, none⟩ _ hsrc
        rw [cts_len, hl] at hload
        simp only [Builtin.firstCells]
        exact hload
      · have hl0 : l = [] := List.eq_nil_of_length_eq_zero (by omega)
        obtain rfl : n = 0 := by omega
        rw [hl0]
        have hload := run_loadCells_list (P := Try.prog) w.drew ad [] (by intro j v hj; simp at hj)
        simp only [List.length_nil] at hload
        simp only [Builtin.firstCells, Nat.zero_mul, List.flatMap_nil]
        exact hload
  have hrun := Lib.run_append_grow_zeros (P := Try.prog) w 60 3 ty 96 i0 _ .i64 .i64 Try.underlying60 Try.underlying3 hi0 hz0 A n c (l.flatMap Ct.row) hold k h0 (by omega) hg (by omega) (by rw [hz2]; omega) (by rw [hz2]; have := next_le (n + k) c (by omega) (by omega); omega)
  obtain ⟨cap, hcap⟩ : ∃ cap, cap = grownCap w (n + k) c 96 := ⟨_, rfl⟩
  have h1 := grownCap_ge w (n + k) c 96
  have h2 := grownCap_le_maxLen w (n + k) c 96 (by simp only [maxLen]; omega)
  rw [← hcap] at hrun h1 h2
  refine ⟨_, _, _, hrun, ?_, ?_⟩
  · have hz : ∀ q, (Builtin.zeroCells (Value.agg #[.int .u32 0, .int .i64 0]).cells q).size = q * 2 := by
      intro q
      have := congrArg List.length (zero_rows q)
      rw [cts_len, List.length_replicate] at this
      simpa using this
    refine ⟨?_, .inr ⟨w.heap.size, cap, _, rfl, Nat.le_refl _, heap_alloc_new w.drew _, h1, h2, ?_, ?_⟩⟩
    · rw [cts_len]
      simp only [List.length_append, List.length_replicate]
      omega
    · simp only [Array.size_append, hz, List.size_toArray, cts_len]
      omega
    · simp only [Array.toList_append, zero_rows]
      rw [← cts_append, ← cts_append, ← rows_take, List.take_append_of_le_length (by simp; omega), List.take_of_length_le (by simp; omega)]
  · exact ((Below.refl _ _).drew).alloc (Nat.le_refl _) _
end Go.Proofs.Ytcepknjcgknidaa
