
/- Chapter 17: copy on a row of the call's own, over raw cells (two an element); a row grown into its room. -/
import Derived.Test.YtcepknjcgknidaaCopy17
namespace Go.Proofs.Ytcepknjcgknidaa
set_option linter.unusedVariables false
set_option linter.unusedSimpArgs false
open Go.RowKit
/-- s[:n+1] where there is room -/
theorem own_more {w : World} {base n c g : Nat} {X : List Value} (h : w.ownsRow base 96 2 (.slice (some ⟨g, 0, none⟩) n c) n X) (hc : n + 1 ≤ c) :
    ∃ Z : List Value, Z.length = 2 ∧ w.ownsRow base 96 2 (.slice (some ⟨g, 0, none⟩) (n + 1) c) (n + 1) (X ++ Z) := by
  obtain ⟨hl, h⟩ := h
  rcases h with ⟨e, _⟩ | ⟨g', cap, cur, e1, e2, e3, e4, e5, e6, e7⟩
  · cases e
  · injection e1 with e1 e1' e1''
    injection e1 with e1
    injection e1 with e1 _ _
    subst e1
    subst e1''
    have hcl : cur.toList.length = c * 2 := by simpa using e6
    refine ⟨(cur.toList.drop (n * 2)).take 2, ?_, ?_, .inr ⟨g, c, cur, rfl, e2, e3, hc, e5, e6, ?_⟩⟩
    · rw [List.length_take, List.length_drop, hcl]; omega
    · rw [List.length_append, hl, List.length_take, List.length_drop, hcl]; omega
    · rw [Nat.succ_mul, List.take_add, e7]
theorem copy_raw {w : World} {base n c g p k m cs dCap B : Nat} {A : Option Addr} {X Y : List Value} (ty : TypeId) (hown : w.ownsRow base 96 2 (.slice (some ⟨g, 0, none⟩) n c) n X) (hy : Rd w B 2 A m cs Y) (hone : ∀ u ∈ Y.take (k * 2), u.oneCell' = true) (hk : k = Nat.min m (n - p)) (hp : p + k ≤ n) (h0 : 0 < k) :
    ∃ w', (Builtin.copy_ #[60, 60] ty #[.slice (some ⟨g, p * 2, none⟩) (n - p) dCap, .slice A m cs]).run Try.prog w = .ok (goInt k) w' ∧
      w'.ownsRow base 96 2 (.slice (some ⟨g, 0, none⟩) n c) n ((X.take (p * 2) ++ Y.take (k * 2)) ++ X.drop ((p + k) * 2)) ∧ w.grownBy w' (some g) := by
  obtain ⟨i0, hi0, hz0, hz1, hz2⟩ := info_parts info_ct
  obtain ⟨hl, h⟩ := hown
  have hym := hy.len
  have hkm : k ≤ m := by rw [hk]; exact Nat.min_le_left _ _
  rcases h with ⟨e, _⟩ | ⟨g', cap, cur, e1, e2, e3, e4, e5, e6, e7⟩
  · cases e
  · injection e1 with e1 e1' e1''
    injection e1 with e1
    injection e1 with e1 _ _
    subst e1
    subst e1''
    obtain ⟨g2, off2, rfl, hg2, hc2⟩ := hy.cells (by have := hy.le; omega)
    obtain ⟨news, hnews⟩ : ∃ news, news = Y.take (k * 2) := ⟨_, rfl⟩
    have hnl : news.length = k * 2 := by rw [hnews, List.length_take, hym]; omega
    have hsrc : ∀ j v, news[j]? = some v → w.cell? ((⟨g2, off2, none⟩ : Addr).add j) = some v := by
      intro j v hj
      have hplain : (⟨g2, off2, none⟩ : Addr).add j = ⟨g2, off2 + j, none⟩ := by unfold Addr.add; split <;> simp_all
      rw [hplain]
      refine hc2 j v ?_
      rw [hnews, List.getElem?_take] at hj
      split at hj
      · exact hj
      · cases hj
    rw [← hnews] at hone
    have hload := run_loadCells_list (P := Try.prog) w ⟨g2, off2, none⟩ news hsrc
    have hsz : cur.size = c * 2 := e6
    have hst := run_storeCells_at Try.prog g (p * 2) 96 news 0 cur w e3 (by rw [hsz]; omega) hone
    rw [Nat.add_zero] at hst
    rw [hnl] at hload
    refine ⟨w.setRow g (cur.toList.take (p * 2) ++ news ++ cur.toList.drop (p * 2 + news.length)).toArray, ?_, ?_, ?_⟩
    · have hk2 : Nat.min m (n - p) = k := hk.symm
      simp [Builtin.copy_, run_underlying Try.underlying60, Builtin.lenOf, Builtin.firstCells, sizeOf, typeInfo, hi0, hz1, hk2, hload, hst]
    · refine ⟨?_, .inr ⟨g, c, _, rfl, e2, setRow_heap w g cur _ _ _ e3, by omega, e5, ?_, ?_⟩⟩
      · rw [← hnews]
        simp only [List.length_append, List.length_take, List.length_drop]
        omega
      · simp; omega
      · obtain ⟨S, hS⟩ : ∃ S, cur.toList = X ++ S := ⟨cur.toList.drop (n * 2), by rw [← e7, List.take_append_drop]⟩
        simp only [List.toList_toArray]
        rw [hS, list_take_mid X S news (p * 2) (p * 2 + news.length) (n * 2) hl (by omega) (by omega) (by omega), ← hnews, show p * 2 + news.length = (p + k) * 2 by omega]
    · refine ⟨rfl, rfl, rfl, ?_, ?_⟩
      · simp [World.setRow]
      · intro j _ hj
        exact setRow_other w g j _ (fun e => hj (by rw [e]))
/-- the two copies in place put Y in at place k -/
theorem insert_raw (R Z Y : List Value) (n k : Nat) (hR : R.length = n * 2) (hZ : Z.length = 2) (hY : Y.length = 2) (hk : k < n) :
    ((((R ++ Z).take ((k + 1) * 2) ++ ((R ++ Z).drop (k * 2)).take ((n - k) * 2)) ++ (R ++ Z).drop ((k + 1 + (n - k)) * 2)).take (k * 2) ++ Y.take (1 * 2)) ++
      (((R ++ Z).take ((k + 1) * 2) ++ ((R ++ Z).drop (k * 2)).take ((n - k) * 2)) ++ (R ++ Z).drop ((k + 1 + (n - k)) * 2)).drop ((k + 1) * 2) = (R.take (k * 2) ++ Y) ++ R.drop (k * 2) := by
  have h1 : (R ++ Z).take ((k + 1) * 2) = R.take ((k + 1) * 2) := List.take_append_of_le_length (by omega)
  have h2 : (R ++ Z).drop (k * 2) = R.drop (k * 2) ++ Z := List.drop_append_of_le_length (by omega)
  have h3 : (R.drop (k * 2) ++ Z).take ((n - k) * 2) = R.drop (k * 2) := List.take_left' (by rw [List.length_drop]; omega)
  have h4 : (R ++ Z).drop ((k + 1 + (n - k)) * 2) = [] := by rw [List.drop_eq_nil_iff, List.length_append]; omega
  rw [h1, h2, h3, h4, List.append_nil]
  have h5 : (R.take ((k + 1) * 2)).length = (k + 1) * 2 := by rw [List.length_take]; omega
  have h6 : (R.take ((k + 1) * 2) ++ R.drop (k * 2)).take (k * 2) = R.take (k * 2) := by
    rw [List.take_append_of_le_length (by omega), List.take_take]
    congr 1
    omega
  have h7 : (R.take ((k + 1) * 2) ++ R.drop (k * 2)).drop ((k + 1) * 2) = R.drop (k * 2) := List.drop_left' h5
  have h8 : Y.take (1 * 2) = Y := List.take_of_length_le (by omega)
  rw [h6, h7, h8]
end Go.Proofs.Ytcepknjcgknidaa
