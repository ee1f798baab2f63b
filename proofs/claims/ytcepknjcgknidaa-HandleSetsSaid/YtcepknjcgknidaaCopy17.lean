
/- Chapter 17: copy and cut on a row of counts of the call's own. -/
import Derived.Test.YtcepknjcgknidaaCts
import Derived.Laws.CopyRow
import Derived.Lib.AppendZeros
namespace Go.Proofs.Ytcepknjcgknidaa
set_option linter.unusedVariables false
set_option linter.unusedSimpArgs false
open Go.RowKit
theorem rows_take : ∀ (l : List Ct) (k : Nat), (l.take k).flatMap Ct.row = (l.flatMap Ct.row).take (k * 2)
  | [], k => by simp
  | y :: l, 0 => by simp
  | y :: l, k + 1 => by
    rw [List.take_succ_cons, List.flatMap_cons, List.flatMap_cons, rows_take l k, Nat.succ_mul]
    rfl
theorem rows_drop : ∀ (l : List Ct) (k : Nat), (l.drop k).flatMap Ct.row = (l.flatMap Ct.row).drop (k * 2)
  | [], k => by simp
  | y :: l, 0 => by simp
  | y :: l, k + 1 => by
    rw [List.drop_succ_cons, List.flatMap_cons, rows_drop l k, Nat.succ_mul]
    rfl
/-- a shorter cut of a row of the call's own is one -/
theorem OwnC.cut {w : World} {base n c : Nat} {A : Option Addr} {l : List Ct} (h : OwnC w base A n c l) {k : Nat} (hk : k ≤ n) (hA : A ≠ none) : OwnC w base A k c (l.take k) := by
  obtain ⟨hl, h⟩ := h
  refine ⟨by rw [rows_take, List.length_take, hl]; omega, ?_⟩
  rcases h with ⟨e, _⟩ | ⟨g, cap, cur, e1, e2, e3, e4, e5, e6, e7⟩
  · injection e with e; exact absurd e hA
  · injection e1 with e1 e1' e1''
    subst e1
    subst e1''
    refine .inr ⟨g, c, cur, rfl, e2, e3, by omega, e5, e6, ?_⟩
    rw [rows_take, ← e7, List.take_take]
    congr 1
    omega
theorem list_take_mid {α : Type} (R S news : List α) (a b n : Nat) (hR : R.length = n) (hn : news.length = b - a) (hab : a ≤ b) (hb : b ≤ n) :
    (((R ++ S).take a ++ news) ++ (R ++ S).drop b).take n = (R.take a ++ news) ++ R.drop b := by
  have h1 : (R ++ S).take a = R.take a := List.take_append_of_le_length (by omega)
  have h2 : (R ++ S).drop b = R.drop b ++ S := List.drop_append_of_le_length (by omega)
  rw [h1, h2, ← List.append_assoc]
  exact List.take_left' (by simp; omega)
theorem copy_own {w : World} {base n c g p k m cs dCap B : Nat} {A : Option Addr} {l y : List Ct} (ty : TypeId) (hown : OwnC w base (some ⟨g, 0, none⟩) n c l) (hy : RdC w B A m cs y) (hk : k = Nat.min m (n - p)) (hp : p + k ≤ n) (h0 : 0 < k) :
    ∃ w', (Builtin.copy_ #[60, 60] ty #[.slice (some ⟨g, p * 2, none⟩) (n - p) dCap, .slice A m cs]).run Try.prog w = .ok (goInt k) w' ∧
      OwnC w' base (some ⟨g, 0, none⟩) n c ((l.take p ++ y.take k) ++ l.drop (p + k)) ∧ w.grownBy w' (some g) := by
  obtain ⟨i0, hi0, hz0, hz1, hz2⟩ := info_parts info_ct
  obtain ⟨hl, h⟩ := hown
  have hym := RdC.len hy
  have hkm : k ≤ m := by rw [hk]; exact Nat.min_le_left _ _
  rcases h with ⟨e, _⟩ | ⟨g', cap, cur, e1, e2, e3, e4, e5, e6, e7⟩
  · cases e
  · injection e1 with e1 e1' e1''
    injection e1 with e1
    injection e1 with e1 _ _
    subst e1
    subst e1''
    obtain ⟨g2, off2, rfl, hg2, hc2⟩ := hy.cells (by have := hy.le; omega)
    obtain ⟨news, hnews⟩ : ∃ news, news = (y.take k).flatMap Ct.row := ⟨_, rfl⟩
    have hnl : news.length = k * 2 := by rw [hnews, cts_len, List.length_take]; omega
    have hsrc : ∀ j v, news[j]? = some v → w.cell? ((⟨g2, off2, none⟩ : Addr).add j) = some v := by
      intro j v hj
      have hplain : (⟨g2, off2, none⟩ : Addr).add j = ⟨g2, off2 + j, none⟩ := by unfold Addr.add; split <;> simp_all
      rw [hplain]
      refine hc2 j v ?_
      rw [hnews, rows_take, List.getElem?_take] at hj
      split at hj
      · exact hj
      · cases hj
    have hone : ∀ v ∈ news, v.oneCell' = true := by rw [hnews]; exact cts_one _
    have hload := run_loadCells_list (P := Try.prog) w ⟨g2, off2, none⟩ news hsrc
    have hsz : cur.size = c * 2 := e6
    have hst := run_storeCells_at Try.prog g (p * 2) 96 news 0 cur w e3 (by rw [hsz]; omega) hone
    rw [Nat.add_zero] at hst
    rw [hnl] at hload
    refine ⟨w.setRow g (cur.toList.take (p * 2) ++ news ++ cur.toList.drop (p * 2 + news.length)).toArray, ?_, ?_, ?_⟩
    · have hk2 : Nat.min m (n - p) = k := hk.symm
      simp [Builtin.copy_, run_underlying Try.underlying60, Builtin.lenOf, Builtin.firstCells, sizeOf, typeInfo, hi0, hz1, hk2, hload, hst]
    · refine ⟨?_, .inr ⟨g, c, _, rfl, e2, setRow_heap w g cur _ _ _ e3, by omega, e5, ?_, ?_⟩⟩
      · have hll : l.length = n := by rw [cts_len] at hl; omega
        rw [cts_len]
        simp only [List.length_append, List.length_take, List.length_drop]
        omega
      · simp; omega
      · obtain ⟨S, hS⟩ : ∃ S, cur.toList = l.flatMap Ct.row ++ S := ⟨cur.toList.drop (n * 2), by rw [← e7, List.take_append_drop]⟩
        simp only [List.toList_toArray]
        rw [hS, list_take_mid (l.flatMap Ct.row) S news (p * 2) (p * 2 + news.length) (n * 2) hl (by omega) (by omega) (by omega), cts_append, cts_append, rows_take l p, rows_drop l, ← hnews, show p * 2 + news.length = (p + k) * 2 by omega]
    · refine ⟨rfl, rfl, rfl, ?_, ?_⟩
      · simp [World.setRow]
      · intro j _ hj
        exact setRow_other w g j _ (fun e => hj (by rw [e]))
end Go.Proofs.Ytcepknjcgknidaa
