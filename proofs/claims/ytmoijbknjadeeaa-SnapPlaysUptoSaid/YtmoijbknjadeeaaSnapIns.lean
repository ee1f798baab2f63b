
/- slices.Insert of one function value ahead of three; slices.Contains of texts. -/
import Derived.Test.YtmoijbknjadeeaaDkAwake
import Derived.Test.YtmoijbknjadeeaaStage
import Derived.Laws.CopyRow
import Derived.Lib.AppendZeros
import Derived.Lib.AppendZerosOnto
import Derived.Lib.Overlaps
import Derived.Deep.Cut
namespace Go.Proofs.Ytmoijbknjadeeaa
set_option linter.unusedVariables false
set_option linter.unusedSimpArgs false
open Go.RowKit
theorem info_fn : (Try.prog.info? 67).map (fun i => (i.zero, i.size, i.bytes)) = some (some Value.nilFunc, 1, 8) := by kernel_rfl
abbrev OwnF (w : World) (base : Nat) (A : Option Addr) (n c : Nat) (l : List Value) : Prop := w.ownsRow base 67 1 (.slice A n c) n l
theorem take_midV {α : Type} (R S news : List α) (a b n : Nat) (hR : R.length = n) (hn : news.length = b - a) (hab : a ≤ b) (hb : b ≤ n) :
    (((R ++ S).take a ++ news) ++ (R ++ S).drop b).take n = (R.take a ++ news) ++ R.drop b := by
  have h1 : (R ++ S).take a = R.take a := List.take_append_of_le_length (by omega)
  have h2 : (R ++ S).drop b = R.drop b ++ S := List.drop_append_of_le_length (by omega)
  rw [h1, h2, ← List.append_assoc]
  exact List.take_left' (by simp; omega)
theorem copy_fn {w : World} {base n c g p k m cs dCap B : Nat} {A : Option Addr} {l y : List Value} (ty : TypeId) (hown : OwnF w base (some ⟨g, 0, none⟩) n c l) (hy : Rd w B 1 A m cs y) (hk : k = Nat.min m (n - p)) (hp : p + k ≤ n) (h0 : 0 < k) (h1 : ∀ v ∈ y, v.oneCell' = true) :
    ∃ w', (Builtin.copy_ #[110, 110] ty #[.slice (some ⟨g, p, none⟩) (n - p) dCap, .slice A m cs]).run Try.prog w = .ok (goInt k) w' ∧
      OwnF w' base (some ⟨g, 0, none⟩) n c ((l.take p ++ y.take k) ++ l.drop (p + k)) ∧ w.grownBy w' (some g) := by
  obtain ⟨i0, hi0, hz0, hz1, hz2⟩ := info_parts info_fn
  obtain ⟨hl, h⟩ := hown
  have hym : y.length = m := by have := hy.len; omega
  have hkm : k ≤ m := by rw [hk]; exact Nat.min_le_left _ _
  rcases h with ⟨e, _⟩ | ⟨g', cap, cur, e1, e2, e3, e4, e5, e6, e7⟩
  · cases e
  · injection e1 with e1 e1' e1''
    injection e1 with e1
    injection e1 with e1 _ _
    subst e1
    subst e1''
    obtain ⟨g2, off2, rfl, hg2, hc2⟩ := hy.cells (by have := hy.le; omega)
    obtain ⟨news, hnews⟩ : ∃ news, news = y.take k := ⟨_, rfl⟩
    have hnl : news.length = k := by rw [hnews, List.length_take]; omega
    have hsrc : ∀ j v, news[j]? = some v → w.cell? ((⟨g2, off2, none⟩ : Addr).add j) = some v := by
      intro j v hj
      have hplain : (⟨g2, off2, none⟩ : Addr).add j = ⟨g2, off2 + j, none⟩ := by unfold Addr.add; split <;> simp_all
      rw [hplain]
      refine hc2 j v ?_
      rw [hnews, List.getElem?_take] at hj
      split at hj
      · exact hj
      · cases hj
    have hone : ∀ v ∈ news, v.oneCell' = true := by rw [hnews]; exact fun v hv => h1 v (List.mem_of_mem_take hv)
    have hload := run_loadCells_list (P := Try.prog) w ⟨g2, off2, none⟩ news hsrc
    have hsz : cur.size = c := by rw [e6]; omega
    have hst := run_storeCells_at Try.prog g p 67 news 0 cur w e3 (by rw [hsz]; omega) hone
    rw [Nat.add_zero] at hst
    rw [hnl] at hload
    refine ⟨w.setRow g (cur.toList.take p ++ news ++ cur.toList.drop (p + news.length)).toArray, ?_, ?_, ?_⟩
    · have hk2 : Nat.min m (n - p) = k := hk.symm
      simp [Builtin.copy_, run_underlying Try.underlying110, Builtin.lenOf, Builtin.firstCells, sizeOf, typeInfo, hi0, hz1, hk2, hload, hst]
    · refine ⟨?_, .inr ⟨g, c, _, rfl, e2, setRow_heap w g cur _ _ _ e3, by omega, e5, ?_, ?_⟩⟩
      · simp only [List.length_append, List.length_take, List.length_drop]
        omega
      · simp; omega
      · obtain ⟨S, hS⟩ : ∃ S, cur.toList = l ++ S := ⟨cur.toList.drop (n * 1), by rw [← e7, List.take_append_drop]⟩
        simp only [List.toList_toArray, Nat.mul_one]
        rw [hS, take_midV l S news p (p + news.length) n (by omega) (by omega) (by omega) (by omega), ← hnews, show p + news.length = p + k by omega]
    · refine ⟨rfl, rfl, rfl, ?_, ?_⟩
      · simp [World.setRow]
      · intro j _ hj
        exact setRow_other w g j _ (fun e => hj (by rw [e]))
theorem zero_fn (k : Nat) : (Builtin.zeroCells (Value.nilFunc).cells k).toList = List.replicate k Value.nilFunc := by
  apply List.ext_getElem?
  intro j
  by_cases hj : j < k
  · rw [List.getElem?_replicate, if_pos hj]
    have h3 : j < (Builtin.zeroCells (Value.nilFunc).cells k).toList.length := by simp [Builtin.zeroCells, Value.cells]; exact hj
    rw [List.getElem?_eq_getElem h3]
    simp [Builtin.zeroCells, Value.cells, Nat.mod_one]
  · rw [List.getElem?_eq_none (by simp [Builtin.zeroCells, Value.cells]; omega), List.getElem?_eq_none (by simp; omega)]
theorem grow_fn {w : World} {c k : Nat} {A : Addr} (ty : TypeId) (h0 : 0 < k) (hg : c < k) (hn : k ≤ 1000) :
    ∃ A2 c2 w', (Builtin.append_ #[110, 3] ty #[.slice (some A) 0 c, .int .i64 (k : Nat)]).run Try.prog w = .ok (.slice A2 k c2) w' ∧ OwnF w' w.heap.size A2 k c2 (List.replicate k .nilFunc) ∧ Below w.heap.size w w' := by
  obtain ⟨i0, hi0, hz0, hz1, hz2⟩ := info_parts info_fn
  have hold : (Builtin.firstCells i0.size 0 (.slice (some A) 0 c)).run Try.prog w.drew = .ok ([] : List Value).toArray w.drew := by
    rw [hz1]
    have hload := run_loadCells_list (P := Try.prog) w.drew A [] (by intro j v hj; simp at hj)
    simp only [List.length_nil] at hload
    simp only [Builtin.firstCells, Nat.zero_mul]
    exact hload
  have hnx : Builtin.nextslicecap (0 + k) c ≤ 10000000 := by
    unfold Builtin.nextslicecap
    split
    · omega
    · split
      · omega
      · simp only [Builtin.growBy]
        repeat' split
        all_goals omega
  have hrun := Lib.run_append_grow_zeros (P := Try.prog) w 110 3 ty 67 i0 _ .i64 .i64 Try.underlying110 Try.underlying3 hi0 hz0 (some A) 0 c [] hold k h0 (by omega) (by omega) (by omega) (by rw [hz2]; omega) (by rw [hz2]; omega)
  rw [Nat.zero_add] at hrun
  obtain ⟨cap, hcap⟩ : ∃ cap, cap = grownCap w k c 67 := ⟨_, rfl⟩
  have h1 := grownCap_ge w k c 67
  have h2 := grownCap_le_maxLen w k c 67 (by simp only [maxLen]; omega)
  rw [← hcap] at hrun h1 h2
  refine ⟨_, _, _, hrun, ?_, ?_⟩
  · have hz : ∀ q, (Builtin.zeroCells (Value.nilFunc).cells q).size = q := by
      intro q
      have := congrArg List.length (zero_fn q)
      rw [List.length_replicate] at this
      simpa using this
    refine ⟨?_, .inr ⟨w.heap.size, cap, _, rfl, Nat.le_refl _, heap_alloc_new w.drew _, h1, h2, ?_, ?_⟩⟩
    · rw [List.length_replicate, Nat.mul_one]
    · simp only [Array.size_append, hz, List.size_toArray, List.length_nil]
      omega
    · simp only [Array.toList_append, zero_fn]
      rw [List.take_append_of_le_length (by simp), List.take_of_length_le (by simp)]
      rfl
  · exact ((Below.refl _ _).drew).alloc (Nat.le_refl _) _
set_option maxRecDepth 100000 in
set_option maxHeartbeats 4000000 in
theorem insert_fn {g gv : Nat} {a b c e : Value} (w : World) (hown : At w g 67 [a, b, c]) (hv : At w gv 67 [e]) (h1 : ∀ v ∈ [a, b, c], v.oneCell' = true) (h2 : ∀ v ∈ [e], v.oneCell' = true) :
    Calls Try.prog 75 #[.slice (some ⟨g, 0, none⟩) 3 3, .int .i64 0, .slice (some ⟨gv, 0, none⟩) 1 1] w fun r w' =>
      ∃ A2 c2, r = .returned (.slice A2 4 c2) ∧ OwnF w' w.heap.size A2 4 c2 [e, a, b, c] ∧ Below w.heap.size w w' := by
  have hs3 := (own_lit6 hown (n := 3) (s := 1) rfl (by simp [maxLen]) 0 (Nat.zero_le _))
  have hv1 := (own_lit6 hv (n := 1) (s := 1) rfl (by simp [maxLen]) 0 (Nat.zero_le _))
  have hr3 : Rd w w.heap.size 1 (some ⟨g, 0, none⟩) 3 3 [a, b, c] := Rd.of_own hs3
  have hr1 : Rd w w.heap.size 1 (some ⟨gv, 0, none⟩) 1 1 [e] := Rd.of_own hv1
  clear hs3 hv1 hown hv
  obtain ⟨A2, c2, w2, hrun, ho2, hb2⟩ := grow_fn (w := w) (c := 3) (k := 4) (A := ⟨g, 0, none⟩) 110 (by omega) (by omega) (by omega)
  obtain ⟨g2, eA2, hg2, hg2'⟩ : ∃ g2, A2 = some ⟨g2, 0, none⟩ ∧ w.heap.size ≤ g2 ∧ g2 < w2.heap.size := by
    rcases ho2.2 with ⟨_, e⟩ | ⟨g, cap, cur, e1, e2, e3, _⟩
    · omega
    · injection e1 with e1
      exact ⟨g, e1, e2, (Array.getElem?_eq_some_iff.1 e3).1⟩
  subst eA2
  have hle2 : 4 ≤ c2 := (Rd.of_own ho2).le
  obtain ⟨w3, hcp1, ho3, hg3⟩ := copy_fn (p := 0) (k := 1) (dCap := c2) (y := [e]) 3 ho2 ((Rd.below hr1 hb2).more hb2.size) (by decide) (by omega) (by omega) h2
  have hb3 : Below w.heap.size w w3 := hb2.trans ((Below.refl _ _).grown hg3 hb2.size (by intro i hi; injection hi with hi; omega))
  have hr5 : Rd w3.drew w3.drew.heap.size 1 (some ⟨g, 0, none⟩) 3 3 [a, b, c] := (Rd.below hr3 hb3.drew).more hb3.size
  obtain ⟨w5, hcp2, ho5, hg5⟩ := copy_fn (w := w3.drew) (p := 1) (k := 3) (dCap := c2 - 1) (y := [a, b, c]) 3 (show OwnF w3.drew _ _ _ _ _ from ho3) hr5 (by decide) (by omega) (by omega) h1
  have hb5 : Below w.heap.size w w5 := hb3.drew.trans ((Below.refl _ _).grown hg5 hb3.size (by intro i hi; injection hi with hi; omega))
  simp only [Nat.sub_zero, Nat.reduceSub, Int.cast_ofNat_Int] at hrun hcp1 hcp2
  have HB5 := Lib.hid hb5
  have HO5 := Lib.hid ho5
  have HR := Lib.hid hrun
  have HC1 := Lib.hid hcp1
  clear hb5 ho5 hrun hcp1 hg5 hg3 ho3 hb3 ho2 hb2 hr3 hr1 hr5
  go_enter Try.func75, Try.ntmps75
  go_upto_region 9 with fail
  have q1 := HC1.out
  go_upto_region 11 with (at_builtin; refine Lib.wpList_append_run _ rfl (.tmp 34) (.tmp 39) _ _ rfl _ _ rfl rfl _ _ HR.out ?_)
  clear q1
  refine region_any (by kernel_rfl) ?_
  change wpAny _ _ _ _ _ _ _ (World.drew _)
  generalize World.drew _ = w4 at *
  have hck2 : ¬ c2 = 1 := by omega
  have hw1 : IntKind.i64.wrap (1 : Int) = 1 := IntWalk.i64_in _ (by omega)
  have htn : (1 : Int).toNat = 1 := rfl
  refine stage 8 ?_
  refine stage_read (i := 0) (v := ?_) rfl (by kernel_rfl) (by kernel_rfl) (by kernel_rfl) (by kernel_rfl) (by kernel_rfl) (by kernel_rfl) (fun _ _ _ h => h) (Or.inl ⟨by kernel_rfl, ?_⟩) ?_
  rotate_left
  · (intro wS hwS; obtain ⟨hcS, hfS, hhS⟩ := bcell hwS; go_simp; try (first | (with_reducible rfl) | rw [if_pos (by omega)] | rw [if_neg (by omega)]))
  try simp only [Act.put, List.getElem_toArray, List.getElem_cons_succ, List.getElem_cons_zero, List.setIfInBounds_toArray, List.set_cons_zero, List.set_cons_succ]
  refine stage_read (i := 1) (v := ?_) rfl (by kernel_rfl) (by kernel_rfl) (by kernel_rfl) (by kernel_rfl) (by kernel_rfl) (by kernel_rfl) (fun _ _ _ h => h) (Or.inl ⟨by kernel_rfl, ?_⟩) ?_
  rotate_left
  · (intro wS hwS; obtain ⟨hcS, hfS, hhS⟩ := bcell hwS; go_simp; try (first | (with_reducible rfl) | rw [if_pos (by omega)] | rw [if_neg (by omega)]))
  try simp only [Act.put, List.getElem_toArray, List.getElem_cons_succ, List.getElem_cons_zero, List.setIfInBounds_toArray, List.set_cons_zero, List.set_cons_succ]
  refine stage_read (i := 2) (v := ?_) rfl (by kernel_rfl) (by kernel_rfl) (by kernel_rfl) (by kernel_rfl) (by kernel_rfl) (by kernel_rfl) (fun _ _ _ h => h) (Or.inl ⟨by kernel_rfl, ?_⟩) ?_
  rotate_left
  · (intro wS hwS; obtain ⟨hcS, hfS, hhS⟩ := bcell hwS; go_simp; try (first | (with_reducible rfl) | rw [if_pos (by omega)] | rw [if_neg (by omega)]))
  try simp only [Act.put, List.getElem_toArray, List.getElem_cons_succ, List.getElem_cons_zero, List.setIfInBounds_toArray, List.set_cons_zero, List.set_cons_succ]
  refine stage_read (i := 3) (v := ?_) rfl (by kernel_rfl) (by kernel_rfl) (by kernel_rfl) (by kernel_rfl) (by kernel_rfl) (by kernel_rfl) (fun _ _ _ h => h) (Or.inl ⟨by kernel_rfl, ?_⟩) ?_
  rotate_left
  · (intro wS hwS; obtain ⟨hcS, hfS, hhS⟩ := bcell hwS; go_simp; try (first | (with_reducible rfl) | rw [if_pos (by omega)] | rw [if_neg (by omega)]))
  try simp only [Act.put, List.getElem_toArray, List.getElem_cons_succ, List.getElem_cons_zero, List.setIfInBounds_toArray, List.set_cons_zero, List.set_cons_succ]
  refine stage_read (i := 4) (v := ?_) rfl (by kernel_rfl) (by kernel_rfl) (by kernel_rfl) (by kernel_rfl) (by kernel_rfl) (by kernel_rfl) (fun _ _ _ h => h) (Or.inl ⟨by kernel_rfl, ?_⟩) ?_
  rotate_left
  · (intro wS hwS; obtain ⟨hcS, hfS, hhS⟩ := bcell hwS; go_simp; try (first | (with_reducible rfl) | rw [if_pos (by omega)] | rw [if_neg (by omega)]))
  try simp only [Act.put, List.getElem_toArray, List.getElem_cons_succ, List.getElem_cons_zero, List.setIfInBounds_toArray, List.set_cons_zero, List.set_cons_succ]
  refine stage_read (i := 5) (v := ?_) rfl (by kernel_rfl) (by kernel_rfl) (by kernel_rfl) (by kernel_rfl) (by kernel_rfl) (by kernel_rfl) (fun _ _ _ h => h) (Or.inl ⟨by kernel_rfl, ?_⟩) ?_
  rotate_left
  · (intro wS hwS; obtain ⟨hcS, hfS, hhS⟩ := bcell hwS; go_simp; try (first | (with_reducible rfl) | rw [if_pos (by omega)] | rw [if_neg (by omega)]))
  try simp only [Act.put, List.getElem_toArray, List.getElem_cons_succ, List.getElem_cons_zero, List.setIfInBounds_toArray, List.set_cons_zero, List.set_cons_succ]
  refine stage_read (i := 6) (v := ?_) rfl (by kernel_rfl) (by kernel_rfl) (by kernel_rfl) (by kernel_rfl) (by kernel_rfl) (by kernel_rfl) (fun _ _ _ h => h) (Or.inl ⟨by kernel_rfl, ?_⟩) ?_
  rotate_left
  · (intro wS hwS; obtain ⟨hcS, hfS, hhS⟩ := bcell hwS; go_simp; try (first | (with_reducible rfl) | rw [if_pos (by omega)] | rw [if_neg (by omega)]))
  try simp only [Act.put, List.getElem_toArray, List.getElem_cons_succ, List.getElem_cons_zero, List.setIfInBounds_toArray, List.set_cons_zero, List.set_cons_succ]
  refine stage_read (i := 7) (v := ?_) rfl (by kernel_rfl) (by kernel_rfl) (by kernel_rfl) (by kernel_rfl) (by kernel_rfl) (by kernel_rfl) (fun _ _ _ h => h) (Or.inl ⟨by kernel_rfl, ?_⟩) ?_
  rotate_left
  · (intro wS hwS; obtain ⟨hcS, hfS, hhS⟩ := bcell hwS; go_simp; try (first | (with_reducible rfl) | rw [if_pos (by omega)] | rw [if_neg (by omega)]))
  try simp only [Act.put, List.getElem_toArray, List.getElem_cons_succ, List.getElem_cons_zero, List.setIfInBounds_toArray, List.set_cons_zero, List.set_cons_succ]
  refine stage_end (by kernel_rfl) rfl (fun K hK => ?_)
  go_simp
  refine hK.out _ _ ?_
  clear hK K
  try simp only [Act.put, List.getElem_toArray, List.getElem_cons_succ, List.getElem_cons_zero, List.setIfInBounds_toArray, List.set_cons_zero, List.set_cons_succ]
  first | refine wpAnyT_done (by kernel_rfl) ?_ _ | refine wpAny_done (by kernel_rfl) ?_ _
  go_wp2_with fail
  go_ret
  exact ⟨some ⟨g2, 0, none⟩, c2, rfl, HO5.out, HB5.out⟩
end Go.Proofs.Ytmoijbknjadeeaa
