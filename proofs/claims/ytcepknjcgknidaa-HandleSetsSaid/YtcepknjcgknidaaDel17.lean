
/- Chapter 17: slices.Delete of one count. -/
import Derived.Test.YtcepknjcgknidaaIns17
namespace Go.Proofs.Ytcepknjcgknidaa
set_option linter.unusedVariables false
set_option linter.unusedSimpArgs false
open Go.RowKit
theorem oper_append_run {P : Program} (w : World) {o : Oper} {a : Act} {K : Act → World → Prop} {Q : Exit → Act → World → Prop} (d s : Operand) (t t' : TypeId)
    (ho : o.op = .call { callee := .builtin .append, args := #[d, s], argTypes := #[t, t'] }) (v u : Value) (hd : a.eval d = v) (hs : a.eval s = u) {v' : Value} {w' : World}
    (hr : (Builtin.append_ #[t, t'] o.type #[v, u]).run P w = .ok v' w') (h : K (a.put o.dst v') w') : Oper.wp P o a w K Q := by
  unfold Oper.wp execOp
  simp only [ho, resolve, invoke, builtin, Sem.run_bind, Sem.run_pure, Result.andThen_ok, List.map_toArray, List.map_cons, List.map_nil, hd, hs, hr]
  exact h
/-- append(s[:p], x...) where there is room: in place -/
theorem append_raw {w : World} {base n c g p m cs B : Nat} {A : Addr} {X Y : List Value} (ty : TypeId) (hown : w.ownsRow base 96 2 (.slice (some ⟨g, 0, none⟩) n c) n X) (hy : Rd w B 2 (some A) m cs Y) (hone : ∀ u ∈ Y, u.oneCell' = true) (hp : p + m ≤ n) :
    ∃ w', (Builtin.append_ #[60, 60] ty #[.slice (some ⟨g, 0, none⟩) p c, .slice (some A) m cs]).run Try.prog w = .ok (.slice (some ⟨g, 0, none⟩) (p + m) c) w' ∧
      w'.ownsRow base 96 2 (.slice (some ⟨g, 0, none⟩) n c) n ((X.take (p * 2) ++ Y) ++ X.drop ((p + m) * 2)) ∧ w.grownBy w' (some g) := by
  obtain ⟨i0, hi0, hz0, hz1, hz2⟩ := info_parts info_ct
  obtain ⟨hl, h⟩ := hown
  have hym := hy.len
  rcases h with ⟨e, _⟩ | ⟨g', cap, cur, e1, e2, e3, e4, e5, e6, e7⟩
  · cases e
  · injection e1 with e1 e1' e1''
    injection e1 with e1
    injection e1 with e1 _ _
    subst e1
    subst e1''
    have hsrc : ∀ j v, Y[j]? = some v → w.cell? (A.add j) = some v := by
      intro j v hj
      have hj' := (List.getElem?_eq_some_iff.1 hj).1
      obtain ⟨g2, off2, eA, hg2, hc2⟩ := hy.cells (by have := hy.le; omega)
      obtain rfl : A = ⟨g2, off2, none⟩ := Option.some.inj eA
      have hplain : (⟨g2, off2, none⟩ : Addr).add j = ⟨g2, off2 + j, none⟩ := by unfold Addr.add; split <;> simp_all
      rw [hplain]
      exact hc2 j v hj
    have hload := run_loadCells_list (P := Try.prog) w A Y hsrc
    have hsz : cur.size = c * 2 := e6
    have hst := run_storeCells_at Try.prog g (p * 2) 96 Y 0 cur w e3 (by rw [hsz]; omega) hone
    rw [Nat.add_zero] at hst
    rw [hym] at hload
    have hpc : p + m ≤ c := by omega
    refine ⟨w.setRow g (cur.toList.take (p * 2) ++ Y ++ cur.toList.drop (p * 2 + Y.length)).toArray, ?_, ?_, ?_⟩
    · simp [Builtin.append_, run_underlying Try.underlying60, Builtin.lenOf, Builtin.firstCells, sizeOf, typeInfo, hi0, hz1, hload, hpc, Addr.add_lit, hst]
    · refine ⟨?_, .inr ⟨g, c, _, rfl, e2, setRow_heap w g cur _ _ _ e3, by omega, e5, ?_, ?_⟩⟩
      · simp only [List.length_append, List.length_take, List.length_drop]
        omega
      · simp; omega
      · obtain ⟨S, hS⟩ : ∃ S, cur.toList = X ++ S := ⟨cur.toList.drop (n * 2), by rw [← e7, List.take_append_drop]⟩
        simp only [List.toList_toArray]
        rw [hS, list_take_mid X S Y (p * 2) (p * 2 + Y.length) (n * 2) hl (by omega) (by omega) (by omega), show p * 2 + Y.length = (p + m) * 2 by omega]
    · refine ⟨rfl, rfl, rfl, ?_, ?_⟩
      · simp [World.setRow]
      · intro j _ hj
        exact setRow_other w g j _ (fun e => hj (by rw [e]))
/-- clear(s[p:p+1]) -/
theorem clear_raw {w : World} {base n c g p : Nat} {X : List Value} (ty : TypeId) (q m : Nat) (hm : m = 1) (hown : w.ownsRow base 96 2 (.slice (some ⟨g, 0, none⟩) n c) n X) (hp : p + 1 ≤ n) :
    ∃ w', (Builtin.clear_ #[60] ty #[.slice (some ⟨g, p * 2, none⟩) m q]).run Try.prog w = .ok (.tuple #[]) w' ∧
      w'.ownsRow base 96 2 (.slice (some ⟨g, 0, none⟩) n c) n ((X.take (p * 2) ++ [.int .u32 0, .int .i64 0]) ++ X.drop ((p + 1) * 2)) ∧ w.grownBy w' (some g) := by
  subst hm
  obtain ⟨i0, hi0, hz0, hz1, hz2⟩ := info_parts info_ct
  obtain ⟨hl, h⟩ := hown
  rcases h with ⟨e, _⟩ | ⟨g', cap, cur, e1, e2, e3, e4, e5, e6, e7⟩
  · cases e
  · injection e1 with e1 e1' e1''
    injection e1 with e1
    injection e1 with e1 _ _
    subst e1
    subst e1''
    have hsz : cur.size = c * 2 := e6
    have hst := run_storeCells_at Try.prog g (p * 2) 96 [.int .u32 0, .int .i64 0] 0 cur w e3 (by rw [hsz]; simp; omega) (by intro u hu; simp at hu; rcases hu with rfl | rfl <;> rfl)
    rw [Nat.add_zero] at hst
    refine ⟨w.setRow g (cur.toList.take (p * 2) ++ [Value.int .u32 0, Value.int .i64 0] ++ cur.toList.drop (p * 2 + 2)).toArray, ?_, ?_, ?_⟩
    · have hzc : (Builtin.zeroCells (Value.agg #[.int .u32 0, .int .i64 0]).cells 1).toList = [Value.int .u32 0, Value.int .i64 0] := by rw [zero_rows]; rfl
      simp [Builtin.clear_, run_underlying Try.underlying60, zeroValue, typeInfo, hi0, hz0, hzc, hst]
    · refine ⟨?_, .inr ⟨g, c, _, rfl, e2, setRow_heap w g cur _ _ _ e3, by omega, e5, ?_, ?_⟩⟩
      · simp only [List.length_append, List.length_take, List.length_drop, List.length_cons, List.length_nil]
        omega
      · simp; omega
      · obtain ⟨S, hS⟩ : ∃ S, cur.toList = X ++ S := ⟨cur.toList.drop (n * 2), by rw [← e7, List.take_append_drop]⟩
        simp only [List.toList_toArray]
        rw [hS, list_take_mid X S [.int .u32 0, .int .i64 0] (p * 2) (p * 2 + 2) (n * 2) hl (by simp) (by omega) (by omega), show p * 2 + 2 = (p + 1) * 2 by omega]
    · refine ⟨rfl, rfl, rfl, ?_, ?_⟩
      · simp [World.setRow]
      · intro j _ hj
        exact setRow_other w g j _ (fun e => hj (by rw [e]))
theorem own_less {w : World} {base n c g : Nat} {X : List Value} (h : w.ownsRow base 96 2 (.slice (some ⟨g, 0, none⟩) n c) n X) {k : Nat} (hk : k ≤ n) : w.ownsRow base 96 2 (.slice (some ⟨g, 0, none⟩) k c) k (X.take (k * 2)) := by
  obtain ⟨hl, h⟩ := h
  refine ⟨by rw [List.length_take, hl]; omega, ?_⟩
  rcases h with ⟨e, _⟩ | ⟨g', cap, cur, e1, e2, e3, e4, e5, e6, e7⟩
  · cases e
  · injection e1 with e1 e1' e1''
    injection e1 with e1
    injection e1 with e1 _ _
    subst e1
    subst e1''
    refine .inr ⟨g, c, cur, rfl, e2, e3, by omega, e5, e6, ?_⟩
    rw [← e7, List.take_take]
    congr 1
    omega
theorem delete_raw (R Z : List Value) (n k : Nat) (hR : R.length = n * 2) (hk : k < n) :
    ((((R.take (k * 2) ++ R.drop ((k + 1) * 2)) ++ R.drop ((k + (n - (k + 1))) * 2)).take ((n - 1) * 2) ++ Z) ++ ((R.take (k * 2) ++ R.drop ((k + 1) * 2)) ++ R.drop ((k + (n - (k + 1))) * 2)).drop ((n - 1 + 1) * 2)).take ((n - 1) * 2) = R.take (k * 2) ++ R.drop ((k + 1) * 2) := by
  have h1 : (R.take (k * 2) ++ R.drop ((k + 1) * 2)).length = (n - 1) * 2 := by rw [List.length_append, List.length_take, List.length_drop]; omega
  rw [List.take_left' h1, List.append_assoc, List.take_left' h1]
set_option maxRecDepth 100000 in
set_option maxHeartbeats 4000000 in
theorem delete17_any {base n c k g : Nat} {l : List Ct} (w : World) (hown : OwnC w base (some ⟨g, 0, none⟩) n c l) (hb : base ≤ w.heap.size) (hn : n ≤ 900000) (hk : k < n) :
    Calls Try.prog 64 #[.slice (some ⟨g, 0, none⟩) n c, .int .i64 (k : Int), .int .i64 ((k : Int) + 1)] w fun r w' =>
      r = .returned (.slice (some ⟨g, 0, none⟩) (n - 1) c) ∧ OwnC w' base (some ⟨g, 0, none⟩) (n - 1) c (l.take k ++ l.drop (k + 1)) ∧ Below base w w' := by
  have hmax := hown.rd.max
  have hle := hown.rd.le
  unfold maxLen at hmax
  have HO := Lib.hid hown
  clear hown
  have hk1 : (k : Int) + 1 ≤ (n : Int) := by omega
  have hk2 : (k : Int) ≤ (k : Int) + 1 := by omega
  have hk3 : (0 : Int) ≤ (k : Int) + 1 := by omega
  have htn : ((k : Int) + 1).toNat = k + 1 := by omega
  have hne : ((k : Int) == (k : Int) + 1) = false := beq_eq_false_iff_ne.mpr (by omega)
  go_enter Try.func64, Try.ntmps64
  go_upto_region 5 with fail
  refine region_any (by kernel_rfl) ?_
  change wpAny _ _ _ _ _ _ _ (World.drew _)
  have hs0 : base ≤ w.drew.heap.size := hb
  have hBd : Below base w w.drew := (Below.refl _ _).drew
  have ho0 : w.drew.ownsRow base 96 2 (.slice (some ⟨g, 0, none⟩) n c) n (l.flatMap Ct.row) := HO.out
  have hll : (l.flatMap Ct.row).length = n * 2 := HO.out.1
  generalize World.drew _ = w1 at *
  obtain ⟨A, hA⟩ : ∃ A : Addr, (if c = k + 1 then (some ⟨g, 0, none⟩ : Option Addr) else some ⟨g, (k + 1) * 2, none⟩) = some A := by split <;> simp
  have hsrc := (Rd.of_own ho0).drop (k := k + 1) (by omega)
  rw [Option.map_some, Addr.add_lit, Nat.zero_add, hA] at hsrc
  obtain ⟨w2, hap, ho2, hg2⟩ := append_raw (p := k) 60 ho0 hsrc (fun u hu => cts_one _ u (List.mem_of_mem_drop hu)) (by omega)
  obtain ⟨w3, hcl, ho3, hg3⟩ := clear_raw (p := n - 1) 0 (c - (n - 1)) (n - (n - 1)) (by omega) ho2 (by omega)
  have ho4 := own_less ho3 (k := n - 1) (by omega)
  rw [delete_raw _ _ n k hll hk, ← rows_take, ← rows_drop, ← cts_append] at ho4
  have hb3 : Below base w w3 := (hBd.trans ((Below.refl _ _).grown hg2 hs0 (by intro i hi; injection hi with hi; subst hi; exact (ho0.lt _ rfl).1))).trans ((Below.refl _ _).grown hg3 (Nat.le_trans hs0 hg2.size) (by intro i hi; injection hi with hi; subst hi; exact (ho0.lt _ rfl).1))
  rw [show k + (n - (k + 1)) = n - 1 by omega] at hap
  have HO4 := Lib.hid ho4
  have HB := Lib.hid hb3
  have HAP := Lib.hid hap
  have HCL := Lib.hid hcl
  have HA := Lib.hid hA
  have hck : ¬ c = n - 1 := by omega
  clear ho4 hb3 hap hcl ho3 ho2 hg2 hg3 hsrc ho0 hBd hs0 HO hll hA
  have q1 := HAP.out
  have q0 := HA.out
  refine stage 6 ?_
  refine stage_read (i := 0) (v := ?_) rfl (by kernel_rfl) (by kernel_rfl) (by kernel_rfl) (by kernel_rfl) (by kernel_rfl) (by kernel_rfl) (fun _ _ _ h => h) (Or.inl ⟨by kernel_rfl, ?_⟩) ?_
  rotate_left
  · (intro wS hwS; obtain ⟨hcS, hfS, hhS⟩ := bcell hwS; go_simp; try (first | (with_reducible rfl) | rw [if_pos (by omega)] | rw [if_neg (by omega)]))
  try simp only [Act.put, List.getElem_toArray, List.getElem_cons_succ, List.getElem_cons_zero, List.setIfInBounds_toArray, List.set_cons_zero, List.set_cons_succ]
  refine stage_read (i := 1) (v := ?_) rfl (by kernel_rfl) (by kernel_rfl) (by kernel_rfl) (by kernel_rfl) (by kernel_rfl) (by kernel_rfl) (fun _ _ _ h => h) (Or.inl ⟨by kernel_rfl, ?_⟩) ?_
  rotate_left
  · (intro wS hwS; obtain ⟨hcS, hfS, hhS⟩ := bcell hwS; go_simp; try (first | (with_reducible rfl) | rw [if_pos (by omega)] | rw [if_neg (by omega)]))
  try simp only [Act.put, List.getElem_toArray, List.getElem_cons_succ, List.getElem_cons_zero, List.setIfInBounds_toArray, List.set_cons_zero, List.set_cons_succ]
  refine stage_read (i := 2) (v := ?_) rfl (by kernel_rfl) (by kernel_rfl) (by kernel_rfl) (by kernel_rfl) (by kernel_rfl) (by kernel_rfl) (fun _ _ _ h => h) (Or.inl ⟨by kernel_rfl, ?_⟩) ?_
  rotate_left
  · (intro wS hwS; obtain ⟨hcS, hfS, hhS⟩ := bcell hwS; go_simp; try (first | (with_reducible rfl) | rw [if_pos (by omega)] | rw [if_neg (by omega)]))
  try simp only [Act.put, List.getElem_toArray, List.getElem_cons_succ, List.getElem_cons_zero, List.setIfInBounds_toArray, List.set_cons_zero, List.set_cons_succ]
  refine stage_read (i := 3) (v := ?_) rfl (by kernel_rfl) (by kernel_rfl) (by kernel_rfl) (by kernel_rfl) (by kernel_rfl) (by kernel_rfl) (fun _ _ _ h => h) (Or.inl ⟨by kernel_rfl, ?_⟩) ?_
  rotate_left
  · (intro wS hwS; obtain ⟨hcS, hfS, hhS⟩ := bcell hwS; go_simp; try (first | (with_reducible rfl) | rw [if_pos (by omega)] | rw [if_neg (by omega)]))
  try simp only [Act.put, List.getElem_toArray, List.getElem_cons_succ, List.getElem_cons_zero, List.setIfInBounds_toArray, List.set_cons_zero, List.set_cons_succ]
  refine stage_read (i := 4) (v := ?_) rfl (by kernel_rfl) (by kernel_rfl) (by kernel_rfl) (by kernel_rfl) (by kernel_rfl) (by kernel_rfl) (fun _ _ _ h => h) (Or.inl ⟨by kernel_rfl, ?_⟩) ?_
  rotate_left
  · (intro wS hwS; obtain ⟨hcS, hfS, hhS⟩ := bcell hwS; go_simp; try (first | (with_reducible rfl) | rw [if_pos (by omega)] | rw [if_neg (by omega)]))
  try simp only [Act.put, List.getElem_toArray, List.getElem_cons_succ, List.getElem_cons_zero, List.setIfInBounds_toArray, List.set_cons_zero, List.set_cons_succ]
  refine stage_read (i := 5) (v := ?_) rfl (by kernel_rfl) (by kernel_rfl) (by kernel_rfl) (by kernel_rfl) (by kernel_rfl) (by kernel_rfl) (fun _ _ _ h => h) (Or.inl ⟨by kernel_rfl, ?_⟩) ?_
  rotate_left
  · (intro wS hwS; obtain ⟨hcS, hfS, hhS⟩ := bcell hwS; go_simp; try (first | (with_reducible rfl) | rw [if_pos (by omega)] | rw [if_neg (by omega)]))
  try simp only [Act.put, List.getElem_toArray, List.getElem_cons_succ, List.getElem_cons_zero, List.setIfInBounds_toArray, List.set_cons_zero, List.set_cons_succ]
  refine stage_end (by kernel_rfl) rfl (fun K hK => ?_)
  rw [if_pos (by kernel_rfl)]
  try simp only [q0]
  refine oper_append_run _ (.tmp 22) (.tmp 25) _ _ rfl _ _ rfl rfl q1 ?_
  refine hK.out _ _ ?_
  clear hK K
  try simp only [Act.put, List.getElem_toArray, List.getElem_cons_succ, List.getElem_cons_zero, List.setIfInBounds_toArray, List.set_cons_zero, List.set_cons_succ]
  first | refine stage 1000000 ?_ | skip
  refine stage_read (i := 7) (v := ?_) rfl (by kernel_rfl) (by kernel_rfl) (by kernel_rfl) (by kernel_rfl) (by kernel_rfl) (by kernel_rfl) (fun _ _ _ h => h) (Or.inl ⟨by kernel_rfl, ?_⟩) ?_
  rotate_left
  · (intro wS hwS; obtain ⟨hcS, hfS, hhS⟩ := bcell hwS; go_simp; try (first | (with_reducible rfl) | rw [if_pos (by omega)] | rw [if_neg (by omega)]))
  try simp only [Act.put, List.getElem_toArray, List.getElem_cons_succ, List.getElem_cons_zero, List.setIfInBounds_toArray, List.set_cons_zero, List.set_cons_succ]
  first | refine wpAnyT_done (by kernel_rfl) ?_ _ | refine wpAny_done (by kernel_rfl) ?_ _
  clear q1
  have q2 := HCL.out
  go_wp2_with fail
  go_ret
  exact ⟨rfl, HO4.out, HB.out⟩
end Go.Proofs.Ytcepknjcgknidaa
