
/- Chapter 17: slices.Insert of one count. -/
import Derived.Test.YtcepknjcgknidaaGrow17
import Derived.Test.YtcepknjcgknidaaStage
import Derived.Deep.Cut
import Derived.Lib.Overlaps
namespace Go.Proofs.Ytcepknjcgknidaa
set_option linter.unusedVariables false
set_option linter.unusedSimpArgs false
open Go.RowKit
theorem wpList_copy_run {P : Program} (w : World) {ops : Array Oper} {rest : List Oper} {o : Oper} {a : Act} {Q : Exit → Act → World → Prop} (hgd : o.guard = none) (d s : Operand) (t t' : TypeId)
    (ho : o.op = .call { callee := .builtin .copy, args := #[d, s], argTypes := #[t, t'] }) (v u : Value) (hd : a.eval d = v) (hs : a.eval s = u) {v' : Value} {w' : World}
    (hr : (Builtin.copy_ #[t, t'] o.type #[v, u]).run P w = .ok v' w') (h : wpList P ops Q rest (a.put o.dst v') w') : wpList P ops Q (o :: rest) a w :=
  wpList_plain hgd fun _ hK => by
    unfold Oper.wp execOp
    simp only [ho, resolve, invoke, builtin, Sem.run_bind, Sem.run_pure, Result.andThen_ok, List.map_toArray, List.map_cons, List.map_nil, hd, hs, hr]
    exact hK _ _ h
theorem oper_copy {P : Program} (w : World) {o : Oper} {a : Act} {K : Act → World → Prop} {Q : Exit → Act → World → Prop} (d s : Operand) (t t' : TypeId)
    (ho : o.op = .call { callee := .builtin .copy, args := #[d, s], argTypes := #[t, t'] }) (v u : Value) (hd : a.eval d = v) (hs : a.eval s = u) {v' : Value} {w' : World}
    (hr : (Builtin.copy_ #[t, t'] o.type #[v, u]).run P w = .ok v' w') (h : K (a.put o.dst v') w') : Oper.wp P o a w K Q := by
  unfold Oper.wp execOp
  simp only [ho, resolve, invoke, builtin, Sem.run_bind, Sem.run_pure, Result.andThen_ok, List.map_toArray, List.map_cons, List.map_nil, hd, hs, hr]
  exact h
theorem OwnC.lower17 {w : World} {base base' n c : Nat} {A : Option Addr} {l : List Ct} (h : OwnC w base A n c l) (hb : base' ≤ base) : OwnC w base' A n c l := by
  obtain ⟨h1, h2⟩ := h
  refine ⟨h1, ?_⟩
  rcases h2 with h0 | ⟨g, cap, cur, k1, k2, k3, k4⟩
  · exact .inl h0
  · exact .inr ⟨g, cap, cur, k1, Nat.le_trans hb k2, k3, k4⟩
/-- the two copies put y in at place k -/
theorem insert_list (l Z : List Ct) (y : Ct) (k n : Nat) (hl : l.length = n) (hk : k < n) (hZ : Z.length = n + 1 - k) :
    ((((l.take k ++ Z).take k ++ [y].take 1) ++ (l.take k ++ Z).drop (k + 1)).take (k + 1) ++ (l.drop k).take (n - k)) ++ (((l.take k ++ Z).take k ++ [y].take 1) ++ (l.take k ++ Z).drop (k + 1)).drop (k + 1 + (n - k)) = (l.take k ++ [y]) ++ l.drop k := by
  have hk1 : (l.take k).length = k := by rw [List.length_take]; omega
  have h1 : (l.take k ++ Z).take k = l.take k := List.take_left' hk1
  have h2 : (l.drop k).take (n - k) = l.drop k := List.take_of_length_le (by rw [List.length_drop]; omega)
  have h3 : (l.take k ++ [y].take 1).length = k + 1 := by rw [List.length_append, hk1]; rfl
  rw [h1, h2, List.take_left' h3]
  have h4 : ((l.take k ++ [y].take 1) ++ (l.take k ++ Z).drop (k + 1)).drop (k + 1 + (n - k)) = [] := by
    rw [List.drop_eq_nil_iff, List.length_append, h3, List.length_drop, List.length_append, hk1, hZ]
    omega
  rw [h4, List.append_nil]
  rfl
theorem OwnC.form {w : World} {base n c : Nat} {A : Option Addr} {l : List Ct} (h : OwnC w base A n c l) (hn : 0 < n) : ∃ g, A = some ⟨g, 0, none⟩ ∧ base ≤ g ∧ g < w.heap.size := by
  rcases h.2 with ⟨_, e⟩ | ⟨g, cap, cur, e1, e2, e3, _⟩
  · omega
  · injection e1 with e1
    exact ⟨g, e1, e2, (Array.getElem?_eq_some_iff.1 e3).1⟩
set_option maxRecDepth 100000 in
set_option maxHeartbeats 4000000 in
theorem insert_end {base n c gv : Nat} {A : Option Addr} {l : List Ct} {y : Ct} (w : World) (hown : OwnC w base A n c l) (hv : RdC w w.heap.size (some ⟨gv, 0, none⟩) 1 1 [y]) (hb : base ≤ w.heap.size) (hn : n ≤ 1000000) :
    Calls Try.prog 65 #[.slice A n c, .int .i64 (n : Int), .slice (some ⟨gv, 0, none⟩) 1 1] w fun r w' =>
      ∃ A2 c2, r = .returned (.slice A2 (n + 1) c2) ∧ OwnC w' base A2 (n + 1) c2 (l ++ [y]) ∧ Below base w w' := by
  have hle := hown.rd.le
  have hmax := hown.rd.max
  unfold maxLen at hmax
  have HO := Lib.hid hown
  have HV := Lib.hid hv
  clear hown hv
  go_enter Try.func65, Try.ntmps65
  go_wp2_with (at_builtin; refine app_c rfl (.tmp 23) (.tmp 24) rfl rfl HO.out [y] rfl HV.out hb (by omega) ?_; intro A3 c3 w4 hW4 hG4; have hB4 := below_of_app HO.out hG4 hb)
  all_goals (go_ret; exact ⟨A3, c3, rfl, hW4, hB4⟩)
set_option maxRecDepth 100000 in
set_option maxHeartbeats 4000000 in
theorem insert_grow {base n c k gv : Nat} {A : Option Addr} {l : List Ct} {y : Ct} (w : World) (hown : OwnC w base A n c l) (hv : RdC w w.heap.size (some ⟨gv, 0, none⟩) 1 1 [y]) (hb : base ≤ w.heap.size) (hn : n ≤ 900000) (hk : k < n) (hc : c < n + 1) :
    Calls Try.prog 65 #[.slice A n c, .int .i64 (k : Int), .slice (some ⟨gv, 0, none⟩) 1 1] w fun r w' =>
      ∃ A2 c2, r = .returned (.slice A2 (n + 1) c2) ∧ OwnC w' base A2 (n + 1) c2 ((l.take k ++ [y]) ++ l.drop k) ∧ Below base w w' := by
  have hle := hown.rd.le
  have hmax := hown.rd.max
  unfold maxLen at hmax
  obtain ⟨g, off, eA, hg, _⟩ := hown.rd.cells (by omega)
  subst eA
  have hcut : RdC w w.heap.size (some ⟨g, off, none⟩) k c (l.take k) := by
    have := hown.rd.take (k := k) (c' := c) (by omega) (by omega) (Nat.le_refl _)
    rw [← rows_take] at this
    exact this
  obtain ⟨A2, c2, w2, hrun, ho2, hb2⟩ := grow_zeros 60 hcut (show 0 < n + 1 - k by omega) (by omega) (by omega)
  obtain ⟨g2, eA2, hg2, hg2'⟩ := ho2.form (by omega)
  subst eA2
  have hN : k + (n + 1 - k) = n + 1 := by omega
  rw [hN] at ho2 hrun
  have hle2 := ho2.rd.le
  have hck : ¬ c2 = k := by omega
  obtain ⟨L0, hL0⟩ : ∃ L0, L0 = l.take k ++ List.replicate (n + 1 - k) (⟨0, 0⟩ : Ct) := ⟨_, rfl⟩
  rw [← hL0] at ho2
  obtain ⟨w3, hcp1, ho3, hg3⟩ := copy_own (p := k) (k := 1) (dCap := c2 - k) (y := [y]) 3 ho2 ((hv.below (hb2)).more hb2.size) (by show 1 = min 1 (n + 1 - k); omega) (by omega) (by omega)
  have hsrc : RdC w w.heap.size (some ⟨g, off + k * 2, none⟩) (n - k) (c - k) (l.drop k) := by
    have := hown.rd.drop (k := k) (by omega)
    rw [if_neg (by omega), ← rows_drop, Option.map_some, Addr.add_lit] at this
    exact this
  have HLL := Lib.hid hown.len
  have hb3 : Below w.heap.size w w3 := hb2.trans ((Below.refl _ _).grown hg3 hb2.size (by intro i hi; injection hi with hi; omega))
  have hsrc3 := ((hsrc.below hb3).more hb3.size)
  have HSR := Lib.hid hsrc3
  have HB3 := Lib.hid hb3
  have HO3 := Lib.hid ho3
  have HL0 := Lib.hid hL0
  clear hsrc hb3 hsrc3 ho3 hL0 hg3 hb2
  have HO := Lib.hid hown
  have HV := Lib.hid hv
  have HR := Lib.hid hrun
  have HC1 := Lib.hid hcp1
  have hk1 : (k : Int) ≤ (n : Int) + 1 := by omega
  clear hown hv hcut hrun hcp1
  have hki : ((n : Int) + 1 - (k : Int)) = ((n + 1 - k : Nat) : Int) := by omega
  have hkn : ¬ ((k : Int) = (n : Int)) := by omega
  have hcn : (c : Int) < (n : Int) + 1 := by omega
  go_enter Try.func65, Try.ntmps65
  go_upto_region 9 with fail
  have q1 := HC1.out
  go_upto_region 11 with (at_builtin; refine Lib.wpList_append_run _ rfl (.tmp 34) (.tmp 39) _ _ rfl _ _ rfl rfl _ _ HR.out ?_)
  clear q1
  refine region_any (by kernel_rfl) ?_
  change wpAny _ _ _ _ _ _ _ (World.drew _)
  obtain ⟨w5, hcp2, ho5, hg5⟩ := copy_own (w := w3.drew) (p := k + 1) (k := n - k) (dCap := c2 - (k + 1)) (y := l.drop k) 3 (show OwnC w3.drew _ _ _ _ _ from HO3.out) (show RdC w3.drew w3.heap.size _ _ _ _ from HSR.out.drewN 1) (by show n - k = min (n - k) (n + 1 - (k + 1)); omega) (by omega) (by omega)
  rw [show n + 1 - (k + 1) = n - k by omega] at hcp2
  have hB5 : Below w.heap.size w w5 := HB3.out.drew.trans ((Below.refl _ _).grown hg5 HB3.out.size (by intro i hi; injection hi with hi; omega))
  have HB5 := Lib.hid hB5
  have HO5 := Lib.hid ho5
  have HG5 := Lib.hid hg5
  clear hB5 ho5 hg5
  generalize World.drew _ = w4 at *
  have hw1 : IntKind.i64.wrap ((k : Int) + 1) = (k : Int) + 1 := IntWalk.i64_in _ (by omega)
  have htn : ((k : Int) + 1).toNat = k + 1 := by omega
  have hck2 : ¬ c2 = k + 1 := by omega
  have hck3 : ¬ c = k := by omega
  have hk2 : (k : Int) + 1 ≤ (n : Int) + 1 := by omega
  have hk3 : (0 : Int) ≤ (k : Int) + 1 := by omega
  refine stage 8 ?_
  refine stage_read (i := 0) (v := ?_) rfl (by kernel_rfl) (by kernel_rfl) (by kernel_rfl) (by kernel_rfl) (by kernel_rfl) (by kernel_rfl) (fun _ _ _ h => h) (Or.inl ⟨by kernel_rfl, ?_⟩) ?_
  rotate_left
  · (intro wS hwS; obtain ⟨hcS, hfS, hhS⟩ := bcell hwS; go_simp; try (first | (with_reducible rfl) | rw [if_pos (by omega)] | rw [if_neg (by omega)]))
  try simp only [Act.put, List.getElem_toArray, List.getElem_cons_succ, List.getElem_cons_zero, List.setIfInBounds_toArray, List.set_cons_zero, List.set_cons_succ]
  refine stage_read (i := 1) (v := ?_) rfl (by kernel_rfl) (by kernel_rfl) (by kernel_rfl) (by kernel_rfl) (by kernel_rfl) (by kernel_rfl) (fun _ _ _ h => h) (Or.inl ⟨by kernel_rfl, ?_⟩) ?_
  rotate_left
  · (intro wS hwS; obtain ⟨hcS, hfS, hhS⟩ := bcell hwS; go_simp; try (first | (with_reducible rfl) | rw [if_pos (by omega)] | rw [if_neg (by omega)]))
  try simp only [Act.put, List.getElem_toArray, List.getElem_cons_succ, List.getElem_cons_zero, List.setIfInBounds_toArray, List.set_cons_zero, List.set_cons_succ]
  refine stage_read (i := 2) (v := ?_) rfl (by kernel_rfl) (by kernel_rfl) (by kernel_rfl) (by kernel_rfl) (by kernel_rfl) (by kernel_rfl) (fun _ _ _ h => h) (Or.inl ⟨by kernel_rfl, ?_⟩) ?_
  rotate_left
  · (intro wS hwS; obtain ⟨hcS, hfS, hhS⟩ := bcell hwS; go_simp; try (first | (with_reducible rfl) | rw [if_pos (by omega)] | rw [if_neg (by omega)]))
  try simp only [Act.put, List.getElem_toArray, List.getElem_cons_succ, List.getElem_cons_zero, List.setIfInBounds_toArray, List.set_cons_zero, List.set_cons_succ]
  refine stage_read (i := 3) (v := ?_) rfl (by kernel_rfl) (by kernel_rfl) (by kernel_rfl) (by kernel_rfl) (by kernel_rfl) (by kernel_rfl) (fun _ _ _ h => h) (Or.inl ⟨by kernel_rfl, ?_⟩) ?_
  rotate_left
  · (intro wS hwS; obtain ⟨hcS, hfS, hhS⟩ := bcell hwS; go_simp; try (first | (with_reducible rfl) | rw [if_pos (by omega)] | rw [if_neg (by omega)]))
  try simp only [Act.put, List.getElem_toArray, List.getElem_cons_succ, List.getElem_cons_zero, List.setIfInBounds_toArray, List.set_cons_zero, List.set_cons_succ]
  refine stage_read (i := 4) (v := ?_) rfl (by kernel_rfl) (by kernel_rfl) (by kernel_rfl) (by kernel_rfl) (by kernel_rfl) (by kernel_rfl) (fun _ _ _ h => h) (Or.inl ⟨by kernel_rfl, ?_⟩) ?_
  rotate_left
  · (intro wS hwS; obtain ⟨hcS, hfS, hhS⟩ := bcell hwS; go_simp; try (first | (with_reducible rfl) | rw [if_pos (by omega)] | rw [if_neg (by omega)]))
  try simp only [Act.put, List.getElem_toArray, List.getElem_cons_succ, List.getElem_cons_zero, List.setIfInBounds_toArray, List.set_cons_zero, List.set_cons_succ]
  refine stage_read (i := 5) (v := ?_) rfl (by kernel_rfl) (by kernel_rfl) (by kernel_rfl) (by kernel_rfl) (by kernel_rfl) (by kernel_rfl) (fun _ _ _ h => h) (Or.inl ⟨by kernel_rfl, ?_⟩) ?_
  rotate_left
  · (intro wS hwS; obtain ⟨hcS, hfS, hhS⟩ := bcell hwS; go_simp; try (first | (with_reducible rfl) | rw [if_pos (by omega)] | rw [if_neg (by omega)]))
  try simp only [Act.put, List.getElem_toArray, List.getElem_cons_succ, List.getElem_cons_zero, List.setIfInBounds_toArray, List.set_cons_zero, List.set_cons_succ]
  refine stage_read (i := 6) (v := ?_) rfl (by kernel_rfl) (by kernel_rfl) (by kernel_rfl) (by kernel_rfl) (by kernel_rfl) (by kernel_rfl) (fun _ _ _ h => h) (Or.inl ⟨by kernel_rfl, ?_⟩) ?_
  rotate_left
  · (intro wS hwS; obtain ⟨hcS, hfS, hhS⟩ := bcell hwS; go_simp; try (first | (with_reducible rfl) | rw [if_pos (by omega)] | rw [if_neg (by omega)]))
  try simp only [Act.put, List.getElem_toArray, List.getElem_cons_succ, List.getElem_cons_zero, List.setIfInBounds_toArray, List.set_cons_zero, List.set_cons_succ]
  refine stage_read (i := 7) (v := ?_) rfl (by kernel_rfl) (by kernel_rfl) (by kernel_rfl) (by kernel_rfl) (by kernel_rfl) (by kernel_rfl) (fun _ _ _ h => h) (Or.inl ⟨by kernel_rfl, ?_⟩) ?_
  rotate_left
  · (intro wS hwS; obtain ⟨hcS, hfS, hhS⟩ := bcell hwS; go_simp; try (first | (with_reducible rfl) | rw [if_pos (by omega)] | rw [if_neg (by omega)]))
  try simp only [Act.put, List.getElem_toArray, List.getElem_cons_succ, List.getElem_cons_zero, List.setIfInBounds_toArray, List.set_cons_zero, List.set_cons_succ]
  refine stage_end (by kernel_rfl) rfl (fun K hK => ?_)
  go_simp
  refine hK.out _ _ ?_
  clear hK K
  try simp only [Act.put, List.getElem_toArray, List.getElem_cons_succ, List.getElem_cons_zero, List.setIfInBounds_toArray, List.set_cons_zero, List.set_cons_succ]
  first | refine wpAnyT_done (by kernel_rfl) ?_ _ | refine wpAny_done (by kernel_rfl) ?_ _
  go_wp2_with fail
  go_ret
  refine ⟨some ⟨g2, 0, none⟩, c2, rfl, ?_, HB5.out.mono hb⟩
  have hfin := OwnC.lower17 HO5.out hb
  rw [HL0.out] at hfin
  have hlen : l.length = n := HLL.out.symm
  rw [insert_list l _ y k n hlen hk (by simp)] at hfin
  exact hfin
end Go.Proofs.Ytcepknjcgknidaa
