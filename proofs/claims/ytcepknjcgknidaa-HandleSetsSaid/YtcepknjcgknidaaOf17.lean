
/- Chapter 17: find, Of. -/
import Derived.Test.YtcepknjcgknidaaFind17
namespace Go.Proofs.Ytcepknjcgknidaa
set_option linter.unusedVariables false
set_option linter.unusedSimpArgs false
open Go.RowKit
set_option maxRecDepth 100000 in
set_option maxHeartbeats 4000000 in
theorem find17_any (A : Option Addr) (n c : Nat) (l : List Ct) (a x : Nat) (w : World) (hr : RdC w w.heap.size A n c l) (ha : right17 l = true) (hn : n ≤ 1000000) (hx : x = a - a % 64) (hal : a < 4294967296) :
    Calls Try.prog 62 #[.agg #[.slice A n c], .int .u32 (a : Int)] w fun r w' =>
      ∃ k : Nat, Low l x k ∧ r = .returned (.tuple #[.int .i64 (k : Int), .bool (hit17 l x k)]) ∧ Below w.heap.size w w' := by
  have hfi := fun w => first17_any a hal w
  rw [← hx] at hfi
  obtain ⟨h0, hb⟩ := one_at w 62 [.slice A n c]
  have HR := Lib.hid ((hr.below hb).more hb.size)
  have HFI := Lib.hid hfi
  clear hfi hr hx
  go_enter Try.func62, Try.ntmps62
  go_upto_region 1 with fail
  generalize World.alloc _ _ = w1 at *
  refine region_any (by kernel_rfl) ?_
  change wpAny _ _ _ _ _ _ _ (World.drew _)
  replace h0 := h0.drew
  replace hb := hb.drew
  have HB2 := Lib.hid (fun (w2 : World) (h : Below w1.drew.heap.size w1.drew w2) => bsf_any A n c l x w2 (((HR.out.drewN 1).below h).more h.size) ha hn)
  generalize World.drew _ = w2 at *
  obtain ⟨x0, x1⟩ := at1 h0
  have l0 := h0.lt
  refine stage 100000 ?_
  refine stage_read (i := 0) (v := ?_) rfl (by kernel_rfl) (by kernel_rfl) (by kernel_rfl) (by kernel_rfl) (by kernel_rfl) (by kernel_rfl) (fun _ _ _ h => h) (Or.inl ⟨by kernel_rfl, ?_⟩) ?_
  rotate_left
  · (intro wS hwS; obtain ⟨hcS, hfS, hhS⟩ := bcell hwS; go_simp; try (first | (with_reducible rfl) | rw [if_pos (by omega)] | rw [if_neg (by omega)]))
  try simp only [Act.put, List.getElem_toArray, List.getElem_cons_succ, List.getElem_cons_zero, List.setIfInBounds_toArray, List.set_cons_zero, List.set_cons_succ]
  refine stage_read (i := 1) (v := ?_) rfl (by kernel_rfl) (by kernel_rfl) (by kernel_rfl) (by kernel_rfl) (by kernel_rfl) (by kernel_rfl) (fun _ _ _ h => h) (Or.inl ⟨by kernel_rfl, ?_⟩) ?_
  rotate_left
  · (intro wS hwS; obtain ⟨hcS, hfS, hhS⟩ := bcell hwS; go_simp; try (first | (with_reducible rfl) | rw [if_pos (by omega)] | rw [if_neg (by omega)]))
  try simp only [Act.put, List.getElem_toArray, List.getElem_cons_succ, List.getElem_cons_zero, List.setIfInBounds_toArray, List.set_cons_zero, List.set_cons_succ]
  refine stage_read (i := 2) (v := ?_) rfl (by kernel_rfl) (by kernel_rfl) (by kernel_rfl) (by kernel_rfl) (by kernel_rfl) (by kernel_rfl) (fun _ _ _ h => h) (Or.inl ⟨by kernel_rfl, ?_⟩) ?_
  rotate_left
  · (intro wS hwS; obtain ⟨hcS, hfS, hhS⟩ := bcell hwS; go_simp; try (first | (with_reducible rfl) | rw [if_pos (by omega)] | rw [if_neg (by omega)]))
  try simp only [Act.put, List.getElem_toArray, List.getElem_cons_succ, List.getElem_cons_zero, List.setIfInBounds_toArray, List.set_cons_zero, List.set_cons_succ]
  refine stage_one 3 (by kernel_rfl) rfl (by kernel_rfl) (fun K hK => ?_)
  go_simp
  refine (HFI.out _).mono ?_
  rintro r w3 ⟨rfl, rfl⟩
  refine hK.out _ _ ((Below.refl _ _)) ?_
  clear hK K
  try simp only [Act.put, List.getElem_toArray, List.getElem_cons_succ, List.getElem_cons_zero, List.setIfInBounds_toArray, List.set_cons_zero, List.set_cons_succ]

  refine stage_one 4 (by kernel_rfl) rfl (by kernel_rfl) (fun K hK => ?_)
  go_simp
  refine (HB2.out _ (Below.refl _ _)).mono ?_
  rintro r w4 ⟨k, hk, rfl, hb4⟩
  refine hK.out _ _ (hb4) ?_
  clear hK K
  try simp only [Act.put, List.getElem_toArray, List.getElem_cons_succ, List.getElem_cons_zero, List.setIfInBounds_toArray, List.set_cons_zero, List.set_cons_succ]
  replace hb := chain hb hb4
  clear hb4 x0 x1 l0 h0
  refine stage_read (i := 5) (v := ?_) rfl (by kernel_rfl) (by kernel_rfl) (by kernel_rfl) (by kernel_rfl) (by kernel_rfl) (by kernel_rfl) (fun _ _ _ h => h) (Or.inl ⟨by kernel_rfl, ?_⟩) ?_
  rotate_left
  · (intro wS hwS; obtain ⟨hcS, hfS, hhS⟩ := bcell hwS; go_simp; try (first | (with_reducible rfl) | rw [if_pos (by omega)] | rw [if_neg (by omega)]))
  try simp only [Act.put, List.getElem_toArray, List.getElem_cons_succ, List.getElem_cons_zero, List.setIfInBounds_toArray, List.set_cons_zero, List.set_cons_succ]
  refine stage_read (i := 6) (v := ?_) rfl (by kernel_rfl) (by kernel_rfl) (by kernel_rfl) (by kernel_rfl) (by kernel_rfl) (by kernel_rfl) (fun _ _ _ h => h) (Or.inl ⟨by kernel_rfl, ?_⟩) ?_
  rotate_left
  · (intro wS hwS; obtain ⟨hcS, hfS, hhS⟩ := bcell hwS; go_simp; try (first | (with_reducible rfl) | rw [if_pos (by omega)] | rw [if_neg (by omega)]))
  try simp only [Act.put, List.getElem_toArray, List.getElem_cons_succ, List.getElem_cons_zero, List.setIfInBounds_toArray, List.set_cons_zero, List.set_cons_succ]
  refine stage_read (i := 7) (v := ?_) rfl (by kernel_rfl) (by kernel_rfl) (by kernel_rfl) (by kernel_rfl) (by kernel_rfl) (by kernel_rfl) (fun _ _ _ h => h) (Or.inl ⟨by kernel_rfl, ?_⟩) ?_
  rotate_left
  · (intro wS hwS; obtain ⟨hcS, hfS, hhS⟩ := bcell hwS; go_simp; try (first | (with_reducible rfl) | rw [if_pos (by omega)] | rw [if_neg (by omega)]))
  try simp only [Act.put, List.getElem_toArray, List.getElem_cons_succ, List.getElem_cons_zero, List.setIfInBounds_toArray, List.set_cons_zero, List.set_cons_succ]
  refine stage_read (i := 8) (v := ?_) rfl (by kernel_rfl) (by kernel_rfl) (by kernel_rfl) (by kernel_rfl) (by kernel_rfl) (by kernel_rfl) (fun _ _ _ h => h) (Or.inl ⟨by kernel_rfl, ?_⟩) ?_
  rotate_left
  · (intro wS hwS; obtain ⟨hcS, hfS, hhS⟩ := bcell hwS; go_simp; try (first | (with_reducible rfl) | rw [if_pos (by omega)] | rw [if_neg (by omega)]))
  try simp only [Act.put, List.getElem_toArray, List.getElem_cons_succ, List.getElem_cons_zero, List.setIfInBounds_toArray, List.set_cons_zero, List.set_cons_succ]
  first | refine wpAnyT_done (by kernel_rfl) ?_ _ | refine wpAny_done (by kernel_rfl) ?_ _
  go_wp2_with fail
  go_ret2
  exact ⟨k, hk, rfl, hb⟩
/-- how many in a block -/
def of17 (l : List Ct) (x : Nat) : Int := match l.find? (fun y => y.b == x) with | some y => y.n | none => 0
theorem of17_hit {l : List Ct} {x k : Nat} (ha : right17 l = true) (hk : k < l.length) (h : (l.getD k default).b = x) : of17 l x = (l.getD k default).n := by
  have hasc := asc_of_right ha
  unfold of17
  have : l.find? (fun y => y.b == x) = some l[k] := by
    rw [List.find?_eq_some_iff_getElem]
    refine ⟨by rw [getD_at hk] at h; simp [h], k, hk, rfl, ?_⟩
    intro j hj
    have hlt := hasc j k hj hk
    rw [getD_at (by omega), h] at hlt
    simp; omega
  rw [this, getD_at hk]
theorem of17_miss {l : List Ct} {x k : Nat} (hl : Low l x k) (h : hit17 l x k = false) (ha : right17 l = true) : of17 l x = 0 := by
  have hasc := asc_of_right ha
  unfold of17
  have : l.find? (fun y => y.b == x) = none := by
    rw [List.find?_eq_none]
    intro y hy
    obtain ⟨j, hj, rfl⟩ := List.getElem_of_mem hy
    have hd := of_decide_eq_false h
    simp only [beq_iff_eq]
    intro e
    rw [← getD_at hj] at e
    by_cases h1 : j < k
    · have := hl.2.1 j h1; omega
    · by_cases h2 : j = k
      · subst h2; exact hd ⟨hj, e⟩
      · have h3 := hl.2.2 k (Nat.le_refl _) (by omega)
        have h4 := hasc k j (by omega) hj
        omega
  rw [this]
set_option maxRecDepth 100000 in
set_option maxHeartbeats 4000000 in
theorem of17_any (A : Option Addr) (n c : Nat) (l : List Ct) (a x : Nat) (w : World) (hr : RdC w w.heap.size A n c l) (ha : right17 l = true) (hn : n ≤ 1000000) (hx : x = a - a % 64) (hal : a < 4294967296) :
    Calls Try.prog 41 #[.agg #[.slice A n c], .int .u32 (a : Int)] w fun r w' => r = .returned (.int .i64 (of17 l x)) ∧ Below w.heap.size w w' := by
  have hl := RdC.len hr
  obtain ⟨h0, hb⟩ := one_at w 62 [.slice A n c]
  have hfi := find17_any A n c l a x _ ((hr.below hb).more hb.size) ha hn hx hal
  have HR := Lib.hid hr
  have HFI := Lib.hid hfi
  clear hfi hr hx
  have hle := HR.out.le
  have hmax := HR.out.max
  unfold maxLen at hmax
  go_enter Try.func41, Try.ntmps41
  go_upto_region 1 with fail
  obtain ⟨x0, x1⟩ := at1 h0
  go_wp2_with fail
  refine HFI.out.mono ?_
  rintro r w2 ⟨k, hk, rfl, hb2⟩
  replace h0 := h0.below hb2
  replace hb := chain hb hb2
  clear hb2 x0 x1 HFI
  cases hq : hit17 l x k with
  | false =>
    have HV := Lib.hid (of17_miss hk hq ha)
    clear hq hk
    have HB := Lib.hid hb
    clear hb
    go_wp2_with fail
    go_ret
    exact ⟨by rw [HV.out]; rfl, HB.out⟩
  | true =>
    obtain ⟨hkl, hkx⟩ := of_decide_eq_true hq
    have hv := of17_hit ha hkl hkx
    obtain ⟨g, off, e, hg, he⟩ := HR.out.elem Ct.row_length (by omega) (k := k) hkl
    subst e
    have hbc := bcell (Below.mono (B := w.heap.size) hb (Nat.le_refl _))
    have e0 := (hbc.1 _ _ hg).trans (he 0 _ rfl)
    have e1 := (hbc.1 _ _ hg).trans (he 1 _ rfl)
    rw [Nat.add_zero] at e0
    rw [getD_at hkl] at hv
    generalize l[k] = y at *
    have hkn : (k : Int) < (n : Int) := by omega
    have HV := Lib.hid hv
    have HB := Lib.hid hb
    obtain ⟨x0, x1⟩ := at1 h0
    clear hq hk hkx he hbc hv hb h0
    go_wp2_with fail
    go_ret
    exact ⟨by rw [HV.out]; rfl, HB.out⟩
end Go.Proofs.Ytcepknjcgknidaa
