
/- Chapter 9: Apply. -/
import Derived.Test.YtcpkaolfafeojaaKvPlan
import Derived.Test.YtcpkaolfafeojaaRef03b
namespace Go.Proofs.Ytcpkaolfafeojaa
set_option linter.unusedVariables false
set_option linter.unusedSimpArgs false
open Go.RowKit
def Eff.it (e : Eff) : It := ⟨e.k, e.v, e.r⟩
/-- can an effect be done? -/
def apOk (rev : Int) (l : List It) (e : Eff) : Bool :=
  keyB e.k && decide (e.v.size ≤ 65536) && decide (rev ≠ 9223372036854775807) && decide (e.r = inc rev) && (!e.g || (decide (e.v.size = 0) && (findI l e.k).isSome))
def ApR (w w' : World) (g b N : Nat) (rev : Int) (l : List It) (e : Eff) (x : Ending) : Prop :=
  x = .returned (.int .i64 (if apOk rev l e then 0 else 1)) ∧ IsSt w' g b (N + 1) (if apOk rev l e then e.r else rev) (if apOk rev l e then applyL e.it e.g l else l) ∧ Mod (fun i _ => i = g ∨ i = b) w w'
theorem IsMp.more {w : World} {b N N' : Nat} {l : List It} (h : IsMp w b N l) (hN : N ≤ N') : IsMp w b N' l := by obtain ⟨D, h1, h2⟩ := h; exact ⟨D, h1.mono hN, h2⟩
theorem IsSt.more {w : World} {g b N N' : Nat} {rev : Int} {l : List It} (h : IsSt w g b N rev l) (hN : N ≤ N') : IsSt w g b N' rev l := ⟨h.at_, h.mp.more hN, h.ne⟩
theorem IsSt.drewN {w : World} {g b N : Nat} {rev : Int} {l : List It} (h : IsSt w g b N rev l) (n : Nat) : IsSt (w.drewN n) g b N rev l := h.mod ((Mod.refl (fun _ _ => False) w).drewN n) (by simp) (by simp)
theorem lt_max {N : Nat} (h : N < 1000000) : N < maxLen := by simp only [maxLen]; omega
set_option maxRecDepth 100000 in
set_option maxHeartbeats 4000000 in
theorem apply_any {g b N : Nat} {rev : Int} {l : List It} (k v : ByteArray) (r : Int) (eg : Bool) (w : World) (hst : IsSt w g b N rev l) (hN : N < 1000000) (hks : k.size ≤ maxLen) :
    Calls Try.prog 49 #[.pointer (some ⟨g, 0, none⟩), .agg #[.string k, .string v, .int .i64 r, .bool eg]] w fun x w' => ApR w w' g b N rev l ⟨k, v, r, eg⟩ x := by
  obtain ⟨h0, hb⟩ := one_at w 60 [.string k, .string v, .int .i64 r, .bool eg]
  have HST := Lib.hid (hst.step hb)
  have hlt0 := hst.lt
  have HKEY := Lib.hid (fun w => key_any k w)
  have HVAL := Lib.hid (fun w => val_any v w)
  clear hst
  go_enter Try.func49, Try.ntmps49
  go_upto_region 1 with fail
  generalize hW1 : World.alloc w _ = w1 at *
  have hsz : w.heap.size + 1 ≤ w1.heap.size := by rw [← hW1]; simp
  clear hW1
  obtain ⟨⟨x0, x1, x2, x3⟩, xf⟩ := at4 h0
  go_upto_region 3 with fail
  refine region_any (by kernel_rfl) ?_
  change wpAny _ _ _ _ _ _ _ (World.drew _)
  replace h0 := h0.drew
  replace hb := hb.drew
  have HST := Lib.hid HST.out.drew
  replace hsz : w.heap.size + 1 ≤ w1.drew.heap.size := hsz
  clear x0 x1 x2 x3 xf
  generalize World.drew _ = w2 at *
  have hlt2 := HST.out.lt
  obtain ⟨⟨x0, x1, x2, x3⟩, xf⟩ := at4 h0
  obtain ⟨⟨s0, s1⟩, sf⟩ := at2 HST.out.at_
  have l0 := h0.lt
  have l1 := HST.out.lt.1
  obtain ⟨y, hyy⟩ : ∃ y, getI l k = y := ⟨_, rfl⟩
  have hlk : ∀ w', Below w2.heap.size w2 w' → _ := fun w' hb => (HST.out.step hb).mp.look (k := k) hks
  rw [hyy] at hlk
  obtain ⟨yk, yv, yr⟩ := y
  obtain ⟨yo, hyo⟩ : ∃ yo, (findI l k).isSome = yo := ⟨_, rfl⟩
  rw [hyo] at hlk
  unfold It.val at hlk
  simp only at hlk
  refine stage 11 ?_
  refine stage_read (i := 0) (v := ?_) rfl (by kernel_rfl) (by kernel_rfl) (by kernel_rfl) (by kernel_rfl) (by kernel_rfl) (by kernel_rfl) (fun _ _ _ h => h) (Or.inl ⟨by kernel_rfl, ?_⟩) ?_
  rotate_left
  · (intro wS hwS; obtain ⟨hcS, hfS, hhS⟩ := bcell hwS; go_simp; try (first | (with_reducible rfl) | rw [if_pos (by omega)] | rw [if_neg (by omega)]))
  try simp only [Act.put, List.getElem_toArray, List.getElem_cons_succ, List.getElem_cons_zero, List.setIfInBounds_toArray, List.set_cons_zero, List.set_cons_succ]
  refine stage_read (i := 1) (v := ?_) rfl (by kernel_rfl) (by kernel_rfl) (by kernel_rfl) (by kernel_rfl) (by kernel_rfl) (by kernel_rfl) (fun _ _ _ h => h) (Or.inl ⟨by kernel_rfl, ?_⟩) ?_
  rotate_left
  · (intro wS hwS; obtain ⟨hcS, hfS, hhS⟩ := bcell hwS; go_simp; try (first | (with_reducible rfl) | rw [if_pos (by omega)] | rw [if_neg (by omega)]))
  try simp only [Act.put, List.getElem_toArray, List.getElem_cons_succ, List.getElem_cons_zero, List.setIfInBounds_toArray, List.set_cons_zero, List.set_cons_succ]
  refine stage_read (i := 2) (v := ?_) rfl (by kernel_rfl) (by kernel_rfl) (by kernel_rfl) (by kernel_rfl) (by kernel_rfl) (by kernel_rfl) (fun _ _ _ h => h) (Or.inl ⟨by kernel_rfl, ?_⟩) ?_
  rotate_left
  · (intro wS hwS; obtain ⟨hcS, hfS, hhS⟩ := bcell hwS; go_simp; try (first | (with_reducible rfl) | rw [if_pos (by omega)] | rw [if_neg (by omega)]))
  try simp only [Act.put, List.getElem_toArray, List.getElem_cons_succ, List.getElem_cons_zero, List.setIfInBounds_toArray, List.set_cons_zero, List.set_cons_succ]
  refine stage_read (i := 3) (v := ?_) rfl (by kernel_rfl) (by kernel_rfl) (by kernel_rfl) (by kernel_rfl) (by kernel_rfl) (by kernel_rfl) (fun _ _ _ h => h) (Or.inl ⟨by kernel_rfl, ?_⟩) ?_
  rotate_left
  · (intro wS hwS; obtain ⟨hcS, hfS, hhS⟩ := bcell hwS; go_simp; try (first | (with_reducible rfl) | rw [if_pos (by omega)] | rw [if_neg (by omega)]))
  try simp only [Act.put, List.getElem_toArray, List.getElem_cons_succ, List.getElem_cons_zero, List.setIfInBounds_toArray, List.set_cons_zero, List.set_cons_succ]
  refine stage_read (i := 4) (v := ?_) rfl (by kernel_rfl) (by kernel_rfl) (by kernel_rfl) (by kernel_rfl) (by kernel_rfl) (by kernel_rfl) (fun _ _ _ h => h) (Or.inl ⟨by kernel_rfl, ?_⟩) ?_
  rotate_left
  · (intro wS hwS; obtain ⟨hcS, hfS, hhS⟩ := bcell hwS; go_simp; try (first | (with_reducible rfl) | rw [if_pos (by omega)] | rw [if_neg (by omega)]))
  try simp only [Act.put, List.getElem_toArray, List.getElem_cons_succ, List.getElem_cons_zero, List.setIfInBounds_toArray, List.set_cons_zero, List.set_cons_succ]
  refine stage_read (i := 5) (v := ?_) rfl (by kernel_rfl) (by kernel_rfl) (by kernel_rfl) (by kernel_rfl) (by kernel_rfl) (by kernel_rfl) (fun _ _ _ h => h) (Or.inl ⟨by kernel_rfl, ?_⟩) ?_
  rotate_left
  · (intro wS hwS; obtain ⟨hcS, hfS, hhS⟩ := bcell hwS; go_simp; try (first | (with_reducible rfl) | rw [if_pos (by omega)] | rw [if_neg (by omega)]))
  try simp only [Act.put, List.getElem_toArray, List.getElem_cons_succ, List.getElem_cons_zero, List.setIfInBounds_toArray, List.set_cons_zero, List.set_cons_succ]
  refine stage_read (i := 6) (v := ?_) rfl (by kernel_rfl) (by kernel_rfl) (by kernel_rfl) (by kernel_rfl) (by kernel_rfl) (by kernel_rfl) (fun _ _ _ h => h) (Or.inl ⟨by kernel_rfl, ?_⟩) ?_
  rotate_left
  · (intro wS hwS; obtain ⟨hcS, hfS, hhS⟩ := bcell hwS; go_simp; try (first | (with_reducible rfl) | rw [if_pos (by omega)] | rw [if_neg (by omega)]))
  try simp only [Act.put, List.getElem_toArray, List.getElem_cons_succ, List.getElem_cons_zero, List.setIfInBounds_toArray, List.set_cons_zero, List.set_cons_succ]
  refine stage_read (i := 7) (v := ?_) rfl (by kernel_rfl) (by kernel_rfl) (by kernel_rfl) (by kernel_rfl) (by kernel_rfl) (by kernel_rfl) (fun _ _ _ h => h) (Or.inl ⟨by kernel_rfl, ?_⟩) ?_
  rotate_left
  · (intro wS hwS; obtain ⟨hcS, hfS, hhS⟩ := bcell hwS; go_simp; try (first | (with_reducible rfl) | rw [if_pos (by omega)] | rw [if_neg (by omega)]))
  try simp only [Act.put, List.getElem_toArray, List.getElem_cons_succ, List.getElem_cons_zero, List.setIfInBounds_toArray, List.set_cons_zero, List.set_cons_succ]
  refine stage_read (i := 8) (v := ?_) rfl (by kernel_rfl) (by kernel_rfl) (by kernel_rfl) (by kernel_rfl) (by kernel_rfl) (by kernel_rfl) (fun _ _ _ h => h) (Or.inl ⟨by kernel_rfl, ?_⟩) ?_
  rotate_left
  · (intro wS hwS; obtain ⟨hcS, hfS, hhS⟩ := bcell hwS; go_simp; try (first | (with_reducible rfl) | rw [if_pos (by omega)] | rw [if_neg (by omega)]))
  try simp only [Act.put, List.getElem_toArray, List.getElem_cons_succ, List.getElem_cons_zero, List.setIfInBounds_toArray, List.set_cons_zero, List.set_cons_succ]
  refine stage_pure (i := 9) (v := ?_) rfl (by kernel_rfl) (by kernel_rfl) (by kernel_rfl) (by kernel_rfl) (by kernel_rfl) (fun _ _ _ h => h) (Or.inl ⟨by kernel_rfl, ?_⟩) ?_
  rotate_left
  · (intro wS; go_simp; try (first | (with_reducible rfl) | rw [if_pos (by omega)] | rw [if_neg (by omega)]))
  try simp only [Act.put, List.getElem_toArray, List.getElem_cons_succ, List.getElem_cons_zero, List.setIfInBounds_toArray, List.set_cons_zero, List.set_cons_succ]
  refine stage_one 10 (by kernel_rfl) rfl (by kernel_rfl) (fun K hK => ?_)
  go_simp
  obtain ⟨hy3, hb3⟩ := one_at w2 97 [.string ⟨#[]⟩, .string ⟨#[]⟩, .int .i64 0]
  refine hK.out _ _ (hb3) ?_
  clear hK K
  try simp only [Act.put, List.getElem_toArray, List.getElem_cons_succ, List.getElem_cons_zero, List.setIfInBounds_toArray, List.set_cons_zero, List.set_cons_succ]
  replace h0 := h0.below hb3
  skip
  replace hb := chain hb hb3
  have HST := Lib.hid (HST.out.step hb3)
  have hs3 := hb3.size
  clear hb3 hlk x0 x1 x2 x3 xf s0 s1 sf l0 l1
  have hgy : w2.heap.size < (World.alloc w2 (.cells #[.string ⟨#[]⟩, .string ⟨#[]⟩, .int .i64 0] 97)).heap.size := by simp
  generalize World.alloc _ _ = w3 at *
  obtain ⟨⟨y0, y1, y2⟩, z0, z1, z2⟩ := at3 hy3

  refine stage_end (by kernel_rfl) rfl (fun K hK => ?_)
  go_simp
  refine hK.out _ _ ?_
  clear hK K
  try simp only [Act.put, List.getElem_toArray, List.getElem_cons_succ, List.getElem_cons_zero, List.setIfInBounds_toArray, List.set_cons_zero, List.set_cons_succ]
  first | refine stage 1000000 ?_ | skip
  refine stage_read (i := 12) (v := ?_) rfl (by kernel_rfl) (by kernel_rfl) (by kernel_rfl) (by kernel_rfl) (by kernel_rfl) (by kernel_rfl) (fun _ _ _ h => h) (Or.inl ⟨by kernel_rfl, ?_⟩) ?_
  rotate_left
  · (intro wS hwS; obtain ⟨hcS, hfS, hhS⟩ := bcell hwS; go_simp; try (first | (with_reducible rfl) | rw [if_pos (by omega)] | rw [if_neg (by omega)]))
  try simp only [Act.put, List.getElem_toArray, List.getElem_cons_succ, List.getElem_cons_zero, List.setIfInBounds_toArray, List.set_cons_zero, List.set_cons_succ]
  first | refine wpAnyT_done (by kernel_rfl) ?_ _ | refine wpAny_done (by kernel_rfl) ?_ _
  obtain ⟨ym, hG⟩ := At.many [(0, .string yk), (1, .string yv), (2, .int .i64 yr)] hy3
  dsimp only [setMany, setL, List.set] at ym hG
  have hh0 := h0.lt
  replace h0 := h0.only hG (by omega)
  skip
  have HST := Lib.hid (HST.out.only hG (by have := hlt2.1; omega) (by have := hlt2.2; omega))
  replace hb := hb.trans ((Below.refl w.heap.size w3).grown hG (by omega) (by intro i hi; injection hi with hi; omega))
  have hs4 := hG.size
  clear hy3 y0 y1 y2 z0 z1 z2 hG hh0
  generalize World.setCell _ _ _ = w4 at *
  generalize hgy : w2.heap.size = gy at *
  obtain ⟨⟨x0, x1, x2, x3⟩, xf⟩ := at4 h0
  obtain ⟨⟨s0, s1⟩, sf⟩ := at2 HST.out.at_
  have he := empty_iff v
  obtain ⟨ir, hir⟩ : ∃ ir, IntKind.i64.wrap (rev + 1) = ir := ⟨_, rfl⟩
  have hinc : inc rev = ir := hir
  clear ym
  cases hq : keyB k with
  | false =>
    rw [hq] at HKEY
    go_wp2_with fail
    go_quiet (first | (go_at_call 75; exact quiet_same (HKEY.out _)) | (go_at_call 76; exact quiet_same (HVAL.out _)))
    go_wp2_with fail
    go_ret
    have hok : apOk rev l ⟨k, v, r, eg⟩ = false := by simp [apOk, hq]
    refine ⟨by rw [hok]; rfl, ?_, ((Mod.refl _ w).below hb).drewN _⟩
    rw [hok]
    exact (HST.out.mod ((Mod.refl (fun _ _ => False) w4).drewN _) (by simp) (by simp)).more (by omega)
  | true =>
    rw [hq] at HKEY
    by_cases hv : v.size ≤ 65536
    · rw [decide_eq_true hv] at HVAL
      by_cases hm : rev = 9223372036854775807
      · have hmb : (rev == 9223372036854775807) = true := by rw [hm]; rfl
        go_wp2_with fail
        go_quiet (first | (go_at_call 75; exact quiet_same (HKEY.out _)) | (go_at_call 76; exact quiet_same (HVAL.out _)))
        go_wp2_with fail
        go_ret
        have hok : apOk rev l ⟨k, v, r, eg⟩ = false := by simp [apOk, hq, hv, hm]
        refine ⟨by rw [hok]; rfl, ?_, ((Mod.refl _ w).below hb).drewN _⟩
        rw [hok]
        exact (HST.out.mod ((Mod.refl (fun _ _ => False) w4).drewN _) (by simp) (by simp)).more (by omega)
      · have hmb : (rev == 9223372036854775807) = false := beq_eq_false_iff_ne.mpr hm
        by_cases hr : r = ir
        · subst hr
          have hrb : (r == r) = true := by simp
          have hrn : (r != r) = false := by simp
          cases eg with
          | false =>
            go_wp2_with fail
            go_quiet (first | (go_at_call 75; exact quiet_same (HKEY.out _)) | (go_at_call 76; exact quiet_same (HVAL.out _)))
            go_upto_region 6 with fail
            have hok : apOk rev l ⟨k, v, r, false⟩ = true := by simp [apOk, hq, hv, hm, hinc]
            have HOK := Lib.hid hok
            have HST := Lib.hid (HST.out.drewN nq)
            replace h0 := h0.drewN nq
            replace hb := below_drewN hb nq
            have hsw : w.heap.size + 1 ≤ (w4.drewN nq).heap.size := h0.lt
            clear x0 x1 x2 x3 xf s0 s1 sf hok
            generalize World.drewN _ _ = w5 at *
            obtain ⟨⟨x0, x1, x2, x3⟩, xf⟩ := at4 h0
            obtain ⟨⟨s0, s1⟩, sf0, sf1⟩ := at2 HST.out.at_
            go_upto_region 10 with fail
            have hS := grown_set w5 g 0 (.int .i64 r)
            have hst6 := HST.out.at_.set 0 (.int .i64 r)
            dsimp only [List.set] at hst6
            have hmp6 := HST.out.mp.kept hS (by intro e; injection e with e; exact HST.out.ne e)
            have hne := HST.out.ne
            replace h0 := h0.only hS (by omega)
            have hmod : Mod (fun i _ => i = g ∨ i = b) w (w5.setCell ⟨g, 0, none⟩ (.int .i64 r)) := ((Mod.refl _ w).below hb).grown hS (fun i o _ _ e => by injection e with e; exact .inl e.symm)
            have hsz6 : w.heap.size + 1 ≤ (w5.setCell ⟨g, 0, none⟩ (.int .i64 r)).heap.size := Nat.le_trans hsw hS.size
            clear x0 x1 x2 x3 xf s0 s1 sf0 sf1 hS hsw
            generalize World.setCell _ _ _ = w6 at *
            refine region_any (by kernel_rfl) ?_
            change wpAny _ _ _ _ _ _ _ (World.drew _)
            replace h0 := h0.drew
            replace hst6 := hst6.drew
            replace hmp6 := hmp6.drew
            replace hmod := hmod.drew
            replace hsz6 : w.heap.size + 1 ≤ w6.drew.heap.size := hsz6
            generalize World.drew _ = w7 at *
            obtain ⟨⟨x0, x1, x2, x3⟩, xf⟩ := at4 h0
            obtain ⟨⟨s0, s1⟩, sf0, sf1⟩ := at2 hst6
            have l0 := h0.lt
            have l1 := hst6.lt
            obtain ⟨w8, hrun, hmp8, hg8⟩ := hmp6.store ⟨k, v, r⟩ hks (lt_max (by omega))
            try unfold It.val at hrun
            dsimp only at hrun
            have HR := Lib.hid hrun
            clear hrun
            refine stage 13 ?_
            refine stage_read (i := 0) (v := ?_) rfl (by kernel_rfl) (by kernel_rfl) (by kernel_rfl) (by kernel_rfl) (by kernel_rfl) (by kernel_rfl) (fun _ _ _ h => h) (Or.inl ⟨by kernel_rfl, ?_⟩) ?_
            rotate_left
            · (intro wS hwS; obtain ⟨hcS, hfS, hhS⟩ := bcell hwS; go_simp; try (first | (with_reducible rfl) | rw [if_pos (by omega)] | rw [if_neg (by omega)]))
            try simp only [Act.put, List.getElem_toArray, List.getElem_cons_succ, List.getElem_cons_zero, List.setIfInBounds_toArray, List.set_cons_zero, List.set_cons_succ]
            refine stage_read (i := 1) (v := ?_) rfl (by kernel_rfl) (by kernel_rfl) (by kernel_rfl) (by kernel_rfl) (by kernel_rfl) (by kernel_rfl) (fun _ _ _ h => h) (Or.inl ⟨by kernel_rfl, ?_⟩) ?_
            rotate_left
            · (intro wS hwS; obtain ⟨hcS, hfS, hhS⟩ := bcell hwS; go_simp; try (first | (with_reducible rfl) | rw [if_pos (by omega)] | rw [if_neg (by omega)]))
            try simp only [Act.put, List.getElem_toArray, List.getElem_cons_succ, List.getElem_cons_zero, List.setIfInBounds_toArray, List.set_cons_zero, List.set_cons_succ]
            refine stage_read (i := 2) (v := ?_) rfl (by kernel_rfl) (by kernel_rfl) (by kernel_rfl) (by kernel_rfl) (by kernel_rfl) (by kernel_rfl) (fun _ _ _ h => h) (Or.inl ⟨by kernel_rfl, ?_⟩) ?_
            rotate_left
            · (intro wS hwS; obtain ⟨hcS, hfS, hhS⟩ := bcell hwS; go_simp; try (first | (with_reducible rfl) | rw [if_pos (by omega)] | rw [if_neg (by omega)]))
            try simp only [Act.put, List.getElem_toArray, List.getElem_cons_succ, List.getElem_cons_zero, List.setIfInBounds_toArray, List.set_cons_zero, List.set_cons_succ]
            refine stage_read (i := 3) (v := ?_) rfl (by kernel_rfl) (by kernel_rfl) (by kernel_rfl) (by kernel_rfl) (by kernel_rfl) (by kernel_rfl) (fun _ _ _ h => h) (Or.inl ⟨by kernel_rfl, ?_⟩) ?_
            rotate_left
            · (intro wS hwS; obtain ⟨hcS, hfS, hhS⟩ := bcell hwS; go_simp; try (first | (with_reducible rfl) | rw [if_pos (by omega)] | rw [if_neg (by omega)]))
            try simp only [Act.put, List.getElem_toArray, List.getElem_cons_succ, List.getElem_cons_zero, List.setIfInBounds_toArray, List.set_cons_zero, List.set_cons_succ]
            refine stage_read (i := 4) (v := ?_) rfl (by kernel_rfl) (by kernel_rfl) (by kernel_rfl) (by kernel_rfl) (by kernel_rfl) (by kernel_rfl) (fun _ _ _ h => h) (Or.inl ⟨by kernel_rfl, ?_⟩) ?_
            rotate_left
            · (intro wS hwS; obtain ⟨hcS, hfS, hhS⟩ := bcell hwS; go_simp; try (first | (with_reducible rfl) | rw [if_pos (by omega)] | rw [if_neg (by omega)]))
            try simp only [Act.put, List.getElem_toArray, List.getElem_cons_succ, List.getElem_cons_zero, List.setIfInBounds_toArray, List.set_cons_zero, List.set_cons_succ]
            refine stage_read (i := 5) (v := ?_) rfl (by kernel_rfl) (by kernel_rfl) (by kernel_rfl) (by kernel_rfl) (by kernel_rfl) (by kernel_rfl) (fun _ _ _ h => h) (Or.inl ⟨by kernel_rfl, ?_⟩) ?_
            rotate_left
            · (intro wS hwS; obtain ⟨hcS, hfS, hhS⟩ := bcell hwS; go_simp; try (first | (with_reducible rfl) | rw [if_pos (by omega)] | rw [if_neg (by omega)]))
            try simp only [Act.put, List.getElem_toArray, List.getElem_cons_succ, List.getElem_cons_zero, List.setIfInBounds_toArray, List.set_cons_zero, List.set_cons_succ]
            refine stage_read (i := 6) (v := ?_) rfl (by kernel_rfl) (by kernel_rfl) (by kernel_rfl) (by kernel_rfl) (by kernel_rfl) (by kernel_rfl) (fun _ _ _ h => h) (Or.inl ⟨by kernel_rfl, ?_⟩) ?_
            rotate_left
            · (intro wS hwS; obtain ⟨hcS, hfS, hhS⟩ := bcell hwS; go_simp; try (first | (with_reducible rfl) | rw [if_pos (by omega)] | rw [if_neg (by omega)]))
            try simp only [Act.put, List.getElem_toArray, List.getElem_cons_succ, List.getElem_cons_zero, List.setIfInBounds_toArray, List.set_cons_zero, List.set_cons_succ]
            refine stage_read (i := 7) (v := ?_) rfl (by kernel_rfl) (by kernel_rfl) (by kernel_rfl) (by kernel_rfl) (by kernel_rfl) (by kernel_rfl) (fun _ _ _ h => h) (Or.inl ⟨by kernel_rfl, ?_⟩) ?_
            rotate_left
            · (intro wS hwS; obtain ⟨hcS, hfS, hhS⟩ := bcell hwS; go_simp; try (first | (with_reducible rfl) | rw [if_pos (by omega)] | rw [if_neg (by omega)]))
            try simp only [Act.put, List.getElem_toArray, List.getElem_cons_succ, List.getElem_cons_zero, List.setIfInBounds_toArray, List.set_cons_zero, List.set_cons_succ]
            refine stage_read (i := 8) (v := ?_) rfl (by kernel_rfl) (by kernel_rfl) (by kernel_rfl) (by kernel_rfl) (by kernel_rfl) (by kernel_rfl) (fun _ _ _ h => h) (Or.inl ⟨by kernel_rfl, ?_⟩) ?_
            rotate_left
            · (intro wS hwS; obtain ⟨hcS, hfS, hhS⟩ := bcell hwS; go_simp; try (first | (with_reducible rfl) | rw [if_pos (by omega)] | rw [if_neg (by omega)]))
            try simp only [Act.put, List.getElem_toArray, List.getElem_cons_succ, List.getElem_cons_zero, List.setIfInBounds_toArray, List.set_cons_zero, List.set_cons_succ]
            refine stage_read (i := 9) (v := ?_) rfl (by kernel_rfl) (by kernel_rfl) (by kernel_rfl) (by kernel_rfl) (by kernel_rfl) (by kernel_rfl) (fun _ _ _ h => h) (Or.inl ⟨by kernel_rfl, ?_⟩) ?_
            rotate_left
            · (intro wS hwS; obtain ⟨hcS, hfS, hhS⟩ := bcell hwS; go_simp; try (first | (with_reducible rfl) | rw [if_pos (by omega)] | rw [if_neg (by omega)]))
            try simp only [Act.put, List.getElem_toArray, List.getElem_cons_succ, List.getElem_cons_zero, List.setIfInBounds_toArray, List.set_cons_zero, List.set_cons_succ]
            refine stage_read (i := 10) (v := ?_) rfl (by kernel_rfl) (by kernel_rfl) (by kernel_rfl) (by kernel_rfl) (by kernel_rfl) (by kernel_rfl) (fun _ _ _ h => h) (Or.inl ⟨by kernel_rfl, ?_⟩) ?_
            rotate_left
            · (intro wS hwS; obtain ⟨hcS, hfS, hhS⟩ := bcell hwS; go_simp; try (first | (with_reducible rfl) | rw [if_pos (by omega)] | rw [if_neg (by omega)]))
            try simp only [Act.put, List.getElem_toArray, List.getElem_cons_succ, List.getElem_cons_zero, List.setIfInBounds_toArray, List.set_cons_zero, List.set_cons_succ]
            refine stage_read (i := 11) (v := ?_) rfl (by kernel_rfl) (by kernel_rfl) (by kernel_rfl) (by kernel_rfl) (by kernel_rfl) (by kernel_rfl) (fun _ _ _ h => h) (Or.inl ⟨by kernel_rfl, ?_⟩) ?_
            rotate_left
            · (intro wS hwS; obtain ⟨hcS, hfS, hhS⟩ := bcell hwS; go_simp; try (first | (with_reducible rfl) | rw [if_pos (by omega)] | rw [if_neg (by omega)]))
            try simp only [Act.put, List.getElem_toArray, List.getElem_cons_succ, List.getElem_cons_zero, List.setIfInBounds_toArray, List.set_cons_zero, List.set_cons_succ]
            refine stage_read (i := 12) (v := ?_) rfl (by kernel_rfl) (by kernel_rfl) (by kernel_rfl) (by kernel_rfl) (by kernel_rfl) (by kernel_rfl) (fun _ _ _ h => h) (Or.inl ⟨by kernel_rfl, ?_⟩) ?_
            rotate_left
            · (intro wS hwS; obtain ⟨hcS, hfS, hhS⟩ := bcell hwS; go_simp; try (first | (with_reducible rfl) | rw [if_pos (by omega)] | rw [if_neg (by omega)]))
            try simp only [Act.put, List.getElem_toArray, List.getElem_cons_succ, List.getElem_cons_zero, List.setIfInBounds_toArray, List.set_cons_zero, List.set_cons_succ]
            have hrun := HR.out
            refine stage_end (by kernel_rfl) rfl (fun K hK => ?_)
            go_simp
            refine hK.out _ _ ?_
            clear hK K
            try simp only [Act.put, List.getElem_toArray, List.getElem_cons_succ, List.getElem_cons_zero, List.setIfInBounds_toArray, List.set_cons_zero, List.set_cons_succ]
            first | refine wpAnyT_done (by kernel_rfl) ?_ _ | refine wpAny_done (by kernel_rfl) ?_ _
            clear x0 x1 x2 x3 xf s0 s1 sf0 sf1 hrun l0 l1
            have hst8 := hst6.only hg8 hne
            have hmod8 := hmod.grown hg8 (fun i o _ _ e => by injection e with e; exact .inr e.symm)
            go_wp2_with fail
            go_ret
            refine ⟨by rw [HOK.out]; rfl, ?_, hmod8⟩
            rw [HOK.out, if_pos rfl, if_pos rfl]
            exact ⟨hst8, hmp8, hne⟩
          | true =>
            by_cases hve : 1 ≤ v.size
            · rw [decide_eq_true hve] at he
              have hvn : ¬ v.size = 0 := by omega
              go_wp2_with fail
              go_quiet (first | (go_at_call 75; exact quiet_same (HKEY.out _)) | (go_at_call 76; exact quiet_same (HVAL.out _)))
              go_wp2_with fail
              go_ret
              have hok : apOk rev l ⟨k, v, r, true⟩ = false := by simp [apOk, hq, hv, hm, hinc, hve, hvn]
              refine ⟨by rw [hok]; rfl, ?_, ((Mod.refl _ w).below hb).drewN _⟩
              rw [hok]
              exact (HST.out.mod ((Mod.refl (fun _ _ => False) w4).drewN _) (by simp) (by simp)).more (by omega)
            · rw [decide_eq_false hve] at he
              have hvn : v.size = 0 := by omega
              cases yo with
              | false =>
                go_wp2_with fail
                go_quiet (first | (go_at_call 75; exact quiet_same (HKEY.out _)) | (go_at_call 76; exact quiet_same (HVAL.out _)))
                go_wp2_with fail
                go_ret
                have hok : apOk rev l ⟨k, v, r, true⟩ = false := by simp [apOk, hq, hv, hm, hinc, hve, hvn, hyo]
                refine ⟨by rw [hok]; rfl, ?_, ((Mod.refl _ w).below hb).drewN _⟩
                rw [hok]
                exact (HST.out.mod ((Mod.refl (fun _ _ => False) w4).drewN _) (by simp) (by simp)).more (by omega)
              | true =>
                go_wp2_with fail
                go_quiet (first | (go_at_call 75; exact quiet_same (HKEY.out _)) | (go_at_call 76; exact quiet_same (HVAL.out _)))
                go_upto_region 6 with fail
                have hok : apOk rev l ⟨k, v, r, true⟩ = true := by simp [apOk, hq, hv, hm, hinc, hve, hvn, hyo]
                have HOK := Lib.hid hok
                have HST := Lib.hid (HST.out.drewN nq)
                replace h0 := h0.drewN nq
                replace hb := below_drewN hb nq
                have hsw : w.heap.size + 1 ≤ (w4.drewN nq).heap.size := h0.lt
                clear x0 x1 x2 x3 xf s0 s1 sf hok
                generalize World.drewN _ _ = w5 at *
                obtain ⟨⟨x0, x1, x2, x3⟩, xf⟩ := at4 h0
                obtain ⟨⟨s0, s1⟩, sf0, sf1⟩ := at2 HST.out.at_
                go_upto_region 8 with fail
                have hS := grown_set w5 g 0 (.int .i64 r)
                have hst6 := HST.out.at_.set 0 (.int .i64 r)
                dsimp only [List.set] at hst6
                have hmp6 := HST.out.mp.kept hS (by intro e; injection e with e; exact HST.out.ne e)
                have hne := HST.out.ne
                replace h0 := h0.only hS (by omega)
                have hmod : Mod (fun i _ => i = g ∨ i = b) w (w5.setCell ⟨g, 0, none⟩ (.int .i64 r)) := ((Mod.refl _ w).below hb).grown hS (fun i o _ _ e => by injection e with e; exact .inl e.symm)
                have hsz6 : w.heap.size + 1 ≤ (w5.setCell ⟨g, 0, none⟩ (.int .i64 r)).heap.size := Nat.le_trans hsw hS.size
                clear x0 x1 x2 x3 xf s0 s1 sf0 sf1 hS hsw
                generalize World.setCell _ _ _ = w6 at *
                refine region_any (by kernel_rfl) ?_
                change wpAny _ _ _ _ _ _ _ (World.drew _)
                replace h0 := h0.drew
                replace hst6 := hst6.drew
                replace hmp6 := hmp6.drew
                replace hmod := hmod.drew
                replace hsz6 : w.heap.size + 1 ≤ w6.drew.heap.size := hsz6
                generalize World.drew _ = w7 at *
                obtain ⟨⟨x0, x1, x2, x3⟩, xf⟩ := at4 h0
                obtain ⟨⟨s0, s1⟩, sf0, sf1⟩ := at2 hst6
                have l0 := h0.lt
                have l1 := hst6.lt
                obtain ⟨w8, hrun, hmp8, hg8⟩ := hmp6.drop ⟨k, v, r⟩ hks 0
                try unfold It.val at hrun
                dsimp only at hrun
                have HR := Lib.hid hrun
                clear hrun
                refine stage 6 ?_
                refine stage_read (i := 0) (v := ?_) rfl (by kernel_rfl) (by kernel_rfl) (by kernel_rfl) (by kernel_rfl) (by kernel_rfl) (by kernel_rfl) (fun _ _ _ h => h) (Or.inl ⟨by kernel_rfl, ?_⟩) ?_
                rotate_left
                · (intro wS hwS; obtain ⟨hcS, hfS, hhS⟩ := bcell hwS; go_simp; try (first | (with_reducible rfl) | rw [if_pos (by omega)] | rw [if_neg (by omega)]))
                try simp only [Act.put, List.getElem_toArray, List.getElem_cons_succ, List.getElem_cons_zero, List.setIfInBounds_toArray, List.set_cons_zero, List.set_cons_succ]
                refine stage_read (i := 1) (v := ?_) rfl (by kernel_rfl) (by kernel_rfl) (by kernel_rfl) (by kernel_rfl) (by kernel_rfl) (by kernel_rfl) (fun _ _ _ h => h) (Or.inl ⟨by kernel_rfl, ?_⟩) ?_
                rotate_left
                · (intro wS hwS; obtain ⟨hcS, hfS, hhS⟩ := bcell hwS; go_simp; try (first | (with_reducible rfl) | rw [if_pos (by omega)] | rw [if_neg (by omega)]))
                try simp only [Act.put, List.getElem_toArray, List.getElem_cons_succ, List.getElem_cons_zero, List.setIfInBounds_toArray, List.set_cons_zero, List.set_cons_succ]
                refine stage_read (i := 2) (v := ?_) rfl (by kernel_rfl) (by kernel_rfl) (by kernel_rfl) (by kernel_rfl) (by kernel_rfl) (by kernel_rfl) (fun _ _ _ h => h) (Or.inl ⟨by kernel_rfl, ?_⟩) ?_
                rotate_left
                · (intro wS hwS; obtain ⟨hcS, hfS, hhS⟩ := bcell hwS; go_simp; try (first | (with_reducible rfl) | rw [if_pos (by omega)] | rw [if_neg (by omega)]))
                try simp only [Act.put, List.getElem_toArray, List.getElem_cons_succ, List.getElem_cons_zero, List.setIfInBounds_toArray, List.set_cons_zero, List.set_cons_succ]
                refine stage_read (i := 3) (v := ?_) rfl (by kernel_rfl) (by kernel_rfl) (by kernel_rfl) (by kernel_rfl) (by kernel_rfl) (by kernel_rfl) (fun _ _ _ h => h) (Or.inl ⟨by kernel_rfl, ?_⟩) ?_
                rotate_left
                · (intro wS hwS; obtain ⟨hcS, hfS, hhS⟩ := bcell hwS; go_simp; try (first | (with_reducible rfl) | rw [if_pos (by omega)] | rw [if_neg (by omega)]))
                try simp only [Act.put, List.getElem_toArray, List.getElem_cons_succ, List.getElem_cons_zero, List.setIfInBounds_toArray, List.set_cons_zero, List.set_cons_succ]
                refine stage_read (i := 4) (v := ?_) rfl (by kernel_rfl) (by kernel_rfl) (by kernel_rfl) (by kernel_rfl) (by kernel_rfl) (by kernel_rfl) (fun _ _ _ h => h) (Or.inl ⟨by kernel_rfl, ?_⟩) ?_
                rotate_left
                · (intro wS hwS; obtain ⟨hcS, hfS, hhS⟩ := bcell hwS; go_simp; try (first | (with_reducible rfl) | rw [if_pos (by omega)] | rw [if_neg (by omega)]))
                try simp only [Act.put, List.getElem_toArray, List.getElem_cons_succ, List.getElem_cons_zero, List.setIfInBounds_toArray, List.set_cons_zero, List.set_cons_succ]
                refine stage_read (i := 5) (v := ?_) rfl (by kernel_rfl) (by kernel_rfl) (by kernel_rfl) (by kernel_rfl) (by kernel_rfl) (by kernel_rfl) (fun _ _ _ h => h) (Or.inl ⟨by kernel_rfl, ?_⟩) ?_
                rotate_left
                · (intro wS hwS; obtain ⟨hcS, hfS, hhS⟩ := bcell hwS; go_simp; try (first | (with_reducible rfl) | rw [if_pos (by omega)] | rw [if_neg (by omega)]))
                try simp only [Act.put, List.getElem_toArray, List.getElem_cons_succ, List.getElem_cons_zero, List.setIfInBounds_toArray, List.set_cons_zero, List.set_cons_succ]
                have hrun := HR.out
                refine stage_end (by kernel_rfl) rfl (fun K hK => ?_)
                go_simp
                refine hK.out _ _ ?_
                clear hK K
                try simp only [Act.put, List.getElem_toArray, List.getElem_cons_succ, List.getElem_cons_zero, List.setIfInBounds_toArray, List.set_cons_zero, List.set_cons_succ]
                first | refine wpAnyT_done (by kernel_rfl) ?_ _ | refine wpAny_done (by kernel_rfl) ?_ _
                clear x0 x1 x2 x3 xf s0 s1 sf0 sf1 hrun l0 l1
                have hst8 := hst6.only hg8 hne
                have hmod8 := hmod.grown hg8 (fun i o _ _ e => by injection e with e; exact .inr e.symm)
                go_wp2_with fail
                go_ret
                refine ⟨by rw [HOK.out]; rfl, ?_, hmod8⟩
                rw [HOK.out, if_pos rfl, if_pos rfl]
                exact ⟨hst8, hmp8.more (by omega), hne⟩
        · have hrb : (r == ir) = false := beq_eq_false_iff_ne.mpr hr
          have hrn : (r != ir) = true := by simp [hr]
          go_wp2_with fail
          go_quiet (first | (go_at_call 75; exact quiet_same (HKEY.out _)) | (go_at_call 76; exact quiet_same (HVAL.out _)))
          go_wp2_with fail
          go_ret
          have hok : apOk rev l ⟨k, v, r, eg⟩ = false := by simp [apOk, hq, hv, hm, hr, hinc]
          refine ⟨by rw [hok]; rfl, ?_, ((Mod.refl _ w).below hb).drewN _⟩
          rw [hok]
          exact (HST.out.mod ((Mod.refl (fun _ _ => False) w4).drewN _) (by simp) (by simp)).more (by omega)
    · rw [decide_eq_false hv] at HVAL
      go_wp2_with fail
      go_quiet (first | (go_at_call 75; exact quiet_same (HKEY.out _)) | (go_at_call 76; exact quiet_same (HVAL.out _)))
      go_wp2_with fail
      go_ret
      have hok : apOk rev l ⟨k, v, r, eg⟩ = false := by simp [apOk, hq, hv]
      refine ⟨by rw [hok]; rfl, ?_, ((Mod.refl _ w).below hb).drewN _⟩
      rw [hok]
      exact (HST.out.mod ((Mod.refl (fun _ _ => False) w4).drewN _) (by simp) (by simp)).more (by omega)
end Go.Proofs.Ytcpkaolfafeojaa
namespace Go.Proofs.Ytcpkaolfafeojaa
set_option linter.unusedVariables false
set_option linter.unusedSimpArgs false
open Go.RowKit
/-- the state behind what is asked -/
def doSt (rev : Int) (l : List It) (o : Ask) : Int × List It :=
  if (planP rev l o).wr && apOk rev l (planP rev l o).eff then ((planP rev l o).eff.r, applyL (planP rev l o).eff.it (planP rev l o).eff.g l) else (rev, l)
def DoR (w w' : World) (g b N : Nat) (rev : Int) (l : List It) (o : Ask) (x : Ending) : Prop :=
  ∃ A n c, x = .returned (.agg #[.int .i64 (planP rev l o).told.code, .int .i64 (planP rev l o).told.rev, .string (planP rev l o).told.val, .slice A n c]) ∧ OwnI w' w.heap.size A n c (planP rev l o).told.items ∧
    IsSt w' g b (N + 1) (doSt rev l o).1 (doSt rev l o).2 ∧ Mod (fun i _ => i = g ∨ i = b) w w' ∧ ((planP rev l o).wr = false → Below w.heap.size w w')
set_option maxRecDepth 100000 in
set_option maxHeartbeats 4000000 in
theorem do_any {g b N : Nat} {rev : Int} {l : List It} (o : Ask) (w : World) (hst : IsSt w g b N rev l) (hN : N < 1000000) (hk : ∀ x ∈ l, x.k.size ≤ 1000) (hks : o.key.size ≤ maxLen) (his : o.iff.size ≤ maxLen) (hek : (planP rev l o).eff.k.size ≤ maxLen) :
    Calls Try.prog 38 #[.pointer (some ⟨g, 0, none⟩), o.v] w fun x w' => DoR w w' g b N rev l o x := by
  have hds : doSt rev l o = doSt rev l o := rfl
  conv at hds => rhs; unfold doSt
  obtain ⟨p, hp⟩ : ∃ p, planP rev l o = p := ⟨_, rfl⟩
  unfold DoR
  have hlt0 := hst.lt
  have HPL := fun w1 (h : IsSt w1 g b N rev l) => plan_any o w1 h (by omega) hk hks his
  rw [hp] at HPL hds hek ⊢
  obtain ⟨D, hD⟩ : ∃ D, doSt rev l o = D := ⟨_, rfl⟩
  rw [hD] at hds ⊢
  clear hp hD
  obtain ⟨⟨pc, pr, pv, pi⟩, ⟨ek, ev, er, eg⟩, wr⟩ := p
  unfold PlanR at HPL
  simp only at HPL hds hek ⊢
  have HPL := Lib.hid HPL
  have HDS := Lib.hid hds
  clear hds hk hks his
  obtain ⟨ki, k, v, r, i, j⟩ := o
  unfold Ask.v Ask.cells at *
  simp only at *
  obtain ⟨h0, h1, hb⟩ := two_at w 37 [.int .i64 ki, .string k, .string v, .int .i64 r, .string i, .int .i64 j] 49 [.int .i64 0, .int .i64 0, .string ⟨#[]⟩, .slice none 0 0]
  have HST := Lib.hid (hst.step hb)
  clear hst
  go_enter Try.func38, Try.ntmps38
  go_upto_region 1 with fail
  generalize hW1 : World.alloc (World.alloc w _) _ = w1 at *
  have hsz : w.heap.size + 2 ≤ w1.heap.size := by rw [← hW1]; simp
  clear hW1
  obtain ⟨⟨x0, x1, x2, x3, x4, x5⟩, xf⟩ := at6 h0
  go_upto_region 2 with (((with_reducible refine calls_id ?_); refine (HPL.out w1 HST.out).mono ?_; rintro y w2 ⟨A2, n2, c2, rfl, hown, hb2⟩))
  obtain ⟨h5, h6, hb3⟩ := two_at w2 49 [.int .i64 pc, .int .i64 pr, .string pv, .slice A2 n2 c2] 60 [.string ek, .string ev, .int .i64 er, .bool eg]
  have hown := own_lower (own_below (show w2.ownsRow _ _ _ _ _ _ from hown) hb3) hsz
  have HST := Lib.hid ((HST.out.step hb2).step hb3)
  replace h1 := (h1.below hb2).below hb3
  replace hb := chain (chain hb hb2) hb3
  have hs2 := hb2.size
  clear hb2 hb3 x0 x1 x2 x3 x4 x5 xf h0
  generalize hg5 : w2.heap.size = g5 at *
  generalize World.alloc (World.alloc _ _) _ = w3 at *
  clear hg5
  have hmod : Mod (fun i _ => i = g ∨ i = b) w w3 := (Mod.refl _ w).below hb
  cases wr with
  | false =>
    have hst4 := HST.out.more (N' := N + 1) (by omega)
    have hds : D = (rev, l) := by rw [HDS.out]; simp
    have HBQ := Lib.hid (show false = false → Below w.heap.size w w3 from fun _ => hb)
    obtain ⟨⟨y0, y1, y2, y3⟩, yf⟩ := at4 h5
    obtain ⟨⟨u0, u1, u2, u3⟩, v0, v1, v2, v3⟩ := at4 h1
    have HM := Lib.hid hst4
    have HH1 := Lib.hid h1
    have HMOD := Lib.hid hmod
    have HOWN := Lib.hid hown
    have HDE := Lib.hid hds
    clear hst4 h1 hmod hown h5 hds
    go_wp2_with fail
    obtain ⟨hm1, hG1⟩ := At.many [(0, .int .i64 pc), (1, .int .i64 pr), (2, .string pv), (3, .slice A2 n2 c2)] HH1.out
    have hst5 := HM.out.only hG1 (by omega) (by omega)
    have hmod5 := HMOD.out.grown hG1 (fun i o hi _ e => by injection e with e; omega)
    have hown5 := own_mod HOWN.out (grown_mod hG1) (fun i o _ hi _ e => by injection e with e; omega)
    have hbq5 := fun h => (HBQ.out h).trans ((Below.refl w.heap.size w3).grown hG1 (HBQ.out h).size (by intro i hi; injection hi with hi; omega))
    dsimp only [setMany, setL, List.set] at hm1 hst5 hmod5 hown5 hbq5
    clear y0 y1 y2 y3 yf u0 u1 u2 u3 v0 v1 v2 v3 hG1
    generalize World.setCell _ _ _ = w5 at *
    obtain ⟨⟨u0, u1, u2, u3⟩, _⟩ := at4 hm1
    exact bodyPost_ret (v := .agg #[.int .i64 pc, .int .i64 pr, .string pv, .slice A2 n2 c2]) (by simp [results, Try.results38, go_sem, u0, u1, u2, u3]) rfl ⟨A2, n2, c2, rfl, own_lower hown5 (by omega), by rw [HDE.out]; exact hst5, hmod5, by first | exact hbq5 | exact hbq5 trivial | exact hbq5 rfl | trivial⟩
  | true =>
    obtain ⟨⟨e0, e1, e2, e3⟩, ef⟩ := at4 h6
    have hap := apply_any ek ev er eg w3 HST.out hN hek
    unfold ApR at hap
    generalize (if apOk rev l ⟨ek, ev, er, eg⟩ = true then (0 : Int) else 1) = ce at hap
    go_upto_region 4 with (((with_reducible refine calls_id ?_); refine hap.mono ?_; rintro y w4 ⟨rfl, hst4, hm4⟩))
    have hds : D = (if apOk rev l ⟨ek, ev, er, eg⟩ then er else rev, if apOk rev l ⟨ek, ev, er, eg⟩ then applyL (Eff.it ⟨ek, ev, er, eg⟩) eg l else l) := by
      rw [HDS.out]; cases apOk rev l ⟨ek, ev, er, eg⟩ <;> simp
    replace hown := own_mod hown hm4 (fun i o _ hi _ e => by rcases e with e | e <;> omega)
    replace h1 := hm4.at h1 (by omega)
    replace h5 := hm4.at h5 (by omega)
    replace hmod := hmod.trans hm4
    clear e0 e1 e2 e3 ef h6 hap hm4 hb
    generalize w4 = w3 at *
    have HBQ := Lib.hid (show true = false → Below w.heap.size w w3 from fun h => by cases h)
    obtain ⟨⟨y0, y1, y2, y3⟩, yf⟩ := at4 h5
    obtain ⟨⟨u0, u1, u2, u3⟩, v0, v1, v2, v3⟩ := at4 h1
    have HM := Lib.hid hst4
    have HH1 := Lib.hid h1
    have HMOD := Lib.hid hmod
    have HOWN := Lib.hid hown
    have HDE := Lib.hid hds
    clear hst4 h1 hmod hown h5 hds
    go_wp2_with fail
    obtain ⟨hm1, hG1⟩ := At.many [(0, .int .i64 pc), (1, .int .i64 pr), (2, .string pv), (3, .slice A2 n2 c2)] HH1.out
    have hst5 := HM.out.only hG1 (by omega) (by omega)
    have hmod5 := HMOD.out.grown hG1 (fun i o hi _ e => by injection e with e; omega)
    have hown5 := own_mod HOWN.out (grown_mod hG1) (fun i o _ hi _ e => by injection e with e; omega)
    have hbq5 := fun h => (HBQ.out h).trans ((Below.refl w.heap.size w3).grown hG1 (HBQ.out h).size (by intro i hi; injection hi with hi; omega))
    dsimp only [setMany, setL, List.set] at hm1 hst5 hmod5 hown5 hbq5
    clear y0 y1 y2 y3 yf u0 u1 u2 u3 v0 v1 v2 v3 hG1
    generalize World.setCell _ _ _ = w5 at *
    obtain ⟨⟨u0, u1, u2, u3⟩, _⟩ := at4 hm1
    exact bodyPost_ret (v := .agg #[.int .i64 pc, .int .i64 pr, .string pv, .slice A2 n2 c2]) (by simp [results, Try.results38, go_sem, u0, u1, u2, u3]) rfl ⟨A2, n2, c2, rfl, own_lower hown5 (by omega), by rw [HDE.out]; exact hst5, hmod5, by first | exact hbq5 | exact hbq5 trivial | exact hbq5 rfl | trivial⟩
end Go.Proofs.Ytcpkaolfafeojaa
