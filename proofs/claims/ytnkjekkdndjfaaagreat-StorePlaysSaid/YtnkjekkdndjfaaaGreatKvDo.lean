
/- Chapter 9: Apply. -/
import Derived.Test.YtnkjekkdndjfaaaGreatKvPlan
import Derived.Test.YtnkjekkdndjfaaaGreatPkA
namespace Go.Proofs.YtnkjekkdndjfaaaGreat
set_option linter.unusedVariables false
set_option linter.unusedSimpArgs false
open Go.RowKit
def Eff.it (e : Eff) : It := ⟨e.k, e.v, e.r⟩
/-- can an effect be done? -/
def apOk (rev : Int) (l : List It) (e : Eff) : Bool :=
  keyB e.k && decide (e.v.size ≤ 65536) && decide (rev ≠ 9223372036854775807) && decide (e.r = inc rev) && (!e.g || (decide (e.v.size = 0) && (findI l e.k).isSome))
def ApR (w w' : World) (g b N : Nat) (rev : Int) (l : List It) (e : Eff) (x : Ending) : Prop :=
  x = .returned (.int .i64 (if apOk rev l e then 0 else 1)) ∧ IsSt w' g b (N + 1) (if apOk rev l e then e.r else rev) (if apOk rev l e then applyL e.it e.g l else l) ∧ Mod (fun i _ => i = g ∨ i = b) w w'
theorem IsMp.more {w : World} {b N N' : Nat} {l : List It} (h : IsMp w b N l) (hN : N ≤ N') : IsMp w b N' l := by obtain ⟨D, h1, h2⟩ := h; exact ⟨D, h1.mono hN, h2⟩
theorem IsSt.more {w : World} {g b N N' : Nat} {rev : Int} {l : List It} (h : IsSt w g b N rev l) (hN : N ≤ N') : IsSt w g b N' rev l := ⟨h.at_, h.mp.more hN, h.ne⟩
theorem IsSt.drewN {w : World} {g b N : Nat} {rev : Int} {l : List It} (h : IsSt w g b N rev l) (n : Nat) : IsSt (w.drewN n) g b N rev l := h.mod ((Mod.refl (fun _ _ => False) w).drewN n) (by simp) (by simp)
theorem lt_max {N : Nat} (h : N < 1000000) : N < maxLen := by simp only [maxLen]; omega
set_option maxRecDepth 100000 in
set_option maxHeartbeats 4000000 in
theorem apply_any {g b N : Nat} {rev : Int} {l : List It} (k v : ByteArray) (r : Int) (eg : Bool) (w : World) (hst : IsSt w g b N rev l) (hN : N < 1000000) (hks : k.size ≤ maxLen) :
    Calls Tryz.prog 64 #[.pointer (some ⟨g, 0, none⟩), .agg #[.string k, .string v, .int .i64 r, .bool eg]] w fun x w' => ApR w w' g b N rev l ⟨k, v, r, eg⟩ x := by
  obtain ⟨h0, hb⟩ := one_at w 115 [.string k, .string v, .int .i64 r, .bool eg]
  have HST := Lib.hid (hst.step hb)
  have hlt0 := hst.lt
  have HKEY := Lib.hid (fun w => key_any k w)
  have HVAL := Lib.hid (fun w => val_any v w)
  clear hst
  go_enter Tryz.func64, Tryz.ntmps64
  go_upto_region 1 with fail
  generalize hW1 : World.alloc w _ = w1 at *
  have hsz : w.heap.size + 1 ≤ w1.heap.size := by rw [← hW1]; simp
  clear hW1
  obtain ⟨⟨x0, x1, x2, x3⟩, xf⟩ := at4 h0
  go_upto_region 3 with fail
  refine region_any (by kernel_rfl) ?_
  change wpAny _ _ _ _ _ _ _ (World.drew _)
  replace h0 := h0.drew
  replace hb := hb.drew
  have HST := Lib.hid HST.out.drew
  replace hsz : w.heap.size + 1 ≤ w1.drew.heap.size := hsz
  clear x0 x1 x2 x3 xf
  generalize World.drew _ = w2 at *
  have hlt2 := HST.out.lt
  obtain ⟨⟨x0, x1, x2, x3⟩, xf⟩ := at4 h0
  obtain ⟨⟨s0, s1⟩, sf⟩ := at2 HST.out.at_
  have l0 := h0.lt
  have l1 := HST.out.lt.1
  obtain ⟨y, hyy⟩ : ∃ y, getI l k = y := ⟨_, rfl⟩
  have hlk : ∀ w', Below w2.heap.size w2 w' → _ := fun w' hb => (HST.out.step hb).mp.look (k := k) hks
  rw [hyy] at hlk
  obtain ⟨yk, yv, yr⟩ := y
  obtain ⟨yo, hyo⟩ : ∃ yo, (findI l k).isSome = yo := ⟨_, rfl⟩
  rw [hyo] at hlk
  unfold It.val at hlk
  simp only at hlk
  refine stage 11 ?_
  refine tag [0,1,2,3,4,5,6,7,8] ?_
  iterate 9 (
    refine sR (v := ?_) rfl (by kernel_rfl) (fun _ _ _ h => h) (Or.inl ⟨by kernel_rfl, ?_⟩) ?_
    rotate_left
    · (intro wS hwS; obtain ⟨hcS, hfS, hhS⟩ := bcell hwS; go_simp; try (first | (with_reducible rfl) | rw [if_pos (by omega)] | rw [if_neg (by omega)]))
    try simp only [PT])
  refine tagN ?_
  refine tag [9] ?_
  refine sP (v := ?_) rfl (by kernel_rfl) (fun _ _ _ h => h) (Or.inl ⟨by kernel_rfl, ?_⟩) ?_
  rotate_left
  · (intro wS; go_simp; try (first | (with_reducible rfl) | rw [if_pos (by omega)] | rw [if_neg (by omega)]))
  try simp only [PT]
  refine tagN ?_
  refine stage_one 10 (by kernel_rfl) rfl (by kernel_rfl) (fun K hK => ?_)
  go_simp
  obtain ⟨hy3, hb3⟩ := one_at w2 35 [.string ⟨#[]⟩, .string ⟨#[]⟩, .int .i64 0]
  refine hK.out _ _ (hb3) ?_
  clear hK K
  try simp only [PT]
  replace h0 := h0.below hb3
  skip
  replace hb := chain hb hb3
  have HST := Lib.hid (HST.out.step hb3)
  have hs3 := hb3.size
  clear hb3 hlk x0 x1 x2 x3 xf s0 s1 sf l0 l1
  have hgy : w2.heap.size < (World.alloc w2 (.cells #[.string ⟨#[]⟩, .string ⟨#[]⟩, .int .i64 0] 35)).heap.size := by simp
  generalize World.alloc _ _ = w3 at *
  obtain ⟨⟨y0, y1, y2⟩, z0, z1, z2⟩ := at3 hy3

  refine stage_end (by kernel_rfl) rfl (fun K hK => ?_)
  go_simp
  refine hK.out _ _ ?_
  clear hK K
  try simp only [PT]
  first | refine stage 1000000 ?_ | skip
  refine tag [12] ?_
  refine sR (v := ?_) rfl (by kernel_rfl) (fun _ _ _ h => h) (Or.inl ⟨by kernel_rfl, ?_⟩) ?_
  rotate_left
  · (intro wS hwS; obtain ⟨hcS, hfS, hhS⟩ := bcell hwS; go_simp; try (first | (with_reducible rfl) | rw [if_pos (by omega)] | rw [if_neg (by omega)]))
  try simp only [PT]
  refine tagN ?_
  first | refine wpAnyT_done (by kernel_rfl) ?_ _ | refine wpAny_done (by kernel_rfl) ?_ _
  obtain ⟨ym, hG⟩ := At.many [(0, .string yk), (1, .string yv), (2, .int .i64 yr)] hy3
  dsimp only [setMany, setL, List.set] at ym hG
  have hh0 := h0.lt
  replace h0 := h0.only hG (by omega)
  skip
  have HST := Lib.hid (HST.out.only hG (by have := hlt2.1; omega) (by have := hlt2.2; omega))
  replace hb := hb.trans ((Below.refl w.heap.size w3).grown hG (by omega) (by intro i hi; injection hi with hi; omega))
  have hs4 := hG.size
  clear hy3 y0 y1 y2 z0 z1 z2 hG hh0
  generalize World.setCell _ _ _ = w4 at *
  generalize hgy : w2.heap.size = gy at *
  obtain ⟨⟨x0, x1, x2, x3⟩, xf⟩ := at4 h0
  obtain ⟨⟨s0, s1⟩, sf⟩ := at2 HST.out.at_
  have he := empty_iff v
  obtain ⟨ir, hir⟩ : ∃ ir, IntKind.i64.wrap (rev + 1) = ir := ⟨_, rfl⟩
  have hinc : inc rev = ir := hir
  clear ym
  cases hq : keyB k with
  | false =>
    rw [hq] at HKEY
    go_wp2_with fail
    go_quiet (first | (go_at_call 115; exact quiet_same (HKEY.out _)) | (go_at_call 116; exact quiet_same (HVAL.out _)))
    go_wp2_with fail
    go_ret
    have hok : apOk rev l ⟨k, v, r, eg⟩ = false := by simp [apOk, hq]
    refine ⟨by rw [hok]; rfl, ?_, ((Mod.refl _ w).below hb).drewN _⟩
    rw [hok]
    exact (HST.out.mod ((Mod.refl (fun _ _ => False) w4).drewN _) (by simp) (by simp)).more (by omega)
  | true =>
    rw [hq] at HKEY
    by_cases hv : v.size ≤ 65536
    · rw [decide_eq_true hv] at HVAL
      by_cases hm : rev = 9223372036854775807
      · have hmb : (rev == 9223372036854775807) = true := by rw [hm]; rfl
        go_wp2_with fail
        go_quiet (first | (go_at_call 115; exact quiet_same (HKEY.out _)) | (go_at_call 116; exact quiet_same (HVAL.out _)))
        go_wp2_with fail
        go_ret
        have hok : apOk rev l ⟨k, v, r, eg⟩ = false := by simp [apOk, hq, hv, hm]
        refine ⟨by rw [hok]; rfl, ?_, ((Mod.refl _ w).below hb).drewN _⟩
        rw [hok]
        exact (HST.out.mod ((Mod.refl (fun _ _ => False) w4).drewN _) (by simp) (by simp)).more (by omega)
      · have hmb : (rev == 9223372036854775807) = false := beq_eq_false_iff_ne.mpr hm
        by_cases hr : r = ir
        · subst hr
          have hrb : (r == r) = true := by simp
          have hrn : (r != r) = false := by simp
          cases eg with
          | false =>
            go_wp2_with fail
            go_quiet (first | (go_at_call 115; exact quiet_same (HKEY.out _)) | (go_at_call 116; exact quiet_same (HVAL.out _)))
            go_upto_region 6 with fail
            have hok : apOk rev l ⟨k, v, r, false⟩ = true := by simp [apOk, hq, hv, hm, hinc]
            have HOK := Lib.hid hok
            have HST := Lib.hid (HST.out.drewN nq)
            replace h0 := h0.drewN nq
            replace hb := below_drewN hb nq
            have hsw : w.heap.size + 1 ≤ (w4.drewN nq).heap.size := h0.lt
            clear x0 x1 x2 x3 xf s0 s1 sf hok
            generalize World.drewN _ _ = w5 at *
            obtain ⟨⟨x0, x1, x2, x3⟩, xf⟩ := at4 h0
            obtain ⟨⟨s0, s1⟩, sf0, sf1⟩ := at2 HST.out.at_
            go_upto_region 10 with fail
            have hS := grown_set w5 g 0 (.int .i64 r)
            have hst6 := HST.out.at_.set 0 (.int .i64 r)
            dsimp only [List.set] at hst6
            have hmp6 := HST.out.mp.kept hS (by intro e; injection e with e; exact HST.out.ne e)
            have hne := HST.out.ne
            replace h0 := h0.only hS (by omega)
            have hmod : Mod (fun i _ => i = g ∨ i = b) w (w5.setCell ⟨g, 0, none⟩ (.int .i64 r)) := ((Mod.refl _ w).below hb).grown hS (fun i o _ _ e => by injection e with e; exact .inl e.symm)
            have hsz6 : w.heap.size + 1 ≤ (w5.setCell ⟨g, 0, none⟩ (.int .i64 r)).heap.size := Nat.le_trans hsw hS.size
            clear x0 x1 x2 x3 xf s0 s1 sf0 sf1 hS hsw
            generalize World.setCell _ _ _ = w6 at *
            refine region_any (by kernel_rfl) ?_
            change wpAny _ _ _ _ _ _ _ (World.drew _)
            replace h0 := h0.drew
            replace hst6 := hst6.drew
            replace hmp6 := hmp6.drew
            replace hmod := hmod.drew
            replace hsz6 : w.heap.size + 1 ≤ w6.drew.heap.size := hsz6
            generalize World.drew _ = w7 at *
            obtain ⟨⟨x0, x1, x2, x3⟩, xf⟩ := at4 h0
            obtain ⟨⟨s0, s1⟩, sf0, sf1⟩ := at2 hst6
            have l0 := h0.lt
            have l1 := hst6.lt
            obtain ⟨w8, hrun, hmp8, hg8⟩ := hmp6.store ⟨k, v, r⟩ hks (lt_max (by omega))
            try unfold It.val at hrun
            dsimp only at hrun
            have HR := Lib.hid hrun
            clear hrun
            refine stage 13 ?_
            refine tag [0,1,2,3,4,5,6,7,8,9,10,11,12] ?_
            iterate 13 (
              refine sR (v := ?_) rfl (by kernel_rfl) (fun _ _ _ h => h) (Or.inl ⟨by kernel_rfl, ?_⟩) ?_
              rotate_left
              · (intro wS hwS; obtain ⟨hcS, hfS, hhS⟩ := bcell hwS; go_simp; try (first | (with_reducible rfl) | rw [if_pos (by omega)] | rw [if_neg (by omega)]))
              try simp only [PT])
            refine tagN ?_
            have hrun := HR.out
            refine stage_end (by kernel_rfl) rfl (fun K hK => ?_)
            go_simp
            refine hK.out _ _ ?_
            clear hK K
            try simp only [PT]
            first | refine wpAnyT_done (by kernel_rfl) ?_ _ | refine wpAny_done (by kernel_rfl) ?_ _
            clear x0 x1 x2 x3 xf s0 s1 sf0 sf1 hrun l0 l1
            have hst8 := hst6.only hg8 hne
            have hmod8 := hmod.grown hg8 (fun i o _ _ e => by injection e with e; exact .inr e.symm)
            go_wp2_with fail
            go_ret
            refine ⟨by rw [HOK.out]; rfl, ?_, hmod8⟩
            rw [HOK.out, if_pos rfl, if_pos rfl]
            exact ⟨hst8, hmp8, hne⟩
          | true =>
            by_cases hve : 1 ≤ v.size
            · rw [decide_eq_true hve] at he
              have hvn : ¬ v.size = 0 := by omega
              go_wp2_with fail
              go_quiet (first | (go_at_call 115; exact quiet_same (HKEY.out _)) | (go_at_call 116; exact quiet_same (HVAL.out _)))
              go_wp2_with fail
              go_ret
              have hok : apOk rev l ⟨k, v, r, true⟩ = false := by simp [apOk, hq, hv, hm, hinc, hve, hvn]
              refine ⟨by rw [hok]; rfl, ?_, ((Mod.refl _ w).below hb).drewN _⟩
              rw [hok]
              exact (HST.out.mod ((Mod.refl (fun _ _ => False) w4).drewN _) (by simp) (by simp)).more (by omega)
            · rw [decide_eq_false hve] at he
              have hvn : v.size = 0 := by omega
              cases yo with
              | false =>
                go_wp2_with fail
                go_quiet (first | (go_at_call 115; exact quiet_same (HKEY.out _)) | (go_at_call 116; exact quiet_same (HVAL.out _)))
                go_wp2_with fail
                go_ret
                have hok : apOk rev l ⟨k, v, r, true⟩ = false := by simp [apOk, hq, hv, hm, hinc, hve, hvn, hyo]
                refine ⟨by rw [hok]; rfl, ?_, ((Mod.refl _ w).below hb).drewN _⟩
                rw [hok]
                exact (HST.out.mod ((Mod.refl (fun _ _ => False) w4).drewN _) (by simp) (by simp)).more (by omega)
              | true =>
                go_wp2_with fail
                go_quiet (first | (go_at_call 115; exact quiet_same (HKEY.out _)) | (go_at_call 116; exact quiet_same (HVAL.out _)))
                go_upto_region 6 with fail
                have hok : apOk rev l ⟨k, v, r, true⟩ = true := by simp [apOk, hq, hv, hm, hinc, hve, hvn, hyo]
                have HOK := Lib.hid hok
                have HST := Lib.hid (HST.out.drewN nq)
                replace h0 := h0.drewN nq
                replace hb := below_drewN hb nq
                have hsw : w.heap.size + 1 ≤ (w4.drewN nq).heap.size := h0.lt
                clear x0 x1 x2 x3 xf s0 s1 sf hok
                generalize World.drewN _ _ = w5 at *
                obtain ⟨⟨x0, x1, x2, x3⟩, xf⟩ := at4 h0
                obtain ⟨⟨s0, s1⟩, sf0, sf1⟩ := at2 HST.out.at_
                go_upto_region 8 with fail
                have hS := grown_set w5 g 0 (.int .i64 r)
                have hst6 := HST.out.at_.set 0 (.int .i64 r)
                dsimp only [List.set] at hst6
                have hmp6 := HST.out.mp.kept hS (by intro e; injection e with e; exact HST.out.ne e)
                have hne := HST.out.ne
                replace h0 := h0.only hS (by omega)
                have hmod : Mod (fun i _ => i = g ∨ i = b) w (w5.setCell ⟨g, 0, none⟩ (.int .i64 r)) := ((Mod.refl _ w).below hb).grown hS (fun i o _ _ e => by injection e with e; exact .inl e.symm)
                have hsz6 : w.heap.size + 1 ≤ (w5.setCell ⟨g, 0, none⟩ (.int .i64 r)).heap.size := Nat.le_trans hsw hS.size
                clear x0 x1 x2 x3 xf s0 s1 sf0 sf1 hS hsw
                generalize World.setCell _ _ _ = w6 at *
                refine region_any (by kernel_rfl) ?_
                change wpAny _ _ _ _ _ _ _ (World.drew _)
                replace h0 := h0.drew
                replace hst6 := hst6.drew
                replace hmp6 := hmp6.drew
                replace hmod := hmod.drew
                replace hsz6 : w.heap.size + 1 ≤ w6.drew.heap.size := hsz6
                generalize World.drew _ = w7 at *
                obtain ⟨⟨x0, x1, x2, x3⟩, xf⟩ := at4 h0
                obtain ⟨⟨s0, s1⟩, sf0, sf1⟩ := at2 hst6
                have l0 := h0.lt
                have l1 := hst6.lt
                obtain ⟨w8, hrun, hmp8, hg8⟩ := hmp6.drop ⟨k, v, r⟩ hks 0
                try unfold It.val at hrun
                dsimp only at hrun
                have HR := Lib.hid hrun
                clear hrun
                refine stage 6 ?_
                refine tag [0,1,2,3,4,5] ?_
                iterate 6 (
                  refine sR (v := ?_) rfl (by kernel_rfl) (fun _ _ _ h => h) (Or.inl ⟨by kernel_rfl, ?_⟩) ?_
                  rotate_left
                  · (intro wS hwS; obtain ⟨hcS, hfS, hhS⟩ := bcell hwS; go_simp; try (first | (with_reducible rfl) | rw [if_pos (by omega)] | rw [if_neg (by omega)]))
                  try simp only [PT])
                refine tagN ?_
                have hrun := HR.out
                refine stage_end (by kernel_rfl) rfl (fun K hK => ?_)
                go_simp
                refine hK.out _ _ ?_
                clear hK K
                try simp only [PT]
                first | refine wpAnyT_done (by kernel_rfl) ?_ _ | refine wpAny_done (by kernel_rfl) ?_ _
                clear x0 x1 x2 x3 xf s0 s1 sf0 sf1 hrun l0 l1
                have hst8 := hst6.only hg8 hne
                have hmod8 := hmod.grown hg8 (fun i o _ _ e => by injection e with e; exact .inr e.symm)
                go_wp2_with fail
                go_ret
                refine ⟨by rw [HOK.out]; rfl, ?_, hmod8⟩
                rw [HOK.out, if_pos rfl, if_pos rfl]
                exact ⟨hst8, hmp8.more (by omega), hne⟩
        · have hrb : (r == ir) = false := beq_eq_false_iff_ne.mpr hr
          have hrn : (r != ir) = true := by simp [hr]
          go_wp2_with fail
          go_quiet (first | (go_at_call 115; exact quiet_same (HKEY.out _)) | (go_at_call 116; exact quiet_same (HVAL.out _)))
          go_wp2_with fail
          go_ret
          have hok : apOk rev l ⟨k, v, r, eg⟩ = false := by simp [apOk, hq, hv, hm, hr, hinc]
          refine ⟨by rw [hok]; rfl, ?_, ((Mod.refl _ w).below hb).drewN _⟩
          rw [hok]
          exact (HST.out.mod ((Mod.refl (fun _ _ => False) w4).drewN _) (by simp) (by simp)).more (by omega)
    · rw [decide_eq_false hv] at HVAL
      go_wp2_with fail
      go_quiet (first | (go_at_call 115; exact quiet_same (HKEY.out _)) | (go_at_call 116; exact quiet_same (HVAL.out _)))
      go_wp2_with fail
      go_ret
      have hok : apOk rev l ⟨k, v, r, eg⟩ = false := by simp [apOk, hq, hv]
      refine ⟨by rw [hok]; rfl, ?_, ((Mod.refl _ w).below hb).drewN _⟩
      rw [hok]
      exact (HST.out.mod ((Mod.refl (fun _ _ => False) w4).drewN _) (by simp) (by simp)).more (by omega)
end Go.Proofs.YtnkjekkdndjfaaaGreat
namespace Go.Proofs.YtnkjekkdndjfaaaGreat
set_option linter.unusedVariables false
set_option linter.unusedSimpArgs false
open Go.RowKit
/-- the state behind what is asked -/
def doSt (rev : Int) (l : List It) (o : Ask) : Int × List It :=
  if (planP rev l o).wr && apOk rev l (planP rev l o).eff then ((planP rev l o).eff.r, applyL (planP rev l o).eff.it (planP rev l o).eff.g l) else (rev, l)
def DoR (w w' : World) (g b N : Nat) (rev : Int) (l : List It) (o : Ask) (x : Ending) : Prop :=
  ∃ A n c, x = .returned (.agg #[.int .i64 (planP rev l o).told.code, .int .i64 (planP rev l o).told.rev, .string (planP rev l o).told.val, .slice A n c]) ∧ OwnI w' w.heap.size A n c (planP rev l o).told.items ∧
    IsSt w' g b (N + 1) (doSt rev l o).1 (doSt rev l o).2 ∧ Mod (fun i _ => i = g ∨ i = b) w w' ∧ ((planP rev l o).wr = false → Below w.heap.size w w')
end Go.Proofs.YtnkjekkdndjfaaaGreat
