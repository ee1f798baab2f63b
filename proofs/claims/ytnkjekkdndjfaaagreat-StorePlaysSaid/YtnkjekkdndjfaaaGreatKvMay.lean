
/- Chapter 9: could a write be done? -/
import Derived.Test.YtnkjekkdndjfaaaGreatKvGet
namespace Go.Proofs.YtnkjekkdndjfaaaGreat
set_option linter.unusedVariables false
set_option linter.unusedSimpArgs false
open Go.RowKit
def stands (l : List It) (k : ByteArray) (rev : Int) : Bool := (findI l k).isSome && decide ((getI l k).r = rev)
def mayE (l : List It) (o : Ask) : Int :=
  if keyB o.key = false ∨ (o.kind ≠ 5 ∧ ¬ o.val.size ≤ 65536) then 1
  else if o.kind = 3 ∧ (findI l o.key).isSome = true then 7
  else if o.kind ≠ 3 ∧ (findI l o.key).isSome = false then 6
  else if o.kind ≠ 3 ∧ (getI l o.key).r ≠ o.rev then 8
  else if 1 ≤ o.iff.size ∧ stands l o.iff o.ifrev = false then 8 else 0
set_option maxRecDepth 100000 in
set_option maxHeartbeats 4000000 in
theorem may_any {g b N : Nat} {rev : Int} {l : List It} (ki : Int) (k v i : ByteArray) (r j : Int) (w : World) (hst : IsSt w g b N rev l) (hks : k.size ≤ maxLen) (his : i.size ≤ maxLen) :
    Calls Tryz.prog 71 #[.pointer (some ⟨g, 0, none⟩), .agg #[.int .i64 ki, .string k, .string v, .int .i64 r, .string i, .int .i64 j]] w fun x w' => x = .returned (.int .i64 (mayE l ⟨ki, k, v, r, i, j⟩)) ∧ Below w.heap.size w w' := by
  obtain ⟨h0, hb⟩ := one_at w 49 [.int .i64 ki, .string k, .string v, .int .i64 r, .string i, .int .i64 j]
  have HST := Lib.hid (hst.step hb)
  have HKEY := Lib.hid (fun w => key_any k w)
  have HVAL := Lib.hid (fun w => val_any v w)
  clear hst
  go_enter Tryz.func71, Tryz.ntmps71
  go_upto_region 1 with fail
  generalize hW1 : World.alloc w _ = w1 at *
  have hsz : w.heap.size + 1 ≤ w1.heap.size := by rw [← hW1]; simp
  clear hW1
  obtain ⟨⟨x0, x1, x2, x3, x4, x5⟩, xf⟩ := at6 h0
  refine region_any (by kernel_rfl) ?_
  change wpAny _ _ _ _ _ _ _ (World.drew _)
  replace h0 := h0.drew
  replace hb := hb.drew
  have HST := Lib.hid HST.out.drew
  replace hsz : w.heap.size + 1 ≤ w1.drew.heap.size := hsz
  clear x0 x1 x2 x3 x4 x5 xf
  generalize World.drew _ = w2 at *
  have hlt2 := HST.out.lt
  obtain ⟨⟨x0, x1, x2, x3, x4, x5⟩, xf⟩ := at6 h0
  obtain ⟨⟨s0, s1⟩, sf⟩ := at2 HST.out.at_
  have l0 := h0.lt
  have l1 := HST.out.lt.1
  obtain ⟨y, hyy⟩ : ∃ y, getI l k = y := ⟨_, rfl⟩
  have hlk : ∀ w', Below w2.heap.size w2 w' → _ := fun w' hb => (HST.out.step hb).mp.look (k := k) hks
  rw [hyy] at hlk
  obtain ⟨yk, yv, yr⟩ := y
  obtain ⟨yo, hyo⟩ : ∃ yo, (findI l k).isSome = yo := ⟨_, rfl⟩
  rw [hyo] at hlk
  unfold It.val at hlk
  simp only at hlk
  refine stage 11 ?_
  refine tag [0,1,2,3,4,5,6,7,8] ?_
  iterate 9 (
    refine sR (v := ?_) rfl (by kernel_rfl) (fun _ _ _ h => h) (Or.inl ⟨by kernel_rfl, ?_⟩) ?_
    rotate_left
    · (intro wS hwS; obtain ⟨hcS, hfS, hhS⟩ := bcell hwS; go_simp; try (first | (with_reducible rfl) | rw [if_pos (by omega)] | rw [if_neg (by omega)]))
    try simp only [PT])
  refine tagN ?_
  refine tag [9] ?_
  refine sP (v := ?_) rfl (by kernel_rfl) (fun _ _ _ h => h) (Or.inl ⟨by kernel_rfl, ?_⟩) ?_
  rotate_left
  · (intro wS; go_simp; try (first | (with_reducible rfl) | rw [if_pos (by omega)] | rw [if_neg (by omega)]))
  try simp only [PT]
  refine tagN ?_
  refine stage_one 10 (by kernel_rfl) rfl (by kernel_rfl) (fun K hK => ?_)
  go_simp
  obtain ⟨hy3, hb3⟩ := one_at w2 35 [.string ⟨#[]⟩, .string ⟨#[]⟩, .int .i64 0]
  refine hK.out _ _ (hb3) ?_
  clear hK K
  try simp only [PT]
  replace h0 := h0.below hb3
  skip
  replace hb := chain hb hb3
  have HST := Lib.hid (HST.out.step hb3)
  have hs3 := hb3.size
  clear hb3 hlk x0 x1 x2 x3 x4 x5 xf s0 s1 sf l0 l1
  have hgy : w2.heap.size < (World.alloc w2 (.cells #[.string ⟨#[]⟩, .string ⟨#[]⟩, .int .i64 0] 35)).heap.size := by simp
  generalize World.alloc _ _ = w3 at *
  obtain ⟨⟨y0, y1, y2⟩, z0, z1, z2⟩ := at3 hy3

  refine stage_end (by kernel_rfl) rfl (fun K hK => ?_)
  go_simp
  refine hK.out _ _ ?_
  clear hK K
  try simp only [PT]
  first | refine stage 1000000 ?_ | skip
  refine tag [12] ?_
  refine sR (v := ?_) rfl (by kernel_rfl) (fun _ _ _ h => h) (Or.inl ⟨by kernel_rfl, ?_⟩) ?_
  rotate_left
  · (intro wS hwS; obtain ⟨hcS, hfS, hhS⟩ := bcell hwS; go_simp; try (first | (with_reducible rfl) | rw [if_pos (by omega)] | rw [if_neg (by omega)]))
  try simp only [PT]
  refine tagN ?_
  first | refine wpAnyT_done (by kernel_rfl) ?_ _ | refine wpAny_done (by kernel_rfl) ?_ _
  obtain ⟨ym, hG⟩ := At.many [(0, .string yk), (1, .string yv), (2, .int .i64 yr)] hy3
  dsimp only [setMany, setL, List.set] at ym hG
  have hh0 := h0.lt
  replace h0 := h0.only hG (by omega)
  skip
  have HST := Lib.hid (HST.out.only hG (by have := hlt2.1; omega) (by have := hlt2.2; omega))
  replace hb := hb.trans ((Below.refl w.heap.size w3).grown hG (by omega) (by intro i hi; injection hi with hi; omega))
  have hs4 := hG.size
  clear hy3 y0 y1 y2 z0 z1 z2 hG hh0
  generalize World.setCell _ _ _ = w4 at *
  generalize hgy : w2.heap.size = gy at *
  obtain ⟨⟨q0, q1, q2⟩, qf⟩ := at3 ym
  obtain ⟨⟨x0, x1, x2, x3, x4, x5⟩, xf⟩ := at6 h0
  have HM := Lib.hid h0
  have HB := Lib.hid hb
  clear h0 hb
  have hyy : (getI l k).r = yr := by rw [hyy]
  cases hq : keyB k with
  | false =>
    rw [hq] at HKEY
    go_wp2_with (first | (((with_reducible refine calls_id ?_); refine (HKEY.out _).mono ?_; rintro r w9 ⟨rfl, rfl⟩)) | (((with_reducible refine calls_id ?_); refine (HVAL.out _).mono ?_; rintro r w9 ⟨rfl, rfl⟩)))
    go_ret
    exact ⟨by rw [show mayE l ⟨ki, k, v, r, i, j⟩ = 1 from by simp [mayE, hyo, hyy, hq]]; rfl, HB.out⟩
  | true =>
    rw [hq] at HKEY
    by_cases h5 : ki = 5
    · have h5b : (ki == 5) = true := by rw [h5]; rfl
      have h3b : (ki == 3) = false := by rw [h5]; rfl
      cases yo with
      | false =>
        go_wp2_with (first | (((with_reducible refine calls_id ?_); refine (HKEY.out _).mono ?_; rintro r w9 ⟨rfl, rfl⟩)) | (((with_reducible refine calls_id ?_); refine (HVAL.out _).mono ?_; rintro r w9 ⟨rfl, rfl⟩)))
        go_ret
        exact ⟨by rw [show mayE l ⟨ki, k, v, r, i, j⟩ = 6 from by simp [mayE, hyo, hyy, hq, h5]]; rfl, HB.out⟩
      | true =>
        by_cases hr : yr = r
        · have hrb : (yr == r) = true := by rw [hr]; simp
          go_upto_region 10 with (first | (((with_reducible refine calls_id ?_); refine (HKEY.out _).mono ?_; rintro r w9 ⟨rfl, rfl⟩)) | (((with_reducible refine calls_id ?_); refine (HVAL.out _).mono ?_; rintro r w9 ⟨rfl, rfl⟩)))
          replace h0 := HM.out
          have hb := HB.out
          clear HB
          obtain ⟨⟨x0, x1, x2, x3, x4, x5⟩, xf⟩ := at6 h0
          obtain ⟨wq, hwq⟩ : ∃ wq, wq = w4 := ⟨_, rfl⟩
          have hs2 : w.heap.size + 1 ≤ w4.heap.size := h0.lt
          clear ym q0 q1 q2 qf hwq wq
          generalize w4 = w1 at *
          refine region_any (by kernel_rfl) ?_
          change wpAny _ _ _ _ _ _ _ (World.drew _)
          replace h0 := h0.drew
          replace hb := hb.drew
          have HST := Lib.hid HST.out.drew
          replace hs2 : w.heap.size + 1 ≤ w1.drew.heap.size := hs2
          clear x0 x1 x2 x3 x4 x5 xf
          generalize World.drew _ = w2 at *
          have hlt2 := HST.out.lt
          obtain ⟨⟨x0, x1, x2, x3, x4, x5⟩, xf⟩ := at6 h0
          obtain ⟨⟨s0, s1⟩, sf⟩ := at2 HST.out.at_
          have l0 := h0.lt
          have l1 := HST.out.lt.1
          obtain ⟨y, hyz⟩ : ∃ y, getI l i = y := ⟨_, rfl⟩
          have hlk : ∀ w', Below w2.heap.size w2 w' → _ := fun w' hb => (HST.out.step hb).mp.look (k := i) his
          rw [hyz] at hlk
          obtain ⟨zk, zv, zr⟩ := y
          obtain ⟨zo, hzo⟩ : ∃ yo, (findI l i).isSome = yo := ⟨_, rfl⟩
          rw [hzo] at hlk
          unfold It.val at hlk
          simp only at hlk
          refine stage 11 ?_
          refine tag [0,1,2,3,4,5,6,7,8] ?_
          iterate 9 (
            refine sR (v := ?_) rfl (by kernel_rfl) (fun _ _ _ h => h) (Or.inl ⟨by kernel_rfl, ?_⟩) ?_
            rotate_left
            · (intro wS hwS; obtain ⟨hcS, hfS, hhS⟩ := bcell hwS; go_simp; try (first | (with_reducible rfl) | rw [if_pos (by omega)] | rw [if_neg (by omega)]))
            try simp only [PT])
          refine tagN ?_
          refine tag [9] ?_
          refine sP (v := ?_) rfl (by kernel_rfl) (fun _ _ _ h => h) (Or.inl ⟨by kernel_rfl, ?_⟩) ?_
          rotate_left
          · (intro wS; go_simp; try (first | (with_reducible rfl) | rw [if_pos (by omega)] | rw [if_neg (by omega)]))
          try simp only [PT]
          refine tagN ?_
          refine stage_one 10 (by kernel_rfl) rfl (by kernel_rfl) (fun K hK => ?_)
          go_simp
          obtain ⟨hy3, hb3⟩ := one_at w2 35 [.string ⟨#[]⟩, .string ⟨#[]⟩, .int .i64 0]
          refine hK.out _ _ (hb3) ?_
          clear hK K
          try simp only [PT]
          replace h0 := h0.below hb3
          skip
          replace hb := chain hb hb3
          have HST := Lib.hid (HST.out.step hb3)
          have hs3 := hb3.size
          clear hb3 hlk x0 x1 x2 x3 x4 x5 xf s0 s1 sf l0 l1
          have hgy : w2.heap.size < (World.alloc w2 (.cells #[.string ⟨#[]⟩, .string ⟨#[]⟩, .int .i64 0] 35)).heap.size := by simp
          generalize World.alloc _ _ = w3 at *
          obtain ⟨⟨y0, y1, y2⟩, z0, z1, z2⟩ := at3 hy3

          refine stage_end (by kernel_rfl) rfl (fun K hK => ?_)
          go_simp
          refine hK.out _ _ ?_
          clear hK K
          try simp only [PT]
          first | refine stage 1000000 ?_ | skip
          refine tag [12] ?_
          refine sR (v := ?_) rfl (by kernel_rfl) (fun _ _ _ h => h) (Or.inl ⟨by kernel_rfl, ?_⟩) ?_
          rotate_left
          · (intro wS hwS; obtain ⟨hcS, hfS, hhS⟩ := bcell hwS; go_simp; try (first | (with_reducible rfl) | rw [if_pos (by omega)] | rw [if_neg (by omega)]))
          try simp only [PT]
          refine tagN ?_
          first | refine wpAnyT_done (by kernel_rfl) ?_ _ | refine wpAny_done (by kernel_rfl) ?_ _
          obtain ⟨zm, hG⟩ := At.many [(0, .string zk), (1, .string zv), (2, .int .i64 zr)] hy3
          dsimp only [setMany, setL, List.set] at zm hG
          have hh0 := h0.lt
          replace h0 := h0.only hG (by omega)
          skip
          have HST := Lib.hid (HST.out.only hG (by have := hlt2.1; omega) (by have := hlt2.2; omega))
          replace hb := hb.trans ((Below.refl w.heap.size w3).grown hG (by omega) (by intro i hi; injection hi with hi; omega))
          have hs4 := hG.size
          clear hy3 y0 y1 y2 z0 z1 z2 hG hh0
          generalize World.setCell _ _ _ = w4 at *
          generalize hgz : w2.heap.size = gz at *
          obtain ⟨⟨q0, q1, q2⟩, qf⟩ := at3 zm
          obtain ⟨⟨x0, x1, x2, x3, x4, x5⟩, xf⟩ := at6 h0
          have HB := Lib.hid hb
          clear hb h0 zm
          have he := empty_iff i
          have hzz : (getI l i).r = zr := by rw [hyz]
          by_cases hi : 1 ≤ i.size
          · rw [decide_eq_true hi] at he
            cases zo with
            | false =>
              go_wp2_with fail
              go_ret
              exact ⟨by rw [show mayE l ⟨ki, k, v, r, i, j⟩ = 8 from by simp [mayE, hyo, hyy, hq, hr, h5, hi, stands, hzo]]; rfl, HB.out⟩
            | true =>
              by_cases hzj : zr = j
              · have hzb : (zr == j) = true := by rw [hzj]; simp
                go_wp2_with fail
                go_ret
                exact ⟨by rw [show mayE l ⟨ki, k, v, r, i, j⟩ = 0 from by simp [mayE, hyo, hyy, hq, hr, h5, hi, stands, hzo, hzz, hzj]]; rfl, HB.out⟩
              · have hzb : (zr == j) = false := beq_eq_false_iff_ne.mpr hzj
                go_wp2_with fail
                go_ret
                exact ⟨by rw [show mayE l ⟨ki, k, v, r, i, j⟩ = 8 from by simp [mayE, hyo, hyy, hq, hr, h5, hi, stands, hzo, hzz, hzj]]; rfl, HB.out⟩
          · rw [decide_eq_false hi] at he
            cases zo with
            | false =>
              go_wp2_with fail
              go_ret
              exact ⟨by rw [show mayE l ⟨ki, k, v, r, i, j⟩ = 0 from by simp [mayE, hyo, hyy, hq, hr, h5, hi, stands, hzo]]; rfl, HB.out⟩
            | true =>
              go_wp2_with fail
              go_ret
              exact ⟨by rw [show mayE l ⟨ki, k, v, r, i, j⟩ = 0 from by simp [mayE, hyo, hyy, hq, hr, h5, hi, stands, hzo]]; rfl, HB.out⟩
        · have hrb : (yr == r) = false := beq_eq_false_iff_ne.mpr hr
          go_wp2_with (first | (((with_reducible refine calls_id ?_); refine (HKEY.out _).mono ?_; rintro r w9 ⟨rfl, rfl⟩)) | (((with_reducible refine calls_id ?_); refine (HVAL.out _).mono ?_; rintro r w9 ⟨rfl, rfl⟩)))
          go_ret
          exact ⟨by rw [show mayE l ⟨ki, k, v, r, i, j⟩ = 8 from by simp [mayE, hyo, hyy, hq, hr, h5]]; rfl, HB.out⟩
    · have h5b : (ki == 5) = false := beq_eq_false_iff_ne.mpr h5
      by_cases hv : v.size ≤ 65536
      · rw [decide_eq_true hv] at HVAL
        by_cases h3 : ki = 3
        · have h3b : (ki == 3) = true := by rw [h3]; rfl
          cases yo with
          | true =>
            go_wp2_with (first | (((with_reducible refine calls_id ?_); refine (HKEY.out _).mono ?_; rintro r w9 ⟨rfl, rfl⟩)) | (((with_reducible refine calls_id ?_); refine (HVAL.out _).mono ?_; rintro r w9 ⟨rfl, rfl⟩)))
            go_ret
            exact ⟨by rw [show mayE l ⟨ki, k, v, r, i, j⟩ = 7 from by simp [mayE, hyo, hyy, hq, hv, h3]]; rfl, HB.out⟩
          | false =>
            go_upto_region 10 with (first | (((with_reducible refine calls_id ?_); refine (HKEY.out _).mono ?_; rintro r w9 ⟨rfl, rfl⟩)) | (((with_reducible refine calls_id ?_); refine (HVAL.out _).mono ?_; rintro r w9 ⟨rfl, rfl⟩)))
            replace h0 := HM.out
            have hb := HB.out
            clear HB
            obtain ⟨⟨x0, x1, x2, x3, x4, x5⟩, xf⟩ := at6 h0
            obtain ⟨wq, hwq⟩ : ∃ wq, wq = w4 := ⟨_, rfl⟩
            have hs2 : w.heap.size + 1 ≤ w4.heap.size := h0.lt
            clear ym q0 q1 q2 qf hwq wq
            generalize w4 = w1 at *
            refine region_any (by kernel_rfl) ?_
            change wpAny _ _ _ _ _ _ _ (World.drew _)
            replace h0 := h0.drew
            replace hb := hb.drew
            have HST := Lib.hid HST.out.drew
            replace hs2 : w.heap.size + 1 ≤ w1.drew.heap.size := hs2
            clear x0 x1 x2 x3 x4 x5 xf
            generalize World.drew _ = w2 at *
            have hlt2 := HST.out.lt
            obtain ⟨⟨x0, x1, x2, x3, x4, x5⟩, xf⟩ := at6 h0
            obtain ⟨⟨s0, s1⟩, sf⟩ := at2 HST.out.at_
            have l0 := h0.lt
            have l1 := HST.out.lt.1
            obtain ⟨y, hyz⟩ : ∃ y, getI l i = y := ⟨_, rfl⟩
            have hlk : ∀ w', Below w2.heap.size w2 w' → _ := fun w' hb => (HST.out.step hb).mp.look (k := i) his
            rw [hyz] at hlk
            obtain ⟨zk, zv, zr⟩ := y
            obtain ⟨zo, hzo⟩ : ∃ yo, (findI l i).isSome = yo := ⟨_, rfl⟩
            rw [hzo] at hlk
            unfold It.val at hlk
            simp only at hlk
            refine stage 11 ?_
            refine tag [0,1,2,3,4,5,6,7,8] ?_
            iterate 9 (
              refine sR (v := ?_) rfl (by kernel_rfl) (fun _ _ _ h => h) (Or.inl ⟨by kernel_rfl, ?_⟩) ?_
              rotate_left
              · (intro wS hwS; obtain ⟨hcS, hfS, hhS⟩ := bcell hwS; go_simp; try (first | (with_reducible rfl) | rw [if_pos (by omega)] | rw [if_neg (by omega)]))
              try simp only [PT])
            refine tagN ?_
            refine tag [9] ?_
            refine sP (v := ?_) rfl (by kernel_rfl) (fun _ _ _ h => h) (Or.inl ⟨by kernel_rfl, ?_⟩) ?_
            rotate_left
            · (intro wS; go_simp; try (first | (with_reducible rfl) | rw [if_pos (by omega)] | rw [if_neg (by omega)]))
            try simp only [PT]
            refine tagN ?_
            refine stage_one 10 (by kernel_rfl) rfl (by kernel_rfl) (fun K hK => ?_)
            go_simp
            obtain ⟨hy3, hb3⟩ := one_at w2 35 [.string ⟨#[]⟩, .string ⟨#[]⟩, .int .i64 0]
            refine hK.out _ _ (hb3) ?_
            clear hK K
            try simp only [PT]
            replace h0 := h0.below hb3
            skip
            replace hb := chain hb hb3
            have HST := Lib.hid (HST.out.step hb3)
            have hs3 := hb3.size
            clear hb3 hlk x0 x1 x2 x3 x4 x5 xf s0 s1 sf l0 l1
            have hgy : w2.heap.size < (World.alloc w2 (.cells #[.string ⟨#[]⟩, .string ⟨#[]⟩, .int .i64 0] 35)).heap.size := by simp
            generalize World.alloc _ _ = w3 at *
            obtain ⟨⟨y0, y1, y2⟩, z0, z1, z2⟩ := at3 hy3

            refine stage_end (by kernel_rfl) rfl (fun K hK => ?_)
            go_simp
            refine hK.out _ _ ?_
            clear hK K
            try simp only [PT]
            first | refine stage 1000000 ?_ | skip
            refine tag [12] ?_
            refine sR (v := ?_) rfl (by kernel_rfl) (fun _ _ _ h => h) (Or.inl ⟨by kernel_rfl, ?_⟩) ?_
            rotate_left
            · (intro wS hwS; obtain ⟨hcS, hfS, hhS⟩ := bcell hwS; go_simp; try (first | (with_reducible rfl) | rw [if_pos (by omega)] | rw [if_neg (by omega)]))
            try simp only [PT]
            refine tagN ?_
            first | refine wpAnyT_done (by kernel_rfl) ?_ _ | refine wpAny_done (by kernel_rfl) ?_ _
            obtain ⟨zm, hG⟩ := At.many [(0, .string zk), (1, .string zv), (2, .int .i64 zr)] hy3
            dsimp only [setMany, setL, List.set] at zm hG
            have hh0 := h0.lt
            replace h0 := h0.only hG (by omega)
            skip
            have HST := Lib.hid (HST.out.only hG (by have := hlt2.1; omega) (by have := hlt2.2; omega))
            replace hb := hb.trans ((Below.refl w.heap.size w3).grown hG (by omega) (by intro i hi; injection hi with hi; omega))
            have hs4 := hG.size
            clear hy3 y0 y1 y2 z0 z1 z2 hG hh0
            generalize World.setCell _ _ _ = w4 at *
            generalize hgz : w2.heap.size = gz at *
            obtain ⟨⟨q0, q1, q2⟩, qf⟩ := at3 zm
            obtain ⟨⟨x0, x1, x2, x3, x4, x5⟩, xf⟩ := at6 h0
            have HB := Lib.hid hb
            clear hb h0 zm
            have he := empty_iff i
            have hzz : (getI l i).r = zr := by rw [hyz]
            by_cases hi : 1 ≤ i.size
            · rw [decide_eq_true hi] at he
              cases zo with
              | false =>
                go_wp2_with fail
                go_ret
                exact ⟨by rw [show mayE l ⟨ki, k, v, r, i, j⟩ = 8 from by simp [mayE, hyo, hyy, hq, hv, h3, hi, stands, hzo]]; rfl, HB.out⟩
              | true =>
                by_cases hzj : zr = j
                · have hzb : (zr == j) = true := by rw [hzj]; simp
                  go_wp2_with fail
                  go_ret
                  exact ⟨by rw [show mayE l ⟨ki, k, v, r, i, j⟩ = 0 from by simp [mayE, hyo, hyy, hq, hv, h3, hi, stands, hzo, hzz, hzj]]; rfl, HB.out⟩
                · have hzb : (zr == j) = false := beq_eq_false_iff_ne.mpr hzj
                  go_wp2_with fail
                  go_ret
                  exact ⟨by rw [show mayE l ⟨ki, k, v, r, i, j⟩ = 8 from by simp [mayE, hyo, hyy, hq, hv, h3, hi, stands, hzo, hzz, hzj]]; rfl, HB.out⟩
            · rw [decide_eq_false hi] at he
              cases zo with
              | false =>
                go_wp2_with fail
                go_ret
                exact ⟨by rw [show mayE l ⟨ki, k, v, r, i, j⟩ = 0 from by simp [mayE, hyo, hyy, hq, hv, h3, hi, stands, hzo]]; rfl, HB.out⟩
              | true =>
                go_wp2_with fail
                go_ret
                exact ⟨by rw [show mayE l ⟨ki, k, v, r, i, j⟩ = 0 from by simp [mayE, hyo, hyy, hq, hv, h3, hi, stands, hzo]]; rfl, HB.out⟩
        · have h3b : (ki == 3) = false := beq_eq_false_iff_ne.mpr h3
          cases yo with
          | false =>
            go_wp2_with (first | (((with_reducible refine calls_id ?_); refine (HKEY.out _).mono ?_; rintro r w9 ⟨rfl, rfl⟩)) | (((with_reducible refine calls_id ?_); refine (HVAL.out _).mono ?_; rintro r w9 ⟨rfl, rfl⟩)))
            go_ret
            exact ⟨by rw [show mayE l ⟨ki, k, v, r, i, j⟩ = 6 from by simp [mayE, hyo, hyy, hq, hv, h3, h5]]; rfl, HB.out⟩
          | true =>
            by_cases hr : yr = r
            · have hrb : (yr == r) = true := by rw [hr]; simp
              go_upto_region 10 with (first | (((with_reducible refine calls_id ?_); refine (HKEY.out _).mono ?_; rintro r w9 ⟨rfl, rfl⟩)) | (((with_reducible refine calls_id ?_); refine (HVAL.out _).mono ?_; rintro r w9 ⟨rfl, rfl⟩)))
              replace h0 := HM.out
              have hb := HB.out
              clear HB
              obtain ⟨⟨x0, x1, x2, x3, x4, x5⟩, xf⟩ := at6 h0
              obtain ⟨wq, hwq⟩ : ∃ wq, wq = w4 := ⟨_, rfl⟩
              have hs2 : w.heap.size + 1 ≤ w4.heap.size := h0.lt
              clear ym q0 q1 q2 qf hwq wq
              generalize w4 = w1 at *
              refine region_any (by kernel_rfl) ?_
              change wpAny _ _ _ _ _ _ _ (World.drew _)
              replace h0 := h0.drew
              replace hb := hb.drew
              have HST := Lib.hid HST.out.drew
              replace hs2 : w.heap.size + 1 ≤ w1.drew.heap.size := hs2
              clear x0 x1 x2 x3 x4 x5 xf
              generalize World.drew _ = w2 at *
              have hlt2 := HST.out.lt
              obtain ⟨⟨x0, x1, x2, x3, x4, x5⟩, xf⟩ := at6 h0
              obtain ⟨⟨s0, s1⟩, sf⟩ := at2 HST.out.at_
              have l0 := h0.lt
              have l1 := HST.out.lt.1
              obtain ⟨y, hyz⟩ : ∃ y, getI l i = y := ⟨_, rfl⟩
              have hlk : ∀ w', Below w2.heap.size w2 w' → _ := fun w' hb => (HST.out.step hb).mp.look (k := i) his
              rw [hyz] at hlk
              obtain ⟨zk, zv, zr⟩ := y
              obtain ⟨zo, hzo⟩ : ∃ yo, (findI l i).isSome = yo := ⟨_, rfl⟩
              rw [hzo] at hlk
              unfold It.val at hlk
              simp only at hlk
              refine stage 11 ?_
              refine tag [0,1,2,3,4,5,6,7,8] ?_
              iterate 9 (
                refine sR (v := ?_) rfl (by kernel_rfl) (fun _ _ _ h => h) (Or.inl ⟨by kernel_rfl, ?_⟩) ?_
                rotate_left
                · (intro wS hwS; obtain ⟨hcS, hfS, hhS⟩ := bcell hwS; go_simp; try (first | (with_reducible rfl) | rw [if_pos (by omega)] | rw [if_neg (by omega)]))
                try simp only [PT])
              refine tagN ?_
              refine tag [9] ?_
              refine sP (v := ?_) rfl (by kernel_rfl) (fun _ _ _ h => h) (Or.inl ⟨by kernel_rfl, ?_⟩) ?_
              rotate_left
              · (intro wS; go_simp; try (first | (with_reducible rfl) | rw [if_pos (by omega)] | rw [if_neg (by omega)]))
              try simp only [PT]
              refine tagN ?_
              refine stage_one 10 (by kernel_rfl) rfl (by kernel_rfl) (fun K hK => ?_)
              go_simp
              obtain ⟨hy3, hb3⟩ := one_at w2 35 [.string ⟨#[]⟩, .string ⟨#[]⟩, .int .i64 0]
              refine hK.out _ _ (hb3) ?_
              clear hK K
              try simp only [PT]
              replace h0 := h0.below hb3
              skip
              replace hb := chain hb hb3
              have HST := Lib.hid (HST.out.step hb3)
              have hs3 := hb3.size
              clear hb3 hlk x0 x1 x2 x3 x4 x5 xf s0 s1 sf l0 l1
              have hgy : w2.heap.size < (World.alloc w2 (.cells #[.string ⟨#[]⟩, .string ⟨#[]⟩, .int .i64 0] 35)).heap.size := by simp
              generalize World.alloc _ _ = w3 at *
              obtain ⟨⟨y0, y1, y2⟩, z0, z1, z2⟩ := at3 hy3

              refine stage_end (by kernel_rfl) rfl (fun K hK => ?_)
              go_simp
              refine hK.out _ _ ?_
              clear hK K
              try simp only [PT]
              first | refine stage 1000000 ?_ | skip
              refine tag [12] ?_
              refine sR (v := ?_) rfl (by kernel_rfl) (fun _ _ _ h => h) (Or.inl ⟨by kernel_rfl, ?_⟩) ?_
              rotate_left
              · (intro wS hwS; obtain ⟨hcS, hfS, hhS⟩ := bcell hwS; go_simp; try (first | (with_reducible rfl) | rw [if_pos (by omega)] | rw [if_neg (by omega)]))
              try simp only [PT]
              refine tagN ?_
              first | refine wpAnyT_done (by kernel_rfl) ?_ _ | refine wpAny_done (by kernel_rfl) ?_ _
              obtain ⟨zm, hG⟩ := At.many [(0, .string zk), (1, .string zv), (2, .int .i64 zr)] hy3
              dsimp only [setMany, setL, List.set] at zm hG
              have hh0 := h0.lt
              replace h0 := h0.only hG (by omega)
              skip
              have HST := Lib.hid (HST.out.only hG (by have := hlt2.1; omega) (by have := hlt2.2; omega))
              replace hb := hb.trans ((Below.refl w.heap.size w3).grown hG (by omega) (by intro i hi; injection hi with hi; omega))
              have hs4 := hG.size
              clear hy3 y0 y1 y2 z0 z1 z2 hG hh0
              generalize World.setCell _ _ _ = w4 at *
              generalize hgz : w2.heap.size = gz at *
              obtain ⟨⟨q0, q1, q2⟩, qf⟩ := at3 zm
              obtain ⟨⟨x0, x1, x2, x3, x4, x5⟩, xf⟩ := at6 h0
              have HB := Lib.hid hb
              clear hb h0 zm
              have he := empty_iff i
              have hzz : (getI l i).r = zr := by rw [hyz]
              by_cases hi : 1 ≤ i.size
              · rw [decide_eq_true hi] at he
                cases zo with
                | false =>
                  go_wp2_with fail
                  go_ret
                  exact ⟨by rw [show mayE l ⟨ki, k, v, r, i, j⟩ = 8 from by simp [mayE, hyo, hyy, hq, hv, hr, h3, h5, hi, stands, hzo]]; rfl, HB.out⟩
                | true =>
                  by_cases hzj : zr = j
                  · have hzb : (zr == j) = true := by rw [hzj]; simp
                    go_wp2_with fail
                    go_ret
                    exact ⟨by rw [show mayE l ⟨ki, k, v, r, i, j⟩ = 0 from by simp [mayE, hyo, hyy, hq, hv, hr, h3, h5, hi, stands, hzo, hzz, hzj]]; rfl, HB.out⟩
                  · have hzb : (zr == j) = false := beq_eq_false_iff_ne.mpr hzj
                    go_wp2_with fail
                    go_ret
                    exact ⟨by rw [show mayE l ⟨ki, k, v, r, i, j⟩ = 8 from by simp [mayE, hyo, hyy, hq, hv, hr, h3, h5, hi, stands, hzo, hzz, hzj]]; rfl, HB.out⟩
              · rw [decide_eq_false hi] at he
                cases zo with
                | false =>
                  go_wp2_with fail
                  go_ret
                  exact ⟨by rw [show mayE l ⟨ki, k, v, r, i, j⟩ = 0 from by simp [mayE, hyo, hyy, hq, hv, hr, h3, h5, hi, stands, hzo]]; rfl, HB.out⟩
                | true =>
                  go_wp2_with fail
                  go_ret
                  exact ⟨by rw [show mayE l ⟨ki, k, v, r, i, j⟩ = 0 from by simp [mayE, hyo, hyy, hq, hv, hr, h3, h5, hi, stands, hzo]]; rfl, HB.out⟩
            · have hrb : (yr == r) = false := beq_eq_false_iff_ne.mpr hr
              have h3n : (ki != 3) = true := by simp [h3]
              have h5n : (ki != 5) = true := by simp [h5]
              have hrn : (yr != r) = true := by simp [hr]
              go_wp2_with (first | (((with_reducible refine calls_id ?_); refine (HKEY.out _).mono ?_; rintro r w9 ⟨rfl, rfl⟩)) | (((with_reducible refine calls_id ?_); refine (HVAL.out _).mono ?_; rintro r w9 ⟨rfl, rfl⟩)))
              go_ret
              exact ⟨by rw [show mayE l ⟨ki, k, v, r, i, j⟩ = 8 from by simp [mayE, hyo, hyy, hq, hv, hr, h3, h5]]; rfl, HB.out⟩
      · rw [decide_eq_false hv] at HVAL
        go_wp2_with (first | (((with_reducible refine calls_id ?_); refine (HKEY.out _).mono ?_; rintro r w9 ⟨rfl, rfl⟩)) | (((with_reducible refine calls_id ?_); refine (HVAL.out _).mono ?_; rintro r w9 ⟨rfl, rfl⟩)))
        go_ret
        exact ⟨by rw [show mayE l ⟨ki, k, v, r, i, j⟩ = 1 from by simp [mayE, hyo, hyy, hq, hv, h5]]; rfl, HB.out⟩
end Go.Proofs.YtnkjekkdndjfaaaGreat
