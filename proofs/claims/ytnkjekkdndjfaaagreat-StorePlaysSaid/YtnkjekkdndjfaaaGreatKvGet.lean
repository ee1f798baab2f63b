
/- Chapter 9: New, Rev, Len, key, val, read. -/
import Derived.Test.YtnkjekkdndjfaaaGreatKvBegin
import Derived.Test.YtnkjekkdndjfaaaGreatOps
namespace Go.Proofs.YtnkjekkdndjfaaaGreat
set_option linter.unusedVariables false
set_option linter.unusedSimpArgs false
open Go.RowKit
theorem new_st (w : World) : Calls Tryz.prog 60 #[] w fun r w' => ∃ g b, r = .returned (.pointer (some ⟨g, 0, none⟩)) ∧ IsSt w' g b 0 0 [] ∧ w.heap.size ≤ b ∧ b < g ∧ Below w.heap.size w w' := by
  have hmm := run_makeMap (P := Tryz.prog) 144 w
  go_enter Tryz.func60, Tryz.ntmps60
  go_wp2_with fail
  go_ret
  have hm := IsMp.made w
  have hb1 := (Below.refl w.heap.size w).alloc (Nat.le_refl _) (.map #[] 0)
  obtain ⟨h0, hb2⟩ := one_at (w.alloc (.map #[] 0)) 146 [.int .i64 0, .map (some w.heap.size)]
  have hs : (w.alloc (.map #[] 0)).heap.size = w.heap.size + 1 := by simp
  refine ⟨w.heap.size + 1, w.heap.size, by simp, ⟨?_, hm.step hb2, by omega⟩, by omega, by omega, chain hb1 hb2⟩
  rw [← hs]
  exact h0
theorem rev_any {g b N : Nat} {rev : Int} {l : List It} (w : World) (hst : IsSt w g b N rev l) : Calls Tryz.prog 39 #[.pointer (some ⟨g, 0, none⟩)] w fun r w' => r = .returned (.int .i64 rev) ∧ w = w' := by
  obtain ⟨⟨x0, x1⟩, f0, f1⟩ := at2 hst.at_
  clear hst
  go_enter Tryz.func39, Tryz.ntmps39
  go_wp2_with fail
  go_ret
  exact ⟨rfl, rfl⟩
def keyB (k : ByteArray) : Bool := decide (1 ≤ k.size) && decide (k.size ≤ 128)
theorem empty_iff (k : ByteArray) : k.toList.isEmpty = !decide (1 ≤ k.size) := by
  rw [Bool.eq_iff_iff, Lib.toList_data, List.isEmpty_iff]
  have e : k.data.toList.length = k.size := by rw [Array.length_toList]; rfl
  rw [← List.length_eq_zero_iff, e]
  simp
theorem key_any (k : ByteArray) (w : World) : Calls Tryz.prog 115 #[.string k] w fun r w' => r = .returned (.bool (keyB k)) ∧ w = w' := by
  unfold keyB
  have he := empty_iff k
  by_cases h : 1 ≤ k.size
  · rw [decide_eq_true h] at *
    go_enter Tryz.func115, Tryz.ntmps115
    go_wp2_with fail
    go_ret
    exact ⟨by simp; omega, rfl⟩
  · rw [decide_eq_false h] at *
    go_enter Tryz.func115, Tryz.ntmps115
    go_wp2_with fail
    go_ret
    exact ⟨by simp, rfl⟩
theorem val_any (k : ByteArray) (w : World) : Calls Tryz.prog 116 #[.string k] w fun r w' => r = .returned (.bool (decide (k.size ≤ 65536))) ∧ w = w' := by
  go_enter Tryz.func116, Tryz.ntmps116
  go_wp2_with fail
  go_ret
  exact ⟨by simp; omega, rfl⟩
/-- what is told -/
def RsR (w w' : World) (code rev : Int) (val : ByteArray) (items : List It) (r : Ending) : Prop :=
  ∃ A n c, r = .returned (.agg #[.int .i64 code, .int .i64 rev, .string val, .slice A n c]) ∧ OwnI w' w.heap.size A n c items ∧ Below w.heap.size w w'
set_option maxRecDepth 100000 in
set_option maxHeartbeats 4000000 in
theorem read_list {g b N : Nat} {rev : Int} {l : List It} (k v i : ByteArray) (r j : Int) (w : World) (hst : IsSt w g b N rev l) (hN : N ≤ 1000000) (hk : ∀ x ∈ l, x.k.size ≤ 1000) :
    Calls Tryz.prog 70 #[.pointer (some ⟨g, 0, none⟩), .agg #[.int .i64 2, .string k, .string v, .int .i64 r, .string i, .int .i64 j]] w fun x w' => RsR w w' 0 rev ⟨#[]⟩ (l.filter fun x => begB k x.k) x := by
  obtain ⟨h0, h1, hb⟩ := two_at w 49 [.int .i64 2, .string k, .string v, .int .i64 r, .string i, .int .i64 j] 58 [.int .i64 0, .int .i64 0, .string ⟨#[]⟩, .slice none 0 0]
  have hlt := hst.lt
  have HST := Lib.hid (hst.step hb)
  have HK := Lib.hid hk
  clear hst hk
  go_enter Tryz.func70, Tryz.ntmps70
  go_upto_region 1 with fail
  generalize hW1 : World.alloc (World.alloc w _) _ = w1 at *
  have hsz : w.heap.size + 2 ≤ w1.heap.size := by rw [← hW1]; simp
  clear hW1
  obtain ⟨⟨x0, x1, x2, x3, x4, x5⟩, xf⟩ := at6 h0
  go_upto_region 2 with fail
  refine region_any (by kernel_rfl) ?_
  change wpAny _ _ _ _ _ _ _ (World.drew _)
  replace h0 := h0.drew
  replace h1 := h1.drew
  replace hb := hb.drew
  have HST := Lib.hid HST.out.drew
  replace hsz : w.heap.size + 2 ≤ w1.drew.heap.size := hsz
  clear x0 x1 x2 x3 x4 x5 xf
  generalize World.drew _ = w2 at *
  obtain ⟨⟨x0, x1, x2, x3, x4, x5⟩, xf⟩ := at6 h0
  obtain ⟨⟨s0, s1⟩, sf⟩ := at2 HST.out.at_
  have l0 := h0.lt
  have l1 := HST.out.lt.1
  refine stage 9 ?_
  refine tag [0,1,2,3,4,5,6] ?_
  iterate 7 (
    refine sR (v := ?_) rfl (by kernel_rfl) (fun _ _ _ h => h) (Or.inl ⟨by kernel_rfl, ?_⟩) ?_
    rotate_left
    · (intro wS hwS; obtain ⟨hcS, hfS, hhS⟩ := bcell hwS; go_simp; try (first | (with_reducible rfl) | rw [if_pos (by omega)] | rw [if_neg (by omega)]))
    try simp only [PT])
  refine tagN ?_
  refine stage_one 7 (by kernel_rfl) rfl (by kernel_rfl) (fun K hK => ?_)
  go_simp
  refine (begin_any k _ HST.out hN HK.out).mono ?_
  rintro y w3 ⟨A2, n2, c2, rfl, hown, hb3⟩
  refine hK.out _ _ (hb3) ?_
  clear hK K
  try simp only [PT]
  replace h1 := h1.below hb3
  replace hb := chain hb hb3
  have hsz3 := hb3.size
  clear x0 x1 x2 x3 x4 x5 xf s0 s1 sf l0 l1 h0 hb3
  obtain ⟨⟨y0, y1, y2, y3⟩, z0, z1, z2, z3⟩ := at4 h1
  refine tag [8] ?_
  refine sR (v := ?_) rfl (by kernel_rfl) (fun _ _ _ h => h) (Or.inl ⟨by kernel_rfl, ?_⟩) ?_
  rotate_left
  · (intro wS hwS; obtain ⟨hcS, hfS, hhS⟩ := bcell hwS; go_simp; try (first | (with_reducible rfl) | rw [if_pos (by omega)] | rw [if_neg (by omega)]))
  try simp only [PT]
  refine tagN ?_
  refine stage_end (by kernel_rfl) rfl (fun K hK => ?_)
  go_simp
  refine hK.out _ _ ?_
  clear hK K
  try simp only [PT]
  first | refine wpAnyT_done (by kernel_rfl) ?_ _ | refine wpAny_done (by kernel_rfl) ?_ _
  obtain ⟨hm, hG⟩ := At.many [(0, .int .i64 0), (1, .int .i64 rev), (2, .string ⟨#[]⟩), (3, .slice A2 n2 c2)] h1
  dsimp only [setMany, setL, List.set] at hm hG
  have hown := own_mod (show w3.ownsRow _ _ _ _ _ _ from hown) (grown_mod hG) (fun i o _ hi _ e => by injection e with e; omega)
  have hb := hb.trans ((Below.refl w.heap.size w3).grown hG (by omega) (by intro i hi; injection hi with hi; omega))
  clear h1 y0 y1 y2 y3 z0 z1 z2 z3 hG
  generalize World.setCell _ _ _ = w4 at *
  obtain ⟨⟨y0, y1, y2, y3⟩, _⟩ := at4 hm
  go_wp2_with fail
  exact bodyPost_ret (v := .agg #[.int .i64 0, .int .i64 rev, .string ⟨#[]⟩, .slice A2 n2 c2]) (by simp [results, Tryz.results70, go_sem, y0, y1, y2, y3]) rfl ⟨A2, n2, c2, rfl, own_lower hown (by omega), hb⟩
end Go.Proofs.YtnkjekkdndjfaaaGreat
namespace Go.Proofs.YtnkjekkdndjfaaaGreat
set_option linter.unusedVariables false
set_option linter.unusedSimpArgs false
open Go.RowKit
/-- what is told of a Get -/
def getR (l : List It) (k : ByteArray) : Int × Int × ByteArray := match findI l k with | some y => (0, y.r, y.v) | none => (6, 0, ⟨#[]⟩)
set_option maxRecDepth 100000 in
set_option maxHeartbeats 4000000 in
theorem read_get {g b N : Nat} {rev : Int} {l : List It} (ki : Int) (k v i : ByteArray) (r j : Int) (w : World) (hst : IsSt w g b N rev l) (hks : k.size ≤ maxLen) (hki : ki ≠ 2) :
    Calls Tryz.prog 70 #[.pointer (some ⟨g, 0, none⟩), .agg #[.int .i64 ki, .string k, .string v, .int .i64 r, .string i, .int .i64 j]] w fun x w' =>
      RsR w w' (getR l k).1 (getR l k).2.1 (getR l k).2.2 [] x := by
  obtain ⟨h0, h1, hb⟩ := two_at w 49 [.int .i64 ki, .string k, .string v, .int .i64 r, .string i, .int .i64 j] 58 [.int .i64 0, .int .i64 0, .string ⟨#[]⟩, .slice none 0 0]
  have hlt := hst.lt
  have HST := Lib.hid (hst.step hb)
  have hkb : (ki == 2) = false := beq_eq_false_iff_ne.mpr hki
  clear hst
  go_enter Tryz.func70, Tryz.ntmps70
  go_upto_region 1 with fail
  generalize hW1 : World.alloc (World.alloc w _) _ = w1 at *
  have hsz : w.heap.size + 2 ≤ w1.heap.size := by rw [← hW1]; simp
  clear hW1
  obtain ⟨⟨x0, x1, x2, x3, x4, x5⟩, xf⟩ := at6 h0
  go_upto_region 3 with fail
  have hlt2 : g < w1.drew.heap.size ∧ b < w1.drew.heap.size := HST.out.lt
  replace hsz : w.heap.size + 2 ≤ w1.drew.heap.size := hsz
  replace h1 := h1.drew
  refine region_any (by kernel_rfl) ?_
  change wpAny _ _ _ _ _ _ _ (World.drew _)
  replace h0 := h0.drew
  replace hb := hb.drew
  have HST := Lib.hid HST.out.drew
  skip
  clear x0 x1 x2 x3 x4 x5 xf
  generalize World.drew _ = w2 at *
  obtain ⟨⟨x0, x1, x2, x3, x4, x5⟩, xf⟩ := at6 h0
  obtain ⟨⟨s0, s1⟩, sf⟩ := at2 HST.out.at_
  have l0 := h0.lt
  have l1 := HST.out.lt.1
  obtain ⟨y, hy⟩ : ∃ y, getI l k = y := ⟨_, rfl⟩
  have hlk : ∀ w', Below w2.heap.size w2 w' → _ := fun w' hb => (HST.out.step hb).mp.look (k := k) hks
  rw [hy] at hlk
  obtain ⟨yk, yv, yr⟩ := y
  obtain ⟨yo, hyo⟩ : ∃ yo, (findI l k).isSome = yo := ⟨_, rfl⟩
  rw [hyo] at hlk
  unfold It.val at hlk
  simp only at hlk
  refine stage 11 ?_
  refine tag [0,1,2,3,4,5,6,7,8] ?_
  iterate 9 (
    refine sR (v := ?_) rfl (by kernel_rfl) (fun _ _ _ h => h) (Or.inl ⟨by kernel_rfl, ?_⟩) ?_
    rotate_left
    · (intro wS hwS; obtain ⟨hcS, hfS, hhS⟩ := bcell hwS; go_simp; try (first | (with_reducible rfl) | rw [if_pos (by omega)] | rw [if_neg (by omega)]))
    try simp only [PT])
  refine tagN ?_
  refine tag [9] ?_
  refine sP (v := ?_) rfl (by kernel_rfl) (fun _ _ _ h => h) (Or.inl ⟨by kernel_rfl, ?_⟩) ?_
  rotate_left
  · (intro wS; go_simp; try (first | (with_reducible rfl) | rw [if_pos (by omega)] | rw [if_neg (by omega)]))
  try simp only [PT]
  refine tagN ?_
  refine stage_one 10 (by kernel_rfl) rfl (by kernel_rfl) (fun K hK => ?_)
  go_simp
  obtain ⟨hy3, hb3⟩ := one_at w2 35 [.string ⟨#[]⟩, .string ⟨#[]⟩, .int .i64 0]
  refine hK.out _ _ (hb3) ?_
  clear hK K
  try simp only [PT]
  replace h0 := h0.below hb3
  replace h1 := h1.below hb3
  replace hb := chain hb hb3
  have HST := Lib.hid (HST.out.step hb3)
  have hs3 := hb3.size
  clear hb3 hlk x0 x1 x2 x3 x4 x5 xf s0 s1 sf l0 l1
  have hgy : w2.heap.size < (World.alloc w2 (.cells #[.string ⟨#[]⟩, .string ⟨#[]⟩, .int .i64 0] 35)).heap.size := by simp
  generalize World.alloc _ _ = w3 at *
  obtain ⟨⟨y0, y1, y2⟩, z0, z1, z2⟩ := at3 hy3

  refine stage_end (by kernel_rfl) rfl (fun K hK => ?_)
  go_simp
  refine hK.out _ _ ?_
  clear hK K
  try simp only [PT]
  first | refine stage 1000000 ?_ | skip
  refine tag [12] ?_
  refine sR (v := ?_) rfl (by kernel_rfl) (fun _ _ _ h => h) (Or.inl ⟨by kernel_rfl, ?_⟩) ?_
  rotate_left
  · (intro wS hwS; obtain ⟨hcS, hfS, hhS⟩ := bcell hwS; go_simp; try (first | (with_reducible rfl) | rw [if_pos (by omega)] | rw [if_neg (by omega)]))
  try simp only [PT]
  refine tagN ?_
  first | refine wpAnyT_done (by kernel_rfl) ?_ _ | refine wpAny_done (by kernel_rfl) ?_ _
  obtain ⟨hm, hG⟩ := At.many [(0, .string yk), (1, .string yv), (2, .int .i64 yr)] hy3
  dsimp only [setMany, setL, List.set] at hm hG
  replace h0 := h0.only hG (by omega)
  replace h1 := h1.only hG (by omega)
  have hlt3 := HST.out.lt
  have HST := Lib.hid (HST.out.only hG (by have := hlt2.1; omega) (by have := hlt2.2; omega))
  replace hb := hb.trans ((Below.refl w.heap.size w3).grown hG (by omega) (by intro i hi; injection hi with hi; omega))
  clear hy3 y0 y1 y2 z0 z1 z2 hG
  generalize World.setCell _ _ _ = w4 at *
  obtain ⟨⟨y0, y1, y2⟩, yf⟩ := at3 hm
  obtain ⟨⟨u0, u1, u2, u3⟩, v0, v1, v2, v3⟩ := at4 h1
  have HM := Lib.hid h1
  have HB := Lib.hid hb
  have hz : w.heap.size + 1 < w4.heap.size := h1.lt
  clear hm h0 h1 hb
  cases hf : findI l k with
  | none =>
    rw [hf] at hyo
    simp only [Option.isSome_none] at hyo
    subst hyo
    have hgr : getR l k = (6, 0, ⟨#[]⟩) := by unfold getR; rw [hf]
    go_wp2_with fail
    obtain ⟨hm, hG⟩ := At.many [(0, .int .i64 6), (1, .int .i64 0), (2, .string ⟨#[]⟩), (3, .slice none 0 0)] HM.out
    dsimp only [setMany, setL, List.set] at hm hG
    have hb := HB.out.trans ((Below.refl w.heap.size w4).grown hG (by omega) (by intro i hi; injection hi with hi; omega))
    clear u0 u1 u2 u3 v0 v1 v2 v3 hG
    generalize World.setCell _ _ _ = w5 at *
    obtain ⟨⟨u0, u1, u2, u3⟩, _⟩ := at4 hm
    exact bodyPost_ret (v := .agg #[.int .i64 6, .int .i64 0, .string ⟨#[]⟩, .slice none 0 0]) (by simp [results, Tryz.results70, go_sem, u0, u1, u2, u3]) rfl ⟨none, 0, 0, by rw [hgr], OwnI.nil, hb⟩
  | some y =>
    rw [hf] at hyo
    simp only [Option.isSome_some] at hyo
    subst hyo
    have hyy : y = ⟨yk, yv, yr⟩ := by rw [← hy]; simp [getI, hf]
    subst hyy
    have hgr : getR l k = (0, yr, yv) := by unfold getR; rw [hf]
    go_wp2_with fail
    obtain ⟨hm, hG⟩ := At.many [(0, .int .i64 0), (1, .int .i64 yr), (2, .string yv), (3, .slice none 0 0)] HM.out
    dsimp only [setMany, setL, List.set] at hm hG
    have hb := HB.out.trans ((Below.refl w.heap.size w4).grown hG (by omega) (by intro i hi; injection hi with hi; omega))
    clear u0 u1 u2 u3 v0 v1 v2 v3 hG
    generalize World.setCell _ _ _ = w5 at *
    obtain ⟨⟨u0, u1, u2, u3⟩, _⟩ := at4 hm
    exact bodyPost_ret (v := .agg #[.int .i64 0, .int .i64 yr, .string yv, .slice none 0 0]) (by simp [results, Tryz.results70, go_sem, u0, u1, u2, u3]) rfl ⟨none, 0, 0, by rw [hgr], OwnI.nil, hb⟩
end Go.Proofs.YtnkjekkdndjfaaaGreat
