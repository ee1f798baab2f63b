
/- Chapter 9: the document's Plan, list and bad kinds (printed by rplan.py). -/
import Derived.Test.YtnkjekkdndjfaaaGreatKvRP
namespace Go.Proofs.YtnkjekkdndjfaaaGreat
set_option linter.unusedVariables false
set_option linter.unusedSimpArgs false
open Go.RowKit
set_option maxRecDepth 100000 in
set_option maxHeartbeats 4000000 in
theorem rplan_list (A : Option Addr) (n c : Nat) (l : List It) (rev : Int) (ki : Int) (k v i : ByteArray) (r j : Int) (w : World) (hr : RdI w w.heap.size A n c l) (hn : n ≤ 1000000) (hki : ki = 2) :
    Calls Tryz.prog 40 #[.agg #[.int .i64 rev, .slice A n c], .agg #[.int .i64 ki, .string k, .string v, .int .i64 r, .string i, .int .i64 j]] w fun x w' => RPlanR w w' (planP rev l ⟨ki, k, v, r, i, j⟩) x := by
  have hp : planP rev l ⟨ki, k, v, r, i, j⟩ = ⟨⟨0, rev, ⟨#[]⟩, l.filter fun x => begB k x.k⟩, Eff.zero, false⟩ := by simp [planP, hki]
  have HP := Lib.hid hp
  clear hp
  have hk1 : (ki == 1) = false := by rw [hki]; rfl
  have hk2 : (ki == 2) = true := by rw [hki]; rfl
  clear hki
  obtain ⟨h0, h1, h2, h3, hb⟩ := four_at w 41 [.int .i64 rev, .slice A n c] 50 [.int .i64 ki, .string k, .string v, .int .i64 r, .string i, .int .i64 j] 54 [.int .i64 0, .int .i64 0, .string ⟨#[]⟩, .slice none 0 0] 110 [.string ⟨#[]⟩, .string ⟨#[]⟩, .int .i64 0, .bool false]
  have HR := Lib.hid (hr.step' hb)
  clear hr
  obtain ⟨y, hy⟩ : ∃ y, getI l k = y := ⟨_, rfl⟩
  obtain ⟨yo, hyo⟩ : ∃ yo, (findI l k).isSome = yo := ⟨_, rfl⟩
  have hrf := fun w hr => rfind_any A n c l rev k w hr
  rw [hy, hyo] at hrf
  obtain ⟨yk, yv, yr⟩ := y
  unfold It.val at hrf
  simp only at hrf
  have HRF := Lib.hid hrf
  clear hrf
  go_enter Tryz.func40, Tryz.ntmps40
  go_upto_region 1 with fail
  generalize hW1 : World.alloc (World.alloc (World.alloc (World.alloc w _) _) _) _ = w1 at *
  have hsz : w.heap.size + 4 ≤ w1.heap.size := by rw [← hW1]; simp
  clear hW1
  obtain ⟨⟨s0, s1⟩, sf⟩ := at2 h0
  obtain ⟨⟨x0, x1, x2, x3, x4, x5⟩, xf⟩ := at6 h1
  go_upto_region 2 with (((with_reducible refine calls_id ?_); refine (HRF.out w1 HR.out).mono ?_; rintro z w2 ⟨rfl, hb2⟩))
  obtain ⟨hy7, hb3⟩ := one_at w2 108 [.string yk, .string yv, .int .i64 yr]
  replace hb := chain (chain hb hb2) hb3
  replace h0 := (h0.step hb2).step hb3
  replace h1 := (h1.step hb2).step hb3
  replace h2 := (h2.step hb2).step hb3
  replace h3 := (h3.step hb2).step hb3
  have HR := Lib.hid ((HR.out.step hb2).step hb3)
  replace hsz : w.heap.size + 4 ≤ w2.heap.size := Nat.le_trans hsz hb2.size
  have hs3 := hb3.size
  clear hb2 hb3 s0 s1 sf x0 x1 x2 x3 x4 x5 xf HRF
  generalize World.alloc w2 _ = w3 at *
  obtain ⟨g7, hg7⟩ : ∃ g7, w2.heap.size = g7 := ⟨_, rfl⟩
  rw [hg7] at hy7 hsz hs3 ⊢
  clear hg7
  obtain ⟨⟨s0, s1⟩, sf⟩ := at2 h0
  obtain ⟨⟨x0, x1, x2, x3, x4, x5⟩, xf⟩ := at6 h1
  obtain ⟨⟨u0, u1, u2, u3⟩, v0, v1, v2, v3⟩ := at4 h2
  obtain ⟨⟨p0, p1, p2, p3⟩, q0, q1, q2, q3⟩ := at4 h3
  obtain ⟨⟨y0, y1, y2⟩, yf⟩ := at3 hy7
  go_upto_region 7 with fail
  clear s0 s1 sf x0 x1 x2 x3 x4 x5 xf u0 u1 u2 u3 v0 v1 v2 v3 p0 p1 p2 p3 q0 q1 q2 q3 y0 y1 y2 yf
  refine region_any (by kernel_rfl) ?_
  change wpAny _ _ _ _ _ _ _ (World.drew _)
  replace h0 := h0.drew
  replace h1 := h1.drew
  replace h2 := h2.drew
  replace h3 := h3.drew
  replace hb := hb.drew
  have HR := Lib.hid (show RdI w3.drew w3.drew.heap.size A n c l from HR.out.drewN 1)
  replace hs3 : g7 ≤ w3.drew.heap.size := hs3
  clear hy7
  generalize World.drew _ = w4 at *
  obtain ⟨⟨s0, s1⟩, sf⟩ := at2 h0
  obtain ⟨⟨x0, x1, x2, x3, x4, x5⟩, xf⟩ := at6 h1
  have l0 := h0.lt
  have l1 := h1.lt
  have hrb := rbegin_any A n c l rev k w4 HR.out hn
  refine stage 8 ?_
  refine tag [0,1,2,3,4] ?_
  iterate 5 (
    refine sR (v := ?_) rfl (by kernel_rfl) (fun _ _ _ h => h) (Or.inl ⟨by kernel_rfl, ?_⟩) ?_
    rotate_left
    · (intro wS hwS; obtain ⟨hcS, hfS, hhS⟩ := bcell hwS; go_simp; try (first | (with_reducible rfl) | rw [if_pos (by omega)] | rw [if_neg (by omega)]))
    try simp only [PT])
  refine tagN ?_
  refine tag [7] ?_
  refine sP (v := ?_) rfl (by kernel_rfl) (fun _ _ _ h => h) (Or.inl ⟨by kernel_rfl, ?_⟩) ?_
  rotate_left
  · (intro wS; go_simp; try (first | (with_reducible rfl) | rw [if_pos (by omega)] | rw [if_neg (by omega)]))
  try simp only [PT]
  refine tagN ?_
  refine stage_one 5 (by kernel_rfl) rfl (by kernel_rfl) (fun K hK => ?_)
  go_simp
  refine hrb.mono ?_
  rintro z w5 ⟨A2, n2, c2, rfl, hown, hb5⟩
  refine hK.out _ _ (hb5) ?_
  clear hK K
  try simp only [PT]
  replace h0 := h0.step hb5
  replace h1 := h1.step hb5
  replace h2 := h2.step hb5
  replace h3 := h3.step hb5
  replace hb := chain hb hb5
  have hs5 := hb5.size
  clear s0 s1 sf x0 x1 x2 x3 x4 x5 xf l0 l1 hb5
  obtain ⟨⟨u0, u1, u2, u3⟩, v0, v1, v2, v3⟩ := at4 h2
  refine tag [6] ?_
  refine sR (v := ?_) rfl (by kernel_rfl) (fun _ _ _ h => h) (Or.inl ⟨by kernel_rfl, ?_⟩) ?_
  rotate_left
  · (intro wS hwS; obtain ⟨hcS, hfS, hhS⟩ := bcell hwS; go_simp; try (first | (with_reducible rfl) | rw [if_pos (by omega)] | rw [if_neg (by omega)]))
  try simp only [PT]
  refine tagN ?_
  refine stage_end (by kernel_rfl) rfl (fun K hK => ?_)
  go_simp
  refine hK.out _ _ ?_
  clear hK K
  try simp only [PT]
  obtain ⟨hm1, hG1⟩ := At.many [(0, .int .i64 0), (1, .int .i64 rev), (2, .string ⟨#[]⟩), (3, .slice A2 n2 c2)] h2
  dsimp only [setMany, setL, List.set] at hm1 hG1
  replace h3 := h3.only hG1 (by omega)
  have hown2 := own_mod (show World.ownsRow _ _ _ _ _ _ _ from hown) (grown_mod hG1) (fun i o _ hi _ e => by injection e with e; omega)
  replace hb := hb.trans ((Below.refl w.heap.size w5).grown hG1 hb.size (by intro i hi; injection hi with hi; omega))
  clear u0 u1 u2 u3 v0 v1 v2 v3 h2 hG1 hown
  generalize World.setCell _ _ _ = w7 at *
  obtain ⟨⟨p0, p1, p2, p3⟩, q0, q1, q2, q3⟩ := at4 h3
  refine stage 9 ?_

  refine stage_end (by kernel_rfl) rfl (fun K hK => ?_)
  go_simp
  refine hK.out _ _ ?_
  clear hK K
  try simp only [PT]
  obtain ⟨hm2, hG2⟩ := At.many [(0, .string ⟨#[]⟩), (1, .string ⟨#[]⟩), (2, .int .i64 0), (3, .bool false)] h3
  dsimp only [setMany, setL, List.set] at hm2 hG2
  replace hm1 := hm1.only hG2 (by omega)
  have hown3 := own_mod hown2 (grown_mod hG2) (fun i o _ hi _ e => by injection e with e; omega)
  replace hb := hb.trans ((Below.refl w.heap.size w7).grown hG2 hb.size (by intro i hi; injection hi with hi; omega))
  clear p0 p1 p2 p3 q0 q1 q2 q3 h3 hG2 hown2
  generalize World.setCell _ _ _ = w8 at *
  first | refine stage 1000000 ?_ | skip
  refine tag [10] ?_
  refine sR (v := ?_) rfl (by kernel_rfl) (fun _ _ _ h => h) (Or.inl ⟨by kernel_rfl, ?_⟩) ?_
  rotate_left
  · (intro wS hwS; obtain ⟨hcS, hfS, hhS⟩ := bcell hwS; go_simp; try (first | (with_reducible rfl) | rw [if_pos (by omega)] | rw [if_neg (by omega)]))
  try simp only [PT]
  refine tagN ?_
  first | refine wpAnyT_done (by kernel_rfl) ?_ _ | refine wpAny_done (by kernel_rfl) ?_ _
  obtain ⟨⟨u0, u1, u2, u3⟩, _⟩ := at4 hm1
  obtain ⟨⟨p0, p1, p2, p3⟩, _⟩ := at4 hm2
  go_wp2_with fail
  exact bodyPost_ret (v := .tuple #[.agg #[.int .i64 0, .int .i64 rev, .string ⟨#[]⟩, .slice A2 n2 c2], .agg #[.string ⟨#[]⟩, .string ⟨#[]⟩, .int .i64 0, .bool false], .bool false]) (by simp [results, Tryz.results40, go_sem, u0, u1, u2, u3, p0, p1, p2, p3]) rfl ⟨A2, n2, c2, by rw [HP.out]; rfl, by rw [HP.out]; exact own_lower hown3 (by omega), hb⟩
set_option maxRecDepth 100000 in
set_option maxHeartbeats 4000000 in
theorem rplan_bad (A : Option Addr) (n c : Nat) (l : List It) (rev : Int) (ki : Int) (k v i : ByteArray) (r j : Int) (w : World) (hr : RdI w w.heap.size A n c l) (h1k : ki ≠ 1) (h2k : ki ≠ 2) (hbad : ki < 3 ∨ 5 < ki) :
    Calls Tryz.prog 40 #[.agg #[.int .i64 rev, .slice A n c], .agg #[.int .i64 ki, .string k, .string v, .int .i64 r, .string i, .int .i64 j]] w fun x w' => RPlanR w w' (planP rev l ⟨ki, k, v, r, i, j⟩) x := by
  have hp : planP rev l ⟨ki, k, v, r, i, j⟩ = ⟨⟨1, 0, ⟨#[]⟩, []⟩, Eff.zero, false⟩ := by simp [planP, h1k, h2k, hbad]
  have HP := Lib.hid hp
  clear hp
  have hk1 : (ki == 1) = false := beq_eq_false_iff_ne.mpr h1k
  have hk2 : (ki == 2) = false := beq_eq_false_iff_ne.mpr h2k
  clear h1k h2k
  obtain ⟨h0, h1, h2, h3, hb⟩ := four_at w 41 [.int .i64 rev, .slice A n c] 50 [.int .i64 ki, .string k, .string v, .int .i64 r, .string i, .int .i64 j] 54 [.int .i64 0, .int .i64 0, .string ⟨#[]⟩, .slice none 0 0] 110 [.string ⟨#[]⟩, .string ⟨#[]⟩, .int .i64 0, .bool false]
  have HR := Lib.hid (hr.step' hb)
  clear hr
  obtain ⟨y, hy⟩ : ∃ y, getI l k = y := ⟨_, rfl⟩
  obtain ⟨yo, hyo⟩ : ∃ yo, (findI l k).isSome = yo := ⟨_, rfl⟩
  have hrf := fun w hr => rfind_any A n c l rev k w hr
  rw [hy, hyo] at hrf
  obtain ⟨yk, yv, yr⟩ := y
  unfold It.val at hrf
  simp only at hrf
  have HRF := Lib.hid hrf
  clear hrf
  go_enter Tryz.func40, Tryz.ntmps40
  go_upto_region 1 with fail
  generalize hW1 : World.alloc (World.alloc (World.alloc (World.alloc w _) _) _) _ = w1 at *
  have hsz : w.heap.size + 4 ≤ w1.heap.size := by rw [← hW1]; simp
  clear hW1
  obtain ⟨⟨s0, s1⟩, sf⟩ := at2 h0
  obtain ⟨⟨x0, x1, x2, x3, x4, x5⟩, xf⟩ := at6 h1
  go_upto_region 2 with (((with_reducible refine calls_id ?_); refine (HRF.out w1 HR.out).mono ?_; rintro z w2 ⟨rfl, hb2⟩))
  obtain ⟨hy7, hb3⟩ := one_at w2 108 [.string yk, .string yv, .int .i64 yr]
  replace hb := chain (chain hb hb2) hb3
  replace h0 := (h0.step hb2).step hb3
  replace h1 := (h1.step hb2).step hb3
  replace h2 := (h2.step hb2).step hb3
  replace h3 := (h3.step hb2).step hb3
  have HR := Lib.hid ((HR.out.step hb2).step hb3)
  replace hsz : w.heap.size + 4 ≤ w2.heap.size := Nat.le_trans hsz hb2.size
  have hs3 := hb3.size
  clear hb2 hb3 s0 s1 sf x0 x1 x2 x3 x4 x5 xf HRF
  generalize World.alloc w2 _ = w3 at *
  obtain ⟨g7, hg7⟩ : ∃ g7, w2.heap.size = g7 := ⟨_, rfl⟩
  rw [hg7] at hy7 hsz hs3 ⊢
  clear hg7
  obtain ⟨⟨s0, s1⟩, sf⟩ := at2 h0
  obtain ⟨⟨x0, x1, x2, x3, x4, x5⟩, xf⟩ := at6 h1
  obtain ⟨⟨u0, u1, u2, u3⟩, v0, v1, v2, v3⟩ := at4 h2
  obtain ⟨⟨p0, p1, p2, p3⟩, q0, q1, q2, q3⟩ := at4 h3
  obtain ⟨⟨y0, y1, y2⟩, yf⟩ := at3 hy7
  by_cases hk3 : ki < 3
  ·
    clear hbad
    go_wp2_with fail
    obtain ⟨hm1, hG1⟩ := At.many [(0, .int .i64 1), (1, .int .i64 0), (2, .string ⟨#[]⟩), (3, .slice none 0 0)] h2
    have h3' := h3.only hG1 (by omega)
    obtain ⟨hm2, hG2⟩ := At.many [(0, .string ⟨#[]⟩), (1, .string ⟨#[]⟩), (2, .int .i64 0), (3, .bool false)] h3'
    have hm1' := hm1.only hG2 (by omega)
    have hown' := own_mod (own_mod (show OwnRI _ _ _ _ _ _ from OwnRI.nil (w := w3) (B := w3.heap.size)) (grown_mod hG1) (fun i o _ hi _ e => by injection e with e; omega)) (grown_mod hG2) (fun i o _ hi _ e => by injection e with e; omega)
    have hb' := (hb.trans ((Below.refl w.heap.size _).grown hG1 hb.size (by intro i hi; injection hi with hi; omega))).trans ((Below.refl w.heap.size _).grown hG2 (Nat.le_trans hb.size hG1.size) (by intro i hi; injection hi with hi; omega))
    dsimp only [setMany, setL, List.set] at hm1' hm2 hb' hown'
    clear s0 s1 sf x0 x1 x2 x3 x4 x5 xf u0 u1 u2 u3 v0 v1 v2 v3 p0 p1 p2 p3 q0 q1 q2 q3 hG1 hG2 hm1 h2 h3 h3' hb y0 y1 y2 yf
    generalize World.setCell _ _ _ = w5 at *
    obtain ⟨⟨u0, u1, u2, u3⟩, _⟩ := at4 hm1'
    obtain ⟨⟨p0, p1, p2, p3⟩, _⟩ := at4 hm2
    exact bodyPost_ret (v := .tuple #[.agg #[.int .i64 1, .int .i64 0, .string ⟨#[]⟩, .slice none 0 0], .agg #[.string ⟨#[]⟩, .string ⟨#[]⟩, .int .i64 0, .bool false], .bool false]) (by simp [results, Tryz.results40, go_sem, u0, u1, u2, u3, p0, p1, p2, p3]) rfl ⟨_, _, _, by rw [HP.out]; rfl, by rw [HP.out]; exact own_lower hown' (by omega), hb'⟩
  ·
    have hk5 : 5 < ki := by omega
    clear hbad
    go_wp2_with fail
    obtain ⟨hm1, hG1⟩ := At.many [(0, .int .i64 1), (1, .int .i64 0), (2, .string ⟨#[]⟩), (3, .slice none 0 0)] h2
    have h3' := h3.only hG1 (by omega)
    obtain ⟨hm2, hG2⟩ := At.many [(0, .string ⟨#[]⟩), (1, .string ⟨#[]⟩), (2, .int .i64 0), (3, .bool false)] h3'
    have hm1' := hm1.only hG2 (by omega)
    have hown' := own_mod (own_mod (show OwnRI _ _ _ _ _ _ from OwnRI.nil (w := w3) (B := w3.heap.size)) (grown_mod hG1) (fun i o _ hi _ e => by injection e with e; omega)) (grown_mod hG2) (fun i o _ hi _ e => by injection e with e; omega)
    have hb' := (hb.trans ((Below.refl w.heap.size _).grown hG1 hb.size (by intro i hi; injection hi with hi; omega))).trans ((Below.refl w.heap.size _).grown hG2 (Nat.le_trans hb.size hG1.size) (by intro i hi; injection hi with hi; omega))
    dsimp only [setMany, setL, List.set] at hm1' hm2 hb' hown'
    clear s0 s1 sf x0 x1 x2 x3 x4 x5 xf u0 u1 u2 u3 v0 v1 v2 v3 p0 p1 p2 p3 q0 q1 q2 q3 hG1 hG2 hm1 h2 h3 h3' hb y0 y1 y2 yf
    generalize World.setCell _ _ _ = w5 at *
    obtain ⟨⟨u0, u1, u2, u3⟩, _⟩ := at4 hm1'
    obtain ⟨⟨p0, p1, p2, p3⟩, _⟩ := at4 hm2
    exact bodyPost_ret (v := .tuple #[.agg #[.int .i64 1, .int .i64 0, .string ⟨#[]⟩, .slice none 0 0], .agg #[.string ⟨#[]⟩, .string ⟨#[]⟩, .int .i64 0, .bool false], .bool false]) (by simp [results, Tryz.results40, go_sem, u0, u1, u2, u3, p0, p1, p2, p3]) rfl ⟨_, _, _, by rw [HP.out]; rfl, by rw [HP.out]; exact own_lower hown' (by omega), hb'⟩
end Go.Proofs.YtnkjekkdndjfaaaGreat
namespace Go.Proofs.YtnkjekkdndjfaaaGreat
set_option linter.unusedVariables false
set_option linter.unusedSimpArgs false
open Go.RowKit
set_option maxRecDepth 100000 in
set_option maxHeartbeats 4000000 in
theorem rplan_no3 (A : Option Addr) (n c : Nat) (l : List It) (rev : Int) (ki : Int) (k v i : ByteArray) (r j : Int) (w : World) (hr : RdI w w.heap.size A n c l) (hki : ki = 3) (hme : mayE l ⟨ki, k, v, r, i, j⟩ ≠ 0) :
    Calls Tryz.prog 40 #[.agg #[.int .i64 rev, .slice A n c], .agg #[.int .i64 ki, .string k, .string v, .int .i64 r, .string i, .int .i64 j]] w fun x w' => RPlanR w w' (planP rev l ⟨ki, k, v, r, i, j⟩) x := by
  obtain ⟨e, he⟩ : ∃ e, mayE l ⟨ki, k, v, r, i, j⟩ = e := ⟨_, rfl⟩
  have hp : planP rev l ⟨ki, k, v, r, i, j⟩ = ⟨⟨e, 0, ⟨#[]⟩, []⟩, Eff.zero, false⟩ := by
    unfold planP
    simp only
    rw [if_neg (by omega), if_neg (by omega), if_neg (by omega), if_pos hme, he]
  rw [he] at hme
  have HP := Lib.hid hp
  have HE := Lib.hid he
  have HME := Lib.hid hme
  have HKI := Lib.hid hki
  clear hp he hme
  have hk1 : (ki == 1) = false := beq_eq_false_iff_ne.mpr (by omega)
  have hk2 : (ki == 2) = false := beq_eq_false_iff_ne.mpr (by omega)
  have hk3 : (ki == 3) = true := by rw [hki]; rfl
  have hk5 : (ki == 5) = false := beq_eq_false_iff_ne.mpr (by omega)
  have n3 : ¬ ki < 3 := by omega
  have n5 : ¬ 5 < ki := by omega
  have lt5 : ki < 5 := by omega
  have gt3 : ¬ 3 < ki := by omega
  clear hki
  have hkey := fun w => rkey_any k w
  obtain ⟨h0, h1, h2, h3, hb⟩ := four_at w 41 [.int .i64 rev, .slice A n c] 50 [.int .i64 ki, .string k, .string v, .int .i64 r, .string i, .int .i64 j] 54 [.int .i64 0, .int .i64 0, .string ⟨#[]⟩, .slice none 0 0] 110 [.string ⟨#[]⟩, .string ⟨#[]⟩, .int .i64 0, .bool false]
  have HR := Lib.hid (hr.step' hb)
  clear hr
  obtain ⟨y, hy⟩ : ∃ y, getI l k = y := ⟨_, rfl⟩
  obtain ⟨yo, hyo⟩ : ∃ yo, (findI l k).isSome = yo := ⟨_, rfl⟩
  have hrf := fun w hr => rfind_any A n c l rev k w hr
  rw [hy, hyo] at hrf
  obtain ⟨yk, yv, yr⟩ := y
  unfold It.val at hrf
  simp only at hrf
  have HRF := Lib.hid hrf
  clear hrf
  go_enter Tryz.func40, Tryz.ntmps40
  go_upto_region 1 with fail
  generalize hW1 : World.alloc (World.alloc (World.alloc (World.alloc w _) _) _) _ = w1 at *
  have hsz : w.heap.size + 4 ≤ w1.heap.size := by rw [← hW1]; simp
  clear hW1
  obtain ⟨⟨s0, s1⟩, sf⟩ := at2 h0
  obtain ⟨⟨x0, x1, x2, x3, x4, x5⟩, xf⟩ := at6 h1
  go_upto_region 2 with (((with_reducible refine calls_id ?_); refine (HRF.out w1 HR.out).mono ?_; rintro z w2 ⟨rfl, hb2⟩))
  obtain ⟨hy7, hb3⟩ := one_at w2 108 [.string yk, .string yv, .int .i64 yr]
  replace hb := chain (chain hb hb2) hb3
  replace h0 := (h0.step hb2).step hb3
  replace h1 := (h1.step hb2).step hb3
  replace h2 := (h2.step hb2).step hb3
  replace h3 := (h3.step hb2).step hb3
  have HR := Lib.hid ((HR.out.step hb2).step hb3)
  replace hsz : w.heap.size + 4 ≤ w2.heap.size := Nat.le_trans hsz hb2.size
  have hs3 := hb3.size
  clear hb2 hb3 s0 s1 sf x0 x1 x2 x3 x4 x5 xf HRF
  generalize World.alloc w2 _ = w3 at *
  obtain ⟨g7, hg7⟩ : ∃ g7, w2.heap.size = g7 := ⟨_, rfl⟩
  rw [hg7] at hy7 hsz hs3 ⊢
  clear hg7
  obtain ⟨⟨s0, s1⟩, sf⟩ := at2 h0
  obtain ⟨⟨x0, x1, x2, x3, x4, x5⟩, xf⟩ := at6 h1
  obtain ⟨⟨u0, u1, u2, u3⟩, v0, v1, v2, v3⟩ := at4 h2
  obtain ⟨⟨p0, p1, p2, p3⟩, q0, q1, q2, q3⟩ := at4 h3
  obtain ⟨⟨y0, y1, y2⟩, yf⟩ := at3 hy7
  have hyr : (getI l k).r = yr := by rw [hy]
  cases hq : keyB k with
  | false =>
    rw [hq] at hkey
    have HKEY := Lib.hid hkey
    clear hkey
    have he2 : e = 1 := by rw [← HE.out]; simp [mayE, HKI.out, hyo, hyr, hq]
    subst he2
    go_wp2_with (((with_reducible refine calls_id ?_); refine (HKEY.out _).mono ?_; rintro z w9 ⟨rfl, rfl⟩))
    obtain ⟨hm1, hG1⟩ := At.many [(0, .int .i64 1), (1, .int .i64 0), (2, .string ⟨#[]⟩), (3, .slice none 0 0)] h2
    have h3' := h3.only hG1 (by omega)
    obtain ⟨hm2, hG2⟩ := At.many [(0, .string ⟨#[]⟩), (1, .string ⟨#[]⟩), (2, .int .i64 0), (3, .bool false)] h3'
    have hm1' := hm1.only hG2 (by omega)
    have hown' := own_mod (own_mod (show OwnRI _ _ _ _ _ _ from OwnRI.nil (w := w3) (B := w3.heap.size)) (grown_mod hG1) (fun i o _ hi _ e => by injection e with e; omega)) (grown_mod hG2) (fun i o _ hi _ e => by injection e with e; omega)
    have hb' := (hb.trans ((Below.refl w.heap.size _).grown hG1 hb.size (by intro i hi; injection hi with hi; omega))).trans ((Below.refl w.heap.size _).grown hG2 (Nat.le_trans hb.size hG1.size) (by intro i hi; injection hi with hi; omega))
    dsimp only [setMany, setL, List.set] at hm1' hm2 hb' hown'
    clear s0 s1 sf x0 x1 x2 x3 x4 x5 xf u0 u1 u2 u3 v0 v1 v2 v3 p0 p1 p2 p3 q0 q1 q2 q3 hG1 hG2 hm1 h2 h3 h3' hb y0 y1 y2 yf
    generalize World.setCell _ _ _ = w5 at *
    obtain ⟨⟨u0, u1, u2, u3⟩, _⟩ := at4 hm1'
    obtain ⟨⟨p0, p1, p2, p3⟩, _⟩ := at4 hm2
    exact bodyPost_ret (v := .tuple #[.agg #[.int .i64 1, .int .i64 0, .string ⟨#[]⟩, .slice none 0 0], .agg #[.string ⟨#[]⟩, .string ⟨#[]⟩, .int .i64 0, .bool false], .bool false]) (by simp [results, Tryz.results40, go_sem, u0, u1, u2, u3, p0, p1, p2, p3]) rfl ⟨_, _, _, by rw [HP.out]; rfl, by rw [HP.out]; exact own_lower hown' (by omega), hb'⟩
  | true =>
    rw [hq] at hkey
    have HKEY := Lib.hid hkey
    clear hkey
    by_cases hv : v.size ≤ 65536
    rotate_left
    ·
      have hv2 : 65536 < v.size := by omega
      have he2 : e = 1 := by rw [← HE.out]; simp [mayE, HKI.out, hyo, hyr, hq, hv]
      subst he2
      go_wp2_with (((with_reducible refine calls_id ?_); refine (HKEY.out _).mono ?_; rintro z w9 ⟨rfl, rfl⟩))
      obtain ⟨hm1, hG1⟩ := At.many [(0, .int .i64 1), (1, .int .i64 0), (2, .string ⟨#[]⟩), (3, .slice none 0 0)] h2
      have h3' := h3.only hG1 (by omega)
      obtain ⟨hm2, hG2⟩ := At.many [(0, .string ⟨#[]⟩), (1, .string ⟨#[]⟩), (2, .int .i64 0), (3, .bool false)] h3'
      have hm1' := hm1.only hG2 (by omega)
      have hown' := own_mod (own_mod (show OwnRI _ _ _ _ _ _ from OwnRI.nil (w := w3) (B := w3.heap.size)) (grown_mod hG1) (fun i o _ hi _ e => by injection e with e; omega)) (grown_mod hG2) (fun i o _ hi _ e => by injection e with e; omega)
      have hb' := (hb.trans ((Below.refl w.heap.size _).grown hG1 hb.size (by intro i hi; injection hi with hi; omega))).trans ((Below.refl w.heap.size _).grown hG2 (Nat.le_trans hb.size hG1.size) (by intro i hi; injection hi with hi; omega))
      dsimp only [setMany, setL, List.set] at hm1' hm2 hb' hown'
      clear s0 s1 sf x0 x1 x2 x3 x4 x5 xf u0 u1 u2 u3 v0 v1 v2 v3 p0 p1 p2 p3 q0 q1 q2 q3 hG1 hG2 hm1 h2 h3 h3' hb y0 y1 y2 yf
      generalize World.setCell _ _ _ = w5 at *
      obtain ⟨⟨u0, u1, u2, u3⟩, _⟩ := at4 hm1'
      obtain ⟨⟨p0, p1, p2, p3⟩, _⟩ := at4 hm2
      exact bodyPost_ret (v := .tuple #[.agg #[.int .i64 1, .int .i64 0, .string ⟨#[]⟩, .slice none 0 0], .agg #[.string ⟨#[]⟩, .string ⟨#[]⟩, .int .i64 0, .bool false], .bool false]) (by simp [results, Tryz.results40, go_sem, u0, u1, u2, u3, p0, p1, p2, p3]) rfl ⟨_, _, _, by rw [HP.out]; rfl, by rw [HP.out]; exact own_lower hown' (by omega), hb'⟩
    cases yo with
    | true =>
      have he2 : e = 7 := by rw [← HE.out]; simp [mayE, HKI.out, hyo, hyr, hq, hv]
      subst he2
      go_wp2_with (((with_reducible refine calls_id ?_); refine (HKEY.out _).mono ?_; rintro z w9 ⟨rfl, rfl⟩))
      obtain ⟨hm1, hG1⟩ := At.many [(0, .int .i64 7), (1, .int .i64 0), (2, .string ⟨#[]⟩), (3, .slice none 0 0)] h2
      have h3' := h3.only hG1 (by omega)
      obtain ⟨hm2, hG2⟩ := At.many [(0, .string ⟨#[]⟩), (1, .string ⟨#[]⟩), (2, .int .i64 0), (3, .bool false)] h3'
      have hm1' := hm1.only hG2 (by omega)
      have hown' := own_mod (own_mod (show OwnRI _ _ _ _ _ _ from OwnRI.nil (w := w3) (B := w3.heap.size)) (grown_mod hG1) (fun i o _ hi _ e => by injection e with e; omega)) (grown_mod hG2) (fun i o _ hi _ e => by injection e with e; omega)
      have hb' := (hb.trans ((Below.refl w.heap.size _).grown hG1 hb.size (by intro i hi; injection hi with hi; omega))).trans ((Below.refl w.heap.size _).grown hG2 (Nat.le_trans hb.size hG1.size) (by intro i hi; injection hi with hi; omega))
      dsimp only [setMany, setL, List.set] at hm1' hm2 hb' hown'
      clear s0 s1 sf x0 x1 x2 x3 x4 x5 xf u0 u1 u2 u3 v0 v1 v2 v3 p0 p1 p2 p3 q0 q1 q2 q3 hG1 hG2 hm1 h2 h3 h3' hb y0 y1 y2 yf
      generalize World.setCell _ _ _ = w5 at *
      obtain ⟨⟨u0, u1, u2, u3⟩, _⟩ := at4 hm1'
      obtain ⟨⟨p0, p1, p2, p3⟩, _⟩ := at4 hm2
      exact bodyPost_ret (v := .tuple #[.agg #[.int .i64 7, .int .i64 0, .string ⟨#[]⟩, .slice none 0 0], .agg #[.string ⟨#[]⟩, .string ⟨#[]⟩, .int .i64 0, .bool false], .bool false]) (by simp [results, Tryz.results40, go_sem, u0, u1, u2, u3, p0, p1, p2, p3]) rfl ⟨_, _, _, by rw [HP.out]; rfl, by rw [HP.out]; exact own_lower hown' (by omega), hb'⟩
    | false =>
      have hem := empty_iff i
      by_cases hi : 1 ≤ i.size
      · rw [decide_eq_true hi] at hem
        cases hsd : stands l i j with
        | true => exact absurd (by rw [← HE.out]; simp [mayE, HKI.out, hyo, hyr, hsd, hi, hq, hv]) HME.out
        | false =>
          have he2 : e = 8 := by rw [← HE.out]; simp [mayE, HKI.out, hyo, hyr, hsd, hi, hq, hv]
          subst he2
          have hsta := rstands_any A n c l rev i j w3 HR.out
          rw [hsd] at hsta
          have HSTA := Lib.hid hsta
          clear hsta
          go_upto_region 23 with (first | (((with_reducible refine calls_id ?_); refine (HKEY.out _).mono ?_; rintro z w9 ⟨rfl, rfl⟩)) | (((with_reducible refine calls_id ?_); refine HSTA.out.mono ?_; rintro z w9 ⟨rfl, hb9⟩)))
          replace h0 := h0.step hb9
          replace h1 := h1.step hb9
          replace h2 := h2.step hb9
          replace h3 := h3.step hb9
          replace hy7 := hy7.step hb9
          replace hb := chain hb hb9
          have hs9 := hb9.size
          clear s0 s1 sf x0 x1 x2 x3 x4 x5 xf u0 u1 u2 u3 v0 v1 v2 v3 p0 p1 p2 p3 q0 q1 q2 q3 y0 y1 y2 yf hb9
          obtain ⟨⟨s0, s1⟩, sf⟩ := at2 h0
          obtain ⟨⟨x0, x1, x2, x3, x4, x5⟩, xf⟩ := at6 h1
          obtain ⟨⟨u0, u1, u2, u3⟩, v0, v1, v2, v3⟩ := at4 h2
          obtain ⟨⟨p0, p1, p2, p3⟩, q0, q1, q2, q3⟩ := at4 h3
          obtain ⟨⟨y0, y1, y2⟩, yf⟩ := at3 hy7
          go_wp2_with fail
          obtain ⟨hm1, hG1⟩ := At.many [(0, .int .i64 8), (1, .int .i64 0), (2, .string ⟨#[]⟩), (3, .slice none 0 0)] h2
          have h3' := h3.only hG1 (by omega)
          obtain ⟨hm2, hG2⟩ := At.many [(0, .string ⟨#[]⟩), (1, .string ⟨#[]⟩), (2, .int .i64 0), (3, .bool false)] h3'
          have hm1' := hm1.only hG2 (by omega)
          have hown' := own_mod (own_mod (show OwnRI _ _ _ _ _ _ from OwnRI.nil (w := w9) (B := w9.heap.size)) (grown_mod hG1) (fun i o _ hi _ e => by injection e with e; omega)) (grown_mod hG2) (fun i o _ hi _ e => by injection e with e; omega)
          have hb' := (hb.trans ((Below.refl w.heap.size _).grown hG1 hb.size (by intro i hi; injection hi with hi; omega))).trans ((Below.refl w.heap.size _).grown hG2 (Nat.le_trans hb.size hG1.size) (by intro i hi; injection hi with hi; omega))
          dsimp only [setMany, setL, List.set] at hm1' hm2 hb' hown'
          clear s0 s1 sf x0 x1 x2 x3 x4 x5 xf u0 u1 u2 u3 v0 v1 v2 v3 p0 p1 p2 p3 q0 q1 q2 q3 hG1 hG2 hm1 h2 h3 h3' hb y0 y1 y2 yf
          generalize World.setCell _ _ _ = w5 at *
          obtain ⟨⟨u0, u1, u2, u3⟩, _⟩ := at4 hm1'
          obtain ⟨⟨p0, p1, p2, p3⟩, _⟩ := at4 hm2
          exact bodyPost_ret (v := .tuple #[.agg #[.int .i64 8, .int .i64 0, .string ⟨#[]⟩, .slice none 0 0], .agg #[.string ⟨#[]⟩, .string ⟨#[]⟩, .int .i64 0, .bool false], .bool false]) (by simp [results, Tryz.results40, go_sem, u0, u1, u2, u3, p0, p1, p2, p3]) rfl ⟨_, _, _, by rw [HP.out]; rfl, by rw [HP.out]; exact own_lower hown' (by omega), hb'⟩
      · exact absurd (by rw [← HE.out]; simp [mayE, HKI.out, hyo, hyr, hi, hq, hv]) HME.out
end Go.Proofs.YtnkjekkdndjfaaaGreat
namespace Go.Proofs.YtnkjekkdndjfaaaGreat
set_option linter.unusedVariables false
set_option linter.unusedSimpArgs false
open Go.RowKit
set_option maxRecDepth 100000 in
set_option maxHeartbeats 4000000 in
theorem rplan_no4 (A : Option Addr) (n c : Nat) (l : List It) (rev : Int) (ki : Int) (k v i : ByteArray) (r j : Int) (w : World) (hr : RdI w w.heap.size A n c l) (hki : ki = 4) (hme : mayE l ⟨ki, k, v, r, i, j⟩ ≠ 0) :
    Calls Tryz.prog 40 #[.agg #[.int .i64 rev, .slice A n c], .agg #[.int .i64 ki, .string k, .string v, .int .i64 r, .string i, .int .i64 j]] w fun x w' => RPlanR w w' (planP rev l ⟨ki, k, v, r, i, j⟩) x := by
  obtain ⟨e, he⟩ : ∃ e, mayE l ⟨ki, k, v, r, i, j⟩ = e := ⟨_, rfl⟩
  have hp : planP rev l ⟨ki, k, v, r, i, j⟩ = ⟨⟨e, 0, ⟨#[]⟩, []⟩, Eff.zero, false⟩ := by
    unfold planP
    simp only
    rw [if_neg (by omega), if_neg (by omega), if_neg (by omega), if_pos hme, he]
  rw [he] at hme
  have HP := Lib.hid hp
  have HE := Lib.hid he
  have HME := Lib.hid hme
  have HKI := Lib.hid hki
  clear hp he hme
  have hk1 : (ki == 1) = false := beq_eq_false_iff_ne.mpr (by omega)
  have hk2 : (ki == 2) = false := beq_eq_false_iff_ne.mpr (by omega)
  have hk3 : (ki == 3) = false := beq_eq_false_iff_ne.mpr (by omega)
  have hk5 : (ki == 5) = false := beq_eq_false_iff_ne.mpr (by omega)
  have n3 : ¬ ki < 3 := by omega
  have n5 : ¬ 5 < ki := by omega
  have lt5 : ki < 5 := by omega
  have gt3 : 3 < ki := by omega
  clear hki
  have hkey := fun w => rkey_any k w
  obtain ⟨h0, h1, h2, h3, hb⟩ := four_at w 41 [.int .i64 rev, .slice A n c] 50 [.int .i64 ki, .string k, .string v, .int .i64 r, .string i, .int .i64 j] 54 [.int .i64 0, .int .i64 0, .string ⟨#[]⟩, .slice none 0 0] 110 [.string ⟨#[]⟩, .string ⟨#[]⟩, .int .i64 0, .bool false]
  have HR := Lib.hid (hr.step' hb)
  clear hr
  obtain ⟨y, hy⟩ : ∃ y, getI l k = y := ⟨_, rfl⟩
  obtain ⟨yo, hyo⟩ : ∃ yo, (findI l k).isSome = yo := ⟨_, rfl⟩
  have hrf := fun w hr => rfind_any A n c l rev k w hr
  rw [hy, hyo] at hrf
  obtain ⟨yk, yv, yr⟩ := y
  unfold It.val at hrf
  simp only at hrf
  have HRF := Lib.hid hrf
  clear hrf
  go_enter Tryz.func40, Tryz.ntmps40
  go_upto_region 1 with fail
  generalize hW1 : World.alloc (World.alloc (World.alloc (World.alloc w _) _) _) _ = w1 at *
  have hsz : w.heap.size + 4 ≤ w1.heap.size := by rw [← hW1]; simp
  clear hW1
  obtain ⟨⟨s0, s1⟩, sf⟩ := at2 h0
  obtain ⟨⟨x0, x1, x2, x3, x4, x5⟩, xf⟩ := at6 h1
  go_upto_region 2 with (((with_reducible refine calls_id ?_); refine (HRF.out w1 HR.out).mono ?_; rintro z w2 ⟨rfl, hb2⟩))
  obtain ⟨hy7, hb3⟩ := one_at w2 108 [.string yk, .string yv, .int .i64 yr]
  replace hb := chain (chain hb hb2) hb3
  replace h0 := (h0.step hb2).step hb3
  replace h1 := (h1.step hb2).step hb3
  replace h2 := (h2.step hb2).step hb3
  replace h3 := (h3.step hb2).step hb3
  have HR := Lib.hid ((HR.out.step hb2).step hb3)
  replace hsz : w.heap.size + 4 ≤ w2.heap.size := Nat.le_trans hsz hb2.size
  have hs3 := hb3.size
  clear hb2 hb3 s0 s1 sf x0 x1 x2 x3 x4 x5 xf HRF
  generalize World.alloc w2 _ = w3 at *
  obtain ⟨g7, hg7⟩ : ∃ g7, w2.heap.size = g7 := ⟨_, rfl⟩
  rw [hg7] at hy7 hsz hs3 ⊢
  clear hg7
  obtain ⟨⟨s0, s1⟩, sf⟩ := at2 h0
  obtain ⟨⟨x0, x1, x2, x3, x4, x5⟩, xf⟩ := at6 h1
  obtain ⟨⟨u0, u1, u2, u3⟩, v0, v1, v2, v3⟩ := at4 h2
  obtain ⟨⟨p0, p1, p2, p3⟩, q0, q1, q2, q3⟩ := at4 h3
  obtain ⟨⟨y0, y1, y2⟩, yf⟩ := at3 hy7
  have hyr : (getI l k).r = yr := by rw [hy]
  cases hq : keyB k with
  | false =>
    rw [hq] at hkey
    have HKEY := Lib.hid hkey
    clear hkey
    have he2 : e = 1 := by rw [← HE.out]; simp [mayE, HKI.out, hyo, hyr, hq]
    subst he2
    go_wp2_with (((with_reducible refine calls_id ?_); refine (HKEY.out _).mono ?_; rintro z w9 ⟨rfl, rfl⟩))
    obtain ⟨hm1, hG1⟩ := At.many [(0, .int .i64 1), (1, .int .i64 0), (2, .string ⟨#[]⟩), (3, .slice none 0 0)] h2
    have h3' := h3.only hG1 (by omega)
    obtain ⟨hm2, hG2⟩ := At.many [(0, .string ⟨#[]⟩), (1, .string ⟨#[]⟩), (2, .int .i64 0), (3, .bool false)] h3'
    have hm1' := hm1.only hG2 (by omega)
    have hown' := own_mod (own_mod (show OwnRI _ _ _ _ _ _ from OwnRI.nil (w := w3) (B := w3.heap.size)) (grown_mod hG1) (fun i o _ hi _ e => by injection e with e; omega)) (grown_mod hG2) (fun i o _ hi _ e => by injection e with e; omega)
    have hb' := (hb.trans ((Below.refl w.heap.size _).grown hG1 hb.size (by intro i hi; injection hi with hi; omega))).trans ((Below.refl w.heap.size _).grown hG2 (Nat.le_trans hb.size hG1.size) (by intro i hi; injection hi with hi; omega))
    dsimp only [setMany, setL, List.set] at hm1' hm2 hb' hown'
    clear s0 s1 sf x0 x1 x2 x3 x4 x5 xf u0 u1 u2 u3 v0 v1 v2 v3 p0 p1 p2 p3 q0 q1 q2 q3 hG1 hG2 hm1 h2 h3 h3' hb y0 y1 y2 yf
    generalize World.setCell _ _ _ = w5 at *
    obtain ⟨⟨u0, u1, u2, u3⟩, _⟩ := at4 hm1'
    obtain ⟨⟨p0, p1, p2, p3⟩, _⟩ := at4 hm2
    exact bodyPost_ret (v := .tuple #[.agg #[.int .i64 1, .int .i64 0, .string ⟨#[]⟩, .slice none 0 0], .agg #[.string ⟨#[]⟩, .string ⟨#[]⟩, .int .i64 0, .bool false], .bool false]) (by simp [results, Tryz.results40, go_sem, u0, u1, u2, u3, p0, p1, p2, p3]) rfl ⟨_, _, _, by rw [HP.out]; rfl, by rw [HP.out]; exact own_lower hown' (by omega), hb'⟩
  | true =>
    rw [hq] at hkey
    have HKEY := Lib.hid hkey
    clear hkey
    by_cases hv : v.size ≤ 65536
    rotate_left
    ·
      have hv2 : 65536 < v.size := by omega
      have he2 : e = 1 := by rw [← HE.out]; simp [mayE, HKI.out, hyo, hyr, hq, hv]
      subst he2
      go_wp2_with (((with_reducible refine calls_id ?_); refine (HKEY.out _).mono ?_; rintro z w9 ⟨rfl, rfl⟩))
      obtain ⟨hm1, hG1⟩ := At.many [(0, .int .i64 1), (1, .int .i64 0), (2, .string ⟨#[]⟩), (3, .slice none 0 0)] h2
      have h3' := h3.only hG1 (by omega)
      obtain ⟨hm2, hG2⟩ := At.many [(0, .string ⟨#[]⟩), (1, .string ⟨#[]⟩), (2, .int .i64 0), (3, .bool false)] h3'
      have hm1' := hm1.only hG2 (by omega)
      have hown' := own_mod (own_mod (show OwnRI _ _ _ _ _ _ from OwnRI.nil (w := w3) (B := w3.heap.size)) (grown_mod hG1) (fun i o _ hi _ e => by injection e with e; omega)) (grown_mod hG2) (fun i o _ hi _ e => by injection e with e; omega)
      have hb' := (hb.trans ((Below.refl w.heap.size _).grown hG1 hb.size (by intro i hi; injection hi with hi; omega))).trans ((Below.refl w.heap.size _).grown hG2 (Nat.le_trans hb.size hG1.size) (by intro i hi; injection hi with hi; omega))
      dsimp only [setMany, setL, List.set] at hm1' hm2 hb' hown'
      clear s0 s1 sf x0 x1 x2 x3 x4 x5 xf u0 u1 u2 u3 v0 v1 v2 v3 p0 p1 p2 p3 q0 q1 q2 q3 hG1 hG2 hm1 h2 h3 h3' hb y0 y1 y2 yf
      generalize World.setCell _ _ _ = w5 at *
      obtain ⟨⟨u0, u1, u2, u3⟩, _⟩ := at4 hm1'
      obtain ⟨⟨p0, p1, p2, p3⟩, _⟩ := at4 hm2
      exact bodyPost_ret (v := .tuple #[.agg #[.int .i64 1, .int .i64 0, .string ⟨#[]⟩, .slice none 0 0], .agg #[.string ⟨#[]⟩, .string ⟨#[]⟩, .int .i64 0, .bool false], .bool false]) (by simp [results, Tryz.results40, go_sem, u0, u1, u2, u3, p0, p1, p2, p3]) rfl ⟨_, _, _, by rw [HP.out]; rfl, by rw [HP.out]; exact own_lower hown' (by omega), hb'⟩
    cases yo with
    | false =>
      have he2 : e = 6 := by rw [← HE.out]; simp [mayE, HKI.out, hyo, hyr, hq, hv]
      subst he2
      go_wp2_with (((with_reducible refine calls_id ?_); refine (HKEY.out _).mono ?_; rintro z w9 ⟨rfl, rfl⟩))
      obtain ⟨hm1, hG1⟩ := At.many [(0, .int .i64 6), (1, .int .i64 0), (2, .string ⟨#[]⟩), (3, .slice none 0 0)] h2
      have h3' := h3.only hG1 (by omega)
      obtain ⟨hm2, hG2⟩ := At.many [(0, .string ⟨#[]⟩), (1, .string ⟨#[]⟩), (2, .int .i64 0), (3, .bool false)] h3'
      have hm1' := hm1.only hG2 (by omega)
      have hown' := own_mod (own_mod (show OwnRI _ _ _ _ _ _ from OwnRI.nil (w := w3) (B := w3.heap.size)) (grown_mod hG1) (fun i o _ hi _ e => by injection e with e; omega)) (grown_mod hG2) (fun i o _ hi _ e => by injection e with e; omega)
      have hb' := (hb.trans ((Below.refl w.heap.size _).grown hG1 hb.size (by intro i hi; injection hi with hi; omega))).trans ((Below.refl w.heap.size _).grown hG2 (Nat.le_trans hb.size hG1.size) (by intro i hi; injection hi with hi; omega))
      dsimp only [setMany, setL, List.set] at hm1' hm2 hb' hown'
      clear s0 s1 sf x0 x1 x2 x3 x4 x5 xf u0 u1 u2 u3 v0 v1 v2 v3 p0 p1 p2 p3 q0 q1 q2 q3 hG1 hG2 hm1 h2 h3 h3' hb y0 y1 y2 yf
      generalize World.setCell _ _ _ = w5 at *
      obtain ⟨⟨u0, u1, u2, u3⟩, _⟩ := at4 hm1'
      obtain ⟨⟨p0, p1, p2, p3⟩, _⟩ := at4 hm2
      exact bodyPost_ret (v := .tuple #[.agg #[.int .i64 6, .int .i64 0, .string ⟨#[]⟩, .slice none 0 0], .agg #[.string ⟨#[]⟩, .string ⟨#[]⟩, .int .i64 0, .bool false], .bool false]) (by simp [results, Tryz.results40, go_sem, u0, u1, u2, u3, p0, p1, p2, p3]) rfl ⟨_, _, _, by rw [HP.out]; rfl, by rw [HP.out]; exact own_lower hown' (by omega), hb'⟩
    | true =>
      by_cases hrr : yr = r
      rotate_left
      ·
        have hrb : (yr == r) = false := beq_eq_false_iff_ne.mpr hrr
        have he2 : e = 8 := by rw [← HE.out]; simp [mayE, HKI.out, hyo, hyr, hq, hv, hrr]
        subst he2
        go_wp2_with (((with_reducible refine calls_id ?_); refine (HKEY.out _).mono ?_; rintro z w9 ⟨rfl, rfl⟩))
        obtain ⟨hm1, hG1⟩ := At.many [(0, .int .i64 8), (1, .int .i64 0), (2, .string ⟨#[]⟩), (3, .slice none 0 0)] h2
        have h3' := h3.only hG1 (by omega)
        obtain ⟨hm2, hG2⟩ := At.many [(0, .string ⟨#[]⟩), (1, .string ⟨#[]⟩), (2, .int .i64 0), (3, .bool false)] h3'
        have hm1' := hm1.only hG2 (by omega)
        have hown' := own_mod (own_mod (show OwnRI _ _ _ _ _ _ from OwnRI.nil (w := w3) (B := w3.heap.size)) (grown_mod hG1) (fun i o _ hi _ e => by injection e with e; omega)) (grown_mod hG2) (fun i o _ hi _ e => by injection e with e; omega)
        have hb' := (hb.trans ((Below.refl w.heap.size _).grown hG1 hb.size (by intro i hi; injection hi with hi; omega))).trans ((Below.refl w.heap.size _).grown hG2 (Nat.le_trans hb.size hG1.size) (by intro i hi; injection hi with hi; omega))
        dsimp only [setMany, setL, List.set] at hm1' hm2 hb' hown'
        clear s0 s1 sf x0 x1 x2 x3 x4 x5 xf u0 u1 u2 u3 v0 v1 v2 v3 p0 p1 p2 p3 q0 q1 q2 q3 hG1 hG2 hm1 h2 h3 h3' hb y0 y1 y2 yf
        generalize World.setCell _ _ _ = w5 at *
        obtain ⟨⟨u0, u1, u2, u3⟩, _⟩ := at4 hm1'
        obtain ⟨⟨p0, p1, p2, p3⟩, _⟩ := at4 hm2
        exact bodyPost_ret (v := .tuple #[.agg #[.int .i64 8, .int .i64 0, .string ⟨#[]⟩, .slice none 0 0], .agg #[.string ⟨#[]⟩, .string ⟨#[]⟩, .int .i64 0, .bool false], .bool false]) (by simp [results, Tryz.results40, go_sem, u0, u1, u2, u3, p0, p1, p2, p3]) rfl ⟨_, _, _, by rw [HP.out]; rfl, by rw [HP.out]; exact own_lower hown' (by omega), hb'⟩
      ·
        subst hrr
        have hem := empty_iff i
        by_cases hi : 1 ≤ i.size
        · rw [decide_eq_true hi] at hem
          cases hsd : stands l i j with
          | true => exact absurd (by rw [← HE.out]; simp [mayE, HKI.out, hyo, hyr, hsd, hi, hq, hv]) HME.out
          | false =>
            have he2 : e = 8 := by rw [← HE.out]; simp [mayE, HKI.out, hyo, hyr, hsd, hi, hq, hv]
            subst he2
            have hsta := rstands_any A n c l rev i j w3 HR.out
            rw [hsd] at hsta
            have HSTA := Lib.hid hsta
            clear hsta
            go_upto_region 23 with (first | (((with_reducible refine calls_id ?_); refine (HKEY.out _).mono ?_; rintro z w9 ⟨rfl, rfl⟩)) | (((with_reducible refine calls_id ?_); refine HSTA.out.mono ?_; rintro z w9 ⟨rfl, hb9⟩)))
            replace h0 := h0.step hb9
            replace h1 := h1.step hb9
            replace h2 := h2.step hb9
            replace h3 := h3.step hb9
            replace hy7 := hy7.step hb9
            replace hb := chain hb hb9
            have hs9 := hb9.size
            clear s0 s1 sf x0 x1 x2 x3 x4 x5 xf u0 u1 u2 u3 v0 v1 v2 v3 p0 p1 p2 p3 q0 q1 q2 q3 y0 y1 y2 yf hb9
            obtain ⟨⟨s0, s1⟩, sf⟩ := at2 h0
            obtain ⟨⟨x0, x1, x2, x3, x4, x5⟩, xf⟩ := at6 h1
            obtain ⟨⟨u0, u1, u2, u3⟩, v0, v1, v2, v3⟩ := at4 h2
            obtain ⟨⟨p0, p1, p2, p3⟩, q0, q1, q2, q3⟩ := at4 h3
            obtain ⟨⟨y0, y1, y2⟩, yf⟩ := at3 hy7
            go_wp2_with fail
            obtain ⟨hm1, hG1⟩ := At.many [(0, .int .i64 8), (1, .int .i64 0), (2, .string ⟨#[]⟩), (3, .slice none 0 0)] h2
            have h3' := h3.only hG1 (by omega)
            obtain ⟨hm2, hG2⟩ := At.many [(0, .string ⟨#[]⟩), (1, .string ⟨#[]⟩), (2, .int .i64 0), (3, .bool false)] h3'
            have hm1' := hm1.only hG2 (by omega)
            have hown' := own_mod (own_mod (show OwnRI _ _ _ _ _ _ from OwnRI.nil (w := w9) (B := w9.heap.size)) (grown_mod hG1) (fun i o _ hi _ e => by injection e with e; omega)) (grown_mod hG2) (fun i o _ hi _ e => by injection e with e; omega)
            have hb' := (hb.trans ((Below.refl w.heap.size _).grown hG1 hb.size (by intro i hi; injection hi with hi; omega))).trans ((Below.refl w.heap.size _).grown hG2 (Nat.le_trans hb.size hG1.size) (by intro i hi; injection hi with hi; omega))
            dsimp only [setMany, setL, List.set] at hm1' hm2 hb' hown'
            clear s0 s1 sf x0 x1 x2 x3 x4 x5 xf u0 u1 u2 u3 v0 v1 v2 v3 p0 p1 p2 p3 q0 q1 q2 q3 hG1 hG2 hm1 h2 h3 h3' hb y0 y1 y2 yf
            generalize World.setCell _ _ _ = w5 at *
            obtain ⟨⟨u0, u1, u2, u3⟩, _⟩ := at4 hm1'
            obtain ⟨⟨p0, p1, p2, p3⟩, _⟩ := at4 hm2
            exact bodyPost_ret (v := .tuple #[.agg #[.int .i64 8, .int .i64 0, .string ⟨#[]⟩, .slice none 0 0], .agg #[.string ⟨#[]⟩, .string ⟨#[]⟩, .int .i64 0, .bool false], .bool false]) (by simp [results, Tryz.results40, go_sem, u0, u1, u2, u3, p0, p1, p2, p3]) rfl ⟨_, _, _, by rw [HP.out]; rfl, by rw [HP.out]; exact own_lower hown' (by omega), hb'⟩
        · exact absurd (by rw [← HE.out]; simp [mayE, HKI.out, hyo, hyr, hi, hq, hv]) HME.out
end Go.Proofs.YtnkjekkdndjfaaaGreat
namespace Go.Proofs.YtnkjekkdndjfaaaGreat
set_option linter.unusedVariables false
set_option linter.unusedSimpArgs false
open Go.RowKit
set_option maxRecDepth 100000 in
set_option maxHeartbeats 4000000 in
theorem rplan_no5 (A : Option Addr) (n c : Nat) (l : List It) (rev : Int) (ki : Int) (k v i : ByteArray) (r j : Int) (w : World) (hr : RdI w w.heap.size A n c l) (hki : ki = 5) (hme : mayE l ⟨ki, k, v, r, i, j⟩ ≠ 0) :
    Calls Tryz.prog 40 #[.agg #[.int .i64 rev, .slice A n c], .agg #[.int .i64 ki, .string k, .string v, .int .i64 r, .string i, .int .i64 j]] w fun x w' => RPlanR w w' (planP rev l ⟨ki, k, v, r, i, j⟩) x := by
  obtain ⟨e, he⟩ : ∃ e, mayE l ⟨ki, k, v, r, i, j⟩ = e := ⟨_, rfl⟩
  have hp : planP rev l ⟨ki, k, v, r, i, j⟩ = ⟨⟨e, 0, ⟨#[]⟩, []⟩, Eff.zero, false⟩ := by
    unfold planP
    simp only
    rw [if_neg (by omega), if_neg (by omega), if_neg (by omega), if_pos hme, he]
  rw [he] at hme
  have HP := Lib.hid hp
  have HE := Lib.hid he
  have HME := Lib.hid hme
  have HKI := Lib.hid hki
  clear hp he hme
  have hk1 : (ki == 1) = false := beq_eq_false_iff_ne.mpr (by omega)
  have hk2 : (ki == 2) = false := beq_eq_false_iff_ne.mpr (by omega)
  have hk3 : (ki == 3) = false := beq_eq_false_iff_ne.mpr (by omega)
  have hk5 : (ki == 5) = true := by rw [hki]; rfl
  have n3 : ¬ ki < 3 := by omega
  have n5 : ¬ 5 < ki := by omega
  have lt5 : ¬ ki < 5 := by omega
  have gt3 : 3 < ki := by omega
  clear hki
  have hkey := fun w => rkey_any k w
  obtain ⟨h0, h1, h2, h3, hb⟩ := four_at w 41 [.int .i64 rev, .slice A n c] 50 [.int .i64 ki, .string k, .string v, .int .i64 r, .string i, .int .i64 j] 54 [.int .i64 0, .int .i64 0, .string ⟨#[]⟩, .slice none 0 0] 110 [.string ⟨#[]⟩, .string ⟨#[]⟩, .int .i64 0, .bool false]
  have HR := Lib.hid (hr.step' hb)
  clear hr
  obtain ⟨y, hy⟩ : ∃ y, getI l k = y := ⟨_, rfl⟩
  obtain ⟨yo, hyo⟩ : ∃ yo, (findI l k).isSome = yo := ⟨_, rfl⟩
  have hrf := fun w hr => rfind_any A n c l rev k w hr
  rw [hy, hyo] at hrf
  obtain ⟨yk, yv, yr⟩ := y
  unfold It.val at hrf
  simp only at hrf
  have HRF := Lib.hid hrf
  clear hrf
  go_enter Tryz.func40, Tryz.ntmps40
  go_upto_region 1 with fail
  generalize hW1 : World.alloc (World.alloc (World.alloc (World.alloc w _) _) _) _ = w1 at *
  have hsz : w.heap.size + 4 ≤ w1.heap.size := by rw [← hW1]; simp
  clear hW1
  obtain ⟨⟨s0, s1⟩, sf⟩ := at2 h0
  obtain ⟨⟨x0, x1, x2, x3, x4, x5⟩, xf⟩ := at6 h1
  go_upto_region 2 with (((with_reducible refine calls_id ?_); refine (HRF.out w1 HR.out).mono ?_; rintro z w2 ⟨rfl, hb2⟩))
  obtain ⟨hy7, hb3⟩ := one_at w2 108 [.string yk, .string yv, .int .i64 yr]
  replace hb := chain (chain hb hb2) hb3
  replace h0 := (h0.step hb2).step hb3
  replace h1 := (h1.step hb2).step hb3
  replace h2 := (h2.step hb2).step hb3
  replace h3 := (h3.step hb2).step hb3
  have HR := Lib.hid ((HR.out.step hb2).step hb3)
  replace hsz : w.heap.size + 4 ≤ w2.heap.size := Nat.le_trans hsz hb2.size
  have hs3 := hb3.size
  clear hb2 hb3 s0 s1 sf x0 x1 x2 x3 x4 x5 xf HRF
  generalize World.alloc w2 _ = w3 at *
  obtain ⟨g7, hg7⟩ : ∃ g7, w2.heap.size = g7 := ⟨_, rfl⟩
  rw [hg7] at hy7 hsz hs3 ⊢
  clear hg7
  obtain ⟨⟨s0, s1⟩, sf⟩ := at2 h0
  obtain ⟨⟨x0, x1, x2, x3, x4, x5⟩, xf⟩ := at6 h1
  obtain ⟨⟨u0, u1, u2, u3⟩, v0, v1, v2, v3⟩ := at4 h2
  obtain ⟨⟨p0, p1, p2, p3⟩, q0, q1, q2, q3⟩ := at4 h3
  obtain ⟨⟨y0, y1, y2⟩, yf⟩ := at3 hy7
  have hyr : (getI l k).r = yr := by rw [hy]
  cases hq : keyB k with
  | false =>
    rw [hq] at hkey
    have HKEY := Lib.hid hkey
    clear hkey
    have he2 : e = 1 := by rw [← HE.out]; simp [mayE, HKI.out, hyo, hyr, hq]
    subst he2
    go_wp2_with (((with_reducible refine calls_id ?_); refine (HKEY.out _).mono ?_; rintro z w9 ⟨rfl, rfl⟩))
    obtain ⟨hm1, hG1⟩ := At.many [(0, .int .i64 1), (1, .int .i64 0), (2, .string ⟨#[]⟩), (3, .slice none 0 0)] h2
    have h3' := h3.only hG1 (by omega)
    obtain ⟨hm2, hG2⟩ := At.many [(0, .string ⟨#[]⟩), (1, .string ⟨#[]⟩), (2, .int .i64 0), (3, .bool false)] h3'
    have hm1' := hm1.only hG2 (by omega)
    have hown' := own_mod (own_mod (show OwnRI _ _ _ _ _ _ from OwnRI.nil (w := w3) (B := w3.heap.size)) (grown_mod hG1) (fun i o _ hi _ e => by injection e with e; omega)) (grown_mod hG2) (fun i o _ hi _ e => by injection e with e; omega)
    have hb' := (hb.trans ((Below.refl w.heap.size _).grown hG1 hb.size (by intro i hi; injection hi with hi; omega))).trans ((Below.refl w.heap.size _).grown hG2 (Nat.le_trans hb.size hG1.size) (by intro i hi; injection hi with hi; omega))
    dsimp only [setMany, setL, List.set] at hm1' hm2 hb' hown'
    clear s0 s1 sf x0 x1 x2 x3 x4 x5 xf u0 u1 u2 u3 v0 v1 v2 v3 p0 p1 p2 p3 q0 q1 q2 q3 hG1 hG2 hm1 h2 h3 h3' hb y0 y1 y2 yf
    generalize World.setCell _ _ _ = w5 at *
    obtain ⟨⟨u0, u1, u2, u3⟩, _⟩ := at4 hm1'
    obtain ⟨⟨p0, p1, p2, p3⟩, _⟩ := at4 hm2
    exact bodyPost_ret (v := .tuple #[.agg #[.int .i64 1, .int .i64 0, .string ⟨#[]⟩, .slice none 0 0], .agg #[.string ⟨#[]⟩, .string ⟨#[]⟩, .int .i64 0, .bool false], .bool false]) (by simp [results, Tryz.results40, go_sem, u0, u1, u2, u3, p0, p1, p2, p3]) rfl ⟨_, _, _, by rw [HP.out]; rfl, by rw [HP.out]; exact own_lower hown' (by omega), hb'⟩
  | true =>
    rw [hq] at hkey
    have HKEY := Lib.hid hkey
    clear hkey
    cases yo with
    | false =>
      have he2 : e = 6 := by rw [← HE.out]; simp [mayE, HKI.out, hyo, hyr, hq]
      subst he2
      go_wp2_with (((with_reducible refine calls_id ?_); refine (HKEY.out _).mono ?_; rintro z w9 ⟨rfl, rfl⟩))
      obtain ⟨hm1, hG1⟩ := At.many [(0, .int .i64 6), (1, .int .i64 0), (2, .string ⟨#[]⟩), (3, .slice none 0 0)] h2
      have h3' := h3.only hG1 (by omega)
      obtain ⟨hm2, hG2⟩ := At.many [(0, .string ⟨#[]⟩), (1, .string ⟨#[]⟩), (2, .int .i64 0), (3, .bool false)] h3'
      have hm1' := hm1.only hG2 (by omega)
      have hown' := own_mod (own_mod (show OwnRI _ _ _ _ _ _ from OwnRI.nil (w := w3) (B := w3.heap.size)) (grown_mod hG1) (fun i o _ hi _ e => by injection e with e; omega)) (grown_mod hG2) (fun i o _ hi _ e => by injection e with e; omega)
      have hb' := (hb.trans ((Below.refl w.heap.size _).grown hG1 hb.size (by intro i hi; injection hi with hi; omega))).trans ((Below.refl w.heap.size _).grown hG2 (Nat.le_trans hb.size hG1.size) (by intro i hi; injection hi with hi; omega))
      dsimp only [setMany, setL, List.set] at hm1' hm2 hb' hown'
      clear s0 s1 sf x0 x1 x2 x3 x4 x5 xf u0 u1 u2 u3 v0 v1 v2 v3 p0 p1 p2 p3 q0 q1 q2 q3 hG1 hG2 hm1 h2 h3 h3' hb y0 y1 y2 yf
      generalize World.setCell _ _ _ = w5 at *
      obtain ⟨⟨u0, u1, u2, u3⟩, _⟩ := at4 hm1'
      obtain ⟨⟨p0, p1, p2, p3⟩, _⟩ := at4 hm2
      exact bodyPost_ret (v := .tuple #[.agg #[.int .i64 6, .int .i64 0, .string ⟨#[]⟩, .slice none 0 0], .agg #[.string ⟨#[]⟩, .string ⟨#[]⟩, .int .i64 0, .bool false], .bool false]) (by simp [results, Tryz.results40, go_sem, u0, u1, u2, u3, p0, p1, p2, p3]) rfl ⟨_, _, _, by rw [HP.out]; rfl, by rw [HP.out]; exact own_lower hown' (by omega), hb'⟩
    | true =>
      by_cases hrr : yr = r
      rotate_left
      ·
        have hrb : (yr == r) = false := beq_eq_false_iff_ne.mpr hrr
        have he2 : e = 8 := by rw [← HE.out]; simp [mayE, HKI.out, hyo, hyr, hq, hrr]
        subst he2
        go_wp2_with (((with_reducible refine calls_id ?_); refine (HKEY.out _).mono ?_; rintro z w9 ⟨rfl, rfl⟩))
        obtain ⟨hm1, hG1⟩ := At.many [(0, .int .i64 8), (1, .int .i64 0), (2, .string ⟨#[]⟩), (3, .slice none 0 0)] h2
        have h3' := h3.only hG1 (by omega)
        obtain ⟨hm2, hG2⟩ := At.many [(0, .string ⟨#[]⟩), (1, .string ⟨#[]⟩), (2, .int .i64 0), (3, .bool false)] h3'
        have hm1' := hm1.only hG2 (by omega)
        have hown' := own_mod (own_mod (show OwnRI _ _ _ _ _ _ from OwnRI.nil (w := w3) (B := w3.heap.size)) (grown_mod hG1) (fun i o _ hi _ e => by injection e with e; omega)) (grown_mod hG2) (fun i o _ hi _ e => by injection e with e; omega)
        have hb' := (hb.trans ((Below.refl w.heap.size _).grown hG1 hb.size (by intro i hi; injection hi with hi; omega))).trans ((Below.refl w.heap.size _).grown hG2 (Nat.le_trans hb.size hG1.size) (by intro i hi; injection hi with hi; omega))
        dsimp only [setMany, setL, List.set] at hm1' hm2 hb' hown'
        clear s0 s1 sf x0 x1 x2 x3 x4 x5 xf u0 u1 u2 u3 v0 v1 v2 v3 p0 p1 p2 p3 q0 q1 q2 q3 hG1 hG2 hm1 h2 h3 h3' hb y0 y1 y2 yf
        generalize World.setCell _ _ _ = w5 at *
        obtain ⟨⟨u0, u1, u2, u3⟩, _⟩ := at4 hm1'
        obtain ⟨⟨p0, p1, p2, p3⟩, _⟩ := at4 hm2
        exact bodyPost_ret (v := .tuple #[.agg #[.int .i64 8, .int .i64 0, .string ⟨#[]⟩, .slice none 0 0], .agg #[.string ⟨#[]⟩, .string ⟨#[]⟩, .int .i64 0, .bool false], .bool false]) (by simp [results, Tryz.results40, go_sem, u0, u1, u2, u3, p0, p1, p2, p3]) rfl ⟨_, _, _, by rw [HP.out]; rfl, by rw [HP.out]; exact own_lower hown' (by omega), hb'⟩
      ·
        subst hrr
        have hem := empty_iff i
        by_cases hi : 1 ≤ i.size
        · rw [decide_eq_true hi] at hem
          cases hsd : stands l i j with
          | true => exact absurd (by rw [← HE.out]; simp [mayE, HKI.out, hyo, hyr, hsd, hi, hq]) HME.out
          | false =>
            have he2 : e = 8 := by rw [← HE.out]; simp [mayE, HKI.out, hyo, hyr, hsd, hi, hq]
            subst he2
            have hsta := rstands_any A n c l rev i j w3 HR.out
            rw [hsd] at hsta
            have HSTA := Lib.hid hsta
            clear hsta
            go_upto_region 23 with (first | (((with_reducible refine calls_id ?_); refine (HKEY.out _).mono ?_; rintro z w9 ⟨rfl, rfl⟩)) | (((with_reducible refine calls_id ?_); refine HSTA.out.mono ?_; rintro z w9 ⟨rfl, hb9⟩)))
            replace h0 := h0.step hb9
            replace h1 := h1.step hb9
            replace h2 := h2.step hb9
            replace h3 := h3.step hb9
            replace hy7 := hy7.step hb9
            replace hb := chain hb hb9
            have hs9 := hb9.size
            clear s0 s1 sf x0 x1 x2 x3 x4 x5 xf u0 u1 u2 u3 v0 v1 v2 v3 p0 p1 p2 p3 q0 q1 q2 q3 y0 y1 y2 yf hb9
            obtain ⟨⟨s0, s1⟩, sf⟩ := at2 h0
            obtain ⟨⟨x0, x1, x2, x3, x4, x5⟩, xf⟩ := at6 h1
            obtain ⟨⟨u0, u1, u2, u3⟩, v0, v1, v2, v3⟩ := at4 h2
            obtain ⟨⟨p0, p1, p2, p3⟩, q0, q1, q2, q3⟩ := at4 h3
            obtain ⟨⟨y0, y1, y2⟩, yf⟩ := at3 hy7
            go_wp2_with fail
            obtain ⟨hm1, hG1⟩ := At.many [(0, .int .i64 8), (1, .int .i64 0), (2, .string ⟨#[]⟩), (3, .slice none 0 0)] h2
            have h3' := h3.only hG1 (by omega)
            obtain ⟨hm2, hG2⟩ := At.many [(0, .string ⟨#[]⟩), (1, .string ⟨#[]⟩), (2, .int .i64 0), (3, .bool false)] h3'
            have hm1' := hm1.only hG2 (by omega)
            have hown' := own_mod (own_mod (show OwnRI _ _ _ _ _ _ from OwnRI.nil (w := w9) (B := w9.heap.size)) (grown_mod hG1) (fun i o _ hi _ e => by injection e with e; omega)) (grown_mod hG2) (fun i o _ hi _ e => by injection e with e; omega)
            have hb' := (hb.trans ((Below.refl w.heap.size _).grown hG1 hb.size (by intro i hi; injection hi with hi; omega))).trans ((Below.refl w.heap.size _).grown hG2 (Nat.le_trans hb.size hG1.size) (by intro i hi; injection hi with hi; omega))
            dsimp only [setMany, setL, List.set] at hm1' hm2 hb' hown'
            clear s0 s1 sf x0 x1 x2 x3 x4 x5 xf u0 u1 u2 u3 v0 v1 v2 v3 p0 p1 p2 p3 q0 q1 q2 q3 hG1 hG2 hm1 h2 h3 h3' hb y0 y1 y2 yf
            generalize World.setCell _ _ _ = w5 at *
            obtain ⟨⟨u0, u1, u2, u3⟩, _⟩ := at4 hm1'
            obtain ⟨⟨p0, p1, p2, p3⟩, _⟩ := at4 hm2
            exact bodyPost_ret (v := .tuple #[.agg #[.int .i64 8, .int .i64 0, .string ⟨#[]⟩, .slice none 0 0], .agg #[.string ⟨#[]⟩, .string ⟨#[]⟩, .int .i64 0, .bool false], .bool false]) (by simp [results, Tryz.results40, go_sem, u0, u1, u2, u3, p0, p1, p2, p3]) rfl ⟨_, _, _, by rw [HP.out]; rfl, by rw [HP.out]; exact own_lower hown' (by omega), hb'⟩
        · exact absurd (by rw [← HE.out]; simp [mayE, HKI.out, hyo, hyr, hi, hq]) HME.out
end Go.Proofs.YtnkjekkdndjfaaaGreat
