
/- Chapter 9: the document's Plan, kind 3, allowed (printed by rplan.py). -/
import Derived.Test.YtnkjekkdndjfaaaGreatKvRP
namespace Go.Proofs.YtnkjekkdndjfaaaGreat
set_option linter.unusedVariables false
set_option linter.unusedSimpArgs false
open Go.RowKit
set_option maxRecDepth 100000 in
set_option maxHeartbeats 4000000 in
theorem rplan_ok3 (A : Option Addr) (n c : Nat) (l : List It) (rev : Int) (ki : Int) (k v i : ByteArray) (r j : Int) (w : World) (hr : RdI w w.heap.size A n c l) (hki : ki = 3) (hme : mayE l ⟨ki, k, v, r, i, j⟩ = 0) :
    Calls Tryz.prog 40 #[.agg #[.int .i64 rev, .slice A n c], .agg #[.int .i64 ki, .string k, .string v, .int .i64 r, .string i, .int .i64 j]] w fun x w' => RPlanR w w' (planP rev l ⟨ki, k, v, r, i, j⟩) x := by
  obtain ⟨ir, hir⟩ : ∃ ir, IntKind.i64.wrap (rev + 1) = ir := ⟨_, rfl⟩
  have hp : planP rev l ⟨ki, k, v, r, i, j⟩ = ⟨⟨0, ir, ⟨#[]⟩, []⟩, ⟨k, v, ir, false⟩, true⟩ := by
    unfold planP inc
    simp only
    rw [if_neg (by omega), if_neg (by omega), if_neg (by omega), if_neg (by simp [hme]), hir, if_neg (by omega), decide_eq_false (by omega)]
  obtain ⟨hq, hv0, hf3, hf4, hsd⟩ := may_zero hme
  simp only at hq hv0 hf3 hf4 hsd
  have HP := Lib.hid hp
  clear hp hme
  have hv : v.size ≤ 65536 := hv0 (by omega)
  have HF := Lib.hid (hf3 hki)
  have HSD := Lib.hid hsd
  clear hv0 hf3 hf4 hsd
  have hk1 : (ki == 1) = false := beq_eq_false_iff_ne.mpr (by omega)
  have hk2 : (ki == 2) = false := beq_eq_false_iff_ne.mpr (by omega)
  have hk3 : (ki == 3) = true := by rw [hki]; rfl
  have hk5 : (ki == 5) = false := beq_eq_false_iff_ne.mpr (by omega)
  have n3 : ¬ ki < 3 := by omega
  have n5 : ¬ 5 < ki := by omega
  have lt5 : ki < 5 := by omega
  have gt3 : ¬ 3 < ki := by omega
  clear hki
  have hkey := fun w => rkey_any k w
  rw [hq] at hkey
  clear hq
  have HKEY := Lib.hid hkey
  clear hkey
  obtain ⟨h0, h1, h2, h3, hb⟩ := four_at w 41 [.int .i64 rev, .slice A n c] 50 [.int .i64 ki, .string k, .string v, .int .i64 r, .string i, .int .i64 j] 54 [.int .i64 0, .int .i64 0, .string ⟨#[]⟩, .slice none 0 0] 110 [.string ⟨#[]⟩, .string ⟨#[]⟩, .int .i64 0, .bool false]
  have HR := Lib.hid (hr.step' hb)
  clear hr
  obtain ⟨y, hy⟩ : ∃ y, getI l k = y := ⟨_, rfl⟩
  obtain ⟨yo, hyo⟩ : ∃ yo, (findI l k).isSome = yo := ⟨_, rfl⟩
  have hrf := fun w hr => rfind_any A n c l rev k w hr
  rw [hy, hyo] at hrf
  obtain ⟨yk, yv, yr⟩ := y
  unfold It.val at hrf
  simp only at hrf
  have HRF := Lib.hid hrf
  clear hrf
  go_enter Tryz.func40, Tryz.ntmps40
  go_upto_region 1 with fail
  generalize hW1 : World.alloc (World.alloc (World.alloc (World.alloc w _) _) _) _ = w1 at *
  have hsz : w.heap.size + 4 ≤ w1.heap.size := by rw [← hW1]; simp
  clear hW1
  obtain ⟨⟨s0, s1⟩, sf⟩ := at2 h0
  obtain ⟨⟨x0, x1, x2, x3, x4, x5⟩, xf⟩ := at6 h1
  go_upto_region 2 with (((with_reducible refine calls_id ?_); refine (HRF.out w1 HR.out).mono ?_; rintro z w2 ⟨rfl, hb2⟩))
  obtain ⟨hy7, hb3⟩ := one_at w2 108 [.string yk, .string yv, .int .i64 yr]
  replace hb := chain (chain hb hb2) hb3
  replace h0 := (h0.step hb2).step hb3
  replace h1 := (h1.step hb2).step hb3
  replace h2 := (h2.step hb2).step hb3
  replace h3 := (h3.step hb2).step hb3
  have HR := Lib.hid ((HR.out.step hb2).step hb3)
  replace hsz : w.heap.size + 4 ≤ w2.heap.size := Nat.le_trans hsz hb2.size
  have hs3 := hb3.size
  clear hb2 hb3 s0 s1 sf x0 x1 x2 x3 x4 x5 xf HRF
  generalize World.alloc w2 _ = w3 at *
  obtain ⟨g7, hg7⟩ : ∃ g7, w2.heap.size = g7 := ⟨_, rfl⟩
  rw [hg7] at hy7 hsz hs3 ⊢
  clear hg7
  obtain ⟨⟨s0, s1⟩, sf⟩ := at2 h0
  obtain ⟨⟨x0, x1, x2, x3, x4, x5⟩, xf⟩ := at6 h1
  obtain ⟨⟨u0, u1, u2, u3⟩, v0, v1, v2, v3⟩ := at4 h2
  obtain ⟨⟨p0, p1, p2, p3⟩, q0, q1, q2, q3⟩ := at4 h3
  obtain ⟨⟨y0, y1, y2⟩, yf⟩ := at3 hy7
  obtain rfl : yo = false := hyo.symm.trans HF.out
  clear HF hyo hy
  have hem := empty_iff i
  by_cases hi : 1 ≤ i.size
  · rw [decide_eq_true hi] at hem
    have hsta := rstands_any A n c l rev i j w3 HR.out
    rw [HSD.out hi] at hsta
    have HSTA := Lib.hid hsta
    clear hsta
    go_upto_region 23 with (first | (((with_reducible refine calls_id ?_); refine (HKEY.out _).mono ?_; rintro z w9 ⟨rfl, rfl⟩)) | (((with_reducible refine calls_id ?_); refine HSTA.out.mono ?_; rintro z w9 ⟨rfl, hb9⟩)))
    replace h0 := h0.step hb9
    replace h1 := h1.step hb9
    replace h2 := h2.step hb9
    replace h3 := h3.step hb9
    replace hy7 := hy7.step hb9
    replace hb := chain hb hb9
    have hs9 := hb9.size
    clear s0 s1 sf x0 x1 x2 x3 x4 x5 xf u0 u1 u2 u3 v0 v1 v2 v3 p0 p1 p2 p3 q0 q1 q2 q3 y0 y1 y2 yf hb9
    obtain ⟨⟨s0, s1⟩, sf⟩ := at2 h0
    obtain ⟨⟨x0, x1, x2, x3, x4, x5⟩, xf⟩ := at6 h1
    obtain ⟨⟨u0, u1, u2, u3⟩, v0, v1, v2, v3⟩ := at4 h2
    obtain ⟨⟨p0, p1, p2, p3⟩, q0, q1, q2, q3⟩ := at4 h3
    obtain ⟨⟨y0, y1, y2⟩, yf⟩ := at3 hy7
    go_upto_region 27 with fail
    clear s0 s1 sf x0 x1 x2 x3 x4 x5 xf u0 u1 u2 u3 v0 v1 v2 v3 p0 p1 p2 p3 q0 q1 q2 q3 y0 y1 y2 yf hy7
    have k0 : ∀ w' : World, At w' w.heap.size 41 [.int .i64 rev, .slice A n c] ∧ At w' (w.heap.size + 1) 50 [.int .i64 ki, .string k, .string v, .int .i64 r, .string i, .int .i64 j] → _ := fun w' h => (at2 h.1).1.1
    have k1 : ∀ w' : World, At w' w.heap.size 41 [.int .i64 rev, .slice A n c] ∧ At w' (w.heap.size + 1) 50 [.int .i64 ki, .string k, .string v, .int .i64 r, .string i, .int .i64 j] → _ := fun w' h => (at6 h.2).1.2.1
    have k2 : ∀ w' : World, At w' w.heap.size 41 [.int .i64 rev, .slice A n c] ∧ At w' (w.heap.size + 1) 50 [.int .i64 ki, .string k, .string v, .int .i64 r, .string i, .int .i64 j] → _ := fun w' h => (at6 h.2).1.2.2.1
    refine region_begin (fun w' : World => At w' w.heap.size 41 [.int .i64 rev, .slice A n c] ∧ At w' (w.heap.size + 1) 50 [.int .i64 ki, .string k, .string v, .int .i64 r, .string i, .int .i64 j]) (by kernel_rfl) (⟨h0.drew, h1.drew⟩) (fun hHeld => ?_)
    replace h2 := h2.drew
    replace h3 := h3.drew
    replace hb := hb.drew
    clear h0 h1
    generalize World.drew _ = w6 at *
    refine tag [0,1,2,3,4,5,6,7,8,9,10,11] ?_
    iterate 12 (
      refine sH (v := ?_) rfl (by kernel_rfl) (fun _ _ _ h => h) (Or.inl ⟨by kernel_rfl, ?_⟩) (by assumption) ?_
      rotate_left
      · (intro wS hwS; (try dsimp only at hwS); go_simp; try (first | (with_reducible rfl) | rw [if_pos (by omega)] | rw [if_neg (by omega)]))
      try simp only [PT])
    refine tagN ?_
    obtain ⟨⟨u0, u1, u2, u3⟩, v0, v1, v2, v3⟩ := at4 h2
    refine region_one 12 (by kernel_rfl) rfl (fun K hK => ?_)
    go_simp
    obtain ⟨hm1, hG1⟩ := At.many [(0, .int .i64 0), (1, .int .i64 ir), (2, .string ⟨#[]⟩), (3, .slice none 0 0)] h2
    dsimp only [setMany, setL, List.set] at hm1 hG1
    replace h3 := h3.only hG1 (by omega)
    have h8 : At _ w.heap.size 41 [.int .i64 rev, .slice A n c] ∧ At _ (w.heap.size + 1) 50 [.int .i64 ki, .string k, .string v, .int .i64 r, .string i, .int .i64 j] := ⟨hHeld.1.only hG1 (by omega), hHeld.2.only hG1 (by omega)⟩
    replace hb := hb.trans ((Below.refl w.heap.size w6).grown hG1 hb.size (by intro i hi; injection hi with hi; omega))
    clear u0 u1 u2 u3 v0 v1 v2 v3 h2 hG1 hHeld
    generalize World.setCell _ _ _ = w7 at *
    refine hK.out _ _ (fun w' : World => At w' w.heap.size 41 [.int .i64 rev, .slice A n c] ∧ At w' (w.heap.size + 1) 50 [.int .i64 ki, .string k, .string v, .int .i64 r, .string i, .int .i64 j]) (h8) (fun _ h => h) (fun hHeld => ?_)
    clear hK K
    try simp only [PT]
    obtain ⟨⟨p0, p1, p2, p3⟩, q0, q1, q2, q3⟩ := at4 h3
    refine region_one 13 (by kernel_rfl) rfl (fun K hK => ?_)
    go_simp
    obtain ⟨hm2, hG2⟩ := At.many [(0, .string k), (1, .string v), (2, .int .i64 ir), (3, .bool false)] h3
    dsimp only [setMany, setL, List.set] at hm2 hG2
    replace hm1 := hm1.only hG2 (by omega)
    replace h8 : At _ w.heap.size 41 [.int .i64 rev, .slice A n c] ∧ At _ (w.heap.size + 1) 50 [.int .i64 ki, .string k, .string v, .int .i64 r, .string i, .int .i64 j] := ⟨hHeld.1.only hG2 (by omega), hHeld.2.only hG2 (by omega)⟩
    replace hb := hb.trans ((Below.refl w.heap.size w7).grown hG2 hb.size (by intro i hi; injection hi with hi; omega))
    clear p0 p1 p2 p3 q0 q1 q2 q3 h3 hG2 hHeld
    generalize World.setCell _ _ _ = w8 at *
    refine hK.out _ _ (fun w' : World => At w' w.heap.size 41 [.int .i64 rev, .slice A n c] ∧ At w' (w.heap.size + 1) 50 [.int .i64 ki, .string k, .string v, .int .i64 r, .string i, .int .i64 j]) (h8) (fun _ h => h) (fun hHeld => ?_)
    clear hK K
    try simp only [PT]
    refine tag [14] ?_
    refine sH (v := ?_) rfl (by kernel_rfl) (fun _ _ _ h => h) (Or.inl ⟨by kernel_rfl, ?_⟩) (by assumption) ?_
    rotate_left
    · (intro wS hwS; (try dsimp only at hwS); go_simp; try (first | (with_reducible rfl) | rw [if_pos (by omega)] | rw [if_neg (by omega)]))
    try simp only [PT]
    refine tagN ?_
    refine wpAnyH_done (by kernel_rfl) ?_ _
    clear k0 k1 k2 hHeld h8
    obtain ⟨⟨u0, u1, u2, u3⟩, _⟩ := at4 hm1
    obtain ⟨⟨p0, p1, p2, p3⟩, _⟩ := at4 hm2
    go_wp2_with fail
    exact bodyPost_ret (v := .tuple #[.agg #[.int .i64 0, .int .i64 ir, .string ⟨#[]⟩, .slice none 0 0], .agg #[.string k, .string v, .int .i64 ir, .bool false], .bool true]) (by simp [results, Tryz.results40, go_sem, u0, u1, u2, u3, p0, p1, p2, p3]) rfl ⟨none, 0, 0, by rw [HP.out], by rw [HP.out]; exact OwnRI.nil, hb⟩
  · rw [decide_eq_false hi] at hem
    go_upto_region 27 with (((with_reducible refine calls_id ?_); refine (HKEY.out _).mono ?_; rintro z w9 ⟨rfl, rfl⟩))
    clear s0 s1 sf x0 x1 x2 x3 x4 x5 xf u0 u1 u2 u3 v0 v1 v2 v3 p0 p1 p2 p3 q0 q1 q2 q3 y0 y1 y2 yf hy7
    have k0 : ∀ w' : World, At w' w.heap.size 41 [.int .i64 rev, .slice A n c] ∧ At w' (w.heap.size + 1) 50 [.int .i64 ki, .string k, .string v, .int .i64 r, .string i, .int .i64 j] → _ := fun w' h => (at2 h.1).1.1
    have k1 : ∀ w' : World, At w' w.heap.size 41 [.int .i64 rev, .slice A n c] ∧ At w' (w.heap.size + 1) 50 [.int .i64 ki, .string k, .string v, .int .i64 r, .string i, .int .i64 j] → _ := fun w' h => (at6 h.2).1.2.1
    have k2 : ∀ w' : World, At w' w.heap.size 41 [.int .i64 rev, .slice A n c] ∧ At w' (w.heap.size + 1) 50 [.int .i64 ki, .string k, .string v, .int .i64 r, .string i, .int .i64 j] → _ := fun w' h => (at6 h.2).1.2.2.1
    refine region_begin (fun w' : World => At w' w.heap.size 41 [.int .i64 rev, .slice A n c] ∧ At w' (w.heap.size + 1) 50 [.int .i64 ki, .string k, .string v, .int .i64 r, .string i, .int .i64 j]) (by kernel_rfl) (⟨h0.drew, h1.drew⟩) (fun hHeld => ?_)
    replace h2 := h2.drew
    replace h3 := h3.drew
    replace hb := hb.drew
    clear h0 h1
    generalize World.drew _ = w6 at *
    refine tag [0,1,2,3,4,5,6,7,8,9,10,11] ?_
    iterate 12 (
      refine sH (v := ?_) rfl (by kernel_rfl) (fun _ _ _ h => h) (Or.inl ⟨by kernel_rfl, ?_⟩) (by assumption) ?_
      rotate_left
      · (intro wS hwS; (try dsimp only at hwS); go_simp; try (first | (with_reducible rfl) | rw [if_pos (by omega)] | rw [if_neg (by omega)]))
      try simp only [PT])
    refine tagN ?_
    obtain ⟨⟨u0, u1, u2, u3⟩, v0, v1, v2, v3⟩ := at4 h2
    refine region_one 12 (by kernel_rfl) rfl (fun K hK => ?_)
    go_simp
    obtain ⟨hm1, hG1⟩ := At.many [(0, .int .i64 0), (1, .int .i64 ir), (2, .string ⟨#[]⟩), (3, .slice none 0 0)] h2
    dsimp only [setMany, setL, List.set] at hm1 hG1
    replace h3 := h3.only hG1 (by omega)
    have h8 : At _ w.heap.size 41 [.int .i64 rev, .slice A n c] ∧ At _ (w.heap.size + 1) 50 [.int .i64 ki, .string k, .string v, .int .i64 r, .string i, .int .i64 j] := ⟨hHeld.1.only hG1 (by omega), hHeld.2.only hG1 (by omega)⟩
    replace hb := hb.trans ((Below.refl w.heap.size w6).grown hG1 hb.size (by intro i hi; injection hi with hi; omega))
    clear u0 u1 u2 u3 v0 v1 v2 v3 h2 hG1 hHeld
    generalize World.setCell _ _ _ = w7 at *
    refine hK.out _ _ (fun w' : World => At w' w.heap.size 41 [.int .i64 rev, .slice A n c] ∧ At w' (w.heap.size + 1) 50 [.int .i64 ki, .string k, .string v, .int .i64 r, .string i, .int .i64 j]) (h8) (fun _ h => h) (fun hHeld => ?_)
    clear hK K
    try simp only [PT]
    obtain ⟨⟨p0, p1, p2, p3⟩, q0, q1, q2, q3⟩ := at4 h3
    refine region_one 13 (by kernel_rfl) rfl (fun K hK => ?_)
    go_simp
    obtain ⟨hm2, hG2⟩ := At.many [(0, .string k), (1, .string v), (2, .int .i64 ir), (3, .bool false)] h3
    dsimp only [setMany, setL, List.set] at hm2 hG2
    replace hm1 := hm1.only hG2 (by omega)
    replace h8 : At _ w.heap.size 41 [.int .i64 rev, .slice A n c] ∧ At _ (w.heap.size + 1) 50 [.int .i64 ki, .string k, .string v, .int .i64 r, .string i, .int .i64 j] := ⟨hHeld.1.only hG2 (by omega), hHeld.2.only hG2 (by omega)⟩
    replace hb := hb.trans ((Below.refl w.heap.size w7).grown hG2 hb.size (by intro i hi; injection hi with hi; omega))
    clear p0 p1 p2 p3 q0 q1 q2 q3 h3 hG2 hHeld
    generalize World.setCell _ _ _ = w8 at *
    refine hK.out _ _ (fun w' : World => At w' w.heap.size 41 [.int .i64 rev, .slice A n c] ∧ At w' (w.heap.size + 1) 50 [.int .i64 ki, .string k, .string v, .int .i64 r, .string i, .int .i64 j]) (h8) (fun _ h => h) (fun hHeld => ?_)
    clear hK K
    try simp only [PT]
    refine tag [14] ?_
    refine sH (v := ?_) rfl (by kernel_rfl) (fun _ _ _ h => h) (Or.inl ⟨by kernel_rfl, ?_⟩) (by assumption) ?_
    rotate_left
    · (intro wS hwS; (try dsimp only at hwS); go_simp; try (first | (with_reducible rfl) | rw [if_pos (by omega)] | rw [if_neg (by omega)]))
    try simp only [PT]
    refine tagN ?_
    refine wpAnyH_done (by kernel_rfl) ?_ _
    clear k0 k1 k2 hHeld h8
    obtain ⟨⟨u0, u1, u2, u3⟩, _⟩ := at4 hm1
    obtain ⟨⟨p0, p1, p2, p3⟩, _⟩ := at4 hm2
    go_wp2_with fail
    exact bodyPost_ret (v := .tuple #[.agg #[.int .i64 0, .int .i64 ir, .string ⟨#[]⟩, .slice none 0 0], .agg #[.string k, .string v, .int .i64 ir, .bool false], .bool true]) (by simp [results, Tryz.results40, go_sem, u0, u1, u2, u3, p0, p1, p2, p3]) rfl ⟨none, 0, 0, by rw [HP.out], by rw [HP.out]; exact OwnRI.nil, hb⟩
end Go.Proofs.YtnkjekkdndjfaaaGreat
namespace Go.Proofs.YtnkjekkdndjfaaaGreat
set_option linter.unusedVariables false
set_option linter.unusedSimpArgs false
open Go.RowKit
set_option maxRecDepth 100000 in
set_option maxHeartbeats 4000000 in
theorem rplan_ok4 (A : Option Addr) (n c : Nat) (l : List It) (rev : Int) (ki : Int) (k v i : ByteArray) (r j : Int) (w : World) (hr : RdI w w.heap.size A n c l) (hki : ki = 4) (hme : mayE l ⟨ki, k, v, r, i, j⟩ = 0) :
    Calls Tryz.prog 40 #[.agg #[.int .i64 rev, .slice A n c], .agg #[.int .i64 ki, .string k, .string v, .int .i64 r, .string i, .int .i64 j]] w fun x w' => RPlanR w w' (planP rev l ⟨ki, k, v, r, i, j⟩) x := by
  obtain ⟨ir, hir⟩ : ∃ ir, IntKind.i64.wrap (rev + 1) = ir := ⟨_, rfl⟩
  have hp : planP rev l ⟨ki, k, v, r, i, j⟩ = ⟨⟨0, ir, ⟨#[]⟩, []⟩, ⟨k, v, ir, false⟩, true⟩ := by
    unfold planP inc
    simp only
    rw [if_neg (by omega), if_neg (by omega), if_neg (by omega), if_neg (by simp [hme]), hir, if_neg (by omega), decide_eq_false (by omega)]
  obtain ⟨hq, hv0, hf3, hf4, hsd⟩ := may_zero hme
  simp only at hq hv0 hf3 hf4 hsd
  have HP := Lib.hid hp
  clear hp hme
  have hv : v.size ≤ 65536 := hv0 (by omega)
  have HF := Lib.hid (hf4 (by omega)).1
  have HRR := Lib.hid (hf4 (by omega)).2
  have HSD := Lib.hid hsd
  clear hv0 hf3 hf4 hsd
  have hk1 : (ki == 1) = false := beq_eq_false_iff_ne.mpr (by omega)
  have hk2 : (ki == 2) = false := beq_eq_false_iff_ne.mpr (by omega)
  have hk3 : (ki == 3) = false := beq_eq_false_iff_ne.mpr (by omega)
  have hk5 : (ki == 5) = false := beq_eq_false_iff_ne.mpr (by omega)
  have n3 : ¬ ki < 3 := by omega
  have n5 : ¬ 5 < ki := by omega
  have lt5 : ki < 5 := by omega
  have gt3 : 3 < ki := by omega
  clear hki
  have hkey := fun w => rkey_any k w
  rw [hq] at hkey
  clear hq
  have HKEY := Lib.hid hkey
  clear hkey
  obtain ⟨h0, h1, h2, h3, hb⟩ := four_at w 41 [.int .i64 rev, .slice A n c] 50 [.int .i64 ki, .string k, .string v, .int .i64 r, .string i, .int .i64 j] 54 [.int .i64 0, .int .i64 0, .string ⟨#[]⟩, .slice none 0 0] 110 [.string ⟨#[]⟩, .string ⟨#[]⟩, .int .i64 0, .bool false]
  have HR := Lib.hid (hr.step' hb)
  clear hr
  obtain ⟨y, hy⟩ : ∃ y, getI l k = y := ⟨_, rfl⟩
  obtain ⟨yo, hyo⟩ : ∃ yo, (findI l k).isSome = yo := ⟨_, rfl⟩
  have hrf := fun w hr => rfind_any A n c l rev k w hr
  rw [hy, hyo] at hrf
  obtain ⟨yk, yv, yr⟩ := y
  unfold It.val at hrf
  simp only at hrf
  have HRF := Lib.hid hrf
  clear hrf
  go_enter Tryz.func40, Tryz.ntmps40
  go_upto_region 1 with fail
  generalize hW1 : World.alloc (World.alloc (World.alloc (World.alloc w _) _) _) _ = w1 at *
  have hsz : w.heap.size + 4 ≤ w1.heap.size := by rw [← hW1]; simp
  clear hW1
  obtain ⟨⟨s0, s1⟩, sf⟩ := at2 h0
  obtain ⟨⟨x0, x1, x2, x3, x4, x5⟩, xf⟩ := at6 h1
  go_upto_region 2 with (((with_reducible refine calls_id ?_); refine (HRF.out w1 HR.out).mono ?_; rintro z w2 ⟨rfl, hb2⟩))
  obtain ⟨hy7, hb3⟩ := one_at w2 108 [.string yk, .string yv, .int .i64 yr]
  replace hb := chain (chain hb hb2) hb3
  replace h0 := (h0.step hb2).step hb3
  replace h1 := (h1.step hb2).step hb3
  replace h2 := (h2.step hb2).step hb3
  replace h3 := (h3.step hb2).step hb3
  have HR := Lib.hid ((HR.out.step hb2).step hb3)
  replace hsz : w.heap.size + 4 ≤ w2.heap.size := Nat.le_trans hsz hb2.size
  have hs3 := hb3.size
  clear hb2 hb3 s0 s1 sf x0 x1 x2 x3 x4 x5 xf HRF
  generalize World.alloc w2 _ = w3 at *
  obtain ⟨g7, hg7⟩ : ∃ g7, w2.heap.size = g7 := ⟨_, rfl⟩
  rw [hg7] at hy7 hsz hs3 ⊢
  clear hg7
  obtain ⟨⟨s0, s1⟩, sf⟩ := at2 h0
  obtain ⟨⟨x0, x1, x2, x3, x4, x5⟩, xf⟩ := at6 h1
  obtain ⟨⟨u0, u1, u2, u3⟩, v0, v1, v2, v3⟩ := at4 h2
  obtain ⟨⟨p0, p1, p2, p3⟩, q0, q1, q2, q3⟩ := at4 h3
  obtain ⟨⟨y0, y1, y2⟩, yf⟩ := at3 hy7
  obtain rfl : yo = true := hyo.symm.trans HF.out
  obtain rfl : r = yr := by have := HRR.out; rw [hy] at this; exact this.symm
  clear HRR
  clear HF hyo hy
  have hem := empty_iff i
  by_cases hi : 1 ≤ i.size
  · rw [decide_eq_true hi] at hem
    have hsta := rstands_any A n c l rev i j w3 HR.out
    rw [HSD.out hi] at hsta
    have HSTA := Lib.hid hsta
    clear hsta
    go_upto_region 23 with (first | (((with_reducible refine calls_id ?_); refine (HKEY.out _).mono ?_; rintro z w9 ⟨rfl, rfl⟩)) | (((with_reducible refine calls_id ?_); refine HSTA.out.mono ?_; rintro z w9 ⟨rfl, hb9⟩)))
    replace h0 := h0.step hb9
    replace h1 := h1.step hb9
    replace h2 := h2.step hb9
    replace h3 := h3.step hb9
    replace hy7 := hy7.step hb9
    replace hb := chain hb hb9
    have hs9 := hb9.size
    clear s0 s1 sf x0 x1 x2 x3 x4 x5 xf u0 u1 u2 u3 v0 v1 v2 v3 p0 p1 p2 p3 q0 q1 q2 q3 y0 y1 y2 yf hb9
    obtain ⟨⟨s0, s1⟩, sf⟩ := at2 h0
    obtain ⟨⟨x0, x1, x2, x3, x4, x5⟩, xf⟩ := at6 h1
    obtain ⟨⟨u0, u1, u2, u3⟩, v0, v1, v2, v3⟩ := at4 h2
    obtain ⟨⟨p0, p1, p2, p3⟩, q0, q1, q2, q3⟩ := at4 h3
    obtain ⟨⟨y0, y1, y2⟩, yf⟩ := at3 hy7
    go_upto_region 27 with fail
    clear s0 s1 sf x0 x1 x2 x3 x4 x5 xf u0 u1 u2 u3 v0 v1 v2 v3 p0 p1 p2 p3 q0 q1 q2 q3 y0 y1 y2 yf hy7
    have k0 : ∀ w' : World, At w' w.heap.size 41 [.int .i64 rev, .slice A n c] ∧ At w' (w.heap.size + 1) 50 [.int .i64 ki, .string k, .string v, .int .i64 r, .string i, .int .i64 j] → _ := fun w' h => (at2 h.1).1.1
    have k1 : ∀ w' : World, At w' w.heap.size 41 [.int .i64 rev, .slice A n c] ∧ At w' (w.heap.size + 1) 50 [.int .i64 ki, .string k, .string v, .int .i64 r, .string i, .int .i64 j] → _ := fun w' h => (at6 h.2).1.2.1
    have k2 : ∀ w' : World, At w' w.heap.size 41 [.int .i64 rev, .slice A n c] ∧ At w' (w.heap.size + 1) 50 [.int .i64 ki, .string k, .string v, .int .i64 r, .string i, .int .i64 j] → _ := fun w' h => (at6 h.2).1.2.2.1
    refine region_begin (fun w' : World => At w' w.heap.size 41 [.int .i64 rev, .slice A n c] ∧ At w' (w.heap.size + 1) 50 [.int .i64 ki, .string k, .string v, .int .i64 r, .string i, .int .i64 j]) (by kernel_rfl) (⟨h0.drew, h1.drew⟩) (fun hHeld => ?_)
    replace h2 := h2.drew
    replace h3 := h3.drew
    replace hb := hb.drew
    clear h0 h1
    generalize World.drew _ = w6 at *
    refine tag [0,1,2,3,4,5,6,7,8,9,10,11] ?_
    iterate 12 (
      refine sH (v := ?_) rfl (by kernel_rfl) (fun _ _ _ h => h) (Or.inl ⟨by kernel_rfl, ?_⟩) (by assumption) ?_
      rotate_left
      · (intro wS hwS; (try dsimp only at hwS); go_simp; try (first | (with_reducible rfl) | rw [if_pos (by omega)] | rw [if_neg (by omega)]))
      try simp only [PT])
    refine tagN ?_
    obtain ⟨⟨u0, u1, u2, u3⟩, v0, v1, v2, v3⟩ := at4 h2
    refine region_one 12 (by kernel_rfl) rfl (fun K hK => ?_)
    go_simp
    obtain ⟨hm1, hG1⟩ := At.many [(0, .int .i64 0), (1, .int .i64 ir), (2, .string ⟨#[]⟩), (3, .slice none 0 0)] h2
    dsimp only [setMany, setL, List.set] at hm1 hG1
    replace h3 := h3.only hG1 (by omega)
    have h8 : At _ w.heap.size 41 [.int .i64 rev, .slice A n c] ∧ At _ (w.heap.size + 1) 50 [.int .i64 ki, .string k, .string v, .int .i64 r, .string i, .int .i64 j] := ⟨hHeld.1.only hG1 (by omega), hHeld.2.only hG1 (by omega)⟩
    replace hb := hb.trans ((Below.refl w.heap.size w6).grown hG1 hb.size (by intro i hi; injection hi with hi; omega))
    clear u0 u1 u2 u3 v0 v1 v2 v3 h2 hG1 hHeld
    generalize World.setCell _ _ _ = w7 at *
    refine hK.out _ _ (fun w' : World => At w' w.heap.size 41 [.int .i64 rev, .slice A n c] ∧ At w' (w.heap.size + 1) 50 [.int .i64 ki, .string k, .string v, .int .i64 r, .string i, .int .i64 j]) (h8) (fun _ h => h) (fun hHeld => ?_)
    clear hK K
    try simp only [PT]
    obtain ⟨⟨p0, p1, p2, p3⟩, q0, q1, q2, q3⟩ := at4 h3
    refine region_one 13 (by kernel_rfl) rfl (fun K hK => ?_)
    go_simp
    obtain ⟨hm2, hG2⟩ := At.many [(0, .string k), (1, .string v), (2, .int .i64 ir), (3, .bool false)] h3
    dsimp only [setMany, setL, List.set] at hm2 hG2
    replace hm1 := hm1.only hG2 (by omega)
    replace h8 : At _ w.heap.size 41 [.int .i64 rev, .slice A n c] ∧ At _ (w.heap.size + 1) 50 [.int .i64 ki, .string k, .string v, .int .i64 r, .string i, .int .i64 j] := ⟨hHeld.1.only hG2 (by omega), hHeld.2.only hG2 (by omega)⟩
    replace hb := hb.trans ((Below.refl w.heap.size w7).grown hG2 hb.size (by intro i hi; injection hi with hi; omega))
    clear p0 p1 p2 p3 q0 q1 q2 q3 h3 hG2 hHeld
    generalize World.setCell _ _ _ = w8 at *
    refine hK.out _ _ (fun w' : World => At w' w.heap.size 41 [.int .i64 rev, .slice A n c] ∧ At w' (w.heap.size + 1) 50 [.int .i64 ki, .string k, .string v, .int .i64 r, .string i, .int .i64 j]) (h8) (fun _ h => h) (fun hHeld => ?_)
    clear hK K
    try simp only [PT]
    refine tag [14] ?_
    refine sH (v := ?_) rfl (by kernel_rfl) (fun _ _ _ h => h) (Or.inl ⟨by kernel_rfl, ?_⟩) (by assumption) ?_
    rotate_left
    · (intro wS hwS; (try dsimp only at hwS); go_simp; try (first | (with_reducible rfl) | rw [if_pos (by omega)] | rw [if_neg (by omega)]))
    try simp only [PT]
    refine tagN ?_
    refine wpAnyH_done (by kernel_rfl) ?_ _
    clear k0 k1 k2 hHeld h8
    obtain ⟨⟨u0, u1, u2, u3⟩, _⟩ := at4 hm1
    obtain ⟨⟨p0, p1, p2, p3⟩, _⟩ := at4 hm2
    go_wp2_with fail
    exact bodyPost_ret (v := .tuple #[.agg #[.int .i64 0, .int .i64 ir, .string ⟨#[]⟩, .slice none 0 0], .agg #[.string k, .string v, .int .i64 ir, .bool false], .bool true]) (by simp [results, Tryz.results40, go_sem, u0, u1, u2, u3, p0, p1, p2, p3]) rfl ⟨none, 0, 0, by rw [HP.out], by rw [HP.out]; exact OwnRI.nil, hb⟩
  · rw [decide_eq_false hi] at hem
    go_upto_region 27 with (((with_reducible refine calls_id ?_); refine (HKEY.out _).mono ?_; rintro z w9 ⟨rfl, rfl⟩))
    clear s0 s1 sf x0 x1 x2 x3 x4 x5 xf u0 u1 u2 u3 v0 v1 v2 v3 p0 p1 p2 p3 q0 q1 q2 q3 y0 y1 y2 yf hy7
    have k0 : ∀ w' : World, At w' w.heap.size 41 [.int .i64 rev, .slice A n c] ∧ At w' (w.heap.size + 1) 50 [.int .i64 ki, .string k, .string v, .int .i64 r, .string i, .int .i64 j] → _ := fun w' h => (at2 h.1).1.1
    have k1 : ∀ w' : World, At w' w.heap.size 41 [.int .i64 rev, .slice A n c] ∧ At w' (w.heap.size + 1) 50 [.int .i64 ki, .string k, .string v, .int .i64 r, .string i, .int .i64 j] → _ := fun w' h => (at6 h.2).1.2.1
    have k2 : ∀ w' : World, At w' w.heap.size 41 [.int .i64 rev, .slice A n c] ∧ At w' (w.heap.size + 1) 50 [.int .i64 ki, .string k, .string v, .int .i64 r, .string i, .int .i64 j] → _ := fun w' h => (at6 h.2).1.2.2.1
    refine region_begin (fun w' : World => At w' w.heap.size 41 [.int .i64 rev, .slice A n c] ∧ At w' (w.heap.size + 1) 50 [.int .i64 ki, .string k, .string v, .int .i64 r, .string i, .int .i64 j]) (by kernel_rfl) (⟨h0.drew, h1.drew⟩) (fun hHeld => ?_)
    replace h2 := h2.drew
    replace h3 := h3.drew
    replace hb := hb.drew
    clear h0 h1
    generalize World.drew _ = w6 at *
    refine tag [0,1,2,3,4,5,6,7,8,9,10,11] ?_
    iterate 12 (
      refine sH (v := ?_) rfl (by kernel_rfl) (fun _ _ _ h => h) (Or.inl ⟨by kernel_rfl, ?_⟩) (by assumption) ?_
      rotate_left
      · (intro wS hwS; (try dsimp only at hwS); go_simp; try (first | (with_reducible rfl) | rw [if_pos (by omega)] | rw [if_neg (by omega)]))
      try simp only [PT])
    refine tagN ?_
    obtain ⟨⟨u0, u1, u2, u3⟩, v0, v1, v2, v3⟩ := at4 h2
    refine region_one 12 (by kernel_rfl) rfl (fun K hK => ?_)
    go_simp
    obtain ⟨hm1, hG1⟩ := At.many [(0, .int .i64 0), (1, .int .i64 ir), (2, .string ⟨#[]⟩), (3, .slice none 0 0)] h2
    dsimp only [setMany, setL, List.set] at hm1 hG1
    replace h3 := h3.only hG1 (by omega)
    have h8 : At _ w.heap.size 41 [.int .i64 rev, .slice A n c] ∧ At _ (w.heap.size + 1) 50 [.int .i64 ki, .string k, .string v, .int .i64 r, .string i, .int .i64 j] := ⟨hHeld.1.only hG1 (by omega), hHeld.2.only hG1 (by omega)⟩
    replace hb := hb.trans ((Below.refl w.heap.size w6).grown hG1 hb.size (by intro i hi; injection hi with hi; omega))
    clear u0 u1 u2 u3 v0 v1 v2 v3 h2 hG1 hHeld
    generalize World.setCell _ _ _ = w7 at *
    refine hK.out _ _ (fun w' : World => At w' w.heap.size 41 [.int .i64 rev, .slice A n c] ∧ At w' (w.heap.size + 1) 50 [.int .i64 ki, .string k, .string v, .int .i64 r, .string i, .int .i64 j]) (h8) (fun _ h => h) (fun hHeld => ?_)
    clear hK K
    try simp only [PT]
    obtain ⟨⟨p0, p1, p2, p3⟩, q0, q1, q2, q3⟩ := at4 h3
    refine region_one 13 (by kernel_rfl) rfl (fun K hK => ?_)
    go_simp
    obtain ⟨hm2, hG2⟩ := At.many [(0, .string k), (1, .string v), (2, .int .i64 ir), (3, .bool false)] h3
    dsimp only [setMany, setL, List.set] at hm2 hG2
    replace hm1 := hm1.only hG2 (by omega)
    replace h8 : At _ w.heap.size 41 [.int .i64 rev, .slice A n c] ∧ At _ (w.heap.size + 1) 50 [.int .i64 ki, .string k, .string v, .int .i64 r, .string i, .int .i64 j] := ⟨hHeld.1.only hG2 (by omega), hHeld.2.only hG2 (by omega)⟩
    replace hb := hb.trans ((Below.refl w.heap.size w7).grown hG2 hb.size (by intro i hi; injection hi with hi; omega))
    clear p0 p1 p2 p3 q0 q1 q2 q3 h3 hG2 hHeld
    generalize World.setCell _ _ _ = w8 at *
    refine hK.out _ _ (fun w' : World => At w' w.heap.size 41 [.int .i64 rev, .slice A n c] ∧ At w' (w.heap.size + 1) 50 [.int .i64 ki, .string k, .string v, .int .i64 r, .string i, .int .i64 j]) (h8) (fun _ h => h) (fun hHeld => ?_)
    clear hK K
    try simp only [PT]
    refine tag [14] ?_
    refine sH (v := ?_) rfl (by kernel_rfl) (fun _ _ _ h => h) (Or.inl ⟨by kernel_rfl, ?_⟩) (by assumption) ?_
    rotate_left
    · (intro wS hwS; (try dsimp only at hwS); go_simp; try (first | (with_reducible rfl) | rw [if_pos (by omega)] | rw [if_neg (by omega)]))
    try simp only [PT]
    refine tagN ?_
    refine wpAnyH_done (by kernel_rfl) ?_ _
    clear k0 k1 k2 hHeld h8
    obtain ⟨⟨u0, u1, u2, u3⟩, _⟩ := at4 hm1
    obtain ⟨⟨p0, p1, p2, p3⟩, _⟩ := at4 hm2
    go_wp2_with fail
    exact bodyPost_ret (v := .tuple #[.agg #[.int .i64 0, .int .i64 ir, .string ⟨#[]⟩, .slice none 0 0], .agg #[.string k, .string v, .int .i64 ir, .bool false], .bool true]) (by simp [results, Tryz.results40, go_sem, u0, u1, u2, u3, p0, p1, p2, p3]) rfl ⟨none, 0, 0, by rw [HP.out], by rw [HP.out]; exact OwnRI.nil, hb⟩
end Go.Proofs.YtnkjekkdndjfaaaGreat
namespace Go.Proofs.YtnkjekkdndjfaaaGreat
set_option linter.unusedVariables false
set_option linter.unusedSimpArgs false
open Go.RowKit
set_option maxRecDepth 100000 in
set_option maxHeartbeats 4000000 in
theorem rplan_ok5 (A : Option Addr) (n c : Nat) (l : List It) (rev : Int) (ki : Int) (k v i : ByteArray) (r j : Int) (w : World) (hr : RdI w w.heap.size A n c l) (hki : ki = 5) (hme : mayE l ⟨ki, k, v, r, i, j⟩ = 0) :
    Calls Tryz.prog 40 #[.agg #[.int .i64 rev, .slice A n c], .agg #[.int .i64 ki, .string k, .string v, .int .i64 r, .string i, .int .i64 j]] w fun x w' => RPlanR w w' (planP rev l ⟨ki, k, v, r, i, j⟩) x := by
  obtain ⟨ir, hir⟩ : ∃ ir, IntKind.i64.wrap (rev + 1) = ir := ⟨_, rfl⟩
  have hp : planP rev l ⟨ki, k, v, r, i, j⟩ = ⟨⟨0, ir, ⟨#[]⟩, []⟩, ⟨k, ⟨#[]⟩, ir, true⟩, true⟩ := by
    unfold planP inc
    simp only
    rw [if_neg (by omega), if_neg (by omega), if_neg (by omega), if_neg (by simp [hme]), hir, if_pos hki, decide_eq_true hki]
  obtain ⟨hq, hv0, hf3, hf4, hsd⟩ := may_zero hme
  simp only at hq hv0 hf3 hf4 hsd
  have HP := Lib.hid hp
  clear hp hme
  have HF := Lib.hid (hf4 (by omega)).1
  have HRR := Lib.hid (hf4 (by omega)).2
  have HSD := Lib.hid hsd
  clear hv0 hf3 hf4 hsd
  have hk1 : (ki == 1) = false := beq_eq_false_iff_ne.mpr (by omega)
  have hk2 : (ki == 2) = false := beq_eq_false_iff_ne.mpr (by omega)
  have hk3 : (ki == 3) = false := beq_eq_false_iff_ne.mpr (by omega)
  have hk5 : (ki == 5) = true := by rw [hki]; rfl
  have n3 : ¬ ki < 3 := by omega
  have n5 : ¬ 5 < ki := by omega
  have lt5 : ¬ ki < 5 := by omega
  have gt3 : 3 < ki := by omega
  clear hki
  have hkey := fun w => rkey_any k w
  rw [hq] at hkey
  clear hq
  have HKEY := Lib.hid hkey
  clear hkey
  obtain ⟨h0, h1, h2, h3, hb⟩ := four_at w 41 [.int .i64 rev, .slice A n c] 50 [.int .i64 ki, .string k, .string v, .int .i64 r, .string i, .int .i64 j] 54 [.int .i64 0, .int .i64 0, .string ⟨#[]⟩, .slice none 0 0] 110 [.string ⟨#[]⟩, .string ⟨#[]⟩, .int .i64 0, .bool false]
  have HR := Lib.hid (hr.step' hb)
  clear hr
  obtain ⟨y, hy⟩ : ∃ y, getI l k = y := ⟨_, rfl⟩
  obtain ⟨yo, hyo⟩ : ∃ yo, (findI l k).isSome = yo := ⟨_, rfl⟩
  have hrf := fun w hr => rfind_any A n c l rev k w hr
  rw [hy, hyo] at hrf
  obtain ⟨yk, yv, yr⟩ := y
  unfold It.val at hrf
  simp only at hrf
  have HRF := Lib.hid hrf
  clear hrf
  go_enter Tryz.func40, Tryz.ntmps40
  go_upto_region 1 with fail
  generalize hW1 : World.alloc (World.alloc (World.alloc (World.alloc w _) _) _) _ = w1 at *
  have hsz : w.heap.size + 4 ≤ w1.heap.size := by rw [← hW1]; simp
  clear hW1
  obtain ⟨⟨s0, s1⟩, sf⟩ := at2 h0
  obtain ⟨⟨x0, x1, x2, x3, x4, x5⟩, xf⟩ := at6 h1
  go_upto_region 2 with (((with_reducible refine calls_id ?_); refine (HRF.out w1 HR.out).mono ?_; rintro z w2 ⟨rfl, hb2⟩))
  obtain ⟨hy7, hb3⟩ := one_at w2 108 [.string yk, .string yv, .int .i64 yr]
  replace hb := chain (chain hb hb2) hb3
  replace h0 := (h0.step hb2).step hb3
  replace h1 := (h1.step hb2).step hb3
  replace h2 := (h2.step hb2).step hb3
  replace h3 := (h3.step hb2).step hb3
  have HR := Lib.hid ((HR.out.step hb2).step hb3)
  replace hsz : w.heap.size + 4 ≤ w2.heap.size := Nat.le_trans hsz hb2.size
  have hs3 := hb3.size
  clear hb2 hb3 s0 s1 sf x0 x1 x2 x3 x4 x5 xf HRF
  generalize World.alloc w2 _ = w3 at *
  obtain ⟨g7, hg7⟩ : ∃ g7, w2.heap.size = g7 := ⟨_, rfl⟩
  rw [hg7] at hy7 hsz hs3 ⊢
  clear hg7
  obtain ⟨⟨s0, s1⟩, sf⟩ := at2 h0
  obtain ⟨⟨x0, x1, x2, x3, x4, x5⟩, xf⟩ := at6 h1
  obtain ⟨⟨u0, u1, u2, u3⟩, v0, v1, v2, v3⟩ := at4 h2
  obtain ⟨⟨p0, p1, p2, p3⟩, q0, q1, q2, q3⟩ := at4 h3
  obtain ⟨⟨y0, y1, y2⟩, yf⟩ := at3 hy7
  obtain rfl : yo = true := hyo.symm.trans HF.out
  obtain rfl : r = yr := by have := HRR.out; rw [hy] at this; exact this.symm
  clear HRR
  clear HF hyo hy
  have hem := empty_iff i
  by_cases hi : 1 ≤ i.size
  · rw [decide_eq_true hi] at hem
    have hsta := rstands_any A n c l rev i j w3 HR.out
    rw [HSD.out hi] at hsta
    have HSTA := Lib.hid hsta
    clear hsta
    go_upto_region 23 with (first | (((with_reducible refine calls_id ?_); refine (HKEY.out _).mono ?_; rintro z w9 ⟨rfl, rfl⟩)) | (((with_reducible refine calls_id ?_); refine HSTA.out.mono ?_; rintro z w9 ⟨rfl, hb9⟩)))
    replace h0 := h0.step hb9
    replace h1 := h1.step hb9
    replace h2 := h2.step hb9
    replace h3 := h3.step hb9
    replace hy7 := hy7.step hb9
    replace hb := chain hb hb9
    have hs9 := hb9.size
    clear s0 s1 sf x0 x1 x2 x3 x4 x5 xf u0 u1 u2 u3 v0 v1 v2 v3 p0 p1 p2 p3 q0 q1 q2 q3 y0 y1 y2 yf hb9
    obtain ⟨⟨s0, s1⟩, sf⟩ := at2 h0
    obtain ⟨⟨x0, x1, x2, x3, x4, x5⟩, xf⟩ := at6 h1
    obtain ⟨⟨u0, u1, u2, u3⟩, v0, v1, v2, v3⟩ := at4 h2
    obtain ⟨⟨p0, p1, p2, p3⟩, q0, q1, q2, q3⟩ := at4 h3
    obtain ⟨⟨y0, y1, y2⟩, yf⟩ := at3 hy7
    go_upto_region 26 with fail
    clear s0 s1 sf x0 x1 x2 x3 x4 x5 xf u0 u1 u2 u3 v0 v1 v2 v3 p0 p1 p2 p3 q0 q1 q2 q3 y0 y1 y2 yf hy7
    have k0 : ∀ w' : World, At w' w.heap.size 41 [.int .i64 rev, .slice A n c] ∧ At w' (w.heap.size + 1) 50 [.int .i64 ki, .string k, .string v, .int .i64 r, .string i, .int .i64 j] → _ := fun w' h => (at2 h.1).1.1
    have k1 : ∀ w' : World, At w' w.heap.size 41 [.int .i64 rev, .slice A n c] ∧ At w' (w.heap.size + 1) 50 [.int .i64 ki, .string k, .string v, .int .i64 r, .string i, .int .i64 j] → _ := fun w' h => (at6 h.2).1.2.1
    have k2 : ∀ w' : World, At w' w.heap.size 41 [.int .i64 rev, .slice A n c] ∧ At w' (w.heap.size + 1) 50 [.int .i64 ki, .string k, .string v, .int .i64 r, .string i, .int .i64 j] → _ := fun w' h => (at6 h.2).1.2.2.1
    refine region_begin (fun w' : World => At w' w.heap.size 41 [.int .i64 rev, .slice A n c] ∧ At w' (w.heap.size + 1) 50 [.int .i64 ki, .string k, .string v, .int .i64 r, .string i, .int .i64 j]) (by kernel_rfl) (⟨h0.drew, h1.drew⟩) (fun hHeld => ?_)
    replace h2 := h2.drew
    replace h3 := h3.drew
    replace hb := hb.drew
    clear h0 h1
    generalize World.drew _ = w6 at *
    refine tag [0,1,2,3,4,5,6,7,8,9] ?_
    iterate 10 (
      refine sH (v := ?_) rfl (by kernel_rfl) (fun _ _ _ h => h) (Or.inl ⟨by kernel_rfl, ?_⟩) (by assumption) ?_
      rotate_left
      · (intro wS hwS; (try dsimp only at hwS); go_simp; try (first | (with_reducible rfl) | rw [if_pos (by omega)] | rw [if_neg (by omega)]))
      try simp only [PT])
    refine tagN ?_
    obtain ⟨⟨u0, u1, u2, u3⟩, v0, v1, v2, v3⟩ := at4 h2
    refine region_one 10 (by kernel_rfl) rfl (fun K hK => ?_)
    go_simp
    obtain ⟨hm1, hG1⟩ := At.many [(0, .int .i64 0), (1, .int .i64 ir), (2, .string ⟨#[]⟩), (3, .slice none 0 0)] h2
    dsimp only [setMany, setL, List.set] at hm1 hG1
    replace h3 := h3.only hG1 (by omega)
    have h8 : At _ w.heap.size 41 [.int .i64 rev, .slice A n c] ∧ At _ (w.heap.size + 1) 50 [.int .i64 ki, .string k, .string v, .int .i64 r, .string i, .int .i64 j] := ⟨hHeld.1.only hG1 (by omega), hHeld.2.only hG1 (by omega)⟩
    replace hb := hb.trans ((Below.refl w.heap.size w6).grown hG1 hb.size (by intro i hi; injection hi with hi; omega))
    clear u0 u1 u2 u3 v0 v1 v2 v3 h2 hG1 hHeld
    generalize World.setCell _ _ _ = w7 at *
    refine hK.out _ _ (fun w' : World => At w' w.heap.size 41 [.int .i64 rev, .slice A n c] ∧ At w' (w.heap.size + 1) 50 [.int .i64 ki, .string k, .string v, .int .i64 r, .string i, .int .i64 j]) (h8) (fun _ h => h) (fun hHeld => ?_)
    clear hK K
    try simp only [PT]
    obtain ⟨⟨p0, p1, p2, p3⟩, q0, q1, q2, q3⟩ := at4 h3
    refine region_one 11 (by kernel_rfl) rfl (fun K hK => ?_)
    go_simp
    obtain ⟨hm2, hG2⟩ := At.many [(0, .string k), (1, .string ⟨#[]⟩), (2, .int .i64 ir), (3, .bool true)] h3
    dsimp only [setMany, setL, List.set] at hm2 hG2
    replace hm1 := hm1.only hG2 (by omega)
    replace h8 : At _ w.heap.size 41 [.int .i64 rev, .slice A n c] ∧ At _ (w.heap.size + 1) 50 [.int .i64 ki, .string k, .string v, .int .i64 r, .string i, .int .i64 j] := ⟨hHeld.1.only hG2 (by omega), hHeld.2.only hG2 (by omega)⟩
    replace hb := hb.trans ((Below.refl w.heap.size w7).grown hG2 hb.size (by intro i hi; injection hi with hi; omega))
    clear p0 p1 p2 p3 q0 q1 q2 q3 h3 hG2 hHeld
    generalize World.setCell _ _ _ = w8 at *
    refine hK.out _ _ (fun w' : World => At w' w.heap.size 41 [.int .i64 rev, .slice A n c] ∧ At w' (w.heap.size + 1) 50 [.int .i64 ki, .string k, .string v, .int .i64 r, .string i, .int .i64 j]) (h8) (fun _ h => h) (fun hHeld => ?_)
    clear hK K
    try simp only [PT]
    refine tag [12] ?_
    refine sH (v := ?_) rfl (by kernel_rfl) (fun _ _ _ h => h) (Or.inl ⟨by kernel_rfl, ?_⟩) (by assumption) ?_
    rotate_left
    · (intro wS hwS; (try dsimp only at hwS); go_simp; try (first | (with_reducible rfl) | rw [if_pos (by omega)] | rw [if_neg (by omega)]))
    try simp only [PT]
    refine tagN ?_
    refine wpAnyH_done (by kernel_rfl) ?_ _
    clear k0 k1 k2 hHeld h8
    obtain ⟨⟨u0, u1, u2, u3⟩, _⟩ := at4 hm1
    obtain ⟨⟨p0, p1, p2, p3⟩, _⟩ := at4 hm2
    go_wp2_with fail
    exact bodyPost_ret (v := .tuple #[.agg #[.int .i64 0, .int .i64 ir, .string ⟨#[]⟩, .slice none 0 0], .agg #[.string k, .string ⟨#[]⟩, .int .i64 ir, .bool true], .bool true]) (by simp [results, Tryz.results40, go_sem, u0, u1, u2, u3, p0, p1, p2, p3]) rfl ⟨none, 0, 0, by rw [HP.out], by rw [HP.out]; exact OwnRI.nil, hb⟩
  · rw [decide_eq_false hi] at hem
    go_upto_region 26 with (((with_reducible refine calls_id ?_); refine (HKEY.out _).mono ?_; rintro z w9 ⟨rfl, rfl⟩))
    clear s0 s1 sf x0 x1 x2 x3 x4 x5 xf u0 u1 u2 u3 v0 v1 v2 v3 p0 p1 p2 p3 q0 q1 q2 q3 y0 y1 y2 yf hy7
    have k0 : ∀ w' : World, At w' w.heap.size 41 [.int .i64 rev, .slice A n c] ∧ At w' (w.heap.size + 1) 50 [.int .i64 ki, .string k, .string v, .int .i64 r, .string i, .int .i64 j] → _ := fun w' h => (at2 h.1).1.1
    have k1 : ∀ w' : World, At w' w.heap.size 41 [.int .i64 rev, .slice A n c] ∧ At w' (w.heap.size + 1) 50 [.int .i64 ki, .string k, .string v, .int .i64 r, .string i, .int .i64 j] → _ := fun w' h => (at6 h.2).1.2.1
    have k2 : ∀ w' : World, At w' w.heap.size 41 [.int .i64 rev, .slice A n c] ∧ At w' (w.heap.size + 1) 50 [.int .i64 ki, .string k, .string v, .int .i64 r, .string i, .int .i64 j] → _ := fun w' h => (at6 h.2).1.2.2.1
    refine region_begin (fun w' : World => At w' w.heap.size 41 [.int .i64 rev, .slice A n c] ∧ At w' (w.heap.size + 1) 50 [.int .i64 ki, .string k, .string v, .int .i64 r, .string i, .int .i64 j]) (by kernel_rfl) (⟨h0.drew, h1.drew⟩) (fun hHeld => ?_)
    replace h2 := h2.drew
    replace h3 := h3.drew
    replace hb := hb.drew
    clear h0 h1
    generalize World.drew _ = w6 at *
    refine tag [0,1,2,3,4,5,6,7,8,9] ?_
    iterate 10 (
      refine sH (v := ?_) rfl (by kernel_rfl) (fun _ _ _ h => h) (Or.inl ⟨by kernel_rfl, ?_⟩) (by assumption) ?_
      rotate_left
      · (intro wS hwS; (try dsimp only at hwS); go_simp; try (first | (with_reducible rfl) | rw [if_pos (by omega)] | rw [if_neg (by omega)]))
      try simp only [PT])
    refine tagN ?_
    obtain ⟨⟨u0, u1, u2, u3⟩, v0, v1, v2, v3⟩ := at4 h2
    refine region_one 10 (by kernel_rfl) rfl (fun K hK => ?_)
    go_simp
    obtain ⟨hm1, hG1⟩ := At.many [(0, .int .i64 0), (1, .int .i64 ir), (2, .string ⟨#[]⟩), (3, .slice none 0 0)] h2
    dsimp only [setMany, setL, List.set] at hm1 hG1
    replace h3 := h3.only hG1 (by omega)
    have h8 : At _ w.heap.size 41 [.int .i64 rev, .slice A n c] ∧ At _ (w.heap.size + 1) 50 [.int .i64 ki, .string k, .string v, .int .i64 r, .string i, .int .i64 j] := ⟨hHeld.1.only hG1 (by omega), hHeld.2.only hG1 (by omega)⟩
    replace hb := hb.trans ((Below.refl w.heap.size w6).grown hG1 hb.size (by intro i hi; injection hi with hi; omega))
    clear u0 u1 u2 u3 v0 v1 v2 v3 h2 hG1 hHeld
    generalize World.setCell _ _ _ = w7 at *
    refine hK.out _ _ (fun w' : World => At w' w.heap.size 41 [.int .i64 rev, .slice A n c] ∧ At w' (w.heap.size + 1) 50 [.int .i64 ki, .string k, .string v, .int .i64 r, .string i, .int .i64 j]) (h8) (fun _ h => h) (fun hHeld => ?_)
    clear hK K
    try simp only [PT]
    obtain ⟨⟨p0, p1, p2, p3⟩, q0, q1, q2, q3⟩ := at4 h3
    refine region_one 11 (by kernel_rfl) rfl (fun K hK => ?_)
    go_simp
    obtain ⟨hm2, hG2⟩ := At.many [(0, .string k), (1, .string ⟨#[]⟩), (2, .int .i64 ir), (3, .bool true)] h3
    dsimp only [setMany, setL, List.set] at hm2 hG2
    replace hm1 := hm1.only hG2 (by omega)
    replace h8 : At _ w.heap.size 41 [.int .i64 rev, .slice A n c] ∧ At _ (w.heap.size + 1) 50 [.int .i64 ki, .string k, .string v, .int .i64 r, .string i, .int .i64 j] := ⟨hHeld.1.only hG2 (by omega), hHeld.2.only hG2 (by omega)⟩
    replace hb := hb.trans ((Below.refl w.heap.size w7).grown hG2 hb.size (by intro i hi; injection hi with hi; omega))
    clear p0 p1 p2 p3 q0 q1 q2 q3 h3 hG2 hHeld
    generalize World.setCell _ _ _ = w8 at *
    refine hK.out _ _ (fun w' : World => At w' w.heap.size 41 [.int .i64 rev, .slice A n c] ∧ At w' (w.heap.size + 1) 50 [.int .i64 ki, .string k, .string v, .int .i64 r, .string i, .int .i64 j]) (h8) (fun _ h => h) (fun hHeld => ?_)
    clear hK K
    try simp only [PT]
    refine tag [12] ?_
    refine sH (v := ?_) rfl (by kernel_rfl) (fun _ _ _ h => h) (Or.inl ⟨by kernel_rfl, ?_⟩) (by assumption) ?_
    rotate_left
    · (intro wS hwS; (try dsimp only at hwS); go_simp; try (first | (with_reducible rfl) | rw [if_pos (by omega)] | rw [if_neg (by omega)]))
    try simp only [PT]
    refine tagN ?_
    refine wpAnyH_done (by kernel_rfl) ?_ _
    clear k0 k1 k2 hHeld h8
    obtain ⟨⟨u0, u1, u2, u3⟩, _⟩ := at4 hm1
    obtain ⟨⟨p0, p1, p2, p3⟩, _⟩ := at4 hm2
    go_wp2_with fail
    exact bodyPost_ret (v := .tuple #[.agg #[.int .i64 0, .int .i64 ir, .string ⟨#[]⟩, .slice none 0 0], .agg #[.string k, .string ⟨#[]⟩, .int .i64 ir, .bool true], .bool true]) (by simp [results, Tryz.results40, go_sem, u0, u1, u2, u3, p0, p1, p2, p3]) rfl ⟨none, 0, 0, by rw [HP.out], by rw [HP.out]; exact OwnRI.nil, hb⟩
end Go.Proofs.YtnkjekkdndjfaaaGreat
