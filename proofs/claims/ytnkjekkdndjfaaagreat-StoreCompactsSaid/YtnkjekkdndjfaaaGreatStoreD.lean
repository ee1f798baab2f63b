
/- Chapter 11: an effect is sure, and done. -/
import Derived.Test.YtnkjekkdndjfaaaGreatStoreC
namespace Go.Proofs.YtnkjekkdndjfaaaGreat
set_option linter.unusedVariables false
set_option linter.unusedSimpArgs false
open Go.RowKit
def M6 (gs gd bd gst bst gl : Nat) : Nat → Obj → Prop := fun i _ => i = gs ∨ i = gl ∨ i = gd ∨ i = bd ∨ i = gst ∨ i = bst
section
variable {w w' : World} {gs gd bd N gst bst Ns gl M K : Nat} {d : PD} {s : SL} {sz ev since : Int} {ld dead : Bool}
/-- the log is turned: the rest stays -/
theorem IsSto.log (h : IsSto w gs gd bd N gst bst Ns gl d s sz ld ev since dead) {N' : Nat} {q : WL} (hm : Mod (fun i _ => i = gl ∨ i = gd ∨ i = bd) w w') (hw : IsW w' gl gd bd N' logN q) : IsSto w' gs gd bd N' gst bst Ns gl q.d s q.sz q.dead ev since dead := by
  obtain ⟨l0, _, h2⟩ := id h.dk
  have n1 : ¬ gs = gl := At.ne h.blk h.lg (by decide)
  have n2 := h.dk.freeAt h.blk (by decide)
  have n3 : ¬ gst = gl := At.ne h.st.at_ h.lg (by decide)
  have n4 := h.dk.freeAt h.st.at_ (by decide)
  have n5 := h.st.mp.ne_at h.lg
  have n6 := h.st.mp.ne_at h2.at_
  have n7 := h.ne
  exact ⟨hm.at h.blk (by omega), hw.dk, h.st.mod hm (fun o => by omega) (fun o => by omega), hw.lg, h.ne⟩
/-- the store's own block is turned -/
theorem IsSto.own (h : IsSto w gs gd bd N gst bst Ns gl d s sz ld ev since dead) {since' : Int} {dead' : Bool} (hm : Mod (fun i _ => i = gs) w w') (hb : At w' gs 107 [.pointer (some ⟨gd, 0, none⟩), .pointer (some ⟨gst, 0, none⟩), .pointer (some ⟨gl, 0, none⟩), .int .i64 ev, .int .i64 since', .bool dead']) : IsSto w' gs gd bd N gst bst Ns gl d s sz ld ev since' dead' :=
  ⟨hb, h.dk.other h.blk (by decide) (by decide) hm, h.st.cell h.blk (by decide) hm, hm.at h.lg (At.ne h.lg h.blk (by decide)), h.ne⟩
/-- the state is turned -/
theorem IsSto.sta (h : IsSto w gs gd bd N gst bst Ns gl d s sz ld ev since dead) {s' : SL} {Ns' : Nat} (hm : Mod (fun i _ => i = gst ∨ i = bst) w w') (hs : IsSt w' gst bst Ns' s'.rev s'.l) : IsSto w' gs gd bd N gst bst Ns' gl d s' sz ld ev since dead :=
  ⟨At.st h.blk h.st hm (by decide), h.dk.st h.st hm h.ne, hs, At.st h.lg h.st hm (by decide), h.ne⟩
set_option maxRecDepth 100000 in
set_option maxHeartbeats 4000000 in
theorem swrite_ok (e : Eff) (w : World) (h : IsSto w gs gd bd N gst bst Ns gl d s sz ld ev since dead) (ho : d.Ok M K) (hM : M ≤ 100000000) (hN : N < 800000) (hNs : Ns < 800000) (hsz : 0 ≤ sz ∧ sz ≤ 1099511627776) (hsi : 0 ≤ since ∧ since ≤ 1000000) (hri : e.right) (hrv : e.r < 9223372036854775808) (hap : apOk s.rev s.l e = true) (hc : (waP ⟨d, sz, ld⟩ logN (effL e)).1 = 0) :
    Calls Tryz.prog 44 #[.pointer (some ⟨gs, 0, none⟩), e.val] w fun x w' => x = .returned (.bool true) ∧ Mod (M6 gs gd bd gst bst gl) w w' ∧
      IsSto w' gs gd bd (N + 2) gst bst (Ns + 1) gl (waP ⟨d, sz, ld⟩ logN (effL e)).2.d ⟨e.r, applyL e.it e.g s.l⟩ (waP ⟨d, sz, ld⟩ logN (effL e)).2.sz (waP ⟨d, sz, ld⟩ logN (effL e)).2.dead ev (since + 1) dead := by
  have HWA := fun (A : Option Addr) (n c : Nat) (v : World) (h : IsW v gl gd bd N logN ⟨d, sz, ld⟩) (hr : RdB v v.heap.size A n c (effL e)) (hn : n ≤ 1048576) => wapp_any ⟨d, sz, ld⟩ logN_hi A n c (effL e) v h ho hM (by omega) hr hn hsz
  obtain ⟨o, ho2⟩ : ∃ o, waP ⟨d, sz, ld⟩ logN (effL e) = o := ⟨_, rfl⟩
  rw [ho2] at HWA hc ⊢
  obtain ⟨oc, q⟩ := o
  simp only at hc
  subst hc
  unfold WP at HWA
  simp only at HWA ⊢
  have hk1 := hri.2.1
  have hv1 := hri.2.2.1
  have HAP := fun v (hs : IsSt v gst bst Ns s.rev s.l) => apply_any e.k e.v e.r e.g v hs (by omega) (by simp only [maxLen]; omega)
  unfold ApR at HAP
  have hap2 : apOk s.rev s.l ⟨e.k, e.v, e.r, e.g⟩ = true := hap
  simp only [hap2, if_true] at HAP
  have HPUT := fun v => eput_ok e v hri hrv
  clear ho2 ho hap hap2
  obtain ⟨ek, evv, er, eg⟩ := e
  unfold Eff.val Eff.cells at HPUT ⊢
  unfold Eff.it at HAP ⊢
  simp only at HPUT HAP HWA hk1 hv1 ⊢
  obtain ⟨h3, hb3⟩ := one_at w 115 [.string ek, .string evv, .int .i64 er, .bool eg]
  replace h := h.step hb3
  have hm : Mod (M6 gs gd bd gst bst gl) w _ := (Mod.refl _ w).below hb3
  clear hb3 hri
  go_enter Tryz.func44, Tryz.ntmps44
  go_upto_region 1 with fail
  generalize World.alloc w _ = w1 at *
  generalize w.heap.size = g3 at *
  obtain ⟨⟨y0, y1, y2, y3⟩, yf⟩ := at4 h3
  have HP1 := HPUT w1
  go_upto_region 2 with (((with_reducible refine (HP1).mono ?_); rintro z w2 ⟨A2, c2, rfl, hown, hb2⟩))
  replace h := h.step hb2
  replace hm := hm.below hb2
  replace h3 := h3.step hb2
  have hrd := hown.rd
  clear HP1 HPUT hown hb2 y0 y1 y2 y3 yf
  obtain ⟨⟨x0, x1, x2, x3, x4, x5⟩, xf⟩ := at6 h.blk
  have HW2 := HWA A2 _ c2 w2 ⟨h.lg, h.dk⟩ hrd (by omega)
  go_upto_region 4 with (((with_reducible refine (HW2).mono ?_); rintro z w3 ⟨rfl, hm3, hw3⟩))
  have n1 : ¬ g3 = gl := At.ne h3 h.lg (by decide)
  have n2 := h.dk.freeAt h3 (by decide)
  replace h3 := hm3.at h3 (by omega)
  replace h := h.log hm3 hw3
  replace hm := hm.trans (hm3.mono (M := M6 gs gd bd gst bst gl) fun i o _ _ e => by unfold M6; omega)
  clear HW2 HWA hm3 hw3 hrd x0 x1 x2 x3 x4 x5 xf n1 n2
  go_upto_region 7 with fail
  refine region_any (by kernel_rfl) ?_
  change wpAny _ _ _ _ _ _ _ (World.drew _)
  replace h := h.drew
  replace hm := hm.drew
  replace h3 := At.drew h3
  generalize World.drew _ = w4 at *
  obtain ⟨⟨x0, x1, x2, x3, x4, x5⟩, xf⟩ := at6 h.blk
  obtain ⟨⟨y0, y1, y2, y3⟩, yf⟩ := at4 h3
  have l1 := h.blk.lt
  have l3 := h3.lt
  refine stage 5 ?_
  refine stage_read (i := 0) (v := ?_) rfl (by kernel_rfl) (by kernel_rfl) (by kernel_rfl) (by kernel_rfl) (by kernel_rfl) (by kernel_rfl) (fun _ _ _ h => h) (Or.inl ⟨by kernel_rfl, ?_⟩) ?_
  rotate_left
  · (intro wS hwS; obtain ⟨hcS, hfS, hhS⟩ := bcell hwS; go_simp; try (first | (with_reducible rfl) | rw [if_pos (by omega)] | rw [if_neg (by omega)]))
  try simp only [Act.put, List.getElem_toArray, List.getElem_cons_succ, List.getElem_cons_zero, List.setIfInBounds_toArray, List.set_cons_zero, List.set_cons_succ]
  refine stage_read (i := 1) (v := ?_) rfl (by kernel_rfl) (by kernel_rfl) (by kernel_rfl) (by kernel_rfl) (by kernel_rfl) (by kernel_rfl) (fun _ _ _ h => h) (Or.inl ⟨by kernel_rfl, ?_⟩) ?_
  rotate_left
  · (intro wS hwS; obtain ⟨hcS, hfS, hhS⟩ := bcell hwS; go_simp; try (first | (with_reducible rfl) | rw [if_pos (by omega)] | rw [if_neg (by omega)]))
  try simp only [Act.put, List.getElem_toArray, List.getElem_cons_succ, List.getElem_cons_zero, List.setIfInBounds_toArray, List.set_cons_zero, List.set_cons_succ]
  refine stage_read (i := 2) (v := ?_) rfl (by kernel_rfl) (by kernel_rfl) (by kernel_rfl) (by kernel_rfl) (by kernel_rfl) (by kernel_rfl) (fun _ _ _ h => h) (Or.inl ⟨by kernel_rfl, ?_⟩) ?_
  rotate_left
  · (intro wS hwS; obtain ⟨hcS, hfS, hhS⟩ := bcell hwS; go_simp; try (first | (with_reducible rfl) | rw [if_pos (by omega)] | rw [if_neg (by omega)]))
  try simp only [Act.put, List.getElem_toArray, List.getElem_cons_succ, List.getElem_cons_zero, List.setIfInBounds_toArray, List.set_cons_zero, List.set_cons_succ]
  refine stage_read (i := 3) (v := ?_) rfl (by kernel_rfl) (by kernel_rfl) (by kernel_rfl) (by kernel_rfl) (by kernel_rfl) (by kernel_rfl) (fun _ _ _ h => h) (Or.inl ⟨by kernel_rfl, ?_⟩) ?_
  rotate_left
  · (intro wS hwS; obtain ⟨hcS, hfS, hhS⟩ := bcell hwS; go_simp; try (first | (with_reducible rfl) | rw [if_pos (by omega)] | rw [if_neg (by omega)]))
  try simp only [Act.put, List.getElem_toArray, List.getElem_cons_succ, List.getElem_cons_zero, List.setIfInBounds_toArray, List.set_cons_zero, List.set_cons_succ]
  refine stage_read (i := 4) (v := ?_) rfl (by kernel_rfl) (by kernel_rfl) (by kernel_rfl) (by kernel_rfl) (by kernel_rfl) (by kernel_rfl) (fun _ _ _ h => h) (Or.inl ⟨by kernel_rfl, ?_⟩) ?_
  rotate_left
  · (intro wS hwS; obtain ⟨hcS, hfS, hhS⟩ := bcell hwS; go_simp; try (first | (with_reducible rfl) | rw [if_pos (by omega)] | rw [if_neg (by omega)]))
  try simp only [Act.put, List.getElem_toArray, List.getElem_cons_succ, List.getElem_cons_zero, List.setIfInBounds_toArray, List.set_cons_zero, List.set_cons_succ]
  refine stage_end (by kernel_rfl) rfl (fun K hK => ?_)
  go_simp
  refine (HAP w4 h.st).mono ?_
  rintro z w5 ⟨rfl, hst5, hm5⟩
  refine hK.out _ _ ?_
  clear hK K
  try simp only [Act.put, List.getElem_toArray, List.getElem_cons_succ, List.getElem_cons_zero, List.setIfInBounds_toArray, List.set_cons_zero, List.set_cons_succ]
  first | refine wpAnyT_done (by kernel_rfl) ?_ _ | refine wpAny_done (by kernel_rfl) ?_ _
  replace h := h.sta (s' := ⟨er, applyL ⟨ek, evv, er⟩ eg s.l⟩) hm5 hst5
  replace hm := hm.trans (hm5.mono (M := M6 gs gd bd gst bst gl) fun i o _ _ e => by unfold M6; omega)
  clear HAP hst5 hm5 x0 x1 x2 x3 x4 x5 xf y0 y1 y2 y3 yf l1 l3 h3
  obtain ⟨h7, hG7⟩ := At.many [(4, .int .i64 (since + 1))] h.blk
  dsimp only [setMany, setL, List.set] at h7 hG7
  have hm7 := mod_one hG7
  have hf := Lib.hid (h.own hm7 h7)
  have HM := Lib.hid (hm.trans (hm7.mono (M := M6 gs gd bd gst bst gl) fun i o _ _ e => by unfold M6; omega))
  obtain ⟨⟨x0, x1, x2, x3, x4, x5⟩, xf0, xf1, xf2, xf3, xf4, xf5⟩ := at6 h.blk
  have hw1 : IntKind.i64.wrap (since + 1) = since + 1 := IntWalk.i64_in _ (by omega)
  clear h hm h7 hG7 hm7
  go_wp2_with fail
  go_ret
  exact ⟨rfl, HM.out, hf.out⟩
end
end Go.Proofs.YtnkjekkdndjfaaaGreat
