
/- Chapter 11: Do, where nothing is compacted. -/
import Derived.Test.YtnkjekkdndjfaaaGreatStoreD
namespace Go.Proofs.YtnkjekkdndjfaaaGreat
set_option linter.unusedVariables false
set_option linter.unusedSimpArgs false
open Go.RowKit
section
variable {P : Program} {ops : Array Oper} {Q : Exit → Act → World → Prop} {md : Region.Mode} {b : Nat}
theorem stage_three (i j k : Nat) {w : World} {fuel : Nat} {listed : Array Bool} {a : Act} {oi oj ok : Oper} (hr : Region.ready md ops listed = [i, j, k]) (hoi : ops[i]? = some oi) (hoj : ops[j]? = some oj) (hok : ops[k]? = some ok) (hib : (i == b) = false) (hjb : (j == b) = false) (hkb : (k == b) = false)
    (h1 : ∀ K' : Act → World → Prop, Shut (∀ a w', Below w.heap.size w w' → wpAnyT P md ops Q (Till w') b fuel (listed.setIfInBounds i true) a w' → K' a w') → if Region.wanted oi (yielded ops a.tmps) = true then Oper.wp P oi a w K' Q else K' (a.put oi.dst undef) w)
    (h2 : ∀ K' : Act → World → Prop, Shut (∀ a w', Below w.heap.size w w' → wpAnyT P md ops Q (Till w') b fuel (listed.setIfInBounds j true) a w' → K' a w') → if Region.wanted oj (yielded ops a.tmps) = true then Oper.wp P oj a w K' Q else K' (a.put oj.dst undef) w)
    (h3 : ∀ K' : Act → World → Prop, Shut (∀ a w', Below w.heap.size w w' → wpAnyT P md ops Q (Till w') b fuel (listed.setIfInBounds k true) a w' → K' a w') → if Region.wanted ok (yielded ops a.tmps) = true then Oper.wp P ok a w K' Q else K' (a.put ok.dst undef) w) :
    wpAnyT P md ops Q (Till w) b (fuel + 1) listed a w := by
  refine ⟨fun h0 => (by rw [h0] at hr; cases hr), fun n hn => ?_⟩
  rw [hr] at hn
  simp only [List.mem_cons, List.not_mem_nil, or_false] at hn
  have hi : ¬ i = b := by simpa using hib
  have hj : ¬ j = b := by simpa using hjb
  have hk : ¬ k = b := by simpa using hkb
  rcases hn with rfl | rfl | rfl
  · exact wpOp_step hoi fun K' hK => h1 K' fun a w' hb hw => hK a w' (by
      rw [if_neg hi]
      exact ⟨hb, wpAnyT_mono (fun w2 h2 => hb.trans (Below.mono h2 hb.size)) _ _ _ _ hw⟩)
  · exact wpOp_step hoj fun K' hK => h2 K' fun a w' hb hw => hK a w' (by
      rw [if_neg hj]
      exact ⟨hb, wpAnyT_mono (fun w2 h2 => hb.trans (Below.mono h2 hb.size)) _ _ _ _ hw⟩)
  · exact wpOp_step hok fun K' hK => h3 K' fun a w' hb hw => hK a w' (by
      rw [if_neg hk]
      exact ⟨hb, wpAnyT_mono (fun w2 h2 => hb.trans (Below.mono h2 hb.size)) _ _ _ _ hw⟩)
end
section
variable {w w' : World} {gs gd bd N gst bst Ns gl M K : Nat} {d : PD} {s : SL} {sz ev since : Int} {ld dead : Bool}
theorem IsSto.farT (h : IsSto w gs gd bd N gst bst Ns gl d s sz ld ev since dead) {i : Nat} {o : Obj} {t : TypeId} (ho : w.heap[i]? = some o) (hit : IsT t o) (h1 : t ≠ 107) (h2 : t ≠ 136) (h3 : t ≠ 92) (h4 : t ≠ 146) : ¬ M6 gs gd bd gst bst gl i o := by
  have n := h.dk.free ho hit h3
  have n1 := isT_at h.blk ho hit h1
  have n2 := isT_at h.lg ho hit h2
  have n3 := isT_at h.st.at_ ho hit h4
  have n4 := h.st.mp.no_t ho hit
  unfold M6
  omega
theorem IsSto.far (h : IsSto w gs gd bd N gst bst Ns gl d s sz ld ev since dead) {g : Nat} {cs : List Value} {t : TypeId} (hx : At w g t cs) (h1 : t ≠ 107) (h2 : t ≠ 136) (h3 : t ≠ 92) (h4 : t ≠ 146) (hm : Mod (M6 gs gd bd gst bst gl) w w') : At w' g t cs :=
  hm.at hx (h.farT hx rfl h1 h2 h3 h4)
/-- another block of cells is turned -/
theorem IsSto.cell (h : IsSto w gs gd bd N gst bst Ns gl d s sz ld ev since dead) {g : Nat} {cs : List Value} {t : TypeId} (hx : At w g t cs) (h1 : t ≠ 107) (h2 : t ≠ 136) (h3 : t ≠ 92) (h4 : t ≠ 146) (h5 : t ≠ 5) (hm : Mod (fun i _ => i = g) w w') : IsSto w' gs gd bd N gst bst Ns gl d s sz ld ev since dead :=
  ⟨hm.at h.blk (At.ne h.blk hx (fun e => h1 e.symm)), h.dk.other hx h3 h5 hm, h.st.cell hx h4 hm, hm.at h.lg (At.ne h.lg hx (fun e => h2 e.symm)), h.ne⟩
def DOg (w w' : World) (p : Told) (Post : World → Prop) (x : Ending) : Prop :=
  ∃ A n c, x = .returned (.agg #[.int .i64 p.code, .int .i64 p.rev, .string p.val, .slice A n c]) ∧ OwnI w' w.heap.size A n c p.items ∧ Post w'
set_option maxRecDepth 100000 in
set_option maxHeartbeats 8000000 in
theorem sdo_read (o : Ask) (w : World) (h : IsSto w gs gd bd N gst bst Ns gl d s sz ld ev since false) (hlt : since < ev) (hNs : Ns < 800000) (hk : Ks s) (hks : o.key.size ≤ maxLen) (his : o.iff.size ≤ maxLen) (hwr : (planP s.rev s.l o).wr = false) :
    Calls Tryz.prog 18 #[.pointer (some ⟨gs, 0, none⟩), o.v] w fun x w' => DOg w w' (planP s.rev s.l o).told (fun w' => Mod (M6 gs gd bd gst bst gl) w w' ∧ IsSto w' gs gd bd N gst bst Ns gl d s sz ld ev since false) x := by
  have HPL := fun v (h : IsSt v gst bst Ns s.rev s.l) => plan_any o v h (by omega) hk.sizes hks his
  obtain ⟨p, hp⟩ : ∃ p, planP s.rev s.l o = p := ⟨_, rfl⟩
  rw [hp] at HPL hwr ⊢
  clear hp hk hks his
  obtain ⟨⟨tc, tr, tv, ti⟩, ⟨ek, evv, er, eg⟩, wr⟩ := p
  unfold PlanR at HPL
  simp only at HPL hwr ⊢
  subst hwr
  obtain ⟨ki, k, vl, r, i, j⟩ := o
  unfold Ask.v Ask.cells at HPL ⊢
  simp only at HPL ⊢
  obtain ⟨h0, hR, hb⟩ := two_at w 49 [.int .i64 ki, .string k, .string vl, .int .i64 r, .string i, .int .i64 j] 58 [.int .i64 0, .int .i64 0, .string ⟨#[]⟩, .slice none 0 0]
  replace h := h.step hb
  have hm : Mod (M6 gs gd bd gst bst gl) w _ := (Mod.refl _ w).below hb
  have hB2 := hb.size
  have hd5 : decide (ev ≤ since) = false := decide_eq_false (by omega)
  go_enter Tryz.func18, Tryz.ntmps18
  go_upto_region 1 with fail
  generalize World.alloc (World.alloc w _) _ = w1 at *
  obtain ⟨gR, hgRe⟩ : ∃ gR, w.heap.size + 1 = gR := ⟨_, rfl⟩
  rw [hgRe] at hR ⊢
  have hgR : w.heap.size ≤ gR := by omega
  clear hgRe hb
  obtain ⟨⟨x0, x1, x2, x3, x4, x5⟩, xf⟩ := at6 h.blk
  obtain ⟨⟨y0, y1, y2, y3, y4, y5⟩, yf⟩ := at6 h0
  go_upto_region 5 with fail
  refine region_any (by kernel_rfl) ?_
  change wpAny _ _ _ _ _ _ _ (World.drew _)
  replace h := h.drew
  replace hm := hm.drew
  replace hR := At.drew hR
  replace h0 := At.drew h0
  clear x0 x1 x2 x3 x4 x5 xf y0 y1 y2 y3 y4 y5 yf
  replace hB2 : w.heap.size ≤ (World.drew w1).heap.size := hB2
  generalize World.drew _ = w2 at *
  obtain ⟨⟨x0, x1, x2, x3, x4, x5⟩, xf⟩ := at6 h.blk
  obtain ⟨⟨y0, y1, y2, y3, y4, y5⟩, yf⟩ := at6 h0
  have l1 := h.blk.lt
  have l0 := h0.lt
  refine stage 100000 ?_
  refine stage_read (i := 0) (v := ?_) rfl (by kernel_rfl) (by kernel_rfl) (by kernel_rfl) (by kernel_rfl) (by kernel_rfl) (by kernel_rfl) (fun _ _ _ h => h) (Or.inl ⟨by kernel_rfl, ?_⟩) ?_
  rotate_left
  · (intro wS hwS; obtain ⟨hcS, hfS, hhS⟩ := bcell hwS; go_simp; try (first | (with_reducible rfl) | rw [if_pos (by omega)] | rw [if_neg (by omega)]))
  try simp only [Act.put, List.getElem_toArray, List.getElem_cons_succ, List.getElem_cons_zero, List.setIfInBounds_toArray, List.set_cons_zero, List.set_cons_succ]
  refine stage_read (i := 1) (v := ?_) rfl (by kernel_rfl) (by kernel_rfl) (by kernel_rfl) (by kernel_rfl) (by kernel_rfl) (by kernel_rfl) (fun _ _ _ h => h) (Or.inl ⟨by kernel_rfl, ?_⟩) ?_
  rotate_left
  · (intro wS hwS; obtain ⟨hcS, hfS, hhS⟩ := bcell hwS; go_simp; try (first | (with_reducible rfl) | rw [if_pos (by omega)] | rw [if_neg (by omega)]))
  try simp only [Act.put, List.getElem_toArray, List.getElem_cons_succ, List.getElem_cons_zero, List.setIfInBounds_toArray, List.set_cons_zero, List.set_cons_succ]
  refine stage_read (i := 2) (v := ?_) rfl (by kernel_rfl) (by kernel_rfl) (by kernel_rfl) (by kernel_rfl) (by kernel_rfl) (by kernel_rfl) (fun _ _ _ h => h) (Or.inl ⟨by kernel_rfl, ?_⟩) ?_
  rotate_left
  · (intro wS hwS; obtain ⟨hcS, hfS, hhS⟩ := bcell hwS; go_simp; try (first | (with_reducible rfl) | rw [if_pos (by omega)] | rw [if_neg (by omega)]))
  try simp only [Act.put, List.getElem_toArray, List.getElem_cons_succ, List.getElem_cons_zero, List.setIfInBounds_toArray, List.set_cons_zero, List.set_cons_succ]
  refine stage_read (i := 3) (v := ?_) rfl (by kernel_rfl) (by kernel_rfl) (by kernel_rfl) (by kernel_rfl) (by kernel_rfl) (by kernel_rfl) (fun _ _ _ h => h) (Or.inl ⟨by kernel_rfl, ?_⟩) ?_
  rotate_left
  · (intro wS hwS; obtain ⟨hcS, hfS, hhS⟩ := bcell hwS; go_simp; try (first | (with_reducible rfl) | rw [if_pos (by omega)] | rw [if_neg (by omega)]))
  try simp only [Act.put, List.getElem_toArray, List.getElem_cons_succ, List.getElem_cons_zero, List.setIfInBounds_toArray, List.set_cons_zero, List.set_cons_succ]
  refine stage_read (i := 4) (v := ?_) rfl (by kernel_rfl) (by kernel_rfl) (by kernel_rfl) (by kernel_rfl) (by kernel_rfl) (by kernel_rfl) (fun _ _ _ h => h) (Or.inl ⟨by kernel_rfl, ?_⟩) ?_
  rotate_left
  · (intro wS hwS; obtain ⟨hcS, hfS, hhS⟩ := bcell hwS; go_simp; try (first | (with_reducible rfl) | rw [if_pos (by omega)] | rw [if_neg (by omega)]))
  try simp only [Act.put, List.getElem_toArray, List.getElem_cons_succ, List.getElem_cons_zero, List.setIfInBounds_toArray, List.set_cons_zero, List.set_cons_succ]
  refine stage_read (i := 5) (v := ?_) rfl (by kernel_rfl) (by kernel_rfl) (by kernel_rfl) (by kernel_rfl) (by kernel_rfl) (by kernel_rfl) (fun _ _ _ h => h) (Or.inl ⟨by kernel_rfl, ?_⟩) ?_
  rotate_left
  · (intro wS hwS; obtain ⟨hcS, hfS, hhS⟩ := bcell hwS; go_simp; try (first | (with_reducible rfl) | rw [if_pos (by omega)] | rw [if_neg (by omega)]))
  try simp only [Act.put, List.getElem_toArray, List.getElem_cons_succ, List.getElem_cons_zero, List.setIfInBounds_toArray, List.set_cons_zero, List.set_cons_succ]
  refine stage_read (i := 6) (v := ?_) rfl (by kernel_rfl) (by kernel_rfl) (by kernel_rfl) (by kernel_rfl) (by kernel_rfl) (by kernel_rfl) (fun _ _ _ h => h) (Or.inl ⟨by kernel_rfl, ?_⟩) ?_
  rotate_left
  · (intro wS hwS; obtain ⟨hcS, hfS, hhS⟩ := bcell hwS; go_simp; try (first | (with_reducible rfl) | rw [if_pos (by omega)] | rw [if_neg (by omega)]))
  try simp only [Act.put, List.getElem_toArray, List.getElem_cons_succ, List.getElem_cons_zero, List.setIfInBounds_toArray, List.set_cons_zero, List.set_cons_succ]
  refine stage_read (i := 7) (v := ?_) rfl (by kernel_rfl) (by kernel_rfl) (by kernel_rfl) (by kernel_rfl) (by kernel_rfl) (by kernel_rfl) (fun _ _ _ h => h) (Or.inl ⟨by kernel_rfl, ?_⟩) ?_
  rotate_left
  · (intro wS hwS; obtain ⟨hcS, hfS, hhS⟩ := bcell hwS; go_simp; try (first | (with_reducible rfl) | rw [if_pos (by omega)] | rw [if_neg (by omega)]))
  try simp only [Act.put, List.getElem_toArray, List.getElem_cons_succ, List.getElem_cons_zero, List.setIfInBounds_toArray, List.set_cons_zero, List.set_cons_succ]
  refine stage_read (i := 8) (v := ?_) rfl (by kernel_rfl) (by kernel_rfl) (by kernel_rfl) (by kernel_rfl) (by kernel_rfl) (by kernel_rfl) (fun _ _ _ h => h) (Or.inl ⟨by kernel_rfl, ?_⟩) ?_
  rotate_left
  · (intro wS hwS; obtain ⟨hcS, hfS, hhS⟩ := bcell hwS; go_simp; try (first | (with_reducible rfl) | rw [if_pos (by omega)] | rw [if_neg (by omega)]))
  try simp only [Act.put, List.getElem_toArray, List.getElem_cons_succ, List.getElem_cons_zero, List.setIfInBounds_toArray, List.set_cons_zero, List.set_cons_succ]
  refine stage_read (i := 9) (v := ?_) rfl (by kernel_rfl) (by kernel_rfl) (by kernel_rfl) (by kernel_rfl) (by kernel_rfl) (by kernel_rfl) (fun _ _ _ h => h) (Or.inl ⟨by kernel_rfl, ?_⟩) ?_
  rotate_left
  · (intro wS hwS; obtain ⟨hcS, hfS, hhS⟩ := bcell hwS; go_simp; try (first | (with_reducible rfl) | rw [if_pos (by omega)] | rw [if_neg (by omega)]))
  try simp only [Act.put, List.getElem_toArray, List.getElem_cons_succ, List.getElem_cons_zero, List.setIfInBounds_toArray, List.set_cons_zero, List.set_cons_succ]
  refine stage_pure (i := 10) (v := undef) rfl (by kernel_rfl) (by kernel_rfl) (by kernel_rfl) (by kernel_rfl) (by kernel_rfl) (fun _ _ _ h => h) (Or.inr ⟨by kernel_rfl, rfl⟩) ?_
  try simp only [Act.put, List.getElem_toArray, List.getElem_cons_succ, List.getElem_cons_zero, List.setIfInBounds_toArray, List.set_cons_zero, List.set_cons_succ]
  refine stage_pure (i := 11) (v := undef) rfl (by kernel_rfl) (by kernel_rfl) (by kernel_rfl) (by kernel_rfl) (by kernel_rfl) (fun _ _ _ h => h) (Or.inr ⟨by kernel_rfl, rfl⟩) ?_
  try simp only [Act.put, List.getElem_toArray, List.getElem_cons_succ, List.getElem_cons_zero, List.setIfInBounds_toArray, List.set_cons_zero, List.set_cons_succ]
  refine stage_pure (i := 12) (v := undef) rfl (by kernel_rfl) (by kernel_rfl) (by kernel_rfl) (by kernel_rfl) (by kernel_rfl) (fun _ _ _ h => h) (Or.inr ⟨by kernel_rfl, rfl⟩) ?_
  try simp only [Act.put, List.getElem_toArray, List.getElem_cons_succ, List.getElem_cons_zero, List.setIfInBounds_toArray, List.set_cons_zero, List.set_cons_succ]
  refine stage_read (i := 13) (v := ?_) rfl (by kernel_rfl) (by kernel_rfl) (by kernel_rfl) (by kernel_rfl) (by kernel_rfl) (by kernel_rfl) (fun _ _ _ h => h) (Or.inl ⟨by kernel_rfl, ?_⟩) ?_
  rotate_left
  · (intro wS hwS; obtain ⟨hcS, hfS, hhS⟩ := bcell hwS; go_simp; try (first | (with_reducible rfl) | rw [if_pos (by omega)] | rw [if_neg (by omega)]))
  try simp only [Act.put, List.getElem_toArray, List.getElem_cons_succ, List.getElem_cons_zero, List.setIfInBounds_toArray, List.set_cons_zero, List.set_cons_succ]
  first | refine wpAnyT_done (by kernel_rfl) ?_ _ | refine wpAny_done (by kernel_rfl) ?_ _
  go_upto_region 7 with fail
  clear hd5 l1 l0
  refine region_any (by kernel_rfl) ?_
  change wpAny _ _ _ _ _ _ _ (World.drew _)
  replace h := h.drew
  replace hm := hm.drew
  replace hR := At.drew hR
  replace h0 := At.drew h0
  clear x0 x1 x2 x3 x4 x5 xf y0 y1 y2 y3 y4 y5 yf
  replace hB2 : w.heap.size ≤ (World.drew w2).heap.size := hB2
  generalize World.drew _ = v1 at *
  obtain ⟨⟨x0, x1, x2, x3, x4, x5⟩, xf⟩ := at6 h.blk
  obtain ⟨⟨y0, y1, y2, y3, y4, y5⟩, yf⟩ := at6 h0
  have l1 := h.blk.lt
  have l0 := h0.lt
  refine stage 12 ?_
  refine stage_read (i := 0) (v := ?_) rfl (by kernel_rfl) (by kernel_rfl) (by kernel_rfl) (by kernel_rfl) (by kernel_rfl) (by kernel_rfl) (fun _ _ _ h => h) (Or.inl ⟨by kernel_rfl, ?_⟩) ?_
  rotate_left
  · (intro wS hwS; obtain ⟨hcS, hfS, hhS⟩ := bcell hwS; go_simp; try (first | (with_reducible rfl) | rw [if_pos (by omega)] | rw [if_neg (by omega)]))
  try simp only [Act.put, List.getElem_toArray, List.getElem_cons_succ, List.getElem_cons_zero, List.setIfInBounds_toArray, List.set_cons_zero, List.set_cons_succ]
  refine stage_read (i := 1) (v := ?_) rfl (by kernel_rfl) (by kernel_rfl) (by kernel_rfl) (by kernel_rfl) (by kernel_rfl) (by kernel_rfl) (fun _ _ _ h => h) (Or.inl ⟨by kernel_rfl, ?_⟩) ?_
  rotate_left
  · (intro wS hwS; obtain ⟨hcS, hfS, hhS⟩ := bcell hwS; go_simp; try (first | (with_reducible rfl) | rw [if_pos (by omega)] | rw [if_neg (by omega)]))
  try simp only [Act.put, List.getElem_toArray, List.getElem_cons_succ, List.getElem_cons_zero, List.setIfInBounds_toArray, List.set_cons_zero, List.set_cons_succ]
  refine stage_read (i := 2) (v := ?_) rfl (by kernel_rfl) (by kernel_rfl) (by kernel_rfl) (by kernel_rfl) (by kernel_rfl) (by kernel_rfl) (fun _ _ _ h => h) (Or.inl ⟨by kernel_rfl, ?_⟩) ?_
  rotate_left
  · (intro wS hwS; obtain ⟨hcS, hfS, hhS⟩ := bcell hwS; go_simp; try (first | (with_reducible rfl) | rw [if_pos (by omega)] | rw [if_neg (by omega)]))
  try simp only [Act.put, List.getElem_toArray, List.getElem_cons_succ, List.getElem_cons_zero, List.setIfInBounds_toArray, List.set_cons_zero, List.set_cons_succ]
  refine stage_read (i := 3) (v := ?_) rfl (by kernel_rfl) (by kernel_rfl) (by kernel_rfl) (by kernel_rfl) (by kernel_rfl) (by kernel_rfl) (fun _ _ _ h => h) (Or.inl ⟨by kernel_rfl, ?_⟩) ?_
  rotate_left
  · (intro wS hwS; obtain ⟨hcS, hfS, hhS⟩ := bcell hwS; go_simp; try (first | (with_reducible rfl) | rw [if_pos (by omega)] | rw [if_neg (by omega)]))
  try simp only [Act.put, List.getElem_toArray, List.getElem_cons_succ, List.getElem_cons_zero, List.setIfInBounds_toArray, List.set_cons_zero, List.set_cons_succ]
  refine stage_read (i := 4) (v := ?_) rfl (by kernel_rfl) (by kernel_rfl) (by kernel_rfl) (by kernel_rfl) (by kernel_rfl) (by kernel_rfl) (fun _ _ _ h => h) (Or.inl ⟨by kernel_rfl, ?_⟩) ?_
  rotate_left
  · (intro wS hwS; obtain ⟨hcS, hfS, hhS⟩ := bcell hwS; go_simp; try (first | (with_reducible rfl) | rw [if_pos (by omega)] | rw [if_neg (by omega)]))
  try simp only [Act.put, List.getElem_toArray, List.getElem_cons_succ, List.getElem_cons_zero, List.setIfInBounds_toArray, List.set_cons_zero, List.set_cons_succ]
  clear x0 x1 x2 x3 x4 x5 xf y0 y1 y2 y3 y4 y5 yf l1 l0 h0
  refine stage_three 5 10 11 (by kernel_rfl) rfl rfl rfl (by kernel_rfl) (by kernel_rfl) (by kernel_rfl) (fun K hK => ?_) (fun K hK => ?_) (fun K hK => ?_)
  ·
    skip
    go_simp
    refine (HPL _ h.st).mono ?_
    rintro z v2 ⟨A5, n5, c5, rfl, hown5, hbn⟩
    refine hK.out _ _ (hbn) ?_
    clear hK K
    try simp only [Act.put, List.getElem_toArray, List.getElem_cons_succ, List.getElem_cons_zero, List.setIfInBounds_toArray, List.set_cons_zero, List.set_cons_succ]
    have hown := own_lower (show World.ownsRow _ _ _ _ _ _ _ from hown5) hB2
    clear hown5
    replace h := h.step hbn
    replace hm := hm.below hbn
    replace hR := hR.step hbn
    try replace h12 := h12.step hbn
    try replace h13 := h13.step hbn
    have hbs := hbn.size
    replace hB2 := Nat.le_trans hB2 hbs
    clear hbn hbs
    refine stage_read (i := 6) (v := ?_) rfl (by kernel_rfl) (by kernel_rfl) (by kernel_rfl) (by kernel_rfl) (by kernel_rfl) (by kernel_rfl) (fun _ _ _ h => h) (Or.inl ⟨by kernel_rfl, ?_⟩) ?_
    rotate_left
    · (intro wS hwS; obtain ⟨hcS, hfS, hhS⟩ := bcell hwS; go_simp; try (first | (with_reducible rfl) | rw [if_pos (by omega)] | rw [if_neg (by omega)]))
    try simp only [Act.put, List.getElem_toArray, List.getElem_cons_succ, List.getElem_cons_zero, List.setIfInBounds_toArray, List.set_cons_zero, List.set_cons_succ]
    refine stage_read (i := 7) (v := ?_) rfl (by kernel_rfl) (by kernel_rfl) (by kernel_rfl) (by kernel_rfl) (by kernel_rfl) (by kernel_rfl) (fun _ _ _ h => h) (Or.inl ⟨by kernel_rfl, ?_⟩) ?_
    rotate_left
    · (intro wS hwS; obtain ⟨hcS, hfS, hhS⟩ := bcell hwS; go_simp; try (first | (with_reducible rfl) | rw [if_pos (by omega)] | rw [if_neg (by omega)]))
    try simp only [Act.put, List.getElem_toArray, List.getElem_cons_succ, List.getElem_cons_zero, List.setIfInBounds_toArray, List.set_cons_zero, List.set_cons_succ]
    refine stage_pure (i := 8) (v := ?_) rfl (by kernel_rfl) (by kernel_rfl) (by kernel_rfl) (by kernel_rfl) (by kernel_rfl) (fun _ _ _ h => h) (Or.inl ⟨by kernel_rfl, ?_⟩) ?_
    rotate_left
    · (intro wS; go_simp; try (first | (with_reducible rfl) | rw [if_pos (by omega)] | rw [if_neg (by omega)]))
    try simp only [Act.put, List.getElem_toArray, List.getElem_cons_succ, List.getElem_cons_zero, List.setIfInBounds_toArray, List.set_cons_zero, List.set_cons_succ]
    refine stage_pure (i := 9) (v := ?_) rfl (by kernel_rfl) (by kernel_rfl) (by kernel_rfl) (by kernel_rfl) (by kernel_rfl) (fun _ _ _ h => h) (Or.inl ⟨by kernel_rfl, ?_⟩) ?_
    rotate_left
    · (intro wS; go_simp; try (first | (with_reducible rfl) | rw [if_pos (by omega)] | rw [if_neg (by omega)]))
    try simp only [Act.put, List.getElem_toArray, List.getElem_cons_succ, List.getElem_cons_zero, List.setIfInBounds_toArray, List.set_cons_zero, List.set_cons_succ]
    refine stage_two 10 11 (by kernel_rfl) rfl rfl (by kernel_rfl) (by kernel_rfl) (fun K hK => ?_) (fun K hK => ?_)
    ·
      skip
      go_simp
      obtain ⟨hnew, hbn⟩ := one_at v2 58 [.int .i64 0, .int .i64 0, .string ⟨#[]⟩, .slice none 0 0]
      refine hK.out _ _ (hbn) ?_
      clear hK K
      try simp only [Act.put, List.getElem_toArray, List.getElem_cons_succ, List.getElem_cons_zero, List.setIfInBounds_toArray, List.set_cons_zero, List.set_cons_succ]
      have hg12 := hB2
      have hq12 := hR.lt
      replace h := h.step hbn
      replace hm := hm.below hbn
      replace hR := hR.step hbn
      try replace h12 := h12.step hbn
      try replace h13 := h13.step hbn
      try replace hown := own_below (show World.ownsRow _ _ _ _ _ _ _ from hown) hbn
      have hbs := hbn.size
      replace hB2 := Nat.le_trans hB2 hbs
      clear hbn hbs
      have h12 := hnew
      clear hnew
      generalize World.alloc v2 _ = v3 at *
      generalize v2.heap.size = g12 at *
      refine stage_one 11 (by kernel_rfl) rfl (by kernel_rfl) (fun K hK => ?_)
      go_simp
      obtain ⟨hnew, hbn⟩ := one_at v3 115 [.string ⟨#[]⟩, .string ⟨#[]⟩, .int .i64 0, .bool false]
      refine hK.out _ _ (hbn) ?_
      clear hK K
      try simp only [Act.put, List.getElem_toArray, List.getElem_cons_succ, List.getElem_cons_zero, List.setIfInBounds_toArray, List.set_cons_zero, List.set_cons_succ]
      have hg13 := hB2
      replace h := h.step hbn
      replace hm := hm.below hbn
      replace hR := hR.step hbn
      try replace h12 := h12.step hbn
      try replace h13 := h13.step hbn
      try replace hown := own_below (show World.ownsRow _ _ _ _ _ _ _ from hown) hbn
      have hbs := hbn.size
      replace hB2 := Nat.le_trans hB2 hbs
      clear hbn hbs
      have h13 := hnew
      clear hnew
      generalize World.alloc v3 _ = v4 at *
      generalize v3.heap.size = g13 at *
      obtain ⟨⟨z0, z1, z2, z3⟩, zf0, zf1, zf2, zf3⟩ := at4 h12
      have l12 := h12.lt

      refine stage_end (by kernel_rfl) rfl (fun K hK => ?_)
      go_simp
      refine hK.out _ _ ?_
      clear hK K
      try simp only [Act.put, List.getElem_toArray, List.getElem_cons_succ, List.getElem_cons_zero, List.setIfInBounds_toArray, List.set_cons_zero, List.set_cons_succ]
      obtain ⟨hm12, hG⟩ := At.many [(0, .int .i64 tc), (1, .int .i64 tr), (2, .string tv), (3, .slice A5 n5 c5)] h12
      dsimp only [setMany, setL, List.set] at hm12 hG
      have hmG := mod_one hG
      replace h := h.cell h12 (by decide) (by decide) (by decide) (by decide) (by decide) hmG
      replace hm := hm.step hmG (fun i o hi _ e => absurd e (by omega))
      replace hR := hmG.at hR (by omega)
      replace h13 := hmG.at h13 (At.ne h13 h12 (by decide))
      replace hown := own_mod hown hmG (fun i o ho _ hit e => isT_at h12 ho hit (by decide) e)
      replace hB2 := Nat.le_trans hB2 hmG.size
      clear z0 z1 z2 z3 zf0 zf1 zf2 zf3 l12 hG hmG h12
      generalize World.setCell _ _ _ = v11 at *
      obtain ⟨⟨z0, z1, z2, z3⟩, zf0, zf1, zf2, zf3⟩ := at4 h13
      have l13 := h13.lt
      refine stage 13 ?_

      refine stage_end (by kernel_rfl) rfl (fun K hK => ?_)
      go_simp
      refine hK.out _ _ ?_
      clear hK K
      try simp only [Act.put, List.getElem_toArray, List.getElem_cons_succ, List.getElem_cons_zero, List.setIfInBounds_toArray, List.set_cons_zero, List.set_cons_succ]
      first | refine stage 1000000 ?_ | skip
      refine stage_read (i := 14) (v := ?_) rfl (by kernel_rfl) (by kernel_rfl) (by kernel_rfl) (by kernel_rfl) (by kernel_rfl) (by kernel_rfl) (fun _ _ _ h => h) (Or.inl ⟨by kernel_rfl, ?_⟩) ?_
      rotate_left
      · (intro wS hwS; obtain ⟨hcS, hfS, hhS⟩ := bcell hwS; go_simp; try (first | (with_reducible rfl) | rw [if_pos (by omega)] | rw [if_neg (by omega)]))
      try simp only [Act.put, List.getElem_toArray, List.getElem_cons_succ, List.getElem_cons_zero, List.setIfInBounds_toArray, List.set_cons_zero, List.set_cons_succ]
      first | refine wpAnyT_done (by kernel_rfl) ?_ _ | refine wpAny_done (by kernel_rfl) ?_ _
      obtain ⟨hm13, hG⟩ := At.many [(0, .string ek), (1, .string evv), (2, .int .i64 er), (3, .bool eg)] h13
      dsimp only [setMany, setL, List.set] at hm13 hG
      have hmG := mod_one hG
      replace h := h.cell h13 (by decide) (by decide) (by decide) (by decide) (by decide) hmG
      replace hm := hm.step hmG (fun i o hi _ e => absurd e (by omega))
      replace hR := hmG.at hR (At.ne hR h13 (by decide))
      replace hm12 := hmG.at hm12 (At.ne hm12 h13 (by decide))
      replace hown := own_mod hown hmG (fun i o ho _ hit e => isT_at h13 ho hit (by decide) e)
      replace hB2 := Nat.le_trans hB2 hmG.size
      clear z0 z1 z2 z3 zf0 zf1 zf2 zf3 l13 hG hmG h13
      generalize World.setCell _ _ _ = v12 at *
      skip
      obtain ⟨⟨z0, z1, z2, z3⟩, zf0, zf1, zf2, zf3⟩ := at4 hm12
      obtain ⟨⟨r0, r1, r2, r3⟩, rf0, rf1, rf2, rf3⟩ := at4 hR
      obtain ⟨hmR, hG⟩ := At.many [(0, .int .i64 tc), (1, .int .i64 tr), (2, .string tv), (3, .slice A5 n5 c5)] hR
      dsimp only [setMany, setL, List.set] at hmR hG
      have hmG := mod_one hG
      replace h := h.cell hR (by decide) (by decide) (by decide) (by decide) (by decide) hmG
      replace hm := hm.step hmG (fun i o hi _ e => absurd e (by omega))
      replace hown := own_mod hown hmG (fun i o ho _ hit e => isT_at hR ho hit (by decide) e)
      have HH := Lib.hid h
      have HM := Lib.hid hm
      have HOW := Lib.hid hown
      have HRR := Lib.hid hmR
      clear h hm hown hG hmG hm12 hR hmR
      go_wp2_with fail
      obtain ⟨⟨u0, u1, u2, u3⟩, _⟩ := at4 HRR.out
      exact bodyPost_ret (v := .agg #[.int .i64 tc, .int .i64 tr, .string tv, .slice A5 n5 c5]) (by simp [results, Tryz.results18, go_sem, u0, u1, u2, u3]) rfl ⟨A5, n5, c5, rfl, own_lower HOW.out (Nat.le_refl _), HM.out, HH.out⟩
    ·
      skip
      go_simp
      obtain ⟨hnew, hbn⟩ := one_at v2 115 [.string ⟨#[]⟩, .string ⟨#[]⟩, .int .i64 0, .bool false]
      refine hK.out _ _ (hbn) ?_
      clear hK K
      try simp only [Act.put, List.getElem_toArray, List.getElem_cons_succ, List.getElem_cons_zero, List.setIfInBounds_toArray, List.set_cons_zero, List.set_cons_succ]
      have hg13 := hB2
      replace h := h.step hbn
      replace hm := hm.below hbn
      replace hR := hR.step hbn
      try replace h12 := h12.step hbn
      try replace h13 := h13.step hbn
      try replace hown := own_below (show World.ownsRow _ _ _ _ _ _ _ from hown) hbn
      have hbs := hbn.size
      replace hB2 := Nat.le_trans hB2 hbs
      clear hbn hbs
      have h13 := hnew
      clear hnew
      generalize World.alloc v2 _ = v3 at *
      generalize v2.heap.size = g13 at *
      refine stage_one 10 (by kernel_rfl) rfl (by kernel_rfl) (fun K hK => ?_)
      go_simp
      obtain ⟨hnew, hbn⟩ := one_at v3 58 [.int .i64 0, .int .i64 0, .string ⟨#[]⟩, .slice none 0 0]
      refine hK.out _ _ (hbn) ?_
      clear hK K
      try simp only [Act.put, List.getElem_toArray, List.getElem_cons_succ, List.getElem_cons_zero, List.setIfInBounds_toArray, List.set_cons_zero, List.set_cons_succ]
      have hg12 := hB2
      have hq12 := hR.lt
      replace h := h.step hbn
      replace hm := hm.below hbn
      replace hR := hR.step hbn
      try replace h12 := h12.step hbn
      try replace h13 := h13.step hbn
      try replace hown := own_below (show World.ownsRow _ _ _ _ _ _ _ from hown) hbn
      have hbs := hbn.size
      replace hB2 := Nat.le_trans hB2 hbs
      clear hbn hbs
      have h12 := hnew
      clear hnew
      generalize World.alloc v3 _ = v4 at *
      generalize v3.heap.size = g12 at *
      obtain ⟨⟨z0, z1, z2, z3⟩, zf0, zf1, zf2, zf3⟩ := at4 h12
      have l12 := h12.lt

      refine stage_end (by kernel_rfl) rfl (fun K hK => ?_)
      go_simp
      refine hK.out _ _ ?_
      clear hK K
      try simp only [Act.put, List.getElem_toArray, List.getElem_cons_succ, List.getElem_cons_zero, List.setIfInBounds_toArray, List.set_cons_zero, List.set_cons_succ]
      obtain ⟨hm12, hG⟩ := At.many [(0, .int .i64 tc), (1, .int .i64 tr), (2, .string tv), (3, .slice A5 n5 c5)] h12
      dsimp only [setMany, setL, List.set] at hm12 hG
      have hmG := mod_one hG
      replace h := h.cell h12 (by decide) (by decide) (by decide) (by decide) (by decide) hmG
      replace hm := hm.step hmG (fun i o hi _ e => absurd e (by omega))
      replace hR := hmG.at hR (by omega)
      replace h13 := hmG.at h13 (At.ne h13 h12 (by decide))
      replace hown := own_mod hown hmG (fun i o ho _ hit e => isT_at h12 ho hit (by decide) e)
      replace hB2 := Nat.le_trans hB2 hmG.size
      clear z0 z1 z2 z3 zf0 zf1 zf2 zf3 l12 hG hmG h12
      generalize World.setCell _ _ _ = v11 at *
      obtain ⟨⟨z0, z1, z2, z3⟩, zf0, zf1, zf2, zf3⟩ := at4 h13
      have l13 := h13.lt
      refine stage 13 ?_

      refine stage_end (by kernel_rfl) rfl (fun K hK => ?_)
      go_simp
      refine hK.out _ _ ?_
      clear hK K
      try simp only [Act.put, List.getElem_toArray, List.getElem_cons_succ, List.getElem_cons_zero, List.setIfInBounds_toArray, List.set_cons_zero, List.set_cons_succ]
      first | refine stage 1000000 ?_ | skip
      refine stage_read (i := 14) (v := ?_) rfl (by kernel_rfl) (by kernel_rfl) (by kernel_rfl) (by kernel_rfl) (by kernel_rfl) (by kernel_rfl) (fun _ _ _ h => h) (Or.inl ⟨by kernel_rfl, ?_⟩) ?_
      rotate_left
      · (intro wS hwS; obtain ⟨hcS, hfS, hhS⟩ := bcell hwS; go_simp; try (first | (with_reducible rfl) | rw [if_pos (by omega)] | rw [if_neg (by omega)]))
      try simp only [Act.put, List.getElem_toArray, List.getElem_cons_succ, List.getElem_cons_zero, List.setIfInBounds_toArray, List.set_cons_zero, List.set_cons_succ]
      first | refine wpAnyT_done (by kernel_rfl) ?_ _ | refine wpAny_done (by kernel_rfl) ?_ _
      obtain ⟨hm13, hG⟩ := At.many [(0, .string ek), (1, .string evv), (2, .int .i64 er), (3, .bool eg)] h13
      dsimp only [setMany, setL, List.set] at hm13 hG
      have hmG := mod_one hG
      replace h := h.cell h13 (by decide) (by decide) (by decide) (by decide) (by decide) hmG
      replace hm := hm.step hmG (fun i o hi _ e => absurd e (by omega))
      replace hR := hmG.at hR (At.ne hR h13 (by decide))
      replace hm12 := hmG.at hm12 (At.ne hm12 h13 (by decide))
      replace hown := own_mod hown hmG (fun i o ho _ hit e => isT_at h13 ho hit (by decide) e)
      replace hB2 := Nat.le_trans hB2 hmG.size
      clear z0 z1 z2 z3 zf0 zf1 zf2 zf3 l13 hG hmG h13
      generalize World.setCell _ _ _ = v12 at *
      skip
      obtain ⟨⟨z0, z1, z2, z3⟩, zf0, zf1, zf2, zf3⟩ := at4 hm12
      obtain ⟨⟨r0, r1, r2, r3⟩, rf0, rf1, rf2, rf3⟩ := at4 hR
      obtain ⟨hmR, hG⟩ := At.many [(0, .int .i64 tc), (1, .int .i64 tr), (2, .string tv), (3, .slice A5 n5 c5)] hR
      dsimp only [setMany, setL, List.set] at hmR hG
      have hmG := mod_one hG
      replace h := h.cell hR (by decide) (by decide) (by decide) (by decide) (by decide) hmG
      replace hm := hm.step hmG (fun i o hi _ e => absurd e (by omega))
      replace hown := own_mod hown hmG (fun i o ho _ hit e => isT_at hR ho hit (by decide) e)
      have HH := Lib.hid h
      have HM := Lib.hid hm
      have HOW := Lib.hid hown
      have HRR := Lib.hid hmR
      clear h hm hown hG hmG hm12 hR hmR
      go_wp2_with fail
      obtain ⟨⟨u0, u1, u2, u3⟩, _⟩ := at4 HRR.out
      exact bodyPost_ret (v := .agg #[.int .i64 tc, .int .i64 tr, .string tv, .slice A5 n5 c5]) (by simp [results, Tryz.results18, go_sem, u0, u1, u2, u3]) rfl ⟨A5, n5, c5, rfl, own_lower HOW.out (Nat.le_refl _), HM.out, HH.out⟩
  ·
    skip
    go_simp
    obtain ⟨hnew, hbn⟩ := one_at v1 58 [.int .i64 0, .int .i64 0, .string ⟨#[]⟩, .slice none 0 0]
    refine hK.out _ _ (hbn) ?_
    clear hK K
    try simp only [Act.put, List.getElem_toArray, List.getElem_cons_succ, List.getElem_cons_zero, List.setIfInBounds_toArray, List.set_cons_zero, List.set_cons_succ]
    have hg12 := hB2
    have hq12 := hR.lt
    replace h := h.step hbn
    replace hm := hm.below hbn
    replace hR := hR.step hbn
    try replace h12 := h12.step hbn
    try replace h13 := h13.step hbn
    try replace hown := own_below (show World.ownsRow _ _ _ _ _ _ _ from hown) hbn
    have hbs := hbn.size
    replace hB2 := Nat.le_trans hB2 hbs
    clear hbn hbs
    have h12 := hnew
    clear hnew
    generalize World.alloc v1 _ = v2 at *
    generalize v1.heap.size = g12 at *
    refine stage_two 5 11 (by kernel_rfl) rfl rfl (by kernel_rfl) (by kernel_rfl) (fun K hK => ?_) (fun K hK => ?_)
    ·
      skip
      go_simp
      refine (HPL _ h.st).mono ?_
      rintro z v3 ⟨A5, n5, c5, rfl, hown5, hbn⟩
      refine hK.out _ _ (hbn) ?_
      clear hK K
      try simp only [Act.put, List.getElem_toArray, List.getElem_cons_succ, List.getElem_cons_zero, List.setIfInBounds_toArray, List.set_cons_zero, List.set_cons_succ]
      have hown := own_lower (show World.ownsRow _ _ _ _ _ _ _ from hown5) hB2
      clear hown5
      replace h := h.step hbn
      replace hm := hm.below hbn
      replace hR := hR.step hbn
      try replace h12 := h12.step hbn
      try replace h13 := h13.step hbn
      have hbs := hbn.size
      replace hB2 := Nat.le_trans hB2 hbs
      clear hbn hbs
      refine stage_read (i := 6) (v := ?_) rfl (by kernel_rfl) (by kernel_rfl) (by kernel_rfl) (by kernel_rfl) (by kernel_rfl) (by kernel_rfl) (fun _ _ _ h => h) (Or.inl ⟨by kernel_rfl, ?_⟩) ?_
      rotate_left
      · (intro wS hwS; obtain ⟨hcS, hfS, hhS⟩ := bcell hwS; go_simp; try (first | (with_reducible rfl) | rw [if_pos (by omega)] | rw [if_neg (by omega)]))
      try simp only [Act.put, List.getElem_toArray, List.getElem_cons_succ, List.getElem_cons_zero, List.setIfInBounds_toArray, List.set_cons_zero, List.set_cons_succ]
      refine stage_read (i := 7) (v := ?_) rfl (by kernel_rfl) (by kernel_rfl) (by kernel_rfl) (by kernel_rfl) (by kernel_rfl) (by kernel_rfl) (fun _ _ _ h => h) (Or.inl ⟨by kernel_rfl, ?_⟩) ?_
      rotate_left
      · (intro wS hwS; obtain ⟨hcS, hfS, hhS⟩ := bcell hwS; go_simp; try (first | (with_reducible rfl) | rw [if_pos (by omega)] | rw [if_neg (by omega)]))
      try simp only [Act.put, List.getElem_toArray, List.getElem_cons_succ, List.getElem_cons_zero, List.setIfInBounds_toArray, List.set_cons_zero, List.set_cons_succ]
      refine stage_pure (i := 8) (v := ?_) rfl (by kernel_rfl) (by kernel_rfl) (by kernel_rfl) (by kernel_rfl) (by kernel_rfl) (fun _ _ _ h => h) (Or.inl ⟨by kernel_rfl, ?_⟩) ?_
      rotate_left
      · (intro wS; go_simp; try (first | (with_reducible rfl) | rw [if_pos (by omega)] | rw [if_neg (by omega)]))
      try simp only [Act.put, List.getElem_toArray, List.getElem_cons_succ, List.getElem_cons_zero, List.setIfInBounds_toArray, List.set_cons_zero, List.set_cons_succ]
      refine stage_pure (i := 9) (v := ?_) rfl (by kernel_rfl) (by kernel_rfl) (by kernel_rfl) (by kernel_rfl) (by kernel_rfl) (fun _ _ _ h => h) (Or.inl ⟨by kernel_rfl, ?_⟩) ?_
      rotate_left
      · (intro wS; go_simp; try (first | (with_reducible rfl) | rw [if_pos (by omega)] | rw [if_neg (by omega)]))
      try simp only [Act.put, List.getElem_toArray, List.getElem_cons_succ, List.getElem_cons_zero, List.setIfInBounds_toArray, List.set_cons_zero, List.set_cons_succ]
      refine stage_one 11 (by kernel_rfl) rfl (by kernel_rfl) (fun K hK => ?_)
      go_simp
      obtain ⟨hnew, hbn⟩ := one_at v3 115 [.string ⟨#[]⟩, .string ⟨#[]⟩, .int .i64 0, .bool false]
      refine hK.out _ _ (hbn) ?_
      clear hK K
      try simp only [Act.put, List.getElem_toArray, List.getElem_cons_succ, List.getElem_cons_zero, List.setIfInBounds_toArray, List.set_cons_zero, List.set_cons_succ]
      have hg13 := hB2
      replace h := h.step hbn
      replace hm := hm.below hbn
      replace hR := hR.step hbn
      try replace h12 := h12.step hbn
      try replace h13 := h13.step hbn
      try replace hown := own_below (show World.ownsRow _ _ _ _ _ _ _ from hown) hbn
      have hbs := hbn.size
      replace hB2 := Nat.le_trans hB2 hbs
      clear hbn hbs
      have h13 := hnew
      clear hnew
      generalize World.alloc v3 _ = v4 at *
      generalize v3.heap.size = g13 at *
      obtain ⟨⟨z0, z1, z2, z3⟩, zf0, zf1, zf2, zf3⟩ := at4 h12
      have l12 := h12.lt

      refine stage_end (by kernel_rfl) rfl (fun K hK => ?_)
      go_simp
      refine hK.out _ _ ?_
      clear hK K
      try simp only [Act.put, List.getElem_toArray, List.getElem_cons_succ, List.getElem_cons_zero, List.setIfInBounds_toArray, List.set_cons_zero, List.set_cons_succ]
      obtain ⟨hm12, hG⟩ := At.many [(0, .int .i64 tc), (1, .int .i64 tr), (2, .string tv), (3, .slice A5 n5 c5)] h12
      dsimp only [setMany, setL, List.set] at hm12 hG
      have hmG := mod_one hG
      replace h := h.cell h12 (by decide) (by decide) (by decide) (by decide) (by decide) hmG
      replace hm := hm.step hmG (fun i o hi _ e => absurd e (by omega))
      replace hR := hmG.at hR (by omega)
      replace h13 := hmG.at h13 (At.ne h13 h12 (by decide))
      replace hown := own_mod hown hmG (fun i o ho _ hit e => isT_at h12 ho hit (by decide) e)
      replace hB2 := Nat.le_trans hB2 hmG.size
      clear z0 z1 z2 z3 zf0 zf1 zf2 zf3 l12 hG hmG h12
      generalize World.setCell _ _ _ = v11 at *
      obtain ⟨⟨z0, z1, z2, z3⟩, zf0, zf1, zf2, zf3⟩ := at4 h13
      have l13 := h13.lt
      refine stage 13 ?_

      refine stage_end (by kernel_rfl) rfl (fun K hK => ?_)
      go_simp
      refine hK.out _ _ ?_
      clear hK K
      try simp only [Act.put, List.getElem_toArray, List.getElem_cons_succ, List.getElem_cons_zero, List.setIfInBounds_toArray, List.set_cons_zero, List.set_cons_succ]
      first | refine stage 1000000 ?_ | skip
      refine stage_read (i := 14) (v := ?_) rfl (by kernel_rfl) (by kernel_rfl) (by kernel_rfl) (by kernel_rfl) (by kernel_rfl) (by kernel_rfl) (fun _ _ _ h => h) (Or.inl ⟨by kernel_rfl, ?_⟩) ?_
      rotate_left
      · (intro wS hwS; obtain ⟨hcS, hfS, hhS⟩ := bcell hwS; go_simp; try (first | (with_reducible rfl) | rw [if_pos (by omega)] | rw [if_neg (by omega)]))
      try simp only [Act.put, List.getElem_toArray, List.getElem_cons_succ, List.getElem_cons_zero, List.setIfInBounds_toArray, List.set_cons_zero, List.set_cons_succ]
      first | refine wpAnyT_done (by kernel_rfl) ?_ _ | refine wpAny_done (by kernel_rfl) ?_ _
      obtain ⟨hm13, hG⟩ := At.many [(0, .string ek), (1, .string evv), (2, .int .i64 er), (3, .bool eg)] h13
      dsimp only [setMany, setL, List.set] at hm13 hG
      have hmG := mod_one hG
      replace h := h.cell h13 (by decide) (by decide) (by decide) (by decide) (by decide) hmG
      replace hm := hm.step hmG (fun i o hi _ e => absurd e (by omega))
      replace hR := hmG.at hR (At.ne hR h13 (by decide))
      replace hm12 := hmG.at hm12 (At.ne hm12 h13 (by decide))
      replace hown := own_mod hown hmG (fun i o ho _ hit e => isT_at h13 ho hit (by decide) e)
      replace hB2 := Nat.le_trans hB2 hmG.size
      clear z0 z1 z2 z3 zf0 zf1 zf2 zf3 l13 hG hmG h13
      generalize World.setCell _ _ _ = v12 at *
      skip
      obtain ⟨⟨z0, z1, z2, z3⟩, zf0, zf1, zf2, zf3⟩ := at4 hm12
      obtain ⟨⟨r0, r1, r2, r3⟩, rf0, rf1, rf2, rf3⟩ := at4 hR
      obtain ⟨hmR, hG⟩ := At.many [(0, .int .i64 tc), (1, .int .i64 tr), (2, .string tv), (3, .slice A5 n5 c5)] hR
      dsimp only [setMany, setL, List.set] at hmR hG
      have hmG := mod_one hG
      replace h := h.cell hR (by decide) (by decide) (by decide) (by decide) (by decide) hmG
      replace hm := hm.step hmG (fun i o hi _ e => absurd e (by omega))
      replace hown := own_mod hown hmG (fun i o ho _ hit e => isT_at hR ho hit (by decide) e)
      have HH := Lib.hid h
      have HM := Lib.hid hm
      have HOW := Lib.hid hown
      have HRR := Lib.hid hmR
      clear h hm hown hG hmG hm12 hR hmR
      go_wp2_with fail
      obtain ⟨⟨u0, u1, u2, u3⟩, _⟩ := at4 HRR.out
      exact bodyPost_ret (v := .agg #[.int .i64 tc, .int .i64 tr, .string tv, .slice A5 n5 c5]) (by simp [results, Tryz.results18, go_sem, u0, u1, u2, u3]) rfl ⟨A5, n5, c5, rfl, own_lower HOW.out (Nat.le_refl _), HM.out, HH.out⟩
    ·
      skip
      go_simp
      obtain ⟨hnew, hbn⟩ := one_at v2 115 [.string ⟨#[]⟩, .string ⟨#[]⟩, .int .i64 0, .bool false]
      refine hK.out _ _ (hbn) ?_
      clear hK K
      try simp only [Act.put, List.getElem_toArray, List.getElem_cons_succ, List.getElem_cons_zero, List.setIfInBounds_toArray, List.set_cons_zero, List.set_cons_succ]
      have hg13 := hB2
      replace h := h.step hbn
      replace hm := hm.below hbn
      replace hR := hR.step hbn
      try replace h12 := h12.step hbn
      try replace h13 := h13.step hbn
      try replace hown := own_below (show World.ownsRow _ _ _ _ _ _ _ from hown) hbn
      have hbs := hbn.size
      replace hB2 := Nat.le_trans hB2 hbs
      clear hbn hbs
      have h13 := hnew
      clear hnew
      generalize World.alloc v2 _ = v3 at *
      generalize v2.heap.size = g13 at *
      refine stage_one 5 (by kernel_rfl) rfl (by kernel_rfl) (fun K hK => ?_)
      go_simp
      refine (HPL _ h.st).mono ?_
      rintro z v4 ⟨A5, n5, c5, rfl, hown5, hbn⟩
      refine hK.out _ _ (hbn) ?_
      clear hK K
      try simp only [Act.put, List.getElem_toArray, List.getElem_cons_succ, List.getElem_cons_zero, List.setIfInBounds_toArray, List.set_cons_zero, List.set_cons_succ]
      have hown := own_lower (show World.ownsRow _ _ _ _ _ _ _ from hown5) hB2
      clear hown5
      replace h := h.step hbn
      replace hm := hm.below hbn
      replace hR := hR.step hbn
      try replace h12 := h12.step hbn
      try replace h13 := h13.step hbn
      have hbs := hbn.size
      replace hB2 := Nat.le_trans hB2 hbs
      clear hbn hbs
      refine stage_read (i := 6) (v := ?_) rfl (by kernel_rfl) (by kernel_rfl) (by kernel_rfl) (by kernel_rfl) (by kernel_rfl) (by kernel_rfl) (fun _ _ _ h => h) (Or.inl ⟨by kernel_rfl, ?_⟩) ?_
      rotate_left
      · (intro wS hwS; obtain ⟨hcS, hfS, hhS⟩ := bcell hwS; go_simp; try (first | (with_reducible rfl) | rw [if_pos (by omega)] | rw [if_neg (by omega)]))
      try simp only [Act.put, List.getElem_toArray, List.getElem_cons_succ, List.getElem_cons_zero, List.setIfInBounds_toArray, List.set_cons_zero, List.set_cons_succ]
      refine stage_read (i := 7) (v := ?_) rfl (by kernel_rfl) (by kernel_rfl) (by kernel_rfl) (by kernel_rfl) (by kernel_rfl) (by kernel_rfl) (fun _ _ _ h => h) (Or.inl ⟨by kernel_rfl, ?_⟩) ?_
      rotate_left
      · (intro wS hwS; obtain ⟨hcS, hfS, hhS⟩ := bcell hwS; go_simp; try (first | (with_reducible rfl) | rw [if_pos (by omega)] | rw [if_neg (by omega)]))
      try simp only [Act.put, List.getElem_toArray, List.getElem_cons_succ, List.getElem_cons_zero, List.setIfInBounds_toArray, List.set_cons_zero, List.set_cons_succ]
      refine stage_pure (i := 8) (v := ?_) rfl (by kernel_rfl) (by kernel_rfl) (by kernel_rfl) (by kernel_rfl) (by kernel_rfl) (fun _ _ _ h => h) (Or.inl ⟨by kernel_rfl, ?_⟩) ?_
      rotate_left
      · (intro wS; go_simp; try (first | (with_reducible rfl) | rw [if_pos (by omega)] | rw [if_neg (by omega)]))
      try simp only [Act.put, List.getElem_toArray, List.getElem_cons_succ, List.getElem_cons_zero, List.setIfInBounds_toArray, List.set_cons_zero, List.set_cons_succ]
      refine stage_pure (i := 9) (v := ?_) rfl (by kernel_rfl) (by kernel_rfl) (by kernel_rfl) (by kernel_rfl) (by kernel_rfl) (fun _ _ _ h => h) (Or.inl ⟨by kernel_rfl, ?_⟩) ?_
      rotate_left
      · (intro wS; go_simp; try (first | (with_reducible rfl) | rw [if_pos (by omega)] | rw [if_neg (by omega)]))
      try simp only [Act.put, List.getElem_toArray, List.getElem_cons_succ, List.getElem_cons_zero, List.setIfInBounds_toArray, List.set_cons_zero, List.set_cons_succ]
      obtain ⟨⟨z0, z1, z2, z3⟩, zf0, zf1, zf2, zf3⟩ := at4 h12
      have l12 := h12.lt

      refine stage_end (by kernel_rfl) rfl (fun K hK => ?_)
      go_simp
      refine hK.out _ _ ?_
      clear hK K
      try simp only [Act.put, List.getElem_toArray, List.getElem_cons_succ, List.getElem_cons_zero, List.setIfInBounds_toArray, List.set_cons_zero, List.set_cons_succ]
      obtain ⟨hm12, hG⟩ := At.many [(0, .int .i64 tc), (1, .int .i64 tr), (2, .string tv), (3, .slice A5 n5 c5)] h12
      dsimp only [setMany, setL, List.set] at hm12 hG
      have hmG := mod_one hG
      replace h := h.cell h12 (by decide) (by decide) (by decide) (by decide) (by decide) hmG
      replace hm := hm.step hmG (fun i o hi _ e => absurd e (by omega))
      replace hR := hmG.at hR (by omega)
      replace h13 := hmG.at h13 (At.ne h13 h12 (by decide))
      replace hown := own_mod hown hmG (fun i o ho _ hit e => isT_at h12 ho hit (by decide) e)
      replace hB2 := Nat.le_trans hB2 hmG.size
      clear z0 z1 z2 z3 zf0 zf1 zf2 zf3 l12 hG hmG h12
      generalize World.setCell _ _ _ = v11 at *
      obtain ⟨⟨z0, z1, z2, z3⟩, zf0, zf1, zf2, zf3⟩ := at4 h13
      have l13 := h13.lt
      refine stage 13 ?_

      refine stage_end (by kernel_rfl) rfl (fun K hK => ?_)
      go_simp
      refine hK.out _ _ ?_
      clear hK K
      try simp only [Act.put, List.getElem_toArray, List.getElem_cons_succ, List.getElem_cons_zero, List.setIfInBounds_toArray, List.set_cons_zero, List.set_cons_succ]
      first | refine stage 1000000 ?_ | skip
      refine stage_read (i := 14) (v := ?_) rfl (by kernel_rfl) (by kernel_rfl) (by kernel_rfl) (by kernel_rfl) (by kernel_rfl) (by kernel_rfl) (fun _ _ _ h => h) (Or.inl ⟨by kernel_rfl, ?_⟩) ?_
      rotate_left
      · (intro wS hwS; obtain ⟨hcS, hfS, hhS⟩ := bcell hwS; go_simp; try (first | (with_reducible rfl) | rw [if_pos (by omega)] | rw [if_neg (by omega)]))
      try simp only [Act.put, List.getElem_toArray, List.getElem_cons_succ, List.getElem_cons_zero, List.setIfInBounds_toArray, List.set_cons_zero, List.set_cons_succ]
      first | refine wpAnyT_done (by kernel_rfl) ?_ _ | refine wpAny_done (by kernel_rfl) ?_ _
      obtain ⟨hm13, hG⟩ := At.many [(0, .string ek), (1, .string evv), (2, .int .i64 er), (3, .bool eg)] h13
      dsimp only [setMany, setL, List.set] at hm13 hG
      have hmG := mod_one hG
      replace h := h.cell h13 (by decide) (by decide) (by decide) (by decide) (by decide) hmG
      replace hm := hm.step hmG (fun i o hi _ e => absurd e (by omega))
      replace hR := hmG.at hR (At.ne hR h13 (by decide))
      replace hm12 := hmG.at hm12 (At.ne hm12 h13 (by decide))
      replace hown := own_mod hown hmG (fun i o ho _ hit e => isT_at h13 ho hit (by decide) e)
      replace hB2 := Nat.le_trans hB2 hmG.size
      clear z0 z1 z2 z3 zf0 zf1 zf2 zf3 l13 hG hmG h13
      generalize World.setCell _ _ _ = v12 at *
      skip
      obtain ⟨⟨z0, z1, z2, z3⟩, zf0, zf1, zf2, zf3⟩ := at4 hm12
      obtain ⟨⟨r0, r1, r2, r3⟩, rf0, rf1, rf2, rf3⟩ := at4 hR
      obtain ⟨hmR, hG⟩ := At.many [(0, .int .i64 tc), (1, .int .i64 tr), (2, .string tv), (3, .slice A5 n5 c5)] hR
      dsimp only [setMany, setL, List.set] at hmR hG
      have hmG := mod_one hG
      replace h := h.cell hR (by decide) (by decide) (by decide) (by decide) (by decide) hmG
      replace hm := hm.step hmG (fun i o hi _ e => absurd e (by omega))
      replace hown := own_mod hown hmG (fun i o ho _ hit e => isT_at hR ho hit (by decide) e)
      have HH := Lib.hid h
      have HM := Lib.hid hm
      have HOW := Lib.hid hown
      have HRR := Lib.hid hmR
      clear h hm hown hG hmG hm12 hR hmR
      go_wp2_with fail
      obtain ⟨⟨u0, u1, u2, u3⟩, _⟩ := at4 HRR.out
      exact bodyPost_ret (v := .agg #[.int .i64 tc, .int .i64 tr, .string tv, .slice A5 n5 c5]) (by simp [results, Tryz.results18, go_sem, u0, u1, u2, u3]) rfl ⟨A5, n5, c5, rfl, own_lower HOW.out (Nat.le_refl _), HM.out, HH.out⟩
  ·
    skip
    go_simp
    obtain ⟨hnew, hbn⟩ := one_at v1 115 [.string ⟨#[]⟩, .string ⟨#[]⟩, .int .i64 0, .bool false]
    refine hK.out _ _ (hbn) ?_
    clear hK K
    try simp only [Act.put, List.getElem_toArray, List.getElem_cons_succ, List.getElem_cons_zero, List.setIfInBounds_toArray, List.set_cons_zero, List.set_cons_succ]
    have hg13 := hB2
    replace h := h.step hbn
    replace hm := hm.below hbn
    replace hR := hR.step hbn
    try replace h12 := h12.step hbn
    try replace h13 := h13.step hbn
    try replace hown := own_below (show World.ownsRow _ _ _ _ _ _ _ from hown) hbn
    have hbs := hbn.size
    replace hB2 := Nat.le_trans hB2 hbs
    clear hbn hbs
    have h13 := hnew
    clear hnew
    generalize World.alloc v1 _ = v2 at *
    generalize v1.heap.size = g13 at *
    refine stage_two 5 10 (by kernel_rfl) rfl rfl (by kernel_rfl) (by kernel_rfl) (fun K hK => ?_) (fun K hK => ?_)
    ·
      skip
      go_simp
      refine (HPL _ h.st).mono ?_
      rintro z v3 ⟨A5, n5, c5, rfl, hown5, hbn⟩
      refine hK.out _ _ (hbn) ?_
      clear hK K
      try simp only [Act.put, List.getElem_toArray, List.getElem_cons_succ, List.getElem_cons_zero, List.setIfInBounds_toArray, List.set_cons_zero, List.set_cons_succ]
      have hown := own_lower (show World.ownsRow _ _ _ _ _ _ _ from hown5) hB2
      clear hown5
      replace h := h.step hbn
      replace hm := hm.below hbn
      replace hR := hR.step hbn
      try replace h12 := h12.step hbn
      try replace h13 := h13.step hbn
      have hbs := hbn.size
      replace hB2 := Nat.le_trans hB2 hbs
      clear hbn hbs
      refine stage_read (i := 6) (v := ?_) rfl (by kernel_rfl) (by kernel_rfl) (by kernel_rfl) (by kernel_rfl) (by kernel_rfl) (by kernel_rfl) (fun _ _ _ h => h) (Or.inl ⟨by kernel_rfl, ?_⟩) ?_
      rotate_left
      · (intro wS hwS; obtain ⟨hcS, hfS, hhS⟩ := bcell hwS; go_simp; try (first | (with_reducible rfl) | rw [if_pos (by omega)] | rw [if_neg (by omega)]))
      try simp only [Act.put, List.getElem_toArray, List.getElem_cons_succ, List.getElem_cons_zero, List.setIfInBounds_toArray, List.set_cons_zero, List.set_cons_succ]
      refine stage_read (i := 7) (v := ?_) rfl (by kernel_rfl) (by kernel_rfl) (by kernel_rfl) (by kernel_rfl) (by kernel_rfl) (by kernel_rfl) (fun _ _ _ h => h) (Or.inl ⟨by kernel_rfl, ?_⟩) ?_
      rotate_left
      · (intro wS hwS; obtain ⟨hcS, hfS, hhS⟩ := bcell hwS; go_simp; try (first | (with_reducible rfl) | rw [if_pos (by omega)] | rw [if_neg (by omega)]))
      try simp only [Act.put, List.getElem_toArray, List.getElem_cons_succ, List.getElem_cons_zero, List.setIfInBounds_toArray, List.set_cons_zero, List.set_cons_succ]
      refine stage_pure (i := 8) (v := ?_) rfl (by kernel_rfl) (by kernel_rfl) (by kernel_rfl) (by kernel_rfl) (by kernel_rfl) (fun _ _ _ h => h) (Or.inl ⟨by kernel_rfl, ?_⟩) ?_
      rotate_left
      · (intro wS; go_simp; try (first | (with_reducible rfl) | rw [if_pos (by omega)] | rw [if_neg (by omega)]))
      try simp only [Act.put, List.getElem_toArray, List.getElem_cons_succ, List.getElem_cons_zero, List.setIfInBounds_toArray, List.set_cons_zero, List.set_cons_succ]
      refine stage_pure (i := 9) (v := ?_) rfl (by kernel_rfl) (by kernel_rfl) (by kernel_rfl) (by kernel_rfl) (by kernel_rfl) (fun _ _ _ h => h) (Or.inl ⟨by kernel_rfl, ?_⟩) ?_
      rotate_left
      · (intro wS; go_simp; try (first | (with_reducible rfl) | rw [if_pos (by omega)] | rw [if_neg (by omega)]))
      try simp only [Act.put, List.getElem_toArray, List.getElem_cons_succ, List.getElem_cons_zero, List.setIfInBounds_toArray, List.set_cons_zero, List.set_cons_succ]
      refine stage_one 10 (by kernel_rfl) rfl (by kernel_rfl) (fun K hK => ?_)
      go_simp
      obtain ⟨hnew, hbn⟩ := one_at v3 58 [.int .i64 0, .int .i64 0, .string ⟨#[]⟩, .slice none 0 0]
      refine hK.out _ _ (hbn) ?_
      clear hK K
      try simp only [Act.put, List.getElem_toArray, List.getElem_cons_succ, List.getElem_cons_zero, List.setIfInBounds_toArray, List.set_cons_zero, List.set_cons_succ]
      have hg12 := hB2
      have hq12 := hR.lt
      replace h := h.step hbn
      replace hm := hm.below hbn
      replace hR := hR.step hbn
      try replace h12 := h12.step hbn
      try replace h13 := h13.step hbn
      try replace hown := own_below (show World.ownsRow _ _ _ _ _ _ _ from hown) hbn
      have hbs := hbn.size
      replace hB2 := Nat.le_trans hB2 hbs
      clear hbn hbs
      have h12 := hnew
      clear hnew
      generalize World.alloc v3 _ = v4 at *
      generalize v3.heap.size = g12 at *
      obtain ⟨⟨z0, z1, z2, z3⟩, zf0, zf1, zf2, zf3⟩ := at4 h12
      have l12 := h12.lt

      refine stage_end (by kernel_rfl) rfl (fun K hK => ?_)
      go_simp
      refine hK.out _ _ ?_
      clear hK K
      try simp only [Act.put, List.getElem_toArray, List.getElem_cons_succ, List.getElem_cons_zero, List.setIfInBounds_toArray, List.set_cons_zero, List.set_cons_succ]
      obtain ⟨hm12, hG⟩ := At.many [(0, .int .i64 tc), (1, .int .i64 tr), (2, .string tv), (3, .slice A5 n5 c5)] h12
      dsimp only [setMany, setL, List.set] at hm12 hG
      have hmG := mod_one hG
      replace h := h.cell h12 (by decide) (by decide) (by decide) (by decide) (by decide) hmG
      replace hm := hm.step hmG (fun i o hi _ e => absurd e (by omega))
      replace hR := hmG.at hR (by omega)
      replace h13 := hmG.at h13 (At.ne h13 h12 (by decide))
      replace hown := own_mod hown hmG (fun i o ho _ hit e => isT_at h12 ho hit (by decide) e)
      replace hB2 := Nat.le_trans hB2 hmG.size
      clear z0 z1 z2 z3 zf0 zf1 zf2 zf3 l12 hG hmG h12
      generalize World.setCell _ _ _ = v11 at *
      obtain ⟨⟨z0, z1, z2, z3⟩, zf0, zf1, zf2, zf3⟩ := at4 h13
      have l13 := h13.lt
      refine stage 13 ?_

      refine stage_end (by kernel_rfl) rfl (fun K hK => ?_)
      go_simp
      refine hK.out _ _ ?_
      clear hK K
      try simp only [Act.put, List.getElem_toArray, List.getElem_cons_succ, List.getElem_cons_zero, List.setIfInBounds_toArray, List.set_cons_zero, List.set_cons_succ]
      first | refine stage 1000000 ?_ | skip
      refine stage_read (i := 14) (v := ?_) rfl (by kernel_rfl) (by kernel_rfl) (by kernel_rfl) (by kernel_rfl) (by kernel_rfl) (by kernel_rfl) (fun _ _ _ h => h) (Or.inl ⟨by kernel_rfl, ?_⟩) ?_
      rotate_left
      · (intro wS hwS; obtain ⟨hcS, hfS, hhS⟩ := bcell hwS; go_simp; try (first | (with_reducible rfl) | rw [if_pos (by omega)] | rw [if_neg (by omega)]))
      try simp only [Act.put, List.getElem_toArray, List.getElem_cons_succ, List.getElem_cons_zero, List.setIfInBounds_toArray, List.set_cons_zero, List.set_cons_succ]
      first | refine wpAnyT_done (by kernel_rfl) ?_ _ | refine wpAny_done (by kernel_rfl) ?_ _
      obtain ⟨hm13, hG⟩ := At.many [(0, .string ek), (1, .string evv), (2, .int .i64 er), (3, .bool eg)] h13
      dsimp only [setMany, setL, List.set] at hm13 hG
      have hmG := mod_one hG
      replace h := h.cell h13 (by decide) (by decide) (by decide) (by decide) (by decide) hmG
      replace hm := hm.step hmG (fun i o hi _ e => absurd e (by omega))
      replace hR := hmG.at hR (At.ne hR h13 (by decide))
      replace hm12 := hmG.at hm12 (At.ne hm12 h13 (by decide))
      replace hown := own_mod hown hmG (fun i o ho _ hit e => isT_at h13 ho hit (by decide) e)
      replace hB2 := Nat.le_trans hB2 hmG.size
      clear z0 z1 z2 z3 zf0 zf1 zf2 zf3 l13 hG hmG h13
      generalize World.setCell _ _ _ = v12 at *
      skip
      obtain ⟨⟨z0, z1, z2, z3⟩, zf0, zf1, zf2, zf3⟩ := at4 hm12
      obtain ⟨⟨r0, r1, r2, r3⟩, rf0, rf1, rf2, rf3⟩ := at4 hR
      obtain ⟨hmR, hG⟩ := At.many [(0, .int .i64 tc), (1, .int .i64 tr), (2, .string tv), (3, .slice A5 n5 c5)] hR
      dsimp only [setMany, setL, List.set] at hmR hG
      have hmG := mod_one hG
      replace h := h.cell hR (by decide) (by decide) (by decide) (by decide) (by decide) hmG
      replace hm := hm.step hmG (fun i o hi _ e => absurd e (by omega))
      replace hown := own_mod hown hmG (fun i o ho _ hit e => isT_at hR ho hit (by decide) e)
      have HH := Lib.hid h
      have HM := Lib.hid hm
      have HOW := Lib.hid hown
      have HRR := Lib.hid hmR
      clear h hm hown hG hmG hm12 hR hmR
      go_wp2_with fail
      obtain ⟨⟨u0, u1, u2, u3⟩, _⟩ := at4 HRR.out
      exact bodyPost_ret (v := .agg #[.int .i64 tc, .int .i64 tr, .string tv, .slice A5 n5 c5]) (by simp [results, Tryz.results18, go_sem, u0, u1, u2, u3]) rfl ⟨A5, n5, c5, rfl, own_lower HOW.out (Nat.le_refl _), HM.out, HH.out⟩
    ·
      skip
      go_simp
      obtain ⟨hnew, hbn⟩ := one_at v2 58 [.int .i64 0, .int .i64 0, .string ⟨#[]⟩, .slice none 0 0]
      refine hK.out _ _ (hbn) ?_
      clear hK K
      try simp only [Act.put, List.getElem_toArray, List.getElem_cons_succ, List.getElem_cons_zero, List.setIfInBounds_toArray, List.set_cons_zero, List.set_cons_succ]
      have hg12 := hB2
      have hq12 := hR.lt
      replace h := h.step hbn
      replace hm := hm.below hbn
      replace hR := hR.step hbn
      try replace h12 := h12.step hbn
      try replace h13 := h13.step hbn
      try replace hown := own_below (show World.ownsRow _ _ _ _ _ _ _ from hown) hbn
      have hbs := hbn.size
      replace hB2 := Nat.le_trans hB2 hbs
      clear hbn hbs
      have h12 := hnew
      clear hnew
      generalize World.alloc v2 _ = v3 at *
      generalize v2.heap.size = g12 at *
      refine stage_one 5 (by kernel_rfl) rfl (by kernel_rfl) (fun K hK => ?_)
      go_simp
      refine (HPL _ h.st).mono ?_
      rintro z v4 ⟨A5, n5, c5, rfl, hown5, hbn⟩
      refine hK.out _ _ (hbn) ?_
      clear hK K
      try simp only [Act.put, List.getElem_toArray, List.getElem_cons_succ, List.getElem_cons_zero, List.setIfInBounds_toArray, List.set_cons_zero, List.set_cons_succ]
      have hown := own_lower (show World.ownsRow _ _ _ _ _ _ _ from hown5) hB2
      clear hown5
      replace h := h.step hbn
      replace hm := hm.below hbn
      replace hR := hR.step hbn
      try replace h12 := h12.step hbn
      try replace h13 := h13.step hbn
      have hbs := hbn.size
      replace hB2 := Nat.le_trans hB2 hbs
      clear hbn hbs
      refine stage_read (i := 6) (v := ?_) rfl (by kernel_rfl) (by kernel_rfl) (by kernel_rfl) (by kernel_rfl) (by kernel_rfl) (by kernel_rfl) (fun _ _ _ h => h) (Or.inl ⟨by kernel_rfl, ?_⟩) ?_
      rotate_left
      · (intro wS hwS; obtain ⟨hcS, hfS, hhS⟩ := bcell hwS; go_simp; try (first | (with_reducible rfl) | rw [if_pos (by omega)] | rw [if_neg (by omega)]))
      try simp only [Act.put, List.getElem_toArray, List.getElem_cons_succ, List.getElem_cons_zero, List.setIfInBounds_toArray, List.set_cons_zero, List.set_cons_succ]
      refine stage_read (i := 7) (v := ?_) rfl (by kernel_rfl) (by kernel_rfl) (by kernel_rfl) (by kernel_rfl) (by kernel_rfl) (by kernel_rfl) (fun _ _ _ h => h) (Or.inl ⟨by kernel_rfl, ?_⟩) ?_
      rotate_left
      · (intro wS hwS; obtain ⟨hcS, hfS, hhS⟩ := bcell hwS; go_simp; try (first | (with_reducible rfl) | rw [if_pos (by omega)] | rw [if_neg (by omega)]))
      try simp only [Act.put, List.getElem_toArray, List.getElem_cons_succ, List.getElem_cons_zero, List.setIfInBounds_toArray, List.set_cons_zero, List.set_cons_succ]
      refine stage_pure (i := 8) (v := ?_) rfl (by kernel_rfl) (by kernel_rfl) (by kernel_rfl) (by kernel_rfl) (by kernel_rfl) (fun _ _ _ h => h) (Or.inl ⟨by kernel_rfl, ?_⟩) ?_
      rotate_left
      · (intro wS; go_simp; try (first | (with_reducible rfl) | rw [if_pos (by omega)] | rw [if_neg (by omega)]))
      try simp only [Act.put, List.getElem_toArray, List.getElem_cons_succ, List.getElem_cons_zero, List.setIfInBounds_toArray, List.set_cons_zero, List.set_cons_succ]
      refine stage_pure (i := 9) (v := ?_) rfl (by kernel_rfl) (by kernel_rfl) (by kernel_rfl) (by kernel_rfl) (by kernel_rfl) (fun _ _ _ h => h) (Or.inl ⟨by kernel_rfl, ?_⟩) ?_
      rotate_left
      · (intro wS; go_simp; try (first | (with_reducible rfl) | rw [if_pos (by omega)] | rw [if_neg (by omega)]))
      try simp only [Act.put, List.getElem_toArray, List.getElem_cons_succ, List.getElem_cons_zero, List.setIfInBounds_toArray, List.set_cons_zero, List.set_cons_succ]
      obtain ⟨⟨z0, z1, z2, z3⟩, zf0, zf1, zf2, zf3⟩ := at4 h12
      have l12 := h12.lt

      refine stage_end (by kernel_rfl) rfl (fun K hK => ?_)
      go_simp
      refine hK.out _ _ ?_
      clear hK K
      try simp only [Act.put, List.getElem_toArray, List.getElem_cons_succ, List.getElem_cons_zero, List.setIfInBounds_toArray, List.set_cons_zero, List.set_cons_succ]
      obtain ⟨hm12, hG⟩ := At.many [(0, .int .i64 tc), (1, .int .i64 tr), (2, .string tv), (3, .slice A5 n5 c5)] h12
      dsimp only [setMany, setL, List.set] at hm12 hG
      have hmG := mod_one hG
      replace h := h.cell h12 (by decide) (by decide) (by decide) (by decide) (by decide) hmG
      replace hm := hm.step hmG (fun i o hi _ e => absurd e (by omega))
      replace hR := hmG.at hR (by omega)
      replace h13 := hmG.at h13 (At.ne h13 h12 (by decide))
      replace hown := own_mod hown hmG (fun i o ho _ hit e => isT_at h12 ho hit (by decide) e)
      replace hB2 := Nat.le_trans hB2 hmG.size
      clear z0 z1 z2 z3 zf0 zf1 zf2 zf3 l12 hG hmG h12
      generalize World.setCell _ _ _ = v11 at *
      obtain ⟨⟨z0, z1, z2, z3⟩, zf0, zf1, zf2, zf3⟩ := at4 h13
      have l13 := h13.lt
      refine stage 13 ?_

      refine stage_end (by kernel_rfl) rfl (fun K hK => ?_)
      go_simp
      refine hK.out _ _ ?_
      clear hK K
      try simp only [Act.put, List.getElem_toArray, List.getElem_cons_succ, List.getElem_cons_zero, List.setIfInBounds_toArray, List.set_cons_zero, List.set_cons_succ]
      first | refine stage 1000000 ?_ | skip
      refine stage_read (i := 14) (v := ?_) rfl (by kernel_rfl) (by kernel_rfl) (by kernel_rfl) (by kernel_rfl) (by kernel_rfl) (by kernel_rfl) (fun _ _ _ h => h) (Or.inl ⟨by kernel_rfl, ?_⟩) ?_
      rotate_left
      · (intro wS hwS; obtain ⟨hcS, hfS, hhS⟩ := bcell hwS; go_simp; try (first | (with_reducible rfl) | rw [if_pos (by omega)] | rw [if_neg (by omega)]))
      try simp only [Act.put, List.getElem_toArray, List.getElem_cons_succ, List.getElem_cons_zero, List.setIfInBounds_toArray, List.set_cons_zero, List.set_cons_succ]
      first | refine wpAnyT_done (by kernel_rfl) ?_ _ | refine wpAny_done (by kernel_rfl) ?_ _
      obtain ⟨hm13, hG⟩ := At.many [(0, .string ek), (1, .string evv), (2, .int .i64 er), (3, .bool eg)] h13
      dsimp only [setMany, setL, List.set] at hm13 hG
      have hmG := mod_one hG
      replace h := h.cell h13 (by decide) (by decide) (by decide) (by decide) (by decide) hmG
      replace hm := hm.step hmG (fun i o hi _ e => absurd e (by omega))
      replace hR := hmG.at hR (At.ne hR h13 (by decide))
      replace hm12 := hmG.at hm12 (At.ne hm12 h13 (by decide))
      replace hown := own_mod hown hmG (fun i o ho _ hit e => isT_at h13 ho hit (by decide) e)
      replace hB2 := Nat.le_trans hB2 hmG.size
      clear z0 z1 z2 z3 zf0 zf1 zf2 zf3 l13 hG hmG h13
      generalize World.setCell _ _ _ = v12 at *
      skip
      obtain ⟨⟨z0, z1, z2, z3⟩, zf0, zf1, zf2, zf3⟩ := at4 hm12
      obtain ⟨⟨r0, r1, r2, r3⟩, rf0, rf1, rf2, rf3⟩ := at4 hR
      obtain ⟨hmR, hG⟩ := At.many [(0, .int .i64 tc), (1, .int .i64 tr), (2, .string tv), (3, .slice A5 n5 c5)] hR
      dsimp only [setMany, setL, List.set] at hmR hG
      have hmG := mod_one hG
      replace h := h.cell hR (by decide) (by decide) (by decide) (by decide) (by decide) hmG
      replace hm := hm.step hmG (fun i o hi _ e => absurd e (by omega))
      replace hown := own_mod hown hmG (fun i o ho _ hit e => isT_at hR ho hit (by decide) e)
      have HH := Lib.hid h
      have HM := Lib.hid hm
      have HOW := Lib.hid hown
      have HRR := Lib.hid hmR
      clear h hm hown hG hmG hm12 hR hmR
      go_wp2_with fail
      obtain ⟨⟨u0, u1, u2, u3⟩, _⟩ := at4 HRR.out
      exact bodyPost_ret (v := .agg #[.int .i64 tc, .int .i64 tr, .string tv, .slice A5 n5 c5]) (by simp [results, Tryz.results18, go_sem, u0, u1, u2, u3]) rfl ⟨A5, n5, c5, rfl, own_lower HOW.out (Nat.le_refl _), HM.out, HH.out⟩
set_option maxRecDepth 100000 in
set_option maxHeartbeats 8000000 in
theorem sdo_write (o : Ask) (w : World) (h : IsSto w gs gd bd N gst bst Ns gl d s sz ld ev since false) (hlt : since < ev) (ho : d.Ok M K) (hM : M ≤ 100000000) (hN : N < 800000) (hNs : Ns < 800000) (hsz : 0 ≤ sz ∧ sz ≤ 1099511627776) (hsi : 0 ≤ since ∧ since ≤ 1000000) (hk : Ks s) (hks : o.key.size ≤ maxLen) (his : o.iff.size ≤ maxLen)
    (hwr : (planP s.rev s.l o).wr = true) (hri : (planP s.rev s.l o).eff.right) (hrv : (planP s.rev s.l o).eff.r < 9223372036854775808) (hap : apOk s.rev s.l (planP s.rev s.l o).eff = true) {q : WL} (hc : waP ⟨d, sz, ld⟩ logN (effL (planP s.rev s.l o).eff) = (0, q)) :
    Calls Tryz.prog 18 #[.pointer (some ⟨gs, 0, none⟩), o.v] w fun x w' => DOg w w' (planP s.rev s.l o).told (fun w' => Mod (M6 gs gd bd gst bst gl) w w' ∧ IsSto w' gs gd bd (N + 2) gst bst (Ns + 1) gl q.d ⟨(planP s.rev s.l o).eff.r, applyL (planP s.rev s.l o).eff.it (planP s.rev s.l o).eff.g s.l⟩ q.sz q.dead ev (since + 1) false) x := by
  have HWR := fun v (h : IsSto v gs gd bd N gst bst Ns gl d s sz ld ev since false) => swrite_ok (planP s.rev s.l o).eff v h ho hM hN hNs hsz hsi hri hrv hap (by rw [hc])
  simp only [hc] at HWR
  clear hri hrv hap hc ho
  unfold Eff.val Eff.cells at HWR
  have HPL := fun v (h : IsSt v gst bst Ns s.rev s.l) => plan_any o v h (by omega) hk.sizes hks his
  obtain ⟨p, hp⟩ : ∃ p, planP s.rev s.l o = p := ⟨_, rfl⟩
  rw [hp] at HPL HWR hwr ⊢
  clear hp hk hks his
  obtain ⟨⟨tc, tr, tv, ti⟩, ⟨ek, evv, er, eg⟩, wr⟩ := p
  unfold PlanR at HPL
  simp only at HPL HWR hwr ⊢
  subst hwr
  obtain ⟨ki, k, vl, r, i, j⟩ := o
  unfold Ask.v Ask.cells at HPL ⊢
  simp only at HPL ⊢
  obtain ⟨h0, hR, hb⟩ := two_at w 49 [.int .i64 ki, .string k, .string vl, .int .i64 r, .string i, .int .i64 j] 58 [.int .i64 0, .int .i64 0, .string ⟨#[]⟩, .slice none 0 0]
  replace h := h.step hb
  have hm : Mod (M6 gs gd bd gst bst gl) w _ := (Mod.refl _ w).below hb
  have hB2 := hb.size
  have hd5 : decide (ev ≤ since) = false := decide_eq_false (by omega)
  go_enter Tryz.func18, Tryz.ntmps18
  go_upto_region 1 with fail
  generalize World.alloc (World.alloc w _) _ = w1 at *
  obtain ⟨gR, hgRe⟩ : ∃ gR, w.heap.size + 1 = gR := ⟨_, rfl⟩
  rw [hgRe] at hR ⊢
  have hgR : w.heap.size ≤ gR := by omega
  clear hgRe hb
  obtain ⟨⟨x0, x1, x2, x3, x4, x5⟩, xf⟩ := at6 h.blk
  obtain ⟨⟨y0, y1, y2, y3, y4, y5⟩, yf⟩ := at6 h0
  go_upto_region 5 with fail
  refine region_any (by kernel_rfl) ?_
  change wpAny _ _ _ _ _ _ _ (World.drew _)
  replace h := h.drew
  replace hm := hm.drew
  replace hR := At.drew hR
  replace h0 := At.drew h0
  clear x0 x1 x2 x3 x4 x5 xf y0 y1 y2 y3 y4 y5 yf
  replace hB2 : w.heap.size ≤ (World.drew w1).heap.size := hB2
  generalize World.drew _ = w2 at *
  obtain ⟨⟨x0, x1, x2, x3, x4, x5⟩, xf⟩ := at6 h.blk
  obtain ⟨⟨y0, y1, y2, y3, y4, y5⟩, yf⟩ := at6 h0
  have l1 := h.blk.lt
  have l0 := h0.lt
  refine stage 100000 ?_
  refine stage_read (i := 0) (v := ?_) rfl (by kernel_rfl) (by kernel_rfl) (by kernel_rfl) (by kernel_rfl) (by kernel_rfl) (by kernel_rfl) (fun _ _ _ h => h) (Or.inl ⟨by kernel_rfl, ?_⟩) ?_
  rotate_left
  · (intro wS hwS; obtain ⟨hcS, hfS, hhS⟩ := bcell hwS; go_simp; try (first | (with_reducible rfl) | rw [if_pos (by omega)] | rw [if_neg (by omega)]))
  try simp only [Act.put, List.getElem_toArray, List.getElem_cons_succ, List.getElem_cons_zero, List.setIfInBounds_toArray, List.set_cons_zero, List.set_cons_succ]
  refine stage_read (i := 1) (v := ?_) rfl (by kernel_rfl) (by kernel_rfl) (by kernel_rfl) (by kernel_rfl) (by kernel_rfl) (by kernel_rfl) (fun _ _ _ h => h) (Or.inl ⟨by kernel_rfl, ?_⟩) ?_
  rotate_left
  · (intro wS hwS; obtain ⟨hcS, hfS, hhS⟩ := bcell hwS; go_simp; try (first | (with_reducible rfl) | rw [if_pos (by omega)] | rw [if_neg (by omega)]))
  try simp only [Act.put, List.getElem_toArray, List.getElem_cons_succ, List.getElem_cons_zero, List.setIfInBounds_toArray, List.set_cons_zero, List.set_cons_succ]
  refine stage_read (i := 2) (v := ?_) rfl (by kernel_rfl) (by kernel_rfl) (by kernel_rfl) (by kernel_rfl) (by kernel_rfl) (by kernel_rfl) (fun _ _ _ h => h) (Or.inl ⟨by kernel_rfl, ?_⟩) ?_
  rotate_left
  · (intro wS hwS; obtain ⟨hcS, hfS, hhS⟩ := bcell hwS; go_simp; try (first | (with_reducible rfl) | rw [if_pos (by omega)] | rw [if_neg (by omega)]))
  try simp only [Act.put, List.getElem_toArray, List.getElem_cons_succ, List.getElem_cons_zero, List.setIfInBounds_toArray, List.set_cons_zero, List.set_cons_succ]
  refine stage_read (i := 3) (v := ?_) rfl (by kernel_rfl) (by kernel_rfl) (by kernel_rfl) (by kernel_rfl) (by kernel_rfl) (by kernel_rfl) (fun _ _ _ h => h) (Or.inl ⟨by kernel_rfl, ?_⟩) ?_
  rotate_left
  · (intro wS hwS; obtain ⟨hcS, hfS, hhS⟩ := bcell hwS; go_simp; try (first | (with_reducible rfl) | rw [if_pos (by omega)] | rw [if_neg (by omega)]))
  try simp only [Act.put, List.getElem_toArray, List.getElem_cons_succ, List.getElem_cons_zero, List.setIfInBounds_toArray, List.set_cons_zero, List.set_cons_succ]
  refine stage_read (i := 4) (v := ?_) rfl (by kernel_rfl) (by kernel_rfl) (by kernel_rfl) (by kernel_rfl) (by kernel_rfl) (by kernel_rfl) (fun _ _ _ h => h) (Or.inl ⟨by kernel_rfl, ?_⟩) ?_
  rotate_left
  · (intro wS hwS; obtain ⟨hcS, hfS, hhS⟩ := bcell hwS; go_simp; try (first | (with_reducible rfl) | rw [if_pos (by omega)] | rw [if_neg (by omega)]))
  try simp only [Act.put, List.getElem_toArray, List.getElem_cons_succ, List.getElem_cons_zero, List.setIfInBounds_toArray, List.set_cons_zero, List.set_cons_succ]
  refine stage_read (i := 5) (v := ?_) rfl (by kernel_rfl) (by kernel_rfl) (by kernel_rfl) (by kernel_rfl) (by kernel_rfl) (by kernel_rfl) (fun _ _ _ h => h) (Or.inl ⟨by kernel_rfl, ?_⟩) ?_
  rotate_left
  · (intro wS hwS; obtain ⟨hcS, hfS, hhS⟩ := bcell hwS; go_simp; try (first | (with_reducible rfl) | rw [if_pos (by omega)] | rw [if_neg (by omega)]))
  try simp only [Act.put, List.getElem_toArray, List.getElem_cons_succ, List.getElem_cons_zero, List.setIfInBounds_toArray, List.set_cons_zero, List.set_cons_succ]
  refine stage_read (i := 6) (v := ?_) rfl (by kernel_rfl) (by kernel_rfl) (by kernel_rfl) (by kernel_rfl) (by kernel_rfl) (by kernel_rfl) (fun _ _ _ h => h) (Or.inl ⟨by kernel_rfl, ?_⟩) ?_
  rotate_left
  · (intro wS hwS; obtain ⟨hcS, hfS, hhS⟩ := bcell hwS; go_simp; try (first | (with_reducible rfl) | rw [if_pos (by omega)] | rw [if_neg (by omega)]))
  try simp only [Act.put, List.getElem_toArray, List.getElem_cons_succ, List.getElem_cons_zero, List.setIfInBounds_toArray, List.set_cons_zero, List.set_cons_succ]
  refine stage_read (i := 7) (v := ?_) rfl (by kernel_rfl) (by kernel_rfl) (by kernel_rfl) (by kernel_rfl) (by kernel_rfl) (by kernel_rfl) (fun _ _ _ h => h) (Or.inl ⟨by kernel_rfl, ?_⟩) ?_
  rotate_left
  · (intro wS hwS; obtain ⟨hcS, hfS, hhS⟩ := bcell hwS; go_simp; try (first | (with_reducible rfl) | rw [if_pos (by omega)] | rw [if_neg (by omega)]))
  try simp only [Act.put, List.getElem_toArray, List.getElem_cons_succ, List.getElem_cons_zero, List.setIfInBounds_toArray, List.set_cons_zero, List.set_cons_succ]
  refine stage_read (i := 8) (v := ?_) rfl (by kernel_rfl) (by kernel_rfl) (by kernel_rfl) (by kernel_rfl) (by kernel_rfl) (by kernel_rfl) (fun _ _ _ h => h) (Or.inl ⟨by kernel_rfl, ?_⟩) ?_
  rotate_left
  · (intro wS hwS; obtain ⟨hcS, hfS, hhS⟩ := bcell hwS; go_simp; try (first | (with_reducible rfl) | rw [if_pos (by omega)] | rw [if_neg (by omega)]))
  try simp only [Act.put, List.getElem_toArray, List.getElem_cons_succ, List.getElem_cons_zero, List.setIfInBounds_toArray, List.set_cons_zero, List.set_cons_succ]
  refine stage_read (i := 9) (v := ?_) rfl (by kernel_rfl) (by kernel_rfl) (by kernel_rfl) (by kernel_rfl) (by kernel_rfl) (by kernel_rfl) (fun _ _ _ h => h) (Or.inl ⟨by kernel_rfl, ?_⟩) ?_
  rotate_left
  · (intro wS hwS; obtain ⟨hcS, hfS, hhS⟩ := bcell hwS; go_simp; try (first | (with_reducible rfl) | rw [if_pos (by omega)] | rw [if_neg (by omega)]))
  try simp only [Act.put, List.getElem_toArray, List.getElem_cons_succ, List.getElem_cons_zero, List.setIfInBounds_toArray, List.set_cons_zero, List.set_cons_succ]
  refine stage_pure (i := 10) (v := undef) rfl (by kernel_rfl) (by kernel_rfl) (by kernel_rfl) (by kernel_rfl) (by kernel_rfl) (fun _ _ _ h => h) (Or.inr ⟨by kernel_rfl, rfl⟩) ?_
  try simp only [Act.put, List.getElem_toArray, List.getElem_cons_succ, List.getElem_cons_zero, List.setIfInBounds_toArray, List.set_cons_zero, List.set_cons_succ]
  refine stage_pure (i := 11) (v := undef) rfl (by kernel_rfl) (by kernel_rfl) (by kernel_rfl) (by kernel_rfl) (by kernel_rfl) (fun _ _ _ h => h) (Or.inr ⟨by kernel_rfl, rfl⟩) ?_
  try simp only [Act.put, List.getElem_toArray, List.getElem_cons_succ, List.getElem_cons_zero, List.setIfInBounds_toArray, List.set_cons_zero, List.set_cons_succ]
  refine stage_pure (i := 12) (v := undef) rfl (by kernel_rfl) (by kernel_rfl) (by kernel_rfl) (by kernel_rfl) (by kernel_rfl) (fun _ _ _ h => h) (Or.inr ⟨by kernel_rfl, rfl⟩) ?_
  try simp only [Act.put, List.getElem_toArray, List.getElem_cons_succ, List.getElem_cons_zero, List.setIfInBounds_toArray, List.set_cons_zero, List.set_cons_succ]
  refine stage_read (i := 13) (v := ?_) rfl (by kernel_rfl) (by kernel_rfl) (by kernel_rfl) (by kernel_rfl) (by kernel_rfl) (by kernel_rfl) (fun _ _ _ h => h) (Or.inl ⟨by kernel_rfl, ?_⟩) ?_
  rotate_left
  · (intro wS hwS; obtain ⟨hcS, hfS, hhS⟩ := bcell hwS; go_simp; try (first | (with_reducible rfl) | rw [if_pos (by omega)] | rw [if_neg (by omega)]))
  try simp only [Act.put, List.getElem_toArray, List.getElem_cons_succ, List.getElem_cons_zero, List.setIfInBounds_toArray, List.set_cons_zero, List.set_cons_succ]
  first | refine wpAnyT_done (by kernel_rfl) ?_ _ | refine wpAny_done (by kernel_rfl) ?_ _
  go_upto_region 7 with fail
  clear hd5 l1 l0
  refine region_any (by kernel_rfl) ?_
  change wpAny _ _ _ _ _ _ _ (World.drew _)
  replace h := h.drew
  replace hm := hm.drew
  replace hR := At.drew hR
  replace h0 := At.drew h0
  clear x0 x1 x2 x3 x4 x5 xf y0 y1 y2 y3 y4 y5 yf
  replace hB2 : w.heap.size ≤ (World.drew w2).heap.size := hB2
  generalize World.drew _ = v1 at *
  obtain ⟨⟨x0, x1, x2, x3, x4, x5⟩, xf⟩ := at6 h.blk
  obtain ⟨⟨y0, y1, y2, y3, y4, y5⟩, yf⟩ := at6 h0
  have l1 := h.blk.lt
  have l0 := h0.lt
  refine stage 12 ?_
  refine stage_read (i := 0) (v := ?_) rfl (by kernel_rfl) (by kernel_rfl) (by kernel_rfl) (by kernel_rfl) (by kernel_rfl) (by kernel_rfl) (fun _ _ _ h => h) (Or.inl ⟨by kernel_rfl, ?_⟩) ?_
  rotate_left
  · (intro wS hwS; obtain ⟨hcS, hfS, hhS⟩ := bcell hwS; go_simp; try (first | (with_reducible rfl) | rw [if_pos (by omega)] | rw [if_neg (by omega)]))
  try simp only [Act.put, List.getElem_toArray, List.getElem_cons_succ, List.getElem_cons_zero, List.setIfInBounds_toArray, List.set_cons_zero, List.set_cons_succ]
  refine stage_read (i := 1) (v := ?_) rfl (by kernel_rfl) (by kernel_rfl) (by kernel_rfl) (by kernel_rfl) (by kernel_rfl) (by kernel_rfl) (fun _ _ _ h => h) (Or.inl ⟨by kernel_rfl, ?_⟩) ?_
  rotate_left
  · (intro wS hwS; obtain ⟨hcS, hfS, hhS⟩ := bcell hwS; go_simp; try (first | (with_reducible rfl) | rw [if_pos (by omega)] | rw [if_neg (by omega)]))
  try simp only [Act.put, List.getElem_toArray, List.getElem_cons_succ, List.getElem_cons_zero, List.setIfInBounds_toArray, List.set_cons_zero, List.set_cons_succ]
  refine stage_read (i := 2) (v := ?_) rfl (by kernel_rfl) (by kernel_rfl) (by kernel_rfl) (by kernel_rfl) (by kernel_rfl) (by kernel_rfl) (fun _ _ _ h => h) (Or.inl ⟨by kernel_rfl, ?_⟩) ?_
  rotate_left
  · (intro wS hwS; obtain ⟨hcS, hfS, hhS⟩ := bcell hwS; go_simp; try (first | (with_reducible rfl) | rw [if_pos (by omega)] | rw [if_neg (by omega)]))
  try simp only [Act.put, List.getElem_toArray, List.getElem_cons_succ, List.getElem_cons_zero, List.setIfInBounds_toArray, List.set_cons_zero, List.set_cons_succ]
  refine stage_read (i := 3) (v := ?_) rfl (by kernel_rfl) (by kernel_rfl) (by kernel_rfl) (by kernel_rfl) (by kernel_rfl) (by kernel_rfl) (fun _ _ _ h => h) (Or.inl ⟨by kernel_rfl, ?_⟩) ?_
  rotate_left
  · (intro wS hwS; obtain ⟨hcS, hfS, hhS⟩ := bcell hwS; go_simp; try (first | (with_reducible rfl) | rw [if_pos (by omega)] | rw [if_neg (by omega)]))
  try simp only [Act.put, List.getElem_toArray, List.getElem_cons_succ, List.getElem_cons_zero, List.setIfInBounds_toArray, List.set_cons_zero, List.set_cons_succ]
  refine stage_read (i := 4) (v := ?_) rfl (by kernel_rfl) (by kernel_rfl) (by kernel_rfl) (by kernel_rfl) (by kernel_rfl) (by kernel_rfl) (fun _ _ _ h => h) (Or.inl ⟨by kernel_rfl, ?_⟩) ?_
  rotate_left
  · (intro wS hwS; obtain ⟨hcS, hfS, hhS⟩ := bcell hwS; go_simp; try (first | (with_reducible rfl) | rw [if_pos (by omega)] | rw [if_neg (by omega)]))
  try simp only [Act.put, List.getElem_toArray, List.getElem_cons_succ, List.getElem_cons_zero, List.setIfInBounds_toArray, List.set_cons_zero, List.set_cons_succ]
  clear x0 x1 x2 x3 x4 x5 xf y0 y1 y2 y3 y4 y5 yf l1 l0 h0
  refine stage_three 5 10 11 (by kernel_rfl) rfl rfl rfl (by kernel_rfl) (by kernel_rfl) (by kernel_rfl) (fun K hK => ?_) (fun K hK => ?_) (fun K hK => ?_)
  ·
    skip
    go_simp
    refine (HPL _ h.st).mono ?_
    rintro z v2 ⟨A5, n5, c5, rfl, hown5, hbn⟩
    refine hK.out _ _ (hbn) ?_
    clear hK K
    try simp only [Act.put, List.getElem_toArray, List.getElem_cons_succ, List.getElem_cons_zero, List.setIfInBounds_toArray, List.set_cons_zero, List.set_cons_succ]
    have hown := own_lower (show World.ownsRow _ _ _ _ _ _ _ from hown5) hB2
    clear hown5
    replace h := h.step hbn
    replace hm := hm.below hbn
    replace hR := hR.step hbn
    try replace h12 := h12.step hbn
    try replace h13 := h13.step hbn
    have hbs := hbn.size
    replace hB2 := Nat.le_trans hB2 hbs
    clear hbn hbs
    refine stage_read (i := 6) (v := ?_) rfl (by kernel_rfl) (by kernel_rfl) (by kernel_rfl) (by kernel_rfl) (by kernel_rfl) (by kernel_rfl) (fun _ _ _ h => h) (Or.inl ⟨by kernel_rfl, ?_⟩) ?_
    rotate_left
    · (intro wS hwS; obtain ⟨hcS, hfS, hhS⟩ := bcell hwS; go_simp; try (first | (with_reducible rfl) | rw [if_pos (by omega)] | rw [if_neg (by omega)]))
    try simp only [Act.put, List.getElem_toArray, List.getElem_cons_succ, List.getElem_cons_zero, List.setIfInBounds_toArray, List.set_cons_zero, List.set_cons_succ]
    refine stage_read (i := 7) (v := ?_) rfl (by kernel_rfl) (by kernel_rfl) (by kernel_rfl) (by kernel_rfl) (by kernel_rfl) (by kernel_rfl) (fun _ _ _ h => h) (Or.inl ⟨by kernel_rfl, ?_⟩) ?_
    rotate_left
    · (intro wS hwS; obtain ⟨hcS, hfS, hhS⟩ := bcell hwS; go_simp; try (first | (with_reducible rfl) | rw [if_pos (by omega)] | rw [if_neg (by omega)]))
    try simp only [Act.put, List.getElem_toArray, List.getElem_cons_succ, List.getElem_cons_zero, List.setIfInBounds_toArray, List.set_cons_zero, List.set_cons_succ]
    refine stage_pure (i := 8) (v := ?_) rfl (by kernel_rfl) (by kernel_rfl) (by kernel_rfl) (by kernel_rfl) (by kernel_rfl) (fun _ _ _ h => h) (Or.inl ⟨by kernel_rfl, ?_⟩) ?_
    rotate_left
    · (intro wS; go_simp; try (first | (with_reducible rfl) | rw [if_pos (by omega)] | rw [if_neg (by omega)]))
    try simp only [Act.put, List.getElem_toArray, List.getElem_cons_succ, List.getElem_cons_zero, List.setIfInBounds_toArray, List.set_cons_zero, List.set_cons_succ]
    refine stage_pure (i := 9) (v := ?_) rfl (by kernel_rfl) (by kernel_rfl) (by kernel_rfl) (by kernel_rfl) (by kernel_rfl) (fun _ _ _ h => h) (Or.inl ⟨by kernel_rfl, ?_⟩) ?_
    rotate_left
    · (intro wS; go_simp; try (first | (with_reducible rfl) | rw [if_pos (by omega)] | rw [if_neg (by omega)]))
    try simp only [Act.put, List.getElem_toArray, List.getElem_cons_succ, List.getElem_cons_zero, List.setIfInBounds_toArray, List.set_cons_zero, List.set_cons_succ]
    refine stage_two 10 11 (by kernel_rfl) rfl rfl (by kernel_rfl) (by kernel_rfl) (fun K hK => ?_) (fun K hK => ?_)
    ·
      skip
      go_simp
      obtain ⟨hnew, hbn⟩ := one_at v2 58 [.int .i64 0, .int .i64 0, .string ⟨#[]⟩, .slice none 0 0]
      refine hK.out _ _ (hbn) ?_
      clear hK K
      try simp only [Act.put, List.getElem_toArray, List.getElem_cons_succ, List.getElem_cons_zero, List.setIfInBounds_toArray, List.set_cons_zero, List.set_cons_succ]
      have hg12 := hB2
      have hq12 := hR.lt
      replace h := h.step hbn
      replace hm := hm.below hbn
      replace hR := hR.step hbn
      try replace h12 := h12.step hbn
      try replace h13 := h13.step hbn
      try replace hown := own_below (show World.ownsRow _ _ _ _ _ _ _ from hown) hbn
      have hbs := hbn.size
      replace hB2 := Nat.le_trans hB2 hbs
      clear hbn hbs
      have h12 := hnew
      clear hnew
      generalize World.alloc v2 _ = v3 at *
      generalize v2.heap.size = g12 at *
      refine stage_one 11 (by kernel_rfl) rfl (by kernel_rfl) (fun K hK => ?_)
      go_simp
      obtain ⟨hnew, hbn⟩ := one_at v3 115 [.string ⟨#[]⟩, .string ⟨#[]⟩, .int .i64 0, .bool false]
      refine hK.out _ _ (hbn) ?_
      clear hK K
      try simp only [Act.put, List.getElem_toArray, List.getElem_cons_succ, List.getElem_cons_zero, List.setIfInBounds_toArray, List.set_cons_zero, List.set_cons_succ]
      have hg13 := hB2
      replace h := h.step hbn
      replace hm := hm.below hbn
      replace hR := hR.step hbn
      try replace h12 := h12.step hbn
      try replace h13 := h13.step hbn
      try replace hown := own_below (show World.ownsRow _ _ _ _ _ _ _ from hown) hbn
      have hbs := hbn.size
      replace hB2 := Nat.le_trans hB2 hbs
      clear hbn hbs
      have h13 := hnew
      clear hnew
      generalize World.alloc v3 _ = v4 at *
      generalize v3.heap.size = g13 at *
      obtain ⟨⟨z0, z1, z2, z3⟩, zf0, zf1, zf2, zf3⟩ := at4 h12
      have l12 := h12.lt

      refine stage_end (by kernel_rfl) rfl (fun K hK => ?_)
      go_simp
      refine hK.out _ _ ?_
      clear hK K
      try simp only [Act.put, List.getElem_toArray, List.getElem_cons_succ, List.getElem_cons_zero, List.setIfInBounds_toArray, List.set_cons_zero, List.set_cons_succ]
      obtain ⟨hm12, hG⟩ := At.many [(0, .int .i64 tc), (1, .int .i64 tr), (2, .string tv), (3, .slice A5 n5 c5)] h12
      dsimp only [setMany, setL, List.set] at hm12 hG
      have hmG := mod_one hG
      replace h := h.cell h12 (by decide) (by decide) (by decide) (by decide) (by decide) hmG
      replace hm := hm.step hmG (fun i o hi _ e => absurd e (by omega))
      replace hR := hmG.at hR (by omega)
      replace h13 := hmG.at h13 (At.ne h13 h12 (by decide))
      replace hown := own_mod hown hmG (fun i o ho _ hit e => isT_at h12 ho hit (by decide) e)
      replace hB2 := Nat.le_trans hB2 hmG.size
      clear z0 z1 z2 z3 zf0 zf1 zf2 zf3 l12 hG hmG h12
      generalize World.setCell _ _ _ = v11 at *
      obtain ⟨⟨z0, z1, z2, z3⟩, zf0, zf1, zf2, zf3⟩ := at4 h13
      have l13 := h13.lt
      refine stage 13 ?_

      refine stage_end (by kernel_rfl) rfl (fun K hK => ?_)
      go_simp
      refine hK.out _ _ ?_
      clear hK K
      try simp only [Act.put, List.getElem_toArray, List.getElem_cons_succ, List.getElem_cons_zero, List.setIfInBounds_toArray, List.set_cons_zero, List.set_cons_succ]
      first | refine stage 1000000 ?_ | skip
      refine stage_read (i := 14) (v := ?_) rfl (by kernel_rfl) (by kernel_rfl) (by kernel_rfl) (by kernel_rfl) (by kernel_rfl) (by kernel_rfl) (fun _ _ _ h => h) (Or.inl ⟨by kernel_rfl, ?_⟩) ?_
      rotate_left
      · (intro wS hwS; obtain ⟨hcS, hfS, hhS⟩ := bcell hwS; go_simp; try (first | (with_reducible rfl) | rw [if_pos (by omega)] | rw [if_neg (by omega)]))
      try simp only [Act.put, List.getElem_toArray, List.getElem_cons_succ, List.getElem_cons_zero, List.setIfInBounds_toArray, List.set_cons_zero, List.set_cons_succ]
      first | refine wpAnyT_done (by kernel_rfl) ?_ _ | refine wpAny_done (by kernel_rfl) ?_ _
      obtain ⟨hm13, hG⟩ := At.many [(0, .string ek), (1, .string evv), (2, .int .i64 er), (3, .bool eg)] h13
      dsimp only [setMany, setL, List.set] at hm13 hG
      have hmG := mod_one hG
      replace h := h.cell h13 (by decide) (by decide) (by decide) (by decide) (by decide) hmG
      replace hm := hm.step hmG (fun i o hi _ e => absurd e (by omega))
      replace hR := hmG.at hR (At.ne hR h13 (by decide))
      replace hm12 := hmG.at hm12 (At.ne hm12 h13 (by decide))
      replace hown := own_mod hown hmG (fun i o ho _ hit e => isT_at h13 ho hit (by decide) e)
      replace hB2 := Nat.le_trans hB2 hmG.size
      clear z0 z1 z2 z3 zf0 zf1 zf2 zf3 l13 hG hmG h13
      generalize World.setCell _ _ _ = v12 at *
      obtain ⟨⟨e0, e1, e2, e3⟩, ef⟩ := at4 hm13
      have HW := HWR v12 h
      go_upto_region 10 with (((with_reducible refine (HW).mono ?_); rintro z v13 ⟨rfl, hmW, hW⟩))
      replace hm12 := h.far hm12 (by decide) (by decide) (by decide) (by decide) hmW
      replace hR := h.far hR (by decide) (by decide) (by decide) (by decide) hmW
      replace hown := own_mod hown hmW (fun i o ho _ hit => h.farT ho hit (by decide) (by decide) (by decide) (by decide))
      replace hm := hm.trans hmW
      replace hB2 := Nat.le_trans hB2 hmW.size
      clear HW HWR h hmW e0 e1 e2 e3 ef hm13
      have h := hW
      clear hW
      obtain ⟨⟨z0, z1, z2, z3⟩, zf0, zf1, zf2, zf3⟩ := at4 hm12
      obtain ⟨⟨r0, r1, r2, r3⟩, rf0, rf1, rf2, rf3⟩ := at4 hR
      obtain ⟨hmR, hG⟩ := At.many [(0, .int .i64 tc), (1, .int .i64 tr), (2, .string tv), (3, .slice A5 n5 c5)] hR
      dsimp only [setMany, setL, List.set] at hmR hG
      have hmG := mod_one hG
      replace h := h.cell hR (by decide) (by decide) (by decide) (by decide) (by decide) hmG
      replace hm := hm.step hmG (fun i o hi _ e => absurd e (by omega))
      replace hown := own_mod hown hmG (fun i o ho _ hit e => isT_at hR ho hit (by decide) e)
      have HH := Lib.hid h
      have HM := Lib.hid hm
      have HOW := Lib.hid hown
      have HRR := Lib.hid hmR
      clear h hm hown hG hmG hm12 hR hmR
      go_wp2_with fail
      obtain ⟨⟨u0, u1, u2, u3⟩, _⟩ := at4 HRR.out
      exact bodyPost_ret (v := .agg #[.int .i64 tc, .int .i64 tr, .string tv, .slice A5 n5 c5]) (by simp [results, Tryz.results18, go_sem, u0, u1, u2, u3]) rfl ⟨A5, n5, c5, rfl, own_lower HOW.out (Nat.le_refl _), HM.out, HH.out⟩
    ·
      skip
      go_simp
      obtain ⟨hnew, hbn⟩ := one_at v2 115 [.string ⟨#[]⟩, .string ⟨#[]⟩, .int .i64 0, .bool false]
      refine hK.out _ _ (hbn) ?_
      clear hK K
      try simp only [Act.put, List.getElem_toArray, List.getElem_cons_succ, List.getElem_cons_zero, List.setIfInBounds_toArray, List.set_cons_zero, List.set_cons_succ]
      have hg13 := hB2
      replace h := h.step hbn
      replace hm := hm.below hbn
      replace hR := hR.step hbn
      try replace h12 := h12.step hbn
      try replace h13 := h13.step hbn
      try replace hown := own_below (show World.ownsRow _ _ _ _ _ _ _ from hown) hbn
      have hbs := hbn.size
      replace hB2 := Nat.le_trans hB2 hbs
      clear hbn hbs
      have h13 := hnew
      clear hnew
      generalize World.alloc v2 _ = v3 at *
      generalize v2.heap.size = g13 at *
      refine stage_one 10 (by kernel_rfl) rfl (by kernel_rfl) (fun K hK => ?_)
      go_simp
      obtain ⟨hnew, hbn⟩ := one_at v3 58 [.int .i64 0, .int .i64 0, .string ⟨#[]⟩, .slice none 0 0]
      refine hK.out _ _ (hbn) ?_
      clear hK K
      try simp only [Act.put, List.getElem_toArray, List.getElem_cons_succ, List.getElem_cons_zero, List.setIfInBounds_toArray, List.set_cons_zero, List.set_cons_succ]
      have hg12 := hB2
      have hq12 := hR.lt
      replace h := h.step hbn
      replace hm := hm.below hbn
      replace hR := hR.step hbn
      try replace h12 := h12.step hbn
      try replace h13 := h13.step hbn
      try replace hown := own_below (show World.ownsRow _ _ _ _ _ _ _ from hown) hbn
      have hbs := hbn.size
      replace hB2 := Nat.le_trans hB2 hbs
      clear hbn hbs
      have h12 := hnew
      clear hnew
      generalize World.alloc v3 _ = v4 at *
      generalize v3.heap.size = g12 at *
      obtain ⟨⟨z0, z1, z2, z3⟩, zf0, zf1, zf2, zf3⟩ := at4 h12
      have l12 := h12.lt

      refine stage_end (by kernel_rfl) rfl (fun K hK => ?_)
      go_simp
      refine hK.out _ _ ?_
      clear hK K
      try simp only [Act.put, List.getElem_toArray, List.getElem_cons_succ, List.getElem_cons_zero, List.setIfInBounds_toArray, List.set_cons_zero, List.set_cons_succ]
      obtain ⟨hm12, hG⟩ := At.many [(0, .int .i64 tc), (1, .int .i64 tr), (2, .string tv), (3, .slice A5 n5 c5)] h12
      dsimp only [setMany, setL, List.set] at hm12 hG
      have hmG := mod_one hG
      replace h := h.cell h12 (by decide) (by decide) (by decide) (by decide) (by decide) hmG
      replace hm := hm.step hmG (fun i o hi _ e => absurd e (by omega))
      replace hR := hmG.at hR (by omega)
      replace h13 := hmG.at h13 (At.ne h13 h12 (by decide))
      replace hown := own_mod hown hmG (fun i o ho _ hit e => isT_at h12 ho hit (by decide) e)
      replace hB2 := Nat.le_trans hB2 hmG.size
      clear z0 z1 z2 z3 zf0 zf1 zf2 zf3 l12 hG hmG h12
      generalize World.setCell _ _ _ = v11 at *
      obtain ⟨⟨z0, z1, z2, z3⟩, zf0, zf1, zf2, zf3⟩ := at4 h13
      have l13 := h13.lt
      refine stage 13 ?_

      refine stage_end (by kernel_rfl) rfl (fun K hK => ?_)
      go_simp
      refine hK.out _ _ ?_
      clear hK K
      try simp only [Act.put, List.getElem_toArray, List.getElem_cons_succ, List.getElem_cons_zero, List.setIfInBounds_toArray, List.set_cons_zero, List.set_cons_succ]
      first | refine stage 1000000 ?_ | skip
      refine stage_read (i := 14) (v := ?_) rfl (by kernel_rfl) (by kernel_rfl) (by kernel_rfl) (by kernel_rfl) (by kernel_rfl) (by kernel_rfl) (fun _ _ _ h => h) (Or.inl ⟨by kernel_rfl, ?_⟩) ?_
      rotate_left
      · (intro wS hwS; obtain ⟨hcS, hfS, hhS⟩ := bcell hwS; go_simp; try (first | (with_reducible rfl) | rw [if_pos (by omega)] | rw [if_neg (by omega)]))
      try simp only [Act.put, List.getElem_toArray, List.getElem_cons_succ, List.getElem_cons_zero, List.setIfInBounds_toArray, List.set_cons_zero, List.set_cons_succ]
      first | refine wpAnyT_done (by kernel_rfl) ?_ _ | refine wpAny_done (by kernel_rfl) ?_ _
      obtain ⟨hm13, hG⟩ := At.many [(0, .string ek), (1, .string evv), (2, .int .i64 er), (3, .bool eg)] h13
      dsimp only [setMany, setL, List.set] at hm13 hG
      have hmG := mod_one hG
      replace h := h.cell h13 (by decide) (by decide) (by decide) (by decide) (by decide) hmG
      replace hm := hm.step hmG (fun i o hi _ e => absurd e (by omega))
      replace hR := hmG.at hR (At.ne hR h13 (by decide))
      replace hm12 := hmG.at hm12 (At.ne hm12 h13 (by decide))
      replace hown := own_mod hown hmG (fun i o ho _ hit e => isT_at h13 ho hit (by decide) e)
      replace hB2 := Nat.le_trans hB2 hmG.size
      clear z0 z1 z2 z3 zf0 zf1 zf2 zf3 l13 hG hmG h13
      generalize World.setCell _ _ _ = v12 at *
      obtain ⟨⟨e0, e1, e2, e3⟩, ef⟩ := at4 hm13
      have HW := HWR v12 h
      go_upto_region 10 with (((with_reducible refine (HW).mono ?_); rintro z v13 ⟨rfl, hmW, hW⟩))
      replace hm12 := h.far hm12 (by decide) (by decide) (by decide) (by decide) hmW
      replace hR := h.far hR (by decide) (by decide) (by decide) (by decide) hmW
      replace hown := own_mod hown hmW (fun i o ho _ hit => h.farT ho hit (by decide) (by decide) (by decide) (by decide))
      replace hm := hm.trans hmW
      replace hB2 := Nat.le_trans hB2 hmW.size
      clear HW HWR h hmW e0 e1 e2 e3 ef hm13
      have h := hW
      clear hW
      obtain ⟨⟨z0, z1, z2, z3⟩, zf0, zf1, zf2, zf3⟩ := at4 hm12
      obtain ⟨⟨r0, r1, r2, r3⟩, rf0, rf1, rf2, rf3⟩ := at4 hR
      obtain ⟨hmR, hG⟩ := At.many [(0, .int .i64 tc), (1, .int .i64 tr), (2, .string tv), (3, .slice A5 n5 c5)] hR
      dsimp only [setMany, setL, List.set] at hmR hG
      have hmG := mod_one hG
      replace h := h.cell hR (by decide) (by decide) (by decide) (by decide) (by decide) hmG
      replace hm := hm.step hmG (fun i o hi _ e => absurd e (by omega))
      replace hown := own_mod hown hmG (fun i o ho _ hit e => isT_at hR ho hit (by decide) e)
      have HH := Lib.hid h
      have HM := Lib.hid hm
      have HOW := Lib.hid hown
      have HRR := Lib.hid hmR
      clear h hm hown hG hmG hm12 hR hmR
      go_wp2_with fail
      obtain ⟨⟨u0, u1, u2, u3⟩, _⟩ := at4 HRR.out
      exact bodyPost_ret (v := .agg #[.int .i64 tc, .int .i64 tr, .string tv, .slice A5 n5 c5]) (by simp [results, Tryz.results18, go_sem, u0, u1, u2, u3]) rfl ⟨A5, n5, c5, rfl, own_lower HOW.out (Nat.le_refl _), HM.out, HH.out⟩
  ·
    skip
    go_simp
    obtain ⟨hnew, hbn⟩ := one_at v1 58 [.int .i64 0, .int .i64 0, .string ⟨#[]⟩, .slice none 0 0]
    refine hK.out _ _ (hbn) ?_
    clear hK K
    try simp only [Act.put, List.getElem_toArray, List.getElem_cons_succ, List.getElem_cons_zero, List.setIfInBounds_toArray, List.set_cons_zero, List.set_cons_succ]
    have hg12 := hB2
    have hq12 := hR.lt
    replace h := h.step hbn
    replace hm := hm.below hbn
    replace hR := hR.step hbn
    try replace h12 := h12.step hbn
    try replace h13 := h13.step hbn
    try replace hown := own_below (show World.ownsRow _ _ _ _ _ _ _ from hown) hbn
    have hbs := hbn.size
    replace hB2 := Nat.le_trans hB2 hbs
    clear hbn hbs
    have h12 := hnew
    clear hnew
    generalize World.alloc v1 _ = v2 at *
    generalize v1.heap.size = g12 at *
    refine stage_two 5 11 (by kernel_rfl) rfl rfl (by kernel_rfl) (by kernel_rfl) (fun K hK => ?_) (fun K hK => ?_)
    ·
      skip
      go_simp
      refine (HPL _ h.st).mono ?_
      rintro z v3 ⟨A5, n5, c5, rfl, hown5, hbn⟩
      refine hK.out _ _ (hbn) ?_
      clear hK K
      try simp only [Act.put, List.getElem_toArray, List.getElem_cons_succ, List.getElem_cons_zero, List.setIfInBounds_toArray, List.set_cons_zero, List.set_cons_succ]
      have hown := own_lower (show World.ownsRow _ _ _ _ _ _ _ from hown5) hB2
      clear hown5
      replace h := h.step hbn
      replace hm := hm.below hbn
      replace hR := hR.step hbn
      try replace h12 := h12.step hbn
      try replace h13 := h13.step hbn
      have hbs := hbn.size
      replace hB2 := Nat.le_trans hB2 hbs
      clear hbn hbs
      refine stage_read (i := 6) (v := ?_) rfl (by kernel_rfl) (by kernel_rfl) (by kernel_rfl) (by kernel_rfl) (by kernel_rfl) (by kernel_rfl) (fun _ _ _ h => h) (Or.inl ⟨by kernel_rfl, ?_⟩) ?_
      rotate_left
      · (intro wS hwS; obtain ⟨hcS, hfS, hhS⟩ := bcell hwS; go_simp; try (first | (with_reducible rfl) | rw [if_pos (by omega)] | rw [if_neg (by omega)]))
      try simp only [Act.put, List.getElem_toArray, List.getElem_cons_succ, List.getElem_cons_zero, List.setIfInBounds_toArray, List.set_cons_zero, List.set_cons_succ]
      refine stage_read (i := 7) (v := ?_) rfl (by kernel_rfl) (by kernel_rfl) (by kernel_rfl) (by kernel_rfl) (by kernel_rfl) (by kernel_rfl) (fun _ _ _ h => h) (Or.inl ⟨by kernel_rfl, ?_⟩) ?_
      rotate_left
      · (intro wS hwS; obtain ⟨hcS, hfS, hhS⟩ := bcell hwS; go_simp; try (first | (with_reducible rfl) | rw [if_pos (by omega)] | rw [if_neg (by omega)]))
      try simp only [Act.put, List.getElem_toArray, List.getElem_cons_succ, List.getElem_cons_zero, List.setIfInBounds_toArray, List.set_cons_zero, List.set_cons_succ]
      refine stage_pure (i := 8) (v := ?_) rfl (by kernel_rfl) (by kernel_rfl) (by kernel_rfl) (by kernel_rfl) (by kernel_rfl) (fun _ _ _ h => h) (Or.inl ⟨by kernel_rfl, ?_⟩) ?_
      rotate_left
      · (intro wS; go_simp; try (first | (with_reducible rfl) | rw [if_pos (by omega)] | rw [if_neg (by omega)]))
      try simp only [Act.put, List.getElem_toArray, List.getElem_cons_succ, List.getElem_cons_zero, List.setIfInBounds_toArray, List.set_cons_zero, List.set_cons_succ]
      refine stage_pure (i := 9) (v := ?_) rfl (by kernel_rfl) (by kernel_rfl) (by kernel_rfl) (by kernel_rfl) (by kernel_rfl) (fun _ _ _ h => h) (Or.inl ⟨by kernel_rfl, ?_⟩) ?_
      rotate_left
      · (intro wS; go_simp; try (first | (with_reducible rfl) | rw [if_pos (by omega)] | rw [if_neg (by omega)]))
      try simp only [Act.put, List.getElem_toArray, List.getElem_cons_succ, List.getElem_cons_zero, List.setIfInBounds_toArray, List.set_cons_zero, List.set_cons_succ]
      refine stage_one 11 (by kernel_rfl) rfl (by kernel_rfl) (fun K hK => ?_)
      go_simp
      obtain ⟨hnew, hbn⟩ := one_at v3 115 [.string ⟨#[]⟩, .string ⟨#[]⟩, .int .i64 0, .bool false]
      refine hK.out _ _ (hbn) ?_
      clear hK K
      try simp only [Act.put, List.getElem_toArray, List.getElem_cons_succ, List.getElem_cons_zero, List.setIfInBounds_toArray, List.set_cons_zero, List.set_cons_succ]
      have hg13 := hB2
      replace h := h.step hbn
      replace hm := hm.below hbn
      replace hR := hR.step hbn
      try replace h12 := h12.step hbn
      try replace h13 := h13.step hbn
      try replace hown := own_below (show World.ownsRow _ _ _ _ _ _ _ from hown) hbn
      have hbs := hbn.size
      replace hB2 := Nat.le_trans hB2 hbs
      clear hbn hbs
      have h13 := hnew
      clear hnew
      generalize World.alloc v3 _ = v4 at *
      generalize v3.heap.size = g13 at *
      obtain ⟨⟨z0, z1, z2, z3⟩, zf0, zf1, zf2, zf3⟩ := at4 h12
      have l12 := h12.lt

      refine stage_end (by kernel_rfl) rfl (fun K hK => ?_)
      go_simp
      refine hK.out _ _ ?_
      clear hK K
      try simp only [Act.put, List.getElem_toArray, List.getElem_cons_succ, List.getElem_cons_zero, List.setIfInBounds_toArray, List.set_cons_zero, List.set_cons_succ]
      obtain ⟨hm12, hG⟩ := At.many [(0, .int .i64 tc), (1, .int .i64 tr), (2, .string tv), (3, .slice A5 n5 c5)] h12
      dsimp only [setMany, setL, List.set] at hm12 hG
      have hmG := mod_one hG
      replace h := h.cell h12 (by decide) (by decide) (by decide) (by decide) (by decide) hmG
      replace hm := hm.step hmG (fun i o hi _ e => absurd e (by omega))
      replace hR := hmG.at hR (by omega)
      replace h13 := hmG.at h13 (At.ne h13 h12 (by decide))
      replace hown := own_mod hown hmG (fun i o ho _ hit e => isT_at h12 ho hit (by decide) e)
      replace hB2 := Nat.le_trans hB2 hmG.size
      clear z0 z1 z2 z3 zf0 zf1 zf2 zf3 l12 hG hmG h12
      generalize World.setCell _ _ _ = v11 at *
      obtain ⟨⟨z0, z1, z2, z3⟩, zf0, zf1, zf2, zf3⟩ := at4 h13
      have l13 := h13.lt
      refine stage 13 ?_

      refine stage_end (by kernel_rfl) rfl (fun K hK => ?_)
      go_simp
      refine hK.out _ _ ?_
      clear hK K
      try simp only [Act.put, List.getElem_toArray, List.getElem_cons_succ, List.getElem_cons_zero, List.setIfInBounds_toArray, List.set_cons_zero, List.set_cons_succ]
      first | refine stage 1000000 ?_ | skip
      refine stage_read (i := 14) (v := ?_) rfl (by kernel_rfl) (by kernel_rfl) (by kernel_rfl) (by kernel_rfl) (by kernel_rfl) (by kernel_rfl) (fun _ _ _ h => h) (Or.inl ⟨by kernel_rfl, ?_⟩) ?_
      rotate_left
      · (intro wS hwS; obtain ⟨hcS, hfS, hhS⟩ := bcell hwS; go_simp; try (first | (with_reducible rfl) | rw [if_pos (by omega)] | rw [if_neg (by omega)]))
      try simp only [Act.put, List.getElem_toArray, List.getElem_cons_succ, List.getElem_cons_zero, List.setIfInBounds_toArray, List.set_cons_zero, List.set_cons_succ]
      first | refine wpAnyT_done (by kernel_rfl) ?_ _ | refine wpAny_done (by kernel_rfl) ?_ _
      obtain ⟨hm13, hG⟩ := At.many [(0, .string ek), (1, .string evv), (2, .int .i64 er), (3, .bool eg)] h13
      dsimp only [setMany, setL, List.set] at hm13 hG
      have hmG := mod_one hG
      replace h := h.cell h13 (by decide) (by decide) (by decide) (by decide) (by decide) hmG
      replace hm := hm.step hmG (fun i o hi _ e => absurd e (by omega))
      replace hR := hmG.at hR (At.ne hR h13 (by decide))
      replace hm12 := hmG.at hm12 (At.ne hm12 h13 (by decide))
      replace hown := own_mod hown hmG (fun i o ho _ hit e => isT_at h13 ho hit (by decide) e)
      replace hB2 := Nat.le_trans hB2 hmG.size
      clear z0 z1 z2 z3 zf0 zf1 zf2 zf3 l13 hG hmG h13
      generalize World.setCell _ _ _ = v12 at *
      obtain ⟨⟨e0, e1, e2, e3⟩, ef⟩ := at4 hm13
      have HW := HWR v12 h
      go_upto_region 10 with (((with_reducible refine (HW).mono ?_); rintro z v13 ⟨rfl, hmW, hW⟩))
      replace hm12 := h.far hm12 (by decide) (by decide) (by decide) (by decide) hmW
      replace hR := h.far hR (by decide) (by decide) (by decide) (by decide) hmW
      replace hown := own_mod hown hmW (fun i o ho _ hit => h.farT ho hit (by decide) (by decide) (by decide) (by decide))
      replace hm := hm.trans hmW
      replace hB2 := Nat.le_trans hB2 hmW.size
      clear HW HWR h hmW e0 e1 e2 e3 ef hm13
      have h := hW
      clear hW
      obtain ⟨⟨z0, z1, z2, z3⟩, zf0, zf1, zf2, zf3⟩ := at4 hm12
      obtain ⟨⟨r0, r1, r2, r3⟩, rf0, rf1, rf2, rf3⟩ := at4 hR
      obtain ⟨hmR, hG⟩ := At.many [(0, .int .i64 tc), (1, .int .i64 tr), (2, .string tv), (3, .slice A5 n5 c5)] hR
      dsimp only [setMany, setL, List.set] at hmR hG
      have hmG := mod_one hG
      replace h := h.cell hR (by decide) (by decide) (by decide) (by decide) (by decide) hmG
      replace hm := hm.step hmG (fun i o hi _ e => absurd e (by omega))
      replace hown := own_mod hown hmG (fun i o ho _ hit e => isT_at hR ho hit (by decide) e)
      have HH := Lib.hid h
      have HM := Lib.hid hm
      have HOW := Lib.hid hown
      have HRR := Lib.hid hmR
      clear h hm hown hG hmG hm12 hR hmR
      go_wp2_with fail
      obtain ⟨⟨u0, u1, u2, u3⟩, _⟩ := at4 HRR.out
      exact bodyPost_ret (v := .agg #[.int .i64 tc, .int .i64 tr, .string tv, .slice A5 n5 c5]) (by simp [results, Tryz.results18, go_sem, u0, u1, u2, u3]) rfl ⟨A5, n5, c5, rfl, own_lower HOW.out (Nat.le_refl _), HM.out, HH.out⟩
    ·
      skip
      go_simp
      obtain ⟨hnew, hbn⟩ := one_at v2 115 [.string ⟨#[]⟩, .string ⟨#[]⟩, .int .i64 0, .bool false]
      refine hK.out _ _ (hbn) ?_
      clear hK K
      try simp only [Act.put, List.getElem_toArray, List.getElem_cons_succ, List.getElem_cons_zero, List.setIfInBounds_toArray, List.set_cons_zero, List.set_cons_succ]
      have hg13 := hB2
      replace h := h.step hbn
      replace hm := hm.below hbn
      replace hR := hR.step hbn
      try replace h12 := h12.step hbn
      try replace h13 := h13.step hbn
      try replace hown := own_below (show World.ownsRow _ _ _ _ _ _ _ from hown) hbn
      have hbs := hbn.size
      replace hB2 := Nat.le_trans hB2 hbs
      clear hbn hbs
      have h13 := hnew
      clear hnew
      generalize World.alloc v2 _ = v3 at *
      generalize v2.heap.size = g13 at *
      refine stage_one 5 (by kernel_rfl) rfl (by kernel_rfl) (fun K hK => ?_)
      go_simp
      refine (HPL _ h.st).mono ?_
      rintro z v4 ⟨A5, n5, c5, rfl, hown5, hbn⟩
      refine hK.out _ _ (hbn) ?_
      clear hK K
      try simp only [Act.put, List.getElem_toArray, List.getElem_cons_succ, List.getElem_cons_zero, List.setIfInBounds_toArray, List.set_cons_zero, List.set_cons_succ]
      have hown := own_lower (show World.ownsRow _ _ _ _ _ _ _ from hown5) hB2
      clear hown5
      replace h := h.step hbn
      replace hm := hm.below hbn
      replace hR := hR.step hbn
      try replace h12 := h12.step hbn
      try replace h13 := h13.step hbn
      have hbs := hbn.size
      replace hB2 := Nat.le_trans hB2 hbs
      clear hbn hbs
      refine stage_read (i := 6) (v := ?_) rfl (by kernel_rfl) (by kernel_rfl) (by kernel_rfl) (by kernel_rfl) (by kernel_rfl) (by kernel_rfl) (fun _ _ _ h => h) (Or.inl ⟨by kernel_rfl, ?_⟩) ?_
      rotate_left
      · (intro wS hwS; obtain ⟨hcS, hfS, hhS⟩ := bcell hwS; go_simp; try (first | (with_reducible rfl) | rw [if_pos (by omega)] | rw [if_neg (by omega)]))
      try simp only [Act.put, List.getElem_toArray, List.getElem_cons_succ, List.getElem_cons_zero, List.setIfInBounds_toArray, List.set_cons_zero, List.set_cons_succ]
      refine stage_read (i := 7) (v := ?_) rfl (by kernel_rfl) (by kernel_rfl) (by kernel_rfl) (by kernel_rfl) (by kernel_rfl) (by kernel_rfl) (fun _ _ _ h => h) (Or.inl ⟨by kernel_rfl, ?_⟩) ?_
      rotate_left
      · (intro wS hwS; obtain ⟨hcS, hfS, hhS⟩ := bcell hwS; go_simp; try (first | (with_reducible rfl) | rw [if_pos (by omega)] | rw [if_neg (by omega)]))
      try simp only [Act.put, List.getElem_toArray, List.getElem_cons_succ, List.getElem_cons_zero, List.setIfInBounds_toArray, List.set_cons_zero, List.set_cons_succ]
      refine stage_pure (i := 8) (v := ?_) rfl (by kernel_rfl) (by kernel_rfl) (by kernel_rfl) (by kernel_rfl) (by kernel_rfl) (fun _ _ _ h => h) (Or.inl ⟨by kernel_rfl, ?_⟩) ?_
      rotate_left
      · (intro wS; go_simp; try (first | (with_reducible rfl) | rw [if_pos (by omega)] | rw [if_neg (by omega)]))
      try simp only [Act.put, List.getElem_toArray, List.getElem_cons_succ, List.getElem_cons_zero, List.setIfInBounds_toArray, List.set_cons_zero, List.set_cons_succ]
      refine stage_pure (i := 9) (v := ?_) rfl (by kernel_rfl) (by kernel_rfl) (by kernel_rfl) (by kernel_rfl) (by kernel_rfl) (fun _ _ _ h => h) (Or.inl ⟨by kernel_rfl, ?_⟩) ?_
      rotate_left
      · (intro wS; go_simp; try (first | (with_reducible rfl) | rw [if_pos (by omega)] | rw [if_neg (by omega)]))
      try simp only [Act.put, List.getElem_toArray, List.getElem_cons_succ, List.getElem_cons_zero, List.setIfInBounds_toArray, List.set_cons_zero, List.set_cons_succ]
      obtain ⟨⟨z0, z1, z2, z3⟩, zf0, zf1, zf2, zf3⟩ := at4 h12
      have l12 := h12.lt

      refine stage_end (by kernel_rfl) rfl (fun K hK => ?_)
      go_simp
      refine hK.out _ _ ?_
      clear hK K
      try simp only [Act.put, List.getElem_toArray, List.getElem_cons_succ, List.getElem_cons_zero, List.setIfInBounds_toArray, List.set_cons_zero, List.set_cons_succ]
      obtain ⟨hm12, hG⟩ := At.many [(0, .int .i64 tc), (1, .int .i64 tr), (2, .string tv), (3, .slice A5 n5 c5)] h12
      dsimp only [setMany, setL, List.set] at hm12 hG
      have hmG := mod_one hG
      replace h := h.cell h12 (by decide) (by decide) (by decide) (by decide) (by decide) hmG
      replace hm := hm.step hmG (fun i o hi _ e => absurd e (by omega))
      replace hR := hmG.at hR (by omega)
      replace h13 := hmG.at h13 (At.ne h13 h12 (by decide))
      replace hown := own_mod hown hmG (fun i o ho _ hit e => isT_at h12 ho hit (by decide) e)
      replace hB2 := Nat.le_trans hB2 hmG.size
      clear z0 z1 z2 z3 zf0 zf1 zf2 zf3 l12 hG hmG h12
      generalize World.setCell _ _ _ = v11 at *
      obtain ⟨⟨z0, z1, z2, z3⟩, zf0, zf1, zf2, zf3⟩ := at4 h13
      have l13 := h13.lt
      refine stage 13 ?_

      refine stage_end (by kernel_rfl) rfl (fun K hK => ?_)
      go_simp
      refine hK.out _ _ ?_
      clear hK K
      try simp only [Act.put, List.getElem_toArray, List.getElem_cons_succ, List.getElem_cons_zero, List.setIfInBounds_toArray, List.set_cons_zero, List.set_cons_succ]
      first | refine stage 1000000 ?_ | skip
      refine stage_read (i := 14) (v := ?_) rfl (by kernel_rfl) (by kernel_rfl) (by kernel_rfl) (by kernel_rfl) (by kernel_rfl) (by kernel_rfl) (fun _ _ _ h => h) (Or.inl ⟨by kernel_rfl, ?_⟩) ?_
      rotate_left
      · (intro wS hwS; obtain ⟨hcS, hfS, hhS⟩ := bcell hwS; go_simp; try (first | (with_reducible rfl) | rw [if_pos (by omega)] | rw [if_neg (by omega)]))
      try simp only [Act.put, List.getElem_toArray, List.getElem_cons_succ, List.getElem_cons_zero, List.setIfInBounds_toArray, List.set_cons_zero, List.set_cons_succ]
      first | refine wpAnyT_done (by kernel_rfl) ?_ _ | refine wpAny_done (by kernel_rfl) ?_ _
      obtain ⟨hm13, hG⟩ := At.many [(0, .string ek), (1, .string evv), (2, .int .i64 er), (3, .bool eg)] h13
      dsimp only [setMany, setL, List.set] at hm13 hG
      have hmG := mod_one hG
      replace h := h.cell h13 (by decide) (by decide) (by decide) (by decide) (by decide) hmG
      replace hm := hm.step hmG (fun i o hi _ e => absurd e (by omega))
      replace hR := hmG.at hR (At.ne hR h13 (by decide))
      replace hm12 := hmG.at hm12 (At.ne hm12 h13 (by decide))
      replace hown := own_mod hown hmG (fun i o ho _ hit e => isT_at h13 ho hit (by decide) e)
      replace hB2 := Nat.le_trans hB2 hmG.size
      clear z0 z1 z2 z3 zf0 zf1 zf2 zf3 l13 hG hmG h13
      generalize World.setCell _ _ _ = v12 at *
      obtain ⟨⟨e0, e1, e2, e3⟩, ef⟩ := at4 hm13
      have HW := HWR v12 h
      go_upto_region 10 with (((with_reducible refine (HW).mono ?_); rintro z v13 ⟨rfl, hmW, hW⟩))
      replace hm12 := h.far hm12 (by decide) (by decide) (by decide) (by decide) hmW
      replace hR := h.far hR (by decide) (by decide) (by decide) (by decide) hmW
      replace hown := own_mod hown hmW (fun i o ho _ hit => h.farT ho hit (by decide) (by decide) (by decide) (by decide))
      replace hm := hm.trans hmW
      replace hB2 := Nat.le_trans hB2 hmW.size
      clear HW HWR h hmW e0 e1 e2 e3 ef hm13
      have h := hW
      clear hW
      obtain ⟨⟨z0, z1, z2, z3⟩, zf0, zf1, zf2, zf3⟩ := at4 hm12
      obtain ⟨⟨r0, r1, r2, r3⟩, rf0, rf1, rf2, rf3⟩ := at4 hR
      obtain ⟨hmR, hG⟩ := At.many [(0, .int .i64 tc), (1, .int .i64 tr), (2, .string tv), (3, .slice A5 n5 c5)] hR
      dsimp only [setMany, setL, List.set] at hmR hG
      have hmG := mod_one hG
      replace h := h.cell hR (by decide) (by decide) (by decide) (by decide) (by decide) hmG
      replace hm := hm.step hmG (fun i o hi _ e => absurd e (by omega))
      replace hown := own_mod hown hmG (fun i o ho _ hit e => isT_at hR ho hit (by decide) e)
      have HH := Lib.hid h
      have HM := Lib.hid hm
      have HOW := Lib.hid hown
      have HRR := Lib.hid hmR
      clear h hm hown hG hmG hm12 hR hmR
      go_wp2_with fail
      obtain ⟨⟨u0, u1, u2, u3⟩, _⟩ := at4 HRR.out
      exact bodyPost_ret (v := .agg #[.int .i64 tc, .int .i64 tr, .string tv, .slice A5 n5 c5]) (by simp [results, Tryz.results18, go_sem, u0, u1, u2, u3]) rfl ⟨A5, n5, c5, rfl, own_lower HOW.out (Nat.le_refl _), HM.out, HH.out⟩
  ·
    skip
    go_simp
    obtain ⟨hnew, hbn⟩ := one_at v1 115 [.string ⟨#[]⟩, .string ⟨#[]⟩, .int .i64 0, .bool false]
    refine hK.out _ _ (hbn) ?_
    clear hK K
    try simp only [Act.put, List.getElem_toArray, List.getElem_cons_succ, List.getElem_cons_zero, List.setIfInBounds_toArray, List.set_cons_zero, List.set_cons_succ]
    have hg13 := hB2
    replace h := h.step hbn
    replace hm := hm.below hbn
    replace hR := hR.step hbn
    try replace h12 := h12.step hbn
    try replace h13 := h13.step hbn
    try replace hown := own_below (show World.ownsRow _ _ _ _ _ _ _ from hown) hbn
    have hbs := hbn.size
    replace hB2 := Nat.le_trans hB2 hbs
    clear hbn hbs
    have h13 := hnew
    clear hnew
    generalize World.alloc v1 _ = v2 at *
    generalize v1.heap.size = g13 at *
    refine stage_two 5 10 (by kernel_rfl) rfl rfl (by kernel_rfl) (by kernel_rfl) (fun K hK => ?_) (fun K hK => ?_)
    ·
      skip
      go_simp
      refine (HPL _ h.st).mono ?_
      rintro z v3 ⟨A5, n5, c5, rfl, hown5, hbn⟩
      refine hK.out _ _ (hbn) ?_
      clear hK K
      try simp only [Act.put, List.getElem_toArray, List.getElem_cons_succ, List.getElem_cons_zero, List.setIfInBounds_toArray, List.set_cons_zero, List.set_cons_succ]
      have hown := own_lower (show World.ownsRow _ _ _ _ _ _ _ from hown5) hB2
      clear hown5
      replace h := h.step hbn
      replace hm := hm.below hbn
      replace hR := hR.step hbn
      try replace h12 := h12.step hbn
      try replace h13 := h13.step hbn
      have hbs := hbn.size
      replace hB2 := Nat.le_trans hB2 hbs
      clear hbn hbs
      refine stage_read (i := 6) (v := ?_) rfl (by kernel_rfl) (by kernel_rfl) (by kernel_rfl) (by kernel_rfl) (by kernel_rfl) (by kernel_rfl) (fun _ _ _ h => h) (Or.inl ⟨by kernel_rfl, ?_⟩) ?_
      rotate_left
      · (intro wS hwS; obtain ⟨hcS, hfS, hhS⟩ := bcell hwS; go_simp; try (first | (with_reducible rfl) | rw [if_pos (by omega)] | rw [if_neg (by omega)]))
      try simp only [Act.put, List.getElem_toArray, List.getElem_cons_succ, List.getElem_cons_zero, List.setIfInBounds_toArray, List.set_cons_zero, List.set_cons_succ]
      refine stage_read (i := 7) (v := ?_) rfl (by kernel_rfl) (by kernel_rfl) (by kernel_rfl) (by kernel_rfl) (by kernel_rfl) (by kernel_rfl) (fun _ _ _ h => h) (Or.inl ⟨by kernel_rfl, ?_⟩) ?_
      rotate_left
      · (intro wS hwS; obtain ⟨hcS, hfS, hhS⟩ := bcell hwS; go_simp; try (first | (with_reducible rfl) | rw [if_pos (by omega)] | rw [if_neg (by omega)]))
      try simp only [Act.put, List.getElem_toArray, List.getElem_cons_succ, List.getElem_cons_zero, List.setIfInBounds_toArray, List.set_cons_zero, List.set_cons_succ]
      refine stage_pure (i := 8) (v := ?_) rfl (by kernel_rfl) (by kernel_rfl) (by kernel_rfl) (by kernel_rfl) (by kernel_rfl) (fun _ _ _ h => h) (Or.inl ⟨by kernel_rfl, ?_⟩) ?_
      rotate_left
      · (intro wS; go_simp; try (first | (with_reducible rfl) | rw [if_pos (by omega)] | rw [if_neg (by omega)]))
      try simp only [Act.put, List.getElem_toArray, List.getElem_cons_succ, List.getElem_cons_zero, List.setIfInBounds_toArray, List.set_cons_zero, List.set_cons_succ]
      refine stage_pure (i := 9) (v := ?_) rfl (by kernel_rfl) (by kernel_rfl) (by kernel_rfl) (by kernel_rfl) (by kernel_rfl) (fun _ _ _ h => h) (Or.inl ⟨by kernel_rfl, ?_⟩) ?_
      rotate_left
      · (intro wS; go_simp; try (first | (with_reducible rfl) | rw [if_pos (by omega)] | rw [if_neg (by omega)]))
      try simp only [Act.put, List.getElem_toArray, List.getElem_cons_succ, List.getElem_cons_zero, List.setIfInBounds_toArray, List.set_cons_zero, List.set_cons_succ]
      refine stage_one 10 (by kernel_rfl) rfl (by kernel_rfl) (fun K hK => ?_)
      go_simp
      obtain ⟨hnew, hbn⟩ := one_at v3 58 [.int .i64 0, .int .i64 0, .string ⟨#[]⟩, .slice none 0 0]
      refine hK.out _ _ (hbn) ?_
      clear hK K
      try simp only [Act.put, List.getElem_toArray, List.getElem_cons_succ, List.getElem_cons_zero, List.setIfInBounds_toArray, List.set_cons_zero, List.set_cons_succ]
      have hg12 := hB2
      have hq12 := hR.lt
      replace h := h.step hbn
      replace hm := hm.below hbn
      replace hR := hR.step hbn
      try replace h12 := h12.step hbn
      try replace h13 := h13.step hbn
      try replace hown := own_below (show World.ownsRow _ _ _ _ _ _ _ from hown) hbn
      have hbs := hbn.size
      replace hB2 := Nat.le_trans hB2 hbs
      clear hbn hbs
      have h12 := hnew
      clear hnew
      generalize World.alloc v3 _ = v4 at *
      generalize v3.heap.size = g12 at *
      obtain ⟨⟨z0, z1, z2, z3⟩, zf0, zf1, zf2, zf3⟩ := at4 h12
      have l12 := h12.lt

      refine stage_end (by kernel_rfl) rfl (fun K hK => ?_)
      go_simp
      refine hK.out _ _ ?_
      clear hK K
      try simp only [Act.put, List.getElem_toArray, List.getElem_cons_succ, List.getElem_cons_zero, List.setIfInBounds_toArray, List.set_cons_zero, List.set_cons_succ]
      obtain ⟨hm12, hG⟩ := At.many [(0, .int .i64 tc), (1, .int .i64 tr), (2, .string tv), (3, .slice A5 n5 c5)] h12
      dsimp only [setMany, setL, List.set] at hm12 hG
      have hmG := mod_one hG
      replace h := h.cell h12 (by decide) (by decide) (by decide) (by decide) (by decide) hmG
      replace hm := hm.step hmG (fun i o hi _ e => absurd e (by omega))
      replace hR := hmG.at hR (by omega)
      replace h13 := hmG.at h13 (At.ne h13 h12 (by decide))
      replace hown := own_mod hown hmG (fun i o ho _ hit e => isT_at h12 ho hit (by decide) e)
      replace hB2 := Nat.le_trans hB2 hmG.size
      clear z0 z1 z2 z3 zf0 zf1 zf2 zf3 l12 hG hmG h12
      generalize World.setCell _ _ _ = v11 at *
      obtain ⟨⟨z0, z1, z2, z3⟩, zf0, zf1, zf2, zf3⟩ := at4 h13
      have l13 := h13.lt
      refine stage 13 ?_

      refine stage_end (by kernel_rfl) rfl (fun K hK => ?_)
      go_simp
      refine hK.out _ _ ?_
      clear hK K
      try simp only [Act.put, List.getElem_toArray, List.getElem_cons_succ, List.getElem_cons_zero, List.setIfInBounds_toArray, List.set_cons_zero, List.set_cons_succ]
      first | refine stage 1000000 ?_ | skip
      refine stage_read (i := 14) (v := ?_) rfl (by kernel_rfl) (by kernel_rfl) (by kernel_rfl) (by kernel_rfl) (by kernel_rfl) (by kernel_rfl) (fun _ _ _ h => h) (Or.inl ⟨by kernel_rfl, ?_⟩) ?_
      rotate_left
      · (intro wS hwS; obtain ⟨hcS, hfS, hhS⟩ := bcell hwS; go_simp; try (first | (with_reducible rfl) | rw [if_pos (by omega)] | rw [if_neg (by omega)]))
      try simp only [Act.put, List.getElem_toArray, List.getElem_cons_succ, List.getElem_cons_zero, List.setIfInBounds_toArray, List.set_cons_zero, List.set_cons_succ]
      first | refine wpAnyT_done (by kernel_rfl) ?_ _ | refine wpAny_done (by kernel_rfl) ?_ _
      obtain ⟨hm13, hG⟩ := At.many [(0, .string ek), (1, .string evv), (2, .int .i64 er), (3, .bool eg)] h13
      dsimp only [setMany, setL, List.set] at hm13 hG
      have hmG := mod_one hG
      replace h := h.cell h13 (by decide) (by decide) (by decide) (by decide) (by decide) hmG
      replace hm := hm.step hmG (fun i o hi _ e => absurd e (by omega))
      replace hR := hmG.at hR (At.ne hR h13 (by decide))
      replace hm12 := hmG.at hm12 (At.ne hm12 h13 (by decide))
      replace hown := own_mod hown hmG (fun i o ho _ hit e => isT_at h13 ho hit (by decide) e)
      replace hB2 := Nat.le_trans hB2 hmG.size
      clear z0 z1 z2 z3 zf0 zf1 zf2 zf3 l13 hG hmG h13
      generalize World.setCell _ _ _ = v12 at *
      obtain ⟨⟨e0, e1, e2, e3⟩, ef⟩ := at4 hm13
      have HW := HWR v12 h
      go_upto_region 10 with (((with_reducible refine (HW).mono ?_); rintro z v13 ⟨rfl, hmW, hW⟩))
      replace hm12 := h.far hm12 (by decide) (by decide) (by decide) (by decide) hmW
      replace hR := h.far hR (by decide) (by decide) (by decide) (by decide) hmW
      replace hown := own_mod hown hmW (fun i o ho _ hit => h.farT ho hit (by decide) (by decide) (by decide) (by decide))
      replace hm := hm.trans hmW
      replace hB2 := Nat.le_trans hB2 hmW.size
      clear HW HWR h hmW e0 e1 e2 e3 ef hm13
      have h := hW
      clear hW
      obtain ⟨⟨z0, z1, z2, z3⟩, zf0, zf1, zf2, zf3⟩ := at4 hm12
      obtain ⟨⟨r0, r1, r2, r3⟩, rf0, rf1, rf2, rf3⟩ := at4 hR
      obtain ⟨hmR, hG⟩ := At.many [(0, .int .i64 tc), (1, .int .i64 tr), (2, .string tv), (3, .slice A5 n5 c5)] hR
      dsimp only [setMany, setL, List.set] at hmR hG
      have hmG := mod_one hG
      replace h := h.cell hR (by decide) (by decide) (by decide) (by decide) (by decide) hmG
      replace hm := hm.step hmG (fun i o hi _ e => absurd e (by omega))
      replace hown := own_mod hown hmG (fun i o ho _ hit e => isT_at hR ho hit (by decide) e)
      have HH := Lib.hid h
      have HM := Lib.hid hm
      have HOW := Lib.hid hown
      have HRR := Lib.hid hmR
      clear h hm hown hG hmG hm12 hR hmR
      go_wp2_with fail
      obtain ⟨⟨u0, u1, u2, u3⟩, _⟩ := at4 HRR.out
      exact bodyPost_ret (v := .agg #[.int .i64 tc, .int .i64 tr, .string tv, .slice A5 n5 c5]) (by simp [results, Tryz.results18, go_sem, u0, u1, u2, u3]) rfl ⟨A5, n5, c5, rfl, own_lower HOW.out (Nat.le_refl _), HM.out, HH.out⟩
    ·
      skip
      go_simp
      obtain ⟨hnew, hbn⟩ := one_at v2 58 [.int .i64 0, .int .i64 0, .string ⟨#[]⟩, .slice none 0 0]
      refine hK.out _ _ (hbn) ?_
      clear hK K
      try simp only [Act.put, List.getElem_toArray, List.getElem_cons_succ, List.getElem_cons_zero, List.setIfInBounds_toArray, List.set_cons_zero, List.set_cons_succ]
      have hg12 := hB2
      have hq12 := hR.lt
      replace h := h.step hbn
      replace hm := hm.below hbn
      replace hR := hR.step hbn
      try replace h12 := h12.step hbn
      try replace h13 := h13.step hbn
      try replace hown := own_below (show World.ownsRow _ _ _ _ _ _ _ from hown) hbn
      have hbs := hbn.size
      replace hB2 := Nat.le_trans hB2 hbs
      clear hbn hbs
      have h12 := hnew
      clear hnew
      generalize World.alloc v2 _ = v3 at *
      generalize v2.heap.size = g12 at *
      refine stage_one 5 (by kernel_rfl) rfl (by kernel_rfl) (fun K hK => ?_)
      go_simp
      refine (HPL _ h.st).mono ?_
      rintro z v4 ⟨A5, n5, c5, rfl, hown5, hbn⟩
      refine hK.out _ _ (hbn) ?_
      clear hK K
      try simp only [Act.put, List.getElem_toArray, List.getElem_cons_succ, List.getElem_cons_zero, List.setIfInBounds_toArray, List.set_cons_zero, List.set_cons_succ]
      have hown := own_lower (show World.ownsRow _ _ _ _ _ _ _ from hown5) hB2
      clear hown5
      replace h := h.step hbn
      replace hm := hm.below hbn
      replace hR := hR.step hbn
      try replace h12 := h12.step hbn
      try replace h13 := h13.step hbn
      have hbs := hbn.size
      replace hB2 := Nat.le_trans hB2 hbs
      clear hbn hbs
      refine stage_read (i := 6) (v := ?_) rfl (by kernel_rfl) (by kernel_rfl) (by kernel_rfl) (by kernel_rfl) (by kernel_rfl) (by kernel_rfl) (fun _ _ _ h => h) (Or.inl ⟨by kernel_rfl, ?_⟩) ?_
      rotate_left
      · (intro wS hwS; obtain ⟨hcS, hfS, hhS⟩ := bcell hwS; go_simp; try (first | (with_reducible rfl) | rw [if_pos (by omega)] | rw [if_neg (by omega)]))
      try simp only [Act.put, List.getElem_toArray, List.getElem_cons_succ, List.getElem_cons_zero, List.setIfInBounds_toArray, List.set_cons_zero, List.set_cons_succ]
      refine stage_read (i := 7) (v := ?_) rfl (by kernel_rfl) (by kernel_rfl) (by kernel_rfl) (by kernel_rfl) (by kernel_rfl) (by kernel_rfl) (fun _ _ _ h => h) (Or.inl ⟨by kernel_rfl, ?_⟩) ?_
      rotate_left
      · (intro wS hwS; obtain ⟨hcS, hfS, hhS⟩ := bcell hwS; go_simp; try (first | (with_reducible rfl) | rw [if_pos (by omega)] | rw [if_neg (by omega)]))
      try simp only [Act.put, List.getElem_toArray, List.getElem_cons_succ, List.getElem_cons_zero, List.setIfInBounds_toArray, List.set_cons_zero, List.set_cons_succ]
      refine stage_pure (i := 8) (v := ?_) rfl (by kernel_rfl) (by kernel_rfl) (by kernel_rfl) (by kernel_rfl) (by kernel_rfl) (fun _ _ _ h => h) (Or.inl ⟨by kernel_rfl, ?_⟩) ?_
      rotate_left
      · (intro wS; go_simp; try (first | (with_reducible rfl) | rw [if_pos (by omega)] | rw [if_neg (by omega)]))
      try simp only [Act.put, List.getElem_toArray, List.getElem_cons_succ, List.getElem_cons_zero, List.setIfInBounds_toArray, List.set_cons_zero, List.set_cons_succ]
      refine stage_pure (i := 9) (v := ?_) rfl (by kernel_rfl) (by kernel_rfl) (by kernel_rfl) (by kernel_rfl) (by kernel_rfl) (fun _ _ _ h => h) (Or.inl ⟨by kernel_rfl, ?_⟩) ?_
      rotate_left
      · (intro wS; go_simp; try (first | (with_reducible rfl) | rw [if_pos (by omega)] | rw [if_neg (by omega)]))
      try simp only [Act.put, List.getElem_toArray, List.getElem_cons_succ, List.getElem_cons_zero, List.setIfInBounds_toArray, List.set_cons_zero, List.set_cons_succ]
      obtain ⟨⟨z0, z1, z2, z3⟩, zf0, zf1, zf2, zf3⟩ := at4 h12
      have l12 := h12.lt

      refine stage_end (by kernel_rfl) rfl (fun K hK => ?_)
      go_simp
      refine hK.out _ _ ?_
      clear hK K
      try simp only [Act.put, List.getElem_toArray, List.getElem_cons_succ, List.getElem_cons_zero, List.setIfInBounds_toArray, List.set_cons_zero, List.set_cons_succ]
      obtain ⟨hm12, hG⟩ := At.many [(0, .int .i64 tc), (1, .int .i64 tr), (2, .string tv), (3, .slice A5 n5 c5)] h12
      dsimp only [setMany, setL, List.set] at hm12 hG
      have hmG := mod_one hG
      replace h := h.cell h12 (by decide) (by decide) (by decide) (by decide) (by decide) hmG
      replace hm := hm.step hmG (fun i o hi _ e => absurd e (by omega))
      replace hR := hmG.at hR (by omega)
      replace h13 := hmG.at h13 (At.ne h13 h12 (by decide))
      replace hown := own_mod hown hmG (fun i o ho _ hit e => isT_at h12 ho hit (by decide) e)
      replace hB2 := Nat.le_trans hB2 hmG.size
      clear z0 z1 z2 z3 zf0 zf1 zf2 zf3 l12 hG hmG h12
      generalize World.setCell _ _ _ = v11 at *
      obtain ⟨⟨z0, z1, z2, z3⟩, zf0, zf1, zf2, zf3⟩ := at4 h13
      have l13 := h13.lt
      refine stage 13 ?_

      refine stage_end (by kernel_rfl) rfl (fun K hK => ?_)
      go_simp
      refine hK.out _ _ ?_
      clear hK K
      try simp only [Act.put, List.getElem_toArray, List.getElem_cons_succ, List.getElem_cons_zero, List.setIfInBounds_toArray, List.set_cons_zero, List.set_cons_succ]
      first | refine stage 1000000 ?_ | skip
      refine stage_read (i := 14) (v := ?_) rfl (by kernel_rfl) (by kernel_rfl) (by kernel_rfl) (by kernel_rfl) (by kernel_rfl) (by kernel_rfl) (fun _ _ _ h => h) (Or.inl ⟨by kernel_rfl, ?_⟩) ?_
      rotate_left
      · (intro wS hwS; obtain ⟨hcS, hfS, hhS⟩ := bcell hwS; go_simp; try (first | (with_reducible rfl) | rw [if_pos (by omega)] | rw [if_neg (by omega)]))
      try simp only [Act.put, List.getElem_toArray, List.getElem_cons_succ, List.getElem_cons_zero, List.setIfInBounds_toArray, List.set_cons_zero, List.set_cons_succ]
      first | refine wpAnyT_done (by kernel_rfl) ?_ _ | refine wpAny_done (by kernel_rfl) ?_ _
      obtain ⟨hm13, hG⟩ := At.many [(0, .string ek), (1, .string evv), (2, .int .i64 er), (3, .bool eg)] h13
      dsimp only [setMany, setL, List.set] at hm13 hG
      have hmG := mod_one hG
      replace h := h.cell h13 (by decide) (by decide) (by decide) (by decide) (by decide) hmG
      replace hm := hm.step hmG (fun i o hi _ e => absurd e (by omega))
      replace hR := hmG.at hR (At.ne hR h13 (by decide))
      replace hm12 := hmG.at hm12 (At.ne hm12 h13 (by decide))
      replace hown := own_mod hown hmG (fun i o ho _ hit e => isT_at h13 ho hit (by decide) e)
      replace hB2 := Nat.le_trans hB2 hmG.size
      clear z0 z1 z2 z3 zf0 zf1 zf2 zf3 l13 hG hmG h13
      generalize World.setCell _ _ _ = v12 at *
      obtain ⟨⟨e0, e1, e2, e3⟩, ef⟩ := at4 hm13
      have HW := HWR v12 h
      go_upto_region 10 with (((with_reducible refine (HW).mono ?_); rintro z v13 ⟨rfl, hmW, hW⟩))
      replace hm12 := h.far hm12 (by decide) (by decide) (by decide) (by decide) hmW
      replace hR := h.far hR (by decide) (by decide) (by decide) (by decide) hmW
      replace hown := own_mod hown hmW (fun i o ho _ hit => h.farT ho hit (by decide) (by decide) (by decide) (by decide))
      replace hm := hm.trans hmW
      replace hB2 := Nat.le_trans hB2 hmW.size
      clear HW HWR h hmW e0 e1 e2 e3 ef hm13
      have h := hW
      clear hW
      obtain ⟨⟨z0, z1, z2, z3⟩, zf0, zf1, zf2, zf3⟩ := at4 hm12
      obtain ⟨⟨r0, r1, r2, r3⟩, rf0, rf1, rf2, rf3⟩ := at4 hR
      obtain ⟨hmR, hG⟩ := At.many [(0, .int .i64 tc), (1, .int .i64 tr), (2, .string tv), (3, .slice A5 n5 c5)] hR
      dsimp only [setMany, setL, List.set] at hmR hG
      have hmG := mod_one hG
      replace h := h.cell hR (by decide) (by decide) (by decide) (by decide) (by decide) hmG
      replace hm := hm.step hmG (fun i o hi _ e => absurd e (by omega))
      replace hown := own_mod hown hmG (fun i o ho _ hit e => isT_at hR ho hit (by decide) e)
      have HH := Lib.hid h
      have HM := Lib.hid hm
      have HOW := Lib.hid hown
      have HRR := Lib.hid hmR
      clear h hm hown hG hmG hm12 hR hmR
      go_wp2_with fail
      obtain ⟨⟨u0, u1, u2, u3⟩, _⟩ := at4 HRR.out
      exact bodyPost_ret (v := .agg #[.int .i64 tc, .int .i64 tr, .string tv, .slice A5 n5 c5]) (by simp [results, Tryz.results18, go_sem, u0, u1, u2, u3]) rfl ⟨A5, n5, c5, rfl, own_lower HOW.out (Nat.le_refl _), HM.out, HH.out⟩
end
end Go.Proofs.YtnkjekkdndjfaaaGreat
