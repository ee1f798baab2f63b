
/- Chapter 11: Do. -/
import Derived.Test.YtnkjekkdndjfaaaGreatStoA
namespace Go.Proofs.YtnkjekkdndjfaaaGreat
set_option linter.unusedVariables false
set_option linter.unusedSimpArgs false
open Go.RowKit
section
variable {P : Program} {ops : Array Oper} {Q : Exit → Act → World → Prop} {md : Region.Mode} {b : Nat}
theorem stage_three (i j k : Nat) {w : World} {fuel : Nat} {listed : Array Bool} {a : Act} {oi oj ok : Oper} (hr : Region.ready md ops listed = [i, j, k]) (hoi : ops[i]? = some oi) (hoj : ops[j]? = some oj) (hok : ops[k]? = some ok) (hib : (i == b) = false) (hjb : (j == b) = false) (hkb : (k == b) = false)
    (h1 : ∀ K' : Act → World → Prop, Shut (∀ a w', Below w.heap.size w w' → wpAnyT P md ops Q (Till w') b fuel (listed.setIfInBounds i true) a w' → K' a w') → if Region.wanted oi (yielded ops a.tmps) = true then Oper.wp P oi a w K' Q else K' (a.put oi.dst undef) w)
    (h2 : ∀ K' : Act → World → Prop, Shut (∀ a w', Below w.heap.size w w' → wpAnyT P md ops Q (Till w') b fuel (listed.setIfInBounds j true) a w' → K' a w') → if Region.wanted oj (yielded ops a.tmps) = true then Oper.wp P oj a w K' Q else K' (a.put oj.dst undef) w)
    (h3 : ∀ K' : Act → World → Prop, Shut (∀ a w', Below w.heap.size w w' → wpAnyT P md ops Q (Till w') b fuel (listed.setIfInBounds k true) a w' → K' a w') → if Region.wanted ok (yielded ops a.tmps) = true then Oper.wp P ok a w K' Q else K' (a.put ok.dst undef) w) :
    wpAnyT P md ops Q (Till w) b (fuel + 1) listed a w := by
  refine ⟨fun h0 => (by rw [h0] at hr; cases hr), fun n hn => ?_⟩
  rw [hr] at hn
  simp only [List.mem_cons, List.not_mem_nil, or_false] at hn
  have hi : ¬ i = b := by simpa using hib
  have hj : ¬ j = b := by simpa using hjb
  have hk : ¬ k = b := by simpa using hkb
  rcases hn with rfl | rfl | rfl
  · exact wpOp_step hoi fun K' hK => h1 K' fun a w' hb hw => hK a w' (by
      rw [if_neg hi]
      exact ⟨hb, wpAnyT_mono (fun w2 h2 => hb.trans (Below.mono h2 hb.size)) _ _ _ _ hw⟩)
  · exact wpOp_step hoj fun K' hK => h2 K' fun a w' hb hw => hK a w' (by
      rw [if_neg hj]
      exact ⟨hb, wpAnyT_mono (fun w2 h2 => hb.trans (Below.mono h2 hb.size)) _ _ _ _ hw⟩)
  · exact wpOp_step hok fun K' hK => h3 K' fun a w' hb hw => hK a w' (by
      rw [if_neg hk]
      exact ⟨hb, wpAnyT_mono (fun w2 h2 => hb.trans (Below.mono h2 hb.size)) _ _ _ _ hw⟩)
end
section
variable {w w' : World} {gs gd bd N gst bst Ns gl M K : Nat} {d : PD} {s : SL} {sz ev since : Int} {ld dead : Bool} {N2 : Nat} {d2 : PD} {sz2 : Int} {ld2 : Bool} {N3 Ns3 : Nat} {d3 : PD} {s3 : SL} {sz3 since3 : Int} {ld3 dead3 wb : Bool}
theorem IsSto.farT (h : IsSto w gs gd bd N gst bst Ns gl d s sz ld ev since dead) {i : Nat} {o : Obj} {t : TypeId} (ho : w.heap[i]? = some o) (hit : IsT t o) (h1 : t ≠ 107) (h2 : t ≠ 136) (h3 : t ≠ 92) (h4 : t ≠ 146) : ¬ M6 gs gd bd gst bst gl i o := by
  have n := h.dk.free ho hit h3
  have n1 := isT_at h.blk ho hit h1
  have n2 := isT_at h.lg ho hit h2
  have n3 := isT_at h.st.at_ ho hit h4
  have n4 := h.st.mp.no_t ho hit
  unfold M6
  omega
theorem IsSto.far (h : IsSto w gs gd bd N gst bst Ns gl d s sz ld ev since dead) {g : Nat} {cs : List Value} {t : TypeId} (hx : At w g t cs) (h1 : t ≠ 107) (h2 : t ≠ 136) (h3 : t ≠ 92) (h4 : t ≠ 146) (hm : Mod (M6 gs gd bd gst bst gl) w w') : At w' g t cs :=
  hm.at hx (h.farT hx rfl h1 h2 h3 h4)
/-- another block of cells is turned -/
theorem IsSto.cell (h : IsSto w gs gd bd N gst bst Ns gl d s sz ld ev since dead) {g : Nat} {cs : List Value} {t : TypeId} (hx : At w g t cs) (h1 : t ≠ 107) (h2 : t ≠ 136) (h3 : t ≠ 92) (h4 : t ≠ 146) (h5 : t ≠ 5) (hm : Mod (fun i _ => i = g) w w') : IsSto w' gs gd bd N gst bst Ns gl d s sz ld ev since dead :=
  ⟨hm.at h.blk (At.ne h.blk hx (fun e => h1 e.symm)), h.dk.other hx h3 h5 hm, h.st.cell hx h4 hm, hm.at h.lg (At.ne h.lg hx (fun e => h2 e.symm)), h.ne⟩
def DOg (w w' : World) (p : Told) (Post : World → Prop) (x : Ending) : Prop :=
  ∃ A n c, x = .returned (.agg #[.int .i64 p.code, .int .i64 p.rev, .string p.val, .slice A n c]) ∧ OwnI w' w.heap.size A n c p.items ∧ Post w'

def lostT : Told := ⟨12, 0, ⟨#[]⟩, []⟩
theorem slost_any (w : World) : Calls Tryz.prog 42 #[] w fun x w' => x = .returned (.agg #[.int .i64 12, .int .i64 0, .string ⟨#[]⟩, .slice none 0 0]) ∧ Below w.heap.size w w' := by
  obtain ⟨h0, hb⟩ := one_at w 58 [.int .i64 0, .int .i64 0, .string ⟨#[]⟩, .slice none 0 0]
  go_enter Tryz.func42, Tryz.ntmps42
  go_upto_region 1 with fail
  generalize World.alloc w _ = w1 at *
  obtain ⟨⟨x0, x1, x2, x3⟩, xf0, xf1, xf2, xf3⟩ := at4 h0
  obtain ⟨hR, hG⟩ := At.many [(0, .int .i64 12), (1, .int .i64 0), (2, .string ⟨#[]⟩), (3, .slice none 0 0)] h0
  dsimp only [setMany, setL, List.set] at hR hG
  have HB := Lib.hid ((Below.refl w.heap.size w).trans (hb.trans (below_mod (mod_one hG) (fun i o hi e => by omega) hb.size)))
  have HR := Lib.hid hR
  clear hR hG h0 hb
  go_wp2_with fail
  obtain ⟨⟨u0, u1, u2, u3⟩, _⟩ := at4 HR.out
  exact bodyPost_ret (v := .agg #[.int .i64 12, .int .i64 0, .string ⟨#[]⟩, .slice none 0 0]) (by simp [results, Tryz.results42, go_sem, u0, u1, u2, u3]) rfl ⟨rfl, HB.out⟩
set_option maxRecDepth 100000 in
set_option maxHeartbeats 8000000 in
theorem sdo_go (o : Ask) (w : World) (h : IsSto w gs gd bd N gst bst Ns gl d s sz ld ev since false) (hlt : since < ev) (hNs : Ns < 800000) (hk : Ks s) (hks : o.key.size ≤ maxLen) (his : o.iff.size ≤ maxLen)
    (HWR : (planP s.rev s.l o).wr = true → ∀ v, IsSto v gs gd bd N gst bst Ns gl d s sz ld ev since false → Calls Tryz.prog 44 #[.pointer (some ⟨gs, 0, none⟩), (planP s.rev s.l o).eff.val] v fun x w' => x = .returned (.bool wb) ∧ Mod (M6 gs gd bd gst bst gl) v w' ∧ IsSto w' gs gd bd N3 gst bst Ns3 gl d3 s3 sz3 ld3 ev since3 dead3)
    (HNW : (planP s.rev s.l o).wr = false → wb = true ∧ ∀ v, IsSto v gs gd bd N gst bst Ns gl d s sz ld ev since false → IsSto v gs gd bd N3 gst bst Ns3 gl d3 s3 sz3 ld3 ev since3 dead3) :
    Calls Tryz.prog 18 #[.pointer (some ⟨gs, 0, none⟩), o.v] w fun x w' => DOg w w' (cond wb (planP s.rev s.l o).told lostT) (fun w' => Mod (M6 gs gd bd gst bst gl) w w' ∧ IsSto w' gs gd bd N3 gst bst Ns3 gl d3 s3 sz3 ld3 ev since3 dead3) x := by
  have HPL := fun v (h : IsSt v gst bst Ns s.rev s.l) => plan_any o v h (by omega) hk.sizes hks his
  obtain ⟨p, hp⟩ : ∃ p, planP s.rev s.l o = p := ⟨_, rfl⟩
  rw [hp] at HPL HWR HNW ⊢
  clear hp hk hks his
  obtain ⟨⟨tc, tr, tv, ti⟩, ⟨ek, evv, er, eg⟩, wr⟩ := p
  unfold PlanR at HPL
  unfold Eff.val Eff.cells at HWR
  simp only at HPL HWR HNW ⊢
  obtain ⟨ki, k, vl, r, i, j⟩ := o
  unfold Ask.v Ask.cells at HPL ⊢
  simp only at HPL ⊢
  obtain ⟨h0, hR, hb⟩ := two_at w 49 [.int .i64 ki, .string k, .string vl, .int .i64 r, .string i, .int .i64 j] 58 [.int .i64 0, .int .i64 0, .string ⟨#[]⟩, .slice none 0 0]
  replace h := h.step hb
  have hm : Mod (M6 gs gd bd gst bst gl) w _ := (Mod.refl _ w).below hb
  have hB2 := hb.size
  have hd5 : decide (ev ≤ since) = false := decide_eq_false (by omega)
  go_enter Tryz.func18, Tryz.ntmps18
  go_upto_region 1 with fail
  generalize World.alloc (World.alloc w _) _ = w1 at *
  obtain ⟨gR, hgRe⟩ : ∃ gR, w.heap.size + 1 = gR := ⟨_, rfl⟩
  rw [hgRe] at hR ⊢
  have hgR : w.heap.size ≤ gR := by omega
  clear hgRe hb
  obtain ⟨⟨x0, x1, x2, x3, x4, x5⟩, xf⟩ := at6 h.blk
  obtain ⟨⟨y0, y1, y2, y3, y4, y5⟩, yf⟩ := at6 h0
  go_upto_region 5 with fail
  refine region_any (by kernel_rfl) ?_
  change wpAny _ _ _ _ _ _ _ (World.drew _)
  replace h := h.drew
  replace hm := hm.drew
  replace hR := At.drew hR
  replace h0 := At.drew h0
  clear x0 x1 x2 x3 x4 x5 xf y0 y1 y2 y3 y4 y5 yf
  replace hB2 : w.heap.size ≤ (World.drew w1).heap.size := hB2
  generalize World.drew _ = w2 at *
  obtain ⟨⟨x0, x1, x2, x3, x4, x5⟩, xf⟩ := at6 h.blk
  obtain ⟨⟨y0, y1, y2, y3, y4, y5⟩, yf⟩ := at6 h0
  have l1 := h.blk.lt
  have l0 := h0.lt
  refine stage 100000 ?_
  refine tag [0,1,2,3,4,5,6,7,8,9] ?_
  iterate 10 (
    refine sR (v := ?_) rfl (by kernel_rfl) (fun _ _ _ h => h) (Or.inl ⟨by kernel_rfl, ?_⟩) ?_
    rotate_left
    · (intro wS hwS; obtain ⟨hcS, hfS, hhS⟩ := bcell hwS; go_simp; try (first | (with_reducible rfl) | rw [if_pos (by omega)] | rw [if_neg (by omega)]))
    try simp only [PT])
  refine tagN ?_
  refine tag [10,11,12] ?_
  iterate 3 (
    refine sP (v := undef) rfl (by kernel_rfl) (fun _ _ _ h => h) (Or.inr ⟨by kernel_rfl, rfl⟩) ?_
    try simp only [PT])
  refine tagN ?_
  refine tag [13] ?_
  refine sR (v := ?_) rfl (by kernel_rfl) (fun _ _ _ h => h) (Or.inl ⟨by kernel_rfl, ?_⟩) ?_
  rotate_left
  · (intro wS hwS; obtain ⟨hcS, hfS, hhS⟩ := bcell hwS; go_simp; try (first | (with_reducible rfl) | rw [if_pos (by omega)] | rw [if_neg (by omega)]))
  try simp only [PT]
  refine tagN ?_
  first | refine wpAnyT_done (by kernel_rfl) ?_ _ | refine wpAny_done (by kernel_rfl) ?_ _
  go_upto_region 7 with fail
  clear hd5 l1 l0
  refine region_any (by kernel_rfl) ?_
  change wpAny _ _ _ _ _ _ _ (World.drew _)
  replace h := h.drew
  replace hm := hm.drew
  replace hR := At.drew hR
  replace h0 := At.drew h0
  clear x0 x1 x2 x3 x4 x5 xf y0 y1 y2 y3 y4 y5 yf
  replace hB2 : w.heap.size ≤ (World.drew w2).heap.size := hB2
  generalize World.drew _ = v1 at *
  obtain ⟨⟨x0, x1, x2, x3, x4, x5⟩, xf⟩ := at6 h.blk
  obtain ⟨⟨y0, y1, y2, y3, y4, y5⟩, yf⟩ := at6 h0
  have l1 := h.blk.lt
  have l0 := h0.lt
  refine stage 12 ?_
  refine tag [0,1,2,3,4] ?_
  iterate 5 (
    refine sR (v := ?_) rfl (by kernel_rfl) (fun _ _ _ h => h) (Or.inl ⟨by kernel_rfl, ?_⟩) ?_
    rotate_left
    · (intro wS hwS; obtain ⟨hcS, hfS, hhS⟩ := bcell hwS; go_simp; try (first | (with_reducible rfl) | rw [if_pos (by omega)] | rw [if_neg (by omega)]))
    try simp only [PT])
  refine tagN ?_
  clear x0 x1 x2 x3 x4 x5 xf y0 y1 y2 y3 y4 y5 yf l1 l0 h0
  refine stage_three 5 10 11 (by kernel_rfl) rfl rfl rfl (by kernel_rfl) (by kernel_rfl) (by kernel_rfl) (fun K hK => ?_) (fun K hK => ?_) (fun K hK => ?_)
  skip
  go_simp
  refine (HPL _ h.st).mono ?_
  rintro z v2 ⟨A5, n5, c5, rfl, hown5, hbn⟩
  refine hK.out _ _ (hbn) ?_
  clear hK K
  try simp only [PT]
  have hown := own_lower (show World.ownsRow _ _ _ _ _ _ _ from hown5) hB2
  clear hown5
  replace h := h.step hbn
  replace hm := hm.below hbn
  replace hR := hR.step hbn
  try replace h12 := h12.step hbn
  try replace h13 := h13.step hbn
  have hbs := hbn.size
  replace hB2 := Nat.le_trans hB2 hbs
  clear hbn hbs
  refine tag [6,7] ?_
  iterate 2 (
    refine sR (v := ?_) rfl (by kernel_rfl) (fun _ _ _ h => h) (Or.inl ⟨by kernel_rfl, ?_⟩) ?_
    rotate_left
    · (intro wS hwS; obtain ⟨hcS, hfS, hhS⟩ := bcell hwS; go_simp; try (first | (with_reducible rfl) | rw [if_pos (by omega)] | rw [if_neg (by omega)]))
    try simp only [PT])
  refine tagN ?_
  refine tag [8,9] ?_
  iterate 2 (
    refine sP (v := ?_) rfl (by kernel_rfl) (fun _ _ _ h => h) (Or.inl ⟨by kernel_rfl, ?_⟩) ?_
    rotate_left
    · (intro wS; go_simp; try (first | (with_reducible rfl) | rw [if_pos (by omega)] | rw [if_neg (by omega)]))
    try simp only [PT])
  refine tagN ?_
  refine stage_two 10 11 (by kernel_rfl) rfl rfl (by kernel_rfl) (by kernel_rfl) (fun K hK => ?_) (fun K hK => ?_)
  skip
  go_simp
  obtain ⟨hnew, hbn⟩ := one_at v2 58 [.int .i64 0, .int .i64 0, .string ⟨#[]⟩, .slice none 0 0]
  refine hK.out _ _ (hbn) ?_
  clear hK K
  try simp only [PT]
  have hg12 := hB2
  have hq12 := hR.lt
  replace h := h.step hbn
  replace hm := hm.below hbn
  replace hR := hR.step hbn
  try replace h12 := h12.step hbn
  try replace h13 := h13.step hbn
  try replace hown := own_below (show World.ownsRow _ _ _ _ _ _ _ from hown) hbn
  have hbs := hbn.size
  replace hB2 := Nat.le_trans hB2 hbs
  clear hbn hbs
  have h12 := hnew
  clear hnew
  generalize World.alloc v2 _ = v3 at *
  generalize v2.heap.size = g12 at *
  refine stage_one 11 (by kernel_rfl) rfl (by kernel_rfl) (fun K hK => ?_)
  go_simp
  obtain ⟨hnew, hbn⟩ := one_at v3 115 [.string ⟨#[]⟩, .string ⟨#[]⟩, .int .i64 0, .bool false]
  refine hK.out _ _ (hbn) ?_
  clear hK K
  try simp only [PT]
  have hg13 := hB2
  replace h := h.step hbn
  replace hm := hm.below hbn
  replace hR := hR.step hbn
  try replace h12 := h12.step hbn
  try replace h13 := h13.step hbn
  try replace hown := own_below (show World.ownsRow _ _ _ _ _ _ _ from hown) hbn
  have hbs := hbn.size
  replace hB2 := Nat.le_trans hB2 hbs
  clear hbn hbs
  have h13 := hnew
  clear hnew
  generalize World.alloc v3 _ = v4 at *
  generalize v3.heap.size = g13 at *
  rotate_left
  skip
  go_simp
  obtain ⟨hnew, hbn⟩ := one_at v2 115 [.string ⟨#[]⟩, .string ⟨#[]⟩, .int .i64 0, .bool false]
  refine hK.out _ _ (hbn) ?_
  clear hK K
  try simp only [PT]
  have hg13 := hB2
  replace h := h.step hbn
  replace hm := hm.below hbn
  replace hR := hR.step hbn
  try replace h12 := h12.step hbn
  try replace h13 := h13.step hbn
  try replace hown := own_below (show World.ownsRow _ _ _ _ _ _ _ from hown) hbn
  have hbs := hbn.size
  replace hB2 := Nat.le_trans hB2 hbs
  clear hbn hbs
  have h13 := hnew
  clear hnew
  generalize World.alloc v2 _ = v3 at *
  generalize v2.heap.size = g13 at *
  refine stage_one 10 (by kernel_rfl) rfl (by kernel_rfl) (fun K hK => ?_)
  go_simp
  obtain ⟨hnew, hbn⟩ := one_at v3 58 [.int .i64 0, .int .i64 0, .string ⟨#[]⟩, .slice none 0 0]
  refine hK.out _ _ (hbn) ?_
  clear hK K
  try simp only [PT]
  have hg12 := hB2
  have hq12 := hR.lt
  replace h := h.step hbn
  replace hm := hm.below hbn
  replace hR := hR.step hbn
  try replace h12 := h12.step hbn
  try replace h13 := h13.step hbn
  try replace hown := own_below (show World.ownsRow _ _ _ _ _ _ _ from hown) hbn
  have hbs := hbn.size
  replace hB2 := Nat.le_trans hB2 hbs
  clear hbn hbs
  have h12 := hnew
  clear hnew
  generalize World.alloc v3 _ = v4 at *
  generalize v3.heap.size = g12 at *
  rotate_left
  skip
  go_simp
  obtain ⟨hnew, hbn⟩ := one_at v1 58 [.int .i64 0, .int .i64 0, .string ⟨#[]⟩, .slice none 0 0]
  refine hK.out _ _ (hbn) ?_
  clear hK K
  try simp only [PT]
  have hg12 := hB2
  have hq12 := hR.lt
  replace h := h.step hbn
  replace hm := hm.below hbn
  replace hR := hR.step hbn
  try replace h12 := h12.step hbn
  try replace h13 := h13.step hbn
  try replace hown := own_below (show World.ownsRow _ _ _ _ _ _ _ from hown) hbn
  have hbs := hbn.size
  replace hB2 := Nat.le_trans hB2 hbs
  clear hbn hbs
  have h12 := hnew
  clear hnew
  generalize World.alloc v1 _ = v2 at *
  generalize v1.heap.size = g12 at *
  refine stage_two 5 11 (by kernel_rfl) rfl rfl (by kernel_rfl) (by kernel_rfl) (fun K hK => ?_) (fun K hK => ?_)
  skip
  go_simp
  refine (HPL _ h.st).mono ?_
  rintro z v3 ⟨A5, n5, c5, rfl, hown5, hbn⟩
  refine hK.out _ _ (hbn) ?_
  clear hK K
  try simp only [PT]
  have hown := own_lower (show World.ownsRow _ _ _ _ _ _ _ from hown5) hB2
  clear hown5
  replace h := h.step hbn
  replace hm := hm.below hbn
  replace hR := hR.step hbn
  try replace h12 := h12.step hbn
  try replace h13 := h13.step hbn
  have hbs := hbn.size
  replace hB2 := Nat.le_trans hB2 hbs
  clear hbn hbs
  refine tag [6,7] ?_
  iterate 2 (
    refine sR (v := ?_) rfl (by kernel_rfl) (fun _ _ _ h => h) (Or.inl ⟨by kernel_rfl, ?_⟩) ?_
    rotate_left
    · (intro wS hwS; obtain ⟨hcS, hfS, hhS⟩ := bcell hwS; go_simp; try (first | (with_reducible rfl) | rw [if_pos (by omega)] | rw [if_neg (by omega)]))
    try simp only [PT])
  refine tagN ?_
  refine tag [8,9] ?_
  iterate 2 (
    refine sP (v := ?_) rfl (by kernel_rfl) (fun _ _ _ h => h) (Or.inl ⟨by kernel_rfl, ?_⟩) ?_
    rotate_left
    · (intro wS; go_simp; try (first | (with_reducible rfl) | rw [if_pos (by omega)] | rw [if_neg (by omega)]))
    try simp only [PT])
  refine tagN ?_
  refine stage_one 11 (by kernel_rfl) rfl (by kernel_rfl) (fun K hK => ?_)
  go_simp
  obtain ⟨hnew, hbn⟩ := one_at v3 115 [.string ⟨#[]⟩, .string ⟨#[]⟩, .int .i64 0, .bool false]
  refine hK.out _ _ (hbn) ?_
  clear hK K
  try simp only [PT]
  have hg13 := hB2
  replace h := h.step hbn
  replace hm := hm.below hbn
  replace hR := hR.step hbn
  try replace h12 := h12.step hbn
  try replace h13 := h13.step hbn
  try replace hown := own_below (show World.ownsRow _ _ _ _ _ _ _ from hown) hbn
  have hbs := hbn.size
  replace hB2 := Nat.le_trans hB2 hbs
  clear hbn hbs
  have h13 := hnew
  clear hnew
  generalize World.alloc v3 _ = v4 at *
  generalize v3.heap.size = g13 at *
  rotate_left
  skip
  go_simp
  obtain ⟨hnew, hbn⟩ := one_at v2 115 [.string ⟨#[]⟩, .string ⟨#[]⟩, .int .i64 0, .bool false]
  refine hK.out _ _ (hbn) ?_
  clear hK K
  try simp only [PT]
  have hg13 := hB2
  replace h := h.step hbn
  replace hm := hm.below hbn
  replace hR := hR.step hbn
  try replace h12 := h12.step hbn
  try replace h13 := h13.step hbn
  try replace hown := own_below (show World.ownsRow _ _ _ _ _ _ _ from hown) hbn
  have hbs := hbn.size
  replace hB2 := Nat.le_trans hB2 hbs
  clear hbn hbs
  have h13 := hnew
  clear hnew
  generalize World.alloc v2 _ = v3 at *
  generalize v2.heap.size = g13 at *
  refine stage_one 5 (by kernel_rfl) rfl (by kernel_rfl) (fun K hK => ?_)
  go_simp
  refine (HPL _ h.st).mono ?_
  rintro z v4 ⟨A5, n5, c5, rfl, hown5, hbn⟩
  refine hK.out _ _ (hbn) ?_
  clear hK K
  try simp only [PT]
  have hown := own_lower (show World.ownsRow _ _ _ _ _ _ _ from hown5) hB2
  clear hown5
  replace h := h.step hbn
  replace hm := hm.below hbn
  replace hR := hR.step hbn
  try replace h12 := h12.step hbn
  try replace h13 := h13.step hbn
  have hbs := hbn.size
  replace hB2 := Nat.le_trans hB2 hbs
  clear hbn hbs
  refine tag [6,7] ?_
  iterate 2 (
    refine sR (v := ?_) rfl (by kernel_rfl) (fun _ _ _ h => h) (Or.inl ⟨by kernel_rfl, ?_⟩) ?_
    rotate_left
    · (intro wS hwS; obtain ⟨hcS, hfS, hhS⟩ := bcell hwS; go_simp; try (first | (with_reducible rfl) | rw [if_pos (by omega)] | rw [if_neg (by omega)]))
    try simp only [PT])
  refine tagN ?_
  refine tag [8,9] ?_
  iterate 2 (
    refine sP (v := ?_) rfl (by kernel_rfl) (fun _ _ _ h => h) (Or.inl ⟨by kernel_rfl, ?_⟩) ?_
    rotate_left
    · (intro wS; go_simp; try (first | (with_reducible rfl) | rw [if_pos (by omega)] | rw [if_neg (by omega)]))
    try simp only [PT])
  refine tagN ?_
  rotate_left
  skip
  go_simp
  obtain ⟨hnew, hbn⟩ := one_at v1 115 [.string ⟨#[]⟩, .string ⟨#[]⟩, .int .i64 0, .bool false]
  refine hK.out _ _ (hbn) ?_
  clear hK K
  try simp only [PT]
  have hg13 := hB2
  replace h := h.step hbn
  replace hm := hm.below hbn
  replace hR := hR.step hbn
  try replace h12 := h12.step hbn
  try replace h13 := h13.step hbn
  try replace hown := own_below (show World.ownsRow _ _ _ _ _ _ _ from hown) hbn
  have hbs := hbn.size
  replace hB2 := Nat.le_trans hB2 hbs
  clear hbn hbs
  have h13 := hnew
  clear hnew
  generalize World.alloc v1 _ = v2 at *
  generalize v1.heap.size = g13 at *
  refine stage_two 5 10 (by kernel_rfl) rfl rfl (by kernel_rfl) (by kernel_rfl) (fun K hK => ?_) (fun K hK => ?_)
  skip
  go_simp
  refine (HPL _ h.st).mono ?_
  rintro z v3 ⟨A5, n5, c5, rfl, hown5, hbn⟩
  refine hK.out _ _ (hbn) ?_
  clear hK K
  try simp only [PT]
  have hown := own_lower (show World.ownsRow _ _ _ _ _ _ _ from hown5) hB2
  clear hown5
  replace h := h.step hbn
  replace hm := hm.below hbn
  replace hR := hR.step hbn
  try replace h12 := h12.step hbn
  try replace h13 := h13.step hbn
  have hbs := hbn.size
  replace hB2 := Nat.le_trans hB2 hbs
  clear hbn hbs
  refine tag [6,7] ?_
  iterate 2 (
    refine sR (v := ?_) rfl (by kernel_rfl) (fun _ _ _ h => h) (Or.inl ⟨by kernel_rfl, ?_⟩) ?_
    rotate_left
    · (intro wS hwS; obtain ⟨hcS, hfS, hhS⟩ := bcell hwS; go_simp; try (first | (with_reducible rfl) | rw [if_pos (by omega)] | rw [if_neg (by omega)]))
    try simp only [PT])
  refine tagN ?_
  refine tag [8,9] ?_
  iterate 2 (
    refine sP (v := ?_) rfl (by kernel_rfl) (fun _ _ _ h => h) (Or.inl ⟨by kernel_rfl, ?_⟩) ?_
    rotate_left
    · (intro wS; go_simp; try (first | (with_reducible rfl) | rw [if_pos (by omega)] | rw [if_neg (by omega)]))
    try simp only [PT])
  refine tagN ?_
  refine stage_one 10 (by kernel_rfl) rfl (by kernel_rfl) (fun K hK => ?_)
  go_simp
  obtain ⟨hnew, hbn⟩ := one_at v3 58 [.int .i64 0, .int .i64 0, .string ⟨#[]⟩, .slice none 0 0]
  refine hK.out _ _ (hbn) ?_
  clear hK K
  try simp only [PT]
  have hg12 := hB2
  have hq12 := hR.lt
  replace h := h.step hbn
  replace hm := hm.below hbn
  replace hR := hR.step hbn
  try replace h12 := h12.step hbn
  try replace h13 := h13.step hbn
  try replace hown := own_below (show World.ownsRow _ _ _ _ _ _ _ from hown) hbn
  have hbs := hbn.size
  replace hB2 := Nat.le_trans hB2 hbs
  clear hbn hbs
  have h12 := hnew
  clear hnew
  generalize World.alloc v3 _ = v4 at *
  generalize v3.heap.size = g12 at *
  rotate_left
  skip
  go_simp
  obtain ⟨hnew, hbn⟩ := one_at v2 58 [.int .i64 0, .int .i64 0, .string ⟨#[]⟩, .slice none 0 0]
  refine hK.out _ _ (hbn) ?_
  clear hK K
  try simp only [PT]
  have hg12 := hB2
  have hq12 := hR.lt
  replace h := h.step hbn
  replace hm := hm.below hbn
  replace hR := hR.step hbn
  try replace h12 := h12.step hbn
  try replace h13 := h13.step hbn
  try replace hown := own_below (show World.ownsRow _ _ _ _ _ _ _ from hown) hbn
  have hbs := hbn.size
  replace hB2 := Nat.le_trans hB2 hbs
  clear hbn hbs
  have h12 := hnew
  clear hnew
  generalize World.alloc v2 _ = v3 at *
  generalize v2.heap.size = g12 at *
  refine stage_one 5 (by kernel_rfl) rfl (by kernel_rfl) (fun K hK => ?_)
  go_simp
  refine (HPL _ h.st).mono ?_
  rintro z v4 ⟨A5, n5, c5, rfl, hown5, hbn⟩
  refine hK.out _ _ (hbn) ?_
  clear hK K
  try simp only [PT]
  have hown := own_lower (show World.ownsRow _ _ _ _ _ _ _ from hown5) hB2
  clear hown5
  replace h := h.step hbn
  replace hm := hm.below hbn
  replace hR := hR.step hbn
  try replace h12 := h12.step hbn
  try replace h13 := h13.step hbn
  have hbs := hbn.size
  replace hB2 := Nat.le_trans hB2 hbs
  clear hbn hbs
  refine tag [6,7] ?_
  iterate 2 (
    refine sR (v := ?_) rfl (by kernel_rfl) (fun _ _ _ h => h) (Or.inl ⟨by kernel_rfl, ?_⟩) ?_
    rotate_left
    · (intro wS hwS; obtain ⟨hcS, hfS, hhS⟩ := bcell hwS; go_simp; try (first | (with_reducible rfl) | rw [if_pos (by omega)] | rw [if_neg (by omega)]))
    try simp only [PT])
  refine tagN ?_
  refine tag [8,9] ?_
  iterate 2 (
    refine sP (v := ?_) rfl (by kernel_rfl) (fun _ _ _ h => h) (Or.inl ⟨by kernel_rfl, ?_⟩) ?_
    rotate_left
    · (intro wS; go_simp; try (first | (with_reducible rfl) | rw [if_pos (by omega)] | rw [if_neg (by omega)]))
    try simp only [PT])
  refine tagN ?_
  rotate_left
  skip
  all_goals (
    go_simp
    obtain ⟨⟨z0, z1, z2, z3⟩, zf0, zf1, zf2, zf3⟩ := at4 h12
    have l12 := h12.lt

    refine stage_end (by kernel_rfl) rfl (fun K hK => ?_)
    go_simp
    refine hK.out _ _ ?_
    clear hK K
    try simp only [PT]
    obtain ⟨hm12, hG⟩ := At.many [(0, .int .i64 tc), (1, .int .i64 tr), (2, .string tv), (3, .slice A5 n5 c5)] h12
    dsimp only [setMany, setL, List.set] at hm12 hG
    have hmG := mod_one hG
    replace h := h.cell h12 (by decide) (by decide) (by decide) (by decide) (by decide) hmG
    replace hm := hm.step hmG (fun i o hi _ e => absurd e (by omega))
    replace hR := hmG.at hR (by omega)
    replace h13 := hmG.at h13 (At.ne h13 h12 (by decide))
    replace hown := own_mod hown hmG (fun i o ho _ hit e => isT_at h12 ho hit (by decide) e)
    replace hB2 := Nat.le_trans hB2 hmG.size
    clear z0 z1 z2 z3 zf0 zf1 zf2 zf3 l12 hG hmG h12
    generalize World.setCell _ _ _ = v11 at *
    obtain ⟨⟨z0, z1, z2, z3⟩, zf0, zf1, zf2, zf3⟩ := at4 h13
    have l13 := h13.lt
    refine stage 13 ?_

    refine stage_end (by kernel_rfl) rfl (fun K hK => ?_)
    go_simp
    refine hK.out _ _ ?_
    clear hK K
    try simp only [PT]
    first | refine stage 1000000 ?_ | skip
    refine tag [14] ?_
    refine sR (v := ?_) rfl (by kernel_rfl) (fun _ _ _ h => h) (Or.inl ⟨by kernel_rfl, ?_⟩) ?_
    rotate_left
    · (intro wS hwS; obtain ⟨hcS, hfS, hhS⟩ := bcell hwS; go_simp; try (first | (with_reducible rfl) | rw [if_pos (by omega)] | rw [if_neg (by omega)]))
    try simp only [PT]
    refine tagN ?_
    first | refine wpAnyT_done (by kernel_rfl) ?_ _ | refine wpAny_done (by kernel_rfl) ?_ _
    obtain ⟨hm13, hG⟩ := At.many [(0, .string ek), (1, .string evv), (2, .int .i64 er), (3, .bool eg)] h13
    dsimp only [setMany, setL, List.set] at hm13 hG
    have hmG := mod_one hG
    replace h := h.cell h13 (by decide) (by decide) (by decide) (by decide) (by decide) hmG
    replace hm := hm.step hmG (fun i o hi _ e => absurd e (by omega))
    replace hR := hmG.at hR (At.ne hR h13 (by decide))
    replace hm12 := hmG.at hm12 (At.ne hm12 h13 (by decide))
    replace hown := own_mod hown hmG (fun i o ho _ hit e => isT_at h13 ho hit (by decide) e)
    replace hB2 := Nat.le_trans hB2 hmG.size
    clear z0 z1 z2 z3 zf0 zf1 zf2 zf3 l13 hG hmG h13
    generalize World.setCell _ _ _ = v12 at *
    cases wr with
    | false =>
      obtain ⟨rfl, HN⟩ := HNW rfl
      replace h := HN _ h
      clear HN HNW HWR hm13
      obtain ⟨⟨z0, z1, z2, z3⟩, zf0, zf1, zf2, zf3⟩ := at4 hm12
      obtain ⟨⟨r0, r1, r2, r3⟩, rf0, rf1, rf2, rf3⟩ := at4 hR
      obtain ⟨hmR, hG⟩ := At.many [(0, .int .i64 tc), (1, .int .i64 tr), (2, .string tv), (3, .slice A5 n5 c5)] hR
      dsimp only [setMany, setL, List.set] at hmR hG
      have hmG := mod_one hG
      replace h := h.cell hR (by decide) (by decide) (by decide) (by decide) (by decide) hmG
      replace hm := hm.step hmG (fun i o hi _ e => absurd e (by omega))
      replace hown := own_mod hown hmG (fun i o ho _ hit e => isT_at hR ho hit (by decide) e)
      have HH := Lib.hid h
      have HM := Lib.hid hm
      have HOW := Lib.hid hown
      have HRR := Lib.hid hmR
      clear h hm hown hG hmG hm12 hR hmR
      go_wp2_with fail
      obtain ⟨⟨u0, u1, u2, u3⟩, _⟩ := at4 HRR.out
      exact bodyPost_ret (v := .agg #[.int .i64 tc, .int .i64 tr, .string tv, .slice A5 n5 c5]) (by simp [results, Tryz.results18, go_sem, u0, u1, u2, u3]) rfl ⟨A5, n5, c5, rfl, own_lower HOW.out (Nat.le_refl _), HM.out, HH.out⟩
    | true =>
      obtain ⟨⟨e0, e1, e2, e3⟩, ef⟩ := at4 hm13
      have HW := HWR rfl v12 h
      clear HNW HWR
      cases wb with
      | true =>
        go_upto_region 10 with (((with_reducible refine (HW).mono ?_); rintro z v13 ⟨rfl, hmW, hW⟩))
        replace hm12 := h.far hm12 (by decide) (by decide) (by decide) (by decide) hmW
        replace hown := own_mod hown hmW (fun i o ho _ hit => h.farT ho hit (by decide) (by decide) (by decide) (by decide))
        replace hR := h.far hR (by decide) (by decide) (by decide) (by decide) hmW
        replace hm := hm.trans hmW
        replace hB2 := Nat.le_trans hB2 hmW.size
        clear HW h hmW e0 e1 e2 e3 ef hm13
        have h := hW
        clear hW
        obtain ⟨⟨z0, z1, z2, z3⟩, zf0, zf1, zf2, zf3⟩ := at4 hm12
        obtain ⟨⟨r0, r1, r2, r3⟩, rf0, rf1, rf2, rf3⟩ := at4 hR
        obtain ⟨hmR, hG⟩ := At.many [(0, .int .i64 tc), (1, .int .i64 tr), (2, .string tv), (3, .slice A5 n5 c5)] hR
        dsimp only [setMany, setL, List.set] at hmR hG
        have hmG := mod_one hG
        replace h := h.cell hR (by decide) (by decide) (by decide) (by decide) (by decide) hmG
        replace hm := hm.step hmG (fun i o hi _ e => absurd e (by omega))
        replace hown := own_mod hown hmG (fun i o ho _ hit e => isT_at hR ho hit (by decide) e)
        have HH := Lib.hid h
        have HM := Lib.hid hm
        have HOW := Lib.hid hown
        have HRR := Lib.hid hmR
        clear h hm hown hG hmG hm12 hR hmR
        go_wp2_with fail
        obtain ⟨⟨u0, u1, u2, u3⟩, _⟩ := at4 HRR.out
        exact bodyPost_ret (v := .agg #[.int .i64 tc, .int .i64 tr, .string tv, .slice A5 n5 c5]) (by simp [results, Tryz.results18, go_sem, u0, u1, u2, u3]) rfl ⟨A5, n5, c5, rfl, own_lower HOW.out (Nat.le_refl _), HM.out, HH.out⟩
      | false =>
        go_upto_region 9 with (((with_reducible refine (HW).mono ?_); rintro z v13 ⟨rfl, hmW, hW⟩))
        replace hR := h.far hR (by decide) (by decide) (by decide) (by decide) hmW
        replace hm := hm.trans hmW
        replace hB2 := Nat.le_trans hB2 hmW.size
        clear HW h hmW e0 e1 e2 e3 ef hm13 hm12 hown
        have h := hW
        clear hW
        go_wp2_with (
          with_reducible refine (slost_any _).mono ?_
          rintro z v14 ⟨rfl, hb14⟩
          replace h := h.step hb14
          replace hm := hm.below hb14
          replace hR := hR.step hb14
          obtain ⟨⟨r0, r1, r2, r3⟩, rf0, rf1, rf2, rf3⟩ := at4 hR
          obtain ⟨hmR, hG⟩ := At.many [(0, .int .i64 12), (1, .int .i64 0), (2, .string ⟨#[]⟩), (3, .slice none 0 0)] hR
          dsimp only [setMany, setL, List.set] at hmR hG
          have hmG := mod_one hG
          replace h := h.cell hR (by decide) (by decide) (by decide) (by decide) (by decide) hmG
          replace hm := hm.step hmG (fun i o hi _ e => absurd e (by omega))
          have HH := Lib.hid h
          have HM := Lib.hid hm
          have HRR := Lib.hid hmR
          clear h hm hG hmG hR hmR hb14)
        obtain ⟨⟨u0, u1, u2, u3⟩, _⟩ := at4 HRR.out
        exact bodyPost_ret (v := .agg #[.int .i64 12, .int .i64 0, .string ⟨#[]⟩, .slice none 0 0]) (by simp [results, Tryz.results18, go_sem, u0, u1, u2, u3]) rfl ⟨none, 0, 0, rfl, World.ownsRow_nil _ _ _ _, HM.out, HH.out⟩
    )
set_option maxRecDepth 100000 in
set_option maxHeartbeats 8000000 in
theorem sdo_go_c (o : Ask) (w : World) (h : IsSto w gs gd bd N gst bst Ns gl d s sz ld ev since false) (hlt : ev ≤ since) (hNs : Ns < 800000) (hk : Ks s) (hks : o.key.size ≤ maxLen) (his : o.iff.size ≤ maxLen)
    (HCP : ∀ v, IsSto v gs gd bd N gst bst Ns gl d s sz ld ev since false → Calls Tryz.prog 22 #[.pointer (some ⟨gs, 0, none⟩)] v fun x w' => x = .returned (.int .i64 0) ∧ Mod (M6 gs gd bd gst bst gl) v w' ∧ IsSto w' gs gd bd N2 gst bst Ns gl d2 s sz2 ld2 ev 0 false)
    (HWR : (planP s.rev s.l o).wr = true → ∀ v, IsSto v gs gd bd N2 gst bst Ns gl d2 s sz2 ld2 ev 0 false → Calls Tryz.prog 44 #[.pointer (some ⟨gs, 0, none⟩), (planP s.rev s.l o).eff.val] v fun x w' => x = .returned (.bool wb) ∧ Mod (M6 gs gd bd gst bst gl) v w' ∧ IsSto w' gs gd bd N3 gst bst Ns3 gl d3 s3 sz3 ld3 ev since3 dead3)
    (HNW : (planP s.rev s.l o).wr = false → wb = true ∧ ∀ v, IsSto v gs gd bd N2 gst bst Ns gl d2 s sz2 ld2 ev 0 false → IsSto v gs gd bd N3 gst bst Ns3 gl d3 s3 sz3 ld3 ev since3 dead3) :
    Calls Tryz.prog 18 #[.pointer (some ⟨gs, 0, none⟩), o.v] w fun x w' => DOg w w' (cond wb (planP s.rev s.l o).told lostT) (fun w' => Mod (M6 gs gd bd gst bst gl) w w' ∧ IsSto w' gs gd bd N3 gst bst Ns3 gl d3 s3 sz3 ld3 ev since3 dead3) x := by
  have HPL := fun v (h : IsSt v gst bst Ns s.rev s.l) => plan_any o v h (by omega) hk.sizes hks his
  obtain ⟨p, hp⟩ : ∃ p, planP s.rev s.l o = p := ⟨_, rfl⟩
  rw [hp] at HPL HWR HNW ⊢
  clear hp hk hks his
  obtain ⟨⟨tc, tr, tv, ti⟩, ⟨ek, evv, er, eg⟩, wr⟩ := p
  unfold PlanR at HPL
  unfold Eff.val Eff.cells at HWR
  simp only at HPL HWR HNW ⊢
  obtain ⟨ki, k, vl, r, i, j⟩ := o
  unfold Ask.v Ask.cells at HPL ⊢
  simp only at HPL ⊢
  obtain ⟨h0, hR, hb⟩ := two_at w 49 [.int .i64 ki, .string k, .string vl, .int .i64 r, .string i, .int .i64 j] 58 [.int .i64 0, .int .i64 0, .string ⟨#[]⟩, .slice none 0 0]
  replace h := h.step hb
  have hm : Mod (M6 gs gd bd gst bst gl) w _ := (Mod.refl _ w).below hb
  have hB2 := hb.size
  have hd5 : decide (ev ≤ since) = true := decide_eq_true (by omega)
  go_enter Tryz.func18, Tryz.ntmps18
  go_upto_region 1 with fail
  generalize World.alloc (World.alloc w _) _ = w1 at *
  obtain ⟨gR, hgRe⟩ : ∃ gR, w.heap.size + 1 = gR := ⟨_, rfl⟩
  rw [hgRe] at hR ⊢
  have hgR : w.heap.size ≤ gR := by omega
  clear hgRe hb
  obtain ⟨⟨x0, x1, x2, x3, x4, x5⟩, xf⟩ := at6 h.blk
  obtain ⟨⟨y0, y1, y2, y3, y4, y5⟩, yf⟩ := at6 h0
  go_upto_region 5 with fail
  refine region_any (by kernel_rfl) ?_
  change wpAny _ _ _ _ _ _ _ (World.drew _)
  replace h := h.drew
  replace hm := hm.drew
  replace hR := At.drew hR
  replace h0 := At.drew h0
  clear x0 x1 x2 x3 x4 x5 xf y0 y1 y2 y3 y4 y5 yf
  replace hB2 : w.heap.size ≤ (World.drew w1).heap.size := hB2
  generalize World.drew _ = w2 at *
  obtain ⟨⟨x0, x1, x2, x3, x4, x5⟩, xf⟩ := at6 h.blk
  obtain ⟨⟨y0, y1, y2, y3, y4, y5⟩, yf⟩ := at6 h0
  have l1 := h.blk.lt
  have l0 := h0.lt
  refine stage 11 ?_
  refine tag [0,1,2,3,4,5,6,7,8,9,10] ?_
  iterate 11 (
    refine sR (v := ?_) rfl (by kernel_rfl) (fun _ _ _ h => h) (Or.inl ⟨by kernel_rfl, ?_⟩) ?_
    rotate_left
    · (intro wS hwS; obtain ⟨hcS, hfS, hhS⟩ := bcell hwS; go_simp; try (first | (with_reducible rfl) | rw [if_pos (by omega)] | rw [if_neg (by omega)]))
    try simp only [PT])
  refine tagN ?_
  refine stage_end (by kernel_rfl) rfl (fun K hK => ?_)
  go_simp
  refine (HCP _ h).mono ?_
  rintro z w3 ⟨rfl, hmC, hC⟩
  refine hK.out _ _ ?_
  clear hK K
  try simp only [PT]
  first | refine stage 1000000 ?_ | skip
  refine tag [12,13] ?_
  iterate 2 (
    refine sR (v := ?_) rfl (by kernel_rfl) (fun _ _ _ h => h) (Or.inl ⟨by kernel_rfl, ?_⟩) ?_
    rotate_left
    · (intro wS hwS; obtain ⟨hcS, hfS, hhS⟩ := bcell hwS; go_simp; try (first | (with_reducible rfl) | rw [if_pos (by omega)] | rw [if_neg (by omega)]))
    try simp only [PT])
  refine tagN ?_
  first | refine wpAnyT_done (by kernel_rfl) ?_ _ | refine wpAny_done (by kernel_rfl) ?_ _
  replace hR := h.far hR (by decide) (by decide) (by decide) (by decide) hmC
  replace h0 := h.far h0 (by decide) (by decide) (by decide) (by decide) hmC
  replace hm := hm.trans hmC
  replace hB2 := Nat.le_trans hB2 hmC.size
  clear HCP h hmC x0 x1 x2 x3 x4 x5 xf y0 y1 y2 y3 y4 y5 yf
  have h := hC
  clear hC
  obtain ⟨⟨x0, x1, x2, x3, x4, x5⟩, xf⟩ := at6 h.blk
  obtain ⟨⟨y0, y1, y2, y3, y4, y5⟩, yf⟩ := at6 h0
  go_upto_region 7 with fail
  clear hd5 l1 l0
  refine region_any (by kernel_rfl) ?_
  change wpAny _ _ _ _ _ _ _ (World.drew _)
  replace h := h.drew
  replace hm := hm.drew
  replace hR := At.drew hR
  replace h0 := At.drew h0
  clear x0 x1 x2 x3 x4 x5 xf y0 y1 y2 y3 y4 y5 yf
  replace hB2 : w.heap.size ≤ (World.drew w3).heap.size := hB2
  generalize World.drew _ = v1 at *
  obtain ⟨⟨x0, x1, x2, x3, x4, x5⟩, xf⟩ := at6 h.blk
  obtain ⟨⟨y0, y1, y2, y3, y4, y5⟩, yf⟩ := at6 h0
  have l1 := h.blk.lt
  have l0 := h0.lt
  refine stage 12 ?_
  refine tag [0,1,2,3,4] ?_
  iterate 5 (
    refine sR (v := ?_) rfl (by kernel_rfl) (fun _ _ _ h => h) (Or.inl ⟨by kernel_rfl, ?_⟩) ?_
    rotate_left
    · (intro wS hwS; obtain ⟨hcS, hfS, hhS⟩ := bcell hwS; go_simp; try (first | (with_reducible rfl) | rw [if_pos (by omega)] | rw [if_neg (by omega)]))
    try simp only [PT])
  refine tagN ?_
  clear x0 x1 x2 x3 x4 x5 xf y0 y1 y2 y3 y4 y5 yf l1 l0 h0
  refine stage_three 5 10 11 (by kernel_rfl) rfl rfl rfl (by kernel_rfl) (by kernel_rfl) (by kernel_rfl) (fun K hK => ?_) (fun K hK => ?_) (fun K hK => ?_)
  skip
  go_simp
  refine (HPL _ h.st).mono ?_
  rintro z v2 ⟨A5, n5, c5, rfl, hown5, hbn⟩
  refine hK.out _ _ (hbn) ?_
  clear hK K
  try simp only [PT]
  have hown := own_lower (show World.ownsRow _ _ _ _ _ _ _ from hown5) hB2
  clear hown5
  replace h := h.step hbn
  replace hm := hm.below hbn
  replace hR := hR.step hbn
  try replace h12 := h12.step hbn
  try replace h13 := h13.step hbn
  have hbs := hbn.size
  replace hB2 := Nat.le_trans hB2 hbs
  clear hbn hbs
  refine tag [6,7] ?_
  iterate 2 (
    refine sR (v := ?_) rfl (by kernel_rfl) (fun _ _ _ h => h) (Or.inl ⟨by kernel_rfl, ?_⟩) ?_
    rotate_left
    · (intro wS hwS; obtain ⟨hcS, hfS, hhS⟩ := bcell hwS; go_simp; try (first | (with_reducible rfl) | rw [if_pos (by omega)] | rw [if_neg (by omega)]))
    try simp only [PT])
  refine tagN ?_
  refine tag [8,9] ?_
  iterate 2 (
    refine sP (v := ?_) rfl (by kernel_rfl) (fun _ _ _ h => h) (Or.inl ⟨by kernel_rfl, ?_⟩) ?_
    rotate_left
    · (intro wS; go_simp; try (first | (with_reducible rfl) | rw [if_pos (by omega)] | rw [if_neg (by omega)]))
    try simp only [PT])
  refine tagN ?_
  refine stage_two 10 11 (by kernel_rfl) rfl rfl (by kernel_rfl) (by kernel_rfl) (fun K hK => ?_) (fun K hK => ?_)
  skip
  go_simp
  obtain ⟨hnew, hbn⟩ := one_at v2 58 [.int .i64 0, .int .i64 0, .string ⟨#[]⟩, .slice none 0 0]
  refine hK.out _ _ (hbn) ?_
  clear hK K
  try simp only [PT]
  have hg12 := hB2
  have hq12 := hR.lt
  replace h := h.step hbn
  replace hm := hm.below hbn
  replace hR := hR.step hbn
  try replace h12 := h12.step hbn
  try replace h13 := h13.step hbn
  try replace hown := own_below (show World.ownsRow _ _ _ _ _ _ _ from hown) hbn
  have hbs := hbn.size
  replace hB2 := Nat.le_trans hB2 hbs
  clear hbn hbs
  have h12 := hnew
  clear hnew
  generalize World.alloc v2 _ = v3 at *
  generalize v2.heap.size = g12 at *
  refine stage_one 11 (by kernel_rfl) rfl (by kernel_rfl) (fun K hK => ?_)
  go_simp
  obtain ⟨hnew, hbn⟩ := one_at v3 115 [.string ⟨#[]⟩, .string ⟨#[]⟩, .int .i64 0, .bool false]
  refine hK.out _ _ (hbn) ?_
  clear hK K
  try simp only [PT]
  have hg13 := hB2
  replace h := h.step hbn
  replace hm := hm.below hbn
  replace hR := hR.step hbn
  try replace h12 := h12.step hbn
  try replace h13 := h13.step hbn
  try replace hown := own_below (show World.ownsRow _ _ _ _ _ _ _ from hown) hbn
  have hbs := hbn.size
  replace hB2 := Nat.le_trans hB2 hbs
  clear hbn hbs
  have h13 := hnew
  clear hnew
  generalize World.alloc v3 _ = v4 at *
  generalize v3.heap.size = g13 at *
  rotate_left
  skip
  go_simp
  obtain ⟨hnew, hbn⟩ := one_at v2 115 [.string ⟨#[]⟩, .string ⟨#[]⟩, .int .i64 0, .bool false]
  refine hK.out _ _ (hbn) ?_
  clear hK K
  try simp only [PT]
  have hg13 := hB2
  replace h := h.step hbn
  replace hm := hm.below hbn
  replace hR := hR.step hbn
  try replace h12 := h12.step hbn
  try replace h13 := h13.step hbn
  try replace hown := own_below (show World.ownsRow _ _ _ _ _ _ _ from hown) hbn
  have hbs := hbn.size
  replace hB2 := Nat.le_trans hB2 hbs
  clear hbn hbs
  have h13 := hnew
  clear hnew
  generalize World.alloc v2 _ = v3 at *
  generalize v2.heap.size = g13 at *
  refine stage_one 10 (by kernel_rfl) rfl (by kernel_rfl) (fun K hK => ?_)
  go_simp
  obtain ⟨hnew, hbn⟩ := one_at v3 58 [.int .i64 0, .int .i64 0, .string ⟨#[]⟩, .slice none 0 0]
  refine hK.out _ _ (hbn) ?_
  clear hK K
  try simp only [PT]
  have hg12 := hB2
  have hq12 := hR.lt
  replace h := h.step hbn
  replace hm := hm.below hbn
  replace hR := hR.step hbn
  try replace h12 := h12.step hbn
  try replace h13 := h13.step hbn
  try replace hown := own_below (show World.ownsRow _ _ _ _ _ _ _ from hown) hbn
  have hbs := hbn.size
  replace hB2 := Nat.le_trans hB2 hbs
  clear hbn hbs
  have h12 := hnew
  clear hnew
  generalize World.alloc v3 _ = v4 at *
  generalize v3.heap.size = g12 at *
  rotate_left
  skip
  go_simp
  obtain ⟨hnew, hbn⟩ := one_at v1 58 [.int .i64 0, .int .i64 0, .string ⟨#[]⟩, .slice none 0 0]
  refine hK.out _ _ (hbn) ?_
  clear hK K
  try simp only [PT]
  have hg12 := hB2
  have hq12 := hR.lt
  replace h := h.step hbn
  replace hm := hm.below hbn
  replace hR := hR.step hbn
  try replace h12 := h12.step hbn
  try replace h13 := h13.step hbn
  try replace hown := own_below (show World.ownsRow _ _ _ _ _ _ _ from hown) hbn
  have hbs := hbn.size
  replace hB2 := Nat.le_trans hB2 hbs
  clear hbn hbs
  have h12 := hnew
  clear hnew
  generalize World.alloc v1 _ = v2 at *
  generalize v1.heap.size = g12 at *
  refine stage_two 5 11 (by kernel_rfl) rfl rfl (by kernel_rfl) (by kernel_rfl) (fun K hK => ?_) (fun K hK => ?_)
  skip
  go_simp
  refine (HPL _ h.st).mono ?_
  rintro z v3 ⟨A5, n5, c5, rfl, hown5, hbn⟩
  refine hK.out _ _ (hbn) ?_
  clear hK K
  try simp only [PT]
  have hown := own_lower (show World.ownsRow _ _ _ _ _ _ _ from hown5) hB2
  clear hown5
  replace h := h.step hbn
  replace hm := hm.below hbn
  replace hR := hR.step hbn
  try replace h12 := h12.step hbn
  try replace h13 := h13.step hbn
  have hbs := hbn.size
  replace hB2 := Nat.le_trans hB2 hbs
  clear hbn hbs
  refine tag [6,7] ?_
  iterate 2 (
    refine sR (v := ?_) rfl (by kernel_rfl) (fun _ _ _ h => h) (Or.inl ⟨by kernel_rfl, ?_⟩) ?_
    rotate_left
    · (intro wS hwS; obtain ⟨hcS, hfS, hhS⟩ := bcell hwS; go_simp; try (first | (with_reducible rfl) | rw [if_pos (by omega)] | rw [if_neg (by omega)]))
    try simp only [PT])
  refine tagN ?_
  refine tag [8,9] ?_
  iterate 2 (
    refine sP (v := ?_) rfl (by kernel_rfl) (fun _ _ _ h => h) (Or.inl ⟨by kernel_rfl, ?_⟩) ?_
    rotate_left
    · (intro wS; go_simp; try (first | (with_reducible rfl) | rw [if_pos (by omega)] | rw [if_neg (by omega)]))
    try simp only [PT])
  refine tagN ?_
  refine stage_one 11 (by kernel_rfl) rfl (by kernel_rfl) (fun K hK => ?_)
  go_simp
  obtain ⟨hnew, hbn⟩ := one_at v3 115 [.string ⟨#[]⟩, .string ⟨#[]⟩, .int .i64 0, .bool false]
  refine hK.out _ _ (hbn) ?_
  clear hK K
  try simp only [PT]
  have hg13 := hB2
  replace h := h.step hbn
  replace hm := hm.below hbn
  replace hR := hR.step hbn
  try replace h12 := h12.step hbn
  try replace h13 := h13.step hbn
  try replace hown := own_below (show World.ownsRow _ _ _ _ _ _ _ from hown) hbn
  have hbs := hbn.size
  replace hB2 := Nat.le_trans hB2 hbs
  clear hbn hbs
  have h13 := hnew
  clear hnew
  generalize World.alloc v3 _ = v4 at *
  generalize v3.heap.size = g13 at *
  rotate_left
  skip
  go_simp
  obtain ⟨hnew, hbn⟩ := one_at v2 115 [.string ⟨#[]⟩, .string ⟨#[]⟩, .int .i64 0, .bool false]
  refine hK.out _ _ (hbn) ?_
  clear hK K
  try simp only [PT]
  have hg13 := hB2
  replace h := h.step hbn
  replace hm := hm.below hbn
  replace hR := hR.step hbn
  try replace h12 := h12.step hbn
  try replace h13 := h13.step hbn
  try replace hown := own_below (show World.ownsRow _ _ _ _ _ _ _ from hown) hbn
  have hbs := hbn.size
  replace hB2 := Nat.le_trans hB2 hbs
  clear hbn hbs
  have h13 := hnew
  clear hnew
  generalize World.alloc v2 _ = v3 at *
  generalize v2.heap.size = g13 at *
  refine stage_one 5 (by kernel_rfl) rfl (by kernel_rfl) (fun K hK => ?_)
  go_simp
  refine (HPL _ h.st).mono ?_
  rintro z v4 ⟨A5, n5, c5, rfl, hown5, hbn⟩
  refine hK.out _ _ (hbn) ?_
  clear hK K
  try simp only [PT]
  have hown := own_lower (show World.ownsRow _ _ _ _ _ _ _ from hown5) hB2
  clear hown5
  replace h := h.step hbn
  replace hm := hm.below hbn
  replace hR := hR.step hbn
  try replace h12 := h12.step hbn
  try replace h13 := h13.step hbn
  have hbs := hbn.size
  replace hB2 := Nat.le_trans hB2 hbs
  clear hbn hbs
  refine tag [6,7] ?_
  iterate 2 (
    refine sR (v := ?_) rfl (by kernel_rfl) (fun _ _ _ h => h) (Or.inl ⟨by kernel_rfl, ?_⟩) ?_
    rotate_left
    · (intro wS hwS; obtain ⟨hcS, hfS, hhS⟩ := bcell hwS; go_simp; try (first | (with_reducible rfl) | rw [if_pos (by omega)] | rw [if_neg (by omega)]))
    try simp only [PT])
  refine tagN ?_
  refine tag [8,9] ?_
  iterate 2 (
    refine sP (v := ?_) rfl (by kernel_rfl) (fun _ _ _ h => h) (Or.inl ⟨by kernel_rfl, ?_⟩) ?_
    rotate_left
    · (intro wS; go_simp; try (first | (with_reducible rfl) | rw [if_pos (by omega)] | rw [if_neg (by omega)]))
    try simp only [PT])
  refine tagN ?_
  rotate_left
  skip
  go_simp
  obtain ⟨hnew, hbn⟩ := one_at v1 115 [.string ⟨#[]⟩, .string ⟨#[]⟩, .int .i64 0, .bool false]
  refine hK.out _ _ (hbn) ?_
  clear hK K
  try simp only [PT]
  have hg13 := hB2
  replace h := h.step hbn
  replace hm := hm.below hbn
  replace hR := hR.step hbn
  try replace h12 := h12.step hbn
  try replace h13 := h13.step hbn
  try replace hown := own_below (show World.ownsRow _ _ _ _ _ _ _ from hown) hbn
  have hbs := hbn.size
  replace hB2 := Nat.le_trans hB2 hbs
  clear hbn hbs
  have h13 := hnew
  clear hnew
  generalize World.alloc v1 _ = v2 at *
  generalize v1.heap.size = g13 at *
  refine stage_two 5 10 (by kernel_rfl) rfl rfl (by kernel_rfl) (by kernel_rfl) (fun K hK => ?_) (fun K hK => ?_)
  skip
  go_simp
  refine (HPL _ h.st).mono ?_
  rintro z v3 ⟨A5, n5, c5, rfl, hown5, hbn⟩
  refine hK.out _ _ (hbn) ?_
  clear hK K
  try simp only [PT]
  have hown := own_lower (show World.ownsRow _ _ _ _ _ _ _ from hown5) hB2
  clear hown5
  replace h := h.step hbn
  replace hm := hm.below hbn
  replace hR := hR.step hbn
  try replace h12 := h12.step hbn
  try replace h13 := h13.step hbn
  have hbs := hbn.size
  replace hB2 := Nat.le_trans hB2 hbs
  clear hbn hbs
  refine tag [6,7] ?_
  iterate 2 (
    refine sR (v := ?_) rfl (by kernel_rfl) (fun _ _ _ h => h) (Or.inl ⟨by kernel_rfl, ?_⟩) ?_
    rotate_left
    · (intro wS hwS; obtain ⟨hcS, hfS, hhS⟩ := bcell hwS; go_simp; try (first | (with_reducible rfl) | rw [if_pos (by omega)] | rw [if_neg (by omega)]))
    try simp only [PT])
  refine tagN ?_
  refine tag [8,9] ?_
  iterate 2 (
    refine sP (v := ?_) rfl (by kernel_rfl) (fun _ _ _ h => h) (Or.inl ⟨by kernel_rfl, ?_⟩) ?_
    rotate_left
    · (intro wS; go_simp; try (first | (with_reducible rfl) | rw [if_pos (by omega)] | rw [if_neg (by omega)]))
    try simp only [PT])
  refine tagN ?_
  refine stage_one 10 (by kernel_rfl) rfl (by kernel_rfl) (fun K hK => ?_)
  go_simp
  obtain ⟨hnew, hbn⟩ := one_at v3 58 [.int .i64 0, .int .i64 0, .string ⟨#[]⟩, .slice none 0 0]
  refine hK.out _ _ (hbn) ?_
  clear hK K
  try simp only [PT]
  have hg12 := hB2
  have hq12 := hR.lt
  replace h := h.step hbn
  replace hm := hm.below hbn
  replace hR := hR.step hbn
  try replace h12 := h12.step hbn
  try replace h13 := h13.step hbn
  try replace hown := own_below (show World.ownsRow _ _ _ _ _ _ _ from hown) hbn
  have hbs := hbn.size
  replace hB2 := Nat.le_trans hB2 hbs
  clear hbn hbs
  have h12 := hnew
  clear hnew
  generalize World.alloc v3 _ = v4 at *
  generalize v3.heap.size = g12 at *
  rotate_left
  skip
  go_simp
  obtain ⟨hnew, hbn⟩ := one_at v2 58 [.int .i64 0, .int .i64 0, .string ⟨#[]⟩, .slice none 0 0]
  refine hK.out _ _ (hbn) ?_
  clear hK K
  try simp only [PT]
  have hg12 := hB2
  have hq12 := hR.lt
  replace h := h.step hbn
  replace hm := hm.below hbn
  replace hR := hR.step hbn
  try replace h12 := h12.step hbn
  try replace h13 := h13.step hbn
  try replace hown := own_below (show World.ownsRow _ _ _ _ _ _ _ from hown) hbn
  have hbs := hbn.size
  replace hB2 := Nat.le_trans hB2 hbs
  clear hbn hbs
  have h12 := hnew
  clear hnew
  generalize World.alloc v2 _ = v3 at *
  generalize v2.heap.size = g12 at *
  refine stage_one 5 (by kernel_rfl) rfl (by kernel_rfl) (fun K hK => ?_)
  go_simp
  refine (HPL _ h.st).mono ?_
  rintro z v4 ⟨A5, n5, c5, rfl, hown5, hbn⟩
  refine hK.out _ _ (hbn) ?_
  clear hK K
  try simp only [PT]
  have hown := own_lower (show World.ownsRow _ _ _ _ _ _ _ from hown5) hB2
  clear hown5
  replace h := h.step hbn
  replace hm := hm.below hbn
  replace hR := hR.step hbn
  try replace h12 := h12.step hbn
  try replace h13 := h13.step hbn
  have hbs := hbn.size
  replace hB2 := Nat.le_trans hB2 hbs
  clear hbn hbs
  refine tag [6,7] ?_
  iterate 2 (
    refine sR (v := ?_) rfl (by kernel_rfl) (fun _ _ _ h => h) (Or.inl ⟨by kernel_rfl, ?_⟩) ?_
    rotate_left
    · (intro wS hwS; obtain ⟨hcS, hfS, hhS⟩ := bcell hwS; go_simp; try (first | (with_reducible rfl) | rw [if_pos (by omega)] | rw [if_neg (by omega)]))
    try simp only [PT])
  refine tagN ?_
  refine tag [8,9] ?_
  iterate 2 (
    refine sP (v := ?_) rfl (by kernel_rfl) (fun _ _ _ h => h) (Or.inl ⟨by kernel_rfl, ?_⟩) ?_
    rotate_left
    · (intro wS; go_simp; try (first | (with_reducible rfl) | rw [if_pos (by omega)] | rw [if_neg (by omega)]))
    try simp only [PT])
  refine tagN ?_
  rotate_left
  skip
  all_goals (
    go_simp
    obtain ⟨⟨z0, z1, z2, z3⟩, zf0, zf1, zf2, zf3⟩ := at4 h12
    have l12 := h12.lt

    refine stage_end (by kernel_rfl) rfl (fun K hK => ?_)
    go_simp
    refine hK.out _ _ ?_
    clear hK K
    try simp only [PT]
    obtain ⟨hm12, hG⟩ := At.many [(0, .int .i64 tc), (1, .int .i64 tr), (2, .string tv), (3, .slice A5 n5 c5)] h12
    dsimp only [setMany, setL, List.set] at hm12 hG
    have hmG := mod_one hG
    replace h := h.cell h12 (by decide) (by decide) (by decide) (by decide) (by decide) hmG
    replace hm := hm.step hmG (fun i o hi _ e => absurd e (by omega))
    replace hR := hmG.at hR (by omega)
    replace h13 := hmG.at h13 (At.ne h13 h12 (by decide))
    replace hown := own_mod hown hmG (fun i o ho _ hit e => isT_at h12 ho hit (by decide) e)
    replace hB2 := Nat.le_trans hB2 hmG.size
    clear z0 z1 z2 z3 zf0 zf1 zf2 zf3 l12 hG hmG h12
    generalize World.setCell _ _ _ = v11 at *
    obtain ⟨⟨z0, z1, z2, z3⟩, zf0, zf1, zf2, zf3⟩ := at4 h13
    have l13 := h13.lt
    refine stage 13 ?_

    refine stage_end (by kernel_rfl) rfl (fun K hK => ?_)
    go_simp
    refine hK.out _ _ ?_
    clear hK K
    try simp only [PT]
    first | refine stage 1000000 ?_ | skip
    refine tag [14] ?_
    refine sR (v := ?_) rfl (by kernel_rfl) (fun _ _ _ h => h) (Or.inl ⟨by kernel_rfl, ?_⟩) ?_
    rotate_left
    · (intro wS hwS; obtain ⟨hcS, hfS, hhS⟩ := bcell hwS; go_simp; try (first | (with_reducible rfl) | rw [if_pos (by omega)] | rw [if_neg (by omega)]))
    try simp only [PT]
    refine tagN ?_
    first | refine wpAnyT_done (by kernel_rfl) ?_ _ | refine wpAny_done (by kernel_rfl) ?_ _
    obtain ⟨hm13, hG⟩ := At.many [(0, .string ek), (1, .string evv), (2, .int .i64 er), (3, .bool eg)] h13
    dsimp only [setMany, setL, List.set] at hm13 hG
    have hmG := mod_one hG
    replace h := h.cell h13 (by decide) (by decide) (by decide) (by decide) (by decide) hmG
    replace hm := hm.step hmG (fun i o hi _ e => absurd e (by omega))
    replace hR := hmG.at hR (At.ne hR h13 (by decide))
    replace hm12 := hmG.at hm12 (At.ne hm12 h13 (by decide))
    replace hown := own_mod hown hmG (fun i o ho _ hit e => isT_at h13 ho hit (by decide) e)
    replace hB2 := Nat.le_trans hB2 hmG.size
    clear z0 z1 z2 z3 zf0 zf1 zf2 zf3 l13 hG hmG h13
    generalize World.setCell _ _ _ = v12 at *
    cases wr with
    | false =>
      obtain ⟨rfl, HN⟩ := HNW rfl
      replace h := HN _ h
      clear HN HNW HWR hm13
      obtain ⟨⟨z0, z1, z2, z3⟩, zf0, zf1, zf2, zf3⟩ := at4 hm12
      obtain ⟨⟨r0, r1, r2, r3⟩, rf0, rf1, rf2, rf3⟩ := at4 hR
      obtain ⟨hmR, hG⟩ := At.many [(0, .int .i64 tc), (1, .int .i64 tr), (2, .string tv), (3, .slice A5 n5 c5)] hR
      dsimp only [setMany, setL, List.set] at hmR hG
      have hmG := mod_one hG
      replace h := h.cell hR (by decide) (by decide) (by decide) (by decide) (by decide) hmG
      replace hm := hm.step hmG (fun i o hi _ e => absurd e (by omega))
      replace hown := own_mod hown hmG (fun i o ho _ hit e => isT_at hR ho hit (by decide) e)
      have HH := Lib.hid h
      have HM := Lib.hid hm
      have HOW := Lib.hid hown
      have HRR := Lib.hid hmR
      clear h hm hown hG hmG hm12 hR hmR
      go_wp2_with fail
      obtain ⟨⟨u0, u1, u2, u3⟩, _⟩ := at4 HRR.out
      exact bodyPost_ret (v := .agg #[.int .i64 tc, .int .i64 tr, .string tv, .slice A5 n5 c5]) (by simp [results, Tryz.results18, go_sem, u0, u1, u2, u3]) rfl ⟨A5, n5, c5, rfl, own_lower HOW.out (Nat.le_refl _), HM.out, HH.out⟩
    | true =>
      obtain ⟨⟨e0, e1, e2, e3⟩, ef⟩ := at4 hm13
      have HW := HWR rfl v12 h
      clear HNW HWR
      cases wb with
      | true =>
        go_upto_region 10 with (((with_reducible refine (HW).mono ?_); rintro z v13 ⟨rfl, hmW, hW⟩))
        replace hm12 := h.far hm12 (by decide) (by decide) (by decide) (by decide) hmW
        replace hown := own_mod hown hmW (fun i o ho _ hit => h.farT ho hit (by decide) (by decide) (by decide) (by decide))
        replace hR := h.far hR (by decide) (by decide) (by decide) (by decide) hmW
        replace hm := hm.trans hmW
        replace hB2 := Nat.le_trans hB2 hmW.size
        clear HW h hmW e0 e1 e2 e3 ef hm13
        have h := hW
        clear hW
        obtain ⟨⟨z0, z1, z2, z3⟩, zf0, zf1, zf2, zf3⟩ := at4 hm12
        obtain ⟨⟨r0, r1, r2, r3⟩, rf0, rf1, rf2, rf3⟩ := at4 hR
        obtain ⟨hmR, hG⟩ := At.many [(0, .int .i64 tc), (1, .int .i64 tr), (2, .string tv), (3, .slice A5 n5 c5)] hR
        dsimp only [setMany, setL, List.set] at hmR hG
        have hmG := mod_one hG
        replace h := h.cell hR (by decide) (by decide) (by decide) (by decide) (by decide) hmG
        replace hm := hm.step hmG (fun i o hi _ e => absurd e (by omega))
        replace hown := own_mod hown hmG (fun i o ho _ hit e => isT_at hR ho hit (by decide) e)
        have HH := Lib.hid h
        have HM := Lib.hid hm
        have HOW := Lib.hid hown
        have HRR := Lib.hid hmR
        clear h hm hown hG hmG hm12 hR hmR
        go_wp2_with fail
        obtain ⟨⟨u0, u1, u2, u3⟩, _⟩ := at4 HRR.out
        exact bodyPost_ret (v := .agg #[.int .i64 tc, .int .i64 tr, .string tv, .slice A5 n5 c5]) (by simp [results, Tryz.results18, go_sem, u0, u1, u2, u3]) rfl ⟨A5, n5, c5, rfl, own_lower HOW.out (Nat.le_refl _), HM.out, HH.out⟩
      | false =>
        go_upto_region 9 with (((with_reducible refine (HW).mono ?_); rintro z v13 ⟨rfl, hmW, hW⟩))
        replace hR := h.far hR (by decide) (by decide) (by decide) (by decide) hmW
        replace hm := hm.trans hmW
        replace hB2 := Nat.le_trans hB2 hmW.size
        clear HW h hmW e0 e1 e2 e3 ef hm13 hm12 hown
        have h := hW
        clear hW
        go_wp2_with (
          with_reducible refine (slost_any _).mono ?_
          rintro z v14 ⟨rfl, hb14⟩
          replace h := h.step hb14
          replace hm := hm.below hb14
          replace hR := hR.step hb14
          obtain ⟨⟨r0, r1, r2, r3⟩, rf0, rf1, rf2, rf3⟩ := at4 hR
          obtain ⟨hmR, hG⟩ := At.many [(0, .int .i64 12), (1, .int .i64 0), (2, .string ⟨#[]⟩), (3, .slice none 0 0)] hR
          dsimp only [setMany, setL, List.set] at hmR hG
          have hmG := mod_one hG
          replace h := h.cell hR (by decide) (by decide) (by decide) (by decide) (by decide) hmG
          replace hm := hm.step hmG (fun i o hi _ e => absurd e (by omega))
          have HH := Lib.hid h
          have HM := Lib.hid hm
          have HRR := Lib.hid hmR
          clear h hm hG hmG hR hmR hb14)
        obtain ⟨⟨u0, u1, u2, u3⟩, _⟩ := at4 HRR.out
        exact bodyPost_ret (v := .agg #[.int .i64 12, .int .i64 0, .string ⟨#[]⟩, .slice none 0 0]) (by simp [results, Tryz.results18, go_sem, u0, u1, u2, u3]) rfl ⟨none, 0, 0, rfl, World.ownsRow_nil _ _ _ _, HM.out, HH.out⟩
    )
set_option maxRecDepth 100000 in
set_option maxHeartbeats 4000000 in
theorem sdo_clost (o : Ask) (w : World) (h : IsSto w gs gd bd N gst bst Ns gl d s sz ld ev since false) (hlt : ev ≤ since) {cc : Int} (hcc : cc ≠ 0)
    (HCP : ∀ v, IsSto v gs gd bd N gst bst Ns gl d s sz ld ev since false → Calls Tryz.prog 22 #[.pointer (some ⟨gs, 0, none⟩)] v fun x w' => x = .returned (.int .i64 cc) ∧ Mod (M6 gs gd bd gst bst gl) v w' ∧ IsSto w' gs gd bd N3 gst bst Ns3 gl d3 s3 sz3 ld3 ev since3 dead3) :
    Calls Tryz.prog 18 #[.pointer (some ⟨gs, 0, none⟩), o.v] w fun x w' => DOg w w' (lostT) (fun w' => Mod (M6 gs gd bd gst bst gl) w w' ∧ IsSto w' gs gd bd N3 gst bst Ns3 gl d3 s3 sz3 ld3 ev since3 dead3) x := by
  have hc1 : (cc != 0) = true := by simpa using hcc
  obtain ⟨ki, k, vl, r, i, j⟩ := o
  unfold Ask.v Ask.cells
  simp only
  obtain ⟨h0, hR, hb⟩ := two_at w 49 [.int .i64 ki, .string k, .string vl, .int .i64 r, .string i, .int .i64 j] 58 [.int .i64 0, .int .i64 0, .string ⟨#[]⟩, .slice none 0 0]
  replace h := h.step hb
  have hm : Mod (M6 gs gd bd gst bst gl) w _ := (Mod.refl _ w).below hb
  have hB2 := hb.size
  have hd5 : decide (ev ≤ since) = true := decide_eq_true (by omega)
  go_enter Tryz.func18, Tryz.ntmps18
  go_upto_region 1 with fail
  generalize World.alloc (World.alloc w _) _ = w1 at *
  obtain ⟨gR, hgRe⟩ : ∃ gR, w.heap.size + 1 = gR := ⟨_, rfl⟩
  rw [hgRe] at hR ⊢
  have hgR : w.heap.size ≤ gR := by omega
  clear hgRe hb
  obtain ⟨⟨x0, x1, x2, x3, x4, x5⟩, xf⟩ := at6 h.blk
  obtain ⟨⟨y0, y1, y2, y3, y4, y5⟩, yf⟩ := at6 h0
  go_upto_region 5 with fail
  refine region_any (by kernel_rfl) ?_
  change wpAny _ _ _ _ _ _ _ (World.drew _)
  replace h := h.drew
  replace hm := hm.drew
  replace hR := At.drew hR
  replace h0 := At.drew h0
  clear x0 x1 x2 x3 x4 x5 xf y0 y1 y2 y3 y4 y5 yf
  replace hB2 : w.heap.size ≤ (World.drew w1).heap.size := hB2
  generalize World.drew _ = w2 at *
  obtain ⟨⟨x0, x1, x2, x3, x4, x5⟩, xf⟩ := at6 h.blk
  obtain ⟨⟨y0, y1, y2, y3, y4, y5⟩, yf⟩ := at6 h0
  have l1 := h.blk.lt
  have l0 := h0.lt
  refine stage 11 ?_
  refine tag [0,1,2,3,4,5,6,7,8,9,10] ?_
  iterate 11 (
    refine sR (v := ?_) rfl (by kernel_rfl) (fun _ _ _ h => h) (Or.inl ⟨by kernel_rfl, ?_⟩) ?_
    rotate_left
    · (intro wS hwS; obtain ⟨hcS, hfS, hhS⟩ := bcell hwS; go_simp; try (first | (with_reducible rfl) | rw [if_pos (by omega)] | rw [if_neg (by omega)]))
    try simp only [PT])
  refine tagN ?_
  refine stage_end (by kernel_rfl) rfl (fun K hK => ?_)
  go_simp
  refine (HCP _ h).mono ?_
  rintro z w3 ⟨rfl, hmC, hC⟩
  refine hK.out _ _ ?_
  clear hK K
  try simp only [PT]
  first | refine stage 1000000 ?_ | skip
  refine tag [12,13] ?_
  iterate 2 (
    refine sR (v := ?_) rfl (by kernel_rfl) (fun _ _ _ h => h) (Or.inl ⟨by kernel_rfl, ?_⟩) ?_
    rotate_left
    · (intro wS hwS; obtain ⟨hcS, hfS, hhS⟩ := bcell hwS; go_simp; try (first | (with_reducible rfl) | rw [if_pos (by omega)] | rw [if_neg (by omega)]))
    try simp only [PT])
  refine tagN ?_
  first | refine wpAnyT_done (by kernel_rfl) ?_ _ | refine wpAny_done (by kernel_rfl) ?_ _
  replace hR := h.far hR (by decide) (by decide) (by decide) (by decide) hmC
  replace hm := hm.trans hmC
  replace hB2 := Nat.le_trans hB2 hmC.size
  clear HCP h hmC x0 x1 x2 x3 x4 x5 xf y0 y1 y2 y3 y4 y5 yf h0 l0 l1 hd5
  have h := hC
  clear hC
  go_upto_region 6 with fail
  go_wp2_with (
    with_reducible refine (slost_any _).mono ?_
    rintro z v14 ⟨rfl, hb14⟩
    replace h := h.step hb14
    replace hm := hm.below hb14
    replace hR := hR.step hb14
    obtain ⟨⟨r0, r1, r2, r3⟩, rf0, rf1, rf2, rf3⟩ := at4 hR
    obtain ⟨hmR, hG⟩ := At.many [(0, .int .i64 12), (1, .int .i64 0), (2, .string ⟨#[]⟩), (3, .slice none 0 0)] hR
    dsimp only [setMany, setL, List.set] at hmR hG
    have hmG := mod_one hG
    replace h := h.cell hR (by decide) (by decide) (by decide) (by decide) (by decide) hmG
    replace hm := hm.step hmG (fun i o hi _ e => absurd e (by omega))
    have HH := Lib.hid h
    have HM := Lib.hid hm
    have HRR := Lib.hid hmR
    clear h hm hG hmG hR hmR hb14)
  obtain ⟨⟨u0, u1, u2, u3⟩, _⟩ := at4 HRR.out
  exact bodyPost_ret (v := .agg #[.int .i64 12, .int .i64 0, .string ⟨#[]⟩, .slice none 0 0]) (by simp [results, Tryz.results18, go_sem, u0, u1, u2, u3]) rfl ⟨none, 0, 0, rfl, World.ownsRow_nil _ _ _ _, HM.out, HH.out⟩

theorem sdo_read (o : Ask) (w : World) (h : IsSto w gs gd bd N gst bst Ns gl d s sz ld ev since false) (hlt : since < ev) (hNs : Ns < 800000) (hk : Ks s) (hks : o.key.size ≤ maxLen) (his : o.iff.size ≤ maxLen) (hwr : (planP s.rev s.l o).wr = false) :
    Calls Tryz.prog 18 #[.pointer (some ⟨gs, 0, none⟩), o.v] w fun x w' => DOg w w' (planP s.rev s.l o).told (fun w' => Mod (M6 gs gd bd gst bst gl) w w' ∧ IsSto w' gs gd bd N gst bst Ns gl d s sz ld ev since false) x :=
  sdo_go (wb := true) o w h hlt hNs hk hks his (fun e => by rw [hwr] at e; cases e) (fun _ => ⟨rfl, fun _ h => h⟩)
theorem sdo_write (o : Ask) (w : World) (h : IsSto w gs gd bd N gst bst Ns gl d s sz ld ev since false) (hlt : since < ev) (ho : d.Ok M K) (hM : M ≤ 100000000) (hN : N < 800000) (hNs : Ns < 800000) (hsz : 0 ≤ sz ∧ sz ≤ 1099511627776) (hsi : 0 ≤ since ∧ since ≤ 1000000) (hk : Ks s) (hks : o.key.size ≤ maxLen) (his : o.iff.size ≤ maxLen)
    (hwr : (planP s.rev s.l o).wr = true) (hri : (planP s.rev s.l o).eff.right) (hrv : (planP s.rev s.l o).eff.r < 9223372036854775808) (hap : apOk s.rev s.l (planP s.rev s.l o).eff = true) {q : WL} (hc : waP ⟨d, sz, ld⟩ logN (effL (planP s.rev s.l o).eff) = (0, q)) :
    Calls Tryz.prog 18 #[.pointer (some ⟨gs, 0, none⟩), o.v] w fun x w' => DOg w w' (planP s.rev s.l o).told (fun w' => Mod (M6 gs gd bd gst bst gl) w w' ∧ IsSto w' gs gd bd (N + 2) gst bst (Ns + 1) gl q.d ⟨(planP s.rev s.l o).eff.r, applyL (planP s.rev s.l o).eff.it (planP s.rev s.l o).eff.g s.l⟩ q.sz q.dead ev (since + 1) false) x :=
  sdo_go (wb := true) o w h hlt hNs hk hks his (fun _ v hv => by
    have := swrite_ok (planP s.rev s.l o).eff v hv ho hM hN hNs hsz hsi hri hrv hap (by rw [hc])
    simp only [hc] at this
    exact this) (fun e => by rw [hwr] at e; cases e)
theorem sdo_wlost (o : Ask) (w : World) (h : IsSto w gs gd bd N gst bst Ns gl d s sz ld ev since false) (hlt : since < ev) (ho : d.Ok M K) (hM : M ≤ 100000000) (hN : N < 800000) (hNs : Ns < 800000) (hsz : 0 ≤ sz ∧ sz ≤ 1099511627776) (hk : Ks s) (hks : o.key.size ≤ maxLen) (his : o.iff.size ≤ maxLen)
    (hwr : (planP s.rev s.l o).wr = true) (hri : (planP s.rev s.l o).eff.right) (hrv : (planP s.rev s.l o).eff.r < 9223372036854775808) {q : WL} {c : Int} (hc0 : c ≠ 0) (hc : waP ⟨d, sz, ld⟩ logN (effL (planP s.rev s.l o).eff) = (c, q)) :
    Calls Tryz.prog 18 #[.pointer (some ⟨gs, 0, none⟩), o.v] w fun x w' => DOg w w' lostT (fun w' => Mod (M6 gs gd bd gst bst gl) w w' ∧ IsSto w' gs gd bd (N + 2) gst bst Ns gl q.d s q.sz q.dead ev since true) x :=
  sdo_go (wb := false) o w h hlt hNs hk hks his (fun _ v hv => swrite_lost (planP s.rev s.l o).eff v hv ho hM hN hsz hri hrv hc0 hc) (fun e => by rw [hwr] at e; cases e)
theorem sdo_read_c (o : Ask) (w : World) (h : IsSto w gs gd bd N gst bst Ns gl d s sz ld ev since false) (hlt : ev ≤ since) (hNs : Ns < 800000) (hk : Ks s) (hks : o.key.size ≤ maxLen) (his : o.iff.size ≤ maxLen) (hwr : (planP s.rev s.l o).wr = false)
    (HCP : ∀ v, IsSto v gs gd bd N gst bst Ns gl d s sz ld ev since false → Calls Tryz.prog 22 #[.pointer (some ⟨gs, 0, none⟩)] v fun x w' => x = .returned (.int .i64 0) ∧ Mod (M6 gs gd bd gst bst gl) v w' ∧ IsSto w' gs gd bd N2 gst bst Ns gl d2 s sz2 ld2 ev 0 false) :
    Calls Tryz.prog 18 #[.pointer (some ⟨gs, 0, none⟩), o.v] w fun x w' => DOg w w' (planP s.rev s.l o).told (fun w' => Mod (M6 gs gd bd gst bst gl) w w' ∧ IsSto w' gs gd bd N2 gst bst Ns gl d2 s sz2 ld2 ev 0 false) x :=
  sdo_go_c (wb := true) o w h hlt hNs hk hks his HCP (fun e => by rw [hwr] at e; cases e) (fun _ => ⟨rfl, fun _ h => h⟩)
theorem sdo_write_c (o : Ask) (w : World) (h : IsSto w gs gd bd N gst bst Ns gl d s sz ld ev since false) (hlt : ev ≤ since) (ho : d2.Ok M K) (hM : M ≤ 100000000) (hN : N2 < 800000) (hNs : Ns < 800000) (hsz : 0 ≤ sz2 ∧ sz2 ≤ 1099511627776) (hk : Ks s) (hks : o.key.size ≤ maxLen) (his : o.iff.size ≤ maxLen)
    (hwr : (planP s.rev s.l o).wr = true) (hri : (planP s.rev s.l o).eff.right) (hrv : (planP s.rev s.l o).eff.r < 9223372036854775808) (hap : apOk s.rev s.l (planP s.rev s.l o).eff = true) {q : WL} (hc : waP ⟨d2, sz2, ld2⟩ logN (effL (planP s.rev s.l o).eff) = (0, q))
    (HCP : ∀ v, IsSto v gs gd bd N gst bst Ns gl d s sz ld ev since false → Calls Tryz.prog 22 #[.pointer (some ⟨gs, 0, none⟩)] v fun x w' => x = .returned (.int .i64 0) ∧ Mod (M6 gs gd bd gst bst gl) v w' ∧ IsSto w' gs gd bd N2 gst bst Ns gl d2 s sz2 ld2 ev 0 false) :
    Calls Tryz.prog 18 #[.pointer (some ⟨gs, 0, none⟩), o.v] w fun x w' => DOg w w' (planP s.rev s.l o).told (fun w' => Mod (M6 gs gd bd gst bst gl) w w' ∧ IsSto w' gs gd bd (N2 + 2) gst bst (Ns + 1) gl q.d ⟨(planP s.rev s.l o).eff.r, applyL (planP s.rev s.l o).eff.it (planP s.rev s.l o).eff.g s.l⟩ q.sz q.dead ev (0 + 1) false) x :=
  sdo_go_c (wb := true) o w h hlt hNs hk hks his HCP (fun _ v hv => by
    have := swrite_ok (planP s.rev s.l o).eff v hv ho hM hN hNs hsz (by omega) hri hrv hap (by rw [hc])
    simp only [hc] at this
    exact this) (fun e => by rw [hwr] at e; cases e)
theorem sdo_wlost_c (o : Ask) (w : World) (h : IsSto w gs gd bd N gst bst Ns gl d s sz ld ev since false) (hlt : ev ≤ since) (ho : d2.Ok M K) (hM : M ≤ 100000000) (hN : N2 < 800000) (hNs : Ns < 800000) (hsz : 0 ≤ sz2 ∧ sz2 ≤ 1099511627776) (hk : Ks s) (hks : o.key.size ≤ maxLen) (his : o.iff.size ≤ maxLen)
    (hwr : (planP s.rev s.l o).wr = true) (hri : (planP s.rev s.l o).eff.right) (hrv : (planP s.rev s.l o).eff.r < 9223372036854775808) {q : WL} {c : Int} (hc0 : c ≠ 0) (hc : waP ⟨d2, sz2, ld2⟩ logN (effL (planP s.rev s.l o).eff) = (c, q))
    (HCP : ∀ v, IsSto v gs gd bd N gst bst Ns gl d s sz ld ev since false → Calls Tryz.prog 22 #[.pointer (some ⟨gs, 0, none⟩)] v fun x w' => x = .returned (.int .i64 0) ∧ Mod (M6 gs gd bd gst bst gl) v w' ∧ IsSto w' gs gd bd N2 gst bst Ns gl d2 s sz2 ld2 ev 0 false) :
    Calls Tryz.prog 18 #[.pointer (some ⟨gs, 0, none⟩), o.v] w fun x w' => DOg w w' lostT (fun w' => Mod (M6 gs gd bd gst bst gl) w w' ∧ IsSto w' gs gd bd (N2 + 2) gst bst Ns gl q.d s q.sz q.dead ev 0 true) x :=
  sdo_go_c (wb := false) o w h hlt hNs hk hks his HCP (fun _ v hv => swrite_lost (planP s.rev s.l o).eff v hv ho hM hN hsz hri hrv hc0 hc) (fun e => by rw [hwr] at e; cases e)
end
end Go.Proofs.YtnkjekkdndjfaaaGreat
namespace Go.Proofs.YtnkjekkdndjfaaaGreat
set_option linter.unusedVariables false
set_option linter.unusedSimpArgs false
open Go.RowKit
theorem m6_below {w w' : World} {B gs gd bd gst bst gl : Nat} (hm : Mod (M6 gs gd bd gst bst gl) w w') (h1 : B ≤ gs) (h2 : B ≤ gd) (h3 : B ≤ bd) (h4 : B ≤ gst) (h5 : B ≤ bst) (h6 : B ≤ gl) (hB : B ≤ w.heap.size) : Below B w w' :=
  hm.toBelow (fun i o hi e => by unfold M6 at e; omega) hB
theorem ldC_none {d : PD} {nm : ByteArray} (h : d.rc nm = 6) : ldC d nm = 6 := by unfold ldC; rw [h, if_neg (by decide)]
theorem bs_none {d : PD} (h : d.rc snapN = 6) : bsC d = 0 ∧ bsS d = ⟨0, []⟩ := by
  unfold bsC bsS
  rw [ldC_none h]
  exact ⟨by rw [if_neg (by decide), if_pos rfl], by rw [if_neg (by decide)]⟩
abbrev aK : ByteArray := ⟨#[97]⟩
abbrev xV : ByteArray := ⟨#[120]⟩
def ak11 : Ask := ⟨3, aK, xV, 0, ⟨#[]⟩, 0⟩
def ag11 : Ask := ⟨1, aK, ⟨#[]⟩, 0, ⟨#[]⟩, 0⟩
def ef11 : Eff := ⟨aK, xV, 1, false⟩
theorem pl11 : planP 0 [] ak11 = ⟨⟨0, 1, ⟨#[]⟩, []⟩, ef11, true⟩ := by kernel_rfl
theorem pg11 : planP 1 [⟨aK, xV, 1⟩] ag11 = ⟨⟨0, 1, xV, []⟩, Eff.zero, false⟩ := by kernel_rfl
theorem ap11 : apOk 0 [] ef11 = true := by kernel_rfl
theorem al11 : applyL ef11.it ef11.g [] = [⟨aK, xV, 1⟩] := by kernel_rfl
theorem ri11 : ef11.right := ⟨by decide, by decide, by decide, by decide, fun h => by cases h⟩
theorem hi11 : ef11.r < 9223372036854775808 := by decide
theorem aK_mx : aK.size ≤ maxLen := by show (1 : Nat) ≤ maxLen; simp only [maxLen]; omega
theorem e_mx : (⟨#[]⟩ : ByteArray).size ≤ maxLen := by show (0 : Nat) ≤ maxLen; simp only [maxLen]; omega
theorem ks11 : Ks ⟨1, [⟨aK, xV, 1⟩]⟩ := by
  intro x hx
  simp at hx
  subst hx
  rfl
theorem ks0 : Ks ⟨0, []⟩ := fun x hx => by cases hx
theorem rp11 : rplS ⟨0, []⟩ [effL ef11] = (0, ⟨1, [⟨aK, xV, 1⟩]⟩) := by
  rw [rplS, if_pos (okE_put ef11 ri11 hi11), rdE_put ef11 ri11 hi11]
  simp only
  rw [if_neg (by decide), if_pos ap11, rplS, al11]
  rfl
theorem len11 : (effL ef11).length = 19 := by rw [effL_length]; rfl
theorem fr11 : (frameL (effL ef11)).length = 27 := by rw [frameL_length, len11]
theorem all11 : AllR (frameL (effL ef11)) [effL ef11] 27 6 := by
  have h := all_frames [effL ef11] (by intro p hp; simp at hp; subst hp; rw [len11]; omega)
  have e : framesL [effL ef11] = frameL (effL ef11) := by simp [framesL]
  rw [e, fr11] at h
  exact h
theorem rc_other {b : List UInt8} {s : Int} {lost armed : Bool} {left : Int} : (pd1 logN b s lost armed left).rc snapN = 6 := by
  unfold PD.rc pd1 rdCode
  rw [show findF [⟨logN, b, none, 0, 0, s⟩] snapN = none from by unfold findF; simp [log_snap]]
  rfl
set_option maxRecDepth 100000 in
set_option maxHeartbeats 4000000 in
theorem awake11 (w : World) : Calls Tryz.prog 11 #[] w fun x w' => x = .returned (.bool true) ∧ Below w.heap.size w w' := by
  go_enter Tryz.func11, Tryz.ntmps11
  go_upto_region 2 with (((with_reducible refine ((pd_new w)).mono ?_); rintro z w1 ⟨gd, bd, rfl, hd, hwb, hbg, hb1⟩))
  have hwd : w.heap.size ≤ gd := by omega
  have HO := sopen_new 10 w1 hd PD.Ok.new (by omega) (by omega) (bs_none (d := PD.new) rfl).1 rfl
  rw [(bs_none (d := PD.new) rfl).2] at HO
  have hB1 := hb1
  clear hd hb1
  go_upto_region 3 with (((with_reducible refine (HO).mono ?_); rintro z w2 ⟨gs, gst, bst, Ns, gl, rfl, hs, hNs, hg, hm2⟩))
  have hz1 := hB1.size
  have hB2 : Below w.heap.size w w2 := hB1.trans (mod2s hm2 hwd hwb hz1)
  rw [show max (10 : Int) 1 = 10 from rfl] at hs
  clear HO hm2 hB1
  -- the first write
  obtain ⟨left1, hla⟩ := la_pd0 (armed := false) (left := 0) logN_lo (effL ef11)
  obtain ⟨hc1, _, ho1⟩ := hla.resolve_right (fun h => by cases h.2.1)
  have hwa : waP ⟨PD.new, 0, false⟩ logN (effL ef11) = (0, ⟨pd1 logN (frameL (effL ef11)) 27 false false left1, 27, false⟩) := by
    rw [waP_go (by rw [len11]; omega)]
    rw [show PD.new = pd0 false false 0 from rfl, hc1, ho1, fr11, len11]
    rfl
  have HD := sdo_write ak11 w2 hs (by omega) PD.Ok.new (by omega) (by omega) (by omega) (by omega) (by omega) ks0 aK_mx e_mx (by rw [pl11]) (by rw [pl11]; exact ri11) (by rw [pl11]; exact hi11) (by rw [pl11]; exact ap11) (q := ⟨pd1 logN (frameL (effL ef11)) 27 false false left1, 27, false⟩) (by rw [pl11]; exact hwa)
  rw [pl11] at HD
  unfold DOg at HD
  try simp only [al11] at HD
  unfold ak11 Ask.v Ask.cells at HD
  try simp only at HD
  clear hla hc1 ho1 hwa
  go_upto_region 4 with (((with_reducible refine (HD).mono ?_); rintro z w3 ⟨A3, n3, c3, rfl, _, hm3, hs3⟩))
  have hB3 := hB2.trans (m6_below hm3 (by omega) hwd hwb (by omega) (by omega) (by omega) hB2.size)
  obtain ⟨h4, hb4⟩ := one_at w3 58 [.int .i64 0, .int .i64 1, .string ⟨#[]⟩, .slice A3 n3 c3]
  have hd4 := hs3.dk.step hb4
  have hB4 := hB3.trans (hb4.mono hB3.size)
  clear HD hm3 hs hs3 hb4 hB2 hB3
  generalize World.alloc w3 _ = w4 at *
  generalize w3.heap.size = g4 at *
  try simp only at hd4
  have hok4 := ok_pd1 (nm := logN) (b := frameL (effL ef11)) (s := 27) (lost := false) (armed := false) (left := left1) logN_hi (by rw [fr11]; omega) hd4.left0
  rw [fr11] at hok4
  obtain ⟨m, hm0, hm1, hcr⟩ := cr_pd1 (nm := logN) (b := frameL (effL ef11)) (s := 27) (lost := false) (armed := false) (left := left1) [] (by rw [fr11]; omega)
  have hm27 : m = 27 := by rw [fr11] at hm1; omega
  subst hm27
  rw [List.take_of_length_le (by rw [fr11]; omega)] at hcr
  have HCR := pd_crash none 0 0 [] w4 hd4 hok4 (by omega) (by omega) (by omega) (fun v _ => (Rd.of_own (World.ownsRow_nil v 0 119 1) : RdK v v.heap.size none 0 0 [])) (by simp)
  rw [hcr] at HCR
  clear hok4 hcr hm0 hm1
  go_upto_region 5 with (((with_reducible refine (HCR).mono ?_); rintro z w5 ⟨rfl, hm5, hd5⟩))
  have h5 := hm5.at h4 (hd4.freeAt h4 (by decide))
  replace hd5 : IsD w5 gd bd 4 (pd1 logN (frameL (effL ef11)) 27 false false 0) := hd5
  have hB5 := hB4.trans (mod2s hm5 hwd hwb hB4.size)
  clear HCR hm5 hd4 h4 hB4
  have hok5 := ok_pd1 (nm := logN) (b := frameL (effL ef11)) (s := 27) (lost := false) (armed := false) (left := 0) logN_hi (by rw [fr11]; omega) (by omega)
  rw [fr11] at hok5
  have hbs := bs_none (d := pd1 logN (frameL (effL ef11)) 27 false false 0) rc_other
  have hmd := mend_pd1 (nm := logN) (b := frameL (effL ef11)) (s := 27) 27 (by rw [fr11]; omega) (by rw [fr11]; omega)
  have hrb : (pd1 logN (frameL (effL ef11)) 27 false false 0).rb logN = frameL (effL ef11) := rb_pd1
  have HO := sopen_log (rs := [effL ef11]) (at_ := 27) (code := 6) (s' := ⟨1, [⟨aK, xV, 1⟩]⟩) 10 w5 hd5 hok5 (by omega) (by omega) hbs.1 rc_pd1 (by rw [hrb]; exact all11) (by rw [hrb]; exact hmd.1) (by rw [hbs.2]; exact rp11)
  rw [hrb, hmd.2, List.take_of_length_le (by rw [fr11]; omega)] at HO
  clear hok5 hbs hmd hrb
  go_upto_region 6 with (((with_reducible refine (HO).mono ?_); rintro z w6 ⟨gs2, gst2, bst2, Ns2, gl2, rfl, hs6, hNs2, hg6, hm6⟩))
  have h6 := hm6.at h5 (hd5.freeAt h5 (by decide))
  have hz5 := hB5.size
  have hB6 := hB5.trans (mod2s hm6 hwd hwb hB5.size)
  rw [show max (10 : Int) 1 = 10 from rfl] at hs6
  clear HO hm6 hd5 h5 hB5
  have HG := sdo_read ag11 w6 hs6 (by omega) (by omega) ks11 aK_mx e_mx (by rw [pg11])
  rw [pg11] at HG
  unfold DOg at HG
  unfold ag11 Ask.v Ask.cells at HG
  try simp only at HG
  go_upto_region 7 with (((with_reducible refine (HG).mono ?_); rintro z w7 ⟨A7, n7, c7, rfl, _, hm7, hs7⟩))
  have h7 := hs6.far h6 (by decide) (by decide) (by decide) (by decide) hm7
  have hB7 := hB6.trans (m6_below hm7 (by omega) hwd hwb (by omega) (by omega) (by omega) hB6.size)
  obtain ⟨h8, hb8⟩ := one_at w7 58 [.int .i64 0, .int .i64 1, .string xV, .slice A7 n7 c7]
  replace h7 := h7.step hb8
  have HB8 := Lib.hid (hB7.trans (hb8.mono hB7.size))
  clear HG hm7 hs6 hs7 h6 hB6 hB7 hb8
  generalize World.alloc w7 _ = w8 at *
  generalize w7.heap.size = g8 at *
  obtain ⟨⟨x0, x1, x2, x3⟩, xf⟩ := at4 h7
  obtain ⟨⟨y0, y1, y2, y3⟩, yf⟩ := at4 h8
  clear h7 h8
  go_wp2_with fail
  go_ret
  exact ⟨rfl, HB8.out⟩
end Go.Proofs.YtnkjekkdndjfaaaGreat
namespace Go.Proofs.YtnkjekkdndjfaaaGreat
set_option linter.unusedVariables false
set_option linter.unusedSimpArgs false
open Go.RowKit
section
variable {w w' : World} {gs gd bd N gst bst Ns gl M K : Nat} {d : PD} {s : SL} {sz ev since : Int} {ld dead : Bool}
/-- the disk is turned: the rest stays -/
theorem IsSto.disk (h : IsSto w gs gd bd N gst bst Ns gl d s sz ld ev since dead) {N' : Nat} {d' : PD} (hm : Mod (fun i _ => i = gd ∨ i = bd) w w') (hd : IsD w' gd bd N' d') : IsSto w' gs gd bd N' gst bst Ns gl d' s sz ld ev since dead :=
  ⟨hm.at h.blk (h.dk.freeAt h.blk (by decide)), hd, h.st.dk h.dk hm h.ne, lg_keep h.lg h.dk hm, h.ne⟩
theorem IsSto.more {N' Ns' : Nat} (h : IsSto w gs gd bd N gst bst Ns gl d s sz ld ev since dead) (hN : N ≤ N') (hNs : Ns ≤ Ns') : IsSto w gs gd bd N' gst bst Ns' gl d s sz ld ev since dead := ⟨h.blk, h.dk.more hN, h.st.more hNs, h.lg, h.ne⟩
set_option maxRecDepth 100000 in
set_option maxHeartbeats 4000000 in
theorem scompact_ok {q : WL} (w : World) (h : IsSto w gs gd bd N gst bst Ns gl d s sz ld ev since false) (ho : d.Ok M K) (hM : M ≤ 1000000) (hK : K ≤ 90000) (hN : N < 800000) (hNs : Ns ≤ 100000) (hx : ∀ x ∈ s.l, smallI x) (h0 : 0 ≤ s.rev) (h1 : s.rev < 9223372036854775808) (hlen : (stL s.rev s.l).length ≤ 1000000)
    (hc : (svO d (spF snapN) snapN (stL s.rev s.l)).code = 0) (hq : wcP ⟨d.out (svO d (spF snapN) snapN (stL s.rev s.l)), sz, ld⟩ logN = (0, q)) :
    Calls Tryz.prog 22 #[.pointer (some ⟨gs, 0, none⟩)] w fun x w' => x = .returned (.int .i64 0) ∧ Mod (M6 gs gd bd gst bst gl) w w' ∧ IsSto w' gs gd bd (N + 6) gst bst Ns gl q.d s q.sz q.dead ev 0 false := by
  have HPS := putstate_any w h.st hNs hx h0 h1
  have hok1 := sv_ok (b := stL s.rev s.l) ho (by rw [spF_size]; exact snapN_hi) snapN_mx
  have HSV := fun (A : Option Addr) (n c : Nat) (v : World) (hd : IsD v gd bd N d) (hr : RdB v v.heap.size A n c (stL s.rev s.l)) (hn : n ≤ 1000000) => save_any (P := A) (n := n) (pc := c) snapN_lo snapN_hi v hd ho (by omega) (by omega) (by omega) hr hn
  rw [slL_len] at hok1
  obtain ⟨o, hoo⟩ : ∃ o, svO d (spF snapN) snapN (stL s.rev s.l) = o := ⟨_, rfl⟩
  rw [hoo] at hc hq hok1 
  simp only [hoo] at HSV
  unfold SV at HSV
  simp only [hc] at HSV
  have HCL := fun (v : World) (hw : IsW v gl gd bd (N + 4) logN ⟨d.out o, sz, ld⟩) => wclear_any ⟨d.out o, sz, ld⟩ logN_hi v hw hok1 (by omega) (by omega)
  rw [hq] at HCL
  unfold WP at HCL
  simp only at HCL
  obtain ⟨bl, hbl⟩ : ∃ bl, stL s.rev s.l = bl := ⟨_, rfl⟩
  rw [hbl] at HPS hlen
  simp only [hbl] at HSV
  clear hoo hok1 ho hx h0 h1 hq hc hbl
  obtain ⟨⟨x0, x1, x2, x3, x4, x5⟩, xf0, xf1, xf2, xf3, xf4, xf5⟩ := at6 h.blk
  have hm : Mod (M6 gs gd bd gst bst gl) w w := Mod.refl _ w
  go_enter Tryz.func22, Tryz.ntmps22
  go_upto_region 6 with (((with_reducible refine (HPS).mono ?_); rintro z w1 ⟨A, n, c, rfl, hown, hb1⟩))
  have hnl : bl.length = n := hown.length
  have hrd := hown.rd
  replace h := h.step hb1
  replace hm := hm.below hb1
  have HS1 := HSV A n c w1 h.dk hrd (by omega)
  clear HPS HSV hown hb1 x0 x1 x2 x3 x4 x5 xf0 xf1 xf2 xf3 xf4 xf5
  obtain ⟨⟨x0, x1, x2, x3, x4, x5⟩, xf0, xf1, xf2, xf3, xf4, xf5⟩ := at6 h.blk
  go_upto_region 8 with (((with_reducible refine (HS1).mono ?_); rintro z w2 ⟨rfl, hm2, hd2⟩))
  replace hm := hm.trans (hm2.mono (M := M6 gs gd bd gst bst gl) fun i o _ _ e => by unfold M6; omega)
  replace h := h.disk hm2 hd2
  have HC1 := HCL w2 ⟨h.lg, h.dk⟩
  clear HS1 HCL hm2 hd2 hrd x0 x1 x2 x3 x4 x5 xf0 xf1 xf2 xf3 xf4 xf5
  obtain ⟨⟨x0, x1, x2, x3, x4, x5⟩, xf0, xf1, xf2, xf3, xf4, xf5⟩ := at6 h.blk
  go_upto_region 10 with (((with_reducible refine (HC1).mono ?_); rintro z w3 ⟨rfl, hm3, hw3⟩))
  replace hm := hm.trans (hm3.mono (M := M6 gs gd bd gst bst gl) fun i o _ _ e => by unfold M6; omega)
  replace h := h.log hm3 hw3
  clear HC1 hm3 hw3 x0 x1 x2 x3 x4 x5 xf0 xf1 xf2 xf3 xf4 xf5
  obtain ⟨⟨x0, x1, x2, x3, x4, x5⟩, xf0, xf1, xf2, xf3, xf4, xf5⟩ := at6 h.blk
  obtain ⟨h5, hG5⟩ := At.many [(5, .bool false)] h.blk
  dsimp only [setMany, setL, List.set] at h5 hG5
  have hm5 := mod_one hG5
  replace h := h.own hm5 h5
  replace hm := hm.trans (hm5.mono (M := M6 gs gd bd gst bst gl) fun i o _ _ e => by unfold M6; omega)
  clear hG5 hm5 h5
  go_upto_region 11 with fail
  clear x0 x1 x2 x3 x4 x5 xf0 xf1 xf2 xf3 xf4 xf5
  generalize World.setCell _ _ _ = w4 at *
  obtain ⟨⟨x0, x1, x2, x3, x4, x5⟩, xf0, xf1, xf2, xf3, xf4, xf5⟩ := at6 h.blk
  obtain ⟨h5, hG5⟩ := At.many [(4, .int .i64 0)] h.blk
  dsimp only [setMany, setL, List.set] at h5 hG5
  have hm5 := mod_one hG5
  have H5 := Lib.hid (h.own hm5 h5)
  have HM := Lib.hid (hm.trans (hm5.mono (M := M6 gs gd bd gst bst gl) fun i o _ _ e => by unfold M6; omega))
  clear hG5 hm5 h5 h hm
  go_wp2_with fail
  go_ret
  exact ⟨rfl, HM.out, H5.out⟩
set_option maxRecDepth 100000 in
set_option maxHeartbeats 4000000 in
theorem scompact_sv {c0 : Int} (w : World) (h : IsSto w gs gd bd N gst bst Ns gl d s sz ld ev since false) (ho : d.Ok M K) (hM : M ≤ 1000000) (hK : K ≤ 90000) (hN : N < 800000) (hNs : Ns ≤ 100000) (hx : ∀ x ∈ s.l, smallI x) (h0 : 0 ≤ s.rev) (h1 : s.rev < 9223372036854775808) (hlen : (stL s.rev s.l).length ≤ 1000000)
    (hc0 : c0 ≠ 0) (hc : (svO d (spF snapN) snapN (stL s.rev s.l)).code = c0) :
    Calls Tryz.prog 22 #[.pointer (some ⟨gs, 0, none⟩)] w fun x w' => x = .returned (.int .i64 c0) ∧ Mod (M6 gs gd bd gst bst gl) w w' ∧ IsSto w' gs gd bd (N + 6) gst bst Ns gl (d.out (svO d (spF snapN) snapN (stL s.rev s.l))) s sz ld ev since true := by
  have HPS := putstate_any w h.st hNs hx h0 h1
  have hc1 : (c0 != 0) = true := by simpa using hc0
  have hc2 : (c0 == 0) = false := by simpa using hc0
  have HSV := fun (A : Option Addr) (n c : Nat) (v : World) (hd : IsD v gd bd N d) (hr : RdB v v.heap.size A n c (stL s.rev s.l)) (hn : n ≤ 1000000) => save_any (P := A) (n := n) (pc := c) snapN_lo snapN_hi v hd ho (by omega) (by omega) (by omega) hr hn
  obtain ⟨o, hoo⟩ : ∃ o, svO d (spF snapN) snapN (stL s.rev s.l) = o := ⟨_, rfl⟩
  rw [hoo] at hc ⊢
  simp only [hoo] at HSV
  unfold SV at HSV
  simp only [hc] at HSV
  obtain ⟨bl, hbl⟩ : ∃ bl, stL s.rev s.l = bl := ⟨_, rfl⟩
  rw [hbl] at HPS hlen
  simp only [hbl] at HSV
  clear hoo ho hx h0 h1 hc hbl
  obtain ⟨⟨x0, x1, x2, x3, x4, x5⟩, xf0, xf1, xf2, xf3, xf4, xf5⟩ := at6 h.blk
  have hm : Mod (M6 gs gd bd gst bst gl) w w := Mod.refl _ w
  go_enter Tryz.func22, Tryz.ntmps22
  go_upto_region 6 with (((with_reducible refine (HPS).mono ?_); rintro z w1 ⟨A, n, c, rfl, hown, hb1⟩))
  have hnl : bl.length = n := hown.length
  have hrd := hown.rd
  replace h := h.step hb1
  replace hm := hm.below hb1
  have HS1 := HSV A n c w1 h.dk hrd (by omega)
  clear HPS HSV hown hb1 x0 x1 x2 x3 x4 x5 xf0 xf1 xf2 xf3 xf4 xf5
  obtain ⟨⟨x0, x1, x2, x3, x4, x5⟩, xf0, xf1, xf2, xf3, xf4, xf5⟩ := at6 h.blk
  go_upto_region 10 with (((with_reducible refine (HS1).mono ?_); rintro z w2 ⟨rfl, hm2, hd2⟩))
  replace hm := hm.trans (hm2.mono (M := M6 gs gd bd gst bst gl) fun i o _ _ e => by unfold M6; omega)
  replace h := (h.disk hm2 hd2).more (show N + 4 ≤ N + 6 by omega) (Nat.le_refl Ns)
  clear HS1 hm2 hd2 hrd x0 x1 x2 x3 x4 x5 xf0 xf1 xf2 xf3 xf4 xf5
  obtain ⟨⟨x0, x1, x2, x3, x4, x5⟩, xf0, xf1, xf2, xf3, xf4, xf5⟩ := at6 h.blk
  obtain ⟨h5, hG5⟩ := At.many [(5, .bool true)] h.blk
  dsimp only [setMany, setL, List.set] at h5 hG5
  have hm5 := mod_one hG5
  replace h := h.own hm5 h5
  replace hm := hm.trans (hm5.mono (M := M6 gs gd bd gst bst gl) fun i o _ _ e => by unfold M6; omega)
  clear hG5 hm5 h5
  go_upto_region 11 with fail
  clear x0 x1 x2 x3 x4 x5 xf0 xf1 xf2 xf3 xf4 xf5
  generalize World.setCell _ _ _ = w4 at *
  obtain ⟨⟨x0, x1, x2, x3, x4, x5⟩, xf0, xf1, xf2, xf3, xf4, xf5⟩ := at6 h.blk
  have H5 := Lib.hid h
  have HM := Lib.hid hm
  clear h hm
  go_wp2_with fail
  go_ret
  exact ⟨rfl, HM.out, H5.out⟩
set_option maxRecDepth 100000 in
set_option maxHeartbeats 4000000 in
theorem scompact_cl {q : WL} {c0 : Int} (w : World) (h : IsSto w gs gd bd N gst bst Ns gl d s sz ld ev since false) (ho : d.Ok M K) (hM : M ≤ 1000000) (hK : K ≤ 90000) (hN : N < 800000) (hNs : Ns ≤ 100000) (hx : ∀ x ∈ s.l, smallI x) (h0 : 0 ≤ s.rev) (h1 : s.rev < 9223372036854775808) (hlen : (stL s.rev s.l).length ≤ 1000000)
    (hc : (svO d (spF snapN) snapN (stL s.rev s.l)).code = 0) (hc0 : c0 ≠ 0) (hq : wcP ⟨d.out (svO d (spF snapN) snapN (stL s.rev s.l)), sz, ld⟩ logN = (c0, q)) :
    Calls Tryz.prog 22 #[.pointer (some ⟨gs, 0, none⟩)] w fun x w' => x = .returned (.int .i64 c0) ∧ Mod (M6 gs gd bd gst bst gl) w w' ∧ IsSto w' gs gd bd (N + 6) gst bst Ns gl q.d s q.sz q.dead ev since true := by
  have hc1 : (c0 != 0) = true := by simpa using hc0
  have hc2 : (c0 == 0) = false := by simpa using hc0
  have HPS := putstate_any w h.st hNs hx h0 h1
  have hok1 := sv_ok (b := stL s.rev s.l) ho (by rw [spF_size]; exact snapN_hi) snapN_mx
  have HSV := fun (A : Option Addr) (n c : Nat) (v : World) (hd : IsD v gd bd N d) (hr : RdB v v.heap.size A n c (stL s.rev s.l)) (hn : n ≤ 1000000) => save_any (P := A) (n := n) (pc := c) snapN_lo snapN_hi v hd ho (by omega) (by omega) (by omega) hr hn
  rw [slL_len] at hok1
  obtain ⟨o, hoo⟩ : ∃ o, svO d (spF snapN) snapN (stL s.rev s.l) = o := ⟨_, rfl⟩
  rw [hoo] at hc hq hok1 
  simp only [hoo] at HSV
  unfold SV at HSV
  simp only [hc] at HSV
  have HCL := fun (v : World) (hw : IsW v gl gd bd (N + 4) logN ⟨d.out o, sz, ld⟩) => wclear_any ⟨d.out o, sz, ld⟩ logN_hi v hw hok1 (by omega) (by omega)
  rw [hq] at HCL
  unfold WP at HCL
  simp only at HCL
  obtain ⟨bl, hbl⟩ : ∃ bl, stL s.rev s.l = bl := ⟨_, rfl⟩
  rw [hbl] at HPS hlen
  simp only [hbl] at HSV
  clear hoo hok1 ho hx h0 h1 hq hc hbl
  obtain ⟨⟨x0, x1, x2, x3, x4, x5⟩, xf0, xf1, xf2, xf3, xf4, xf5⟩ := at6 h.blk
  have hm : Mod (M6 gs gd bd gst bst gl) w w := Mod.refl _ w
  go_enter Tryz.func22, Tryz.ntmps22
  go_upto_region 6 with (((with_reducible refine (HPS).mono ?_); rintro z w1 ⟨A, n, c, rfl, hown, hb1⟩))
  have hnl : bl.length = n := hown.length
  have hrd := hown.rd
  replace h := h.step hb1
  replace hm := hm.below hb1
  have HS1 := HSV A n c w1 h.dk hrd (by omega)
  clear HPS HSV hown hb1 x0 x1 x2 x3 x4 x5 xf0 xf1 xf2 xf3 xf4 xf5
  obtain ⟨⟨x0, x1, x2, x3, x4, x5⟩, xf0, xf1, xf2, xf3, xf4, xf5⟩ := at6 h.blk
  go_upto_region 8 with (((with_reducible refine (HS1).mono ?_); rintro z w2 ⟨rfl, hm2, hd2⟩))
  replace hm := hm.trans (hm2.mono (M := M6 gs gd bd gst bst gl) fun i o _ _ e => by unfold M6; omega)
  replace h := h.disk hm2 hd2
  have HC1 := HCL w2 ⟨h.lg, h.dk⟩
  clear HS1 HCL hm2 hd2 hrd x0 x1 x2 x3 x4 x5 xf0 xf1 xf2 xf3 xf4 xf5
  obtain ⟨⟨x0, x1, x2, x3, x4, x5⟩, xf0, xf1, xf2, xf3, xf4, xf5⟩ := at6 h.blk
  go_upto_region 10 with (((with_reducible refine (HC1).mono ?_); rintro z w3 ⟨rfl, hm3, hw3⟩))
  replace hm := hm.trans (hm3.mono (M := M6 gs gd bd gst bst gl) fun i o _ _ e => by unfold M6; omega)
  replace h := h.log hm3 hw3
  clear HC1 hm3 hw3 x0 x1 x2 x3 x4 x5 xf0 xf1 xf2 xf3 xf4 xf5
  obtain ⟨⟨x0, x1, x2, x3, x4, x5⟩, xf0, xf1, xf2, xf3, xf4, xf5⟩ := at6 h.blk
  obtain ⟨h5, hG5⟩ := At.many [(5, .bool true)] h.blk
  dsimp only [setMany, setL, List.set] at h5 hG5
  have hm5 := mod_one hG5
  replace h := h.own hm5 h5
  replace hm := hm.trans (hm5.mono (M := M6 gs gd bd gst bst gl) fun i o _ _ e => by unfold M6; omega)
  clear hG5 hm5 h5
  go_upto_region 11 with fail
  clear x0 x1 x2 x3 x4 x5 xf0 xf1 xf2 xf3 xf4 xf5
  generalize World.setCell _ _ _ = w4 at *
  obtain ⟨⟨x0, x1, x2, x3, x4, x5⟩, xf0, xf1, xf2, xf3, xf4, xf5⟩ := at6 h.blk
  have H5 := Lib.hid h
  have HM := Lib.hid hm
  clear h hm
  go_wp2_with fail
  go_ret
  exact ⟨rfl, HM.out, H5.out⟩
end
end Go.Proofs.YtnkjekkdndjfaaaGreat
