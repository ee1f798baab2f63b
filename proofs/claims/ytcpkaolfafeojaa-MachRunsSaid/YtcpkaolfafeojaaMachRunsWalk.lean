
/- The law MachRuns: the Go function returns true, whatever is asked, however often. -/
import Derived.Test.YtcpkaolfafeojaaRun19
import Derived.Test.YtcpkaolfafeojaaKvItems9
import Derived.Test.YtcpkaolfafeojaaOpenAsk
namespace Go.Proofs.Ytcpkaolfafeojaa
set_option linter.unusedVariables false
set_option linter.unusedSimpArgs false
open Go.RowKit
section
variable {P : Program} {ops : Array Oper} {Q : Exit → Act → World → Prop} {md : Region.Mode} {b : Nat}
theorem stage_three (i j k : Nat) {w : World} {fuel : Nat} {listed : Array Bool} {a : Act} {oi oj ok : Oper} (hr : Region.ready md ops listed = [i, j, k]) (hoi : ops[i]? = some oi) (hoj : ops[j]? = some oj) (hok : ops[k]? = some ok) (hib : (i == b) = false) (hjb : (j == b) = false) (hkb : (k == b) = false)
    (h1 : ∀ K' : Act → World → Prop, Shut (∀ a w', Below w.heap.size w w' → wpAnyT P md ops Q (Till w') b fuel (listed.setIfInBounds i true) a w' → K' a w') → if Region.wanted oi (yielded ops a.tmps) = true then Oper.wp P oi a w K' Q else K' (a.put oi.dst undef) w)
    (h2 : ∀ K' : Act → World → Prop, Shut (∀ a w', Below w.heap.size w w' → wpAnyT P md ops Q (Till w') b fuel (listed.setIfInBounds j true) a w' → K' a w') → if Region.wanted oj (yielded ops a.tmps) = true then Oper.wp P oj a w K' Q else K' (a.put oj.dst undef) w)
    (h3 : ∀ K' : Act → World → Prop, Shut (∀ a w', Below w.heap.size w w' → wpAnyT P md ops Q (Till w') b fuel (listed.setIfInBounds k true) a w' → K' a w') → if Region.wanted ok (yielded ops a.tmps) = true then Oper.wp P ok a w K' Q else K' (a.put ok.dst undef) w) :
    wpAnyT P md ops Q (Till w) b (fuel + 1) listed a w := by
  refine ⟨fun h0 => (by rw [h0] at hr; cases hr), fun n hn => ?_⟩
  rw [hr] at hn
  simp only [List.mem_cons, List.not_mem_nil, or_false] at hn
  have hi : ¬ i = b := by simpa using hib
  have hj : ¬ j = b := by simpa using hjb
  have hk : ¬ k = b := by simpa using hkb
  rcases hn with rfl | rfl | rfl
  · exact wpOp_step hoi fun K' hK => h1 K' fun a w' hb hw => hK a w' (by
      rw [if_neg hi]
      exact ⟨hb, wpAnyT_mono (fun w2 h2 => hb.trans (Below.mono h2 hb.size)) _ _ _ _ hw⟩)
  · exact wpOp_step hoj fun K' hK => h2 K' fun a w' hb hw => hK a w' (by
      rw [if_neg hj]
      exact ⟨hb, wpAnyT_mono (fun w2 h2 => hb.trans (Below.mono h2 hb.size)) _ _ _ _ hw⟩)
  · exact wpOp_step hok fun K' hK => h3 K' fun a w' hb hw => hK a w' (by
      rw [if_neg hk]
      exact ⟨hb, wpAnyT_mono (fun w2 h2 => hb.trans (Below.mono h2 hb.size)) _ _ _ _ hw⟩)
end
theorem applyL_le (e : It) (d : Bool) {l : List It} (h : Asc l) : (applyL e d l).length ≤ l.length + 1 := by
  have h1 := applyL_length e d h
  split at h1 <;> split at h1 <;> omega
theorem stS_len (M : List Ask) : ∀ k, k ≤ M.length → M.length ≤ 100000 → (stS M k).2.length ≤ k
  | 0, _, _ => by simp [stS_zero]
  | k + 1, h, hl => by
    have hi := stS_inv M k (by omega) hl
    have ih := stS_len M k (by omega) hl
    rw [stS_succ (show k < M.length by omega)]
    have hlo := hi.lo
    have hhi := hi.hi
    rw [doSt_eq hlo (by omega)]
    split
    · exact Nat.le_trans (applyL_le _ _ hi.asc) (by omega)
    · exact Nat.le_succ_of_le ih
/-- what stands behind the run -/
structure RunF (w0 w : World) (gc gp g b B Bt m : Nat) (M : List Ask) (rs : List Res) (A2 : Option Addr) (c2 : Nat) : Prop where
  ch : ChSt w w gc gp B M rs m
  st : IsSt w g b m (stS M m).1 (stS M m).2
  tl : ToldAt w Bt rs M
  ow : OwnR9 w B A2 M.length c2 M
  be : Below B w0 w
  hB : B ≤ w.heap.size
def Alien (t : TypeId) : Prop := t ≠ 49 ∧ t ≠ 114 ∧ t ≠ 32 ∧ t ≠ 37 ∧ t ≠ 127 ∧ t ≠ 97 ∧ t ≠ 40
section
variable {w0 w w' : World} {gc gp g b B Bt m : Nat} {M : List Ask} {rs : List Res} {A2 : Option Addr} {c2 : Nat}
theorem RunF.step (h : RunF w0 w gc gp g b B Bt m M rs A2 c2) (hb : Below w.heap.size w w') : RunF w0 w' gc gp g b B Bt m M rs A2 c2 :=
  ⟨(h.ch.below hb).rebase, h.st.step hb, h.tl.below hb, h.ow.below hb, h.be.trans (hb.mono h.hB), Nat.le_trans h.hB hb.size⟩
theorem RunF.drew (h : RunF w0 w gc gp g b B Bt m M rs A2 c2) : RunF w0 w.drew gc gp g b B Bt m M rs A2 c2 := h.step (Below.drew (Below.refl _ _))
theorem ChSt.otherR {g n : Nat} {t : TypeId} {cs : List Value} (h : ChSt w0 w gc gp B M rs n) (hx : At w g t cs) (hm : Mod (fun k _ => k = g) w w')
    (ht : t ≠ 49 ∧ t ≠ 114 ∧ t ≠ 32 ∧ t ≠ 37) : ChSt w' w' gc gp B M rs n := by
  obtain ⟨⟨Al, nl, cl, Ad, nt, ct, hc⟩, hp, _⟩ := h
  refine ⟨⟨Al, nl, cl, Ad, nt, ct, hm.at hc.at_ fun e => (hx.ne hc.at_ ht.2.2.1) e.symm, own_mod hc.l hm fun i o ho hi hit => isT_at hx ho hit ht.2.2.2.symm, own_mod hc.told hm fun i o ho hi hit => isT_at hx ho hit ht.1.symm, hc.bc, hc.bp, hc.len, hc.small⟩, ?_, Mod.refl _ _⟩
  unfold ProcNext at *
  split
  · rename_i hl; rw [dif_pos hl] at hp; exact hm.at hp fun e => (hx.ne hp ht.2.1) e.symm
  · rename_i hl; rw [dif_neg hl] at hp; exact hm.at hp fun e => (hx.ne hp ht.2.1) e.symm
theorem RunF.other (h : RunF w0 w gc gp g b B Bt m M rs A2 c2) {gx : Nat} {t : TypeId} {cs : List Value} (hx : At w gx t cs) (hm : Mod (fun k _ => k = gx) w w') (hg : B ≤ gx) (ht : Alien t) : RunF w0 w' gc gp g b B Bt m M rs A2 c2 := by
  obtain ⟨t1, t2, t3, t4, t5, t6, t7⟩ := ht
  refine ⟨h.ch.otherR hx hm ⟨t1, t2, t3, t4⟩, ⟨hm.at h.st.at_ (fun e => (hx.ne h.st.at_ t5) e.symm), ?_, h.st.ne⟩, fun i hi => ⟨(h.tl i hi).code, (h.tl i hi).rev, (h.tl i hi).val, own_mod (show World.ownsRow _ _ _ _ _ _ _ from (h.tl i hi).own) hm fun i o ho _ hit => isT_at hx ho hit t6.symm⟩,
    own_mod (show World.ownsRow _ _ _ _ _ _ _ from h.ow) hm fun i o ho _ hit => isT_at hx ho hit t7.symm, h.be.trans (hm.toBelow (fun i o hi e => by omega) h.hB), Nat.le_trans h.hB hm.size⟩
  obtain ⟨D, ⟨es, clock, hb, r⟩, h2⟩ := h.st.mp
  refine ⟨D, ⟨es, clock, hm.block b _ hb fun e => ?_, r⟩, h2⟩
  have hy := hx
  unfold At at hy
  rw [← e, hb] at hy
  injection hy with hy
  cases hy
/-- what a run leaves alone -/
theorem run_free {n : Nat} (h : ChSt w0 w gc gp B M rs n) {N : Nat} {rev : Int} {l : List It} (hst : IsSt w g b N rev l) {i : Nat} {o : Obj} {t : TypeId} (ho : w.heap[i]? = some o) (hit : IsT t o)
    (ht : t ≠ 49 ∧ t ≠ 114 ∧ t ≠ 32 ∧ t ≠ 127) : ¬ RCond gc gp g b B i o := by
  obtain ⟨o2, f, a, hp⟩ := h.proc
  obtain ⟨⟨Al, nl, cl, Ad, nt, ct, hc⟩, _⟩ := h
  rintro (e | e | ⟨_, e⟩ | e)
  · exact isT_at hc.at_ ho hit ht.2.2.1 e
  · exact isT_at hp ho hit ht.2.1 e
  · exact ht.1 (isT_uniq hit e)
  · exact st_free hst ho hit ht.2.2.2 e
end
theorem cutL_fits {L : List Ask} {n : Nat} (hf : ∀ o ∈ L, o.fits) : ∀ o ∈ cutL L n, o.key.size ≤ 140 ∧ o.iff.size ≤ maxLen := by
  intro o ho
  unfold cutL at ho
  obtain ⟨x, hx, rfl⟩ := List.mem_map.1 ho
  exact ⟨cutS_size _ _, (hf x (List.mem_of_mem_take hx)).2.2.2.2.1⟩
theorem alien_st : Alien 81 := by unfold Alien; decide
theorem alien_re : Alien 83 := by unfold Alien; decide
set_option maxRecDepth 100000 in
set_option maxHeartbeats 4000000 in
theorem machRuns_walk {Al : Option Addr} {nl cl : Nat} {L : List Ask} {most : Int} (w : World) (hl : Rd w w.heap.size 6 Al nl cl (L.flatMap Ask.row)) (hf : ∀ o ∈ L, o.fits) :
    Calls Try.prog 16 #[.slice Al nl cl, .int .i64 most] w fun x w' => x = .returned (.bool true) ∧ Below w.heap.size w w' := by
  have hours := ours19_any Al nl cl L w hl
  have hfm := cutL_fits (n := min L.length 20) hf
  have hlen : (cutL L (min L.length 20)).length = min L.length 20 := cutL_length (by omega)
  have h20 : (cutL L (min L.length 20)).length ≤ 20 := by omega
  generalize cutL L (min L.length 20) = M at *
  rw [← hlen] at hours
  clear hl hf hlen
  go_enter Try.func16, Try.ntmps16
  go_upto_region 2 with (((with_reducible refine (hours).mono ?_); rintro z w1 ⟨A1, c1, A2, c2, rfl, h1, h2, hb⟩))
  go_upto_region 3 with (((with_reducible refine ((mnew_any w1)).mono ?_); rintro z w2 ⟨rfl, hP, hw2'⟩); (have hw2 := Lib.hid hw2'); (clear hw2'))
  have hb2 : Below w1.heap.size w1 w2 := by rw [hw2.out]; exact (Below.refl _ _).alloc (Nat.le_refl _) _
  have hz2 : w2.heap.size = w1.heap.size + 1 := by rw [hw2.out]; simp
  have hbz := hb.size
  replace h1 := h1.below hb2
  replace h2 := h2.below hb2
  replace hb := chain hb hb2
  clear hw2 hb2 hours
  generalize hgp : w1.heap.size = gp at *
  obtain ⟨hc, hb3⟩ := one_at w2 32 (ChainCells gp A1 M.length c1 none 0 0)
  replace h1 := h1.below hb3
  replace h2 := h2.below hb3
  replace hP := At.below hP hb3
  replace hb := chain hb hb3
  have hgc : w.heap.size ≤ w2.heap.size := by omega
  unfold ChainCells at *
  clear hgp hz2 hb3
  generalize World.alloc w2 _ = w3 at *
  generalize w2.heap.size = gc at *
  have hC : ChainAt w3 gc gp w.heap.size M [] A1 M.length c1 none 0 0 := ⟨hc, by
    obtain ⟨x, y⟩ := h1
    refine ⟨x, y.imp id ?_⟩
    rintro ⟨g, cap, cur, e1, e2, e3⟩
    exact ⟨g, cap, cur, e1, Nat.zero_le _, e3⟩, World.ownsRow_nil _ _ _ _, hgc, hbz, h20, by simp⟩
  have HNX := next_st w w3 _ _ _ _ _ _ 0 hC hP (Mod.mono (Mod.of_below hb (Nat.le_refl _)) fun i o hi _ e => by omega)
  go_upto_region 4 with (((with_reducible refine (HNX).mono ?_); rintro z w4 ⟨rfl, hS, hm4⟩))
  replace h2 : OwnR9 w4 w.heap.size A2 M.length c2 M := own_mod (show World.ownsRow _ _ _ _ _ _ _ from h2) hm4 fun i o ho hi hit => isT_at hP ho hit (by decide)
  replace hb := hb.trans (hm4.toBelow (B := w.heap.size) (fun i o hi e => by omega) hb.size)
  clear HNX h1 hP hc hC hm4
  go_upto_region 5 with (((with_reducible refine ((new_st w4)).mono ?_); rintro z w5 ⟨g, b, rfl, hst, hwb, hbg, hb5⟩))
  have hwb2 : w.heap.size ≤ b := Nat.le_trans hb.size hwb
  obtain ⟨h9, hb6⟩ := one_at w5 81 [.int .i64 0, .slice none 0 0]
  have hS6 := (((hS.below hb5).below hb6)).rebase
  replace hst := hst.step hb6
  replace h2 := (h2.below hb5).below hb6
  have hgs : w.heap.size ≤ w5.heap.size := Nat.le_trans hb.size hb5.size
  replace hb := chain (chain hb hb5) hb6
  have hs6 : w5.heap.size + 1 ≤ (World.alloc w5 (.cells #[.int .i64 0, .slice none 0 0] 81)).heap.size := by simp
  clear hb5 hb6 hS hwb hbz
  generalize World.alloc w5 _ = w6 at *
  generalize w5.heap.size = gs at *
  have hcl := hS6.cell
  have hcg := hS6.lt
  have HRUN := run_any most w6 hS6 hst hfm h20 _ rfl
  unfold doV RunR at HRUN
  obtain ⟨m, hm⟩ : ∃ m, min M.length most.toNat = m := ⟨_, rfl⟩
  rw [hm] at HRUN
  have HM := Lib.hid hm
  have hmM : m ≤ M.length := by omega
  clear hm
  obtain ⟨dn, hdn⟩ : ∃ dn, decide (M.length ≤ m) = dn := ⟨_, rfl⟩
  rw [hdn] at HRUN
  have HDN := Lib.hid hdn
  clear hdn
  go_upto_region 6 with (((with_reducible refine (HRUN).mono ?_); rintro z w7 ⟨rfl, hmod, rs, hrs, hS7, hst7, htl7⟩))
  have h97 := hmod.at h9 (run_free hS6 hst h9 (by rfl) (by decide))
  have h27 : OwnR9 w7 w.heap.size A2 M.length c2 M := own_mod (show World.ownsRow _ _ _ _ _ _ _ from h2) hmod (fun i o ho _ hit => run_free hS6 hst ho hit (by decide))
  have hbb : Below w.heap.size w6 w7 := by
    obtain ⟨⟨_, _, _, _, _, _, hcc⟩, _⟩ := hS6
    refine hmod.toBelow (fun i o hi e => ?_) hb.size
    have h1 := hcc.bc
    have h2 := hcc.bp
    rcases e with e | e | ⟨e, _⟩ | e | e <;> omega
  have HF := Lib.hid (RunF.mk hS7 hst7 htl7 h27 (hb.trans hbb) (Nat.le_trans hb.size hmod.size))
  have H9 := Lib.hid h97
  have HRS := Lib.hid hrs
  obtain ⟨B2, hBe⟩ : ∃ B2, B2 = gs + 1 := ⟨_, rfl⟩
  have hgB : gs < B2 := by omega
  have hB0 : B2 ≤ w7.heap.size := by have := hmod.size; omega
  have HB0 := Lib.hid hB0
  clear HRUN hcl hcg hS7 hst7 htl7 h27 hbb h97 hrs hBe hB0 hmod hst hS6 h9 h2 hb hs6
  generalize w6.heap.size = Bt at *
  go_wp2_with fail
  go_loopw [11] (fun i wr => ∃ (k n4 c4 : Nat) (A4 : Option Addr), i = .int .i64 (k : Int) ∧ k ≤ m ∧ RunF w wr gc gp g b w.heap.size Bt m M rs A2 c2 ∧ At wr gs 81 [.int .i64 (stS M k).1, .slice A4 n4 c4] ∧ OwnRI wr B2 A4 n4 c4 (stS M k).2 ∧ B2 ≤ wr.heap.size) (fun i _ => m - (intOf i).toNat)
  case atStart => exact ⟨0, 0, 0, none, rfl, Nat.zero_le _, HF.out, H9.out, OwnRI.nil, HB0.out⟩
  case round =>
    clear HF H9 HB0
    obtain ⟨k, n4, c4, A4, rfl, hk, hF, h9, hown, hB2⟩ := hrel
    by_cases hkm : k < m
    · have hlt : k < M.length := by omega
      have hmo : (k : Int) < most := by have := HM.out; omega
      obtain ⟨ga, oa, e, hga, he⟩ := (Rd.of_own hF.ow).elem Ask.row_length (by omega) (k := k) hlt
      subst e
      have hinv := stS_inv M k (by omega) (by omega)
      have hsu := stS_succ hlt
      have htk := tlS_at hlt
      have hsl := stS_len M k (by omega) (by omega)
      obtain ⟨s, hs0⟩ : ∃ s, stS M k = s := ⟨_, rfl⟩
      obtain ⟨rev, l⟩ := s
      rw [hs0] at hinv hsu htk h9 hown hsl
      simp only at hinv hsu htk h9 hown hsl
      clear hs0
      have hn4 : n4 ≤ 1000000 := by
        have h1 := OwnRI.len hown
        omega
      generalize M[k] = y at *
      have HRD := fun w2 (h : OwnRI w2 B2 A4 n4 c4 l) (hs : B2 ≤ w2.heap.size) => rdo_any A4 n4 c4 B2 l rev y w2 h hs hn4 hinv.lo (by have := hinv.hi; omega)
      unfold RDoR at HRD
      have HSU := Lib.hid hsu
      have HTK := Lib.hid htk
      clear hsu htk hinv
      generalize planP rev l y = pl at *
      generalize doSt rev l y = ds at *
      obtain ⟨⟨tc, tr, tv, ti⟩, pe, pw⟩ := pl
      obtain ⟨rev', l'⟩ := ds
      obtain ⟨ki, kk, v, r, i, j⟩ := y
      unfold Ask.v Ask.cells at HRD
      simp only at HRD HTK HSU
      have HRD := Lib.hid HRD
      go_upto_region 8 with fail
      refine region_any (by kernel_rfl) ?_
      change wpAny _ _ _ _ _ _ _ (World.drew _)
      replace hF := hF.drew
      replace h9 := h9.drew
      replace hown := (show wr.drew.ownsRow _ _ _ _ _ _ from hown)
      replace hB2 : B2 ≤ wr.drew.heap.size := hB2
      replace hga : ga < wr.drew.heap.size := hga
      replace he : ∀ r2 u, (Ask.row ⟨ki, kk, v, r, i, j⟩)[r2]? = some u → wr.drew.cell? ⟨ga, oa + k * 6 + r2, none⟩ = some u := he
      generalize World.drew _ = v1 at *
      have e0 := he 0 _ rfl
      have e1 := he 1 _ rfl
      have e2 := he 2 _ rfl
      have e3 := he 3 _ rfl
      have e4 := he 4 _ rfl
      have e5 := he 5 _ rfl
      rw [Nat.add_zero] at e0
      obtain ⟨⟨s0, s1⟩, sf⟩ := at2 h9
      have l9 := h9.lt
      clear he
      refine stage 11 ?_
      refine stage_read (i := 0) (v := ?_) rfl (by kernel_rfl) (by kernel_rfl) (by kernel_rfl) (by kernel_rfl) (by kernel_rfl) (by kernel_rfl) (fun _ _ _ h => h) (Or.inl ⟨by kernel_rfl, ?_⟩) ?_
      rotate_left
      · (intro wS hwS; obtain ⟨hcS, hfS, hhS⟩ := bcell hwS; go_simp; try (first | (with_reducible rfl) | rw [if_pos (by omega)] | rw [if_neg (by omega)]))
      try simp only [Act.put, List.getElem_toArray, List.getElem_cons_succ, List.getElem_cons_zero, List.setIfInBounds_toArray, List.set_cons_zero, List.set_cons_succ]
      refine stage_read (i := 1) (v := ?_) rfl (by kernel_rfl) (by kernel_rfl) (by kernel_rfl) (by kernel_rfl) (by kernel_rfl) (by kernel_rfl) (fun _ _ _ h => h) (Or.inl ⟨by kernel_rfl, ?_⟩) ?_
      rotate_left
      · (intro wS hwS; obtain ⟨hcS, hfS, hhS⟩ := bcell hwS; go_simp; try (first | (with_reducible rfl) | rw [if_pos (by omega)] | rw [if_neg (by omega)]))
      try simp only [Act.put, List.getElem_toArray, List.getElem_cons_succ, List.getElem_cons_zero, List.setIfInBounds_toArray, List.set_cons_zero, List.set_cons_succ]
      refine stage_read (i := 2) (v := ?_) rfl (by kernel_rfl) (by kernel_rfl) (by kernel_rfl) (by kernel_rfl) (by kernel_rfl) (by kernel_rfl) (fun _ _ _ h => h) (Or.inl ⟨by kernel_rfl, ?_⟩) ?_
      rotate_left
      · (intro wS hwS; obtain ⟨hcS, hfS, hhS⟩ := bcell hwS; go_simp; try (first | (with_reducible rfl) | rw [if_pos (by omega)] | rw [if_neg (by omega)]))
      try simp only [Act.put, List.getElem_toArray, List.getElem_cons_succ, List.getElem_cons_zero, List.setIfInBounds_toArray, List.set_cons_zero, List.set_cons_succ]
      refine stage_read (i := 3) (v := ?_) rfl (by kernel_rfl) (by kernel_rfl) (by kernel_rfl) (by kernel_rfl) (by kernel_rfl) (by kernel_rfl) (fun _ _ _ h => h) (Or.inl ⟨by kernel_rfl, ?_⟩) ?_
      rotate_left
      · (intro wS hwS; obtain ⟨hcS, hfS, hhS⟩ := bcell hwS; go_simp; try (first | (with_reducible rfl) | rw [if_pos (by omega)] | rw [if_neg (by omega)]))
      try simp only [Act.put, List.getElem_toArray, List.getElem_cons_succ, List.getElem_cons_zero, List.setIfInBounds_toArray, List.set_cons_zero, List.set_cons_succ]
      refine stage_read (i := 4) (v := ?_) rfl (by kernel_rfl) (by kernel_rfl) (by kernel_rfl) (by kernel_rfl) (by kernel_rfl) (by kernel_rfl) (fun _ _ _ h => h) (Or.inl ⟨by kernel_rfl, ?_⟩) ?_
      rotate_left
      · (intro wS hwS; obtain ⟨hcS, hfS, hhS⟩ := bcell hwS; go_simp; try (first | (with_reducible rfl) | rw [if_pos (by omega)] | rw [if_neg (by omega)]))
      try simp only [Act.put, List.getElem_toArray, List.getElem_cons_succ, List.getElem_cons_zero, List.setIfInBounds_toArray, List.set_cons_zero, List.set_cons_succ]
      clear e0 e1 e2 e3 e4 e5 s0 s1 sf l9 hga
      refine stage_three 5 9 10 (by kernel_rfl) rfl rfl rfl (by kernel_rfl) (by kernel_rfl) (by kernel_rfl) (fun K hK => ?_) (fun K hK => ?_) (fun K hK => ?_)
      ·
        skip
        go_simp
        refine (HRD.out _ hown hB2).mono ?_
        rintro z v2 ⟨A5, n5, c5, A6, n6, c6, rfl, hown5, hown6', hbn⟩
        refine hK.out _ _ (hbn) ?_
        clear hK K
        try simp only [Act.put, List.getElem_toArray, List.getElem_cons_succ, List.getElem_cons_zero, List.setIfInBounds_toArray, List.set_cons_zero, List.set_cons_succ]
        have hown6 := OwnRI.lower hown6' hB2
        replace hF := hF.step hbn
        replace h9 := h9.step hbn
        replace hB2 := Nat.le_trans hB2 hbn.size
        try replace h12 := h12.step hbn
        try replace h13 := h13.step hbn
        clear hbn hown6' hown
        refine stage_read (i := 6) (v := ?_) rfl (by kernel_rfl) (by kernel_rfl) (by kernel_rfl) (by kernel_rfl) (by kernel_rfl) (by kernel_rfl) (fun _ _ _ h => h) (Or.inl ⟨by kernel_rfl, ?_⟩) ?_
        rotate_left
        · (intro wS hwS; obtain ⟨hcS, hfS, hhS⟩ := bcell hwS; go_simp; try (first | (with_reducible rfl) | rw [if_pos (by omega)] | rw [if_neg (by omega)]))
        try simp only [Act.put, List.getElem_toArray, List.getElem_cons_succ, List.getElem_cons_zero, List.setIfInBounds_toArray, List.set_cons_zero, List.set_cons_succ]
        refine stage_read (i := 7) (v := ?_) rfl (by kernel_rfl) (by kernel_rfl) (by kernel_rfl) (by kernel_rfl) (by kernel_rfl) (by kernel_rfl) (fun _ _ _ h => h) (Or.inl ⟨by kernel_rfl, ?_⟩) ?_
        rotate_left
        · (intro wS hwS; obtain ⟨hcS, hfS, hhS⟩ := bcell hwS; go_simp; try (first | (with_reducible rfl) | rw [if_pos (by omega)] | rw [if_neg (by omega)]))
        try simp only [Act.put, List.getElem_toArray, List.getElem_cons_succ, List.getElem_cons_zero, List.setIfInBounds_toArray, List.set_cons_zero, List.set_cons_succ]
        refine stage_pure (i := 8) (v := ?_) rfl (by kernel_rfl) (by kernel_rfl) (by kernel_rfl) (by kernel_rfl) (by kernel_rfl) (fun _ _ _ h => h) (Or.inl ⟨by kernel_rfl, ?_⟩) ?_
        rotate_left
        · (intro wS; go_simp; try (first | (with_reducible rfl) | rw [if_pos (by omega)] | rw [if_neg (by omega)]))
        try simp only [Act.put, List.getElem_toArray, List.getElem_cons_succ, List.getElem_cons_zero, List.setIfInBounds_toArray, List.set_cons_zero, List.set_cons_succ]
        refine stage_two 9 10 (by kernel_rfl) rfl rfl (by kernel_rfl) (by kernel_rfl) (fun K hK => ?_) (fun K hK => ?_)
        ·
          skip
          go_simp
          obtain ⟨hnew, hbn⟩ := one_at v2 81 [.int .i64 0, .slice none 0 0]
          refine hK.out _ _ (hbn) ?_
          clear hK K
          try simp only [Act.put, List.getElem_toArray, List.getElem_cons_succ, List.getElem_cons_zero, List.setIfInBounds_toArray, List.set_cons_zero, List.set_cons_succ]
          have hg12 := hB2
          replace hF := hF.step hbn
          replace h9 := h9.step hbn
          replace hB2 := Nat.le_trans hB2 hbn.size
          try replace hown := OwnRI.step hown hbn
          try replace hown5 := OwnRI.step hown5 hbn
          try replace hown6 := OwnRI.step hown6 hbn
          try replace h12 := h12.step hbn
          try replace h13 := h13.step hbn
          clear hbn
          have h12 := hnew
          clear hnew
          generalize World.alloc v2 _ = v3 at *
          generalize v2.heap.size = g12 at *
          refine stage_one 10 (by kernel_rfl) rfl (by kernel_rfl) (fun K hK => ?_)
          go_simp
          obtain ⟨hnew, hbn⟩ := one_at v3 83 [.int .i64 0, .int .i64 0, .string ⟨#[]⟩, .slice none 0 0]
          refine hK.out _ _ (hbn) ?_
          clear hK K
          try simp only [Act.put, List.getElem_toArray, List.getElem_cons_succ, List.getElem_cons_zero, List.setIfInBounds_toArray, List.set_cons_zero, List.set_cons_succ]
          have hg13 := hB2
          replace hF := hF.step hbn
          replace h9 := h9.step hbn
          replace hB2 := Nat.le_trans hB2 hbn.size
          try replace hown := OwnRI.step hown hbn
          try replace hown5 := OwnRI.step hown5 hbn
          try replace hown6 := OwnRI.step hown6 hbn
          try replace h12 := h12.step hbn
          try replace h13 := h13.step hbn
          clear hbn
          have h13 := hnew
          clear hnew
          generalize World.alloc v3 _ = v4 at *
          generalize v3.heap.size = g13 at *
          obtain ⟨⟨z0, z1⟩, zf0, zf1⟩ := at2 h12
          have l12 := h12.lt
          have hn5 := OwnRI.len hown5
          subst hn5

          refine stage_end (by kernel_rfl) rfl (fun K hK => ?_)
          go_simp
          refine hK.out _ _ ?_
          clear hK K
          try simp only [Act.put, List.getElem_toArray, List.getElem_cons_succ, List.getElem_cons_zero, List.setIfInBounds_toArray, List.set_cons_zero, List.set_cons_succ]
          obtain ⟨hm12, hG⟩ := At.many [(0, .int .i64 rev'), (1, .slice A5 l'.length c5)] h12
          dsimp only [setMany, setL, List.set] at hm12 hG
          have hmG := (grown_mod hG).mono (N := fun i _ => some g12 = some i) (M := fun k _ => k = g12) (fun i o _ _ e => (Option.some.inj e).symm)
          have hne := h12.ne h13 (by decide)
          replace hF := hF.other h12 hmG (by omega) alien_st
          replace h9 := h9.only hG (by omega)
          replace h13 := h13.only hG (Ne.symm hne)
          replace hown5 := own_mod (show World.ownsRow _ _ _ _ _ _ _ from hown5) hmG (fun i o ho _ hit => isT_at h12 ho hit (by decide))
          replace hown6 := own_mod (show World.ownsRow _ _ _ _ _ _ _ from hown6) hmG (fun i o ho _ hit => isT_at h12 ho hit (by decide))
          replace hB2 := Nat.le_trans hB2 hG.size
          clear z0 z1 zf0 zf1 l12 hG hmG h12
          generalize World.setCell _ _ _ = v11 at *
          obtain ⟨⟨z0, z1, z2, z3⟩, zf0, zf1, zf2, zf3⟩ := at4 h13
          have l13 := h13.lt
          refine stage 12 ?_

          refine stage_end (by kernel_rfl) rfl (fun K hK => ?_)
          go_simp
          refine hK.out _ _ ?_
          clear hK K
          try simp only [Act.put, List.getElem_toArray, List.getElem_cons_succ, List.getElem_cons_zero, List.setIfInBounds_toArray, List.set_cons_zero, List.set_cons_succ]
          first | refine wpAnyT_done (by kernel_rfl) ?_ _ | refine wpAny_done (by kernel_rfl) ?_ _
          obtain ⟨hm13, hG⟩ := At.many [(0, .int .i64 tc), (1, .int .i64 tr), (2, .string tv), (3, .slice A6 n6 c6)] h13
          dsimp only [setMany, setL, List.set] at hm13 hG
          have hmG := (grown_mod hG).mono (N := fun i _ => some g13 = some i) (M := fun k _ => k = g13) (fun i o _ _ e => (Option.some.inj e).symm)
          replace hF := hF.other h13 hmG (by omega) alien_re
          replace h9 := h9.only hG (by omega)
          replace hm12 := hm12.only hG hne
          replace hown5 := own_mod (show World.ownsRow _ _ _ _ _ _ _ from hown5) hmG (fun i o ho _ hit => isT_at h13 ho hit (by decide))
          replace hown6 := own_mod (show World.ownsRow _ _ _ _ _ _ _ from hown6) hmG (fun i o ho _ hit => isT_at h13 ho hit (by decide))
          replace hB2 := Nat.le_trans hB2 hG.size
          clear z0 z1 z2 z3 zf0 zf1 zf2 zf3 l13 hG hmG h13 hne
          generalize World.setCell _ _ _ = v12 at *
          obtain ⟨⟨z0, z1⟩, zf0, zf1⟩ := at2 hm12
          obtain ⟨⟨s0, s1⟩, sf0, sf1⟩ := at2 h9
          go_upto_region 10 with fail
          obtain ⟨hm9, hG⟩ := At.many [(0, .int .i64 rev'), (1, .slice A5 l'.length c5)] h9
          dsimp only [setMany, setL, List.set] at hm9 hG
          have hmG := (grown_mod hG).mono (N := fun i _ => some gs = some i) (M := fun k _ => k = gs) (fun i o _ _ e => (Option.some.inj e).symm)
          replace hF := hF.other h9 hmG (by omega) alien_st
          replace hm13 := hm13.only hG (by omega)
          replace hown5 := own_mod (show World.ownsRow _ _ _ _ _ _ _ from hown5) hmG (fun i o ho _ hit => isT_at h9 ho hit (by decide))
          replace hown6 := own_mod (show World.ownsRow _ _ _ _ _ _ _ from hown6) hmG (fun i o ho _ hit => isT_at h9 ho hit (by decide))
          replace hB2 := Nat.le_trans hB2 hG.size
          clear z0 z1 zf0 zf1 s0 s1 sf0 sf1 hG hmG h9 hm12
          generalize World.setCell _ _ _ = v13 at *
          refine region_any (by kernel_rfl) ?_
          change wpAny _ _ _ _ _ _ _ (World.drew _)
          replace hF := hF.drew
          replace hm9 := hm9.drew
          replace hm13 := hm13.drew
          replace hown5 := (show v13.drew.ownsRow _ _ _ _ _ _ from hown5)
          replace hown6 := (show v13.drew.ownsRow _ _ _ _ _ _ from hown6)
          replace hB2 : B2 ≤ v13.drew.heap.size := hB2
          generalize World.drew _ = v14 at *
          obtain ⟨At', ct', hct, htr⟩ := hF.ch.told
          have htl := hF.tl k (by rw [HRS.out]; exact hkm)
          obtain ⟨gt, ot, e, hgt, het⟩ := (Rd.of_own htr).elem Res.row_length (by omega) (k := k) (by rw [HRS.out]; exact hkm)
          have hgc2 := hF.ch.lt
          have hlec := (Rd.of_own htr).le
          have hmaxc := (Rd.of_own htr).max
          unfold maxLen at hmaxc
          rw [HRS.out] at hct hlec
          subst e
          rw [HTK.out] at htl
          have hkr : k < rs.length := by rw [HRS.out]; exact hkm
          generalize rs[k]'hkr = q at *
          obtain ⟨qc, qr, qv, qA, qn, qcc⟩ := q
          obtain ⟨t1, t2, t3, t4⟩ := htl
          simp only at t1 t2 t3 t4
          subst t1 t2 t3
          have r0 := het 0 _ rfl
          have r1 := het 1 _ rfl
          have r2 := het 2 _ rfl
          have r3 := het 3 _ rfl
          rw [Nat.add_zero] at r0
          clear het htr
          obtain ⟨⟨z0, z1, z2, z3⟩, zf⟩ := at4 hm13
          have l13 := hm13.lt
          have hq1 : decide (m ≤ k) = false := decide_eq_false (by omega)
          have hq2 : decide ((m : Int) ≤ (k : Int)) = false := decide_eq_false (by omega)
          refine stage 100000 ?_
          refine stage_read (i := 0) (v := ?_) rfl (by kernel_rfl) (by kernel_rfl) (by kernel_rfl) (by kernel_rfl) (by kernel_rfl) (by kernel_rfl) (fun _ _ _ h => h) (Or.inl ⟨by kernel_rfl, ?_⟩) ?_
          rotate_left
          · (intro wS hwS; obtain ⟨hcS, hfS, hhS⟩ := bcell hwS; go_simp; try (first | (with_reducible rfl) | rw [if_pos (by omega)] | rw [if_neg (by omega)]))
          try simp only [Act.put, List.getElem_toArray, List.getElem_cons_succ, List.getElem_cons_zero, List.setIfInBounds_toArray, List.set_cons_zero, List.set_cons_succ]
          refine stage_read (i := 1) (v := ?_) rfl (by kernel_rfl) (by kernel_rfl) (by kernel_rfl) (by kernel_rfl) (by kernel_rfl) (by kernel_rfl) (fun _ _ _ h => h) (Or.inl ⟨by kernel_rfl, ?_⟩) ?_
          rotate_left
          · (intro wS hwS; obtain ⟨hcS, hfS, hhS⟩ := bcell hwS; go_simp; try (first | (with_reducible rfl) | rw [if_pos (by omega)] | rw [if_neg (by omega)]))
          try simp only [Act.put, List.getElem_toArray, List.getElem_cons_succ, List.getElem_cons_zero, List.setIfInBounds_toArray, List.set_cons_zero, List.set_cons_succ]
          refine stage_read (i := 2) (v := ?_) rfl (by kernel_rfl) (by kernel_rfl) (by kernel_rfl) (by kernel_rfl) (by kernel_rfl) (by kernel_rfl) (fun _ _ _ h => h) (Or.inl ⟨by kernel_rfl, ?_⟩) ?_
          rotate_left
          · (intro wS hwS; obtain ⟨hcS, hfS, hhS⟩ := bcell hwS; go_simp; try (first | (with_reducible rfl) | rw [if_pos (by omega)] | rw [if_neg (by omega)]))
          try simp only [Act.put, List.getElem_toArray, List.getElem_cons_succ, List.getElem_cons_zero, List.setIfInBounds_toArray, List.set_cons_zero, List.set_cons_succ]
          refine stage_read (i := 3) (v := ?_) rfl (by kernel_rfl) (by kernel_rfl) (by kernel_rfl) (by kernel_rfl) (by kernel_rfl) (by kernel_rfl) (fun _ _ _ h => h) (Or.inl ⟨by kernel_rfl, ?_⟩) ?_
          rotate_left
          · (intro wS hwS; obtain ⟨hcS, hfS, hhS⟩ := bcell hwS; go_simp; try (first | (with_reducible rfl) | rw [if_pos (by omega)] | rw [if_neg (by omega)]))
          try simp only [Act.put, List.getElem_toArray, List.getElem_cons_succ, List.getElem_cons_zero, List.setIfInBounds_toArray, List.set_cons_zero, List.set_cons_succ]
          refine stage_read (i := 4) (v := ?_) rfl (by kernel_rfl) (by kernel_rfl) (by kernel_rfl) (by kernel_rfl) (by kernel_rfl) (by kernel_rfl) (fun _ _ _ h => h) (Or.inl ⟨by kernel_rfl, ?_⟩) ?_
          rotate_left
          · (intro wS hwS; obtain ⟨hcS, hfS, hhS⟩ := bcell hwS; go_simp; try (first | (with_reducible rfl) | rw [if_pos (by omega)] | rw [if_neg (by omega)]))
          try simp only [Act.put, List.getElem_toArray, List.getElem_cons_succ, List.getElem_cons_zero, List.setIfInBounds_toArray, List.set_cons_zero, List.set_cons_succ]
          refine stage_read (i := 5) (v := ?_) rfl (by kernel_rfl) (by kernel_rfl) (by kernel_rfl) (by kernel_rfl) (by kernel_rfl) (by kernel_rfl) (fun _ _ _ h => h) (Or.inl ⟨by kernel_rfl, ?_⟩) ?_
          rotate_left
          · (intro wS hwS; obtain ⟨hcS, hfS, hhS⟩ := bcell hwS; go_simp; try (first | (with_reducible rfl) | rw [if_pos (by omega)] | rw [if_neg (by omega)]))
          try simp only [Act.put, List.getElem_toArray, List.getElem_cons_succ, List.getElem_cons_zero, List.setIfInBounds_toArray, List.set_cons_zero, List.set_cons_succ]
          refine stage_read (i := 6) (v := ?_) rfl (by kernel_rfl) (by kernel_rfl) (by kernel_rfl) (by kernel_rfl) (by kernel_rfl) (by kernel_rfl) (fun _ _ _ h => h) (Or.inl ⟨by kernel_rfl, ?_⟩) ?_
          rotate_left
          · (intro wS hwS; obtain ⟨hcS, hfS, hhS⟩ := bcell hwS; go_simp; try (first | (with_reducible rfl) | rw [if_pos (by omega)] | rw [if_neg (by omega)]))
          try simp only [Act.put, List.getElem_toArray, List.getElem_cons_succ, List.getElem_cons_zero, List.setIfInBounds_toArray, List.set_cons_zero, List.set_cons_succ]
          refine stage_read (i := 7) (v := ?_) rfl (by kernel_rfl) (by kernel_rfl) (by kernel_rfl) (by kernel_rfl) (by kernel_rfl) (by kernel_rfl) (fun _ _ _ h => h) (Or.inl ⟨by kernel_rfl, ?_⟩) ?_
          rotate_left
          · (intro wS hwS; obtain ⟨hcS, hfS, hhS⟩ := bcell hwS; go_simp; try (first | (with_reducible rfl) | rw [if_pos (by omega)] | rw [if_neg (by omega)]))
          try simp only [Act.put, List.getElem_toArray, List.getElem_cons_succ, List.getElem_cons_zero, List.setIfInBounds_toArray, List.set_cons_zero, List.set_cons_succ]
          refine stage_read (i := 8) (v := ?_) rfl (by kernel_rfl) (by kernel_rfl) (by kernel_rfl) (by kernel_rfl) (by kernel_rfl) (by kernel_rfl) (fun _ _ _ h => h) (Or.inl ⟨by kernel_rfl, ?_⟩) ?_
          rotate_left
          · (intro wS hwS; obtain ⟨hcS, hfS, hhS⟩ := bcell hwS; go_simp; try (first | (with_reducible rfl) | rw [if_pos (by omega)] | rw [if_neg (by omega)]))
          try simp only [Act.put, List.getElem_toArray, List.getElem_cons_succ, List.getElem_cons_zero, List.setIfInBounds_toArray, List.set_cons_zero, List.set_cons_succ]
          refine stage_read (i := 9) (v := ?_) rfl (by kernel_rfl) (by kernel_rfl) (by kernel_rfl) (by kernel_rfl) (by kernel_rfl) (by kernel_rfl) (fun _ _ _ h => h) (Or.inl ⟨by kernel_rfl, ?_⟩) ?_
          rotate_left
          · (intro wS hwS; obtain ⟨hcS, hfS, hhS⟩ := bcell hwS; go_simp; try (first | (with_reducible rfl) | rw [if_pos (by omega)] | rw [if_neg (by omega)]))
          try simp only [Act.put, List.getElem_toArray, List.getElem_cons_succ, List.getElem_cons_zero, List.setIfInBounds_toArray, List.set_cons_zero, List.set_cons_succ]
          refine stage_read (i := 10) (v := ?_) rfl (by kernel_rfl) (by kernel_rfl) (by kernel_rfl) (by kernel_rfl) (by kernel_rfl) (by kernel_rfl) (fun _ _ _ h => h) (Or.inl ⟨by kernel_rfl, ?_⟩) ?_
          rotate_left
          · (intro wS hwS; obtain ⟨hcS, hfS, hhS⟩ := bcell hwS; go_simp; try (first | (with_reducible rfl) | rw [if_pos (by omega)] | rw [if_neg (by omega)]))
          try simp only [Act.put, List.getElem_toArray, List.getElem_cons_succ, List.getElem_cons_zero, List.setIfInBounds_toArray, List.set_cons_zero, List.set_cons_succ]
          refine stage_read (i := 11) (v := ?_) rfl (by kernel_rfl) (by kernel_rfl) (by kernel_rfl) (by kernel_rfl) (by kernel_rfl) (by kernel_rfl) (fun _ _ _ h => h) (Or.inl ⟨by kernel_rfl, ?_⟩) ?_
          rotate_left
          · (intro wS hwS; obtain ⟨hcS, hfS, hhS⟩ := bcell hwS; go_simp; try (first | (with_reducible rfl) | rw [if_pos (by omega)] | rw [if_neg (by omega)]))
          try simp only [Act.put, List.getElem_toArray, List.getElem_cons_succ, List.getElem_cons_zero, List.setIfInBounds_toArray, List.set_cons_zero, List.set_cons_succ]
          refine stage_read (i := 12) (v := ?_) rfl (by kernel_rfl) (by kernel_rfl) (by kernel_rfl) (by kernel_rfl) (by kernel_rfl) (by kernel_rfl) (fun _ _ _ h => h) (Or.inl ⟨by kernel_rfl, ?_⟩) ?_
          rotate_left
          · (intro wS hwS; obtain ⟨hcS, hfS, hhS⟩ := bcell hwS; go_simp; try (first | (with_reducible rfl) | rw [if_pos (by omega)] | rw [if_neg (by omega)]))
          try simp only [Act.put, List.getElem_toArray, List.getElem_cons_succ, List.getElem_cons_zero, List.setIfInBounds_toArray, List.set_cons_zero, List.set_cons_succ]
          refine stage_read (i := 13) (v := ?_) rfl (by kernel_rfl) (by kernel_rfl) (by kernel_rfl) (by kernel_rfl) (by kernel_rfl) (by kernel_rfl) (fun _ _ _ h => h) (Or.inl ⟨by kernel_rfl, ?_⟩) ?_
          rotate_left
          · (intro wS hwS; obtain ⟨hcS, hfS, hhS⟩ := bcell hwS; go_simp; try (first | (with_reducible rfl) | rw [if_pos (by omega)] | rw [if_neg (by omega)]))
          try simp only [Act.put, List.getElem_toArray, List.getElem_cons_succ, List.getElem_cons_zero, List.setIfInBounds_toArray, List.set_cons_zero, List.set_cons_succ]
          refine stage_read (i := 14) (v := ?_) rfl (by kernel_rfl) (by kernel_rfl) (by kernel_rfl) (by kernel_rfl) (by kernel_rfl) (by kernel_rfl) (fun _ _ _ h => h) (Or.inl ⟨by kernel_rfl, ?_⟩) ?_
          rotate_left
          · (intro wS hwS; obtain ⟨hcS, hfS, hhS⟩ := bcell hwS; go_simp; try (first | (with_reducible rfl) | rw [if_pos (by omega)] | rw [if_neg (by omega)]))
          try simp only [Act.put, List.getElem_toArray, List.getElem_cons_succ, List.getElem_cons_zero, List.setIfInBounds_toArray, List.set_cons_zero, List.set_cons_succ]
          refine stage_read (i := 15) (v := ?_) rfl (by kernel_rfl) (by kernel_rfl) (by kernel_rfl) (by kernel_rfl) (by kernel_rfl) (by kernel_rfl) (fun _ _ _ h => h) (Or.inl ⟨by kernel_rfl, ?_⟩) ?_
          rotate_left
          · (intro wS hwS; obtain ⟨hcS, hfS, hhS⟩ := bcell hwS; go_simp; try (first | (with_reducible rfl) | rw [if_pos (by omega)] | rw [if_neg (by omega)]))
          try simp only [Act.put, List.getElem_toArray, List.getElem_cons_succ, List.getElem_cons_zero, List.setIfInBounds_toArray, List.set_cons_zero, List.set_cons_succ]
          refine stage_one 16 (by kernel_rfl) rfl (by kernel_rfl) (fun K hK => ?_)
          go_simp
          refine (same9_any qA A6 qn qcc n6 c6 _ _ _ _ _ (OwnI.rd t4) (OwnRI.rd hown6)).mono ?_
          rintro z v15 ⟨rfl, hbn⟩
          refine hK.out _ _ (hbn) ?_
          clear hK K
          try simp only [Act.put, List.getElem_toArray, List.getElem_cons_succ, List.getElem_cons_zero, List.setIfInBounds_toArray, List.set_cons_zero, List.set_cons_succ]
          replace hF := hF.step hbn
          replace hm9 := hm9.step hbn
          replace hown5 := OwnRI.step hown5 hbn
          replace hB2 := Nat.le_trans hB2 hbn.size
          clear hct hgt hgc2 hlec hmaxc r0 r1 r2 r3 z0 z1 z2 z3 zf l13 hbn t4 hown6 hm13
          refine stage_read (i := 17) (v := ?_) rfl (by kernel_rfl) (by kernel_rfl) (by kernel_rfl) (by kernel_rfl) (by kernel_rfl) (by kernel_rfl) (fun _ _ _ h => h) (Or.inl ⟨by kernel_rfl, ?_⟩) ?_
          rotate_left
          · (intro wS hwS; obtain ⟨hcS, hfS, hhS⟩ := bcell hwS; go_simp; try (first | (with_reducible rfl) | rw [if_pos (by omega)] | rw [if_neg (by omega)]))
          try simp only [Act.put, List.getElem_toArray, List.getElem_cons_succ, List.getElem_cons_zero, List.setIfInBounds_toArray, List.set_cons_zero, List.set_cons_succ]
          refine stage_read (i := 18) (v := ?_) rfl (by kernel_rfl) (by kernel_rfl) (by kernel_rfl) (by kernel_rfl) (by kernel_rfl) (by kernel_rfl) (fun _ _ _ h => h) (Or.inl ⟨by kernel_rfl, ?_⟩) ?_
          rotate_left
          · (intro wS hwS; obtain ⟨hcS, hfS, hhS⟩ := bcell hwS; go_simp; try (first | (with_reducible rfl) | rw [if_pos (by omega)] | rw [if_neg (by omega)]))
          try simp only [Act.put, List.getElem_toArray, List.getElem_cons_succ, List.getElem_cons_zero, List.setIfInBounds_toArray, List.set_cons_zero, List.set_cons_succ]
          first | refine wpAnyT_done (by kernel_rfl) ?_ _ | refine wpAny_done (by kernel_rfl) ?_ _
          clear hq1 hq2
          have HF := Lib.hid hF
          have HO := Lib.hid hown5
          have H9 := Lib.hid hm9
          clear hF hown5 hm9
          go_wp2_with fail
          go_roundw
          case rel => exact ⟨k + 1, l'.length, c5, A5, by go_num, by omega, HF.out, by rw [HSU.out]; exact H9.out, by rw [HSU.out]; exact HO.out, hB2⟩
          case measure => simp [intOf]; omega
        ·
          skip
          go_simp
          obtain ⟨hnew, hbn⟩ := one_at v2 83 [.int .i64 0, .int .i64 0, .string ⟨#[]⟩, .slice none 0 0]
          refine hK.out _ _ (hbn) ?_
          clear hK K
          try simp only [Act.put, List.getElem_toArray, List.getElem_cons_succ, List.getElem_cons_zero, List.setIfInBounds_toArray, List.set_cons_zero, List.set_cons_succ]
          have hg13 := hB2
          replace hF := hF.step hbn
          replace h9 := h9.step hbn
          replace hB2 := Nat.le_trans hB2 hbn.size
          try replace hown := OwnRI.step hown hbn
          try replace hown5 := OwnRI.step hown5 hbn
          try replace hown6 := OwnRI.step hown6 hbn
          try replace h12 := h12.step hbn
          try replace h13 := h13.step hbn
          clear hbn
          have h13 := hnew
          clear hnew
          generalize World.alloc v2 _ = v3 at *
          generalize v2.heap.size = g13 at *
          refine stage_one 9 (by kernel_rfl) rfl (by kernel_rfl) (fun K hK => ?_)
          go_simp
          obtain ⟨hnew, hbn⟩ := one_at v3 81 [.int .i64 0, .slice none 0 0]
          refine hK.out _ _ (hbn) ?_
          clear hK K
          try simp only [Act.put, List.getElem_toArray, List.getElem_cons_succ, List.getElem_cons_zero, List.setIfInBounds_toArray, List.set_cons_zero, List.set_cons_succ]
          have hg12 := hB2
          replace hF := hF.step hbn
          replace h9 := h9.step hbn
          replace hB2 := Nat.le_trans hB2 hbn.size
          try replace hown := OwnRI.step hown hbn
          try replace hown5 := OwnRI.step hown5 hbn
          try replace hown6 := OwnRI.step hown6 hbn
          try replace h12 := h12.step hbn
          try replace h13 := h13.step hbn
          clear hbn
          have h12 := hnew
          clear hnew
          generalize World.alloc v3 _ = v4 at *
          generalize v3.heap.size = g12 at *
          obtain ⟨⟨z0, z1⟩, zf0, zf1⟩ := at2 h12
          have l12 := h12.lt
          have hn5 := OwnRI.len hown5
          subst hn5

          refine stage_end (by kernel_rfl) rfl (fun K hK => ?_)
          go_simp
          refine hK.out _ _ ?_
          clear hK K
          try simp only [Act.put, List.getElem_toArray, List.getElem_cons_succ, List.getElem_cons_zero, List.setIfInBounds_toArray, List.set_cons_zero, List.set_cons_succ]
          obtain ⟨hm12, hG⟩ := At.many [(0, .int .i64 rev'), (1, .slice A5 l'.length c5)] h12
          dsimp only [setMany, setL, List.set] at hm12 hG
          have hmG := (grown_mod hG).mono (N := fun i _ => some g12 = some i) (M := fun k _ => k = g12) (fun i o _ _ e => (Option.some.inj e).symm)
          have hne := h12.ne h13 (by decide)
          replace hF := hF.other h12 hmG (by omega) alien_st
          replace h9 := h9.only hG (by omega)
          replace h13 := h13.only hG (Ne.symm hne)
          replace hown5 := own_mod (show World.ownsRow _ _ _ _ _ _ _ from hown5) hmG (fun i o ho _ hit => isT_at h12 ho hit (by decide))
          replace hown6 := own_mod (show World.ownsRow _ _ _ _ _ _ _ from hown6) hmG (fun i o ho _ hit => isT_at h12 ho hit (by decide))
          replace hB2 := Nat.le_trans hB2 hG.size
          clear z0 z1 zf0 zf1 l12 hG hmG h12
          generalize World.setCell _ _ _ = v11 at *
          obtain ⟨⟨z0, z1, z2, z3⟩, zf0, zf1, zf2, zf3⟩ := at4 h13
          have l13 := h13.lt
          refine stage 12 ?_

          refine stage_end (by kernel_rfl) rfl (fun K hK => ?_)
          go_simp
          refine hK.out _ _ ?_
          clear hK K
          try simp only [Act.put, List.getElem_toArray, List.getElem_cons_succ, List.getElem_cons_zero, List.setIfInBounds_toArray, List.set_cons_zero, List.set_cons_succ]
          first | refine wpAnyT_done (by kernel_rfl) ?_ _ | refine wpAny_done (by kernel_rfl) ?_ _
          obtain ⟨hm13, hG⟩ := At.many [(0, .int .i64 tc), (1, .int .i64 tr), (2, .string tv), (3, .slice A6 n6 c6)] h13
          dsimp only [setMany, setL, List.set] at hm13 hG
          have hmG := (grown_mod hG).mono (N := fun i _ => some g13 = some i) (M := fun k _ => k = g13) (fun i o _ _ e => (Option.some.inj e).symm)
          replace hF := hF.other h13 hmG (by omega) alien_re
          replace h9 := h9.only hG (by omega)
          replace hm12 := hm12.only hG hne
          replace hown5 := own_mod (show World.ownsRow _ _ _ _ _ _ _ from hown5) hmG (fun i o ho _ hit => isT_at h13 ho hit (by decide))
          replace hown6 := own_mod (show World.ownsRow _ _ _ _ _ _ _ from hown6) hmG (fun i o ho _ hit => isT_at h13 ho hit (by decide))
          replace hB2 := Nat.le_trans hB2 hG.size
          clear z0 z1 z2 z3 zf0 zf1 zf2 zf3 l13 hG hmG h13 hne
          generalize World.setCell _ _ _ = v12 at *
          obtain ⟨⟨z0, z1⟩, zf0, zf1⟩ := at2 hm12
          obtain ⟨⟨s0, s1⟩, sf0, sf1⟩ := at2 h9
          go_upto_region 10 with fail
          obtain ⟨hm9, hG⟩ := At.many [(0, .int .i64 rev'), (1, .slice A5 l'.length c5)] h9
          dsimp only [setMany, setL, List.set] at hm9 hG
          have hmG := (grown_mod hG).mono (N := fun i _ => some gs = some i) (M := fun k _ => k = gs) (fun i o _ _ e => (Option.some.inj e).symm)
          replace hF := hF.other h9 hmG (by omega) alien_st
          replace hm13 := hm13.only hG (by omega)
          replace hown5 := own_mod (show World.ownsRow _ _ _ _ _ _ _ from hown5) hmG (fun i o ho _ hit => isT_at h9 ho hit (by decide))
          replace hown6 := own_mod (show World.ownsRow _ _ _ _ _ _ _ from hown6) hmG (fun i o ho _ hit => isT_at h9 ho hit (by decide))
          replace hB2 := Nat.le_trans hB2 hG.size
          clear z0 z1 zf0 zf1 s0 s1 sf0 sf1 hG hmG h9 hm12
          generalize World.setCell _ _ _ = v13 at *
          refine region_any (by kernel_rfl) ?_
          change wpAny _ _ _ _ _ _ _ (World.drew _)
          replace hF := hF.drew
          replace hm9 := hm9.drew
          replace hm13 := hm13.drew
          replace hown5 := (show v13.drew.ownsRow _ _ _ _ _ _ from hown5)
          replace hown6 := (show v13.drew.ownsRow _ _ _ _ _ _ from hown6)
          replace hB2 : B2 ≤ v13.drew.heap.size := hB2
          generalize World.drew _ = v14 at *
          obtain ⟨At', ct', hct, htr⟩ := hF.ch.told
          have htl := hF.tl k (by rw [HRS.out]; exact hkm)
          obtain ⟨gt, ot, e, hgt, het⟩ := (Rd.of_own htr).elem Res.row_length (by omega) (k := k) (by rw [HRS.out]; exact hkm)
          have hgc2 := hF.ch.lt
          have hlec := (Rd.of_own htr).le
          have hmaxc := (Rd.of_own htr).max
          unfold maxLen at hmaxc
          rw [HRS.out] at hct hlec
          subst e
          rw [HTK.out] at htl
          have hkr : k < rs.length := by rw [HRS.out]; exact hkm
          generalize rs[k]'hkr = q at *
          obtain ⟨qc, qr, qv, qA, qn, qcc⟩ := q
          obtain ⟨t1, t2, t3, t4⟩ := htl
          simp only at t1 t2 t3 t4
          subst t1 t2 t3
          have r0 := het 0 _ rfl
          have r1 := het 1 _ rfl
          have r2 := het 2 _ rfl
          have r3 := het 3 _ rfl
          rw [Nat.add_zero] at r0
          clear het htr
          obtain ⟨⟨z0, z1, z2, z3⟩, zf⟩ := at4 hm13
          have l13 := hm13.lt
          have hq1 : decide (m ≤ k) = false := decide_eq_false (by omega)
          have hq2 : decide ((m : Int) ≤ (k : Int)) = false := decide_eq_false (by omega)
          refine stage 100000 ?_
          refine stage_read (i := 0) (v := ?_) rfl (by kernel_rfl) (by kernel_rfl) (by kernel_rfl) (by kernel_rfl) (by kernel_rfl) (by kernel_rfl) (fun _ _ _ h => h) (Or.inl ⟨by kernel_rfl, ?_⟩) ?_
          rotate_left
          · (intro wS hwS; obtain ⟨hcS, hfS, hhS⟩ := bcell hwS; go_simp; try (first | (with_reducible rfl) | rw [if_pos (by omega)] | rw [if_neg (by omega)]))
          try simp only [Act.put, List.getElem_toArray, List.getElem_cons_succ, List.getElem_cons_zero, List.setIfInBounds_toArray, List.set_cons_zero, List.set_cons_succ]
          refine stage_read (i := 1) (v := ?_) rfl (by kernel_rfl) (by kernel_rfl) (by kernel_rfl) (by kernel_rfl) (by kernel_rfl) (by kernel_rfl) (fun _ _ _ h => h) (Or.inl ⟨by kernel_rfl, ?_⟩) ?_
          rotate_left
          · (intro wS hwS; obtain ⟨hcS, hfS, hhS⟩ := bcell hwS; go_simp; try (first | (with_reducible rfl) | rw [if_pos (by omega)] | rw [if_neg (by omega)]))
          try simp only [Act.put, List.getElem_toArray, List.getElem_cons_succ, List.getElem_cons_zero, List.setIfInBounds_toArray, List.set_cons_zero, List.set_cons_succ]
          refine stage_read (i := 2) (v := ?_) rfl (by kernel_rfl) (by kernel_rfl) (by kernel_rfl) (by kernel_rfl) (by kernel_rfl) (by kernel_rfl) (fun _ _ _ h => h) (Or.inl ⟨by kernel_rfl, ?_⟩) ?_
          rotate_left
          · (intro wS hwS; obtain ⟨hcS, hfS, hhS⟩ := bcell hwS; go_simp; try (first | (with_reducible rfl) | rw [if_pos (by omega)] | rw [if_neg (by omega)]))
          try simp only [Act.put, List.getElem_toArray, List.getElem_cons_succ, List.getElem_cons_zero, List.setIfInBounds_toArray, List.set_cons_zero, List.set_cons_succ]
          refine stage_read (i := 3) (v := ?_) rfl (by kernel_rfl) (by kernel_rfl) (by kernel_rfl) (by kernel_rfl) (by kernel_rfl) (by kernel_rfl) (fun _ _ _ h => h) (Or.inl ⟨by kernel_rfl, ?_⟩) ?_
          rotate_left
          · (intro wS hwS; obtain ⟨hcS, hfS, hhS⟩ := bcell hwS; go_simp; try (first | (with_reducible rfl) | rw [if_pos (by omega)] | rw [if_neg (by omega)]))
          try simp only [Act.put, List.getElem_toArray, List.getElem_cons_succ, List.getElem_cons_zero, List.setIfInBounds_toArray, List.set_cons_zero, List.set_cons_succ]
          refine stage_read (i := 4) (v := ?_) rfl (by kernel_rfl) (by kernel_rfl) (by kernel_rfl) (by kernel_rfl) (by kernel_rfl) (by kernel_rfl) (fun _ _ _ h => h) (Or.inl ⟨by kernel_rfl, ?_⟩) ?_
          rotate_left
          · (intro wS hwS; obtain ⟨hcS, hfS, hhS⟩ := bcell hwS; go_simp; try (first | (with_reducible rfl) | rw [if_pos (by omega)] | rw [if_neg (by omega)]))
          try simp only [Act.put, List.getElem_toArray, List.getElem_cons_succ, List.getElem_cons_zero, List.setIfInBounds_toArray, List.set_cons_zero, List.set_cons_succ]
          refine stage_read (i := 5) (v := ?_) rfl (by kernel_rfl) (by kernel_rfl) (by kernel_rfl) (by kernel_rfl) (by kernel_rfl) (by kernel_rfl) (fun _ _ _ h => h) (Or.inl ⟨by kernel_rfl, ?_⟩) ?_
          rotate_left
          · (intro wS hwS; obtain ⟨hcS, hfS, hhS⟩ := bcell hwS; go_simp; try (first | (with_reducible rfl) | rw [if_pos (by omega)] | rw [if_neg (by omega)]))
          try simp only [Act.put, List.getElem_toArray, List.getElem_cons_succ, List.getElem_cons_zero, List.setIfInBounds_toArray, List.set_cons_zero, List.set_cons_succ]
          refine stage_read (i := 6) (v := ?_) rfl (by kernel_rfl) (by kernel_rfl) (by kernel_rfl) (by kernel_rfl) (by kernel_rfl) (by kernel_rfl) (fun _ _ _ h => h) (Or.inl ⟨by kernel_rfl, ?_⟩) ?_
          rotate_left
          · (intro wS hwS; obtain ⟨hcS, hfS, hhS⟩ := bcell hwS; go_simp; try (first | (with_reducible rfl) | rw [if_pos (by omega)] | rw [if_neg (by omega)]))
          try simp only [Act.put, List.getElem_toArray, List.getElem_cons_succ, List.getElem_cons_zero, List.setIfInBounds_toArray, List.set_cons_zero, List.set_cons_succ]
          refine stage_read (i := 7) (v := ?_) rfl (by kernel_rfl) (by kernel_rfl) (by kernel_rfl) (by kernel_rfl) (by kernel_rfl) (by kernel_rfl) (fun _ _ _ h => h) (Or.inl ⟨by kernel_rfl, ?_⟩) ?_
          rotate_left
          · (intro wS hwS; obtain ⟨hcS, hfS, hhS⟩ := bcell hwS; go_simp; try (first | (with_reducible rfl) | rw [if_pos (by omega)] | rw [if_neg (by omega)]))
          try simp only [Act.put, List.getElem_toArray, List.getElem_cons_succ, List.getElem_cons_zero, List.setIfInBounds_toArray, List.set_cons_zero, List.set_cons_succ]
          refine stage_read (i := 8) (v := ?_) rfl (by kernel_rfl) (by kernel_rfl) (by kernel_rfl) (by kernel_rfl) (by kernel_rfl) (by kernel_rfl) (fun _ _ _ h => h) (Or.inl ⟨by kernel_rfl, ?_⟩) ?_
          rotate_left
          · (intro wS hwS; obtain ⟨hcS, hfS, hhS⟩ := bcell hwS; go_simp; try (first | (with_reducible rfl) | rw [if_pos (by omega)] | rw [if_neg (by omega)]))
          try simp only [Act.put, List.getElem_toArray, List.getElem_cons_succ, List.getElem_cons_zero, List.setIfInBounds_toArray, List.set_cons_zero, List.set_cons_succ]
          refine stage_read (i := 9) (v := ?_) rfl (by kernel_rfl) (by kernel_rfl) (by kernel_rfl) (by kernel_rfl) (by kernel_rfl) (by kernel_rfl) (fun _ _ _ h => h) (Or.inl ⟨by kernel_rfl, ?_⟩) ?_
          rotate_left
          · (intro wS hwS; obtain ⟨hcS, hfS, hhS⟩ := bcell hwS; go_simp; try (first | (with_reducible rfl) | rw [if_pos (by omega)] | rw [if_neg (by omega)]))
          try simp only [Act.put, List.getElem_toArray, List.getElem_cons_succ, List.getElem_cons_zero, List.setIfInBounds_toArray, List.set_cons_zero, List.set_cons_succ]
          refine stage_read (i := 10) (v := ?_) rfl (by kernel_rfl) (by kernel_rfl) (by kernel_rfl) (by kernel_rfl) (by kernel_rfl) (by kernel_rfl) (fun _ _ _ h => h) (Or.inl ⟨by kernel_rfl, ?_⟩) ?_
          rotate_left
          · (intro wS hwS; obtain ⟨hcS, hfS, hhS⟩ := bcell hwS; go_simp; try (first | (with_reducible rfl) | rw [if_pos (by omega)] | rw [if_neg (by omega)]))
          try simp only [Act.put, List.getElem_toArray, List.getElem_cons_succ, List.getElem_cons_zero, List.setIfInBounds_toArray, List.set_cons_zero, List.set_cons_succ]
          refine stage_read (i := 11) (v := ?_) rfl (by kernel_rfl) (by kernel_rfl) (by kernel_rfl) (by kernel_rfl) (by kernel_rfl) (by kernel_rfl) (fun _ _ _ h => h) (Or.inl ⟨by kernel_rfl, ?_⟩) ?_
          rotate_left
          · (intro wS hwS; obtain ⟨hcS, hfS, hhS⟩ := bcell hwS; go_simp; try (first | (with_reducible rfl) | rw [if_pos (by omega)] | rw [if_neg (by omega)]))
          try simp only [Act.put, List.getElem_toArray, List.getElem_cons_succ, List.getElem_cons_zero, List.setIfInBounds_toArray, List.set_cons_zero, List.set_cons_succ]
          refine stage_read (i := 12) (v := ?_) rfl (by kernel_rfl) (by kernel_rfl) (by kernel_rfl) (by kernel_rfl) (by kernel_rfl) (by kernel_rfl) (fun _ _ _ h => h) (Or.inl ⟨by kernel_rfl, ?_⟩) ?_
          rotate_left
          · (intro wS hwS; obtain ⟨hcS, hfS, hhS⟩ := bcell hwS; go_simp; try (first | (with_reducible rfl) | rw [if_pos (by omega)] | rw [if_neg (by omega)]))
          try simp only [Act.put, List.getElem_toArray, List.getElem_cons_succ, List.getElem_cons_zero, List.setIfInBounds_toArray, List.set_cons_zero, List.set_cons_succ]
          refine stage_read (i := 13) (v := ?_) rfl (by kernel_rfl) (by kernel_rfl) (by kernel_rfl) (by kernel_rfl) (by kernel_rfl) (by kernel_rfl) (fun _ _ _ h => h) (Or.inl ⟨by kernel_rfl, ?_⟩) ?_
          rotate_left
          · (intro wS hwS; obtain ⟨hcS, hfS, hhS⟩ := bcell hwS; go_simp; try (first | (with_reducible rfl) | rw [if_pos (by omega)] | rw [if_neg (by omega)]))
          try simp only [Act.put, List.getElem_toArray, List.getElem_cons_succ, List.getElem_cons_zero, List.setIfInBounds_toArray, List.set_cons_zero, List.set_cons_succ]
          refine stage_read (i := 14) (v := ?_) rfl (by kernel_rfl) (by kernel_rfl) (by kernel_rfl) (by kernel_rfl) (by kernel_rfl) (by kernel_rfl) (fun _ _ _ h => h) (Or.inl ⟨by kernel_rfl, ?_⟩) ?_
          rotate_left
          · (intro wS hwS; obtain ⟨hcS, hfS, hhS⟩ := bcell hwS; go_simp; try (first | (with_reducible rfl) | rw [if_pos (by omega)] | rw [if_neg (by omega)]))
          try simp only [Act.put, List.getElem_toArray, List.getElem_cons_succ, List.getElem_cons_zero, List.setIfInBounds_toArray, List.set_cons_zero, List.set_cons_succ]
          refine stage_read (i := 15) (v := ?_) rfl (by kernel_rfl) (by kernel_rfl) (by kernel_rfl) (by kernel_rfl) (by kernel_rfl) (by kernel_rfl) (fun _ _ _ h => h) (Or.inl ⟨by kernel_rfl, ?_⟩) ?_
          rotate_left
          · (intro wS hwS; obtain ⟨hcS, hfS, hhS⟩ := bcell hwS; go_simp; try (first | (with_reducible rfl) | rw [if_pos (by omega)] | rw [if_neg (by omega)]))
          try simp only [Act.put, List.getElem_toArray, List.getElem_cons_succ, List.getElem_cons_zero, List.setIfInBounds_toArray, List.set_cons_zero, List.set_cons_succ]
          refine stage_one 16 (by kernel_rfl) rfl (by kernel_rfl) (fun K hK => ?_)
          go_simp
          refine (same9_any qA A6 qn qcc n6 c6 _ _ _ _ _ (OwnI.rd t4) (OwnRI.rd hown6)).mono ?_
          rintro z v15 ⟨rfl, hbn⟩
          refine hK.out _ _ (hbn) ?_
          clear hK K
          try simp only [Act.put, List.getElem_toArray, List.getElem_cons_succ, List.getElem_cons_zero, List.setIfInBounds_toArray, List.set_cons_zero, List.set_cons_succ]
          replace hF := hF.step hbn
          replace hm9 := hm9.step hbn
          replace hown5 := OwnRI.step hown5 hbn
          replace hB2 := Nat.le_trans hB2 hbn.size
          clear hct hgt hgc2 hlec hmaxc r0 r1 r2 r3 z0 z1 z2 z3 zf l13 hbn t4 hown6 hm13
          refine stage_read (i := 17) (v := ?_) rfl (by kernel_rfl) (by kernel_rfl) (by kernel_rfl) (by kernel_rfl) (by kernel_rfl) (by kernel_rfl) (fun _ _ _ h => h) (Or.inl ⟨by kernel_rfl, ?_⟩) ?_
          rotate_left
          · (intro wS hwS; obtain ⟨hcS, hfS, hhS⟩ := bcell hwS; go_simp; try (first | (with_reducible rfl) | rw [if_pos (by omega)] | rw [if_neg (by omega)]))
          try simp only [Act.put, List.getElem_toArray, List.getElem_cons_succ, List.getElem_cons_zero, List.setIfInBounds_toArray, List.set_cons_zero, List.set_cons_succ]
          refine stage_read (i := 18) (v := ?_) rfl (by kernel_rfl) (by kernel_rfl) (by kernel_rfl) (by kernel_rfl) (by kernel_rfl) (by kernel_rfl) (fun _ _ _ h => h) (Or.inl ⟨by kernel_rfl, ?_⟩) ?_
          rotate_left
          · (intro wS hwS; obtain ⟨hcS, hfS, hhS⟩ := bcell hwS; go_simp; try (first | (with_reducible rfl) | rw [if_pos (by omega)] | rw [if_neg (by omega)]))
          try simp only [Act.put, List.getElem_toArray, List.getElem_cons_succ, List.getElem_cons_zero, List.setIfInBounds_toArray, List.set_cons_zero, List.set_cons_succ]
          first | refine wpAnyT_done (by kernel_rfl) ?_ _ | refine wpAny_done (by kernel_rfl) ?_ _
          clear hq1 hq2
          have HF := Lib.hid hF
          have HO := Lib.hid hown5
          have H9 := Lib.hid hm9
          clear hF hown5 hm9
          go_wp2_with fail
          go_roundw
          case rel => exact ⟨k + 1, l'.length, c5, A5, by go_num, by omega, HF.out, by rw [HSU.out]; exact H9.out, by rw [HSU.out]; exact HO.out, hB2⟩
          case measure => simp [intOf]; omega
      ·
        skip
        go_simp
        obtain ⟨hnew, hbn⟩ := one_at v1 81 [.int .i64 0, .slice none 0 0]
        refine hK.out _ _ (hbn) ?_
        clear hK K
        try simp only [Act.put, List.getElem_toArray, List.getElem_cons_succ, List.getElem_cons_zero, List.setIfInBounds_toArray, List.set_cons_zero, List.set_cons_succ]
        have hg12 := hB2
        replace hF := hF.step hbn
        replace h9 := h9.step hbn
        replace hB2 := Nat.le_trans hB2 hbn.size
        try replace hown := OwnRI.step hown hbn
        try replace hown5 := OwnRI.step hown5 hbn
        try replace hown6 := OwnRI.step hown6 hbn
        try replace h12 := h12.step hbn
        try replace h13 := h13.step hbn
        clear hbn
        have h12 := hnew
        clear hnew
        generalize World.alloc v1 _ = v2 at *
        generalize v1.heap.size = g12 at *
        refine stage_two 5 10 (by kernel_rfl) rfl rfl (by kernel_rfl) (by kernel_rfl) (fun K hK => ?_) (fun K hK => ?_)
        ·
          skip
          go_simp
          refine (HRD.out _ hown hB2).mono ?_
          rintro z v3 ⟨A5, n5, c5, A6, n6, c6, rfl, hown5, hown6', hbn⟩
          refine hK.out _ _ (hbn) ?_
          clear hK K
          try simp only [Act.put, List.getElem_toArray, List.getElem_cons_succ, List.getElem_cons_zero, List.setIfInBounds_toArray, List.set_cons_zero, List.set_cons_succ]
          have hown6 := OwnRI.lower hown6' hB2
          replace hF := hF.step hbn
          replace h9 := h9.step hbn
          replace hB2 := Nat.le_trans hB2 hbn.size
          try replace h12 := h12.step hbn
          try replace h13 := h13.step hbn
          clear hbn hown6' hown
          refine stage_read (i := 6) (v := ?_) rfl (by kernel_rfl) (by kernel_rfl) (by kernel_rfl) (by kernel_rfl) (by kernel_rfl) (by kernel_rfl) (fun _ _ _ h => h) (Or.inl ⟨by kernel_rfl, ?_⟩) ?_
          rotate_left
          · (intro wS hwS; obtain ⟨hcS, hfS, hhS⟩ := bcell hwS; go_simp; try (first | (with_reducible rfl) | rw [if_pos (by omega)] | rw [if_neg (by omega)]))
          try simp only [Act.put, List.getElem_toArray, List.getElem_cons_succ, List.getElem_cons_zero, List.setIfInBounds_toArray, List.set_cons_zero, List.set_cons_succ]
          refine stage_read (i := 7) (v := ?_) rfl (by kernel_rfl) (by kernel_rfl) (by kernel_rfl) (by kernel_rfl) (by kernel_rfl) (by kernel_rfl) (fun _ _ _ h => h) (Or.inl ⟨by kernel_rfl, ?_⟩) ?_
          rotate_left
          · (intro wS hwS; obtain ⟨hcS, hfS, hhS⟩ := bcell hwS; go_simp; try (first | (with_reducible rfl) | rw [if_pos (by omega)] | rw [if_neg (by omega)]))
          try simp only [Act.put, List.getElem_toArray, List.getElem_cons_succ, List.getElem_cons_zero, List.setIfInBounds_toArray, List.set_cons_zero, List.set_cons_succ]
          refine stage_pure (i := 8) (v := ?_) rfl (by kernel_rfl) (by kernel_rfl) (by kernel_rfl) (by kernel_rfl) (by kernel_rfl) (fun _ _ _ h => h) (Or.inl ⟨by kernel_rfl, ?_⟩) ?_
          rotate_left
          · (intro wS; go_simp; try (first | (with_reducible rfl) | rw [if_pos (by omega)] | rw [if_neg (by omega)]))
          try simp only [Act.put, List.getElem_toArray, List.getElem_cons_succ, List.getElem_cons_zero, List.setIfInBounds_toArray, List.set_cons_zero, List.set_cons_succ]
          refine stage_one 10 (by kernel_rfl) rfl (by kernel_rfl) (fun K hK => ?_)
          go_simp
          obtain ⟨hnew, hbn⟩ := one_at v3 83 [.int .i64 0, .int .i64 0, .string ⟨#[]⟩, .slice none 0 0]
          refine hK.out _ _ (hbn) ?_
          clear hK K
          try simp only [Act.put, List.getElem_toArray, List.getElem_cons_succ, List.getElem_cons_zero, List.setIfInBounds_toArray, List.set_cons_zero, List.set_cons_succ]
          have hg13 := hB2
          replace hF := hF.step hbn
          replace h9 := h9.step hbn
          replace hB2 := Nat.le_trans hB2 hbn.size
          try replace hown := OwnRI.step hown hbn
          try replace hown5 := OwnRI.step hown5 hbn
          try replace hown6 := OwnRI.step hown6 hbn
          try replace h12 := h12.step hbn
          try replace h13 := h13.step hbn
          clear hbn
          have h13 := hnew
          clear hnew
          generalize World.alloc v3 _ = v4 at *
          generalize v3.heap.size = g13 at *
          obtain ⟨⟨z0, z1⟩, zf0, zf1⟩ := at2 h12
          have l12 := h12.lt
          have hn5 := OwnRI.len hown5
          subst hn5

          refine stage_end (by kernel_rfl) rfl (fun K hK => ?_)
          go_simp
          refine hK.out _ _ ?_
          clear hK K
          try simp only [Act.put, List.getElem_toArray, List.getElem_cons_succ, List.getElem_cons_zero, List.setIfInBounds_toArray, List.set_cons_zero, List.set_cons_succ]
          obtain ⟨hm12, hG⟩ := At.many [(0, .int .i64 rev'), (1, .slice A5 l'.length c5)] h12
          dsimp only [setMany, setL, List.set] at hm12 hG
          have hmG := (grown_mod hG).mono (N := fun i _ => some g12 = some i) (M := fun k _ => k = g12) (fun i o _ _ e => (Option.some.inj e).symm)
          have hne := h12.ne h13 (by decide)
          replace hF := hF.other h12 hmG (by omega) alien_st
          replace h9 := h9.only hG (by omega)
          replace h13 := h13.only hG (Ne.symm hne)
          replace hown5 := own_mod (show World.ownsRow _ _ _ _ _ _ _ from hown5) hmG (fun i o ho _ hit => isT_at h12 ho hit (by decide))
          replace hown6 := own_mod (show World.ownsRow _ _ _ _ _ _ _ from hown6) hmG (fun i o ho _ hit => isT_at h12 ho hit (by decide))
          replace hB2 := Nat.le_trans hB2 hG.size
          clear z0 z1 zf0 zf1 l12 hG hmG h12
          generalize World.setCell _ _ _ = v11 at *
          obtain ⟨⟨z0, z1, z2, z3⟩, zf0, zf1, zf2, zf3⟩ := at4 h13
          have l13 := h13.lt
          refine stage 12 ?_

          refine stage_end (by kernel_rfl) rfl (fun K hK => ?_)
          go_simp
          refine hK.out _ _ ?_
          clear hK K
          try simp only [Act.put, List.getElem_toArray, List.getElem_cons_succ, List.getElem_cons_zero, List.setIfInBounds_toArray, List.set_cons_zero, List.set_cons_succ]
          first | refine wpAnyT_done (by kernel_rfl) ?_ _ | refine wpAny_done (by kernel_rfl) ?_ _
          obtain ⟨hm13, hG⟩ := At.many [(0, .int .i64 tc), (1, .int .i64 tr), (2, .string tv), (3, .slice A6 n6 c6)] h13
          dsimp only [setMany, setL, List.set] at hm13 hG
          have hmG := (grown_mod hG).mono (N := fun i _ => some g13 = some i) (M := fun k _ => k = g13) (fun i o _ _ e => (Option.some.inj e).symm)
          replace hF := hF.other h13 hmG (by omega) alien_re
          replace h9 := h9.only hG (by omega)
          replace hm12 := hm12.only hG hne
          replace hown5 := own_mod (show World.ownsRow _ _ _ _ _ _ _ from hown5) hmG (fun i o ho _ hit => isT_at h13 ho hit (by decide))
          replace hown6 := own_mod (show World.ownsRow _ _ _ _ _ _ _ from hown6) hmG (fun i o ho _ hit => isT_at h13 ho hit (by decide))
          replace hB2 := Nat.le_trans hB2 hG.size
          clear z0 z1 z2 z3 zf0 zf1 zf2 zf3 l13 hG hmG h13 hne
          generalize World.setCell _ _ _ = v12 at *
          obtain ⟨⟨z0, z1⟩, zf0, zf1⟩ := at2 hm12
          obtain ⟨⟨s0, s1⟩, sf0, sf1⟩ := at2 h9
          go_upto_region 10 with fail
          obtain ⟨hm9, hG⟩ := At.many [(0, .int .i64 rev'), (1, .slice A5 l'.length c5)] h9
          dsimp only [setMany, setL, List.set] at hm9 hG
          have hmG := (grown_mod hG).mono (N := fun i _ => some gs = some i) (M := fun k _ => k = gs) (fun i o _ _ e => (Option.some.inj e).symm)
          replace hF := hF.other h9 hmG (by omega) alien_st
          replace hm13 := hm13.only hG (by omega)
          replace hown5 := own_mod (show World.ownsRow _ _ _ _ _ _ _ from hown5) hmG (fun i o ho _ hit => isT_at h9 ho hit (by decide))
          replace hown6 := own_mod (show World.ownsRow _ _ _ _ _ _ _ from hown6) hmG (fun i o ho _ hit => isT_at h9 ho hit (by decide))
          replace hB2 := Nat.le_trans hB2 hG.size
          clear z0 z1 zf0 zf1 s0 s1 sf0 sf1 hG hmG h9 hm12
          generalize World.setCell _ _ _ = v13 at *
          refine region_any (by kernel_rfl) ?_
          change wpAny _ _ _ _ _ _ _ (World.drew _)
          replace hF := hF.drew
          replace hm9 := hm9.drew
          replace hm13 := hm13.drew
          replace hown5 := (show v13.drew.ownsRow _ _ _ _ _ _ from hown5)
          replace hown6 := (show v13.drew.ownsRow _ _ _ _ _ _ from hown6)
          replace hB2 : B2 ≤ v13.drew.heap.size := hB2
          generalize World.drew _ = v14 at *
          obtain ⟨At', ct', hct, htr⟩ := hF.ch.told
          have htl := hF.tl k (by rw [HRS.out]; exact hkm)
          obtain ⟨gt, ot, e, hgt, het⟩ := (Rd.of_own htr).elem Res.row_length (by omega) (k := k) (by rw [HRS.out]; exact hkm)
          have hgc2 := hF.ch.lt
          have hlec := (Rd.of_own htr).le
          have hmaxc := (Rd.of_own htr).max
          unfold maxLen at hmaxc
          rw [HRS.out] at hct hlec
          subst e
          rw [HTK.out] at htl
          have hkr : k < rs.length := by rw [HRS.out]; exact hkm
          generalize rs[k]'hkr = q at *
          obtain ⟨qc, qr, qv, qA, qn, qcc⟩ := q
          obtain ⟨t1, t2, t3, t4⟩ := htl
          simp only at t1 t2 t3 t4
          subst t1 t2 t3
          have r0 := het 0 _ rfl
          have r1 := het 1 _ rfl
          have r2 := het 2 _ rfl
          have r3 := het 3 _ rfl
          rw [Nat.add_zero] at r0
          clear het htr
          obtain ⟨⟨z0, z1, z2, z3⟩, zf⟩ := at4 hm13
          have l13 := hm13.lt
          have hq1 : decide (m ≤ k) = false := decide_eq_false (by omega)
          have hq2 : decide ((m : Int) ≤ (k : Int)) = false := decide_eq_false (by omega)
          refine stage 100000 ?_
          refine stage_read (i := 0) (v := ?_) rfl (by kernel_rfl) (by kernel_rfl) (by kernel_rfl) (by kernel_rfl) (by kernel_rfl) (by kernel_rfl) (fun _ _ _ h => h) (Or.inl ⟨by kernel_rfl, ?_⟩) ?_
          rotate_left
          · (intro wS hwS; obtain ⟨hcS, hfS, hhS⟩ := bcell hwS; go_simp; try (first | (with_reducible rfl) | rw [if_pos (by omega)] | rw [if_neg (by omega)]))
          try simp only [Act.put, List.getElem_toArray, List.getElem_cons_succ, List.getElem_cons_zero, List.setIfInBounds_toArray, List.set_cons_zero, List.set_cons_succ]
          refine stage_read (i := 1) (v := ?_) rfl (by kernel_rfl) (by kernel_rfl) (by kernel_rfl) (by kernel_rfl) (by kernel_rfl) (by kernel_rfl) (fun _ _ _ h => h) (Or.inl ⟨by kernel_rfl, ?_⟩) ?_
          rotate_left
          · (intro wS hwS; obtain ⟨hcS, hfS, hhS⟩ := bcell hwS; go_simp; try (first | (with_reducible rfl) | rw [if_pos (by omega)] | rw [if_neg (by omega)]))
          try simp only [Act.put, List.getElem_toArray, List.getElem_cons_succ, List.getElem_cons_zero, List.setIfInBounds_toArray, List.set_cons_zero, List.set_cons_succ]
          refine stage_read (i := 2) (v := ?_) rfl (by kernel_rfl) (by kernel_rfl) (by kernel_rfl) (by kernel_rfl) (by kernel_rfl) (by kernel_rfl) (fun _ _ _ h => h) (Or.inl ⟨by kernel_rfl, ?_⟩) ?_
          rotate_left
          · (intro wS hwS; obtain ⟨hcS, hfS, hhS⟩ := bcell hwS; go_simp; try (first | (with_reducible rfl) | rw [if_pos (by omega)] | rw [if_neg (by omega)]))
          try simp only [Act.put, List.getElem_toArray, List.getElem_cons_succ, List.getElem_cons_zero, List.setIfInBounds_toArray, List.set_cons_zero, List.set_cons_succ]
          refine stage_read (i := 3) (v := ?_) rfl (by kernel_rfl) (by kernel_rfl) (by kernel_rfl) (by kernel_rfl) (by kernel_rfl) (by kernel_rfl) (fun _ _ _ h => h) (Or.inl ⟨by kernel_rfl, ?_⟩) ?_
          rotate_left
          · (intro wS hwS; obtain ⟨hcS, hfS, hhS⟩ := bcell hwS; go_simp; try (first | (with_reducible rfl) | rw [if_pos (by omega)] | rw [if_neg (by omega)]))
          try simp only [Act.put, List.getElem_toArray, List.getElem_cons_succ, List.getElem_cons_zero, List.setIfInBounds_toArray, List.set_cons_zero, List.set_cons_succ]
          refine stage_read (i := 4) (v := ?_) rfl (by kernel_rfl) (by kernel_rfl) (by kernel_rfl) (by kernel_rfl) (by kernel_rfl) (by kernel_rfl) (fun _ _ _ h => h) (Or.inl ⟨by kernel_rfl, ?_⟩) ?_
          rotate_left
          · (intro wS hwS; obtain ⟨hcS, hfS, hhS⟩ := bcell hwS; go_simp; try (first | (with_reducible rfl) | rw [if_pos (by omega)] | rw [if_neg (by omega)]))
          try simp only [Act.put, List.getElem_toArray, List.getElem_cons_succ, List.getElem_cons_zero, List.setIfInBounds_toArray, List.set_cons_zero, List.set_cons_succ]
          refine stage_read (i := 5) (v := ?_) rfl (by kernel_rfl) (by kernel_rfl) (by kernel_rfl) (by kernel_rfl) (by kernel_rfl) (by kernel_rfl) (fun _ _ _ h => h) (Or.inl ⟨by kernel_rfl, ?_⟩) ?_
          rotate_left
          · (intro wS hwS; obtain ⟨hcS, hfS, hhS⟩ := bcell hwS; go_simp; try (first | (with_reducible rfl) | rw [if_pos (by omega)] | rw [if_neg (by omega)]))
          try simp only [Act.put, List.getElem_toArray, List.getElem_cons_succ, List.getElem_cons_zero, List.setIfInBounds_toArray, List.set_cons_zero, List.set_cons_succ]
          refine stage_read (i := 6) (v := ?_) rfl (by kernel_rfl) (by kernel_rfl) (by kernel_rfl) (by kernel_rfl) (by kernel_rfl) (by kernel_rfl) (fun _ _ _ h => h) (Or.inl ⟨by kernel_rfl, ?_⟩) ?_
          rotate_left
          · (intro wS hwS; obtain ⟨hcS, hfS, hhS⟩ := bcell hwS; go_simp; try (first | (with_reducible rfl) | rw [if_pos (by omega)] | rw [if_neg (by omega)]))
          try simp only [Act.put, List.getElem_toArray, List.getElem_cons_succ, List.getElem_cons_zero, List.setIfInBounds_toArray, List.set_cons_zero, List.set_cons_succ]
          refine stage_read (i := 7) (v := ?_) rfl (by kernel_rfl) (by kernel_rfl) (by kernel_rfl) (by kernel_rfl) (by kernel_rfl) (by kernel_rfl) (fun _ _ _ h => h) (Or.inl ⟨by kernel_rfl, ?_⟩) ?_
          rotate_left
          · (intro wS hwS; obtain ⟨hcS, hfS, hhS⟩ := bcell hwS; go_simp; try (first | (with_reducible rfl) | rw [if_pos (by omega)] | rw [if_neg (by omega)]))
          try simp only [Act.put, List.getElem_toArray, List.getElem_cons_succ, List.getElem_cons_zero, List.setIfInBounds_toArray, List.set_cons_zero, List.set_cons_succ]
          refine stage_read (i := 8) (v := ?_) rfl (by kernel_rfl) (by kernel_rfl) (by kernel_rfl) (by kernel_rfl) (by kernel_rfl) (by kernel_rfl) (fun _ _ _ h => h) (Or.inl ⟨by kernel_rfl, ?_⟩) ?_
          rotate_left
          · (intro wS hwS; obtain ⟨hcS, hfS, hhS⟩ := bcell hwS; go_simp; try (first | (with_reducible rfl) | rw [if_pos (by omega)] | rw [if_neg (by omega)]))
          try simp only [Act.put, List.getElem_toArray, List.getElem_cons_succ, List.getElem_cons_zero, List.setIfInBounds_toArray, List.set_cons_zero, List.set_cons_succ]
          refine stage_read (i := 9) (v := ?_) rfl (by kernel_rfl) (by kernel_rfl) (by kernel_rfl) (by kernel_rfl) (by kernel_rfl) (by kernel_rfl) (fun _ _ _ h => h) (Or.inl ⟨by kernel_rfl, ?_⟩) ?_
          rotate_left
          · (intro wS hwS; obtain ⟨hcS, hfS, hhS⟩ := bcell hwS; go_simp; try (first | (with_reducible rfl) | rw [if_pos (by omega)] | rw [if_neg (by omega)]))
          try simp only [Act.put, List.getElem_toArray, List.getElem_cons_succ, List.getElem_cons_zero, List.setIfInBounds_toArray, List.set_cons_zero, List.set_cons_succ]
          refine stage_read (i := 10) (v := ?_) rfl (by kernel_rfl) (by kernel_rfl) (by kernel_rfl) (by kernel_rfl) (by kernel_rfl) (by kernel_rfl) (fun _ _ _ h => h) (Or.inl ⟨by kernel_rfl, ?_⟩) ?_
          rotate_left
          · (intro wS hwS; obtain ⟨hcS, hfS, hhS⟩ := bcell hwS; go_simp; try (first | (with_reducible rfl) | rw [if_pos (by omega)] | rw [if_neg (by omega)]))
          try simp only [Act.put, List.getElem_toArray, List.getElem_cons_succ, List.getElem_cons_zero, List.setIfInBounds_toArray, List.set_cons_zero, List.set_cons_succ]
          refine stage_read (i := 11) (v := ?_) rfl (by kernel_rfl) (by kernel_rfl) (by kernel_rfl) (by kernel_rfl) (by kernel_rfl) (by kernel_rfl) (fun _ _ _ h => h) (Or.inl ⟨by kernel_rfl, ?_⟩) ?_
          rotate_left
          · (intro wS hwS; obtain ⟨hcS, hfS, hhS⟩ := bcell hwS; go_simp; try (first | (with_reducible rfl) | rw [if_pos (by omega)] | rw [if_neg (by omega)]))
          try simp only [Act.put, List.getElem_toArray, List.getElem_cons_succ, List.getElem_cons_zero, List.setIfInBounds_toArray, List.set_cons_zero, List.set_cons_succ]
          refine stage_read (i := 12) (v := ?_) rfl (by kernel_rfl) (by kernel_rfl) (by kernel_rfl) (by kernel_rfl) (by kernel_rfl) (by kernel_rfl) (fun _ _ _ h => h) (Or.inl ⟨by kernel_rfl, ?_⟩) ?_
          rotate_left
          · (intro wS hwS; obtain ⟨hcS, hfS, hhS⟩ := bcell hwS; go_simp; try (first | (with_reducible rfl) | rw [if_pos (by omega)] | rw [if_neg (by omega)]))
          try simp only [Act.put, List.getElem_toArray, List.getElem_cons_succ, List.getElem_cons_zero, List.setIfInBounds_toArray, List.set_cons_zero, List.set_cons_succ]
          refine stage_read (i := 13) (v := ?_) rfl (by kernel_rfl) (by kernel_rfl) (by kernel_rfl) (by kernel_rfl) (by kernel_rfl) (by kernel_rfl) (fun _ _ _ h => h) (Or.inl ⟨by kernel_rfl, ?_⟩) ?_
          rotate_left
          · (intro wS hwS; obtain ⟨hcS, hfS, hhS⟩ := bcell hwS; go_simp; try (first | (with_reducible rfl) | rw [if_pos (by omega)] | rw [if_neg (by omega)]))
          try simp only [Act.put, List.getElem_toArray, List.getElem_cons_succ, List.getElem_cons_zero, List.setIfInBounds_toArray, List.set_cons_zero, List.set_cons_succ]
          refine stage_read (i := 14) (v := ?_) rfl (by kernel_rfl) (by kernel_rfl) (by kernel_rfl) (by kernel_rfl) (by kernel_rfl) (by kernel_rfl) (fun _ _ _ h => h) (Or.inl ⟨by kernel_rfl, ?_⟩) ?_
          rotate_left
          · (intro wS hwS; obtain ⟨hcS, hfS, hhS⟩ := bcell hwS; go_simp; try (first | (with_reducible rfl) | rw [if_pos (by omega)] | rw [if_neg (by omega)]))
          try simp only [Act.put, List.getElem_toArray, List.getElem_cons_succ, List.getElem_cons_zero, List.setIfInBounds_toArray, List.set_cons_zero, List.set_cons_succ]
          refine stage_read (i := 15) (v := ?_) rfl (by kernel_rfl) (by kernel_rfl) (by kernel_rfl) (by kernel_rfl) (by kernel_rfl) (by kernel_rfl) (fun _ _ _ h => h) (Or.inl ⟨by kernel_rfl, ?_⟩) ?_
          rotate_left
          · (intro wS hwS; obtain ⟨hcS, hfS, hhS⟩ := bcell hwS; go_simp; try (first | (with_reducible rfl) | rw [if_pos (by omega)] | rw [if_neg (by omega)]))
          try simp only [Act.put, List.getElem_toArray, List.getElem_cons_succ, List.getElem_cons_zero, List.setIfInBounds_toArray, List.set_cons_zero, List.set_cons_succ]
          refine stage_one 16 (by kernel_rfl) rfl (by kernel_rfl) (fun K hK => ?_)
          go_simp
          refine (same9_any qA A6 qn qcc n6 c6 _ _ _ _ _ (OwnI.rd t4) (OwnRI.rd hown6)).mono ?_
          rintro z v15 ⟨rfl, hbn⟩
          refine hK.out _ _ (hbn) ?_
          clear hK K
          try simp only [Act.put, List.getElem_toArray, List.getElem_cons_succ, List.getElem_cons_zero, List.setIfInBounds_toArray, List.set_cons_zero, List.set_cons_succ]
          replace hF := hF.step hbn
          replace hm9 := hm9.step hbn
          replace hown5 := OwnRI.step hown5 hbn
          replace hB2 := Nat.le_trans hB2 hbn.size
          clear hct hgt hgc2 hlec hmaxc r0 r1 r2 r3 z0 z1 z2 z3 zf l13 hbn t4 hown6 hm13
          refine stage_read (i := 17) (v := ?_) rfl (by kernel_rfl) (by kernel_rfl) (by kernel_rfl) (by kernel_rfl) (by kernel_rfl) (by kernel_rfl) (fun _ _ _ h => h) (Or.inl ⟨by kernel_rfl, ?_⟩) ?_
          rotate_left
          · (intro wS hwS; obtain ⟨hcS, hfS, hhS⟩ := bcell hwS; go_simp; try (first | (with_reducible rfl) | rw [if_pos (by omega)] | rw [if_neg (by omega)]))
          try simp only [Act.put, List.getElem_toArray, List.getElem_cons_succ, List.getElem_cons_zero, List.setIfInBounds_toArray, List.set_cons_zero, List.set_cons_succ]
          refine stage_read (i := 18) (v := ?_) rfl (by kernel_rfl) (by kernel_rfl) (by kernel_rfl) (by kernel_rfl) (by kernel_rfl) (by kernel_rfl) (fun _ _ _ h => h) (Or.inl ⟨by kernel_rfl, ?_⟩) ?_
          rotate_left
          · (intro wS hwS; obtain ⟨hcS, hfS, hhS⟩ := bcell hwS; go_simp; try (first | (with_reducible rfl) | rw [if_pos (by omega)] | rw [if_neg (by omega)]))
          try simp only [Act.put, List.getElem_toArray, List.getElem_cons_succ, List.getElem_cons_zero, List.setIfInBounds_toArray, List.set_cons_zero, List.set_cons_succ]
          first | refine wpAnyT_done (by kernel_rfl) ?_ _ | refine wpAny_done (by kernel_rfl) ?_ _
          clear hq1 hq2
          have HF := Lib.hid hF
          have HO := Lib.hid hown5
          have H9 := Lib.hid hm9
          clear hF hown5 hm9
          go_wp2_with fail
          go_roundw
          case rel => exact ⟨k + 1, l'.length, c5, A5, by go_num, by omega, HF.out, by rw [HSU.out]; exact H9.out, by rw [HSU.out]; exact HO.out, hB2⟩
          case measure => simp [intOf]; omega
        ·
          skip
          go_simp
          obtain ⟨hnew, hbn⟩ := one_at v2 83 [.int .i64 0, .int .i64 0, .string ⟨#[]⟩, .slice none 0 0]
          refine hK.out _ _ (hbn) ?_
          clear hK K
          try simp only [Act.put, List.getElem_toArray, List.getElem_cons_succ, List.getElem_cons_zero, List.setIfInBounds_toArray, List.set_cons_zero, List.set_cons_succ]
          have hg13 := hB2
          replace hF := hF.step hbn
          replace h9 := h9.step hbn
          replace hB2 := Nat.le_trans hB2 hbn.size
          try replace hown := OwnRI.step hown hbn
          try replace hown5 := OwnRI.step hown5 hbn
          try replace hown6 := OwnRI.step hown6 hbn
          try replace h12 := h12.step hbn
          try replace h13 := h13.step hbn
          clear hbn
          have h13 := hnew
          clear hnew
          generalize World.alloc v2 _ = v3 at *
          generalize v2.heap.size = g13 at *
          refine stage_one 5 (by kernel_rfl) rfl (by kernel_rfl) (fun K hK => ?_)
          go_simp
          refine (HRD.out _ hown hB2).mono ?_
          rintro z v4 ⟨A5, n5, c5, A6, n6, c6, rfl, hown5, hown6', hbn⟩
          refine hK.out _ _ (hbn) ?_
          clear hK K
          try simp only [Act.put, List.getElem_toArray, List.getElem_cons_succ, List.getElem_cons_zero, List.setIfInBounds_toArray, List.set_cons_zero, List.set_cons_succ]
          have hown6 := OwnRI.lower hown6' hB2
          replace hF := hF.step hbn
          replace h9 := h9.step hbn
          replace hB2 := Nat.le_trans hB2 hbn.size
          try replace h12 := h12.step hbn
          try replace h13 := h13.step hbn
          clear hbn hown6' hown
          refine stage_read (i := 6) (v := ?_) rfl (by kernel_rfl) (by kernel_rfl) (by kernel_rfl) (by kernel_rfl) (by kernel_rfl) (by kernel_rfl) (fun _ _ _ h => h) (Or.inl ⟨by kernel_rfl, ?_⟩) ?_
          rotate_left
          · (intro wS hwS; obtain ⟨hcS, hfS, hhS⟩ := bcell hwS; go_simp; try (first | (with_reducible rfl) | rw [if_pos (by omega)] | rw [if_neg (by omega)]))
          try simp only [Act.put, List.getElem_toArray, List.getElem_cons_succ, List.getElem_cons_zero, List.setIfInBounds_toArray, List.set_cons_zero, List.set_cons_succ]
          refine stage_read (i := 7) (v := ?_) rfl (by kernel_rfl) (by kernel_rfl) (by kernel_rfl) (by kernel_rfl) (by kernel_rfl) (by kernel_rfl) (fun _ _ _ h => h) (Or.inl ⟨by kernel_rfl, ?_⟩) ?_
          rotate_left
          · (intro wS hwS; obtain ⟨hcS, hfS, hhS⟩ := bcell hwS; go_simp; try (first | (with_reducible rfl) | rw [if_pos (by omega)] | rw [if_neg (by omega)]))
          try simp only [Act.put, List.getElem_toArray, List.getElem_cons_succ, List.getElem_cons_zero, List.setIfInBounds_toArray, List.set_cons_zero, List.set_cons_succ]
          refine stage_pure (i := 8) (v := ?_) rfl (by kernel_rfl) (by kernel_rfl) (by kernel_rfl) (by kernel_rfl) (by kernel_rfl) (fun _ _ _ h => h) (Or.inl ⟨by kernel_rfl, ?_⟩) ?_
          rotate_left
          · (intro wS; go_simp; try (first | (with_reducible rfl) | rw [if_pos (by omega)] | rw [if_neg (by omega)]))
          try simp only [Act.put, List.getElem_toArray, List.getElem_cons_succ, List.getElem_cons_zero, List.setIfInBounds_toArray, List.set_cons_zero, List.set_cons_succ]
          obtain ⟨⟨z0, z1⟩, zf0, zf1⟩ := at2 h12
          have l12 := h12.lt
          have hn5 := OwnRI.len hown5
          subst hn5

          refine stage_end (by kernel_rfl) rfl (fun K hK => ?_)
          go_simp
          refine hK.out _ _ ?_
          clear hK K
          try simp only [Act.put, List.getElem_toArray, List.getElem_cons_succ, List.getElem_cons_zero, List.setIfInBounds_toArray, List.set_cons_zero, List.set_cons_succ]
          obtain ⟨hm12, hG⟩ := At.many [(0, .int .i64 rev'), (1, .slice A5 l'.length c5)] h12
          dsimp only [setMany, setL, List.set] at hm12 hG
          have hmG := (grown_mod hG).mono (N := fun i _ => some g12 = some i) (M := fun k _ => k = g12) (fun i o _ _ e => (Option.some.inj e).symm)
          have hne := h12.ne h13 (by decide)
          replace hF := hF.other h12 hmG (by omega) alien_st
          replace h9 := h9.only hG (by omega)
          replace h13 := h13.only hG (Ne.symm hne)
          replace hown5 := own_mod (show World.ownsRow _ _ _ _ _ _ _ from hown5) hmG (fun i o ho _ hit => isT_at h12 ho hit (by decide))
          replace hown6 := own_mod (show World.ownsRow _ _ _ _ _ _ _ from hown6) hmG (fun i o ho _ hit => isT_at h12 ho hit (by decide))
          replace hB2 := Nat.le_trans hB2 hG.size
          clear z0 z1 zf0 zf1 l12 hG hmG h12
          generalize World.setCell _ _ _ = v11 at *
          obtain ⟨⟨z0, z1, z2, z3⟩, zf0, zf1, zf2, zf3⟩ := at4 h13
          have l13 := h13.lt
          refine stage 12 ?_

          refine stage_end (by kernel_rfl) rfl (fun K hK => ?_)
          go_simp
          refine hK.out _ _ ?_
          clear hK K
          try simp only [Act.put, List.getElem_toArray, List.getElem_cons_succ, List.getElem_cons_zero, List.setIfInBounds_toArray, List.set_cons_zero, List.set_cons_succ]
          first | refine wpAnyT_done (by kernel_rfl) ?_ _ | refine wpAny_done (by kernel_rfl) ?_ _
          obtain ⟨hm13, hG⟩ := At.many [(0, .int .i64 tc), (1, .int .i64 tr), (2, .string tv), (3, .slice A6 n6 c6)] h13
          dsimp only [setMany, setL, List.set] at hm13 hG
          have hmG := (grown_mod hG).mono (N := fun i _ => some g13 = some i) (M := fun k _ => k = g13) (fun i o _ _ e => (Option.some.inj e).symm)
          replace hF := hF.other h13 hmG (by omega) alien_re
          replace h9 := h9.only hG (by omega)
          replace hm12 := hm12.only hG hne
          replace hown5 := own_mod (show World.ownsRow _ _ _ _ _ _ _ from hown5) hmG (fun i o ho _ hit => isT_at h13 ho hit (by decide))
          replace hown6 := own_mod (show World.ownsRow _ _ _ _ _ _ _ from hown6) hmG (fun i o ho _ hit => isT_at h13 ho hit (by decide))
          replace hB2 := Nat.le_trans hB2 hG.size
          clear z0 z1 z2 z3 zf0 zf1 zf2 zf3 l13 hG hmG h13 hne
          generalize World.setCell _ _ _ = v12 at *
          obtain ⟨⟨z0, z1⟩, zf0, zf1⟩ := at2 hm12
          obtain ⟨⟨s0, s1⟩, sf0, sf1⟩ := at2 h9
          go_upto_region 10 with fail
          obtain ⟨hm9, hG⟩ := At.many [(0, .int .i64 rev'), (1, .slice A5 l'.length c5)] h9
          dsimp only [setMany, setL, List.set] at hm9 hG
          have hmG := (grown_mod hG).mono (N := fun i _ => some gs = some i) (M := fun k _ => k = gs) (fun i o _ _ e => (Option.some.inj e).symm)
          replace hF := hF.other h9 hmG (by omega) alien_st
          replace hm13 := hm13.only hG (by omega)
          replace hown5 := own_mod (show World.ownsRow _ _ _ _ _ _ _ from hown5) hmG (fun i o ho _ hit => isT_at h9 ho hit (by decide))
          replace hown6 := own_mod (show World.ownsRow _ _ _ _ _ _ _ from hown6) hmG (fun i o ho _ hit => isT_at h9 ho hit (by decide))
          replace hB2 := Nat.le_trans hB2 hG.size
          clear z0 z1 zf0 zf1 s0 s1 sf0 sf1 hG hmG h9 hm12
          generalize World.setCell _ _ _ = v13 at *
          refine region_any (by kernel_rfl) ?_
          change wpAny _ _ _ _ _ _ _ (World.drew _)
          replace hF := hF.drew
          replace hm9 := hm9.drew
          replace hm13 := hm13.drew
          replace hown5 := (show v13.drew.ownsRow _ _ _ _ _ _ from hown5)
          replace hown6 := (show v13.drew.ownsRow _ _ _ _ _ _ from hown6)
          replace hB2 : B2 ≤ v13.drew.heap.size := hB2
          generalize World.drew _ = v14 at *
          obtain ⟨At', ct', hct, htr⟩ := hF.ch.told
          have htl := hF.tl k (by rw [HRS.out]; exact hkm)
          obtain ⟨gt, ot, e, hgt, het⟩ := (Rd.of_own htr).elem Res.row_length (by omega) (k := k) (by rw [HRS.out]; exact hkm)
          have hgc2 := hF.ch.lt
          have hlec := (Rd.of_own htr).le
          have hmaxc := (Rd.of_own htr).max
          unfold maxLen at hmaxc
          rw [HRS.out] at hct hlec
          subst e
          rw [HTK.out] at htl
          have hkr : k < rs.length := by rw [HRS.out]; exact hkm
          generalize rs[k]'hkr = q at *
          obtain ⟨qc, qr, qv, qA, qn, qcc⟩ := q
          obtain ⟨t1, t2, t3, t4⟩ := htl
          simp only at t1 t2 t3 t4
          subst t1 t2 t3
          have r0 := het 0 _ rfl
          have r1 := het 1 _ rfl
          have r2 := het 2 _ rfl
          have r3 := het 3 _ rfl
          rw [Nat.add_zero] at r0
          clear het htr
          obtain ⟨⟨z0, z1, z2, z3⟩, zf⟩ := at4 hm13
          have l13 := hm13.lt
          have hq1 : decide (m ≤ k) = false := decide_eq_false (by omega)
          have hq2 : decide ((m : Int) ≤ (k : Int)) = false := decide_eq_false (by omega)
          refine stage 100000 ?_
          refine stage_read (i := 0) (v := ?_) rfl (by kernel_rfl) (by kernel_rfl) (by kernel_rfl) (by kernel_rfl) (by kernel_rfl) (by kernel_rfl) (fun _ _ _ h => h) (Or.inl ⟨by kernel_rfl, ?_⟩) ?_
          rotate_left
          · (intro wS hwS; obtain ⟨hcS, hfS, hhS⟩ := bcell hwS; go_simp; try (first | (with_reducible rfl) | rw [if_pos (by omega)] | rw [if_neg (by omega)]))
          try simp only [Act.put, List.getElem_toArray, List.getElem_cons_succ, List.getElem_cons_zero, List.setIfInBounds_toArray, List.set_cons_zero, List.set_cons_succ]
          refine stage_read (i := 1) (v := ?_) rfl (by kernel_rfl) (by kernel_rfl) (by kernel_rfl) (by kernel_rfl) (by kernel_rfl) (by kernel_rfl) (fun _ _ _ h => h) (Or.inl ⟨by kernel_rfl, ?_⟩) ?_
          rotate_left
          · (intro wS hwS; obtain ⟨hcS, hfS, hhS⟩ := bcell hwS; go_simp; try (first | (with_reducible rfl) | rw [if_pos (by omega)] | rw [if_neg (by omega)]))
          try simp only [Act.put, List.getElem_toArray, List.getElem_cons_succ, List.getElem_cons_zero, List.setIfInBounds_toArray, List.set_cons_zero, List.set_cons_succ]
          refine stage_read (i := 2) (v := ?_) rfl (by kernel_rfl) (by kernel_rfl) (by kernel_rfl) (by kernel_rfl) (by kernel_rfl) (by kernel_rfl) (fun _ _ _ h => h) (Or.inl ⟨by kernel_rfl, ?_⟩) ?_
          rotate_left
          · (intro wS hwS; obtain ⟨hcS, hfS, hhS⟩ := bcell hwS; go_simp; try (first | (with_reducible rfl) | rw [if_pos (by omega)] | rw [if_neg (by omega)]))
          try simp only [Act.put, List.getElem_toArray, List.getElem_cons_succ, List.getElem_cons_zero, List.setIfInBounds_toArray, List.set_cons_zero, List.set_cons_succ]
          refine stage_read (i := 3) (v := ?_) rfl (by kernel_rfl) (by kernel_rfl) (by kernel_rfl) (by kernel_rfl) (by kernel_rfl) (by kernel_rfl) (fun _ _ _ h => h) (Or.inl ⟨by kernel_rfl, ?_⟩) ?_
          rotate_left
          · (intro wS hwS; obtain ⟨hcS, hfS, hhS⟩ := bcell hwS; go_simp; try (first | (with_reducible rfl) | rw [if_pos (by omega)] | rw [if_neg (by omega)]))
          try simp only [Act.put, List.getElem_toArray, List.getElem_cons_succ, List.getElem_cons_zero, List.setIfInBounds_toArray, List.set_cons_zero, List.set_cons_succ]
          refine stage_read (i := 4) (v := ?_) rfl (by kernel_rfl) (by kernel_rfl) (by kernel_rfl) (by kernel_rfl) (by kernel_rfl) (by kernel_rfl) (fun _ _ _ h => h) (Or.inl ⟨by kernel_rfl, ?_⟩) ?_
          rotate_left
          · (intro wS hwS; obtain ⟨hcS, hfS, hhS⟩ := bcell hwS; go_simp; try (first | (with_reducible rfl) | rw [if_pos (by omega)] | rw [if_neg (by omega)]))
          try simp only [Act.put, List.getElem_toArray, List.getElem_cons_succ, List.getElem_cons_zero, List.setIfInBounds_toArray, List.set_cons_zero, List.set_cons_succ]
          refine stage_read (i := 5) (v := ?_) rfl (by kernel_rfl) (by kernel_rfl) (by kernel_rfl) (by kernel_rfl) (by kernel_rfl) (by kernel_rfl) (fun _ _ _ h => h) (Or.inl ⟨by kernel_rfl, ?_⟩) ?_
          rotate_left
          · (intro wS hwS; obtain ⟨hcS, hfS, hhS⟩ := bcell hwS; go_simp; try (first | (with_reducible rfl) | rw [if_pos (by omega)] | rw [if_neg (by omega)]))
          try simp only [Act.put, List.getElem_toArray, List.getElem_cons_succ, List.getElem_cons_zero, List.setIfInBounds_toArray, List.set_cons_zero, List.set_cons_succ]
          refine stage_read (i := 6) (v := ?_) rfl (by kernel_rfl) (by kernel_rfl) (by kernel_rfl) (by kernel_rfl) (by kernel_rfl) (by kernel_rfl) (fun _ _ _ h => h) (Or.inl ⟨by kernel_rfl, ?_⟩) ?_
          rotate_left
          · (intro wS hwS; obtain ⟨hcS, hfS, hhS⟩ := bcell hwS; go_simp; try (first | (with_reducible rfl) | rw [if_pos (by omega)] | rw [if_neg (by omega)]))
          try simp only [Act.put, List.getElem_toArray, List.getElem_cons_succ, List.getElem_cons_zero, List.setIfInBounds_toArray, List.set_cons_zero, List.set_cons_succ]
          refine stage_read (i := 7) (v := ?_) rfl (by kernel_rfl) (by kernel_rfl) (by kernel_rfl) (by kernel_rfl) (by kernel_rfl) (by kernel_rfl) (fun _ _ _ h => h) (Or.inl ⟨by kernel_rfl, ?_⟩) ?_
          rotate_left
          · (intro wS hwS; obtain ⟨hcS, hfS, hhS⟩ := bcell hwS; go_simp; try (first | (with_reducible rfl) | rw [if_pos (by omega)] | rw [if_neg (by omega)]))
          try simp only [Act.put, List.getElem_toArray, List.getElem_cons_succ, List.getElem_cons_zero, List.setIfInBounds_toArray, List.set_cons_zero, List.set_cons_succ]
          refine stage_read (i := 8) (v := ?_) rfl (by kernel_rfl) (by kernel_rfl) (by kernel_rfl) (by kernel_rfl) (by kernel_rfl) (by kernel_rfl) (fun _ _ _ h => h) (Or.inl ⟨by kernel_rfl, ?_⟩) ?_
          rotate_left
          · (intro wS hwS; obtain ⟨hcS, hfS, hhS⟩ := bcell hwS; go_simp; try (first | (with_reducible rfl) | rw [if_pos (by omega)] | rw [if_neg (by omega)]))
          try simp only [Act.put, List.getElem_toArray, List.getElem_cons_succ, List.getElem_cons_zero, List.setIfInBounds_toArray, List.set_cons_zero, List.set_cons_succ]
          refine stage_read (i := 9) (v := ?_) rfl (by kernel_rfl) (by kernel_rfl) (by kernel_rfl) (by kernel_rfl) (by kernel_rfl) (by kernel_rfl) (fun _ _ _ h => h) (Or.inl ⟨by kernel_rfl, ?_⟩) ?_
          rotate_left
          · (intro wS hwS; obtain ⟨hcS, hfS, hhS⟩ := bcell hwS; go_simp; try (first | (with_reducible rfl) | rw [if_pos (by omega)] | rw [if_neg (by omega)]))
          try simp only [Act.put, List.getElem_toArray, List.getElem_cons_succ, List.getElem_cons_zero, List.setIfInBounds_toArray, List.set_cons_zero, List.set_cons_succ]
          refine stage_read (i := 10) (v := ?_) rfl (by kernel_rfl) (by kernel_rfl) (by kernel_rfl) (by kernel_rfl) (by kernel_rfl) (by kernel_rfl) (fun _ _ _ h => h) (Or.inl ⟨by kernel_rfl, ?_⟩) ?_
          rotate_left
          · (intro wS hwS; obtain ⟨hcS, hfS, hhS⟩ := bcell hwS; go_simp; try (first | (with_reducible rfl) | rw [if_pos (by omega)] | rw [if_neg (by omega)]))
          try simp only [Act.put, List.getElem_toArray, List.getElem_cons_succ, List.getElem_cons_zero, List.setIfInBounds_toArray, List.set_cons_zero, List.set_cons_succ]
          refine stage_read (i := 11) (v := ?_) rfl (by kernel_rfl) (by kernel_rfl) (by kernel_rfl) (by kernel_rfl) (by kernel_rfl) (by kernel_rfl) (fun _ _ _ h => h) (Or.inl ⟨by kernel_rfl, ?_⟩) ?_
          rotate_left
          · (intro wS hwS; obtain ⟨hcS, hfS, hhS⟩ := bcell hwS; go_simp; try (first | (with_reducible rfl) | rw [if_pos (by omega)] | rw [if_neg (by omega)]))
          try simp only [Act.put, List.getElem_toArray, List.getElem_cons_succ, List.getElem_cons_zero, List.setIfInBounds_toArray, List.set_cons_zero, List.set_cons_succ]
          refine stage_read (i := 12) (v := ?_) rfl (by kernel_rfl) (by kernel_rfl) (by kernel_rfl) (by kernel_rfl) (by kernel_rfl) (by kernel_rfl) (fun _ _ _ h => h) (Or.inl ⟨by kernel_rfl, ?_⟩) ?_
          rotate_left
          · (intro wS hwS; obtain ⟨hcS, hfS, hhS⟩ := bcell hwS; go_simp; try (first | (with_reducible rfl) | rw [if_pos (by omega)] | rw [if_neg (by omega)]))
          try simp only [Act.put, List.getElem_toArray, List.getElem_cons_succ, List.getElem_cons_zero, List.setIfInBounds_toArray, List.set_cons_zero, List.set_cons_succ]
          refine stage_read (i := 13) (v := ?_) rfl (by kernel_rfl) (by kernel_rfl) (by kernel_rfl) (by kernel_rfl) (by kernel_rfl) (by kernel_rfl) (fun _ _ _ h => h) (Or.inl ⟨by kernel_rfl, ?_⟩) ?_
          rotate_left
          · (intro wS hwS; obtain ⟨hcS, hfS, hhS⟩ := bcell hwS; go_simp; try (first | (with_reducible rfl) | rw [if_pos (by omega)] | rw [if_neg (by omega)]))
          try simp only [Act.put, List.getElem_toArray, List.getElem_cons_succ, List.getElem_cons_zero, List.setIfInBounds_toArray, List.set_cons_zero, List.set_cons_succ]
          refine stage_read (i := 14) (v := ?_) rfl (by kernel_rfl) (by kernel_rfl) (by kernel_rfl) (by kernel_rfl) (by kernel_rfl) (by kernel_rfl) (fun _ _ _ h => h) (Or.inl ⟨by kernel_rfl, ?_⟩) ?_
          rotate_left
          · (intro wS hwS; obtain ⟨hcS, hfS, hhS⟩ := bcell hwS; go_simp; try (first | (with_reducible rfl) | rw [if_pos (by omega)] | rw [if_neg (by omega)]))
          try simp only [Act.put, List.getElem_toArray, List.getElem_cons_succ, List.getElem_cons_zero, List.setIfInBounds_toArray, List.set_cons_zero, List.set_cons_succ]
          refine stage_read (i := 15) (v := ?_) rfl (by kernel_rfl) (by kernel_rfl) (by kernel_rfl) (by kernel_rfl) (by kernel_rfl) (by kernel_rfl) (fun _ _ _ h => h) (Or.inl ⟨by kernel_rfl, ?_⟩) ?_
          rotate_left
          · (intro wS hwS; obtain ⟨hcS, hfS, hhS⟩ := bcell hwS; go_simp; try (first | (with_reducible rfl) | rw [if_pos (by omega)] | rw [if_neg (by omega)]))
          try simp only [Act.put, List.getElem_toArray, List.getElem_cons_succ, List.getElem_cons_zero, List.setIfInBounds_toArray, List.set_cons_zero, List.set_cons_succ]
          refine stage_one 16 (by kernel_rfl) rfl (by kernel_rfl) (fun K hK => ?_)
          go_simp
          refine (same9_any qA A6 qn qcc n6 c6 _ _ _ _ _ (OwnI.rd t4) (OwnRI.rd hown6)).mono ?_
          rintro z v15 ⟨rfl, hbn⟩
          refine hK.out _ _ (hbn) ?_
          clear hK K
          try simp only [Act.put, List.getElem_toArray, List.getElem_cons_succ, List.getElem_cons_zero, List.setIfInBounds_toArray, List.set_cons_zero, List.set_cons_succ]
          replace hF := hF.step hbn
          replace hm9 := hm9.step hbn
          replace hown5 := OwnRI.step hown5 hbn
          replace hB2 := Nat.le_trans hB2 hbn.size
          clear hct hgt hgc2 hlec hmaxc r0 r1 r2 r3 z0 z1 z2 z3 zf l13 hbn t4 hown6 hm13
          refine stage_read (i := 17) (v := ?_) rfl (by kernel_rfl) (by kernel_rfl) (by kernel_rfl) (by kernel_rfl) (by kernel_rfl) (by kernel_rfl) (fun _ _ _ h => h) (Or.inl ⟨by kernel_rfl, ?_⟩) ?_
          rotate_left
          · (intro wS hwS; obtain ⟨hcS, hfS, hhS⟩ := bcell hwS; go_simp; try (first | (with_reducible rfl) | rw [if_pos (by omega)] | rw [if_neg (by omega)]))
          try simp only [Act.put, List.getElem_toArray, List.getElem_cons_succ, List.getElem_cons_zero, List.setIfInBounds_toArray, List.set_cons_zero, List.set_cons_succ]
          refine stage_read (i := 18) (v := ?_) rfl (by kernel_rfl) (by kernel_rfl) (by kernel_rfl) (by kernel_rfl) (by kernel_rfl) (by kernel_rfl) (fun _ _ _ h => h) (Or.inl ⟨by kernel_rfl, ?_⟩) ?_
          rotate_left
          · (intro wS hwS; obtain ⟨hcS, hfS, hhS⟩ := bcell hwS; go_simp; try (first | (with_reducible rfl) | rw [if_pos (by omega)] | rw [if_neg (by omega)]))
          try simp only [Act.put, List.getElem_toArray, List.getElem_cons_succ, List.getElem_cons_zero, List.setIfInBounds_toArray, List.set_cons_zero, List.set_cons_succ]
          first | refine wpAnyT_done (by kernel_rfl) ?_ _ | refine wpAny_done (by kernel_rfl) ?_ _
          clear hq1 hq2
          have HF := Lib.hid hF
          have HO := Lib.hid hown5
          have H9 := Lib.hid hm9
          clear hF hown5 hm9
          go_wp2_with fail
          go_roundw
          case rel => exact ⟨k + 1, l'.length, c5, A5, by go_num, by omega, HF.out, by rw [HSU.out]; exact H9.out, by rw [HSU.out]; exact HO.out, hB2⟩
          case measure => simp [intOf]; omega
      ·
        skip
        go_simp
        obtain ⟨hnew, hbn⟩ := one_at v1 83 [.int .i64 0, .int .i64 0, .string ⟨#[]⟩, .slice none 0 0]
        refine hK.out _ _ (hbn) ?_
        clear hK K
        try simp only [Act.put, List.getElem_toArray, List.getElem_cons_succ, List.getElem_cons_zero, List.setIfInBounds_toArray, List.set_cons_zero, List.set_cons_succ]
        have hg13 := hB2
        replace hF := hF.step hbn
        replace h9 := h9.step hbn
        replace hB2 := Nat.le_trans hB2 hbn.size
        try replace hown := OwnRI.step hown hbn
        try replace hown5 := OwnRI.step hown5 hbn
        try replace hown6 := OwnRI.step hown6 hbn
        try replace h12 := h12.step hbn
        try replace h13 := h13.step hbn
        clear hbn
        have h13 := hnew
        clear hnew
        generalize World.alloc v1 _ = v2 at *
        generalize v1.heap.size = g13 at *
        refine stage_two 5 9 (by kernel_rfl) rfl rfl (by kernel_rfl) (by kernel_rfl) (fun K hK => ?_) (fun K hK => ?_)
        ·
          skip
          go_simp
          refine (HRD.out _ hown hB2).mono ?_
          rintro z v3 ⟨A5, n5, c5, A6, n6, c6, rfl, hown5, hown6', hbn⟩
          refine hK.out _ _ (hbn) ?_
          clear hK K
          try simp only [Act.put, List.getElem_toArray, List.getElem_cons_succ, List.getElem_cons_zero, List.setIfInBounds_toArray, List.set_cons_zero, List.set_cons_succ]
          have hown6 := OwnRI.lower hown6' hB2
          replace hF := hF.step hbn
          replace h9 := h9.step hbn
          replace hB2 := Nat.le_trans hB2 hbn.size
          try replace h12 := h12.step hbn
          try replace h13 := h13.step hbn
          clear hbn hown6' hown
          refine stage_read (i := 6) (v := ?_) rfl (by kernel_rfl) (by kernel_rfl) (by kernel_rfl) (by kernel_rfl) (by kernel_rfl) (by kernel_rfl) (fun _ _ _ h => h) (Or.inl ⟨by kernel_rfl, ?_⟩) ?_
          rotate_left
          · (intro wS hwS; obtain ⟨hcS, hfS, hhS⟩ := bcell hwS; go_simp; try (first | (with_reducible rfl) | rw [if_pos (by omega)] | rw [if_neg (by omega)]))
          try simp only [Act.put, List.getElem_toArray, List.getElem_cons_succ, List.getElem_cons_zero, List.setIfInBounds_toArray, List.set_cons_zero, List.set_cons_succ]
          refine stage_read (i := 7) (v := ?_) rfl (by kernel_rfl) (by kernel_rfl) (by kernel_rfl) (by kernel_rfl) (by kernel_rfl) (by kernel_rfl) (fun _ _ _ h => h) (Or.inl ⟨by kernel_rfl, ?_⟩) ?_
          rotate_left
          · (intro wS hwS; obtain ⟨hcS, hfS, hhS⟩ := bcell hwS; go_simp; try (first | (with_reducible rfl) | rw [if_pos (by omega)] | rw [if_neg (by omega)]))
          try simp only [Act.put, List.getElem_toArray, List.getElem_cons_succ, List.getElem_cons_zero, List.setIfInBounds_toArray, List.set_cons_zero, List.set_cons_succ]
          refine stage_pure (i := 8) (v := ?_) rfl (by kernel_rfl) (by kernel_rfl) (by kernel_rfl) (by kernel_rfl) (by kernel_rfl) (fun _ _ _ h => h) (Or.inl ⟨by kernel_rfl, ?_⟩) ?_
          rotate_left
          · (intro wS; go_simp; try (first | (with_reducible rfl) | rw [if_pos (by omega)] | rw [if_neg (by omega)]))
          try simp only [Act.put, List.getElem_toArray, List.getElem_cons_succ, List.getElem_cons_zero, List.setIfInBounds_toArray, List.set_cons_zero, List.set_cons_succ]
          refine stage_one 9 (by kernel_rfl) rfl (by kernel_rfl) (fun K hK => ?_)
          go_simp
          obtain ⟨hnew, hbn⟩ := one_at v3 81 [.int .i64 0, .slice none 0 0]
          refine hK.out _ _ (hbn) ?_
          clear hK K
          try simp only [Act.put, List.getElem_toArray, List.getElem_cons_succ, List.getElem_cons_zero, List.setIfInBounds_toArray, List.set_cons_zero, List.set_cons_succ]
          have hg12 := hB2
          replace hF := hF.step hbn
          replace h9 := h9.step hbn
          replace hB2 := Nat.le_trans hB2 hbn.size
          try replace hown := OwnRI.step hown hbn
          try replace hown5 := OwnRI.step hown5 hbn
          try replace hown6 := OwnRI.step hown6 hbn
          try replace h12 := h12.step hbn
          try replace h13 := h13.step hbn
          clear hbn
          have h12 := hnew
          clear hnew
          generalize World.alloc v3 _ = v4 at *
          generalize v3.heap.size = g12 at *
          obtain ⟨⟨z0, z1⟩, zf0, zf1⟩ := at2 h12
          have l12 := h12.lt
          have hn5 := OwnRI.len hown5
          subst hn5

          refine stage_end (by kernel_rfl) rfl (fun K hK => ?_)
          go_simp
          refine hK.out _ _ ?_
          clear hK K
          try simp only [Act.put, List.getElem_toArray, List.getElem_cons_succ, List.getElem_cons_zero, List.setIfInBounds_toArray, List.set_cons_zero, List.set_cons_succ]
          obtain ⟨hm12, hG⟩ := At.many [(0, .int .i64 rev'), (1, .slice A5 l'.length c5)] h12
          dsimp only [setMany, setL, List.set] at hm12 hG
          have hmG := (grown_mod hG).mono (N := fun i _ => some g12 = some i) (M := fun k _ => k = g12) (fun i o _ _ e => (Option.some.inj e).symm)
          have hne := h12.ne h13 (by decide)
          replace hF := hF.other h12 hmG (by omega) alien_st
          replace h9 := h9.only hG (by omega)
          replace h13 := h13.only hG (Ne.symm hne)
          replace hown5 := own_mod (show World.ownsRow _ _ _ _ _ _ _ from hown5) hmG (fun i o ho _ hit => isT_at h12 ho hit (by decide))
          replace hown6 := own_mod (show World.ownsRow _ _ _ _ _ _ _ from hown6) hmG (fun i o ho _ hit => isT_at h12 ho hit (by decide))
          replace hB2 := Nat.le_trans hB2 hG.size
          clear z0 z1 zf0 zf1 l12 hG hmG h12
          generalize World.setCell _ _ _ = v11 at *
          obtain ⟨⟨z0, z1, z2, z3⟩, zf0, zf1, zf2, zf3⟩ := at4 h13
          have l13 := h13.lt
          refine stage 12 ?_

          refine stage_end (by kernel_rfl) rfl (fun K hK => ?_)
          go_simp
          refine hK.out _ _ ?_
          clear hK K
          try simp only [Act.put, List.getElem_toArray, List.getElem_cons_succ, List.getElem_cons_zero, List.setIfInBounds_toArray, List.set_cons_zero, List.set_cons_succ]
          first | refine wpAnyT_done (by kernel_rfl) ?_ _ | refine wpAny_done (by kernel_rfl) ?_ _
          obtain ⟨hm13, hG⟩ := At.many [(0, .int .i64 tc), (1, .int .i64 tr), (2, .string tv), (3, .slice A6 n6 c6)] h13
          dsimp only [setMany, setL, List.set] at hm13 hG
          have hmG := (grown_mod hG).mono (N := fun i _ => some g13 = some i) (M := fun k _ => k = g13) (fun i o _ _ e => (Option.some.inj e).symm)
          replace hF := hF.other h13 hmG (by omega) alien_re
          replace h9 := h9.only hG (by omega)
          replace hm12 := hm12.only hG hne
          replace hown5 := own_mod (show World.ownsRow _ _ _ _ _ _ _ from hown5) hmG (fun i o ho _ hit => isT_at h13 ho hit (by decide))
          replace hown6 := own_mod (show World.ownsRow _ _ _ _ _ _ _ from hown6) hmG (fun i o ho _ hit => isT_at h13 ho hit (by decide))
          replace hB2 := Nat.le_trans hB2 hG.size
          clear z0 z1 z2 z3 zf0 zf1 zf2 zf3 l13 hG hmG h13 hne
          generalize World.setCell _ _ _ = v12 at *
          obtain ⟨⟨z0, z1⟩, zf0, zf1⟩ := at2 hm12
          obtain ⟨⟨s0, s1⟩, sf0, sf1⟩ := at2 h9
          go_upto_region 10 with fail
          obtain ⟨hm9, hG⟩ := At.many [(0, .int .i64 rev'), (1, .slice A5 l'.length c5)] h9
          dsimp only [setMany, setL, List.set] at hm9 hG
          have hmG := (grown_mod hG).mono (N := fun i _ => some gs = some i) (M := fun k _ => k = gs) (fun i o _ _ e => (Option.some.inj e).symm)
          replace hF := hF.other h9 hmG (by omega) alien_st
          replace hm13 := hm13.only hG (by omega)
          replace hown5 := own_mod (show World.ownsRow _ _ _ _ _ _ _ from hown5) hmG (fun i o ho _ hit => isT_at h9 ho hit (by decide))
          replace hown6 := own_mod (show World.ownsRow _ _ _ _ _ _ _ from hown6) hmG (fun i o ho _ hit => isT_at h9 ho hit (by decide))
          replace hB2 := Nat.le_trans hB2 hG.size
          clear z0 z1 zf0 zf1 s0 s1 sf0 sf1 hG hmG h9 hm12
          generalize World.setCell _ _ _ = v13 at *
          refine region_any (by kernel_rfl) ?_
          change wpAny _ _ _ _ _ _ _ (World.drew _)
          replace hF := hF.drew
          replace hm9 := hm9.drew
          replace hm13 := hm13.drew
          replace hown5 := (show v13.drew.ownsRow _ _ _ _ _ _ from hown5)
          replace hown6 := (show v13.drew.ownsRow _ _ _ _ _ _ from hown6)
          replace hB2 : B2 ≤ v13.drew.heap.size := hB2
          generalize World.drew _ = v14 at *
          obtain ⟨At', ct', hct, htr⟩ := hF.ch.told
          have htl := hF.tl k (by rw [HRS.out]; exact hkm)
          obtain ⟨gt, ot, e, hgt, het⟩ := (Rd.of_own htr).elem Res.row_length (by omega) (k := k) (by rw [HRS.out]; exact hkm)
          have hgc2 := hF.ch.lt
          have hlec := (Rd.of_own htr).le
          have hmaxc := (Rd.of_own htr).max
          unfold maxLen at hmaxc
          rw [HRS.out] at hct hlec
          subst e
          rw [HTK.out] at htl
          have hkr : k < rs.length := by rw [HRS.out]; exact hkm
          generalize rs[k]'hkr = q at *
          obtain ⟨qc, qr, qv, qA, qn, qcc⟩ := q
          obtain ⟨t1, t2, t3, t4⟩ := htl
          simp only at t1 t2 t3 t4
          subst t1 t2 t3
          have r0 := het 0 _ rfl
          have r1 := het 1 _ rfl
          have r2 := het 2 _ rfl
          have r3 := het 3 _ rfl
          rw [Nat.add_zero] at r0
          clear het htr
          obtain ⟨⟨z0, z1, z2, z3⟩, zf⟩ := at4 hm13
          have l13 := hm13.lt
          have hq1 : decide (m ≤ k) = false := decide_eq_false (by omega)
          have hq2 : decide ((m : Int) ≤ (k : Int)) = false := decide_eq_false (by omega)
          refine stage 100000 ?_
          refine stage_read (i := 0) (v := ?_) rfl (by kernel_rfl) (by kernel_rfl) (by kernel_rfl) (by kernel_rfl) (by kernel_rfl) (by kernel_rfl) (fun _ _ _ h => h) (Or.inl ⟨by kernel_rfl, ?_⟩) ?_
          rotate_left
          · (intro wS hwS; obtain ⟨hcS, hfS, hhS⟩ := bcell hwS; go_simp; try (first | (with_reducible rfl) | rw [if_pos (by omega)] | rw [if_neg (by omega)]))
          try simp only [Act.put, List.getElem_toArray, List.getElem_cons_succ, List.getElem_cons_zero, List.setIfInBounds_toArray, List.set_cons_zero, List.set_cons_succ]
          refine stage_read (i := 1) (v := ?_) rfl (by kernel_rfl) (by kernel_rfl) (by kernel_rfl) (by kernel_rfl) (by kernel_rfl) (by kernel_rfl) (fun _ _ _ h => h) (Or.inl ⟨by kernel_rfl, ?_⟩) ?_
          rotate_left
          · (intro wS hwS; obtain ⟨hcS, hfS, hhS⟩ := bcell hwS; go_simp; try (first | (with_reducible rfl) | rw [if_pos (by omega)] | rw [if_neg (by omega)]))
          try simp only [Act.put, List.getElem_toArray, List.getElem_cons_succ, List.getElem_cons_zero, List.setIfInBounds_toArray, List.set_cons_zero, List.set_cons_succ]
          refine stage_read (i := 2) (v := ?_) rfl (by kernel_rfl) (by kernel_rfl) (by kernel_rfl) (by kernel_rfl) (by kernel_rfl) (by kernel_rfl) (fun _ _ _ h => h) (Or.inl ⟨by kernel_rfl, ?_⟩) ?_
          rotate_left
          · (intro wS hwS; obtain ⟨hcS, hfS, hhS⟩ := bcell hwS; go_simp; try (first | (with_reducible rfl) | rw [if_pos (by omega)] | rw [if_neg (by omega)]))
          try simp only [Act.put, List.getElem_toArray, List.getElem_cons_succ, List.getElem_cons_zero, List.setIfInBounds_toArray, List.set_cons_zero, List.set_cons_succ]
          refine stage_read (i := 3) (v := ?_) rfl (by kernel_rfl) (by kernel_rfl) (by kernel_rfl) (by kernel_rfl) (by kernel_rfl) (by kernel_rfl) (fun _ _ _ h => h) (Or.inl ⟨by kernel_rfl, ?_⟩) ?_
          rotate_left
          · (intro wS hwS; obtain ⟨hcS, hfS, hhS⟩ := bcell hwS; go_simp; try (first | (with_reducible rfl) | rw [if_pos (by omega)] | rw [if_neg (by omega)]))
          try simp only [Act.put, List.getElem_toArray, List.getElem_cons_succ, List.getElem_cons_zero, List.setIfInBounds_toArray, List.set_cons_zero, List.set_cons_succ]
          refine stage_read (i := 4) (v := ?_) rfl (by kernel_rfl) (by kernel_rfl) (by kernel_rfl) (by kernel_rfl) (by kernel_rfl) (by kernel_rfl) (fun _ _ _ h => h) (Or.inl ⟨by kernel_rfl, ?_⟩) ?_
          rotate_left
          · (intro wS hwS; obtain ⟨hcS, hfS, hhS⟩ := bcell hwS; go_simp; try (first | (with_reducible rfl) | rw [if_pos (by omega)] | rw [if_neg (by omega)]))
          try simp only [Act.put, List.getElem_toArray, List.getElem_cons_succ, List.getElem_cons_zero, List.setIfInBounds_toArray, List.set_cons_zero, List.set_cons_succ]
          refine stage_read (i := 5) (v := ?_) rfl (by kernel_rfl) (by kernel_rfl) (by kernel_rfl) (by kernel_rfl) (by kernel_rfl) (by kernel_rfl) (fun _ _ _ h => h) (Or.inl ⟨by kernel_rfl, ?_⟩) ?_
          rotate_left
          · (intro wS hwS; obtain ⟨hcS, hfS, hhS⟩ := bcell hwS; go_simp; try (first | (with_reducible rfl) | rw [if_pos (by omega)] | rw [if_neg (by omega)]))
          try simp only [Act.put, List.getElem_toArray, List.getElem_cons_succ, List.getElem_cons_zero, List.setIfInBounds_toArray, List.set_cons_zero, List.set_cons_succ]
          refine stage_read (i := 6) (v := ?_) rfl (by kernel_rfl) (by kernel_rfl) (by kernel_rfl) (by kernel_rfl) (by kernel_rfl) (by kernel_rfl) (fun _ _ _ h => h) (Or.inl ⟨by kernel_rfl, ?_⟩) ?_
          rotate_left
          · (intro wS hwS; obtain ⟨hcS, hfS, hhS⟩ := bcell hwS; go_simp; try (first | (with_reducible rfl) | rw [if_pos (by omega)] | rw [if_neg (by omega)]))
          try simp only [Act.put, List.getElem_toArray, List.getElem_cons_succ, List.getElem_cons_zero, List.setIfInBounds_toArray, List.set_cons_zero, List.set_cons_succ]
          refine stage_read (i := 7) (v := ?_) rfl (by kernel_rfl) (by kernel_rfl) (by kernel_rfl) (by kernel_rfl) (by kernel_rfl) (by kernel_rfl) (fun _ _ _ h => h) (Or.inl ⟨by kernel_rfl, ?_⟩) ?_
          rotate_left
          · (intro wS hwS; obtain ⟨hcS, hfS, hhS⟩ := bcell hwS; go_simp; try (first | (with_reducible rfl) | rw [if_pos (by omega)] | rw [if_neg (by omega)]))
          try simp only [Act.put, List.getElem_toArray, List.getElem_cons_succ, List.getElem_cons_zero, List.setIfInBounds_toArray, List.set_cons_zero, List.set_cons_succ]
          refine stage_read (i := 8) (v := ?_) rfl (by kernel_rfl) (by kernel_rfl) (by kernel_rfl) (by kernel_rfl) (by kernel_rfl) (by kernel_rfl) (fun _ _ _ h => h) (Or.inl ⟨by kernel_rfl, ?_⟩) ?_
          rotate_left
          · (intro wS hwS; obtain ⟨hcS, hfS, hhS⟩ := bcell hwS; go_simp; try (first | (with_reducible rfl) | rw [if_pos (by omega)] | rw [if_neg (by omega)]))
          try simp only [Act.put, List.getElem_toArray, List.getElem_cons_succ, List.getElem_cons_zero, List.setIfInBounds_toArray, List.set_cons_zero, List.set_cons_succ]
          refine stage_read (i := 9) (v := ?_) rfl (by kernel_rfl) (by kernel_rfl) (by kernel_rfl) (by kernel_rfl) (by kernel_rfl) (by kernel_rfl) (fun _ _ _ h => h) (Or.inl ⟨by kernel_rfl, ?_⟩) ?_
          rotate_left
          · (intro wS hwS; obtain ⟨hcS, hfS, hhS⟩ := bcell hwS; go_simp; try (first | (with_reducible rfl) | rw [if_pos (by omega)] | rw [if_neg (by omega)]))
          try simp only [Act.put, List.getElem_toArray, List.getElem_cons_succ, List.getElem_cons_zero, List.setIfInBounds_toArray, List.set_cons_zero, List.set_cons_succ]
          refine stage_read (i := 10) (v := ?_) rfl (by kernel_rfl) (by kernel_rfl) (by kernel_rfl) (by kernel_rfl) (by kernel_rfl) (by kernel_rfl) (fun _ _ _ h => h) (Or.inl ⟨by kernel_rfl, ?_⟩) ?_
          rotate_left
          · (intro wS hwS; obtain ⟨hcS, hfS, hhS⟩ := bcell hwS; go_simp; try (first | (with_reducible rfl) | rw [if_pos (by omega)] | rw [if_neg (by omega)]))
          try simp only [Act.put, List.getElem_toArray, List.getElem_cons_succ, List.getElem_cons_zero, List.setIfInBounds_toArray, List.set_cons_zero, List.set_cons_succ]
          refine stage_read (i := 11) (v := ?_) rfl (by kernel_rfl) (by kernel_rfl) (by kernel_rfl) (by kernel_rfl) (by kernel_rfl) (by kernel_rfl) (fun _ _ _ h => h) (Or.inl ⟨by kernel_rfl, ?_⟩) ?_
          rotate_left
          · (intro wS hwS; obtain ⟨hcS, hfS, hhS⟩ := bcell hwS; go_simp; try (first | (with_reducible rfl) | rw [if_pos (by omega)] | rw [if_neg (by omega)]))
          try simp only [Act.put, List.getElem_toArray, List.getElem_cons_succ, List.getElem_cons_zero, List.setIfInBounds_toArray, List.set_cons_zero, List.set_cons_succ]
          refine stage_read (i := 12) (v := ?_) rfl (by kernel_rfl) (by kernel_rfl) (by kernel_rfl) (by kernel_rfl) (by kernel_rfl) (by kernel_rfl) (fun _ _ _ h => h) (Or.inl ⟨by kernel_rfl, ?_⟩) ?_
          rotate_left
          · (intro wS hwS; obtain ⟨hcS, hfS, hhS⟩ := bcell hwS; go_simp; try (first | (with_reducible rfl) | rw [if_pos (by omega)] | rw [if_neg (by omega)]))
          try simp only [Act.put, List.getElem_toArray, List.getElem_cons_succ, List.getElem_cons_zero, List.setIfInBounds_toArray, List.set_cons_zero, List.set_cons_succ]
          refine stage_read (i := 13) (v := ?_) rfl (by kernel_rfl) (by kernel_rfl) (by kernel_rfl) (by kernel_rfl) (by kernel_rfl) (by kernel_rfl) (fun _ _ _ h => h) (Or.inl ⟨by kernel_rfl, ?_⟩) ?_
          rotate_left
          · (intro wS hwS; obtain ⟨hcS, hfS, hhS⟩ := bcell hwS; go_simp; try (first | (with_reducible rfl) | rw [if_pos (by omega)] | rw [if_neg (by omega)]))
          try simp only [Act.put, List.getElem_toArray, List.getElem_cons_succ, List.getElem_cons_zero, List.setIfInBounds_toArray, List.set_cons_zero, List.set_cons_succ]
          refine stage_read (i := 14) (v := ?_) rfl (by kernel_rfl) (by kernel_rfl) (by kernel_rfl) (by kernel_rfl) (by kernel_rfl) (by kernel_rfl) (fun _ _ _ h => h) (Or.inl ⟨by kernel_rfl, ?_⟩) ?_
          rotate_left
          · (intro wS hwS; obtain ⟨hcS, hfS, hhS⟩ := bcell hwS; go_simp; try (first | (with_reducible rfl) | rw [if_pos (by omega)] | rw [if_neg (by omega)]))
          try simp only [Act.put, List.getElem_toArray, List.getElem_cons_succ, List.getElem_cons_zero, List.setIfInBounds_toArray, List.set_cons_zero, List.set_cons_succ]
          refine stage_read (i := 15) (v := ?_) rfl (by kernel_rfl) (by kernel_rfl) (by kernel_rfl) (by kernel_rfl) (by kernel_rfl) (by kernel_rfl) (fun _ _ _ h => h) (Or.inl ⟨by kernel_rfl, ?_⟩) ?_
          rotate_left
          · (intro wS hwS; obtain ⟨hcS, hfS, hhS⟩ := bcell hwS; go_simp; try (first | (with_reducible rfl) | rw [if_pos (by omega)] | rw [if_neg (by omega)]))
          try simp only [Act.put, List.getElem_toArray, List.getElem_cons_succ, List.getElem_cons_zero, List.setIfInBounds_toArray, List.set_cons_zero, List.set_cons_succ]
          refine stage_one 16 (by kernel_rfl) rfl (by kernel_rfl) (fun K hK => ?_)
          go_simp
          refine (same9_any qA A6 qn qcc n6 c6 _ _ _ _ _ (OwnI.rd t4) (OwnRI.rd hown6)).mono ?_
          rintro z v15 ⟨rfl, hbn⟩
          refine hK.out _ _ (hbn) ?_
          clear hK K
          try simp only [Act.put, List.getElem_toArray, List.getElem_cons_succ, List.getElem_cons_zero, List.setIfInBounds_toArray, List.set_cons_zero, List.set_cons_succ]
          replace hF := hF.step hbn
          replace hm9 := hm9.step hbn
          replace hown5 := OwnRI.step hown5 hbn
          replace hB2 := Nat.le_trans hB2 hbn.size
          clear hct hgt hgc2 hlec hmaxc r0 r1 r2 r3 z0 z1 z2 z3 zf l13 hbn t4 hown6 hm13
          refine stage_read (i := 17) (v := ?_) rfl (by kernel_rfl) (by kernel_rfl) (by kernel_rfl) (by kernel_rfl) (by kernel_rfl) (by kernel_rfl) (fun _ _ _ h => h) (Or.inl ⟨by kernel_rfl, ?_⟩) ?_
          rotate_left
          · (intro wS hwS; obtain ⟨hcS, hfS, hhS⟩ := bcell hwS; go_simp; try (first | (with_reducible rfl) | rw [if_pos (by omega)] | rw [if_neg (by omega)]))
          try simp only [Act.put, List.getElem_toArray, List.getElem_cons_succ, List.getElem_cons_zero, List.setIfInBounds_toArray, List.set_cons_zero, List.set_cons_succ]
          refine stage_read (i := 18) (v := ?_) rfl (by kernel_rfl) (by kernel_rfl) (by kernel_rfl) (by kernel_rfl) (by kernel_rfl) (by kernel_rfl) (fun _ _ _ h => h) (Or.inl ⟨by kernel_rfl, ?_⟩) ?_
          rotate_left
          · (intro wS hwS; obtain ⟨hcS, hfS, hhS⟩ := bcell hwS; go_simp; try (first | (with_reducible rfl) | rw [if_pos (by omega)] | rw [if_neg (by omega)]))
          try simp only [Act.put, List.getElem_toArray, List.getElem_cons_succ, List.getElem_cons_zero, List.setIfInBounds_toArray, List.set_cons_zero, List.set_cons_succ]
          first | refine wpAnyT_done (by kernel_rfl) ?_ _ | refine wpAny_done (by kernel_rfl) ?_ _
          clear hq1 hq2
          have HF := Lib.hid hF
          have HO := Lib.hid hown5
          have H9 := Lib.hid hm9
          clear hF hown5 hm9
          go_wp2_with fail
          go_roundw
          case rel => exact ⟨k + 1, l'.length, c5, A5, by go_num, by omega, HF.out, by rw [HSU.out]; exact H9.out, by rw [HSU.out]; exact HO.out, hB2⟩
          case measure => simp [intOf]; omega
        ·
          skip
          go_simp
          obtain ⟨hnew, hbn⟩ := one_at v2 81 [.int .i64 0, .slice none 0 0]
          refine hK.out _ _ (hbn) ?_
          clear hK K
          try simp only [Act.put, List.getElem_toArray, List.getElem_cons_succ, List.getElem_cons_zero, List.setIfInBounds_toArray, List.set_cons_zero, List.set_cons_succ]
          have hg12 := hB2
          replace hF := hF.step hbn
          replace h9 := h9.step hbn
          replace hB2 := Nat.le_trans hB2 hbn.size
          try replace hown := OwnRI.step hown hbn
          try replace hown5 := OwnRI.step hown5 hbn
          try replace hown6 := OwnRI.step hown6 hbn
          try replace h12 := h12.step hbn
          try replace h13 := h13.step hbn
          clear hbn
          have h12 := hnew
          clear hnew
          generalize World.alloc v2 _ = v3 at *
          generalize v2.heap.size = g12 at *
          refine stage_one 5 (by kernel_rfl) rfl (by kernel_rfl) (fun K hK => ?_)
          go_simp
          refine (HRD.out _ hown hB2).mono ?_
          rintro z v4 ⟨A5, n5, c5, A6, n6, c6, rfl, hown5, hown6', hbn⟩
          refine hK.out _ _ (hbn) ?_
          clear hK K
          try simp only [Act.put, List.getElem_toArray, List.getElem_cons_succ, List.getElem_cons_zero, List.setIfInBounds_toArray, List.set_cons_zero, List.set_cons_succ]
          have hown6 := OwnRI.lower hown6' hB2
          replace hF := hF.step hbn
          replace h9 := h9.step hbn
          replace hB2 := Nat.le_trans hB2 hbn.size
          try replace h12 := h12.step hbn
          try replace h13 := h13.step hbn
          clear hbn hown6' hown
          refine stage_read (i := 6) (v := ?_) rfl (by kernel_rfl) (by kernel_rfl) (by kernel_rfl) (by kernel_rfl) (by kernel_rfl) (by kernel_rfl) (fun _ _ _ h => h) (Or.inl ⟨by kernel_rfl, ?_⟩) ?_
          rotate_left
          · (intro wS hwS; obtain ⟨hcS, hfS, hhS⟩ := bcell hwS; go_simp; try (first | (with_reducible rfl) | rw [if_pos (by omega)] | rw [if_neg (by omega)]))
          try simp only [Act.put, List.getElem_toArray, List.getElem_cons_succ, List.getElem_cons_zero, List.setIfInBounds_toArray, List.set_cons_zero, List.set_cons_succ]
          refine stage_read (i := 7) (v := ?_) rfl (by kernel_rfl) (by kernel_rfl) (by kernel_rfl) (by kernel_rfl) (by kernel_rfl) (by kernel_rfl) (fun _ _ _ h => h) (Or.inl ⟨by kernel_rfl, ?_⟩) ?_
          rotate_left
          · (intro wS hwS; obtain ⟨hcS, hfS, hhS⟩ := bcell hwS; go_simp; try (first | (with_reducible rfl) | rw [if_pos (by omega)] | rw [if_neg (by omega)]))
          try simp only [Act.put, List.getElem_toArray, List.getElem_cons_succ, List.getElem_cons_zero, List.setIfInBounds_toArray, List.set_cons_zero, List.set_cons_succ]
          refine stage_pure (i := 8) (v := ?_) rfl (by kernel_rfl) (by kernel_rfl) (by kernel_rfl) (by kernel_rfl) (by kernel_rfl) (fun _ _ _ h => h) (Or.inl ⟨by kernel_rfl, ?_⟩) ?_
          rotate_left
          · (intro wS; go_simp; try (first | (with_reducible rfl) | rw [if_pos (by omega)] | rw [if_neg (by omega)]))
          try simp only [Act.put, List.getElem_toArray, List.getElem_cons_succ, List.getElem_cons_zero, List.setIfInBounds_toArray, List.set_cons_zero, List.set_cons_succ]
          obtain ⟨⟨z0, z1⟩, zf0, zf1⟩ := at2 h12
          have l12 := h12.lt
          have hn5 := OwnRI.len hown5
          subst hn5

          refine stage_end (by kernel_rfl) rfl (fun K hK => ?_)
          go_simp
          refine hK.out _ _ ?_
          clear hK K
          try simp only [Act.put, List.getElem_toArray, List.getElem_cons_succ, List.getElem_cons_zero, List.setIfInBounds_toArray, List.set_cons_zero, List.set_cons_succ]
          obtain ⟨hm12, hG⟩ := At.many [(0, .int .i64 rev'), (1, .slice A5 l'.length c5)] h12
          dsimp only [setMany, setL, List.set] at hm12 hG
          have hmG := (grown_mod hG).mono (N := fun i _ => some g12 = some i) (M := fun k _ => k = g12) (fun i o _ _ e => (Option.some.inj e).symm)
          have hne := h12.ne h13 (by decide)
          replace hF := hF.other h12 hmG (by omega) alien_st
          replace h9 := h9.only hG (by omega)
          replace h13 := h13.only hG (Ne.symm hne)
          replace hown5 := own_mod (show World.ownsRow _ _ _ _ _ _ _ from hown5) hmG (fun i o ho _ hit => isT_at h12 ho hit (by decide))
          replace hown6 := own_mod (show World.ownsRow _ _ _ _ _ _ _ from hown6) hmG (fun i o ho _ hit => isT_at h12 ho hit (by decide))
          replace hB2 := Nat.le_trans hB2 hG.size
          clear z0 z1 zf0 zf1 l12 hG hmG h12
          generalize World.setCell _ _ _ = v11 at *
          obtain ⟨⟨z0, z1, z2, z3⟩, zf0, zf1, zf2, zf3⟩ := at4 h13
          have l13 := h13.lt
          refine stage 12 ?_

          refine stage_end (by kernel_rfl) rfl (fun K hK => ?_)
          go_simp
          refine hK.out _ _ ?_
          clear hK K
          try simp only [Act.put, List.getElem_toArray, List.getElem_cons_succ, List.getElem_cons_zero, List.setIfInBounds_toArray, List.set_cons_zero, List.set_cons_succ]
          first | refine wpAnyT_done (by kernel_rfl) ?_ _ | refine wpAny_done (by kernel_rfl) ?_ _
          obtain ⟨hm13, hG⟩ := At.many [(0, .int .i64 tc), (1, .int .i64 tr), (2, .string tv), (3, .slice A6 n6 c6)] h13
          dsimp only [setMany, setL, List.set] at hm13 hG
          have hmG := (grown_mod hG).mono (N := fun i _ => some g13 = some i) (M := fun k _ => k = g13) (fun i o _ _ e => (Option.some.inj e).symm)
          replace hF := hF.other h13 hmG (by omega) alien_re
          replace h9 := h9.only hG (by omega)
          replace hm12 := hm12.only hG hne
          replace hown5 := own_mod (show World.ownsRow _ _ _ _ _ _ _ from hown5) hmG (fun i o ho _ hit => isT_at h13 ho hit (by decide))
          replace hown6 := own_mod (show World.ownsRow _ _ _ _ _ _ _ from hown6) hmG (fun i o ho _ hit => isT_at h13 ho hit (by decide))
          replace hB2 := Nat.le_trans hB2 hG.size
          clear z0 z1 z2 z3 zf0 zf1 zf2 zf3 l13 hG hmG h13 hne
          generalize World.setCell _ _ _ = v12 at *
          obtain ⟨⟨z0, z1⟩, zf0, zf1⟩ := at2 hm12
          obtain ⟨⟨s0, s1⟩, sf0, sf1⟩ := at2 h9
          go_upto_region 10 with fail
          obtain ⟨hm9, hG⟩ := At.many [(0, .int .i64 rev'), (1, .slice A5 l'.length c5)] h9
          dsimp only [setMany, setL, List.set] at hm9 hG
          have hmG := (grown_mod hG).mono (N := fun i _ => some gs = some i) (M := fun k _ => k = gs) (fun i o _ _ e => (Option.some.inj e).symm)
          replace hF := hF.other h9 hmG (by omega) alien_st
          replace hm13 := hm13.only hG (by omega)
          replace hown5 := own_mod (show World.ownsRow _ _ _ _ _ _ _ from hown5) hmG (fun i o ho _ hit => isT_at h9 ho hit (by decide))
          replace hown6 := own_mod (show World.ownsRow _ _ _ _ _ _ _ from hown6) hmG (fun i o ho _ hit => isT_at h9 ho hit (by decide))
          replace hB2 := Nat.le_trans hB2 hG.size
          clear z0 z1 zf0 zf1 s0 s1 sf0 sf1 hG hmG h9 hm12
          generalize World.setCell _ _ _ = v13 at *
          refine region_any (by kernel_rfl) ?_
          change wpAny _ _ _ _ _ _ _ (World.drew _)
          replace hF := hF.drew
          replace hm9 := hm9.drew
          replace hm13 := hm13.drew
          replace hown5 := (show v13.drew.ownsRow _ _ _ _ _ _ from hown5)
          replace hown6 := (show v13.drew.ownsRow _ _ _ _ _ _ from hown6)
          replace hB2 : B2 ≤ v13.drew.heap.size := hB2
          generalize World.drew _ = v14 at *
          obtain ⟨At', ct', hct, htr⟩ := hF.ch.told
          have htl := hF.tl k (by rw [HRS.out]; exact hkm)
          obtain ⟨gt, ot, e, hgt, het⟩ := (Rd.of_own htr).elem Res.row_length (by omega) (k := k) (by rw [HRS.out]; exact hkm)
          have hgc2 := hF.ch.lt
          have hlec := (Rd.of_own htr).le
          have hmaxc := (Rd.of_own htr).max
          unfold maxLen at hmaxc
          rw [HRS.out] at hct hlec
          subst e
          rw [HTK.out] at htl
          have hkr : k < rs.length := by rw [HRS.out]; exact hkm
          generalize rs[k]'hkr = q at *
          obtain ⟨qc, qr, qv, qA, qn, qcc⟩ := q
          obtain ⟨t1, t2, t3, t4⟩ := htl
          simp only at t1 t2 t3 t4
          subst t1 t2 t3
          have r0 := het 0 _ rfl
          have r1 := het 1 _ rfl
          have r2 := het 2 _ rfl
          have r3 := het 3 _ rfl
          rw [Nat.add_zero] at r0
          clear het htr
          obtain ⟨⟨z0, z1, z2, z3⟩, zf⟩ := at4 hm13
          have l13 := hm13.lt
          have hq1 : decide (m ≤ k) = false := decide_eq_false (by omega)
          have hq2 : decide ((m : Int) ≤ (k : Int)) = false := decide_eq_false (by omega)
          refine stage 100000 ?_
          refine stage_read (i := 0) (v := ?_) rfl (by kernel_rfl) (by kernel_rfl) (by kernel_rfl) (by kernel_rfl) (by kernel_rfl) (by kernel_rfl) (fun _ _ _ h => h) (Or.inl ⟨by kernel_rfl, ?_⟩) ?_
          rotate_left
          · (intro wS hwS; obtain ⟨hcS, hfS, hhS⟩ := bcell hwS; go_simp; try (first | (with_reducible rfl) | rw [if_pos (by omega)] | rw [if_neg (by omega)]))
          try simp only [Act.put, List.getElem_toArray, List.getElem_cons_succ, List.getElem_cons_zero, List.setIfInBounds_toArray, List.set_cons_zero, List.set_cons_succ]
          refine stage_read (i := 1) (v := ?_) rfl (by kernel_rfl) (by kernel_rfl) (by kernel_rfl) (by kernel_rfl) (by kernel_rfl) (by kernel_rfl) (fun _ _ _ h => h) (Or.inl ⟨by kernel_rfl, ?_⟩) ?_
          rotate_left
          · (intro wS hwS; obtain ⟨hcS, hfS, hhS⟩ := bcell hwS; go_simp; try (first | (with_reducible rfl) | rw [if_pos (by omega)] | rw [if_neg (by omega)]))
          try simp only [Act.put, List.getElem_toArray, List.getElem_cons_succ, List.getElem_cons_zero, List.setIfInBounds_toArray, List.set_cons_zero, List.set_cons_succ]
          refine stage_read (i := 2) (v := ?_) rfl (by kernel_rfl) (by kernel_rfl) (by kernel_rfl) (by kernel_rfl) (by kernel_rfl) (by kernel_rfl) (fun _ _ _ h => h) (Or.inl ⟨by kernel_rfl, ?_⟩) ?_
          rotate_left
          · (intro wS hwS; obtain ⟨hcS, hfS, hhS⟩ := bcell hwS; go_simp; try (first | (with_reducible rfl) | rw [if_pos (by omega)] | rw [if_neg (by omega)]))
          try simp only [Act.put, List.getElem_toArray, List.getElem_cons_succ, List.getElem_cons_zero, List.setIfInBounds_toArray, List.set_cons_zero, List.set_cons_succ]
          refine stage_read (i := 3) (v := ?_) rfl (by kernel_rfl) (by kernel_rfl) (by kernel_rfl) (by kernel_rfl) (by kernel_rfl) (by kernel_rfl) (fun _ _ _ h => h) (Or.inl ⟨by kernel_rfl, ?_⟩) ?_
          rotate_left
          · (intro wS hwS; obtain ⟨hcS, hfS, hhS⟩ := bcell hwS; go_simp; try (first | (with_reducible rfl) | rw [if_pos (by omega)] | rw [if_neg (by omega)]))
          try simp only [Act.put, List.getElem_toArray, List.getElem_cons_succ, List.getElem_cons_zero, List.setIfInBounds_toArray, List.set_cons_zero, List.set_cons_succ]
          refine stage_read (i := 4) (v := ?_) rfl (by kernel_rfl) (by kernel_rfl) (by kernel_rfl) (by kernel_rfl) (by kernel_rfl) (by kernel_rfl) (fun _ _ _ h => h) (Or.inl ⟨by kernel_rfl, ?_⟩) ?_
          rotate_left
          · (intro wS hwS; obtain ⟨hcS, hfS, hhS⟩ := bcell hwS; go_simp; try (first | (with_reducible rfl) | rw [if_pos (by omega)] | rw [if_neg (by omega)]))
          try simp only [Act.put, List.getElem_toArray, List.getElem_cons_succ, List.getElem_cons_zero, List.setIfInBounds_toArray, List.set_cons_zero, List.set_cons_succ]
          refine stage_read (i := 5) (v := ?_) rfl (by kernel_rfl) (by kernel_rfl) (by kernel_rfl) (by kernel_rfl) (by kernel_rfl) (by kernel_rfl) (fun _ _ _ h => h) (Or.inl ⟨by kernel_rfl, ?_⟩) ?_
          rotate_left
          · (intro wS hwS; obtain ⟨hcS, hfS, hhS⟩ := bcell hwS; go_simp; try (first | (with_reducible rfl) | rw [if_pos (by omega)] | rw [if_neg (by omega)]))
          try simp only [Act.put, List.getElem_toArray, List.getElem_cons_succ, List.getElem_cons_zero, List.setIfInBounds_toArray, List.set_cons_zero, List.set_cons_succ]
          refine stage_read (i := 6) (v := ?_) rfl (by kernel_rfl) (by kernel_rfl) (by kernel_rfl) (by kernel_rfl) (by kernel_rfl) (by kernel_rfl) (fun _ _ _ h => h) (Or.inl ⟨by kernel_rfl, ?_⟩) ?_
          rotate_left
          · (intro wS hwS; obtain ⟨hcS, hfS, hhS⟩ := bcell hwS; go_simp; try (first | (with_reducible rfl) | rw [if_pos (by omega)] | rw [if_neg (by omega)]))
          try simp only [Act.put, List.getElem_toArray, List.getElem_cons_succ, List.getElem_cons_zero, List.setIfInBounds_toArray, List.set_cons_zero, List.set_cons_succ]
          refine stage_read (i := 7) (v := ?_) rfl (by kernel_rfl) (by kernel_rfl) (by kernel_rfl) (by kernel_rfl) (by kernel_rfl) (by kernel_rfl) (fun _ _ _ h => h) (Or.inl ⟨by kernel_rfl, ?_⟩) ?_
          rotate_left
          · (intro wS hwS; obtain ⟨hcS, hfS, hhS⟩ := bcell hwS; go_simp; try (first | (with_reducible rfl) | rw [if_pos (by omega)] | rw [if_neg (by omega)]))
          try simp only [Act.put, List.getElem_toArray, List.getElem_cons_succ, List.getElem_cons_zero, List.setIfInBounds_toArray, List.set_cons_zero, List.set_cons_succ]
          refine stage_read (i := 8) (v := ?_) rfl (by kernel_rfl) (by kernel_rfl) (by kernel_rfl) (by kernel_rfl) (by kernel_rfl) (by kernel_rfl) (fun _ _ _ h => h) (Or.inl ⟨by kernel_rfl, ?_⟩) ?_
          rotate_left
          · (intro wS hwS; obtain ⟨hcS, hfS, hhS⟩ := bcell hwS; go_simp; try (first | (with_reducible rfl) | rw [if_pos (by omega)] | rw [if_neg (by omega)]))
          try simp only [Act.put, List.getElem_toArray, List.getElem_cons_succ, List.getElem_cons_zero, List.setIfInBounds_toArray, List.set_cons_zero, List.set_cons_succ]
          refine stage_read (i := 9) (v := ?_) rfl (by kernel_rfl) (by kernel_rfl) (by kernel_rfl) (by kernel_rfl) (by kernel_rfl) (by kernel_rfl) (fun _ _ _ h => h) (Or.inl ⟨by kernel_rfl, ?_⟩) ?_
          rotate_left
          · (intro wS hwS; obtain ⟨hcS, hfS, hhS⟩ := bcell hwS; go_simp; try (first | (with_reducible rfl) | rw [if_pos (by omega)] | rw [if_neg (by omega)]))
          try simp only [Act.put, List.getElem_toArray, List.getElem_cons_succ, List.getElem_cons_zero, List.setIfInBounds_toArray, List.set_cons_zero, List.set_cons_succ]
          refine stage_read (i := 10) (v := ?_) rfl (by kernel_rfl) (by kernel_rfl) (by kernel_rfl) (by kernel_rfl) (by kernel_rfl) (by kernel_rfl) (fun _ _ _ h => h) (Or.inl ⟨by kernel_rfl, ?_⟩) ?_
          rotate_left
          · (intro wS hwS; obtain ⟨hcS, hfS, hhS⟩ := bcell hwS; go_simp; try (first | (with_reducible rfl) | rw [if_pos (by omega)] | rw [if_neg (by omega)]))
          try simp only [Act.put, List.getElem_toArray, List.getElem_cons_succ, List.getElem_cons_zero, List.setIfInBounds_toArray, List.set_cons_zero, List.set_cons_succ]
          refine stage_read (i := 11) (v := ?_) rfl (by kernel_rfl) (by kernel_rfl) (by kernel_rfl) (by kernel_rfl) (by kernel_rfl) (by kernel_rfl) (fun _ _ _ h => h) (Or.inl ⟨by kernel_rfl, ?_⟩) ?_
          rotate_left
          · (intro wS hwS; obtain ⟨hcS, hfS, hhS⟩ := bcell hwS; go_simp; try (first | (with_reducible rfl) | rw [if_pos (by omega)] | rw [if_neg (by omega)]))
          try simp only [Act.put, List.getElem_toArray, List.getElem_cons_succ, List.getElem_cons_zero, List.setIfInBounds_toArray, List.set_cons_zero, List.set_cons_succ]
          refine stage_read (i := 12) (v := ?_) rfl (by kernel_rfl) (by kernel_rfl) (by kernel_rfl) (by kernel_rfl) (by kernel_rfl) (by kernel_rfl) (fun _ _ _ h => h) (Or.inl ⟨by kernel_rfl, ?_⟩) ?_
          rotate_left
          · (intro wS hwS; obtain ⟨hcS, hfS, hhS⟩ := bcell hwS; go_simp; try (first | (with_reducible rfl) | rw [if_pos (by omega)] | rw [if_neg (by omega)]))
          try simp only [Act.put, List.getElem_toArray, List.getElem_cons_succ, List.getElem_cons_zero, List.setIfInBounds_toArray, List.set_cons_zero, List.set_cons_succ]
          refine stage_read (i := 13) (v := ?_) rfl (by kernel_rfl) (by kernel_rfl) (by kernel_rfl) (by kernel_rfl) (by kernel_rfl) (by kernel_rfl) (fun _ _ _ h => h) (Or.inl ⟨by kernel_rfl, ?_⟩) ?_
          rotate_left
          · (intro wS hwS; obtain ⟨hcS, hfS, hhS⟩ := bcell hwS; go_simp; try (first | (with_reducible rfl) | rw [if_pos (by omega)] | rw [if_neg (by omega)]))
          try simp only [Act.put, List.getElem_toArray, List.getElem_cons_succ, List.getElem_cons_zero, List.setIfInBounds_toArray, List.set_cons_zero, List.set_cons_succ]
          refine stage_read (i := 14) (v := ?_) rfl (by kernel_rfl) (by kernel_rfl) (by kernel_rfl) (by kernel_rfl) (by kernel_rfl) (by kernel_rfl) (fun _ _ _ h => h) (Or.inl ⟨by kernel_rfl, ?_⟩) ?_
          rotate_left
          · (intro wS hwS; obtain ⟨hcS, hfS, hhS⟩ := bcell hwS; go_simp; try (first | (with_reducible rfl) | rw [if_pos (by omega)] | rw [if_neg (by omega)]))
          try simp only [Act.put, List.getElem_toArray, List.getElem_cons_succ, List.getElem_cons_zero, List.setIfInBounds_toArray, List.set_cons_zero, List.set_cons_succ]
          refine stage_read (i := 15) (v := ?_) rfl (by kernel_rfl) (by kernel_rfl) (by kernel_rfl) (by kernel_rfl) (by kernel_rfl) (by kernel_rfl) (fun _ _ _ h => h) (Or.inl ⟨by kernel_rfl, ?_⟩) ?_
          rotate_left
          · (intro wS hwS; obtain ⟨hcS, hfS, hhS⟩ := bcell hwS; go_simp; try (first | (with_reducible rfl) | rw [if_pos (by omega)] | rw [if_neg (by omega)]))
          try simp only [Act.put, List.getElem_toArray, List.getElem_cons_succ, List.getElem_cons_zero, List.setIfInBounds_toArray, List.set_cons_zero, List.set_cons_succ]
          refine stage_one 16 (by kernel_rfl) rfl (by kernel_rfl) (fun K hK => ?_)
          go_simp
          refine (same9_any qA A6 qn qcc n6 c6 _ _ _ _ _ (OwnI.rd t4) (OwnRI.rd hown6)).mono ?_
          rintro z v15 ⟨rfl, hbn⟩
          refine hK.out _ _ (hbn) ?_
          clear hK K
          try simp only [Act.put, List.getElem_toArray, List.getElem_cons_succ, List.getElem_cons_zero, List.setIfInBounds_toArray, List.set_cons_zero, List.set_cons_succ]
          replace hF := hF.step hbn
          replace hm9 := hm9.step hbn
          replace hown5 := OwnRI.step hown5 hbn
          replace hB2 := Nat.le_trans hB2 hbn.size
          clear hct hgt hgc2 hlec hmaxc r0 r1 r2 r3 z0 z1 z2 z3 zf l13 hbn t4 hown6 hm13
          refine stage_read (i := 17) (v := ?_) rfl (by kernel_rfl) (by kernel_rfl) (by kernel_rfl) (by kernel_rfl) (by kernel_rfl) (by kernel_rfl) (fun _ _ _ h => h) (Or.inl ⟨by kernel_rfl, ?_⟩) ?_
          rotate_left
          · (intro wS hwS; obtain ⟨hcS, hfS, hhS⟩ := bcell hwS; go_simp; try (first | (with_reducible rfl) | rw [if_pos (by omega)] | rw [if_neg (by omega)]))
          try simp only [Act.put, List.getElem_toArray, List.getElem_cons_succ, List.getElem_cons_zero, List.setIfInBounds_toArray, List.set_cons_zero, List.set_cons_succ]
          refine stage_read (i := 18) (v := ?_) rfl (by kernel_rfl) (by kernel_rfl) (by kernel_rfl) (by kernel_rfl) (by kernel_rfl) (by kernel_rfl) (fun _ _ _ h => h) (Or.inl ⟨by kernel_rfl, ?_⟩) ?_
          rotate_left
          · (intro wS hwS; obtain ⟨hcS, hfS, hhS⟩ := bcell hwS; go_simp; try (first | (with_reducible rfl) | rw [if_pos (by omega)] | rw [if_neg (by omega)]))
          try simp only [Act.put, List.getElem_toArray, List.getElem_cons_succ, List.getElem_cons_zero, List.setIfInBounds_toArray, List.set_cons_zero, List.set_cons_succ]
          first | refine wpAnyT_done (by kernel_rfl) ?_ _ | refine wpAny_done (by kernel_rfl) ?_ _
          clear hq1 hq2
          have HF := Lib.hid hF
          have HO := Lib.hid hown5
          have H9 := Lib.hid hm9
          clear hF hown5 hm9
          go_wp2_with fail
          go_roundw
          case rel => exact ⟨k + 1, l'.length, c5, A5, by go_num, by omega, HF.out, by rw [HSU.out]; exact H9.out, by rw [HSU.out]; exact HO.out, hB2⟩
          case measure => simp [intOf]; omega
    · obtain rfl : k = m := by omega
      have hmo := HM.out
      by_cases hlt : k < M.length
      · have hdf : dn = false := by rw [← HDN.out, decide_eq_false (by omega)]
        have hmo2 : ¬ (k : Int) < most := by omega
        have hq4 : ((k : Int) == (M.length : Int)) = false := beq_eq_false_iff_ne.mpr (by omega)
        subst hdf
        clear hmo
        go_upto_region 13 with fail
        refine region_any (by kernel_rfl) ?_
        change wpAny _ _ _ _ _ _ _ (World.drew _)
        replace hF := hF.drew
        replace h9 := h9.drew
        replace hown := (show wr.drew.ownsRow _ _ _ _ _ _ from hown)
        generalize World.drew _ = v1 at *
        obtain ⟨At', ct', hct, htr⟩ := hF.ch.told
        have hgc2 := hF.ch.lt
        rw [HRS.out] at hct
        obtain ⟨⟨s0, s1⟩, sf⟩ := at2 h9
        have l9 := h9.lt
        have hkeys := (stS_inv M k (by omega) (by omega)).keys
        have hq3 : ((k : Int) == (k : Int)) = true := by simp
        refine stage 100000 ?_
        refine stage_read (i := 0) (v := ?_) rfl (by kernel_rfl) (by kernel_rfl) (by kernel_rfl) (by kernel_rfl) (by kernel_rfl) (by kernel_rfl) (fun _ _ _ h => h) (Or.inl ⟨by kernel_rfl, ?_⟩) ?_
        rotate_left
        · (intro wS hwS; obtain ⟨hcS, hfS, hhS⟩ := bcell hwS; go_simp; try (first | (with_reducible rfl) | rw [if_pos (by omega)] | rw [if_neg (by omega)]))
        try simp only [Act.put, List.getElem_toArray, List.getElem_cons_succ, List.getElem_cons_zero, List.setIfInBounds_toArray, List.set_cons_zero, List.set_cons_succ]
        refine stage_read (i := 1) (v := ?_) rfl (by kernel_rfl) (by kernel_rfl) (by kernel_rfl) (by kernel_rfl) (by kernel_rfl) (by kernel_rfl) (fun _ _ _ h => h) (Or.inl ⟨by kernel_rfl, ?_⟩) ?_
        rotate_left
        · (intro wS hwS; obtain ⟨hcS, hfS, hhS⟩ := bcell hwS; go_simp; try (first | (with_reducible rfl) | rw [if_pos (by omega)] | rw [if_neg (by omega)]))
        try simp only [Act.put, List.getElem_toArray, List.getElem_cons_succ, List.getElem_cons_zero, List.setIfInBounds_toArray, List.set_cons_zero, List.set_cons_succ]
        refine stage_read (i := 2) (v := ?_) rfl (by kernel_rfl) (by kernel_rfl) (by kernel_rfl) (by kernel_rfl) (by kernel_rfl) (by kernel_rfl) (fun _ _ _ h => h) (Or.inl ⟨by kernel_rfl, ?_⟩) ?_
        rotate_left
        · (intro wS hwS; obtain ⟨hcS, hfS, hhS⟩ := bcell hwS; go_simp; try (first | (with_reducible rfl) | rw [if_pos (by omega)] | rw [if_neg (by omega)]))
        try simp only [Act.put, List.getElem_toArray, List.getElem_cons_succ, List.getElem_cons_zero, List.setIfInBounds_toArray, List.set_cons_zero, List.set_cons_succ]
        refine stage_read (i := 3) (v := ?_) rfl (by kernel_rfl) (by kernel_rfl) (by kernel_rfl) (by kernel_rfl) (by kernel_rfl) (by kernel_rfl) (fun _ _ _ h => h) (Or.inl ⟨by kernel_rfl, ?_⟩) ?_
        rotate_left
        · (intro wS hwS; obtain ⟨hcS, hfS, hhS⟩ := bcell hwS; go_simp; try (first | (with_reducible rfl) | rw [if_pos (by omega)] | rw [if_neg (by omega)]))
        try simp only [Act.put, List.getElem_toArray, List.getElem_cons_succ, List.getElem_cons_zero, List.setIfInBounds_toArray, List.set_cons_zero, List.set_cons_succ]
        refine stage_read (i := 4) (v := ?_) rfl (by kernel_rfl) (by kernel_rfl) (by kernel_rfl) (by kernel_rfl) (by kernel_rfl) (by kernel_rfl) (fun _ _ _ h => h) (Or.inl ⟨by kernel_rfl, ?_⟩) ?_
        rotate_left
        · (intro wS hwS; obtain ⟨hcS, hfS, hhS⟩ := bcell hwS; go_simp; try (first | (with_reducible rfl) | rw [if_pos (by omega)] | rw [if_neg (by omega)]))
        try simp only [Act.put, List.getElem_toArray, List.getElem_cons_succ, List.getElem_cons_zero, List.setIfInBounds_toArray, List.set_cons_zero, List.set_cons_succ]
        refine stage_read (i := 5) (v := ?_) rfl (by kernel_rfl) (by kernel_rfl) (by kernel_rfl) (by kernel_rfl) (by kernel_rfl) (by kernel_rfl) (fun _ _ _ h => h) (Or.inl ⟨by kernel_rfl, ?_⟩) ?_
        rotate_left
        · (intro wS hwS; obtain ⟨hcS, hfS, hhS⟩ := bcell hwS; go_simp; try (first | (with_reducible rfl) | rw [if_pos (by omega)] | rw [if_neg (by omega)]))
        try simp only [Act.put, List.getElem_toArray, List.getElem_cons_succ, List.getElem_cons_zero, List.setIfInBounds_toArray, List.set_cons_zero, List.set_cons_succ]
        refine stage_read (i := 6) (v := ?_) rfl (by kernel_rfl) (by kernel_rfl) (by kernel_rfl) (by kernel_rfl) (by kernel_rfl) (by kernel_rfl) (fun _ _ _ h => h) (Or.inl ⟨by kernel_rfl, ?_⟩) ?_
        rotate_left
        · (intro wS hwS; obtain ⟨hcS, hfS, hhS⟩ := bcell hwS; go_simp; try (first | (with_reducible rfl) | rw [if_pos (by omega)] | rw [if_neg (by omega)]))
        try simp only [Act.put, List.getElem_toArray, List.getElem_cons_succ, List.getElem_cons_zero, List.setIfInBounds_toArray, List.set_cons_zero, List.set_cons_succ]
        refine stage_read (i := 7) (v := ?_) rfl (by kernel_rfl) (by kernel_rfl) (by kernel_rfl) (by kernel_rfl) (by kernel_rfl) (by kernel_rfl) (fun _ _ _ h => h) (Or.inl ⟨by kernel_rfl, ?_⟩) ?_
        rotate_left
        · (intro wS hwS; obtain ⟨hcS, hfS, hhS⟩ := bcell hwS; go_simp; try (first | (with_reducible rfl) | rw [if_pos (by omega)] | rw [if_neg (by omega)]))
        try simp only [Act.put, List.getElem_toArray, List.getElem_cons_succ, List.getElem_cons_zero, List.setIfInBounds_toArray, List.set_cons_zero, List.set_cons_succ]
        refine stage_read (i := 8) (v := ?_) rfl (by kernel_rfl) (by kernel_rfl) (by kernel_rfl) (by kernel_rfl) (by kernel_rfl) (by kernel_rfl) (fun _ _ _ h => h) (Or.inl ⟨by kernel_rfl, ?_⟩) ?_
        rotate_left
        · (intro wS hwS; obtain ⟨hcS, hfS, hhS⟩ := bcell hwS; go_simp; try (first | (with_reducible rfl) | rw [if_pos (by omega)] | rw [if_neg (by omega)]))
        try simp only [Act.put, List.getElem_toArray, List.getElem_cons_succ, List.getElem_cons_zero, List.setIfInBounds_toArray, List.set_cons_zero, List.set_cons_succ]
        refine stage_read (i := 9) (v := ?_) rfl (by kernel_rfl) (by kernel_rfl) (by kernel_rfl) (by kernel_rfl) (by kernel_rfl) (by kernel_rfl) (fun _ _ _ h => h) (Or.inl ⟨by kernel_rfl, ?_⟩) ?_
        rotate_left
        · (intro wS hwS; obtain ⟨hcS, hfS, hhS⟩ := bcell hwS; go_simp; try (first | (with_reducible rfl) | rw [if_pos (by omega)] | rw [if_neg (by omega)]))
        try simp only [Act.put, List.getElem_toArray, List.getElem_cons_succ, List.getElem_cons_zero, List.setIfInBounds_toArray, List.set_cons_zero, List.set_cons_succ]
        refine stage_read (i := 10) (v := ?_) rfl (by kernel_rfl) (by kernel_rfl) (by kernel_rfl) (by kernel_rfl) (by kernel_rfl) (by kernel_rfl) (fun _ _ _ h => h) (Or.inl ⟨by kernel_rfl, ?_⟩) ?_
        rotate_left
        · (intro wS hwS; obtain ⟨hcS, hfS, hhS⟩ := bcell hwS; go_simp; try (first | (with_reducible rfl) | rw [if_pos (by omega)] | rw [if_neg (by omega)]))
        try simp only [Act.put, List.getElem_toArray, List.getElem_cons_succ, List.getElem_cons_zero, List.setIfInBounds_toArray, List.set_cons_zero, List.set_cons_succ]
        refine stage_read (i := 11) (v := ?_) rfl (by kernel_rfl) (by kernel_rfl) (by kernel_rfl) (by kernel_rfl) (by kernel_rfl) (by kernel_rfl) (fun _ _ _ h => h) (Or.inl ⟨by kernel_rfl, ?_⟩) ?_
        rotate_left
        · (intro wS hwS; obtain ⟨hcS, hfS, hhS⟩ := bcell hwS; go_simp; try (first | (with_reducible rfl) | rw [if_pos (by omega)] | rw [if_neg (by omega)]))
        try simp only [Act.put, List.getElem_toArray, List.getElem_cons_succ, List.getElem_cons_zero, List.setIfInBounds_toArray, List.set_cons_zero, List.set_cons_succ]
        refine stage_read (i := 12) (v := ?_) rfl (by kernel_rfl) (by kernel_rfl) (by kernel_rfl) (by kernel_rfl) (by kernel_rfl) (by kernel_rfl) (fun _ _ _ h => h) (Or.inl ⟨by kernel_rfl, ?_⟩) ?_
        rotate_left
        · (intro wS hwS; obtain ⟨hcS, hfS, hhS⟩ := bcell hwS; go_simp; try (first | (with_reducible rfl) | rw [if_pos (by omega)] | rw [if_neg (by omega)]))
        try simp only [Act.put, List.getElem_toArray, List.getElem_cons_succ, List.getElem_cons_zero, List.setIfInBounds_toArray, List.set_cons_zero, List.set_cons_succ]
        refine stage_read (i := 13) (v := ?_) rfl (by kernel_rfl) (by kernel_rfl) (by kernel_rfl) (by kernel_rfl) (by kernel_rfl) (by kernel_rfl) (fun _ _ _ h => h) (Or.inl ⟨by kernel_rfl, ?_⟩) ?_
        rotate_left
        · (intro wS hwS; obtain ⟨hcS, hfS, hhS⟩ := bcell hwS; go_simp; try (first | (with_reducible rfl) | rw [if_pos (by omega)] | rw [if_neg (by omega)]))
        try simp only [Act.put, List.getElem_toArray, List.getElem_cons_succ, List.getElem_cons_zero, List.setIfInBounds_toArray, List.set_cons_zero, List.set_cons_succ]
        refine stage_read (i := 14) (v := ?_) rfl (by kernel_rfl) (by kernel_rfl) (by kernel_rfl) (by kernel_rfl) (by kernel_rfl) (by kernel_rfl) (fun _ _ _ h => h) (Or.inl ⟨by kernel_rfl, ?_⟩) ?_
        rotate_left
        · (intro wS hwS; obtain ⟨hcS, hfS, hhS⟩ := bcell hwS; go_simp; try (first | (with_reducible rfl) | rw [if_pos (by omega)] | rw [if_neg (by omega)]))
        try simp only [Act.put, List.getElem_toArray, List.getElem_cons_succ, List.getElem_cons_zero, List.setIfInBounds_toArray, List.set_cons_zero, List.set_cons_succ]
        refine stage_read (i := 15) (v := ?_) rfl (by kernel_rfl) (by kernel_rfl) (by kernel_rfl) (by kernel_rfl) (by kernel_rfl) (by kernel_rfl) (fun _ _ _ h => h) (Or.inl ⟨by kernel_rfl, ?_⟩) ?_
        rotate_left
        · (intro wS hwS; obtain ⟨hcS, hfS, hhS⟩ := bcell hwS; go_simp; try (first | (with_reducible rfl) | rw [if_pos (by omega)] | rw [if_neg (by omega)]))
        try simp only [Act.put, List.getElem_toArray, List.getElem_cons_succ, List.getElem_cons_zero, List.setIfInBounds_toArray, List.set_cons_zero, List.set_cons_succ]
        refine stage_read (i := 16) (v := ?_) rfl (by kernel_rfl) (by kernel_rfl) (by kernel_rfl) (by kernel_rfl) (by kernel_rfl) (by kernel_rfl) (fun _ _ _ h => h) (Or.inl ⟨by kernel_rfl, ?_⟩) ?_
        rotate_left
        · (intro wS hwS; obtain ⟨hcS, hfS, hhS⟩ := bcell hwS; go_simp; try (first | (with_reducible rfl) | rw [if_pos (by omega)] | rw [if_neg (by omega)]))
        try simp only [Act.put, List.getElem_toArray, List.getElem_cons_succ, List.getElem_cons_zero, List.setIfInBounds_toArray, List.set_cons_zero, List.set_cons_succ]
        refine stage_read (i := 18) (v := ?_) rfl (by kernel_rfl) (by kernel_rfl) (by kernel_rfl) (by kernel_rfl) (by kernel_rfl) (by kernel_rfl) (fun _ _ _ h => h) (Or.inl ⟨by kernel_rfl, ?_⟩) ?_
        rotate_left
        · (intro wS hwS; obtain ⟨hcS, hfS, hhS⟩ := bcell hwS; go_simp; try (first | (with_reducible rfl) | rw [if_pos (by omega)] | rw [if_neg (by omega)]))
        try simp only [Act.put, List.getElem_toArray, List.getElem_cons_succ, List.getElem_cons_zero, List.setIfInBounds_toArray, List.set_cons_zero, List.set_cons_succ]
        refine stage_read (i := 19) (v := ?_) rfl (by kernel_rfl) (by kernel_rfl) (by kernel_rfl) (by kernel_rfl) (by kernel_rfl) (by kernel_rfl) (fun _ _ _ h => h) (Or.inl ⟨by kernel_rfl, ?_⟩) ?_
        rotate_left
        · (intro wS hwS; obtain ⟨hcS, hfS, hhS⟩ := bcell hwS; go_simp; try (first | (with_reducible rfl) | rw [if_pos (by omega)] | rw [if_neg (by omega)]))
        try simp only [Act.put, List.getElem_toArray, List.getElem_cons_succ, List.getElem_cons_zero, List.setIfInBounds_toArray, List.set_cons_zero, List.set_cons_succ]
        refine stage_one 17 (by kernel_rfl) rfl (by kernel_rfl) (fun K hK => ?_)
        go_simp
        refine (rev_any _ hF.st).mono ?_
        rintro z v ⟨rfl, rfl⟩
        refine hK.out _ _ ((Below.refl _ _)) ?_
        clear hK K
        try simp only [Act.put, List.getElem_toArray, List.getElem_cons_succ, List.getElem_cons_zero, List.setIfInBounds_toArray, List.set_cons_zero, List.set_cons_succ]
        refine stage_read (i := 20) (v := ?_) rfl (by kernel_rfl) (by kernel_rfl) (by kernel_rfl) (by kernel_rfl) (by kernel_rfl) (by kernel_rfl) (fun _ _ _ h => h) (Or.inl ⟨by kernel_rfl, ?_⟩) ?_
        rotate_left
        · (intro wS hwS; obtain ⟨hcS, hfS, hhS⟩ := bcell hwS; go_simp; try (first | (with_reducible rfl) | rw [if_pos (by omega)] | rw [if_neg (by omega)]))
        try simp only [Act.put, List.getElem_toArray, List.getElem_cons_succ, List.getElem_cons_zero, List.setIfInBounds_toArray, List.set_cons_zero, List.set_cons_succ]
        refine stage_read (i := 21) (v := ?_) rfl (by kernel_rfl) (by kernel_rfl) (by kernel_rfl) (by kernel_rfl) (by kernel_rfl) (by kernel_rfl) (fun _ _ _ h => h) (Or.inl ⟨by kernel_rfl, ?_⟩) ?_
        rotate_left
        · (intro wS hwS; obtain ⟨hcS, hfS, hhS⟩ := bcell hwS; go_simp; try (first | (with_reducible rfl) | rw [if_pos (by omega)] | rw [if_neg (by omega)]))
        try simp only [Act.put, List.getElem_toArray, List.getElem_cons_succ, List.getElem_cons_zero, List.setIfInBounds_toArray, List.set_cons_zero, List.set_cons_succ]
        refine stage_read (i := 22) (v := ?_) rfl (by kernel_rfl) (by kernel_rfl) (by kernel_rfl) (by kernel_rfl) (by kernel_rfl) (by kernel_rfl) (fun _ _ _ h => h) (Or.inl ⟨by kernel_rfl, ?_⟩) ?_
        rotate_left
        · (intro wS hwS; obtain ⟨hcS, hfS, hhS⟩ := bcell hwS; go_simp; try (first | (with_reducible rfl) | rw [if_pos (by omega)] | rw [if_neg (by omega)]))
        try simp only [Act.put, List.getElem_toArray, List.getElem_cons_succ, List.getElem_cons_zero, List.setIfInBounds_toArray, List.set_cons_zero, List.set_cons_succ]
        refine stage_read (i := 23) (v := ?_) rfl (by kernel_rfl) (by kernel_rfl) (by kernel_rfl) (by kernel_rfl) (by kernel_rfl) (by kernel_rfl) (fun _ _ _ h => h) (Or.inl ⟨by kernel_rfl, ?_⟩) ?_
        rotate_left
        · (intro wS hwS; obtain ⟨hcS, hfS, hhS⟩ := bcell hwS; go_simp; try (first | (with_reducible rfl) | rw [if_pos (by omega)] | rw [if_neg (by omega)]))
        try simp only [Act.put, List.getElem_toArray, List.getElem_cons_succ, List.getElem_cons_zero, List.setIfInBounds_toArray, List.set_cons_zero, List.set_cons_succ]
        refine stage_read (i := 25) (v := ?_) rfl (by kernel_rfl) (by kernel_rfl) (by kernel_rfl) (by kernel_rfl) (by kernel_rfl) (by kernel_rfl) (fun _ _ _ h => h) (Or.inl ⟨by kernel_rfl, ?_⟩) ?_
        rotate_left
        · (intro wS hwS; obtain ⟨hcS, hfS, hhS⟩ := bcell hwS; go_simp; try (first | (with_reducible rfl) | rw [if_pos (by omega)] | rw [if_neg (by omega)]))
        try simp only [Act.put, List.getElem_toArray, List.getElem_cons_succ, List.getElem_cons_zero, List.setIfInBounds_toArray, List.set_cons_zero, List.set_cons_succ]
        refine stage_read (i := 26) (v := ?_) rfl (by kernel_rfl) (by kernel_rfl) (by kernel_rfl) (by kernel_rfl) (by kernel_rfl) (by kernel_rfl) (fun _ _ _ h => h) (Or.inl ⟨by kernel_rfl, ?_⟩) ?_
        rotate_left
        · (intro wS hwS; obtain ⟨hcS, hfS, hhS⟩ := bcell hwS; go_simp; try (first | (with_reducible rfl) | rw [if_pos (by omega)] | rw [if_neg (by omega)]))
        try simp only [Act.put, List.getElem_toArray, List.getElem_cons_succ, List.getElem_cons_zero, List.setIfInBounds_toArray, List.set_cons_zero, List.set_cons_succ]
        refine stage_one 24 (by kernel_rfl) rfl (by kernel_rfl) (fun K hK => ?_)
        go_simp
        refine (all_any _ hF.st (by omega) hkeys).mono ?_
        rintro z v2 ⟨A7, n7, c7, rfl, hown7, hbn⟩
        refine hK.out _ _ (hbn) ?_
        clear hK K
        try simp only [Act.put, List.getElem_toArray, List.getElem_cons_succ, List.getElem_cons_zero, List.setIfInBounds_toArray, List.set_cons_zero, List.set_cons_succ]
        replace hF := hF.step hbn
        replace h9 := h9.step hbn
        replace hown := OwnRI.step hown hbn
        clear s0 s1 sf l9 hbn hct htr hgc2
        obtain ⟨⟨s0, s1⟩, sf⟩ := at2 h9
        have l9 := h9.lt

        refine stage_one 27 (by kernel_rfl) rfl (by kernel_rfl) (fun K hK => ?_)
        go_simp
        refine (sitems_any A7 A4 n7 c7 n4 c4 _ _ (OwnI.rd hown7) (OwnRI.rd hown)).mono ?_
        rintro z v3 ⟨rfl, hbn⟩
        refine hK.out _ _ (hbn) ?_
        clear hK K
        try simp only [Act.put, List.getElem_toArray, List.getElem_cons_succ, List.getElem_cons_zero, List.setIfInBounds_toArray, List.set_cons_zero, List.set_cons_succ]
        replace hF := hF.step hbn
        clear s0 s1 sf l9 hbn hown hown7 h9
        refine stage_read (i := 28) (v := ?_) rfl (by kernel_rfl) (by kernel_rfl) (by kernel_rfl) (by kernel_rfl) (by kernel_rfl) (by kernel_rfl) (fun _ _ _ h => h) (Or.inl ⟨by kernel_rfl, ?_⟩) ?_
        rotate_left
        · (intro wS hwS; obtain ⟨hcS, hfS, hhS⟩ := bcell hwS; go_simp; try (first | (with_reducible rfl) | rw [if_pos (by omega)] | rw [if_neg (by omega)]))
        try simp only [Act.put, List.getElem_toArray, List.getElem_cons_succ, List.getElem_cons_zero, List.setIfInBounds_toArray, List.set_cons_zero, List.set_cons_succ]
        refine stage_read (i := 29) (v := ?_) rfl (by kernel_rfl) (by kernel_rfl) (by kernel_rfl) (by kernel_rfl) (by kernel_rfl) (by kernel_rfl) (fun _ _ _ h => h) (Or.inl ⟨by kernel_rfl, ?_⟩) ?_
        rotate_left
        · (intro wS hwS; obtain ⟨hcS, hfS, hhS⟩ := bcell hwS; go_simp; try (first | (with_reducible rfl) | rw [if_pos (by omega)] | rw [if_neg (by omega)]))
        try simp only [Act.put, List.getElem_toArray, List.getElem_cons_succ, List.getElem_cons_zero, List.setIfInBounds_toArray, List.set_cons_zero, List.set_cons_succ]
        refine stage_one 30 (by kernel_rfl) rfl (by kernel_rfl) (fun K hK => ?_)
        go_simp
        refine (awake19 _).mono ?_
        rintro z v4 ⟨rfl, hbn⟩
        refine hK.out _ _ (hbn) ?_
        clear hK K
        try simp only [Act.put, List.getElem_toArray, List.getElem_cons_succ, List.getElem_cons_zero, List.setIfInBounds_toArray, List.set_cons_zero, List.set_cons_succ]
        replace hF := hF.step hbn
        refine stage_read (i := 31) (v := ?_) rfl (by kernel_rfl) (by kernel_rfl) (by kernel_rfl) (by kernel_rfl) (by kernel_rfl) (by kernel_rfl) (fun _ _ _ h => h) (Or.inl ⟨by kernel_rfl, ?_⟩) ?_
        rotate_left
        · (intro wS hwS; obtain ⟨hcS, hfS, hhS⟩ := bcell hwS; go_simp; try (first | (with_reducible rfl) | rw [if_pos (by omega)] | rw [if_neg (by omega)]))
        try simp only [Act.put, List.getElem_toArray, List.getElem_cons_succ, List.getElem_cons_zero, List.setIfInBounds_toArray, List.set_cons_zero, List.set_cons_succ]
        refine stage_read (i := 32) (v := ?_) rfl (by kernel_rfl) (by kernel_rfl) (by kernel_rfl) (by kernel_rfl) (by kernel_rfl) (by kernel_rfl) (fun _ _ _ h => h) (Or.inl ⟨by kernel_rfl, ?_⟩) ?_
        rotate_left
        · (intro wS hwS; obtain ⟨hcS, hfS, hhS⟩ := bcell hwS; go_simp; try (first | (with_reducible rfl) | rw [if_pos (by omega)] | rw [if_neg (by omega)]))
        try simp only [Act.put, List.getElem_toArray, List.getElem_cons_succ, List.getElem_cons_zero, List.setIfInBounds_toArray, List.set_cons_zero, List.set_cons_succ]
        first | refine wpAnyT_done (by kernel_rfl) ?_ _ | refine wpAny_done (by kernel_rfl) ?_ _
        have HB := Lib.hid hF.be
        clear hF hbn
        go_wp2_with fail
        go_ret
        exact ⟨rfl, HB.out⟩
      · have hdf : dn = true := by rw [← HDN.out, decide_eq_true (by omega)]
        have hkM : k = M.length := by omega
        have hq4 : ((k : Int) == (M.length : Int)) = true := by simp [hkM]
        subst hdf
        clear hmo
        have HKM := Lib.hid hkM
        clear hkM
        go_upto_region 13 with fail
        refine region_any (by kernel_rfl) ?_
        change wpAny _ _ _ _ _ _ _ (World.drew _)
        replace hF := hF.drew
        replace h9 := h9.drew
        replace hown := (show wr.drew.ownsRow _ _ _ _ _ _ from hown)
        generalize World.drew _ = v1 at *
        obtain ⟨At', ct', hct, htr⟩ := hF.ch.told
        have hgc2 := hF.ch.lt
        rw [HRS.out] at hct
        obtain ⟨⟨s0, s1⟩, sf⟩ := at2 h9
        have l9 := h9.lt
        have hkeys := (stS_inv M k (by omega) (by omega)).keys
        have hq3 : ((k : Int) == (k : Int)) = true := by simp
        refine stage 100000 ?_
        refine stage_read (i := 0) (v := ?_) rfl (by kernel_rfl) (by kernel_rfl) (by kernel_rfl) (by kernel_rfl) (by kernel_rfl) (by kernel_rfl) (fun _ _ _ h => h) (Or.inl ⟨by kernel_rfl, ?_⟩) ?_
        rotate_left
        · (intro wS hwS; obtain ⟨hcS, hfS, hhS⟩ := bcell hwS; go_simp; try (first | (with_reducible rfl) | rw [if_pos (by omega)] | rw [if_neg (by omega)]))
        try simp only [Act.put, List.getElem_toArray, List.getElem_cons_succ, List.getElem_cons_zero, List.setIfInBounds_toArray, List.set_cons_zero, List.set_cons_succ]
        refine stage_read (i := 1) (v := ?_) rfl (by kernel_rfl) (by kernel_rfl) (by kernel_rfl) (by kernel_rfl) (by kernel_rfl) (by kernel_rfl) (fun _ _ _ h => h) (Or.inl ⟨by kernel_rfl, ?_⟩) ?_
        rotate_left
        · (intro wS hwS; obtain ⟨hcS, hfS, hhS⟩ := bcell hwS; go_simp; try (first | (with_reducible rfl) | rw [if_pos (by omega)] | rw [if_neg (by omega)]))
        try simp only [Act.put, List.getElem_toArray, List.getElem_cons_succ, List.getElem_cons_zero, List.setIfInBounds_toArray, List.set_cons_zero, List.set_cons_succ]
        refine stage_read (i := 2) (v := ?_) rfl (by kernel_rfl) (by kernel_rfl) (by kernel_rfl) (by kernel_rfl) (by kernel_rfl) (by kernel_rfl) (fun _ _ _ h => h) (Or.inl ⟨by kernel_rfl, ?_⟩) ?_
        rotate_left
        · (intro wS hwS; obtain ⟨hcS, hfS, hhS⟩ := bcell hwS; go_simp; try (first | (with_reducible rfl) | rw [if_pos (by omega)] | rw [if_neg (by omega)]))
        try simp only [Act.put, List.getElem_toArray, List.getElem_cons_succ, List.getElem_cons_zero, List.setIfInBounds_toArray, List.set_cons_zero, List.set_cons_succ]
        refine stage_read (i := 3) (v := ?_) rfl (by kernel_rfl) (by kernel_rfl) (by kernel_rfl) (by kernel_rfl) (by kernel_rfl) (by kernel_rfl) (fun _ _ _ h => h) (Or.inl ⟨by kernel_rfl, ?_⟩) ?_
        rotate_left
        · (intro wS hwS; obtain ⟨hcS, hfS, hhS⟩ := bcell hwS; go_simp; try (first | (with_reducible rfl) | rw [if_pos (by omega)] | rw [if_neg (by omega)]))
        try simp only [Act.put, List.getElem_toArray, List.getElem_cons_succ, List.getElem_cons_zero, List.setIfInBounds_toArray, List.set_cons_zero, List.set_cons_succ]
        refine stage_read (i := 4) (v := ?_) rfl (by kernel_rfl) (by kernel_rfl) (by kernel_rfl) (by kernel_rfl) (by kernel_rfl) (by kernel_rfl) (fun _ _ _ h => h) (Or.inl ⟨by kernel_rfl, ?_⟩) ?_
        rotate_left
        · (intro wS hwS; obtain ⟨hcS, hfS, hhS⟩ := bcell hwS; go_simp; try (first | (with_reducible rfl) | rw [if_pos (by omega)] | rw [if_neg (by omega)]))
        try simp only [Act.put, List.getElem_toArray, List.getElem_cons_succ, List.getElem_cons_zero, List.setIfInBounds_toArray, List.set_cons_zero, List.set_cons_succ]
        refine stage_read (i := 5) (v := ?_) rfl (by kernel_rfl) (by kernel_rfl) (by kernel_rfl) (by kernel_rfl) (by kernel_rfl) (by kernel_rfl) (fun _ _ _ h => h) (Or.inl ⟨by kernel_rfl, ?_⟩) ?_
        rotate_left
        · (intro wS hwS; obtain ⟨hcS, hfS, hhS⟩ := bcell hwS; go_simp; try (first | (with_reducible rfl) | rw [if_pos (by omega)] | rw [if_neg (by omega)]))
        try simp only [Act.put, List.getElem_toArray, List.getElem_cons_succ, List.getElem_cons_zero, List.setIfInBounds_toArray, List.set_cons_zero, List.set_cons_succ]
        refine stage_read (i := 6) (v := ?_) rfl (by kernel_rfl) (by kernel_rfl) (by kernel_rfl) (by kernel_rfl) (by kernel_rfl) (by kernel_rfl) (fun _ _ _ h => h) (Or.inl ⟨by kernel_rfl, ?_⟩) ?_
        rotate_left
        · (intro wS hwS; obtain ⟨hcS, hfS, hhS⟩ := bcell hwS; go_simp; try (first | (with_reducible rfl) | rw [if_pos (by omega)] | rw [if_neg (by omega)]))
        try simp only [Act.put, List.getElem_toArray, List.getElem_cons_succ, List.getElem_cons_zero, List.setIfInBounds_toArray, List.set_cons_zero, List.set_cons_succ]
        refine stage_read (i := 7) (v := ?_) rfl (by kernel_rfl) (by kernel_rfl) (by kernel_rfl) (by kernel_rfl) (by kernel_rfl) (by kernel_rfl) (fun _ _ _ h => h) (Or.inl ⟨by kernel_rfl, ?_⟩) ?_
        rotate_left
        · (intro wS hwS; obtain ⟨hcS, hfS, hhS⟩ := bcell hwS; go_simp; try (first | (with_reducible rfl) | rw [if_pos (by omega)] | rw [if_neg (by omega)]))
        try simp only [Act.put, List.getElem_toArray, List.getElem_cons_succ, List.getElem_cons_zero, List.setIfInBounds_toArray, List.set_cons_zero, List.set_cons_succ]
        refine stage_read (i := 8) (v := ?_) rfl (by kernel_rfl) (by kernel_rfl) (by kernel_rfl) (by kernel_rfl) (by kernel_rfl) (by kernel_rfl) (fun _ _ _ h => h) (Or.inl ⟨by kernel_rfl, ?_⟩) ?_
        rotate_left
        · (intro wS hwS; obtain ⟨hcS, hfS, hhS⟩ := bcell hwS; go_simp; try (first | (with_reducible rfl) | rw [if_pos (by omega)] | rw [if_neg (by omega)]))
        try simp only [Act.put, List.getElem_toArray, List.getElem_cons_succ, List.getElem_cons_zero, List.setIfInBounds_toArray, List.set_cons_zero, List.set_cons_succ]
        refine stage_read (i := 9) (v := ?_) rfl (by kernel_rfl) (by kernel_rfl) (by kernel_rfl) (by kernel_rfl) (by kernel_rfl) (by kernel_rfl) (fun _ _ _ h => h) (Or.inl ⟨by kernel_rfl, ?_⟩) ?_
        rotate_left
        · (intro wS hwS; obtain ⟨hcS, hfS, hhS⟩ := bcell hwS; go_simp; try (first | (with_reducible rfl) | rw [if_pos (by omega)] | rw [if_neg (by omega)]))
        try simp only [Act.put, List.getElem_toArray, List.getElem_cons_succ, List.getElem_cons_zero, List.setIfInBounds_toArray, List.set_cons_zero, List.set_cons_succ]
        refine stage_read (i := 10) (v := ?_) rfl (by kernel_rfl) (by kernel_rfl) (by kernel_rfl) (by kernel_rfl) (by kernel_rfl) (by kernel_rfl) (fun _ _ _ h => h) (Or.inl ⟨by kernel_rfl, ?_⟩) ?_
        rotate_left
        · (intro wS hwS; obtain ⟨hcS, hfS, hhS⟩ := bcell hwS; go_simp; try (first | (with_reducible rfl) | rw [if_pos (by omega)] | rw [if_neg (by omega)]))
        try simp only [Act.put, List.getElem_toArray, List.getElem_cons_succ, List.getElem_cons_zero, List.setIfInBounds_toArray, List.set_cons_zero, List.set_cons_succ]
        refine stage_read (i := 11) (v := ?_) rfl (by kernel_rfl) (by kernel_rfl) (by kernel_rfl) (by kernel_rfl) (by kernel_rfl) (by kernel_rfl) (fun _ _ _ h => h) (Or.inl ⟨by kernel_rfl, ?_⟩) ?_
        rotate_left
        · (intro wS hwS; obtain ⟨hcS, hfS, hhS⟩ := bcell hwS; go_simp; try (first | (with_reducible rfl) | rw [if_pos (by omega)] | rw [if_neg (by omega)]))
        try simp only [Act.put, List.getElem_toArray, List.getElem_cons_succ, List.getElem_cons_zero, List.setIfInBounds_toArray, List.set_cons_zero, List.set_cons_succ]
        refine stage_read (i := 12) (v := ?_) rfl (by kernel_rfl) (by kernel_rfl) (by kernel_rfl) (by kernel_rfl) (by kernel_rfl) (by kernel_rfl) (fun _ _ _ h => h) (Or.inl ⟨by kernel_rfl, ?_⟩) ?_
        rotate_left
        · (intro wS hwS; obtain ⟨hcS, hfS, hhS⟩ := bcell hwS; go_simp; try (first | (with_reducible rfl) | rw [if_pos (by omega)] | rw [if_neg (by omega)]))
        try simp only [Act.put, List.getElem_toArray, List.getElem_cons_succ, List.getElem_cons_zero, List.setIfInBounds_toArray, List.set_cons_zero, List.set_cons_succ]
        refine stage_read (i := 13) (v := ?_) rfl (by kernel_rfl) (by kernel_rfl) (by kernel_rfl) (by kernel_rfl) (by kernel_rfl) (by kernel_rfl) (fun _ _ _ h => h) (Or.inl ⟨by kernel_rfl, ?_⟩) ?_
        rotate_left
        · (intro wS hwS; obtain ⟨hcS, hfS, hhS⟩ := bcell hwS; go_simp; try (first | (with_reducible rfl) | rw [if_pos (by omega)] | rw [if_neg (by omega)]))
        try simp only [Act.put, List.getElem_toArray, List.getElem_cons_succ, List.getElem_cons_zero, List.setIfInBounds_toArray, List.set_cons_zero, List.set_cons_succ]
        refine stage_read (i := 14) (v := ?_) rfl (by kernel_rfl) (by kernel_rfl) (by kernel_rfl) (by kernel_rfl) (by kernel_rfl) (by kernel_rfl) (fun _ _ _ h => h) (Or.inl ⟨by kernel_rfl, ?_⟩) ?_
        rotate_left
        · (intro wS hwS; obtain ⟨hcS, hfS, hhS⟩ := bcell hwS; go_simp; try (first | (with_reducible rfl) | rw [if_pos (by omega)] | rw [if_neg (by omega)]))
        try simp only [Act.put, List.getElem_toArray, List.getElem_cons_succ, List.getElem_cons_zero, List.setIfInBounds_toArray, List.set_cons_zero, List.set_cons_succ]
        refine stage_read (i := 15) (v := ?_) rfl (by kernel_rfl) (by kernel_rfl) (by kernel_rfl) (by kernel_rfl) (by kernel_rfl) (by kernel_rfl) (fun _ _ _ h => h) (Or.inl ⟨by kernel_rfl, ?_⟩) ?_
        rotate_left
        · (intro wS hwS; obtain ⟨hcS, hfS, hhS⟩ := bcell hwS; go_simp; try (first | (with_reducible rfl) | rw [if_pos (by omega)] | rw [if_neg (by omega)]))
        try simp only [Act.put, List.getElem_toArray, List.getElem_cons_succ, List.getElem_cons_zero, List.setIfInBounds_toArray, List.set_cons_zero, List.set_cons_succ]
        refine stage_read (i := 16) (v := ?_) rfl (by kernel_rfl) (by kernel_rfl) (by kernel_rfl) (by kernel_rfl) (by kernel_rfl) (by kernel_rfl) (fun _ _ _ h => h) (Or.inl ⟨by kernel_rfl, ?_⟩) ?_
        rotate_left
        · (intro wS hwS; obtain ⟨hcS, hfS, hhS⟩ := bcell hwS; go_simp; try (first | (with_reducible rfl) | rw [if_pos (by omega)] | rw [if_neg (by omega)]))
        try simp only [Act.put, List.getElem_toArray, List.getElem_cons_succ, List.getElem_cons_zero, List.setIfInBounds_toArray, List.set_cons_zero, List.set_cons_succ]
        refine stage_read (i := 18) (v := ?_) rfl (by kernel_rfl) (by kernel_rfl) (by kernel_rfl) (by kernel_rfl) (by kernel_rfl) (by kernel_rfl) (fun _ _ _ h => h) (Or.inl ⟨by kernel_rfl, ?_⟩) ?_
        rotate_left
        · (intro wS hwS; obtain ⟨hcS, hfS, hhS⟩ := bcell hwS; go_simp; try (first | (with_reducible rfl) | rw [if_pos (by omega)] | rw [if_neg (by omega)]))
        try simp only [Act.put, List.getElem_toArray, List.getElem_cons_succ, List.getElem_cons_zero, List.setIfInBounds_toArray, List.set_cons_zero, List.set_cons_succ]
        refine stage_read (i := 19) (v := ?_) rfl (by kernel_rfl) (by kernel_rfl) (by kernel_rfl) (by kernel_rfl) (by kernel_rfl) (by kernel_rfl) (fun _ _ _ h => h) (Or.inl ⟨by kernel_rfl, ?_⟩) ?_
        rotate_left
        · (intro wS hwS; obtain ⟨hcS, hfS, hhS⟩ := bcell hwS; go_simp; try (first | (with_reducible rfl) | rw [if_pos (by omega)] | rw [if_neg (by omega)]))
        try simp only [Act.put, List.getElem_toArray, List.getElem_cons_succ, List.getElem_cons_zero, List.setIfInBounds_toArray, List.set_cons_zero, List.set_cons_succ]
        refine stage_one 17 (by kernel_rfl) rfl (by kernel_rfl) (fun K hK => ?_)
        go_simp
        refine (rev_any _ hF.st).mono ?_
        rintro z v ⟨rfl, rfl⟩
        refine hK.out _ _ ((Below.refl _ _)) ?_
        clear hK K
        try simp only [Act.put, List.getElem_toArray, List.getElem_cons_succ, List.getElem_cons_zero, List.setIfInBounds_toArray, List.set_cons_zero, List.set_cons_succ]
        refine stage_read (i := 20) (v := ?_) rfl (by kernel_rfl) (by kernel_rfl) (by kernel_rfl) (by kernel_rfl) (by kernel_rfl) (by kernel_rfl) (fun _ _ _ h => h) (Or.inl ⟨by kernel_rfl, ?_⟩) ?_
        rotate_left
        · (intro wS hwS; obtain ⟨hcS, hfS, hhS⟩ := bcell hwS; go_simp; try (first | (with_reducible rfl) | rw [if_pos (by omega)] | rw [if_neg (by omega)]))
        try simp only [Act.put, List.getElem_toArray, List.getElem_cons_succ, List.getElem_cons_zero, List.setIfInBounds_toArray, List.set_cons_zero, List.set_cons_succ]
        refine stage_read (i := 21) (v := ?_) rfl (by kernel_rfl) (by kernel_rfl) (by kernel_rfl) (by kernel_rfl) (by kernel_rfl) (by kernel_rfl) (fun _ _ _ h => h) (Or.inl ⟨by kernel_rfl, ?_⟩) ?_
        rotate_left
        · (intro wS hwS; obtain ⟨hcS, hfS, hhS⟩ := bcell hwS; go_simp; try (first | (with_reducible rfl) | rw [if_pos (by omega)] | rw [if_neg (by omega)]))
        try simp only [Act.put, List.getElem_toArray, List.getElem_cons_succ, List.getElem_cons_zero, List.setIfInBounds_toArray, List.set_cons_zero, List.set_cons_succ]
        refine stage_read (i := 22) (v := ?_) rfl (by kernel_rfl) (by kernel_rfl) (by kernel_rfl) (by kernel_rfl) (by kernel_rfl) (by kernel_rfl) (fun _ _ _ h => h) (Or.inl ⟨by kernel_rfl, ?_⟩) ?_
        rotate_left
        · (intro wS hwS; obtain ⟨hcS, hfS, hhS⟩ := bcell hwS; go_simp; try (first | (with_reducible rfl) | rw [if_pos (by omega)] | rw [if_neg (by omega)]))
        try simp only [Act.put, List.getElem_toArray, List.getElem_cons_succ, List.getElem_cons_zero, List.setIfInBounds_toArray, List.set_cons_zero, List.set_cons_succ]
        refine stage_read (i := 23) (v := ?_) rfl (by kernel_rfl) (by kernel_rfl) (by kernel_rfl) (by kernel_rfl) (by kernel_rfl) (by kernel_rfl) (fun _ _ _ h => h) (Or.inl ⟨by kernel_rfl, ?_⟩) ?_
        rotate_left
        · (intro wS hwS; obtain ⟨hcS, hfS, hhS⟩ := bcell hwS; go_simp; try (first | (with_reducible rfl) | rw [if_pos (by omega)] | rw [if_neg (by omega)]))
        try simp only [Act.put, List.getElem_toArray, List.getElem_cons_succ, List.getElem_cons_zero, List.setIfInBounds_toArray, List.set_cons_zero, List.set_cons_succ]
        refine stage_read (i := 25) (v := ?_) rfl (by kernel_rfl) (by kernel_rfl) (by kernel_rfl) (by kernel_rfl) (by kernel_rfl) (by kernel_rfl) (fun _ _ _ h => h) (Or.inl ⟨by kernel_rfl, ?_⟩) ?_
        rotate_left
        · (intro wS hwS; obtain ⟨hcS, hfS, hhS⟩ := bcell hwS; go_simp; try (first | (with_reducible rfl) | rw [if_pos (by omega)] | rw [if_neg (by omega)]))
        try simp only [Act.put, List.getElem_toArray, List.getElem_cons_succ, List.getElem_cons_zero, List.setIfInBounds_toArray, List.set_cons_zero, List.set_cons_succ]
        refine stage_read (i := 26) (v := ?_) rfl (by kernel_rfl) (by kernel_rfl) (by kernel_rfl) (by kernel_rfl) (by kernel_rfl) (by kernel_rfl) (fun _ _ _ h => h) (Or.inl ⟨by kernel_rfl, ?_⟩) ?_
        rotate_left
        · (intro wS hwS; obtain ⟨hcS, hfS, hhS⟩ := bcell hwS; go_simp; try (first | (with_reducible rfl) | rw [if_pos (by omega)] | rw [if_neg (by omega)]))
        try simp only [Act.put, List.getElem_toArray, List.getElem_cons_succ, List.getElem_cons_zero, List.setIfInBounds_toArray, List.set_cons_zero, List.set_cons_succ]
        refine stage_one 24 (by kernel_rfl) rfl (by kernel_rfl) (fun K hK => ?_)
        go_simp
        refine (all_any _ hF.st (by omega) hkeys).mono ?_
        rintro z v2 ⟨A7, n7, c7, rfl, hown7, hbn⟩
        refine hK.out _ _ (hbn) ?_
        clear hK K
        try simp only [Act.put, List.getElem_toArray, List.getElem_cons_succ, List.getElem_cons_zero, List.setIfInBounds_toArray, List.set_cons_zero, List.set_cons_succ]
        replace hF := hF.step hbn
        replace h9 := h9.step hbn
        replace hown := OwnRI.step hown hbn
        clear s0 s1 sf l9 hbn hct htr hgc2
        obtain ⟨⟨s0, s1⟩, sf⟩ := at2 h9
        have l9 := h9.lt

        refine stage_one 27 (by kernel_rfl) rfl (by kernel_rfl) (fun K hK => ?_)
        go_simp
        refine (sitems_any A7 A4 n7 c7 n4 c4 _ _ (OwnI.rd hown7) (OwnRI.rd hown)).mono ?_
        rintro z v3 ⟨rfl, hbn⟩
        refine hK.out _ _ (hbn) ?_
        clear hK K
        try simp only [Act.put, List.getElem_toArray, List.getElem_cons_succ, List.getElem_cons_zero, List.setIfInBounds_toArray, List.set_cons_zero, List.set_cons_succ]
        replace hF := hF.step hbn
        clear s0 s1 sf l9 hbn hown hown7 h9
        refine stage_read (i := 28) (v := ?_) rfl (by kernel_rfl) (by kernel_rfl) (by kernel_rfl) (by kernel_rfl) (by kernel_rfl) (by kernel_rfl) (fun _ _ _ h => h) (Or.inl ⟨by kernel_rfl, ?_⟩) ?_
        rotate_left
        · (intro wS hwS; obtain ⟨hcS, hfS, hhS⟩ := bcell hwS; go_simp; try (first | (with_reducible rfl) | rw [if_pos (by omega)] | rw [if_neg (by omega)]))
        try simp only [Act.put, List.getElem_toArray, List.getElem_cons_succ, List.getElem_cons_zero, List.setIfInBounds_toArray, List.set_cons_zero, List.set_cons_succ]
        refine stage_read (i := 29) (v := ?_) rfl (by kernel_rfl) (by kernel_rfl) (by kernel_rfl) (by kernel_rfl) (by kernel_rfl) (by kernel_rfl) (fun _ _ _ h => h) (Or.inl ⟨by kernel_rfl, ?_⟩) ?_
        rotate_left
        · (intro wS hwS; obtain ⟨hcS, hfS, hhS⟩ := bcell hwS; go_simp; try (first | (with_reducible rfl) | rw [if_pos (by omega)] | rw [if_neg (by omega)]))
        try simp only [Act.put, List.getElem_toArray, List.getElem_cons_succ, List.getElem_cons_zero, List.setIfInBounds_toArray, List.set_cons_zero, List.set_cons_succ]
        refine stage_one 30 (by kernel_rfl) rfl (by kernel_rfl) (fun K hK => ?_)
        go_simp
        refine (awake19 _).mono ?_
        rintro z v4 ⟨rfl, hbn⟩
        refine hK.out _ _ (hbn) ?_
        clear hK K
        try simp only [Act.put, List.getElem_toArray, List.getElem_cons_succ, List.getElem_cons_zero, List.setIfInBounds_toArray, List.set_cons_zero, List.set_cons_succ]
        replace hF := hF.step hbn
        refine stage_read (i := 31) (v := ?_) rfl (by kernel_rfl) (by kernel_rfl) (by kernel_rfl) (by kernel_rfl) (by kernel_rfl) (by kernel_rfl) (fun _ _ _ h => h) (Or.inl ⟨by kernel_rfl, ?_⟩) ?_
        rotate_left
        · (intro wS hwS; obtain ⟨hcS, hfS, hhS⟩ := bcell hwS; go_simp; try (first | (with_reducible rfl) | rw [if_pos (by omega)] | rw [if_neg (by omega)]))
        try simp only [Act.put, List.getElem_toArray, List.getElem_cons_succ, List.getElem_cons_zero, List.setIfInBounds_toArray, List.set_cons_zero, List.set_cons_succ]
        refine stage_read (i := 32) (v := ?_) rfl (by kernel_rfl) (by kernel_rfl) (by kernel_rfl) (by kernel_rfl) (by kernel_rfl) (by kernel_rfl) (fun _ _ _ h => h) (Or.inl ⟨by kernel_rfl, ?_⟩) ?_
        rotate_left
        · (intro wS hwS; obtain ⟨hcS, hfS, hhS⟩ := bcell hwS; go_simp; try (first | (with_reducible rfl) | rw [if_pos (by omega)] | rw [if_neg (by omega)]))
        try simp only [Act.put, List.getElem_toArray, List.getElem_cons_succ, List.getElem_cons_zero, List.setIfInBounds_toArray, List.set_cons_zero, List.set_cons_succ]
        first | refine wpAnyT_done (by kernel_rfl) ?_ _ | refine wpAny_done (by kernel_rfl) ?_ _
        have HB := Lib.hid hF.be
        clear hF hbn
        go_wp2_with fail
        go_ret
        exact ⟨rfl, HB.out⟩
end Go.Proofs.Ytcpkaolfafeojaa
