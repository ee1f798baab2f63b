
/- Chapter 11: the records of a log, done at a state. -/
import Derived.Test.YtnkjekkdndjfaaaGreatStoreA
namespace Go.Proofs.YtnkjekkdndjfaaaGreat
set_option linter.unusedVariables false
set_option linter.unusedSimpArgs false
open Go.RowKit
section
variable {w w' : World} {g b N : Nat} {rev : Int} {l : List It}
theorem RecO.st {base n c : Nat} {A : Option Addr} {ys : List Bsl} (h : RecO w base A n c ys) (hs : IsSt w g b N rev l) (hm : Mod (fun i _ => i = g ∨ i = b) w w') : RecO w' base A n c ys := by
  have hk : ∀ (t : TypeId), t ≠ 146 → ∀ i o, w.heap[i]? = some o → IsT t o → ¬ (i = g ∨ i = b) := by
    rintro t ht i o ho hit (rfl | e)
    · exact isT_at hs.at_ ho hit (fun e => ht e) rfl
    · exact hs.mp.no_t ho hit e
  exact ⟨own_mod h.1 hm (fun i o ho _ hit e => hk _ (by decide) i o ho hit e), fun y hy => own_mod (show World.ownsRow _ _ _ _ _ _ _ from h.2 y hy) hm (fun i o ho _ hit e => hk _ (by decide) i o ho hit e)⟩
def RPL (w w' : World) (g b N n : Nat) (R : Int × SL) (x : Ending) : Prop := x = .returned (.int .i64 R.1) ∧ (∃ N', N' ≤ N + n ∧ IsSt w' g b N' R.2.rev R.2.l) ∧ Mod (fun i _ => i = g ∨ i = b) w w'
set_option maxRecDepth 100000 in
set_option maxHeartbeats 4000000 in
theorem replay_any {base c : Nat} {A : Option Addr} {ys : List Bsl} (w : World) (hst : IsSt w g b N rev l) (hrec : RecO w base A ys.length c ys) (hN : N + ys.length < 1000000) (hlen : ∀ y ∈ ys, y.n ≤ 2000000) :
    Calls Tryz.prog 37 #[.pointer (some ⟨g, 0, none⟩), .slice A ys.length c] w fun x w' => RPL w w' g b N ys.length (rplS ⟨rev, l⟩ (ys.map Bsl.l)) x := by
  have hle := hrec.rd.1.le
  have hmax := hrec.rd.1.max
  unfold maxLen at hmax
  obtain ⟨R, hR⟩ : ∃ R, rplS ⟨rev, l⟩ (ys.map Bsl.l) = R := ⟨_, rfl⟩
  rw [hR]
  have HR0 := Lib.hid hR
  have HST := Lib.hid hst
  have HREC := Lib.hid hrec
  have HLEN := Lib.hid hlen
  clear hst hrec hlen hR
  go_enter Tryz.func37, Tryz.ntmps37
  go_wp2_with fail
  go_loopw [11] (fun i wr => ∃ (k : Nat) (s : SL), i = .int .i64 (k : Int) ∧ k ≤ ys.length ∧ rplS s ((ys.map Bsl.l).drop k) = R ∧ IsSt wr g b (N + k) s.rev s.l ∧ RecO wr base A ys.length c ys ∧ Mod (fun i _ => i = g ∨ i = b) w wr) (fun i _ => ys.length - (intOf i).toNat)
  case atStart => exact ⟨0, ⟨rev, l⟩, rfl, Nat.zero_le _, by rw [List.drop_zero]; exact HR0.out, HST.out, HREC.out, Mod.refl _ _⟩
  case round =>
    clear HST HREC HR0
    obtain ⟨k, s, rfl, hk, hR, hst, hrec, hm⟩ := hrel
    have HM := Lib.hid hm
    clear hm
    by_cases hlt : k < ys.length
    · obtain ⟨gs, off, eA, hg, hcell, hry⟩ := hrec.rd.get hlt
      subst eA
      have hdk : (ys.map Bsl.l).drop k = (ys[k]).l :: (ys.map Bsl.l).drop (k + 1) := by
        rw [List.drop_eq_getElem_cons (by rw [List.length_map]; exact hlt), List.getElem_map]
      rw [hdk] at hR
      have hyn := HLEN.out _ (List.getElem_mem hlt)
      have hi1 : (0 : Int) ≤ (k : Int) := by omega
      have hi2 : (k : Int) < (ys.length : Int) := by omega
      have HREC := Lib.hid hrec
      clear hdk hrec
      obtain ⟨rest, hrest⟩ : ∃ rest, (ys.map Bsl.l).drop (k + 1) = rest := ⟨_, rfl⟩
      rw [hrest] at hR
      have HREST := Lib.hid hrest
      clear hrest
      generalize ys[k] = y at *
      obtain ⟨yA, yn, yc, p⟩ := y
      skip
      simp only at hcell hry hR hyn
      obtain ⟨sr, sl⟩ := s
      simp only at hst
      have hst0 := hst
      by_cases hok : okE p
      · have hright := hok.2.2
        have HE := eread_ok yA yn yc p wr hry (by omega) hok
        obtain ⟨e, he⟩ : ∃ e, (rdE p).e = e := ⟨_, rfl⟩
        rw [rplS, if_pos hok, he] at hR
        rw [he] at HE hright
        obtain ⟨ek, ev, er, eg⟩ := e
        unfold Eff.val Eff.cells at HE
        simp only at HE hright hR
        have HRT := Lib.hid hR
        have HST := Lib.hid hst
        have hk1 : ek.size ≤ 128 := hright.2.1
        clear hR hst hst0 he hok hry hright
        go_upto_region 5 with (((with_reducible refine (HE).mono ?_); rintro z w1 ⟨rfl, hb1⟩))
        obtain ⟨h7, hb7⟩ := one_at w1 115 [.string ek, .string ev, .int .i64 er, .bool eg]
        have hst7 := (HST.out.step hb1).step hb7
        have hrec7 := (HREC.out.step hb1).step hb7
        have hm7 := (HM.out.below hb1).below hb7
        clear HE hb1 hb7 HST HREC HM hcell hg
        generalize World.alloc w1 _ = w2 at *
        generalize w1.heap.size = g7 at *
        go_upto_region 7 with fail
        refine region_any (by kernel_rfl) ?_
        change wpAny _ _ _ _ _ _ _ (World.drew _)
        replace h7 := At.drew h7
        replace hst7 := hst7.drew
        replace hrec7 := hrec7.step (Below.drew (Below.refl _ _))
        replace hm7 := hm7.drew
        generalize World.drew _ = w3 at *
        obtain ⟨⟨x0, x1, x2, x3⟩, xf⟩ := at4 h7
        have l7 := h7.lt
        have HREV := rev_any w3 hst7
        refine stage 100000 ?_
        refine stage_read (i := 0) (v := ?_) rfl (by kernel_rfl) (by kernel_rfl) (by kernel_rfl) (by kernel_rfl) (by kernel_rfl) (by kernel_rfl) (fun _ _ _ h => h) (Or.inl ⟨by kernel_rfl, ?_⟩) ?_
        rotate_left
        · (intro wS hwS; obtain ⟨hcS, hfS, hhS⟩ := bcell hwS; go_simp; try (first | (with_reducible rfl) | rw [if_pos (by omega)] | rw [if_neg (by omega)]))
        try simp only [Act.put, List.getElem_toArray, List.getElem_cons_succ, List.getElem_cons_zero, List.setIfInBounds_toArray, List.set_cons_zero, List.set_cons_succ]
        refine stage_read (i := 1) (v := ?_) rfl (by kernel_rfl) (by kernel_rfl) (by kernel_rfl) (by kernel_rfl) (by kernel_rfl) (by kernel_rfl) (fun _ _ _ h => h) (Or.inl ⟨by kernel_rfl, ?_⟩) ?_
        rotate_left
        · (intro wS hwS; obtain ⟨hcS, hfS, hhS⟩ := bcell hwS; go_simp; try (first | (with_reducible rfl) | rw [if_pos (by omega)] | rw [if_neg (by omega)]))
        try simp only [Act.put, List.getElem_toArray, List.getElem_cons_succ, List.getElem_cons_zero, List.setIfInBounds_toArray, List.set_cons_zero, List.set_cons_succ]
        refine stage_read (i := 2) (v := ?_) rfl (by kernel_rfl) (by kernel_rfl) (by kernel_rfl) (by kernel_rfl) (by kernel_rfl) (by kernel_rfl) (fun _ _ _ h => h) (Or.inl ⟨by kernel_rfl, ?_⟩) ?_
        rotate_left
        · (intro wS hwS; obtain ⟨hcS, hfS, hhS⟩ := bcell hwS; go_simp; try (first | (with_reducible rfl) | rw [if_pos (by omega)] | rw [if_neg (by omega)]))
        try simp only [Act.put, List.getElem_toArray, List.getElem_cons_succ, List.getElem_cons_zero, List.setIfInBounds_toArray, List.set_cons_zero, List.set_cons_succ]
        refine stage_one 3 (by kernel_rfl) rfl (by kernel_rfl) (fun K hK => ?_)
        go_simp
        refine HREV.mono ?_
        rintro z w4 ⟨rfl, rfl⟩
        refine hK.out _ _ ((Below.refl _ _)) ?_
        clear hK K
        try simp only [Act.put, List.getElem_toArray, List.getElem_cons_succ, List.getElem_cons_zero, List.setIfInBounds_toArray, List.set_cons_zero, List.set_cons_succ]
        first | refine stage 1000000 ?_ | skip
        refine stage_read (i := 4) (v := ?_) rfl (by kernel_rfl) (by kernel_rfl) (by kernel_rfl) (by kernel_rfl) (by kernel_rfl) (by kernel_rfl) (fun _ _ _ h => h) (Or.inl ⟨by kernel_rfl, ?_⟩) ?_
        rotate_left
        · (intro wS hwS; obtain ⟨hcS, hfS, hhS⟩ := bcell hwS; go_simp; try (first | (with_reducible rfl) | rw [if_pos (by omega)] | rw [if_neg (by omega)]))
        try simp only [Act.put, List.getElem_toArray, List.getElem_cons_succ, List.getElem_cons_zero, List.setIfInBounds_toArray, List.set_cons_zero, List.set_cons_succ]
        first | refine wpAnyT_done (by kernel_rfl) ?_ _ | refine wpAny_done (by kernel_rfl) ?_ _
        clear HREV
        by_cases hrv : er ≤ sr
        · have hd1 : decide (er ≤ sr) = true := decide_eq_true hrv
          have hR2 := HRT.out
          rw [if_pos hrv] at hR2
          have HR2 := Lib.hid hR2
          have HST := Lib.hid (hst7.more (show N + k ≤ N + (k + 1) by omega))
          have HREC := Lib.hid hrec7
          have HM := Lib.hid hm7
          clear hR2 HRT hst7 hrec7 hm7 h7 x0 x1 x2 x3 xf l7
          go_wp2_with fail
          go_roundw
          case rel => exact ⟨k + 1, ⟨sr, sl⟩, by go_num, by omega, by rw [HREST.out]; exact HR2.out, HST.out, HREC.out, HM.out⟩
          case measure => simp [intOf]; omega
        · have hd1 : decide (er ≤ sr) = false := decide_eq_false hrv
          have hR2 := HRT.out
          rw [if_neg hrv] at hR2
          have HAP := apply_any ek ev er eg w3 hst7 (by omega) (by simp only [maxLen]; omega)
          obtain ⟨q, hq⟩ : ∃ q, apOk sr sl ⟨ek, ev, er, eg⟩ = q := ⟨_, rfl⟩
          unfold ApR at HAP
          rw [hq] at HAP hR2
          have HREC := Lib.hid hrec7
          have HM := Lib.hid hm7
          have HST := Lib.hid hst7
          clear HRT hrec7 hm7 hst7 l7 hq
          cases q with
          | true =>
            simp only [if_true] at HAP hR2
            have HR2 := Lib.hid hR2
            clear hR2
            go_wp2_with (((with_reducible refine (HAP).mono ?_); rintro z w5 ⟨rfl, hst5, hm5⟩))
            have hrec5 := HREC.out.st HST.out hm5
            go_roundw
            case rel => exact ⟨k + 1, ⟨er, _⟩, by go_num, by omega, by rw [HREST.out]; exact HR2.out, hst5, hrec5, HM.out.trans hm5⟩
            case measure => simp [intOf]; omega
          | false =>
            simp only [Bool.false_eq_true, if_false] at HAP hR2
            have HR2 := Lib.hid hR2
            clear hR2
            go_wp2_with (((with_reducible refine (HAP).mono ?_); rintro z w5 ⟨rfl, hst5, hm5⟩))
            go_ret
            rw [← HR2.out]
            exact ⟨rfl, ⟨_, by omega, hst5⟩, HM.out.trans hm5⟩
      · have HE := eread_bad yA yn yc p wr hry (by omega) hok
        rw [rplS, if_neg hok] at hR
        have HRT := Lib.hid hR
        have HST := Lib.hid hst
        unfold Eff.val Eff.cells Eff.zero at HE
        simp only at HE
        clear hR hst hst0 hok hry
        go_upto_region 5 with (((with_reducible refine (HE).mono ?_); rintro z w1 ⟨rfl, hb1⟩))
        have hb7 := (one_at w1 115 [.string ⟨#[]⟩, .string ⟨#[]⟩, .int .i64 0, .bool false]).2
        have hst7 := Lib.hid ((HST.out.step hb1).step hb7)
        have hm7 := Lib.hid ((HM.out.below hb1).below hb7)
        clear HE hb1 hb7 HST HREC HM hcell hg
        generalize World.alloc w1 _ = w2 at *
        go_wp2_with fail
        go_ret
        rw [← HRT.out]
        exact ⟨rfl, ⟨_, by omega, hst7.out⟩, hm7.out⟩
    · have hd0 : (ys.map Bsl.l).drop k = [] := List.drop_eq_nil_iff.2 (by rw [List.length_map]; omega)
      rw [hd0, rplS] at hR
      have HRT := Lib.hid hR
      have HST := Lib.hid hst
      clear hR hst hrec hd0
      go_wp2_with fail
      go_ret
      rw [← HRT.out]
      exact ⟨rfl, ⟨_, by omega, HST.out⟩, HM.out⟩
end
end Go.Proofs.YtnkjekkdndjfaaaGreat
