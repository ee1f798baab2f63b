
/- Chapter 11 as data: what a store's state is, by its snapshot and its log. -/
import Derived.Test.YtnkjekkdndjfaaaGreatSnA
import Derived.Test.YtnkjekkdndjfaaaGreatRedoBackWalk
import Derived.Test.YtnkjekkdndjfaaaGreatKvInv
import Derived.Test.YtnkjekkdndjfaaaGreatKvPlan
namespace Go.Proofs.YtnkjekkdndjfaaaGreat
set_option linter.unusedVariables false
set_option linter.unusedSimpArgs false
open Go.RowKit
abbrev snapN : ByteArray := ⟨#[115, 110, 97, 112]⟩
abbrev logN : ByteArray := ⟨#[108, 111, 103]⟩
theorem snapN_lo : 1 ≤ snapN.size := by show 1 ≤ 4; omega
theorem logN_lo : 1 ≤ logN.size := by show 1 ≤ 3; omega
theorem snapN_hi : snapN.size + 1 ≤ maxLen := by show (5 : Nat) ≤ maxLen; simp only [maxLen]; omega
theorem snapN_mx : snapN.size ≤ maxLen := by show (4 : Nat) ≤ maxLen; simp only [maxLen]; omega
theorem logN_hi : logN.size ≤ maxLen := by show (3 : Nat) ≤ maxLen; simp only [maxLen]; omega
theorem log_snap : logN ≠ snapN := by decide
/-- a state: a revision, and items -/
structure SL where
  rev : Int
  l : List It
/-- the state of the file that has all, or why there is none -/
def bsC (d : PD) : Int := if ldC d snapN = 0 then (if okS (ldB d snapN) then 0 else 3) else if ldC d snapN = 6 then 0 else ldC d snapN
def bsS (d : PD) : SL := if ldC d snapN = 0 then ⟨(rdS (ldB d snapN)).rev, (rdS (ldB d snapN)).l⟩ else ⟨0, []⟩
/-- behind the records of a log -/
def rplS : SL → List (List UInt8) → Int × SL
  | s, [] => (0, s)
  | s, p :: ps =>
    if okE p then
      if (rdE p).e.r ≤ s.rev then rplS s ps
      else if apOk s.rev s.l (rdE p).e then rplS ⟨(rdE p).e.r, applyL (rdE p).e.it (rdE p).e.g s.l⟩ ps else (3, s)
    else (3, s)
theorem rplS_two : ∀ (ps : List (List UInt8)) (s : SL), (rplS s ps).1 = 0 ∨ (rplS s ps).1 = 3
  | [], s => .inl rfl
  | p :: ps, s => by
    rw [rplS]
    split
    · split
      · exact rplS_two ps s
      · split
        · exact rplS_two ps _
        · exact .inr rfl
    · exact .inr rfl
/-- the keys of a state -/
def Ks (s : SL) : Prop := ∀ x ∈ s.l, keyB x.k = true
theorem Ks.sizes {s : SL} (h : Ks s) : ∀ x ∈ s.l, x.k.size ≤ 1000 := fun x hx => by have := (keyB_iff x.k).1 (h x hx); omega
theorem apOk_key {rev : Int} {l : List It} {e : Eff} (h : apOk rev l e = true) : keyB e.k = true := by
  unfold apOk at h
  simp only [Bool.and_eq_true] at h
  exact h.1.1.1.1
theorem Ks.apply {s : SL} (h : Ks s) (ha : Asc s.l) {e : Eff} (he : keyB e.k = true) : Ks ⟨e.r, applyL e.it e.g s.l⟩ := by
  intro x hx
  rcases applyL_mem ha hx with rfl | hx
  · exact he
  · exact h x hx
theorem bsS_ks (d : PD) (h : bsC d = 0) : Ks (bsS d) ∧ (bsS d).rev < 9223372036854775808 := by
  unfold bsC at h
  unfold bsS
  split
  · rename_i h0
    rw [if_pos h0] at h
    by_cases h1 : okS (ldB d snapN) = true
    · obtain ⟨h2, _⟩ := okS_right (rev := (rdS (ldB d snapN)).rev) (l := (rdS (ldB d snapN)).l) (s := (rdS (ldB d snapN)).s) h1 rfl
      exact ⟨fun x hx => ((rightL_ok h2).2 x hx).1, rdS_hi _⟩
    · rw [if_neg h1] at h; cases h
  · exact ⟨(fun x hx => by cases hx), (by simp)⟩
end Go.Proofs.YtnkjekkdndjfaaaGreat
namespace Go.Proofs.YtnkjekkdndjfaaaGreat
set_option linter.unusedVariables false
set_option linter.unusedSimpArgs false
open Go.RowKit
section
variable {w w' : World} {gd bd N gst bst Ns g : Nat} {d : PD} {rev : Int} {l : List It}
theorem IsMp.block (h : IsMp w bst Ns l) : ∃ es clock, w.heap[bst]? = some (.map es clock) := by
  obtain ⟨D, ⟨es, clock, hb, r⟩, h2⟩ := h
  exact ⟨es, clock, hb⟩
theorem IsMp.ne_at (h : IsMp w bst Ns l) {t : TypeId} {cs : List Value} (hx : At w g t cs) : ¬ bst = g := by
  rintro rfl
  obtain ⟨es, clock, hb⟩ := h.block
  have := hb.symm.trans hx
  cases this
theorem IsMp.no_t (h : IsMp w bst Ns l) {i : Nat} {o : Obj} {t : TypeId} (ho : w.heap[i]? = some o) (hit : IsT t o) : ¬ i = bst := by
  rintro rfl
  obtain ⟨es, clock, hb⟩ := h.block
  obtain rfl := Option.some.inj (ho.symm.trans hb)
  exact hit
/-- the disk is turned: the state stays -/
theorem IsSt.dk (h : IsSt w gst bst Ns rev l) (hd : IsD w gd bd N d) (hm : Mod (fun i _ => i = gd ∨ i = bd) w w') (hne : bst ≠ bd) : IsSt w' gst bst Ns rev l := by
  obtain ⟨l0, h1, h2⟩ := id hd
  refine h.mod hm (fun o => hd.freeAt h.at_ (by decide)) (fun o e => ?_)
  rcases e with e | e
  · exact h.mp.ne_at h2.at_ e
  · exact hne e
/-- the state is turned: the disk stays -/
theorem IsD.st (hd : IsD w gd bd N d) (h : IsSt w gst bst Ns rev l) (hm : Mod (fun i _ => i = gst ∨ i = bst) w w') (hne : bst ≠ bd) : IsD w' gd bd N d := by
  obtain ⟨l0, h1, h2⟩ := id hd
  have n1 := hd.freeAt h.at_ (by decide)
  refine hd.mods hm (fun o e => ?_) (fun o e => ?_) ?_
  · rcases e with e | e
    · exact n1 (.inl e.symm)
    · exact h.mp.ne_at h2.at_ e.symm
  · rcases e with e | e
    · exact n1 (.inr e.symm)
    · exact hne e.symm
  · rintro i o ho hit (rfl | e)
    · exact isT_at h.at_ ho hit (by decide) rfl
    · exact h.mp.no_t ho hit e
/-- a block of cells is turned: the state stays -/
theorem IsSt.cell (h : IsSt w gst bst Ns rev l) {t : TypeId} {cs : List Value} (hx : At w g t cs) (ht : t ≠ 146) (hm : Mod (fun i _ => i = g) w w') : IsSt w' gst bst Ns rev l :=
  h.mod hm (fun o e => At.ne hx h.at_ ht e.symm) (fun o e => h.mp.ne_at hx e)
/-- the state is turned: a block of cells stays -/
theorem At.st {t : TypeId} {cs : List Value} (hx : At w g t cs) (h : IsSt w gst bst Ns rev l) (hm : Mod (fun i _ => i = gst ∨ i = bst) w w') (ht : t ≠ 146) : At w' g t cs :=
  hm.at hx (fun e => by rcases e with e | e; exact At.ne hx h.at_ ht e; exact h.mp.ne_at hx e.symm)
end
end Go.Proofs.YtnkjekkdndjfaaaGreat
namespace Go.Proofs.YtnkjekkdndjfaaaGreat
set_option linter.unusedVariables false
set_option linter.unusedSimpArgs false
open Go.RowKit
section
variable {w w' : World} {gd bd N gst bst Ns M K : Nat} {d : PD} {rev : Int} {l : List It}
theorem base_nil (w : World) : Calls Tryz.prog 35 #[.pointer none] w fun x w' => x = .returned (.tuple #[.pointer none, .int .i64 2]) ∧ w = w' := by
  go_enter Tryz.func35, Tryz.ntmps35
  go_wp2_with (((with_reducible refine ((load_nil w)).mono ?_); rintro z v ⟨rfl, rfl⟩))
  exact bodyPost_ret (v := .tuple #[.pointer none, .int .i64 2]) (by simp [results, Tryz.results35, go_sem]) rfl ⟨rfl, rfl⟩
theorem base_ok (w : World) (h : IsD w gd bd N d) (ho : d.Ok M K) (hM : M ≤ 1500000) (hb : bsC d = 0) :
    Calls Tryz.prog 35 #[.pointer (some ⟨gd, 0, none⟩)] w fun x w' => ∃ g b, x = .returned (.tuple #[.pointer (some ⟨g, 0, none⟩), .int .i64 0]) ∧ IsSt w' g b M (bsS d).rev (bsS d).l ∧ w.heap.size ≤ b ∧ b < g ∧ Below w.heap.size w w' := by
  have HL := load_any snapN_mx w h ho (by omega)
  unfold bsC at hb
  unfold bsS
  obtain ⟨c, hc⟩ : ∃ c, ldC d snapN = c := ⟨_, rfl⟩
  have hlen : (ldB d snapN).length ≤ M := by
    unfold ldB
    have := ok_rb ho snapN
    split
    · split
      · rw [List.length_take]; omega
      · exact Nat.zero_le _
    · exact Nat.zero_le _
  generalize ldB d snapN = bl at *
  rw [hc] at HL hb ⊢
  clear hc h ho
  by_cases h0 : c = 0
  · subst h0
    rw [if_pos rfl] at hb ⊢
    by_cases hq : okS bl = true
    · obtain ⟨rs, hrs⟩ : ∃ rs, rdS bl = rs := ⟨_, rfl⟩
      obtain ⟨rv, li, st⟩ := rs
      obtain ⟨_, _, h16⟩ := okS_right hq hrs
      rw [hrs]
      go_enter Tryz.func35, Tryz.ntmps35
      go_upto_region 4 with (((with_reducible refine (HL).mono ?_); rintro z w1 ⟨A, n, k, rfl, hrd, hb1⟩))
      have hnl := hrd.length
      have HR := rd_yes w1 hrd (by omega) hq hrs
      have hs1 := hb1.size
      have HB := Lib.hid hb1
      clear HL hrd hb1
      go_wp2_with (((with_reducible refine (HR).mono ?_); rintro z w2 ⟨g, b, rfl, hst, hgb, hbg, hb2⟩))
      exact bodyPost_ret (v := .tuple #[.pointer (some ⟨g, 0, none⟩), .int .i64 0]) (by simp [results, Tryz.results35, go_sem]) rfl ⟨g, b, rfl, hst.more (by omega), by omega, hbg, chain HB.out hb2⟩
    · rw [if_neg hq] at hb; cases hb
  · rw [if_neg h0] at hb ⊢
    by_cases h6 : c = 6
    · subst h6
      clear hb h0
      go_enter Tryz.func35, Tryz.ntmps35
      go_upto_region 6 with (((with_reducible refine (HL).mono ?_); rintro z w1 ⟨A, n, k, rfl, hrd, hb1⟩))
      have HR := new_st w1
      have hs1 := hb1.size
      have HB := Lib.hid hb1
      clear HL hrd hb1
      go_wp2_with (((with_reducible refine (HR).mono ?_); rintro z w2 ⟨g, b, rfl, hst, hgb, hbg, hb2⟩))
      exact bodyPost_ret (v := .tuple #[.pointer (some ⟨g, 0, none⟩), .int .i64 0]) (by simp [results, Tryz.results35, go_sem]) rfl ⟨g, b, rfl, hst.more (Nat.zero_le _), by omega, hbg, chain HB.out hb2⟩
    · rw [if_neg h6] at hb; exact absurd hb h0
theorem base_bad (w : World) (h : IsD w gd bd N d) (ho : d.Ok M K) (hM : M ≤ 1500000) (hb : bsC d ≠ 0) :
    Calls Tryz.prog 35 #[.pointer (some ⟨gd, 0, none⟩)] w fun x w' => x = .returned (.tuple #[.pointer none, .int .i64 (bsC d)]) ∧ Below w.heap.size w w' := by
  have HL := load_any snapN_mx w h ho (by omega)
  unfold bsC at hb ⊢
  obtain ⟨c, hc⟩ : ∃ c, ldC d snapN = c := ⟨_, rfl⟩
  have hlen : (ldB d snapN).length ≤ M := by
    unfold ldB
    have := ok_rb ho snapN
    split
    · split
      · rw [List.length_take]; omega
      · exact Nat.zero_le _
    · exact Nat.zero_le _
  generalize ldB d snapN = bl at *
  rw [hc] at HL hb ⊢
  clear hc h ho
  by_cases h0 : c = 0
  · subst h0
    rw [if_pos rfl] at hb ⊢
    by_cases hq : okS bl = true
    · rw [if_pos hq] at hb; exact absurd rfl hb
    · rw [if_neg hq]
      have hq2 : okS bl = false := by simpa using hq
      clear hb hq
      go_enter Tryz.func35, Tryz.ntmps35
      go_upto_region 4 with (((with_reducible refine (HL).mono ?_); rintro z w1 ⟨A, n, k, rfl, hrd, hb1⟩))
      have hnl := hrd.length
      have HR := rd_no w1 hrd (by omega) hq2
      have HB := Lib.hid hb1
      clear HL hrd hb1
      go_wp2_with (((with_reducible refine (HR).mono ?_); rintro z w2 ⟨rfl, hb2⟩))
      exact bodyPost_ret (v := .tuple #[.pointer none, .int .i64 3]) (by simp [results, Tryz.results35, go_sem]) rfl ⟨rfl, chain HB.out hb2⟩
  · rw [if_neg h0] at hb ⊢
    by_cases h6 : c = 6
    · rw [if_pos h6] at hb; exact absurd rfl hb
    · rw [if_neg h6]
      have b0 : (c == 0) = false := by simpa using h0
      have b6 : (c == 6) = false := by simpa using h6
      clear h0 h6 hb
      go_enter Tryz.func35, Tryz.ntmps35
      go_wp2_with (((with_reducible refine (HL).mono ?_); rintro z w1 ⟨A, n, k, rfl, hrd, hb1⟩))
      exact bodyPost_ret (v := .tuple #[.pointer none, .int .i64 c]) (by simp [results, Tryz.results35, go_sem]) rfl ⟨rfl, hb1⟩
end
end Go.Proofs.YtnkjekkdndjfaaaGreat
namespace Go.Proofs.YtnkjekkdndjfaaaGreat
set_option linter.unusedVariables false
set_option linter.unusedSimpArgs false
open Go.RowKit
section
variable {w w' : World} {g b N : Nat} {rev : Int} {l : List It}
theorem RecO.st {base n c : Nat} {A : Option Addr} {ys : List Bsl} (h : RecO w base A n c ys) (hs : IsSt w g b N rev l) (hm : Mod (fun i _ => i = g ∨ i = b) w w') : RecO w' base A n c ys := by
  have hk : ∀ (t : TypeId), t ≠ 146 → ∀ i o, w.heap[i]? = some o → IsT t o → ¬ (i = g ∨ i = b) := by
    rintro t ht i o ho hit (rfl | e)
    · exact isT_at hs.at_ ho hit (fun e => ht e) rfl
    · exact hs.mp.no_t ho hit e
  exact ⟨own_mod h.1 hm (fun i o ho _ hit e => hk _ (by decide) i o ho hit e), fun y hy => own_mod (show World.ownsRow _ _ _ _ _ _ _ from h.2 y hy) hm (fun i o ho _ hit e => hk _ (by decide) i o ho hit e)⟩
def RPL (w w' : World) (g b N n : Nat) (R : Int × SL) (x : Ending) : Prop := x = .returned (.int .i64 R.1) ∧ (∃ N', N' ≤ N + n ∧ IsSt w' g b N' R.2.rev R.2.l) ∧ Mod (fun i _ => i = g ∨ i = b) w w'
set_option maxRecDepth 100000 in
set_option maxHeartbeats 4000000 in
theorem replay_any {base c : Nat} {A : Option Addr} {ys : List Bsl} (w : World) (hst : IsSt w g b N rev l) (hrec : RecO w base A ys.length c ys) (hN : N + ys.length < 1000000) (hlen : ∀ y ∈ ys, y.n ≤ 2000000) :
    Calls Tryz.prog 37 #[.pointer (some ⟨g, 0, none⟩), .slice A ys.length c] w fun x w' => RPL w w' g b N ys.length (rplS ⟨rev, l⟩ (ys.map Bsl.l)) x := by
  have hle := hrec.rd.1.le
  have hmax := hrec.rd.1.max
  unfold maxLen at hmax
  obtain ⟨R, hR⟩ : ∃ R, rplS ⟨rev, l⟩ (ys.map Bsl.l) = R := ⟨_, rfl⟩
  rw [hR]
  have HR0 := Lib.hid hR
  have HST := Lib.hid hst
  have HREC := Lib.hid hrec
  have HLEN := Lib.hid hlen
  clear hst hrec hlen hR
  go_enter Tryz.func37, Tryz.ntmps37
  go_wp2_with fail
  go_loopw [11] (fun i wr => ∃ (k : Nat) (s : SL), i = .int .i64 (k : Int) ∧ k ≤ ys.length ∧ rplS s ((ys.map Bsl.l).drop k) = R ∧ IsSt wr g b (N + k) s.rev s.l ∧ RecO wr base A ys.length c ys ∧ Mod (fun i _ => i = g ∨ i = b) w wr) (fun i _ => ys.length - (intOf i).toNat)
  case atStart => exact ⟨0, ⟨rev, l⟩, rfl, Nat.zero_le _, by rw [List.drop_zero]; exact HR0.out, HST.out, HREC.out, Mod.refl _ _⟩
  case round =>
    clear HST HREC HR0
    obtain ⟨k, s, rfl, hk, hR, hst, hrec, hm⟩ := hrel
    have HM := Lib.hid hm
    clear hm
    by_cases hlt : k < ys.length
    · obtain ⟨gs, off, eA, hg, hcell, hry⟩ := hrec.rd.get hlt
      subst eA
      have hdk : (ys.map Bsl.l).drop k = (ys[k]).l :: (ys.map Bsl.l).drop (k + 1) := by
        rw [List.drop_eq_getElem_cons (by rw [List.length_map]; exact hlt), List.getElem_map]
      rw [hdk] at hR
      have hyn := HLEN.out _ (List.getElem_mem hlt)
      have hi1 : (0 : Int) ≤ (k : Int) := by omega
      have hi2 : (k : Int) < (ys.length : Int) := by omega
      have HREC := Lib.hid hrec
      clear hdk hrec
      obtain ⟨rest, hrest⟩ : ∃ rest, (ys.map Bsl.l).drop (k + 1) = rest := ⟨_, rfl⟩
      rw [hrest] at hR
      have HREST := Lib.hid hrest
      clear hrest
      generalize ys[k] = y at *
      obtain ⟨yA, yn, yc, p⟩ := y
      skip
      simp only at hcell hry hR hyn
      obtain ⟨sr, sl⟩ := s
      simp only at hst
      have hst0 := hst
      by_cases hok : okE p
      · have hright := hok.2.2
        have HE := eread_ok yA yn yc p wr hry (by omega) hok
        obtain ⟨e, he⟩ : ∃ e, (rdE p).e = e := ⟨_, rfl⟩
        rw [rplS, if_pos hok, he] at hR
        rw [he] at HE hright
        obtain ⟨ek, ev, er, eg⟩ := e
        unfold Eff.val Eff.cells at HE
        simp only at HE hright hR
        have HRT := Lib.hid hR
        have HST := Lib.hid hst
        have hk1 : ek.size ≤ 128 := hright.2.1
        clear hR hst hst0 he hok hry hright
        go_upto_region 5 with (((with_reducible refine (HE).mono ?_); rintro z w1 ⟨rfl, hb1⟩))
        obtain ⟨h7, hb7⟩ := one_at w1 115 [.string ek, .string ev, .int .i64 er, .bool eg]
        have hst7 := (HST.out.step hb1).step hb7
        have hrec7 := (HREC.out.step hb1).step hb7
        have hm7 := (HM.out.below hb1).below hb7
        clear HE hb1 hb7 HST HREC HM hcell hg
        generalize World.alloc w1 _ = w2 at *
        generalize w1.heap.size = g7 at *
        go_upto_region 7 with fail
        refine region_any (by kernel_rfl) ?_
        change wpAny _ _ _ _ _ _ _ (World.drew _)
        replace h7 := At.drew h7
        replace hst7 := hst7.drew
        replace hrec7 := hrec7.step (Below.drew (Below.refl _ _))
        replace hm7 := hm7.drew
        generalize World.drew _ = w3 at *
        obtain ⟨⟨x0, x1, x2, x3⟩, xf⟩ := at4 h7
        have l7 := h7.lt
        have HREV := rev_any w3 hst7
        refine stage 100000 ?_
        refine tag [0,1,2] ?_
        iterate 3 (
          refine sR (v := ?_) rfl (by kernel_rfl) (fun _ _ _ h => h) (Or.inl ⟨by kernel_rfl, ?_⟩) ?_
          rotate_left
          · (intro wS hwS; obtain ⟨hcS, hfS, hhS⟩ := bcell hwS; go_simp; try (first | (with_reducible rfl) | rw [if_pos (by omega)] | rw [if_neg (by omega)]))
          try simp only [PT])
        refine tagN ?_
        refine stage_one 3 (by kernel_rfl) rfl (by kernel_rfl) (fun K hK => ?_)
        go_simp
        refine HREV.mono ?_
        rintro z w4 ⟨rfl, rfl⟩
        refine hK.out _ _ ((Below.refl _ _)) ?_
        clear hK K
        try simp only [PT]
        first | refine stage 1000000 ?_ | skip
        refine tag [4] ?_
        refine sR (v := ?_) rfl (by kernel_rfl) (fun _ _ _ h => h) (Or.inl ⟨by kernel_rfl, ?_⟩) ?_
        rotate_left
        · (intro wS hwS; obtain ⟨hcS, hfS, hhS⟩ := bcell hwS; go_simp; try (first | (with_reducible rfl) | rw [if_pos (by omega)] | rw [if_neg (by omega)]))
        try simp only [PT]
        refine tagN ?_
        first | refine wpAnyT_done (by kernel_rfl) ?_ _ | refine wpAny_done (by kernel_rfl) ?_ _
        clear HREV
        by_cases hrv : er ≤ sr
        · have hd1 : decide (er ≤ sr) = true := decide_eq_true hrv
          have hR2 := HRT.out
          rw [if_pos hrv] at hR2
          have HR2 := Lib.hid hR2
          have HST := Lib.hid (hst7.more (show N + k ≤ N + (k + 1) by omega))
          have HREC := Lib.hid hrec7
          have HM := Lib.hid hm7
          clear hR2 HRT hst7 hrec7 hm7 h7 x0 x1 x2 x3 xf l7
          go_wp2_with fail
          go_roundw
          case rel => exact ⟨k + 1, ⟨sr, sl⟩, by go_num, by omega, by rw [HREST.out]; exact HR2.out, HST.out, HREC.out, HM.out⟩
          case measure => simp [intOf]; omega
        · have hd1 : decide (er ≤ sr) = false := decide_eq_false hrv
          have hR2 := HRT.out
          rw [if_neg hrv] at hR2
          have HAP := apply_any ek ev er eg w3 hst7 (by omega) (by simp only [maxLen]; omega)
          obtain ⟨q, hq⟩ : ∃ q, apOk sr sl ⟨ek, ev, er, eg⟩ = q := ⟨_, rfl⟩
          unfold ApR at HAP
          rw [hq] at HAP hR2
          have HREC := Lib.hid hrec7
          have HM := Lib.hid hm7
          have HST := Lib.hid hst7
          clear HRT hrec7 hm7 hst7 l7 hq
          cases q with
          | true =>
            simp only [if_true] at HAP hR2
            have HR2 := Lib.hid hR2
            clear hR2
            go_wp2_with (((with_reducible refine (HAP).mono ?_); rintro z w5 ⟨rfl, hst5, hm5⟩))
            have hrec5 := HREC.out.st HST.out hm5
            go_roundw
            case rel => exact ⟨k + 1, ⟨er, _⟩, by go_num, by omega, by rw [HREST.out]; exact HR2.out, hst5, hrec5, HM.out.trans hm5⟩
            case measure => simp [intOf]; omega
          | false =>
            simp only [Bool.false_eq_true, if_false] at HAP hR2
            have HR2 := Lib.hid hR2
            clear hR2
            go_wp2_with (((with_reducible refine (HAP).mono ?_); rintro z w5 ⟨rfl, hst5, hm5⟩))
            go_ret
            rw [← HR2.out]
            exact ⟨rfl, ⟨_, by omega, hst5⟩, HM.out.trans hm5⟩
      · have HE := eread_bad yA yn yc p wr hry (by omega) hok
        rw [rplS, if_neg hok] at hR
        have HRT := Lib.hid hR
        have HST := Lib.hid hst
        unfold Eff.val Eff.cells Eff.zero at HE
        simp only at HE
        clear hR hst hst0 hok hry
        go_upto_region 5 with (((with_reducible refine (HE).mono ?_); rintro z w1 ⟨rfl, hb1⟩))
        have hb7 := (one_at w1 115 [.string ⟨#[]⟩, .string ⟨#[]⟩, .int .i64 0, .bool false]).2
        have hst7 := Lib.hid ((HST.out.step hb1).step hb7)
        have hm7 := Lib.hid ((HM.out.below hb1).below hb7)
        clear HE hb1 hb7 HST HREC HM hcell hg
        generalize World.alloc w1 _ = w2 at *
        go_wp2_with fail
        go_ret
        rw [← HRT.out]
        exact ⟨rfl, ⟨_, by omega, hst7.out⟩, hm7.out⟩
    · have hd0 : (ys.map Bsl.l).drop k = [] := List.drop_eq_nil_iff.2 (by rw [List.length_map]; omega)
      rw [hd0, rplS] at hR
      have HRT := Lib.hid hR
      have HST := Lib.hid hst
      clear hR hst hrec hd0
      go_wp2_with fail
      go_ret
      rw [← HRT.out]
      exact ⟨rfl, ⟨_, by omega, HST.out⟩, HM.out⟩
end
end Go.Proofs.YtnkjekkdndjfaaaGreat
namespace Go.Proofs.YtnkjekkdndjfaaaGreat
set_option linter.unusedVariables false
set_option linter.unusedSimpArgs false
open Go.RowKit
theorem allR_rec {b : List UInt8} {rs : List (List UInt8)} {a e : Nat} (h : AllR b rs a e) : (∀ p ∈ rs, p.length ≤ b.length) ∧ rs.length ≤ b.length := by
  induction h with
  | stop b e h he => exact ⟨(fun p hp => by cases hp), Nat.zero_le _⟩
  | step b p n rs a e h hr ih =>
    have h1 := next_le b
    have h2 := next_zero b (by rw [h])
    rw [h] at h1 h2
    rw [List.length_drop] at ih
    simp only at h1 h2
    refine ⟨fun q hq => ?_, by rw [List.length_cons]; omega⟩
    rcases List.mem_cons.1 hq with rfl | hq
    · omega
    · have := ih.1 q hq; omega
/-- a store: its blocks, and what it is as data -/
structure IsSto (w : World) (gs gd bd N gst bst Ns gl : Nat) (d : PD) (s : SL) (sz : Int) (ld : Bool) (ev since : Int) (dead : Bool) : Prop where
  blk : At w gs 107 [.pointer (some ⟨gd, 0, none⟩), .pointer (some ⟨gst, 0, none⟩), .pointer (some ⟨gl, 0, none⟩), .int .i64 ev, .int .i64 since, .bool dead]
  dk : IsD w gd bd N d
  st : IsSt w gst bst Ns s.rev s.l
  lg : IsLg w gl gd logN sz ld
  ne : bst ≠ bd
section
variable {w w' : World} {gs gd bd N gst bst Ns gl M K : Nat} {d : PD} {s : SL} {sz ev since : Int} {ld dead : Bool}
theorem IsSto.step (h : IsSto w gs gd bd N gst bst Ns gl d s sz ld ev since dead) (hb : Below w.heap.size w w') : IsSto w' gs gd bd N gst bst Ns gl d s sz ld ev since dead := ⟨At.below h.blk hb, h.dk.step hb, h.st.step hb, At.below h.lg hb, h.ne⟩
theorem IsSto.drew (h : IsSto w gs gd bd N gst bst Ns gl d s sz ld ev since dead) : IsSto w.drew gs gd bd N gst bst Ns gl d s sz ld ev since dead := ⟨At.drew h.blk, h.dk.drew, h.st.drew, At.drew h.lg, h.ne⟩
theorem sopen_nil (e : Int) (w : World) : Calls Tryz.prog 10 #[.pointer none, .int .i64 e] w fun x w' => x = .returned (.tuple #[.pointer none, .int .i64 2]) ∧ w = w' := by
  go_enter Tryz.func10, Tryz.ntmps10
  go_wp2_with (((with_reducible refine ((base_nil w)).mono ?_); rintro z v ⟨rfl, rfl⟩))
  exact bodyPost_ret (v := .tuple #[.pointer none, .int .i64 2]) (by simp [results, Tryz.results10, go_sem]) rfl ⟨rfl, rfl⟩
theorem sopen_bad (e : Int) (w : World) (h : IsD w gd bd N d) (ho : d.Ok M K) (hM : M ≤ 1000000) (hb : bsC d ≠ 0) :
    Calls Tryz.prog 10 #[.pointer (some ⟨gd, 0, none⟩), .int .i64 e] w fun x w' => x = .returned (.tuple #[.pointer none, .int .i64 (bsC d)]) ∧ Below w.heap.size w w' := by
  have HB := base_bad w h ho (by omega) hb
  generalize bsC d = c at *
  have b0 : (c == 0) = false := by simpa using hb
  have b1 : (c != 0) = true := by simpa using hb
  clear hb h ho
  go_enter Tryz.func10, Tryz.ntmps10
  go_wp2_with (((with_reducible refine (HB).mono ?_); rintro z v ⟨rfl, hb1⟩))
  exact bodyPost_ret (v := .tuple #[.pointer none, .int .i64 c]) (by simp [results, Tryz.results10, go_sem]) rfl ⟨rfl, hb1⟩
def SOK (w w' : World) (gd bd N M : Nat) (d : PD) (s : SL) (sz e : Int) (x : Ending) : Prop :=
  ∃ gs gst bst Ns gl, x = .returned (.tuple #[.pointer (some ⟨gs, 0, none⟩), .int .i64 0]) ∧ IsSto w' gs gd bd (N + 1) gst bst Ns gl d s sz false (max e 1) 0 false ∧ Ns ≤ M + M ∧ (w.heap.size ≤ gs ∧ w.heap.size ≤ gst ∧ w.heap.size ≤ bst ∧ w.heap.size ≤ gl) ∧ Mod (fun i _ => i = gd ∨ i = bd) w w'
set_option maxRecDepth 100000 in
set_option maxHeartbeats 2000000 in
theorem sopen_new (e : Int) (w : World) (h : IsD w gd bd N d) (ho : d.Ok M K) (hM : M ≤ 200000) (hN : N < 800000) (hb : bsC d = 0) (h6 : d.rc logN = 6) :
    Calls Tryz.prog 10 #[.pointer (some ⟨gd, 0, none⟩), .int .i64 e] w fun x w' => SOK w w' gd bd N M d (bsS d) 0 e x := by
  have HB := base_ok w h ho (by omega) hb
  have hlt := h.lt
  have H := Lib.hid h
  have HO := fun v (h : IsD v gd bd N d) => (wopen_any logN_lo logN_hi v h ho (by omega) (by omega)).mono (R' := fun x w' => ∃ gl, x = .returned (.tuple #[.pointer (some ⟨gl, 0, none⟩), .slice none 0 0, .int .i64 0]) ∧ IsLg w' gl gd logN 0 false ∧ v.heap.size ≤ gl ∧ Below v.heap.size v w') (by
    intro x w' hwo
    unfold WO WOg at hwo
    rcases hwo with hq | hq | hq
    · exact hq.2
    · exact absurd h6 hq.1
    · have := hq.1; omega)
  generalize bsS d = s0 at *
  obtain ⟨rv, li⟩ := s0
  simp only at HB
  clear h hb h6
  go_enter Tryz.func10, Tryz.ntmps10
  go_upto_region 4 with (((with_reducible refine (HB).mono ?_); rintro z w1 ⟨gst, bst, rfl, hst1, hgb, hbg, hb1⟩))
  have hd1 := H.out.step hb1
  have hne : bst ≠ bd := by omega
  have HO1 := HO w1 hd1
  have hm1 : Mod (fun i _ => i = gd ∨ i = bd) w w1 := (Mod.refl _ w).below hb1
  have hs1 := hb1.size
  clear HB HO hb1 H
  go_upto_region 5 with (((with_reducible refine (HO1).mono ?_); rintro z w2 ⟨gl, rfl, hl2, hgl, hb2⟩))
  have hst2 := hst1.step hb2
  have hd2 := hd1.step hb2
  have hm2 := hm1.below hb2
  have HRP := replay_any (ys := []) (base := 0) (A := none) (c := 0) w2 hst2 RecO.nil (by simp; omega) (by simp)
  unfold RPL at HRP
  simp only [List.map_nil, rplS, List.length_nil] at HRP
  clear hst1 hd1 hm1 hb2 HO1
  have HST2 := Lib.hid hst2
  have HL2 := Lib.hid hl2
  have HD2 := Lib.hid hd2
  have HM2 := Lib.hid hm2
  clear hst2 hl2 hd2 hm2
  go_upto_region 10 with (((with_reducible refine (HRP).mono ?_); rintro z w5 ⟨rfl, ⟨Ns, hNs, hst5⟩, hm5'⟩))
  have hd5 := (HD2.out.st HST2.out hm5' hne).more (Nat.le_succ N)
  have hl5 : IsLg w5 gl gd logN 0 false := At.st HL2.out HST2.out hm5' (by decide)
  have hs2 := HM2.out.size
  have hm5 : Mod (fun i _ => i = gd ∨ i = bd) w w5 := by
    refine HM2.out.step hm5' (N := fun i _ => i = gst ∨ i = bst) (fun i o hi _ e => ?_)
    rcases e with e | e <;> omega
  clear HRP HST2 HL2 HD2 HM2 hm5'
  obtain ⟨mx, hmx⟩ : ∃ mx, max e 1 = mx := ⟨_, rfl⟩
  obtain ⟨h8, hb8⟩ := one_at w5 107 [.pointer (some ⟨gd, 0, none⟩), .pointer (some ⟨gst, 0, none⟩), .pointer (some ⟨gl, 0, none⟩), .int .i64 mx, .int .i64 0, .bool false]
  have HS := Lib.hid (show IsSto _ w5.heap.size gd bd (N + 1) gst bst _ gl _ (⟨rv, li⟩ : SL) _ false mx 0 false from ⟨h8, hd5.step hb8, hst5.step hb8, At.below hl5 hb8, hne⟩)
  have HM := Lib.hid (hm5.below hb8)
  have hsz5 := hm5.size
  have HMX := Lib.hid hmx
  clear h8 hb8 hd5 hst5 hl5 hm5
  go_wp2_with fail
  exact bodyPost_ret (v := .tuple #[.pointer (some ⟨w5.heap.size, 0, none⟩), .int .i64 0]) (by simp [results, Tryz.results10, go_sem]) rfl ⟨w5.heap.size, gst, bst, _, gl, rfl, by rw [HMX.out]; exact HS.out, by omega, by omega, HM.out⟩
set_option maxRecDepth 100000 in
set_option maxHeartbeats 2000000 in
theorem sopen_log {rs : List (List UInt8)} {at_ code : Nat} {s' : SL} (e : Int) (w : World) (h : IsD w gd bd N d) (ho : d.Ok M K) (hM : M ≤ 200000) (hN : N < 800000) (hb : bsC d = 0) (h0 : d.rc logN = 0) (hall : AllR (d.rb logN) rs at_ code) (hmc : (mendO d logN ((d.rb logN).length : Nat) at_).code = 0) (hrp : rplS (bsS d) rs = (0, s')) :
    Calls Tryz.prog 10 #[.pointer (some ⟨gd, 0, none⟩), .int .i64 e] w fun x w' => SOK w w' gd bd N M (d.out (mendO d logN ((d.rb logN).length : Nat) at_)) s' (at_ : Int) e x := by
  have HB := base_ok w h ho (by omega) hb
  have hlt := h.lt
  have hrb := ok_rb ho logN
  have hat := allR_rec hall
  have H := Lib.hid h
  generalize bsS d = s0 at *
  obtain ⟨rv, li⟩ := s0
  have HO := fun v (h : IsD v gd bd N d) => (wopen_any logN_lo logN_hi v h ho (by omega) (by omega)).mono (R' := fun x w' => ∃ gl A c ys, x = .returned (.tuple #[.pointer (some ⟨gl, 0, none⟩), .slice A ys.length c, .int .i64 0]) ∧ rs = ys.map Bsl.l ∧ IsLg w' gl gd logN (at_ : Int) false ∧ v.heap.size ≤ gl ∧ RecO w' v.heap.size A ys.length c ys ∧ Mod (fun i _ => i = gd ∨ i = bd) v w' ∧ IsD w' gd bd (N + 1) (d.out (mendO d logN ((d.rb logN).length : Nat) at_))) (by
    intro x w' hwo
    unfold WO WOg at hwo
    rcases hwo with hq | hq | ⟨_, rs', at', code', ha', hm, hd, hq⟩
    · have := hq.1; omega
    · exact absurd h0 hq.2.1
    · obtain ⟨rfl, rfl, rfl⟩ := hall.det ha'
      rcases hq with ⟨hq, _⟩ | ⟨_, gl, A, c, ys, e1, rfl, e3, e4, e5⟩
      · exact absurd hmc hq
      · exact ⟨gl, A, c, ys, rfl, e1, e3, e4, e5, hm, hd⟩)
  obtain ⟨d', hd'⟩ : ∃ d', d.out (mendO d logN ((d.rb logN).length : Nat) at_) = d' := ⟨_, rfl⟩
  rw [hd'] at HO
  try rw [hd']
  simp only at HB
  clear h hb h0 hall hmc hd'
  go_enter Tryz.func10, Tryz.ntmps10
  go_upto_region 4 with (((with_reducible refine (HB).mono ?_); rintro z w1 ⟨gst, bst, rfl, hst1, hgb, hbg, hb1⟩))
  have hd1 := H.out.step hb1
  have hne : bst ≠ bd := by omega
  have HO1 := HO w1 hd1
  have hm1 : Mod (fun i _ => i = gd ∨ i = bd) w w1 := (Mod.refl _ w).below hb1
  have hs1 := hb1.size
  clear HB HO hb1 H
  go_upto_region 5 with (((with_reducible refine (HO1).mono ?_); rintro z w2 ⟨gl, A, c, ys, rfl, hrs, hl2, hgl, hrec, hmw, hd2⟩))
  have hst2 := hst1.dk hd1 hmw hne
  have hm2 := hm1.trans hmw
  have hyl : ys.length ≤ M := by
    have := hat.2
    rw [hrs, List.length_map] at this
    omega
  have hyn : ∀ y ∈ ys, y.n ≤ 2000000 := fun y hy => by
    have h1 := (hrec.2 y hy).rd.length
    have h2 := hat.1 y.l (by rw [hrs]; exact List.mem_map.2 ⟨y, hy, rfl⟩)
    omega
  have HRP := replay_any w2 hst2 hrec (by omega) hyn
  unfold RPL at HRP
  rw [← hrs, hrp] at HRP
  simp only at HRP
  have hs2' := hmw.size
  clear hst1 hd1 hm1 hmw HO1 hrec hrs hyn hat hrp
  have HST2 := Lib.hid hst2
  have HL2 := Lib.hid hl2
  have HD2 := Lib.hid hd2
  have HM2 := Lib.hid hm2
  clear hst2 hl2 hd2 hm2
  go_upto_region 10 with (((with_reducible refine (HRP).mono ?_); rintro z w5 ⟨rfl, ⟨Ns, hNs, hst5⟩, hm5'⟩))
  have hd5 := HD2.out.st HST2.out hm5' hne
  have hl5 : IsLg w5 gl gd logN (at_ : Int) false := At.st HL2.out HST2.out hm5' (by decide)
  have hs2 := HM2.out.size
  have hm5 : Mod (fun i _ => i = gd ∨ i = bd) w w5 := by
    refine HM2.out.step hm5' (N := fun i _ => i = gst ∨ i = bst) (fun i o hi _ e => ?_)
    rcases e with e | e <;> omega
  clear HRP HST2 HL2 HD2 HM2 hm5'
  obtain ⟨mx, hmx⟩ : ∃ mx, max e 1 = mx := ⟨_, rfl⟩
  obtain ⟨h8, hb8⟩ := one_at w5 107 [.pointer (some ⟨gd, 0, none⟩), .pointer (some ⟨gst, 0, none⟩), .pointer (some ⟨gl, 0, none⟩), .int .i64 mx, .int .i64 0, .bool false]
  have HS := Lib.hid (show IsSto _ w5.heap.size gd bd (N + 1) gst bst _ gl _ s' _ false mx 0 false from ⟨h8, hd5.step hb8, hst5.step hb8, At.below hl5 hb8, hne⟩)
  have HM := Lib.hid (hm5.below hb8)
  have hsz5 := hm5.size
  have HMX := Lib.hid hmx
  clear h8 hb8 hd5 hst5 hl5 hm5
  go_wp2_with fail
  exact bodyPost_ret (v := .tuple #[.pointer (some ⟨w5.heap.size, 0, none⟩), .int .i64 0]) (by simp [results, Tryz.results10, go_sem]) rfl ⟨w5.heap.size, gst, bst, _, gl, rfl, by rw [HMX.out]; exact HS.out, by omega, by omega, HM.out⟩
set_option maxRecDepth 100000 in
set_option maxHeartbeats 2000000 in
theorem sopen_stop {rs : List (List UInt8)} {at_ code : Nat} {s' : SL} (e : Int) (w : World) (h : IsD w gd bd N d) (ho : d.Ok M K) (hM : M ≤ 200000) (hN : N < 800000) (hb : bsC d = 0) (h0 : d.rc logN = 0) (hall : AllR (d.rb logN) rs at_ code) (hmc : (mendO d logN ((d.rb logN).length : Nat) at_).code = 0) (hrp : rplS (bsS d) rs = (3, s')) :
    Calls Tryz.prog 10 #[.pointer (some ⟨gd, 0, none⟩), .int .i64 e] w fun x w' => x = .returned (.tuple #[.pointer none, .int .i64 3]) ∧ IsD w' gd bd (N + 1) (d.out (mendO d logN ((d.rb logN).length : Nat) at_)) ∧ Mod (fun i _ => i = gd ∨ i = bd) w w' := by
  have HB := base_ok w h ho (by omega) hb
  have hlt := h.lt
  have hrb := ok_rb ho logN
  have hat := allR_rec hall
  have H := Lib.hid h
  generalize bsS d = s0 at *
  obtain ⟨rv, li⟩ := s0
  have HO := fun v (h : IsD v gd bd N d) => (wopen_any logN_lo logN_hi v h ho (by omega) (by omega)).mono (R' := fun x w' => ∃ gl A c ys, x = .returned (.tuple #[.pointer (some ⟨gl, 0, none⟩), .slice A ys.length c, .int .i64 0]) ∧ rs = ys.map Bsl.l ∧ IsLg w' gl gd logN (at_ : Int) false ∧ v.heap.size ≤ gl ∧ RecO w' v.heap.size A ys.length c ys ∧ Mod (fun i _ => i = gd ∨ i = bd) v w' ∧ IsD w' gd bd (N + 1) (d.out (mendO d logN ((d.rb logN).length : Nat) at_))) (by
    intro x w' hwo
    unfold WO WOg at hwo
    rcases hwo with hq | hq | ⟨_, rs', at', code', ha', hm, hd, hq⟩
    · have := hq.1; omega
    · exact absurd h0 hq.2.1
    · obtain ⟨rfl, rfl, rfl⟩ := hall.det ha'
      rcases hq with ⟨hq, _⟩ | ⟨_, gl, A, c, ys, e1, rfl, e3, e4, e5⟩
      · exact absurd hmc hq
      · exact ⟨gl, A, c, ys, rfl, e1, e3, e4, e5, hm, hd⟩)
  obtain ⟨d', hd'⟩ : ∃ d', d.out (mendO d logN ((d.rb logN).length : Nat) at_) = d' := ⟨_, rfl⟩
  rw [hd'] at HO
  try rw [hd']
  simp only at HB
  clear h hb h0 hall hmc hd'
  go_enter Tryz.func10, Tryz.ntmps10
  go_upto_region 4 with (((with_reducible refine (HB).mono ?_); rintro z w1 ⟨gst, bst, rfl, hst1, hgb, hbg, hb1⟩))
  have hd1 := H.out.step hb1
  have hne : bst ≠ bd := by omega
  have HO1 := HO w1 hd1
  have hm1 : Mod (fun i _ => i = gd ∨ i = bd) w w1 := (Mod.refl _ w).below hb1
  have hs1 := hb1.size
  clear HB HO hb1 H
  go_upto_region 5 with (((with_reducible refine (HO1).mono ?_); rintro z w2 ⟨gl, A, c, ys, rfl, hrs, hl2, hgl, hrec, hmw, hd2⟩))
  have hst2 := hst1.dk hd1 hmw hne
  have hm2 := hm1.trans hmw
  have hyl : ys.length ≤ M := by
    have := hat.2
    rw [hrs, List.length_map] at this
    omega
  have hyn : ∀ y ∈ ys, y.n ≤ 2000000 := fun y hy => by
    have h1 := (hrec.2 y hy).rd.length
    have h2 := hat.1 y.l (by rw [hrs]; exact List.mem_map.2 ⟨y, hy, rfl⟩)
    omega
  have HRP := replay_any w2 hst2 hrec (by omega) hyn
  unfold RPL at HRP
  rw [← hrs, hrp] at HRP
  simp only at HRP
  have hs2' := hmw.size
  clear hst1 hd1 hm1 hmw HO1 hrec hrs hyn hat hrp
  have HST2 := Lib.hid hst2
  have HL2 := Lib.hid hl2
  have HD2 := Lib.hid hd2
  have HM2 := Lib.hid hm2
  clear hst2 hl2 hd2 hm2
  go_upto_region 9 with (((with_reducible refine (HRP).mono ?_); rintro z w5 ⟨rfl, ⟨Ns, hNs, hst5⟩, hm5'⟩))
  have hd5 := HD2.out.st HST2.out hm5' hne
  have hm5 : Mod (fun i _ => i = gd ∨ i = bd) w w5 := by
    refine HM2.out.step hm5' (N := fun i _ => i = gst ∨ i = bst) (fun i o hi _ e => ?_)
    rcases e with e | e <;> omega
  have HD5 := Lib.hid hd5
  have HM5 := Lib.hid hm5
  clear HRP HST2 HL2 HD2 HM2 hm5' hd5 hm5
  go_wp2_with fail
  exact bodyPost_ret (v := .tuple #[.pointer none, .int .i64 3]) (by simp [results, Tryz.results10, go_sem]) rfl ⟨rfl, HD5.out, HM5.out⟩
end
end Go.Proofs.YtnkjekkdndjfaaaGreat
namespace Go.Proofs.YtnkjekkdndjfaaaGreat
set_option linter.unusedVariables false
set_option linter.unusedSimpArgs false
open Go.RowKit
def M6 (gs gd bd gst bst gl : Nat) : Nat → Obj → Prop := fun i _ => i = gs ∨ i = gl ∨ i = gd ∨ i = bd ∨ i = gst ∨ i = bst
section
variable {w w' : World} {gs gd bd N gst bst Ns gl M K : Nat} {d : PD} {s : SL} {sz ev since : Int} {ld dead : Bool}
/-- the log is turned: the rest stays -/
theorem IsSto.log (h : IsSto w gs gd bd N gst bst Ns gl d s sz ld ev since dead) {N' : Nat} {q : WL} (hm : Mod (fun i _ => i = gl ∨ i = gd ∨ i = bd) w w') (hw : IsW w' gl gd bd N' logN q) : IsSto w' gs gd bd N' gst bst Ns gl q.d s q.sz q.dead ev since dead := by
  obtain ⟨l0, _, h2⟩ := id h.dk
  have n1 : ¬ gs = gl := At.ne h.blk h.lg (by decide)
  have n2 := h.dk.freeAt h.blk (by decide)
  have n3 : ¬ gst = gl := At.ne h.st.at_ h.lg (by decide)
  have n4 := h.dk.freeAt h.st.at_ (by decide)
  have n5 := h.st.mp.ne_at h.lg
  have n6 := h.st.mp.ne_at h2.at_
  have n7 := h.ne
  exact ⟨hm.at h.blk (by omega), hw.dk, h.st.mod hm (fun o => by omega) (fun o => by omega), hw.lg, h.ne⟩
/-- the store's own block is turned -/
theorem IsSto.own (h : IsSto w gs gd bd N gst bst Ns gl d s sz ld ev since dead) {since' : Int} {dead' : Bool} (hm : Mod (fun i _ => i = gs) w w') (hb : At w' gs 107 [.pointer (some ⟨gd, 0, none⟩), .pointer (some ⟨gst, 0, none⟩), .pointer (some ⟨gl, 0, none⟩), .int .i64 ev, .int .i64 since', .bool dead']) : IsSto w' gs gd bd N gst bst Ns gl d s sz ld ev since' dead' :=
  ⟨hb, h.dk.other h.blk (by decide) (by decide) hm, h.st.cell h.blk (by decide) hm, hm.at h.lg (At.ne h.lg h.blk (by decide)), h.ne⟩
/-- the state is turned -/
theorem IsSto.sta (h : IsSto w gs gd bd N gst bst Ns gl d s sz ld ev since dead) {s' : SL} {Ns' : Nat} (hm : Mod (fun i _ => i = gst ∨ i = bst) w w') (hs : IsSt w' gst bst Ns' s'.rev s'.l) : IsSto w' gs gd bd N gst bst Ns' gl d s' sz ld ev since dead :=
  ⟨At.st h.blk h.st hm (by decide), h.dk.st h.st hm h.ne, hs, At.st h.lg h.st hm (by decide), h.ne⟩
set_option maxRecDepth 100000 in
set_option maxHeartbeats 4000000 in
theorem swrite_ok (e : Eff) (w : World) (h : IsSto w gs gd bd N gst bst Ns gl d s sz ld ev since dead) (ho : d.Ok M K) (hM : M ≤ 100000000) (hN : N < 800000) (hNs : Ns < 800000) (hsz : 0 ≤ sz ∧ sz ≤ 1099511627776) (hsi : 0 ≤ since ∧ since ≤ 1000000) (hri : e.right) (hrv : e.r < 9223372036854775808) (hap : apOk s.rev s.l e = true) (hc : (waP ⟨d, sz, ld⟩ logN (effL e)).1 = 0) :
    Calls Tryz.prog 44 #[.pointer (some ⟨gs, 0, none⟩), e.val] w fun x w' => x = .returned (.bool true) ∧ Mod (M6 gs gd bd gst bst gl) w w' ∧
      IsSto w' gs gd bd (N + 2) gst bst (Ns + 1) gl (waP ⟨d, sz, ld⟩ logN (effL e)).2.d ⟨e.r, applyL e.it e.g s.l⟩ (waP ⟨d, sz, ld⟩ logN (effL e)).2.sz (waP ⟨d, sz, ld⟩ logN (effL e)).2.dead ev (since + 1) dead := by
  have HWA := fun (A : Option Addr) (n c : Nat) (v : World) (h : IsW v gl gd bd N logN ⟨d, sz, ld⟩) (hr : RdB v v.heap.size A n c (effL e)) (hn : n ≤ 1048576) => wapp_any ⟨d, sz, ld⟩ logN_hi A n c (effL e) v h ho hM (by omega) hr hn hsz
  obtain ⟨o, ho2⟩ : ∃ o, waP ⟨d, sz, ld⟩ logN (effL e) = o := ⟨_, rfl⟩
  rw [ho2] at HWA hc ⊢
  obtain ⟨oc, q⟩ := o
  simp only at hc
  subst hc
  unfold WP at HWA
  simp only at HWA ⊢
  have hk1 := hri.2.1
  have hv1 := hri.2.2.1
  have HAP := fun v (hs : IsSt v gst bst Ns s.rev s.l) => apply_any e.k e.v e.r e.g v hs (by omega) (by simp only [maxLen]; omega)
  unfold ApR at HAP
  have hap2 : apOk s.rev s.l ⟨e.k, e.v, e.r, e.g⟩ = true := hap
  simp only [hap2, if_true] at HAP
  have HPUT := fun v => eput_ok e v hri hrv
  clear ho2 ho hap hap2
  obtain ⟨ek, evv, er, eg⟩ := e
  unfold Eff.val Eff.cells at HPUT ⊢
  unfold Eff.it at HAP ⊢
  simp only at HPUT HAP HWA hk1 hv1 ⊢
  obtain ⟨h3, hb3⟩ := one_at w 115 [.string ek, .string evv, .int .i64 er, .bool eg]
  replace h := h.step hb3
  have hm : Mod (M6 gs gd bd gst bst gl) w _ := (Mod.refl _ w).below hb3
  clear hb3 hri
  go_enter Tryz.func44, Tryz.ntmps44
  go_upto_region 1 with fail
  generalize World.alloc w _ = w1 at *
  generalize w.heap.size = g3 at *
  obtain ⟨⟨y0, y1, y2, y3⟩, yf⟩ := at4 h3
  have HP1 := HPUT w1
  go_upto_region 2 with (((with_reducible refine (HP1).mono ?_); rintro z w2 ⟨A2, c2, rfl, hown, hb2⟩))
  replace h := h.step hb2
  replace hm := hm.below hb2
  replace h3 := h3.step hb2
  have hrd := hown.rd
  clear HP1 HPUT hown hb2 y0 y1 y2 y3 yf
  obtain ⟨⟨x0, x1, x2, x3, x4, x5⟩, xf⟩ := at6 h.blk
  have HW2 := HWA A2 _ c2 w2 ⟨h.lg, h.dk⟩ hrd (by omega)
  go_upto_region 4 with (((with_reducible refine (HW2).mono ?_); rintro z w3 ⟨rfl, hm3, hw3⟩))
  have n1 : ¬ g3 = gl := At.ne h3 h.lg (by decide)
  have n2 := h.dk.freeAt h3 (by decide)
  replace h3 := hm3.at h3 (by omega)
  replace h := h.log hm3 hw3
  replace hm := hm.trans (hm3.mono (M := M6 gs gd bd gst bst gl) fun i o _ _ e => by unfold M6; omega)
  clear HW2 HWA hm3 hw3 hrd x0 x1 x2 x3 x4 x5 xf n1 n2
  go_upto_region 7 with fail
  refine region_any (by kernel_rfl) ?_
  change wpAny _ _ _ _ _ _ _ (World.drew _)
  replace h := h.drew
  replace hm := hm.drew
  replace h3 := At.drew h3
  generalize World.drew _ = w4 at *
  obtain ⟨⟨x0, x1, x2, x3, x4, x5⟩, xf⟩ := at6 h.blk
  obtain ⟨⟨y0, y1, y2, y3⟩, yf⟩ := at4 h3
  have l1 := h.blk.lt
  have l3 := h3.lt
  refine stage 5 ?_
  refine tag [0,1,2,3,4] ?_
  iterate 5 (
    refine sR (v := ?_) rfl (by kernel_rfl) (fun _ _ _ h => h) (Or.inl ⟨by kernel_rfl, ?_⟩) ?_
    rotate_left
    · (intro wS hwS; obtain ⟨hcS, hfS, hhS⟩ := bcell hwS; go_simp; try (first | (with_reducible rfl) | rw [if_pos (by omega)] | rw [if_neg (by omega)]))
    try simp only [PT])
  refine tagN ?_
  refine stage_end (by kernel_rfl) rfl (fun K hK => ?_)
  go_simp
  refine (HAP w4 h.st).mono ?_
  rintro z w5 ⟨rfl, hst5, hm5⟩
  refine hK.out _ _ ?_
  clear hK K
  try simp only [PT]
  first | refine wpAnyT_done (by kernel_rfl) ?_ _ | refine wpAny_done (by kernel_rfl) ?_ _
  replace h := h.sta (s' := ⟨er, applyL ⟨ek, evv, er⟩ eg s.l⟩) hm5 hst5
  replace hm := hm.trans (hm5.mono (M := M6 gs gd bd gst bst gl) fun i o _ _ e => by unfold M6; omega)
  clear HAP hst5 hm5 x0 x1 x2 x3 x4 x5 xf y0 y1 y2 y3 yf l1 l3 h3
  obtain ⟨h7, hG7⟩ := At.many [(4, .int .i64 (since + 1))] h.blk
  dsimp only [setMany, setL, List.set] at h7 hG7
  have hm7 := mod_one hG7
  have hf := Lib.hid (h.own hm7 h7)
  have HM := Lib.hid (hm.trans (hm7.mono (M := M6 gs gd bd gst bst gl) fun i o _ _ e => by unfold M6; omega))
  obtain ⟨⟨x0, x1, x2, x3, x4, x5⟩, xf0, xf1, xf2, xf3, xf4, xf5⟩ := at6 h.blk
  have hw1 : IntKind.i64.wrap (since + 1) = since + 1 := IntWalk.i64_in _ (by omega)
  clear h hm h7 hG7 hm7
  go_wp2_with fail
  go_ret
  exact ⟨rfl, HM.out, hf.out⟩
set_option maxRecDepth 100000 in
set_option maxHeartbeats 4000000 in
theorem swrite_lost (e : Eff) (w : World) (h : IsSto w gs gd bd N gst bst Ns gl d s sz ld ev since dead) (ho : d.Ok M K) (hM : M ≤ 100000000) (hN : N < 800000) (hsz : 0 ≤ sz ∧ sz ≤ 1099511627776) (hri : e.right) (hrv : e.r < 9223372036854775808) {q : WL} {c : Int} (hc0 : c ≠ 0) (hc : waP ⟨d, sz, ld⟩ logN (effL e) = (c, q)) :
    Calls Tryz.prog 44 #[.pointer (some ⟨gs, 0, none⟩), e.val] w fun x w' => x = .returned (.bool false) ∧ Mod (M6 gs gd bd gst bst gl) w w' ∧
      IsSto w' gs gd bd (N + 2) gst bst Ns gl q.d s q.sz q.dead ev since true := by
  have HWA := fun (A : Option Addr) (n c : Nat) (v : World) (h : IsW v gl gd bd N logN ⟨d, sz, ld⟩) (hr : RdB v v.heap.size A n c (effL e)) (hn : n ≤ 1048576) => wapp_any ⟨d, sz, ld⟩ logN_hi A n c (effL e) v h ho hM (by omega) hr hn hsz
  rw [hc] at HWA
  unfold WP at HWA
  simp only at HWA
  have hk1 := hri.2.1
  have hv1 := hri.2.2.1
  have HPUT := fun v => eput_ok e v hri hrv
  clear ho hc
  have hc1 : (c != 0) = true := by simpa using hc0
  have hc2 : (c == 0) = false := by simpa using hc0
  obtain ⟨ek, evv, er, eg⟩ := e
  unfold Eff.val Eff.cells at HPUT ⊢
  simp only at HPUT HWA hk1 hv1 ⊢
  obtain ⟨h3, hb3⟩ := one_at w 115 [.string ek, .string evv, .int .i64 er, .bool eg]
  replace h := h.step hb3
  have hm : Mod (M6 gs gd bd gst bst gl) w _ := (Mod.refl _ w).below hb3
  clear hb3 hri
  go_enter Tryz.func44, Tryz.ntmps44
  go_upto_region 1 with fail
  generalize World.alloc w _ = w1 at *
  generalize w.heap.size = g3 at *
  obtain ⟨⟨y0, y1, y2, y3⟩, yf⟩ := at4 h3
  have HP1 := HPUT w1
  go_upto_region 2 with (((with_reducible refine (HP1).mono ?_); rintro z w2 ⟨A2, c2, rfl, hown, hb2⟩))
  replace h := h.step hb2
  replace hm := hm.below hb2
  replace h3 := h3.step hb2
  have hrd := hown.rd
  clear HP1 HPUT hown hb2 y0 y1 y2 y3 yf
  obtain ⟨⟨x0, x1, x2, x3, x4, x5⟩, xf⟩ := at6 h.blk
  have HW2 := HWA A2 _ c2 w2 ⟨h.lg, h.dk⟩ hrd (by omega)
  go_upto_region 5 with (((with_reducible refine (HW2).mono ?_); rintro z w3 ⟨rfl, hm3, hw3⟩))
  replace h := h.log hm3 hw3
  replace hm := hm.trans (hm3.mono (M := M6 gs gd bd gst bst gl) fun i o _ _ e => by unfold M6; omega)
  clear HW2 HWA hm3 hw3 hrd x0 x1 x2 x3 x4 x5 xf h3
  obtain ⟨h7, hG7⟩ := At.many [(5, .bool true)] h.blk
  dsimp only [setMany, setL, List.set] at h7 hG7
  have hm7 := mod_one hG7
  have hf := Lib.hid (h.own hm7 h7)
  have HM := Lib.hid (hm.trans (hm7.mono (M := M6 gs gd bd gst bst gl) fun i o _ _ e => by unfold M6; omega))
  obtain ⟨⟨x0, x1, x2, x3, x4, x5⟩, xf0, xf1, xf2, xf3, xf4, xf5⟩ := at6 h.blk
  clear h hm h7 hG7 hm7
  go_wp2_with fail
  go_ret
  exact ⟨rfl, HM.out, hf.out⟩
end
end Go.Proofs.YtnkjekkdndjfaaaGreat
namespace Go.Proofs.YtnkjekkdndjfaaaGreat
set_option linter.unusedVariables false
set_option linter.unusedSimpArgs false
open Go.RowKit
section
variable {w w' : World} {gs gst bst Ns : Nat} {p1 p2 : Option Addr} {ev since : Int} {dead : Bool} {rev : Int} {l : List It}
theorem sall_any (w : World) (h : At w gs 107 [.pointer p1, .pointer (some ⟨gst, 0, none⟩), .pointer p2, .int .i64 ev, .int .i64 since, .bool dead]) (hst : IsSt w gst bst Ns rev l) (hN : Ns ≤ 1000000) (hk : ∀ x ∈ l, x.k.size ≤ 1000) :
    Calls Tryz.prog 12 #[.pointer (some ⟨gs, 0, none⟩)] w fun x w' => ∃ A n c, x = .returned (.slice A n c) ∧ OwnI w' w.heap.size A n c l ∧ Below w.heap.size w w' := by
  obtain ⟨⟨x0, x1, x2, x3, x4, x5⟩, xf⟩ := at6 h
  have HA := all_any w hst hN hk
  clear h
  go_enter Tryz.func12, Tryz.ntmps12
  go_wp2_with (((with_reducible refine (HA).mono ?_); rintro z v ⟨A, n, c, rfl, hown, hb⟩))
  go_ret
  exact ⟨A, n, c, rfl, hown, hb⟩
theorem srev_any (w : World) (h : At w gs 107 [.pointer p1, .pointer (some ⟨gst, 0, none⟩), .pointer p2, .int .i64 ev, .int .i64 since, .bool dead]) (hst : IsSt w gst bst Ns rev l) :
    Calls Tryz.prog 13 #[.pointer (some ⟨gs, 0, none⟩)] w fun x w' => x = .returned (.int .i64 rev) ∧ w = w' := by
  obtain ⟨⟨x0, x1, x2, x3, x4, x5⟩, xf⟩ := at6 h
  have HA := rev_any w hst
  clear h
  go_enter Tryz.func13, Tryz.ntmps13
  go_wp2_with (((with_reducible refine (HA).mono ?_); rintro z v ⟨rfl, rfl⟩))
  go_ret
  exact ⟨rfl, rfl⟩
end
theorem slog_any {gs : Nat} {p0 p1 p2 : Option Addr} {ev since : Int} {dead : Bool} (w : World) (h : At w gs 107 [.pointer p0, .pointer p1, .pointer p2, .int .i64 ev, .int .i64 since, .bool dead]) :
    Calls Tryz.prog 24 #[.pointer (some ⟨gs, 0, none⟩)] w fun x w' => x = .returned (.int .i64 since) ∧ w = w' := by
  obtain ⟨⟨x0, x1, x2, x3, x4, x5⟩, xf⟩ := at6 h
  clear h
  go_enter Tryz.func24, Tryz.ntmps24
  go_wp2_with fail
  go_ret
  exact ⟨rfl, rfl⟩
end Go.Proofs.YtnkjekkdndjfaaaGreat
namespace Go.Proofs.YtnkjekkdndjfaaaGreat
set_option linter.unusedVariables false
set_option linter.unusedSimpArgs false
open Go.RowKit
theorem rightF_of11 {rev : Int} : ∀ {l : List It} {p : Option It}, Asc l → (∀ x ∈ l, itOk rev x = true) → (∀ y, p = some y → ∀ x ∈ l, kless y.k x.k = true) → rightF rev p l = true
  | [], _, _, _, _ => rfl
  | x :: l, p, ha, hx, hp => by
    unfold Asc at ha
    rw [List.pairwise_cons] at ha
    have h1 : aheadOk p x = true := by
      cases p with
      | none => rfl
      | some y => exact hp y rfl x (by simp)
    rw [rightF, hx x (by simp), h1, rightF_of11 (p := some x) ha.2 (fun y hy => hx y (by simp [hy])) (fun y e z hz => by injection e with e; subst e; exact ha.1 z hz)]
    rfl
theorem right11 {rev : Int} {l : List It} {n : Nat} (h : Inv9 rev l n) : rightL rev l = true := by
  unfold rightL
  rw [rightF_of11 h.asc (fun x hx => ?_) (fun _ e => by cases e), decide_eq_true h.lo]
  · rfl
  · obtain ⟨a, b, c, d⟩ := h.ok x hx
    unfold itOk
    rw [(keyB_iff x.k).2 a, decide_eq_true b, decide_eq_true c, decide_eq_true d]
    rfl
/-- a state behind at most n things asked, all short -/
structure SI (s : SL) (n : Nat) : Prop where
  inv : Inv9 s.rev s.l n
  val : ∀ x ∈ s.l, x.v.size ≤ 100
  cnt : s.l.length ≤ n
theorem SI.more {s : SL} {n m : Nat} (h : SI s n) (hm : n ≤ m) : SI s m := ⟨h.inv.more hm, h.val, Nat.le_trans h.cnt hm⟩
theorem SI.ks {s : SL} {n : Nat} (h : SI s n) : Ks s := fun x hx => (keyB_iff x.k).2 (h.inv.ok x hx).1
theorem SI.small {s : SL} {n : Nat} (h : SI s n) (hn : n ≤ 1000) : ∀ x ∈ s.l, smallI x := fun x hx => by
  obtain ⟨a, b, c, d⟩ := h.inv.ok x hx
  have := h.inv.hi
  exact ⟨a.2, b, by omega, by omega⟩
theorem flat_le {l : List It} (h : ∀ x ∈ l, (itemL x).length ≤ 244) : (l.flatMap itemL).length ≤ l.length * 244 := by
  induction l with
  | nil => simp
  | cons x l ih =>
    have h1 := h x (by simp)
    have h2 := ih (fun y hy => h y (by simp [hy]))
    rw [List.flatMap_cons, List.length_append, List.length_cons]
    omega
theorem SI.len {s : SL} {n : Nat} (h : SI s n) : (stL s.rev s.l).length ≤ 12 + n * 244 := by
  have h1 := flat_le (l := s.l) (fun x hx => by
    have a := (h.inv.ok x hx).1
    have b := h.val x hx
    rw [itemL_length]
    omega)
  have h2 := h.cnt
  have h3 : s.l.length * 244 ≤ n * 244 := Nat.mul_le_mul_right _ h2
  unfold stL
  rw [List.length_append, List.length_append, putN_length, putN_length]
  omega
theorem applyL_le {l : List It} (e : It) (g : Bool) (h : Asc l) : (applyL e g l).length ≤ l.length + 1 := by
  have h1 := applyL_length e g h
  have h2 : (if g then 0 else 1) ≤ 1 := by split <;> omega
  omega
theorem SI.step {s : SL} {n : Nat} (h : SI s n) (hn : n ≤ 1000) {o : Ask} (hv : o.val.size ≤ 100) (hw : (planP s.rev s.l o).wr = true) :
    SI ⟨(planP s.rev s.l o).eff.r, applyL (planP s.rev s.l o).eff.it (planP s.rev s.l o).eff.g s.l⟩ (n + 1) ∧ (planP s.rev s.l o).eff.right ∧ (planP s.rev s.l o).eff.r < 9223372036854775808 ∧ apOk s.rev s.l (planP s.rev s.l o).eff = true ∧ (effL (planP s.rev s.l o).eff).length ≤ 245 := by
  have hlo := h.inv.lo
  have hhi := h.inv.hi
  have h2 := h.inv.step (by omega) o
  have hap := plan_ap hw hlo (by omega)
  unfold doSt at h2
  rw [hw, hap] at h2
  simp only [Bool.and_self, if_true] at h2
  obtain ⟨a1, a2, a3, a4⟩ := plan_wr hw
  obtain ⟨b1, b2, b3, b4, _⟩ := may_zero a3
  have hk := (keyB_iff _).1 b1
  have hinc := inc_small hlo (by omega)
  have hval : (if o.kind = 5 then (⟨#[]⟩ : ByteArray) else o.val).size ≤ 100 := by
    split
    · exact Nat.zero_le _
    · exact hv
  rw [a4] at h2 hap ⊢
  simp only at h2 hap ⊢
  refine ⟨⟨h2, ?_, ?_⟩, ?_, by rw [hinc]; omega, hap, ?_⟩
  · intro x hx
    rcases applyL_mem h.inv.asc hx with rfl | hx
    · exact hval
    · exact h.val x hx
  · have h5 := applyL_le (Eff.it ⟨o.key, if o.kind = 5 then ⟨#[]⟩ else o.val, inc s.rev, decide (o.kind = 5)⟩) (decide (o.kind = 5)) h.inv.asc
    have h6 := h.cnt
    exact Nat.le_trans h5 (by omega)
  · refine ⟨hk.1, hk.2, Nat.le_trans hval (by omega), by simp only; rw [hinc]; omega, fun hg => ?_⟩
    have h5 : o.kind = 5 := of_decide_eq_true hg
    simp only
    rw [if_pos h5]
    rfl
  · rw [effL_length]
    simp only
    omega
theorem bs_put {d : PD} {s : SL} {n : Nat} (hl : d.lost = false) (hs : SI s n) (hn : n ≤ 1000) (h : findF d.fs snapN = some ⟨snapN, slL (stL s.rev s.l), none, 0, 0, ((slL (stL s.rev s.l)).length : Int)⟩) : bsC d = 0 ∧ bsS d = s := by
  obtain ⟨h1, h2⟩ := ld_sure hl h
  have hr := right11 hs.inv
  have hi := hs.inv.hi
  have hc := hs.cnt
  have h3 := okS_put hr (by omega) (by omega)
  have h4 := rdS_put hr (by omega) (by omega)
  unfold bsC bsS
  rw [h1, h2, if_pos rfl, if_pos rfl, h3, h4]
  exact ⟨rfl, rfl⟩
end Go.Proofs.YtnkjekkdndjfaaaGreat
