
/- Chapter 7: the document's log. -/
import Derived.Test.YtnkjekkdndjfaaaGreatWalA
import Derived.Test.YtnkjekkdndjfaaaGreatFrA
namespace Go.Proofs.YtnkjekkdndjfaaaGreat
set_option linter.unusedVariables false
set_option linter.unusedSimpArgs false
open Go.RowKit
/-- the document's log's block -/
def IsRl (w : World) (gq gr : Nat) (nm : ByteArray) (sz : Int) (dead : Bool) : Prop := At w gq 168 [.pointer (some ⟨gr, 0, none⟩), .string nm, .int .i64 sz, .bool dead]
structure IsV (w : World) (gq gr : Nat) (nm : ByteArray) (s : WL) : Prop where
  lg : IsRl w gq gr nm (if s.dead then 0 else s.sz) s.dead
  dk : IsR w gr s.d
def VP (w w' : World) (gq gr : Nat) (nm : ByteArray) (o : Int × WL) (x : Ending) : Prop := x = .returned (.int .i64 o.1) ∧ Mod (fun i _ => i = gq ∨ i = gr) w w' ∧ IsV w' gq gr nm o.2
def ROg (w w' : World) (gr : Nat) (nm : ByteArray) (d : PD) (rc : Int) (rb : List UInt8) (x : Ending) : Prop :=
  (rc = 6 ∧ ∃ gq, x = .returned (.tuple #[.pointer (some ⟨gq, 0, none⟩), .slice none 0 0, .int .i64 0]) ∧ IsRl w' gq gr nm 0 false ∧ w.heap.size ≤ gq ∧ Below w.heap.size w w')
  ∨ (rc ≠ 6 ∧ rc ≠ 0 ∧ x = .returned (.tuple #[.pointer none, .slice none 0 0, .int .i64 rc]) ∧ Below w.heap.size w w')
  ∨ (rc = 0 ∧ ∃ rs at_ code, AllR rb rs at_ code ∧ Mod (fun i _ => i = gr) w w' ∧ IsR w' gr (d.out (mendO d nm (rb.length : Nat) at_)) ∧
      (((mendO d nm (rb.length : Nat) at_).code ≠ 0 ∧ x = .returned (.tuple #[.pointer none, .slice none 0 0, .int .i64 (mendO d nm (rb.length : Nat) at_).code])) ∨
       ((mendO d nm (rb.length : Nat) at_).code = 0 ∧ ∃ gq A c ys, rs = ys.map Bsl.l ∧ x = .returned (.tuple #[.pointer (some ⟨gq, 0, none⟩), .slice A ys.length c, .int .i64 0]) ∧ IsRl w' gq gr nm (at_ : Int) false ∧ w.heap.size ≤ gq ∧ RecS w' w.heap.size A ys.length c ys)))
def RO (w w' : World) (gr : Nat) (nm : ByteArray) (d : PD) (x : Ending) : Prop := ROg w w' gr nm d (d.rc nm) (d.rb nm) x
section
variable {gq gr M K : Nat} {d : PD} {nm : ByteArray} {sz : Int} {dead : Bool}
theorem rlg_keep {w w' : World} (h : IsRl w gq gr nm sz dead) (hd : IsR w gr d) (hm : Mod (fun i _ => i = gr) w w') : IsRl w' gq gr nm sz dead := hm.at h (hd.freeAt h (by decide))
theorem rlg_mod {w w' : World} (h : w.grownBy w' (some gq)) : Mod (fun i _ => i = gq ∨ i = gr) w w' := (mod_one h).mono fun i o _ _ e => .inl e
theorem rlg_mod2 {w w' : World} (h : Mod (fun i _ => i = gr) w w') : Mod (fun i _ => i = gq ∨ i = gr) w w' := h.mono fun i o _ _ e => .inr e
set_option maxHeartbeats 2000000 in
theorem rclear_any (s : WL) (w : World) (h : IsV w gq gr nm s) (ho : s.d.Ok M K) (hM : M ≤ 100000000) (hK : K ≤ 1000000) :
    Calls Tryz.prog 55 #[.pointer (some ⟨gq, 0, none⟩)] w fun x w' => VP w w' gq gr nm (wcP s nm) x := by
  obtain ⟨d, sz, dead⟩ := s
  obtain ⟨hl, hd⟩ := h
  simp only at hl hd ho
  unfold wcP
  simp only
  cases dead with
  | true =>
    replace hl : IsRl w gq gr nm 0 true := hl
    obtain ⟨⟨x0, x1, x2, x3⟩, xf0, xf1, xf2, xf3⟩ := at4 hl
    have HL := Lib.hid hl
    have HD := Lib.hid hd
    clear hl hd
    rw [if_pos rfl]
    go_enter Tryz.func55, Tryz.ntmps55
    go_wp2_with fail
    go_ret
    exact ⟨rfl, Mod.refl _ _, ⟨HL.out, HD.out⟩⟩
  | false =>
    replace hl : IsRl w gq gr nm sz false := hl
    obtain ⟨⟨x0, x1, x2, x3⟩, xf0, xf1, xf2, xf3⟩ := at4 hl
    rw [if_neg Bool.false_ne_true]
    have HC := fun v (h : IsR v gr d) => rd_cu nm 0 v h ho hM hK
    obtain ⟨o, hoo⟩ : ∃ o, d.cuO nm 0 = o := ⟨_, rfl⟩
    rw [hoo]
    simp only [hoo] at HC
    clear hoo ho
    have hm0 : Mod (fun i _ => i = gq ∨ i = gr) w w := Mod.refl _ w
    go_enter Tryz.func55, Tryz.ntmps55
    go_upto_region 3 with fail
    refine region_any (by kernel_rfl) ?_
    change wpAny _ _ _ _ _ _ _ (World.drew _)
    replace hm0 := hm0.drew
    replace hl : IsRl _ gq gr nm sz false := At.drew hl
    replace hd := hd.drew
    skip
    clear x0 x1 x2 x3 xf0 xf1 xf2 xf3
    generalize World.drew _ = w2 at *
    obtain ⟨⟨x0, x1, x2, x3⟩, xf0, xf1, xf2, xf3⟩ := at4 hl
    have l4 := hl.lt
    refine stage 8 ?_
    refine tag [0,1,2,3,4,5,6,7] ?_
    iterate 8 (
      refine sR (v := ?_) rfl (by kernel_rfl) (fun _ _ _ h => h) (Or.inl ⟨by kernel_rfl, ?_⟩) ?_
      rotate_left
      · (intro wS hwS; obtain ⟨hcS, hfS, hhS⟩ := bcell hwS; go_simp; try (first | (with_reducible rfl) | rw [if_pos (by omega)] | rw [if_neg (by omega)]))
      try simp only [PT])
    refine tagN ?_
    refine stage_end (by kernel_rfl) rfl (fun K hK => ?_)
    go_simp
    refine (HC _ hd).mono ?_
    rintro z v3 ⟨rfl, hm2, hd2⟩
    refine hK.out _ _ ?_
    clear hK K
    try simp only [PT]
    first | refine stage 1000000 ?_ | skip
    refine tag [9] ?_
    refine sR (v := ?_) rfl (by kernel_rfl) (fun _ _ _ h => h) (Or.inl ⟨by kernel_rfl, ?_⟩) ?_
    rotate_left
    · (intro wS hwS; obtain ⟨hcS, hfS, hhS⟩ := bcell hwS; go_simp; try (first | (with_reducible rfl) | rw [if_pos (by omega)] | rw [if_neg (by omega)]))
    try simp only [PT]
    refine tagN ?_
    first | refine wpAnyT_done (by kernel_rfl) ?_ _ | refine wpAny_done (by kernel_rfl) ?_ _
    replace hl := rlg_keep hl hd hm2
    replace hm0 := hm0.trans (rlg_mod2 (gq := gq) hm2)
    clear x0 x1 x2 x3 xf0 xf1 xf2 xf3 l4 hd hm2 HC
    replace hd := hd2
    clear hd2
    obtain ⟨⟨x0, x1, x2, x3⟩, xf0, xf1, xf2, xf3⟩ := at4 hl
    obtain ⟨oc, ocr, olo, olf⟩ := o
    simp only at hd ⊢
    by_cases ok : oc = 0 ∨ oc = 6
    · obtain ⟨h5, hG5⟩ := At.many [(2, .int .i64 0)] hl
      dsimp only [setMany, setL, List.set] at h5 hG5
      have HM5 := Lib.hid (hm0.trans (rlg_mod (gr := gr) hG5))
      have HD5 := Lib.hid (hd.other hl (by decide) (by decide) (mod_one hG5))
      have H5 := Lib.hid h5
      clear hl hd hm0 hG5 h5
      rcases ok with rfl | rfl
      · go_wp2_with fail
        go_ret
        exact ⟨rfl, HM5.out, ⟨H5.out, HD5.out⟩⟩
      · go_wp2_with fail
        go_ret
        exact ⟨rfl, HM5.out, ⟨H5.out, HD5.out⟩⟩
    · have OK := Lib.hid ok
      have ok0 : (oc == 0) = false := by simpa using (not_or.1 ok).1
      have ok6 : (oc == 6) = false := by simpa using (not_or.1 ok).2
      have ne0 : ¬ oc = 0 := (not_or.1 ok).1
      have ne6 : ¬ oc = 6 := (not_or.1 ok).2
      have nb0 : (oc != 0) = true := by simpa using ne0
      have nb6 : (oc != 6) = true := by simpa using ne6
      clear ok
      have HL := Lib.hid hl
      have HD := Lib.hid hd
      have HM := Lib.hid hm0
      obtain ⟨h5, hG5⟩ := At.many [(3, .bool true), (2, .int .i64 0)] hl
      dsimp only [setMany, setL, List.set] at h5 hG5
      have HM5 := Lib.hid (hm0.trans (rlg_mod (gr := gr) hG5))
      have HD5 := Lib.hid (hd.other hl (by decide) (by decide) (mod_one hG5))
      have H5 := Lib.hid h5
      clear hl hd hm0 hG5 h5
      go_wp2_with fail
      go_ret
      first | exact ⟨rfl, HM5.out, ⟨H5.out, HD5.out⟩⟩ | (rw [if_neg OK.out]; exact ⟨rfl, HM5.out, ⟨H5.out, HD5.out⟩⟩)
set_option maxRecDepth 100000 in
set_option maxHeartbeats 2000000 in
theorem rwapp_any (s : WL) (A : Option Addr) (n c : Nat) (p : List UInt8) (w : World) (h : IsV w gq gr nm s) (hk : nm.size ≤ maxLen) (ho : s.d.Ok M K) (hM : M ≤ 90000000) (hK : K ≤ 900000) (hr : RdB w w.heap.size A n c p) (hn : n ≤ 1048576) (hsz : 0 ≤ s.sz ∧ s.sz ≤ 1099511627776) :
    Calls Tryz.prog 51 #[.pointer (some ⟨gq, 0, none⟩), .slice A n c] w fun x w' => VP w w' gq gr nm (waP s nm p) x := by
  obtain ⟨d, sz, dead⟩ := s
  obtain ⟨hl, hd⟩ := h
  simp only at hl hd ho hsz
  have hpn := hr.length
  unfold waP
  simp only
  cases dead with
  | true =>
    replace hl : IsRl w gq gr nm 0 true := hl
    obtain ⟨⟨x0, x1, x2, x3⟩, xf0, xf1, xf2, xf3⟩ := at4 hl
    have HL := Lib.hid hl
    have HD := Lib.hid hd
    clear hl hd
    rw [if_pos rfl]
    go_enter Tryz.func51, Tryz.ntmps51
    go_wp2_with fail
    go_ret
    exact ⟨rfl, Mod.refl _ _, ⟨HL.out, HD.out⟩⟩
  | false =>
    replace hl : IsRl w gq gr nm sz false := hl
    obtain ⟨⟨x0, x1, x2, x3⟩, xf0, xf1, xf2, xf3⟩ := at4 hl
    rw [if_neg Bool.false_ne_true]
    by_cases hn0 : n = 0
    · subst hn0
      rw [if_pos hpn]
      have HL := Lib.hid hl
      have HD := Lib.hid hd
      clear hl hd
      go_enter Tryz.func51, Tryz.ntmps51
      go_wp2_with fail
      go_ret
      exact ⟨rfl, Mod.refl _ _, ⟨HL.out, HD.out⟩⟩
    · rw [if_neg (by omega)]
      have HPUT := rput5 A n c p w hr hn
      have hfl : (frameL p).length = 8 + n := by rw [frameL_length, hpn]
      have HA := fun (v : World) (h : IsR v gr d) => rd_ap nm (frameL p) v h ho (by omega) (by omega) (by omega)
      have ho2 : (d.out (d.apO nm (frameL p))).Ok 100000000 1000000 := (ok_ap ho nm hk (frameL p)).mono (by omega) (by omega)
      unfold laO
      obtain ⟨o1, ho1⟩ : ∃ o1, d.apO nm (frameL p) = o1 := ⟨_, rfl⟩
      rw [ho1] at ho2
      have HS := fun (v : World) (h : IsR v gr (d.out o1)) => rd_sy nm v h ho2 (by omega)
      obtain ⟨o2, ho2'⟩ : ∃ o2, (d.out o1).syO nm = o2 := ⟨_, rfl⟩
      simp only [ho1, ho2'] at HA HS ⊢
      rw [hpn]
      clear ho1 ho2' ho ho2 hfl
      have d1 : decide ((n : Int) < 1) = false := decide_eq_false (by omega)
      have d2 : decide (1048576 < (n : Int)) = false := decide_eq_false (by omega)
      have d3 : 1 ≤ n := by omega
      go_enter Tryz.func51, Tryz.ntmps51
      go_upto_region 6 with (((with_reducible refine (HPUT).mono ?_); rintro z w1 ⟨A2, c2, rfl, hown, hb1⟩))
      have hm0 : Mod (fun i _ => i = gq ∨ i = gr) w w1 := (Mod.refl _ w).below hb1
      replace hl : IsRl w1 gq gr nm sz false := hl.step hb1
      replace hd := hd.step hb1
      have hrd := hown.rd
      clear hown hb1 HPUT x0 x1 x2 x3 xf0 xf1 xf2 xf3 hr
      obtain ⟨⟨x0, x1, x2, x3⟩, xf0, xf1, xf2, xf3⟩ := at4 hl
      go_upto_region 6 with fail
      refine region_any (by kernel_rfl) ?_
      change wpAny _ _ _ _ _ _ _ (World.drew _)
      replace hm0 := hm0.drew
      replace hl : IsRl _ gq gr nm sz false := At.drew hl
      replace hd := hd.drew
      have hcv := fun (wS : World) (hb : Below (World.drew w1).heap.size (World.drew w1) wS) => conv_str ((hrd.step (Below.drew (Below.refl _ _))).step hb)
      clear x0 x1 x2 x3 xf0 xf1 xf2 xf3
      generalize World.drew _ = w2 at *
      obtain ⟨⟨x0, x1, x2, x3⟩, xf0, xf1, xf2, xf3⟩ := at4 hl
      have l4 := hl.lt
      refine stage 10 ?_
      refine tag [0,1,2,3,4,5,6,7,8,9] ?_
      iterate 10 (
        refine sR (v := ?_) rfl (by kernel_rfl) (fun _ _ _ h => h) (Or.inl ⟨by kernel_rfl, ?_⟩) ?_
        rotate_left
        · (intro wS hwS; obtain ⟨hcS, hfS, hhS⟩ := bcell hwS; go_simp; try (first | (with_reducible rfl) | rw [if_pos (by omega)] | rw [if_neg (by omega)]))
        try simp only [PT])
      refine tagN ?_
      refine stage_end (by kernel_rfl) rfl (fun K hK => ?_)
      go_simp
      refine (HA _ hd).mono ?_
      rintro z v3 ⟨rfl, hm2, hd2⟩
      refine hK.out _ _ ?_
      clear hK K
      try simp only [PT]
      first | refine stage 1000000 ?_ | skip
      refine tag [11] ?_
      refine sR (v := ?_) rfl (by kernel_rfl) (fun _ _ _ h => h) (Or.inl ⟨by kernel_rfl, ?_⟩) ?_
      rotate_left
      · (intro wS hwS; obtain ⟨hcS, hfS, hhS⟩ := bcell hwS; go_simp; try (first | (with_reducible rfl) | rw [if_pos (by omega)] | rw [if_neg (by omega)]))
      try simp only [PT]
      refine tagN ?_
      first | refine wpAnyT_done (by kernel_rfl) ?_ _ | refine wpAny_done (by kernel_rfl) ?_ _
      replace hl := rlg_keep hl hd hm2
      replace hm0 := hm0.trans (rlg_mod2 (gq := gq) hm2)
      clear x0 x1 x2 x3 xf0 xf1 xf2 xf3 l4 hd hm2 HA hrd hcv
      replace hd := hd2
      clear hd2
      obtain ⟨⟨x0, x1, x2, x3⟩, xf0, xf1, xf2, xf3⟩ := at4 hl
      obtain ⟨oc, ocr, olo, olf⟩ := o1
      simp only at HS hd ⊢
      by_cases e1 : oc = 0
      · subst e1
        go_upto_region 8 with fail
        refine region_any (by kernel_rfl) ?_
        change wpAny _ _ _ _ _ _ _ (World.drew _)
        replace hm0 := hm0.drew
        replace hl : IsRl _ gq gr nm sz false := At.drew hl
        replace hd := hd.drew
        skip
        clear x0 x1 x2 x3 xf0 xf1 xf2 xf3
        generalize World.drew _ = w4 at *
        obtain ⟨⟨x0, x1, x2, x3⟩, xf0, xf1, xf2, xf3⟩ := at4 hl
        have l4 := hl.lt
        refine stage 8 ?_
        refine tag [0,1,2,3,4,5,6,7] ?_
        iterate 8 (
          refine sR (v := ?_) rfl (by kernel_rfl) (fun _ _ _ h => h) (Or.inl ⟨by kernel_rfl, ?_⟩) ?_
          rotate_left
          · (intro wS hwS; obtain ⟨hcS, hfS, hhS⟩ := bcell hwS; go_simp; try (first | (with_reducible rfl) | rw [if_pos (by omega)] | rw [if_neg (by omega)]))
          try simp only [PT])
        refine tagN ?_
        refine stage_end (by kernel_rfl) rfl (fun K hK => ?_)
        go_simp
        refine (HS _ hd).mono ?_
        rintro z v3 ⟨rfl, hm2, hd2⟩
        refine hK.out _ _ ?_
        clear hK K
        try simp only [PT]
        first | refine stage 1000000 ?_ | skip
        refine tag [9] ?_
        refine sR (v := ?_) rfl (by kernel_rfl) (fun _ _ _ h => h) (Or.inl ⟨by kernel_rfl, ?_⟩) ?_
        rotate_left
        · (intro wS hwS; obtain ⟨hcS, hfS, hhS⟩ := bcell hwS; go_simp; try (first | (with_reducible rfl) | rw [if_pos (by omega)] | rw [if_neg (by omega)]))
        try simp only [PT]
        refine tagN ?_
        first | refine wpAnyT_done (by kernel_rfl) ?_ _ | refine wpAny_done (by kernel_rfl) ?_ _
        replace hl := rlg_keep hl hd hm2
        replace hm0 := hm0.trans (rlg_mod2 (gq := gq) hm2)
        clear x0 x1 x2 x3 xf0 xf1 xf2 xf3 l4 hd hm2 HS
        replace hd := hd2
        clear hd2
        obtain ⟨⟨x0, x1, x2, x3⟩, xf0, xf1, xf2, xf3⟩ := at4 hl
        obtain ⟨pc, pcr, plo, plf⟩ := o2
        simp only at hd ⊢
        by_cases e2 : pc = 0
        · subst e2
          obtain ⟨h5, hG5⟩ := At.many [(2, .int .i64 (sz + (8 + (n : Int))))] hl
          dsimp only [setMany, setL, List.set] at h5 hG5
          have HM5 := Lib.hid (hm0.trans (rlg_mod (gr := gr) hG5))
          have HD5 := Lib.hid (hd.other hl (by decide) (by decide) (mod_one hG5))
          have H5 := Lib.hid h5
          have hwr : IntKind.i64.wrap (sz + (8 + (n : Int))) = sz + (8 + (n : Int)) := IntWalk.i64_in _ (by omega)
          clear hl hm0 hG5 hd h5
          go_wp2_with fail
          go_ret
          exact ⟨rfl, HM5.out, ⟨H5.out, HD5.out⟩⟩
        · have ne0 : ¬ pc = 0 := e2
          have ok0 : (pc == 0) = false := by simpa using e2
          have HL := Lib.hid hl
          have HD := Lib.hid hd
          have HM := Lib.hid hm0
          obtain ⟨h5, hG5⟩ := At.many [(3, .bool true), (2, .int .i64 0)] hl
          dsimp only [setMany, setL, List.set] at h5 hG5
          have HM5 := Lib.hid (hm0.trans (rlg_mod (gr := gr) hG5))
          have HD5 := Lib.hid (hd.other hl (by decide) (by decide) (mod_one hG5))
          have H5 := Lib.hid h5
          clear hl hd hm0 hG5 h5
          go_wp2_with fail
          go_ret
          first | exact ⟨rfl, HM5.out, ⟨H5.out, HD5.out⟩⟩ | (rw [if_neg OK.out]; exact ⟨rfl, HM5.out, ⟨H5.out, HD5.out⟩⟩)
      · have ne0 : ¬ oc = 0 := e1
        have ok0 : (oc == 0) = false := by simpa using e1
        have HL := Lib.hid hl
        have HD := Lib.hid hd
        have HM := Lib.hid hm0
        obtain ⟨h5, hG5⟩ := At.many [(3, .bool true), (2, .int .i64 0)] hl
        dsimp only [setMany, setL, List.set] at h5 hG5
        have HM5 := Lib.hid (hm0.trans (rlg_mod (gr := gr) hG5))
        have HD5 := Lib.hid (hd.other hl (by decide) (by decide) (mod_one hG5))
        have H5 := Lib.hid h5
        clear hl hd hm0 hG5 h5
        go_wp2_with fail
        go_ret
        first | exact ⟨rfl, HM5.out, ⟨H5.out, HD5.out⟩⟩ | (rw [if_neg OK.out]; exact ⟨rfl, HM5.out, ⟨H5.out, HD5.out⟩⟩)
set_option maxRecDepth 100000 in
set_option maxHeartbeats 2000000 in
theorem ropen_any (hk0 : 1 ≤ nm.size) (w : World) (h : IsR w gr d) (ho : d.Ok M K) (hM : M ≤ 1048576) (hK : K ≤ 1000000) :
    Calls Tryz.prog 50 #[.pointer (some ⟨gr, 0, none⟩), .string nm] w fun x w' => RO w w' gr nm d x := by
  have he := emptyS_iff nm
  rw [decide_eq_true hk0] at he
  have HR := rd_rd nm w h
  have hlen := ok_rb ho nm
  have HC := fun (v : World) (h : IsR v gr d) (m : Int) => rd_cu nm m v h ho (by omega) hK
  have HY := fun (v : World) (h : IsR v gr d) => rd_sy nm v h ho hK
  have HFI := fun (v : World) (h : IsR v gr d) => rd_find nm v h
  simp only [foundV] at HFI
  have H := Lib.hid h
  unfold RO
  obtain ⟨rc, hrc⟩ : ∃ rc, d.rc nm = rc := ⟨_, rfl⟩
  obtain ⟨rb, hrb⟩ : ∃ rb, d.rb nm = rb := ⟨_, rfl⟩
  rw [hrc, hrb] at HR ⊢
  rw [hrb] at hlen
  obtain ⟨S, hS⟩ : ∃ S : ByteArray, (⟨rb.toArray⟩ : ByteArray) = S := ⟨_, rfl⟩
  have hS1 : S.size = rb.length := by rw [← hS]; simp [ByteArray.size]
  have hS2 : S.data.toList = rb := by rw [← hS]
  rw [hS] at HR
  have HSS := Lib.hid hS1
  have HST := Lib.hid hS2
  clear ho hrc hrb h hS hS1 hS2
  go_enter Tryz.func50, Tryz.ntmps50
  go_upto_region 4 with (((with_reducible refine (HR).mono ?_); rintro z w1 ⟨rfl, hb1⟩))
  have hd := H.out.step hb1
  have HB := Lib.hid hb1
  have hsz := hb1.size
  clear HR hb1
  by_cases h6 : rc = 6
  · subst h6
    obtain ⟨h5, hb5⟩ := one_at w1 168 [.pointer (some ⟨gr, 0, none⟩), .string nm, .int .i64 0, .bool false]
    have HB5 := Lib.hid (chain HB.out hb5)
    have H5 := Lib.hid h5
    clear hd h5 hb5
    go_wp2_with fail
    exact bodyPost_ret (v := .tuple #[.pointer (some ⟨w1.heap.size, 0, none⟩), .slice none 0 0, .int .i64 0]) (by simp [results, Tryz.results50, go_sem]) rfl (by unfold ROg; exact .inl ⟨rfl, _, rfl, H5.out, hsz, HB5.out⟩)
  · have h6b : (rc == 6) = false := by simpa using h6
    by_cases h0 : rc = 0
    · subst h0
      obtain ⟨cap, w2, hcv, hrd, hb2⟩ := conv_bytes6 S w1 (by rw [HSS.out]; omega)
      rw [HST.out, HSS.out] at hrd
      rw [HSS.out] at hcv
      have HF := rall_any (some ⟨w1.heap.size, 0, none⟩) rb.length cap rb w2 hrd (by omega)
      have HB2 := Lib.hid (chain HB.out hb2)
      replace hd := hd.step hb2
      have hsz2 := hb2.size
      clear hb2 hrd
      go_upto_region 9 with (((with_reducible refine (HF).mono ?_); rintro z w3 ⟨A2, c2, ys, at_, code, rfl, hall, hown, hb3⟩))
      replace hd := hd.step hb3
      have HB3 := Lib.hid (chain HB2.out hb3)
      have HRS3 := Lib.hid (RecS.lower (RecS.of_own hown hb3.size) (Nat.le_trans hsz hsz2))
      have HALL := Lib.hid hall
      have HFI3 := HFI w3 hd
      clear hown hb3 hall HF hcv HFI
      obtain ⟨o, ho⟩ : ∃ o, mendO d nm (rb.length : Nat) at_ = o := ⟨_, rfl⟩
      have HO := Lib.hid ho
      obtain ⟨y, hy⟩ : ∃ y, getF d.fs nm = y := ⟨_, rfl⟩
      have hsu : d.su nm = y.s := by unfold PD.su; rw [hy]
      unfold mendO at ho
      rw [hsu] at ho
      rw [hy] at HFI3
      clear hy hsu
      obtain ⟨yk, yb, yA, yn, yc, su⟩ := y
      simp only at HFI3 ho
      go_upto_region 10 with (((with_reducible refine (HFI3).mono ?_); rintro z w4 ⟨rfl, hb4⟩))
      obtain ⟨h5, hb5⟩ := one_at w4 88 [.string yk, .string ⟨yb.toArray⟩, .int .i64 su]
      have HR5 := Lib.hid ((hd.step hb4).step hb5)
      have HB5 := Lib.hid (chain (chain HB3.out hb4) hb5)
      have HRS5 := Lib.hid ((HRS3.out.step hb4).step hb5)
      have hsz5 := hb5.size
      clear HFI3 hd hb4 hb5
      generalize World.alloc w4 _ = w5 at *
      generalize w4.heap.size = g5 at *
      obtain ⟨⟨y0, y1, y2⟩, yf⟩ := at3 h5
      clear h5
      by_cases c1 : (at_ : Int) < (rb.length : Int)
      · rw [if_pos c1] at ho
        have hd1 : decide ((at_ : Int) < (S.size : Int)) = true := by rw [HSS.out]; exact decide_eq_true c1
        have hd2 : at_ < S.size := by rw [HSS.out]; omega
        have HC5 := HC w5 HR5.out at_
        rw [ho] at HC5
        clear c1 ho HY HC
        go_upto_region 15 with (((with_reducible refine (HC5).mono ?_); rintro z w6 ⟨rfl, hm6, hd6⟩))
        clear HC5
        have HRS6 := Lib.hid (HRS5.out.rf HR5.out hm6)
        have hm7 : Mod (fun i _ => i = gr) w w6 := ((Mod.refl _ w).below HB5.out).trans hm6
        have hsz7 := hm7.size
        by_cases hc : o.code = 0
        · obtain ⟨h8, hb8⟩ := one_at w6 168 [.pointer (some ⟨gr, 0, none⟩), .string nm, .int .i64 (at_ : Int), .bool false]
          have H8 := Lib.hid h8
          have HM8 := Lib.hid (hm7.below hb8)
          have HD8 := Lib.hid (hd6.step hb8)
          have HRS8 := Lib.hid (HRS6.out.step hb8)
          have hcb : (o.code == 0) = true := by simpa using hc
          have HCC := Lib.hid hc
          clear hm6 hd6 hm7 h8 hb8 hc
          go_wp2_with fail
          exact bodyPost_ret (v := .tuple #[.pointer (some ⟨w6.heap.size, 0, none⟩), .slice A2 ys.length c2, .int .i64 0]) (by simp [results, Tryz.results50, go_sem]) rfl (by unfold ROg; exact .inr (.inr ⟨rfl, _, at_, code, HALL.out, HM8.out, by rw [HO.out]; exact HD8.out, .inr ⟨by rw [HO.out]; exact HCC.out, _, A2, c2, ys, rfl, rfl, H8.out, hsz7, HRS8.out⟩⟩))
        · have hcb : (o.code == 0) = false := by simpa using hc
          have HCC := Lib.hid hc
          have HM7 := Lib.hid hm7
          have HD7 := Lib.hid hd6
          clear hm6 hd6 hm7 hc
          go_wp2_with fail
          exact bodyPost_ret (v := .tuple #[.pointer none, .slice none 0 0, .int .i64 o.code]) (by simp [results, Tryz.results50, go_sem]) rfl (by unfold ROg; exact .inr (.inr ⟨rfl, _, at_, code, HALL.out, HM7.out, by rw [HO.out]; exact HD7.out, .inl ⟨by rw [HO.out]; exact HCC.out, by rw [HO.out]⟩⟩))
      · rw [if_neg c1] at ho
        have hd1 : decide ((at_ : Int) < (S.size : Int)) = false := by rw [HSS.out]; exact decide_eq_false c1
        have hd2 : S.size ≤ at_ := by rw [HSS.out]; omega
        by_cases c2 : su < (rb.length : Int)
        · rw [if_pos c2] at ho
          have hd3 : decide (su < (S.size : Int)) = true := by rw [HSS.out]; exact decide_eq_true c2
          have HY5 := HY w5 HR5.out
          rw [ho] at HY5
          clear c1 c2 ho HY HC
          go_upto_region 15 with (((with_reducible refine (HY5).mono ?_); rintro z w6 ⟨rfl, hm6, hd6⟩))
          clear HY5
          have HRS6 := Lib.hid (HRS5.out.rf HR5.out hm6)
          have hm7 : Mod (fun i _ => i = gr) w w6 := ((Mod.refl _ w).below HB5.out).trans hm6
          have hsz7 := hm7.size
          by_cases hc : o.code = 0
          · obtain ⟨h8, hb8⟩ := one_at w6 168 [.pointer (some ⟨gr, 0, none⟩), .string nm, .int .i64 (at_ : Int), .bool false]
            have H8 := Lib.hid h8
            have HM8 := Lib.hid (hm7.below hb8)
            have HD8 := Lib.hid (hd6.step hb8)
            have HRS8 := Lib.hid (HRS6.out.step hb8)
            have hcb : (o.code == 0) = true := by simpa using hc
            have HCC := Lib.hid hc
            clear hm6 hd6 hm7 h8 hb8 hc
            go_wp2_with fail
            exact bodyPost_ret (v := .tuple #[.pointer (some ⟨w6.heap.size, 0, none⟩), .slice A2 ys.length c2, .int .i64 0]) (by simp [results, Tryz.results50, go_sem]) rfl (by unfold ROg; exact .inr (.inr ⟨rfl, _, at_, code, HALL.out, HM8.out, by rw [HO.out]; exact HD8.out, .inr ⟨by rw [HO.out]; exact HCC.out, _, A2, c2, ys, rfl, rfl, H8.out, hsz7, HRS8.out⟩⟩))
          · have hcb : (o.code == 0) = false := by simpa using hc
            have HCC := Lib.hid hc
            have HM7 := Lib.hid hm7
            have HD7 := Lib.hid hd6
            clear hm6 hd6 hm7 hc
            go_wp2_with fail
            exact bodyPost_ret (v := .tuple #[.pointer none, .slice none 0 0, .int .i64 o.code]) (by simp [results, Tryz.results50, go_sem]) rfl (by unfold ROg; exact .inr (.inr ⟨rfl, _, at_, code, HALL.out, HM7.out, by rw [HO.out]; exact HD7.out, .inl ⟨by rw [HO.out]; exact HCC.out, by rw [HO.out]⟩⟩))
        · rw [if_neg c2] at ho
          have hd3 : decide (su < (S.size : Int)) = false := by rw [HSS.out]; exact decide_eq_false c2
          clear c1 c2 HY HC
          go_upto_region 15 with fail
          obtain ⟨w6, hw6⟩ : ∃ w6, w6 = w5 := ⟨_, rfl⟩
          have hm6 : Mod (fun i _ => i = gr) w5 w5 := Mod.refl _ _
          have hd6 : IsR w5 gr (d.out o) := by rw [← ho]; exact HR5.out
          clear hw6 w6
          subst ho
          have HRS6 := Lib.hid (HRS5.out)
          have HM7 := Lib.hid ((Mod.refl (fun i _ => i = gr) w).below HB5.out)
          have hsz7 := HM7.out.size
          obtain ⟨h8, hb8⟩ := one_at w5 168 [.pointer (some ⟨gr, 0, none⟩), .string nm, .int .i64 (at_ : Int), .bool false]
          have H8 := Lib.hid h8
          have HM8 := Lib.hid (HM7.out.below hb8)
          have HD8 := Lib.hid (hd6.step hb8)
          have HRS8 := Lib.hid (HRS6.out.step hb8)
          clear hm6 hd6 h8 hb8
          go_wp2_with fail
          exact bodyPost_ret (v := .tuple #[.pointer (some ⟨w5.heap.size, 0, none⟩), .slice A2 ys.length c2, .int .i64 0]) (by simp [results, Tryz.results50, go_sem]) rfl (by unfold ROg; exact .inr (.inr ⟨rfl, _, at_, code, HALL.out, HM8.out, by rw [HO.out]; exact HD8.out, .inr ⟨by rw [HO.out], _, A2, c2, ys, rfl, rfl, H8.out, hsz7, HRS8.out⟩⟩))
    · have h0b : ¬ rc = 0 := h0
      clear hd
      have H6 := Lib.hid h6
      have H0 := Lib.hid h0
      clear h6 h0
      go_wp2_with fail
      exact bodyPost_ret (v := .tuple #[.pointer none, .slice none 0 0, .int .i64 rc]) (by simp [results, Tryz.results50, go_sem]) rfl (by unfold ROg; exact .inr (.inl ⟨H6.out, H0.out, rfl, HB.out⟩))
end
end Go.Proofs.YtnkjekkdndjfaaaGreat
