
/- Chapter 11, the document's store: it does what the plain one does. -/
import Derived.Test.YtnkjekkdndjfaaaGreatStoreP
import Derived.Test.YtnkjekkdndjfaaaGreatWalRef
import Derived.Test.YtnkjekkdndjfaaaGreatKvRDo
namespace Go.Proofs.YtnkjekkdndjfaaaGreat
set_option linter.unusedVariables false
set_option linter.unusedSimpArgs false
open Go.RowKit
def MD (gt gq gr : Nat) : Nat → Obj → Prop := fun i _ => i = gt ∨ i = gq ∨ i = gr
/-- the document's store, as plain data; A n c: its items' row -/
structure IsRT (w : World) (gt gr gq B : Nat) (A : Option Addr) (n c : Nat) (x : ST) : Prop where
  blk : At w gt 81 [.pointer (some ⟨gr, 0, none⟩), .int .i64 x.s.rev, .slice A n c, .pointer (some ⟨gq, 0, none⟩), .int .i64 x.ev, .int .i64 x.since, .bool x.dead]
  own : OwnRI w B A n c x.s.l
  v : IsV w gq gr logN ⟨x.d, x.sz, x.ld⟩
section
variable {w w' : World} {gt gr gq B n c n2 c2 : Nat} {A A2 : Option Addr} {x : ST} {d : PD} {s s' : SL} {sz ev since since' : Int} {ld dead dead' : Bool}
theorem IsV.step {s : WL} {nm : ByteArray} (h : IsV w gq gr nm s) (hb : Below w.heap.size w w') : IsV w' gq gr nm s := ⟨At.step h.lg hb, h.dk.step hb⟩
theorem IsRT.step (h : IsRT w gt gr gq B A n c x) (hb : Below w.heap.size w w') : IsRT w' gt gr gq B A n c x := ⟨h.blk.step hb, OwnRI.step h.own hb, h.v.step hb⟩
theorem IsRT.drew (h : IsRT w gt gr gq B A n c x) : IsRT w.drew gt gr gq B A n c x := h.step (Below.drew (Below.refl _ _))
theorem IsR.farT (h : IsR w gr d) {i : Nat} {o : Obj} {t : TypeId} (ho : w.heap[i]? = some o) (hit : IsT t o) (ht : t ≠ 86) : ¬ i = gr := by
  obtain ⟨A, c, e1, e2⟩ := IsRf.ex h
  exact isT_at e1 ho hit ht
/-- another block of cells is turned -/
theorem IsRT.cell (h : IsRT w gt gr gq B A n c x) {g : Nat} {t : TypeId} {cs : List Value} (hx : At w g t cs) (h1 : t ≠ 81) (h2 : t ≠ 168) (h3 : t ≠ 86) (h4 : t ≠ 88) (h5 : t ≠ 108) (hm : Mod (fun i _ => i = g) w w') : IsRT w' gt gr gq B A n c x :=
  ⟨hm.at h.blk (At.ne h.blk hx (fun e => h1 e.symm)), own_mod (show World.ownsRow _ _ _ _ _ _ _ from h.own) hm (fun i o ho _ hit => isT_at hx ho hit (fun e => h5 e.symm)), ⟨hm.at h.v.lg (At.ne h.v.lg hx (fun e => h2 e.symm)), h.v.dk.other hx h3 h4 hm⟩⟩
theorem IsRT.farT (h : IsRT w gt gr gq B A n c x) {i : Nat} {o : Obj} {t : TypeId} (ho : w.heap[i]? = some o) (hit : IsT t o) (h1 : t ≠ 81) (h2 : t ≠ 168) (h3 : t ≠ 86) : ¬ MD gt gq gr i o := by
  rintro (e | e | e)
  · exact isT_at h.blk ho hit h1 e
  · exact isT_at h.v.lg ho hit h2 e
  · exact h.v.dk.farT ho hit h3 e
theorem IsRT.far (h : IsRT w gt gr gq B A n c x) {g : Nat} {t : TypeId} {cs : List Value} (hx : At w g t cs) (h1 : t ≠ 81) (h2 : t ≠ 168) (h3 : t ≠ 86) (hm : Mod (MD gt gq gr) w w') : At w' g t cs := hm.at hx (h.farT hx rfl h1 h2 h3)
/-- the store's own block is turned -/
theorem IsRT.turn (h : IsRT w gt gr gq B A n c ⟨d, s, sz, ld, ev, since, dead⟩) (hm : Mod (fun i _ => i = gt) w w') (hb : At w' gt 81 [.pointer (some ⟨gr, 0, none⟩), .int .i64 s'.rev, .slice A2 n2 c2, .pointer (some ⟨gq, 0, none⟩), .int .i64 ev, .int .i64 since', .bool dead']) (ho : OwnRI w' B A2 n2 c2 s'.l) : IsRT w' gt gr gq B A2 n2 c2 ⟨d, s', sz, ld, ev, since', dead'⟩ :=
  ⟨hb, ho, ⟨hm.at h.v.lg (At.ne h.v.lg h.blk (by decide)), h.v.dk.other h.blk (by decide) (by decide) hm⟩⟩
theorem IsRT.ownT (h : IsRT w gt gr gq B A n c x) (hm : Mod (fun i _ => i = gt) w w') : OwnRI w' B A n c x.s.l := own_mod (show World.ownsRow _ _ _ _ _ _ _ from h.own) hm (fun i o ho _ hit => isT_at h.blk ho hit (by decide))
/-- its log and disk are turned -/
theorem IsRT.log {q : WL} (h : IsRT w gt gr gq B A n c ⟨d, s, sz, ld, ev, since, dead⟩) (hm : Mod (fun i _ => i = gq ∨ i = gr) w w') (hv : IsV w' gq gr logN q) : IsRT w' gt gr gq B A n c ⟨q.d, s, q.sz, q.dead, ev, since, dead⟩ := by
  have n1 := At.ne h.blk h.v.lg (by decide)
  have n2 := h.v.dk.freeAt h.blk (by decide)
  refine ⟨hm.at h.blk (by rintro (e | e); exact n1 e; exact n2 e), own_mod (show World.ownsRow _ _ _ _ _ _ _ from h.own) hm (fun i o ho _ hit => ?_), hv⟩
  rintro (e | e)
  · exact isT_at h.v.lg ho hit (by decide) e
  · exact h.v.dk.farT ho hit (by decide) e
theorem mdq (hm : Mod (fun i _ => i = gq ∨ i = gr) w w') : Mod (MD gt gq gr) w w' := hm.mono fun i o _ _ e => .inr e
theorem mdt (hm : Mod (fun i _ => i = gt) w w') : Mod (MD gt gq gr) w w' := hm.mono fun i o _ _ e => .inl e
theorem mdr (hm : Mod (fun i _ => i = gr) w w') : Mod (fun i _ => i = gq ∨ i = gr) w w' := hm.mono fun i o _ _ e => .inr e
set_option maxRecDepth 100000 in
set_option maxHeartbeats 4000000 in
theorem rsnew_any (every : Int) (w : World) (hd : IsR w gr PD.new) :
    Calls Tryz.prog 27 #[.pointer (some ⟨gr, 0, none⟩), .int .i64 every] w fun e w' => ∃ gt gq, e = .returned (.pointer (some ⟨gt, 0, none⟩)) ∧ IsRT w' gt gr gq w.heap.size none 0 0 ⟨PD.new, ⟨0, []⟩, 0, false, max every 1, 0, false⟩ ∧ w.heap.size ≤ gt ∧ w.heap.size ≤ gq ∧ Below w.heap.size w w' := by
  have HO := ropen_any logN_lo w hd PD.Ok.new (by omega) (by omega)
  unfold RO ROg at HO
  have hrc : PD.new.rc logN = 6 := rfl
  rw [hrc] at HO
  clear hrc
  have HO2 : Calls Tryz.prog 50 #[.pointer (some ⟨gr, 0, none⟩), .string logN] w fun x w' => ∃ gq, x = .returned (.tuple #[.pointer (some ⟨gq, 0, none⟩), .slice none 0 0, .int .i64 0]) ∧ IsRl w' gq gr logN 0 false ∧ w.heap.size ≤ gq ∧ Below w.heap.size w w' := HO.mono fun x w' q => by
    rcases q with ⟨_, q⟩ | ⟨h6, _⟩ | ⟨h6, _⟩
    · exact q
    · exact absurd rfl h6
    · exact absurd h6 (by decide)
  clear HO
  by_cases h1 : every < 1
  · have hdd : decide (every < 1) = true := decide_eq_true h1
    have hmx : max every 1 = 1 := by omega
    rw [hmx]
    clear hmx
    go_enter Tryz.func27, Tryz.ntmps27
    go_upto_region 4 with (((with_reducible refine (HO2).mono ?_); rintro z w1 ⟨gq, rfl, hl, hgq, hb1⟩))
    obtain ⟨h2, hb2⟩ := one_at w1 81 [.pointer (some ⟨gr, 0, none⟩), .int .i64 0, .slice none 0 0, .pointer (some ⟨gq, 0, none⟩), .int .i64 1, .int .i64 0, .bool false]
    have hz1 := hb1.size
    have HV := Lib.hid (show IsV _ gq gr logN ⟨PD.new, 0, false⟩ from ⟨At.step hl hb2, (hd.step hb1).step hb2⟩)
    have H2 := Lib.hid h2
    have HB := Lib.hid (chain hb1 hb2)
    clear hl hb1 hb2 h2 hd HO2
    go_wp2_with fail
    go_ret
    exact ⟨_, gq, rfl, ⟨H2.out, World.ownsRow_nil _ _ _ _, HV.out⟩, by omega, hgq, HB.out⟩
  · have hdd : decide (every < 1) = false := decide_eq_false h1
    have hmx : max every 1 = every := by omega
    rw [hmx]
    clear hmx
    go_enter Tryz.func27, Tryz.ntmps27
    go_upto_region 4 with (((with_reducible refine (HO2).mono ?_); rintro z w1 ⟨gq, rfl, hl, hgq, hb1⟩))
    obtain ⟨h2, hb2⟩ := one_at w1 81 [.pointer (some ⟨gr, 0, none⟩), .int .i64 0, .slice none 0 0, .pointer (some ⟨gq, 0, none⟩), .int .i64 every, .int .i64 0, .bool false]
    have hz1 := hb1.size
    have HV := Lib.hid (show IsV _ gq gr logN ⟨PD.new, 0, false⟩ from ⟨At.step hl hb2, (hd.step hb1).step hb2⟩)
    have H2 := Lib.hid h2
    have HB := Lib.hid (chain hb1 hb2)
    clear hl hb1 hb2 h2 hd HO2
    go_wp2_with fail
    go_ret
    exact ⟨_, gq, rfl, ⟨H2.out, World.ownsRow_nil _ _ _ _, HV.out⟩, by omega, hgq, HB.out⟩
set_option maxRecDepth 100000 in
set_option maxHeartbeats 4000000 in
theorem rscm_any {k m : Nat} (w : World) (h : IsRT w gt gr gq B A n c x) (hi : STI x k m) (hk : k ≤ 30) (hm : m ≤ 70) :
    Calls Tryz.prog 29 #[.pointer (some ⟨gt, 0, none⟩)] w fun e w' => e = .returned (.int .i64 (cmP x).1) ∧ Mod (MD gt gq gr) w w' ∧ IsRT w' gt gr gq B A n c (cmP x).2 := by
  obtain ⟨d, s, sz, ld, ev, since, dead⟩ := x
  have hlen := hi.si.len
  have hlo := hi.si.inv.lo
  have hhi := hi.si.inv.hi
  have hsm := hi.si.small (by omega)
  have hcnt := hi.si.cnt
  have ho := hi.ok
  have hsv := sv_inv hi hk
  have hsz := hi.sz
  have hn := h.own.len
  unfold ST.sv at hsv
  simp only at hlen hlo hhi hsm ho hsv hsz hcnt hn
  have hmul : k * 244 ≤ 30 * 244 := Nat.mul_le_mul hk (Nat.le_refl _)
  have hn30 : n ≤ 30 := by omega
  clear hn
  obtain ⟨R, hR⟩ : ∃ R, cmP ⟨d, s, sz, ld, ev, since, dead⟩ = R := ⟨_, rfl⟩
  rw [hR]
  cases dead with
  | true =>
    have hR2 : R = (12, ⟨d, s, sz, ld, ev, since, true⟩) := by rw [← hR]; rfl
    subst hR2
    clear hR
    have HH := Lib.hid h
    obtain ⟨⟨x0, x1, x2, x3, x4, x5, x6⟩, xf⟩ := at7 h.blk
    clear h
    go_enter Tryz.func29, Tryz.ntmps29
    go_wp2_with fail
    go_ret
    exact ⟨rfl, Mod.refl _ _, HH.out⟩
  | false =>
    have F0 : (svO d (spF snapN) snapN (stL s.rev s.l)).code ≠ 0 → R = ((svO d (spF snapN) snapN (stL s.rev s.l)).code, ⟨d.out (svO d (spF snapN) snapN (stL s.rev s.l)), s, sz, ld, ev, since, true⟩) := fun e => by
      rw [← hR]; unfold cmP; simp only [Bool.false_eq_true, if_false]; exact if_neg e
    have F1 : (svO d (spF snapN) snapN (stL s.rev s.l)).code = 0 → (wcP ⟨d.out (svO d (spF snapN) snapN (stL s.rev s.l)), sz, ld⟩ logN).1 = 0 → R = (0, ⟨(wcP ⟨d.out (svO d (spF snapN) snapN (stL s.rev s.l)), sz, ld⟩ logN).2.d, s, (wcP ⟨d.out (svO d (spF snapN) snapN (stL s.rev s.l)), sz, ld⟩ logN).2.sz, (wcP ⟨d.out (svO d (spF snapN) snapN (stL s.rev s.l)), sz, ld⟩ logN).2.dead, ev, 0, false⟩) := fun e e2 => by
      rw [← hR]; unfold cmP; simp only [Bool.false_eq_true, if_false]; exact (if_pos e).trans (if_pos e2)
    have F2 : (svO d (spF snapN) snapN (stL s.rev s.l)).code = 0 → (wcP ⟨d.out (svO d (spF snapN) snapN (stL s.rev s.l)), sz, ld⟩ logN).1 ≠ 0 → R = ((wcP ⟨d.out (svO d (spF snapN) snapN (stL s.rev s.l)), sz, ld⟩ logN).1, ⟨(wcP ⟨d.out (svO d (spF snapN) snapN (stL s.rev s.l)), sz, ld⟩ logN).2.d, s, (wcP ⟨d.out (svO d (spF snapN) snapN (stL s.rev s.l)), sz, ld⟩ logN).2.sz, (wcP ⟨d.out (svO d (spF snapN) snapN (stL s.rev s.l)), sz, ld⟩ logN).2.dead, ev, since, true⟩) := fun e e2 => by
      rw [← hR]; unfold cmP; simp only [Bool.false_eq_true, if_false]; exact (if_pos e).trans (if_neg e2)
    have HPS := fun v (hr : RdI v v.heap.size A n c s.l) => rputstate_any A n c s.rev s.l v hr (by omega) hsm hlo (by omega)
    have HSV := fun (P : Option Addr) (pn pc : Nat) v (hd : IsR v gr d) (hr : RdB v v.heap.size P pn pc (stL s.rev s.l)) (hn : pn ≤ 1000000) => rsave_any (P := P) (n := pn) (pc := pc) snapN_lo snapN_hi v hd ho (by omega) (by omega) hr hn
    have HCL := fun v (hv : IsV v gq gr logN ⟨d.out (svO d (spF snapN) snapN (stL s.rev s.l)), sz, ld⟩) => rclear_any (M := 10000 * (m + 1)) (K := m + 1) ⟨d.out (svO d (spF snapN) snapN (stL s.rev s.l)), sz, ld⟩ v hv hsv (by omega) (by omega)
    have hql : (stL s.rev s.l).length ≤ 100000 := by omega
    clear hR hsv ho hi hlen hsm
    unfold RSV at HSV
    unfold VP at HCL
    obtain ⟨cq, hcq⟩ : ∃ cq, wcP ⟨d.out (svO d (spF snapN) snapN (stL s.rev s.l)), sz, ld⟩ logN = cq := ⟨_, rfl⟩
    rw [hcq] at HCL F1 F2
    clear hcq
    obtain ⟨sq, hsq⟩ : ∃ sq, svO d (spF snapN) snapN (stL s.rev s.l) = sq := ⟨_, rfl⟩
    rw [hsq] at HSV HCL F0 F1 F2
    clear hsq
    obtain ⟨T, hT⟩ : ∃ T : ByteArray, ⟨(stL s.rev s.l).toArray⟩ = T := ⟨_, rfl⟩
    have hT2 : T.data.toList = stL s.rev s.l := by rw [← hT]
    have hT3 : T.size = (stL s.rev s.l).length := by rw [← hT]; simp [ByteArray.size]
    rw [hT] at HPS
    clear hT
    generalize stL s.rev s.l = q at *
    have HF0 := Lib.hid F0
    have HF1 := Lib.hid F1
    have HF2 := Lib.hid F2
    have HT2 := Lib.hid hT2
    have HT3 := Lib.hid hT3
    have hTs : T.size ≤ 100000 := by omega
    clear F0 F1 F2 hT2 hT3
    go_enter Tryz.func29, Tryz.ntmps29
    obtain ⟨⟨x0, x1, x2, x3, x4, x5, x6⟩, xf⟩ := at7 h.blk
    go_upto_region 3 with fail
    clear x0 x1 x2 x3 x4 x5 x6 xf
    refine region_any (by kernel_rfl) ?_
    change wpAny _ _ _ _ _ _ _ (World.drew _)
    have hm : Mod (MD gt gq gr) w (World.drew w) := (Mod.refl _ w).below (Below.drew (Below.refl _ _))
    replace h := h.drew
    generalize World.drew _ = w1 at *
    have hs1 := hm.size
    obtain ⟨⟨x0, x1, x2, x3, x4, x5, x6⟩, xf⟩ := at7 h.blk
    have l0 := h.blk.lt
    refine stage 10 ?_
    refine tag [0,1,2,3,4,5,6,7] ?_
    iterate 8 (
      refine sR (v := ?_) rfl (by kernel_rfl) (fun _ _ _ h => h) (Or.inl ⟨by kernel_rfl, ?_⟩) ?_
      rotate_left
      · (intro wS hwS; obtain ⟨hcS, hfS, hhS⟩ := bcell hwS; go_simp; try (first | (with_reducible rfl) | rw [if_pos (by omega)] | rw [if_neg (by omega)]))
      try simp only [PT])
    refine tagN ?_
    refine stage_one 8 (by kernel_rfl) rfl (by kernel_rfl) (fun K hK => ?_)
    go_simp
    refine (HPS _ h.own.rd).mono ?_
    rintro z w2 ⟨rfl, hb2⟩
    refine hK.out _ _ (hb2) ?_
    clear hK K
    try simp only [PT]
    clear x0 x1 x2 x3 x4 x5 x6 xf
    replace h := h.step hb2
    replace hm := hm.below hb2
    obtain ⟨⟨x0, x1, x2, x3, x4, x5, x6⟩, xf⟩ := at7 h.blk
    replace l0 := h.blk.lt
    obtain ⟨cap, w3, hcv, hrd, hb3⟩ := conv_bytes6 T w2 (by omega)
    rw [HT2.out] at hrd

    refine stage_one 9 (by kernel_rfl) rfl (by kernel_rfl) (fun K hK => ?_)
    go_simp
    refine hK.out _ _ (hb3) ?_
    clear hK K
    try simp only [PT]
    clear x0 x1 x2 x3 x4 x5 x6 xf hcv
    replace h := h.step hb3
    replace hm := hm.below hb3

    refine stage_end (by kernel_rfl) rfl (fun K hK => ?_)
    go_simp
    refine (HSV _ _ _ _ h.v.dk hrd (by omega)).mono ?_
    rintro z w4 ⟨rfl, hm4, hd4⟩
    refine hK.out _ _ ?_
    clear hK K
    try simp only [PT]
    first | refine stage 1000000 ?_ | skip
    refine tag [11] ?_
    refine sR (v := ?_) rfl (by kernel_rfl) (fun _ _ _ h => h) (Or.inl ⟨by kernel_rfl, ?_⟩) ?_
    rotate_left
    · (intro wS hwS; obtain ⟨hcS, hfS, hhS⟩ := bcell hwS; go_simp; try (first | (with_reducible rfl) | rw [if_pos (by omega)] | rw [if_neg (by omega)]))
    try simp only [PT]
    refine tagN ?_
    first | refine wpAnyT_done (by kernel_rfl) ?_ _ | refine wpAny_done (by kernel_rfl) ?_ _
    have hv4 : IsV w4 gq gr logN ⟨d.out sq, sz, ld⟩ := ⟨rlg_keep h.v.lg h.v.dk hm4, hd4⟩
    have h4 := h.log (mdr hm4) hv4
    replace hm := hm.trans (mdq (mdr hm4))
    clear h hm4 hd4 hrd l0 hb2 hb3 HPS HSV hs1
    have h := h4
    clear h4
    obtain ⟨⟨x0, x1, x2, x3, x4, x5, x6⟩, xf⟩ := at7 h.blk
    by_cases hc : sq.code = 0
    · have hc1 : (sq.code == 0) = true := by simpa using hc
      have HC := Lib.hid hc
      clear hc
      have HCL1 := HCL _ hv4
      clear HCL hv4
      go_upto_region 6 with (((with_reducible refine (HCL1).mono ?_); rintro z w5 ⟨rfl, hm5, hv5⟩))
      have h5 := h.log hm5 hv5
      replace hm := hm.trans (mdq hm5)
      clear h hm5 hv5 HCL1 hc1 x0 x1 x2 x3 x4 x5 x6 xf
      have h := h5
      clear h5
      obtain ⟨⟨x0, x1, x2, x3, x4, x5, x6⟩, xf⟩ := at7 h.blk
      by_cases hq : cq.1 = 0
      · have hq1 : (cq.1 != 0) = false := by simpa using hq
        have HQ := Lib.hid hq
        clear hq
        obtain ⟨hT, hG⟩ := At.many [(5, .int .i64 0)] h.blk
        dsimp only [setMany, setL, List.set] at hT hG
        have HT := Lib.hid (h.turn (mod_one hG) hT (h.ownT (mod_one hG)))
        have HM := Lib.hid (hm.trans (mdt (mod_one hG)))
        clear hT hG hm h
        go_wp2_with fail
        go_ret
        rw [HF1.out HC.out HQ.out]
        exact ⟨rfl, HM.out, HT.out⟩
      · have hq1 : (cq.1 != 0) = true := by simpa using hq
        have HQ := Lib.hid hq
        clear hq
        obtain ⟨hT, hG⟩ := At.many [(6, .bool true)] h.blk
        dsimp only [setMany, setL, List.set] at hT hG
        have HT := Lib.hid (h.turn (mod_one hG) hT (h.ownT (mod_one hG)))
        have HM := Lib.hid (hm.trans (mdt (mod_one hG)))
        clear hT hG hm h
        go_wp2_with fail
        go_ret
        rw [HF2.out HC.out HQ.out]
        exact ⟨rfl, HM.out, HT.out⟩
    · have hc1 : (sq.code == 0) = false := by simpa using hc
      have hc2 : (sq.code != 0) = true := by simpa using hc
      have HC := Lib.hid hc
      clear hc HCL hv4
      obtain ⟨hT, hG⟩ := At.many [(6, .bool true)] h.blk
      dsimp only [setMany, setL, List.set] at hT hG
      have HT := Lib.hid (h.turn (mod_one hG) hT (h.ownT (mod_one hG)))
      have HM := Lib.hid (hm.trans (mdt (mod_one hG)))
      clear hT hG hm h
      go_wp2_with fail
      go_ret
      rw [HF0.out HC.out]
      exact ⟨rfl, HM.out, HT.out⟩
def RSD (w w' : World) (gt gr gq B : Nat) (R : Told × ST) (e : Ending) : Prop :=
  ∃ A3 n3 c3 b A2 n2 c2, e = .returned (.tuple #[.agg #[.int .i64 R.1.code, .int .i64 R.1.rev, .string R.1.val, .slice A3 n3 c3], .bool b]) ∧ OwnRI w' w.heap.size A3 n3 c3 R.1.items ∧ Mod (MD gt gq gr) w w' ∧ IsRT w' gt gr gq B A2 n2 c2 R.2
theorem rs_plan {k m : Nat} (o : Ask) (hi : STI ⟨d, s, sz, ld, ev, since, false⟩ k m) (hk : k ≤ 30) (hmm : m ≤ 80) (hv : o.val.size ≤ 100) {R : Told × ST} (hR : apP ⟨d, s, sz, ld, ev, since, false⟩ o = R) (gr gq : Nat) (A : Option Addr) (n c : Nat) (hn : n ≤ 1000) :
    ∃ (tc tr : Int) (tv : ByteArray) (ti : List It) (ek evv : ByteArray) (er : Int) (eg wr : Bool) (T : ByteArray) (E : List UInt8) (cq : Int) (q : WL),
      (∀ v, RdI v v.heap.size A n c s.l → Calls Tryz.prog 40 #[.agg #[.int .i64 s.rev, .slice A n c], .agg #[.int .i64 o.kind, .string o.key, .string o.val, .int .i64 o.rev, .string o.iff, .int .i64 o.ifrev]] v fun x w' => ∃ A5 n5 c5, x = .returned (.tuple #[.agg #[.int .i64 tc, .int .i64 tr, .string tv, .slice A5 n5 c5], .agg #[.string ek, .string evv, .int .i64 er, .bool eg], .bool wr]) ∧ OwnRI w' v.heap.size A5 n5 c5 ti ∧ Below v.heap.size v w') ∧
      (wr = false → R = (⟨tc, tr, tv, ti⟩, ⟨d, s, sz, ld, ev, since, false⟩)) ∧
      (wr = true → cq ≠ 0 → R = (lostT, ⟨q.d, s, q.sz, q.dead, ev, since, true⟩)) ∧
      (wr = true → cq = 0 → R = (⟨tc, tr, tv, ti⟩, ⟨q.d, ⟨er, applyL ⟨ek, evv, er⟩ eg s.l⟩, q.sz, q.dead, ev, since + 1, false⟩)) ∧
      T.data.toList = E ∧
      (wr = true → T.size ≤ 1000 ∧ (∀ v, Calls Tryz.prog 52 #[.agg #[.string ek, .string evv, .int .i64 er, .bool eg]] v fun x w' => x = .returned (.string T) ∧ Below v.heap.size v w') ∧
        (∀ (P : Option Addr) (pn pc : Nat) v, IsV v gq gr logN ⟨d, sz, ld⟩ → RdB v v.heap.size P pn pc E → pn ≤ 1000 → Calls Tryz.prog 51 #[.pointer (some ⟨gq, 0, none⟩), .slice P pn pc] v fun x w' => x = .returned (.int .i64 cq) ∧ Mod (fun i _ => i = gq ∨ i = gr) v w' ∧ IsV w' gq gr logN q) ∧
        (∀ v, RdI v v.heap.size A n c s.l → Calls Tryz.prog 41 #[.agg #[.int .i64 s.rev, .slice A n c], .agg #[.string ek, .string evv, .int .i64 er, .bool eg]] v fun r w' => ∃ A2 n2 c2, r = .returned (.agg #[.int .i64 er, .slice A2 n2 c2]) ∧ OwnRI w' v.heap.size A2 n2 c2 (applyL ⟨ek, evv, er⟩ eg s.l) ∧ Below v.heap.size v w')) := by
  have hstep := hi.si.step (o := o) (by omega) hv
  have ho := hi.ok
  have hsz := hi.sz
  have HPL := fun v hr => rplan_any A n c s.l s.rev o v hr (by omega)
  simp only at hstep ho hsz
  obtain ⟨p, hp⟩ : ∃ p, planP s.rev s.l o = p := ⟨_, rfl⟩
  rw [hp] at hstep
  obtain ⟨⟨tc, tr, tv, ti⟩, ⟨ek, evv, er, eg⟩, wr⟩ := p
  simp only [hp] at HPL
  unfold RPlanR Ask.v Ask.cells at HPL
  simp only at HPL hstep
  refine ⟨tc, tr, tv, ti, ek, evv, er, eg, wr, ⟨(effL ⟨ek, evv, er, eg⟩).toArray⟩, effL ⟨ek, evv, er, eg⟩, (waP ⟨d, sz, ld⟩ logN (effL ⟨ek, evv, er, eg⟩)).1, (waP ⟨d, sz, ld⟩ logN (effL ⟨ek, evv, er, eg⟩)).2, HPL, ?_, ?_, ?_, rfl, ?_⟩
  · intro e
    rw [← hR, ap_no (show (planP s.rev s.l o).wr = false by rw [hp]; exact e)]
    simp only [hp]
  · intro e e2
    rw [← hR, ap_bad (show (planP s.rev s.l o).wr = true by rw [hp]; exact e) (by unfold ST.ap ST.ef; simp only [hp]; exact e2)]
    unfold ST.ap ST.ef
    simp only [hp]
  · intro e e2
    rw [← hR, ap_yes (show (planP s.rev s.l o).wr = true by rw [hp]; exact e) (by unfold ST.ap ST.ef; simp only [hp]; exact e2)]
    unfold ST.ap ST.ef Eff.it
    simp only [hp]
  · intro e
    obtain ⟨s1, s2, s3, s4, s5⟩ := hstep e
    have hts : (⟨(effL ⟨ek, evv, er, eg⟩).toArray⟩ : ByteArray).size = (effL ⟨ek, evv, er, eg⟩).length := by simp [ByteArray.size]
    refine ⟨by rw [hts]; omega, fun v => rput10_any ⟨ek, evv, er, eg⟩ v s2 s3, fun P pn pc v hv hr hn => rwapp_any ⟨d, sz, ld⟩ P pn pc _ v hv logN_mx ho (by omega) (by omega) hr (by omega) (by simp only; omega), fun v hr => rapply_any A n c s.l s.rev ek evv er eg v hr (by omega)⟩
set_option maxRecDepth 100000 in
set_option maxHeartbeats 16000000 in
theorem rsdo_any {k m : Nat} (o : Ask) (w : World) (hBw : B ≤ w.heap.size) (h : IsRT w gt gr gq B A n c x) (hi : STI x k m) (hk : k ≤ 30) (hmm : m ≤ 70) (hv : o.val.size ≤ 100) :
    Calls Tryz.prog 28 #[.pointer (some ⟨gt, 0, none⟩), o.v] w fun e w' => RSD w w' gt gr gq B (doP11 x o) e := by
  obtain ⟨R, hR0⟩ : ∃ R, doP11 x o = R := ⟨_, rfl⟩
  rw [hR0]
  obtain ⟨d, s, sz, ld, ev, since, dead⟩ := x
  have hnl := h.own.len
  have hcnt := hi.si.cnt
  have hsn := hi.sn
  simp only at hnl hcnt hsn
  have hn : n ≤ 1000 := by omega
  clear hnl
  have HCP := fun v (hv : IsRT v gt gr gq B A n c ⟨d, s, sz, ld, ev, since, dead⟩) => rscm_any v hv hi hk hmm
  obtain ⟨ki, ky, vl, rv, iff, ifr⟩ := o
  unfold Ask.v Ask.cells
  simp only at hv ⊢
  obtain ⟨h0, hR, hb⟩ := two_at w 50 [.int .i64 ki, .string ky, .string vl, .int .i64 rv, .string iff, .int .i64 ifr] 54 [.int .i64 0, .int .i64 0, .string ⟨#[]⟩, .slice none 0 0]
  replace h := h.step hb
  have hm : Mod (MD gt gq gr) w _ := (Mod.refl _ w).below hb
  have hB2 := hb.size
  go_enter Tryz.func28, Tryz.ntmps28
  go_upto_region 1 with fail
  generalize World.alloc (World.alloc w _) _ = w1 at *
  obtain ⟨gR, hgRe⟩ : ∃ gR, w.heap.size + 1 = gR := ⟨_, rfl⟩
  rw [hgRe] at hR ⊢
  have hgR : w.heap.size ≤ gR := by omega
  clear hgRe hb hcnt
  refine region_any (by kernel_rfl) ?_
  change wpAny _ _ _ _ _ _ _ (World.drew _)
  replace h := h.drew
  replace hm := hm.drew
  replace hR := At.drew hR
  try replace h0 := At.drew h0
  try clear x0 x1 x2 x3 x4 x5 x6 xf
  try clear y0 y1 y2 y3 y4 y5 yf
  replace hB2 : w.heap.size ≤ (World.drew w1).heap.size := hB2
  generalize World.drew _ = w2 at *
  obtain ⟨⟨x0, x1, x2, x3, x4, x5, x6⟩, xf⟩ := at7 h.blk
  have l1 := h.blk.lt
  cases dead with
  | true =>
    have hres : R = (lostT, ⟨d, s, sz, ld, ev, since, true⟩) := by rw [← hR0]; exact do_d rfl
    have HRES := Lib.hid hres
    clear HCP hi hR0 hres
    refine stage 100000 ?_
    refine tag [0,1,2,3,4,5] ?_
    iterate 6 (
      refine sR (v := ?_) rfl (by kernel_rfl) (fun _ _ _ h => h) (Or.inl ⟨by kernel_rfl, ?_⟩) ?_
      rotate_left
      · (intro wS hwS; obtain ⟨hcS, hfS, hhS⟩ := bcell hwS; go_simp; try (first | (with_reducible rfl) | rw [if_pos (by omega)] | rw [if_neg (by omega)]))
      try simp only [PT])
    refine tagN ?_
    refine tag [6,7,8,9,10,11,12,13,14] ?_
    iterate 9 (
      refine sP (v := undef) rfl (by kernel_rfl) (fun _ _ _ h => h) (Or.inr ⟨by kernel_rfl, rfl⟩) ?_
      try simp only [PT])
    refine tagN ?_
    refine tag [15] ?_
    refine sR (v := ?_) rfl (by kernel_rfl) (fun _ _ _ h => h) (Or.inl ⟨by kernel_rfl, ?_⟩) ?_
    rotate_left
    · (intro wS hwS; obtain ⟨hcS, hfS, hhS⟩ := bcell hwS; go_simp; try (first | (with_reducible rfl) | rw [if_pos (by omega)] | rw [if_neg (by omega)]))
    try simp only [PT]
    refine tagN ?_
    first | refine wpAnyT_done (by kernel_rfl) ?_ _ | refine wpAny_done (by kernel_rfl) ?_ _
    go_upto_region 4 with fail
    clear x0 x1 x2 x3 x4 x5 x6 xf h0
    obtain ⟨⟨r0, r1, r2, r3⟩, rf0, rf1, rf2, rf3⟩ := at4 hR
    obtain ⟨hmR, hG⟩ := At.many [(0, .int .i64 12), (1, .int .i64 0), (2, .string ⟨#[]⟩), (3, .slice none 0 0)] hR
    dsimp only [setMany, setL, List.set] at hmR hG
    have hmG := mod_one hG
    replace h := h.cell hR (by decide) (by decide) (by decide) (by decide) (by decide) hmG
    replace hm := hm.step hmG (fun i o hi _ e => absurd e (by omega))
    have HH := Lib.hid h
    have HM := Lib.hid hm
    have HRR := Lib.hid hmR
    clear h hm hG hmG hR hmR
    go_wp2_with fail
    obtain ⟨⟨u0, u1, u2, u3⟩, _⟩ := at4 HRR.out
    exact bodyPost_ret (v := .tuple #[.agg #[.int .i64 12, .int .i64 0, .string ⟨#[]⟩, .slice none 0 0], .bool false]) (by simp [results, Tryz.results28, go_sem, u0, u1, u2, u3]) rfl (by rw [HRES.out]; exact ⟨none, 0, 0, false, _, _, _, rfl, World.ownsRow_nil _ _ _ _, HM.out, HH.out⟩)
  | false =>
    skip
    by_cases hlt : ev ≤ since
    case' pos =>
      have hd14 : decide (ev ≤ since) = true := decide_eq_true hlt
      refine stage 100000 ?_
      refine tag [0,1,2,3,4,5,6,7,8,9,10,11,12,13,14,15] ?_
      iterate 16 (
        refine sR (v := ?_) rfl (by kernel_rfl) (fun _ _ _ h => h) (Or.inl ⟨by kernel_rfl, ?_⟩) ?_
        rotate_left
        · (intro wS hwS; obtain ⟨hcS, hfS, hhS⟩ := bcell hwS; go_simp; try (first | (with_reducible rfl) | rw [if_pos (by omega)] | rw [if_neg (by omega)]))
        try simp only [PT])
      refine tagN ?_
      first | refine wpAnyT_done (by kernel_rfl) ?_ _ | refine wpAny_done (by kernel_rfl) ?_ _
      obtain ⟨f1, f2, f3⟩ := cm_facts (x := ⟨d, s, sz, ld, ev, since, false⟩) rfl
      have f4 := do_c (o := ⟨ki, ky, vl, rv, iff, ifr⟩) (x := ⟨d, s, sz, ld, ev, since, false⟩) rfl hlt
      have f5 := do_cl (o := ⟨ki, ky, vl, rv, iff, ifr⟩) (x := ⟨d, s, sz, ld, ev, since, false⟩) rfl hlt
      have hi2 := cm_inv hi hk
      rw [hR0] at f4 f5
      generalize cmP _ = Y at HCP f1 f2 f3 f4 f5 hi2
      obtain ⟨c0, d, s2, sz, ld, ev2, since, dead2⟩ := Y
      simp only at HCP f1 f2 f3 f4 f5 hi2
      have f1' := f1.symm
      have f2' := f2.symm
      subst f1' f2'
      have HCP1 := HCP _ h
      clear HCP hi hsn
      go_upto_region 3 with (((with_reducible refine (HCP1).mono ?_); rintro z w3 ⟨rfl, hmC, hC⟩))
      replace hR := h.far hR (by decide) (by decide) (by decide) hmC
      replace h0 := h.far h0 (by decide) (by decide) (by decide) hmC
      replace hm := hm.trans hmC
      replace hB2 := Nat.le_trans hB2 hmC.size
      clear h HCP1 hmC x0 x1 x2 x3 x4 x5 x6 xf
      have h := hC
      clear hC
      obtain ⟨⟨x0, x1, x2, x3, x4, x5, x6⟩, xf⟩ := at7 h.blk
      cases dead2
      rotate_left
      · have HRES := Lib.hid (f5 rfl)
        clear f4 f5 f3 hR0
        go_upto_region 4 with fail
        clear x0 x1 x2 x3 x4 x5 x6 xf h0
        obtain ⟨⟨r0, r1, r2, r3⟩, rf0, rf1, rf2, rf3⟩ := at4 hR
        obtain ⟨hmR, hG⟩ := At.many [(0, .int .i64 12), (1, .int .i64 0), (2, .string ⟨#[]⟩), (3, .slice none 0 0)] hR
        dsimp only [setMany, setL, List.set] at hmR hG
        have hmG := mod_one hG
        replace h := h.cell hR (by decide) (by decide) (by decide) (by decide) (by decide) hmG
        replace hm := hm.step hmG (fun i o hi _ e => absurd e (by omega))
        have HH := Lib.hid h
        have HM := Lib.hid hm
        have HRR := Lib.hid hmR
        clear h hm hG hmG hR hmR
        go_wp2_with fail
        obtain ⟨⟨u0, u1, u2, u3⟩, _⟩ := at4 HRR.out
        exact bodyPost_ret (v := .tuple #[.agg #[.int .i64 12, .int .i64 0, .string ⟨#[]⟩, .slice none 0 0], .bool false]) (by simp [results, Tryz.results28, go_sem, u0, u1, u2, u3]) rfl (by rw [HRES.out]; exact ⟨none, 0, 0, false, _, _, _, rfl, World.ownsRow_nil _ _ _ _, HM.out, HH.out⟩)
      have hRy := (f4 rfl).symm
      clear f3 f4 f5 hd14 hlt hR0
      simp only at x1 x4 x5
    case' neg =>
      have hd14 : decide (ev ≤ since) = false := decide_eq_false hlt
      skip
      refine stage 100000 ?_
      refine tag [0,1,2,3,4,5,6,7,8,9,10,11,12,13,14,15] ?_
      iterate 16 (
        refine sR (v := ?_) rfl (by kernel_rfl) (fun _ _ _ h => h) (Or.inl ⟨by kernel_rfl, ?_⟩) ?_
        rotate_left
        · (intro wS hwS; obtain ⟨hcS, hfS, hhS⟩ := bcell hwS; go_simp; try (first | (with_reducible rfl) | rw [if_pos (by omega)] | rw [if_neg (by omega)]))
        try simp only [PT])
      refine tagN ?_
      first | refine wpAnyT_done (by kernel_rfl) ?_ _ | refine wpAny_done (by kernel_rfl) ?_ _
      have hRy : apP ⟨d, s, sz, ld, ev, since, false⟩ ⟨ki, ky, vl, rv, iff, ifr⟩ = R := by rw [← hR0]; exact (do_s rfl hlt).symm
      have hi2 := hi.more (Nat.le_refl k) (Nat.le_succ m)
      clear hi HCP hd14 hlt hR0
    all_goals (
      obtain ⟨tc, tr, tv, ti, ek, evv, er, eg, wr, T, E, cq, q, HPL, F0, F1, F2, hT2, HWR⟩ := rs_plan (R := R) ⟨ki, ky, vl, rv, iff, ifr⟩ hi2 hk (by omega) hv hRy gr gq A n c hn
      simp only at HPL
      have hsn2 := hi2.sn
      simp only at hsn2
      have HF0 := Lib.hid F0
      have HF1 := Lib.hid F1
      have HF2 := Lib.hid F2
      have HT2 := Lib.hid hT2
      clear F0 F1 F2 hT2 hRy hi2 hv
      go_upto_region 5 with fail
      refine region_any (by kernel_rfl) ?_
      change wpAny _ _ _ _ _ _ _ (World.drew _)
      replace h := h.drew
      replace hm := hm.drew
      replace hR := At.drew hR
      try replace h0 := At.drew h0
      try clear x0 x1 x2 x3 x4 x5 x6 xf
      try clear y0 y1 y2 y3 y4 y5 yf
      replace hB2 : w.heap.size ≤ (World.drew _).heap.size := hB2
      generalize World.drew _ = v1 at *
      obtain ⟨⟨x0, x1, x2, x3, x4, x5, x6⟩, xf⟩ := at7 h.blk
      obtain ⟨⟨y0, y1, y2, y3, y4, y5⟩, yf⟩ := at6 h0
      have l1 := h.blk.lt
      have l0 := h0.lt
      refine stage 12 ?_
      refine tag [0,1,2,3,4] ?_
      iterate 5 (
        refine sR (v := ?_) rfl (by kernel_rfl) (fun _ _ _ h => h) (Or.inl ⟨by kernel_rfl, ?_⟩) ?_
        rotate_left
        · (intro wS hwS; obtain ⟨hcS, hfS, hhS⟩ := bcell hwS; go_simp; try (first | (with_reducible rfl) | rw [if_pos (by omega)] | rw [if_neg (by omega)]))
        try simp only [PT])
      refine tagN ?_
      clear x0 x1 x2 x3 x4 x5 x6 xf y0 y1 y2 y3 y4 y5 yf l1 l0 h0
      refine stage_three 5 10 11 (by kernel_rfl) rfl rfl rfl (by kernel_rfl) (by kernel_rfl) (by kernel_rfl) (fun K hK => ?_) (fun K hK => ?_) (fun K hK => ?_)
      skip
      go_simp
      refine (HPL _ h.own.rd).mono ?_
      rintro z v2 ⟨A5, n5, c5, rfl, hown5, hbn⟩
      refine hK.out _ _ (hbn) ?_
      clear hK K
      try simp only [PT]
      have hown := own_lower (show World.ownsRow _ _ _ _ _ _ _ from hown5) hB2
      clear hown5
      replace h := h.step hbn
      replace hm := hm.below hbn
      replace hR := hR.step hbn
      try replace h12 := h12.step hbn
      try replace h13 := h13.step hbn
      have hbs := hbn.size
      replace hB2 := Nat.le_trans hB2 hbs
      clear hbn hbs
      refine tag [6,7] ?_
      iterate 2 (
        refine sR (v := ?_) rfl (by kernel_rfl) (fun _ _ _ h => h) (Or.inl ⟨by kernel_rfl, ?_⟩) ?_
        rotate_left
        · (intro wS hwS; obtain ⟨hcS, hfS, hhS⟩ := bcell hwS; go_simp; try (first | (with_reducible rfl) | rw [if_pos (by omega)] | rw [if_neg (by omega)]))
        try simp only [PT])
      refine tagN ?_
      refine tag [8,9] ?_
      iterate 2 (
        refine sP (v := ?_) rfl (by kernel_rfl) (fun _ _ _ h => h) (Or.inl ⟨by kernel_rfl, ?_⟩) ?_
        rotate_left
        · (intro wS; go_simp; try (first | (with_reducible rfl) | rw [if_pos (by omega)] | rw [if_neg (by omega)]))
        try simp only [PT])
      refine tagN ?_
      refine stage_two 10 11 (by kernel_rfl) rfl rfl (by kernel_rfl) (by kernel_rfl) (fun K hK => ?_) (fun K hK => ?_)
      skip
      go_simp
      obtain ⟨hnew, hbn⟩ := one_at v2 54 [.int .i64 0, .int .i64 0, .string ⟨#[]⟩, .slice none 0 0]
      refine hK.out _ _ (hbn) ?_
      clear hK K
      try simp only [PT]
      have hg12 := hB2
      have hq12 := hR.lt
      replace h := h.step hbn
      replace hm := hm.below hbn
      replace hR := hR.step hbn
      try replace h12 := h12.step hbn
      try replace h13 := h13.step hbn
      try replace hown := own_below (show World.ownsRow _ _ _ _ _ _ _ from hown) hbn
      have hbs := hbn.size
      replace hB2 := Nat.le_trans hB2 hbs
      clear hbn hbs
      have h12 := hnew
      clear hnew
      generalize World.alloc v2 _ = v3 at *
      generalize v2.heap.size = g12 at *
      refine stage_one 11 (by kernel_rfl) rfl (by kernel_rfl) (fun K hK => ?_)
      go_simp
      obtain ⟨hnew, hbn⟩ := one_at v3 110 [.string ⟨#[]⟩, .string ⟨#[]⟩, .int .i64 0, .bool false]
      refine hK.out _ _ (hbn) ?_
      clear hK K
      try simp only [PT]
      have hg13 := hB2
      replace h := h.step hbn
      replace hm := hm.below hbn
      replace hR := hR.step hbn
      try replace h12 := h12.step hbn
      try replace h13 := h13.step hbn
      try replace hown := own_below (show World.ownsRow _ _ _ _ _ _ _ from hown) hbn
      have hbs := hbn.size
      replace hB2 := Nat.le_trans hB2 hbs
      clear hbn hbs
      have h13 := hnew
      clear hnew
      generalize World.alloc v3 _ = v4 at *
      generalize v3.heap.size = g13 at *
      rotate_left
      skip
      go_simp
      obtain ⟨hnew, hbn⟩ := one_at v2 110 [.string ⟨#[]⟩, .string ⟨#[]⟩, .int .i64 0, .bool false]
      refine hK.out _ _ (hbn) ?_
      clear hK K
      try simp only [PT]
      have hg13 := hB2
      replace h := h.step hbn
      replace hm := hm.below hbn
      replace hR := hR.step hbn
      try replace h12 := h12.step hbn
      try replace h13 := h13.step hbn
      try replace hown := own_below (show World.ownsRow _ _ _ _ _ _ _ from hown) hbn
      have hbs := hbn.size
      replace hB2 := Nat.le_trans hB2 hbs
      clear hbn hbs
      have h13 := hnew
      clear hnew
      generalize World.alloc v2 _ = v3 at *
      generalize v2.heap.size = g13 at *
      refine stage_one 10 (by kernel_rfl) rfl (by kernel_rfl) (fun K hK => ?_)
      go_simp
      obtain ⟨hnew, hbn⟩ := one_at v3 54 [.int .i64 0, .int .i64 0, .string ⟨#[]⟩, .slice none 0 0]
      refine hK.out _ _ (hbn) ?_
      clear hK K
      try simp only [PT]
      have hg12 := hB2
      have hq12 := hR.lt
      replace h := h.step hbn
      replace hm := hm.below hbn
      replace hR := hR.step hbn
      try replace h12 := h12.step hbn
      try replace h13 := h13.step hbn
      try replace hown := own_below (show World.ownsRow _ _ _ _ _ _ _ from hown) hbn
      have hbs := hbn.size
      replace hB2 := Nat.le_trans hB2 hbs
      clear hbn hbs
      have h12 := hnew
      clear hnew
      generalize World.alloc v3 _ = v4 at *
      generalize v3.heap.size = g12 at *
      rotate_left
      skip
      go_simp
      obtain ⟨hnew, hbn⟩ := one_at v1 54 [.int .i64 0, .int .i64 0, .string ⟨#[]⟩, .slice none 0 0]
      refine hK.out _ _ (hbn) ?_
      clear hK K
      try simp only [PT]
      have hg12 := hB2
      have hq12 := hR.lt
      replace h := h.step hbn
      replace hm := hm.below hbn
      replace hR := hR.step hbn
      try replace h12 := h12.step hbn
      try replace h13 := h13.step hbn
      try replace hown := own_below (show World.ownsRow _ _ _ _ _ _ _ from hown) hbn
      have hbs := hbn.size
      replace hB2 := Nat.le_trans hB2 hbs
      clear hbn hbs
      have h12 := hnew
      clear hnew
      generalize World.alloc v1 _ = v2 at *
      generalize v1.heap.size = g12 at *
      refine stage_two 5 11 (by kernel_rfl) rfl rfl (by kernel_rfl) (by kernel_rfl) (fun K hK => ?_) (fun K hK => ?_)
      skip
      go_simp
      refine (HPL _ h.own.rd).mono ?_
      rintro z v3 ⟨A5, n5, c5, rfl, hown5, hbn⟩
      refine hK.out _ _ (hbn) ?_
      clear hK K
      try simp only [PT]
      have hown := own_lower (show World.ownsRow _ _ _ _ _ _ _ from hown5) hB2
      clear hown5
      replace h := h.step hbn
      replace hm := hm.below hbn
      replace hR := hR.step hbn
      try replace h12 := h12.step hbn
      try replace h13 := h13.step hbn
      have hbs := hbn.size
      replace hB2 := Nat.le_trans hB2 hbs
      clear hbn hbs
      refine tag [6,7] ?_
      iterate 2 (
        refine sR (v := ?_) rfl (by kernel_rfl) (fun _ _ _ h => h) (Or.inl ⟨by kernel_rfl, ?_⟩) ?_
        rotate_left
        · (intro wS hwS; obtain ⟨hcS, hfS, hhS⟩ := bcell hwS; go_simp; try (first | (with_reducible rfl) | rw [if_pos (by omega)] | rw [if_neg (by omega)]))
        try simp only [PT])
      refine tagN ?_
      refine tag [8,9] ?_
      iterate 2 (
        refine sP (v := ?_) rfl (by kernel_rfl) (fun _ _ _ h => h) (Or.inl ⟨by kernel_rfl, ?_⟩) ?_
        rotate_left
        · (intro wS; go_simp; try (first | (with_reducible rfl) | rw [if_pos (by omega)] | rw [if_neg (by omega)]))
        try simp only [PT])
      refine tagN ?_
      refine stage_one 11 (by kernel_rfl) rfl (by kernel_rfl) (fun K hK => ?_)
      go_simp
      obtain ⟨hnew, hbn⟩ := one_at v3 110 [.string ⟨#[]⟩, .string ⟨#[]⟩, .int .i64 0, .bool false]
      refine hK.out _ _ (hbn) ?_
      clear hK K
      try simp only [PT]
      have hg13 := hB2
      replace h := h.step hbn
      replace hm := hm.below hbn
      replace hR := hR.step hbn
      try replace h12 := h12.step hbn
      try replace h13 := h13.step hbn
      try replace hown := own_below (show World.ownsRow _ _ _ _ _ _ _ from hown) hbn
      have hbs := hbn.size
      replace hB2 := Nat.le_trans hB2 hbs
      clear hbn hbs
      have h13 := hnew
      clear hnew
      generalize World.alloc v3 _ = v4 at *
      generalize v3.heap.size = g13 at *
      rotate_left
      skip
      go_simp
      obtain ⟨hnew, hbn⟩ := one_at v2 110 [.string ⟨#[]⟩, .string ⟨#[]⟩, .int .i64 0, .bool false]
      refine hK.out _ _ (hbn) ?_
      clear hK K
      try simp only [PT]
      have hg13 := hB2
      replace h := h.step hbn
      replace hm := hm.below hbn
      replace hR := hR.step hbn
      try replace h12 := h12.step hbn
      try replace h13 := h13.step hbn
      try replace hown := own_below (show World.ownsRow _ _ _ _ _ _ _ from hown) hbn
      have hbs := hbn.size
      replace hB2 := Nat.le_trans hB2 hbs
      clear hbn hbs
      have h13 := hnew
      clear hnew
      generalize World.alloc v2 _ = v3 at *
      generalize v2.heap.size = g13 at *
      refine stage_one 5 (by kernel_rfl) rfl (by kernel_rfl) (fun K hK => ?_)
      go_simp
      refine (HPL _ h.own.rd).mono ?_
      rintro z v4 ⟨A5, n5, c5, rfl, hown5, hbn⟩
      refine hK.out _ _ (hbn) ?_
      clear hK K
      try simp only [PT]
      have hown := own_lower (show World.ownsRow _ _ _ _ _ _ _ from hown5) hB2
      clear hown5
      replace h := h.step hbn
      replace hm := hm.below hbn
      replace hR := hR.step hbn
      try replace h12 := h12.step hbn
      try replace h13 := h13.step hbn
      have hbs := hbn.size
      replace hB2 := Nat.le_trans hB2 hbs
      clear hbn hbs
      refine tag [6,7] ?_
      iterate 2 (
        refine sR (v := ?_) rfl (by kernel_rfl) (fun _ _ _ h => h) (Or.inl ⟨by kernel_rfl, ?_⟩) ?_
        rotate_left
        · (intro wS hwS; obtain ⟨hcS, hfS, hhS⟩ := bcell hwS; go_simp; try (first | (with_reducible rfl) | rw [if_pos (by omega)] | rw [if_neg (by omega)]))
        try simp only [PT])
      refine tagN ?_
      refine tag [8,9] ?_
      iterate 2 (
        refine sP (v := ?_) rfl (by kernel_rfl) (fun _ _ _ h => h) (Or.inl ⟨by kernel_rfl, ?_⟩) ?_
        rotate_left
        · (intro wS; go_simp; try (first | (with_reducible rfl) | rw [if_pos (by omega)] | rw [if_neg (by omega)]))
        try simp only [PT])
      refine tagN ?_
      rotate_left
      skip
      go_simp
      obtain ⟨hnew, hbn⟩ := one_at v1 110 [.string ⟨#[]⟩, .string ⟨#[]⟩, .int .i64 0, .bool false]
      refine hK.out _ _ (hbn) ?_
      clear hK K
      try simp only [PT]
      have hg13 := hB2
      replace h := h.step hbn
      replace hm := hm.below hbn
      replace hR := hR.step hbn
      try replace h12 := h12.step hbn
      try replace h13 := h13.step hbn
      try replace hown := own_below (show World.ownsRow _ _ _ _ _ _ _ from hown) hbn
      have hbs := hbn.size
      replace hB2 := Nat.le_trans hB2 hbs
      clear hbn hbs
      have h13 := hnew
      clear hnew
      generalize World.alloc v1 _ = v2 at *
      generalize v1.heap.size = g13 at *
      refine stage_two 5 10 (by kernel_rfl) rfl rfl (by kernel_rfl) (by kernel_rfl) (fun K hK => ?_) (fun K hK => ?_)
      skip
      go_simp
      refine (HPL _ h.own.rd).mono ?_
      rintro z v3 ⟨A5, n5, c5, rfl, hown5, hbn⟩
      refine hK.out _ _ (hbn) ?_
      clear hK K
      try simp only [PT]
      have hown := own_lower (show World.ownsRow _ _ _ _ _ _ _ from hown5) hB2
      clear hown5
      replace h := h.step hbn
      replace hm := hm.below hbn
      replace hR := hR.step hbn
      try replace h12 := h12.step hbn
      try replace h13 := h13.step hbn
      have hbs := hbn.size
      replace hB2 := Nat.le_trans hB2 hbs
      clear hbn hbs
      refine tag [6,7] ?_
      iterate 2 (
        refine sR (v := ?_) rfl (by kernel_rfl) (fun _ _ _ h => h) (Or.inl ⟨by kernel_rfl, ?_⟩) ?_
        rotate_left
        · (intro wS hwS; obtain ⟨hcS, hfS, hhS⟩ := bcell hwS; go_simp; try (first | (with_reducible rfl) | rw [if_pos (by omega)] | rw [if_neg (by omega)]))
        try simp only [PT])
      refine tagN ?_
      refine tag [8,9] ?_
      iterate 2 (
        refine sP (v := ?_) rfl (by kernel_rfl) (fun _ _ _ h => h) (Or.inl ⟨by kernel_rfl, ?_⟩) ?_
        rotate_left
        · (intro wS; go_simp; try (first | (with_reducible rfl) | rw [if_pos (by omega)] | rw [if_neg (by omega)]))
        try simp only [PT])
      refine tagN ?_
      refine stage_one 10 (by kernel_rfl) rfl (by kernel_rfl) (fun K hK => ?_)
      go_simp
      obtain ⟨hnew, hbn⟩ := one_at v3 54 [.int .i64 0, .int .i64 0, .string ⟨#[]⟩, .slice none 0 0]
      refine hK.out _ _ (hbn) ?_
      clear hK K
      try simp only [PT]
      have hg12 := hB2
      have hq12 := hR.lt
      replace h := h.step hbn
      replace hm := hm.below hbn
      replace hR := hR.step hbn
      try replace h12 := h12.step hbn
      try replace h13 := h13.step hbn
      try replace hown := own_below (show World.ownsRow _ _ _ _ _ _ _ from hown) hbn
      have hbs := hbn.size
      replace hB2 := Nat.le_trans hB2 hbs
      clear hbn hbs
      have h12 := hnew
      clear hnew
      generalize World.alloc v3 _ = v4 at *
      generalize v3.heap.size = g12 at *
      rotate_left
      skip
      go_simp
      obtain ⟨hnew, hbn⟩ := one_at v2 54 [.int .i64 0, .int .i64 0, .string ⟨#[]⟩, .slice none 0 0]
      refine hK.out _ _ (hbn) ?_
      clear hK K
      try simp only [PT]
      have hg12 := hB2
      have hq12 := hR.lt
      replace h := h.step hbn
      replace hm := hm.below hbn
      replace hR := hR.step hbn
      try replace h12 := h12.step hbn
      try replace h13 := h13.step hbn
      try replace hown := own_below (show World.ownsRow _ _ _ _ _ _ _ from hown) hbn
      have hbs := hbn.size
      replace hB2 := Nat.le_trans hB2 hbs
      clear hbn hbs
      have h12 := hnew
      clear hnew
      generalize World.alloc v2 _ = v3 at *
      generalize v2.heap.size = g12 at *
      refine stage_one 5 (by kernel_rfl) rfl (by kernel_rfl) (fun K hK => ?_)
      go_simp
      refine (HPL _ h.own.rd).mono ?_
      rintro z v4 ⟨A5, n5, c5, rfl, hown5, hbn⟩
      refine hK.out _ _ (hbn) ?_
      clear hK K
      try simp only [PT]
      have hown := own_lower (show World.ownsRow _ _ _ _ _ _ _ from hown5) hB2
      clear hown5
      replace h := h.step hbn
      replace hm := hm.below hbn
      replace hR := hR.step hbn
      try replace h12 := h12.step hbn
      try replace h13 := h13.step hbn
      have hbs := hbn.size
      replace hB2 := Nat.le_trans hB2 hbs
      clear hbn hbs
      refine tag [6,7] ?_
      iterate 2 (
        refine sR (v := ?_) rfl (by kernel_rfl) (fun _ _ _ h => h) (Or.inl ⟨by kernel_rfl, ?_⟩) ?_
        rotate_left
        · (intro wS hwS; obtain ⟨hcS, hfS, hhS⟩ := bcell hwS; go_simp; try (first | (with_reducible rfl) | rw [if_pos (by omega)] | rw [if_neg (by omega)]))
        try simp only [PT])
      refine tagN ?_
      refine tag [8,9] ?_
      iterate 2 (
        refine sP (v := ?_) rfl (by kernel_rfl) (fun _ _ _ h => h) (Or.inl ⟨by kernel_rfl, ?_⟩) ?_
        rotate_left
        · (intro wS; go_simp; try (first | (with_reducible rfl) | rw [if_pos (by omega)] | rw [if_neg (by omega)]))
        try simp only [PT])
      refine tagN ?_
      rotate_left
      skip
      all_goals (
        go_simp
        obtain ⟨⟨z0, z1, z2, z3⟩, zf0, zf1, zf2, zf3⟩ := at4 h12
        have l12 := h12.lt

        refine stage_end (by kernel_rfl) rfl (fun K hK => ?_)
        go_simp
        refine hK.out _ _ ?_
        clear hK K
        try simp only [PT]
        obtain ⟨hm12, hG⟩ := At.many [(0, .int .i64 tc), (1, .int .i64 tr), (2, .string tv), (3, .slice A5 n5 c5)] h12
        dsimp only [setMany, setL, List.set] at hm12 hG
        have hmG := mod_one hG
        replace h := h.cell h12 (by decide) (by decide) (by decide) (by decide) (by decide) hmG
        replace hm := hm.step hmG (fun i o hi _ e => absurd e (by omega))
        replace hR := hmG.at hR (by omega)
        replace h13 := hmG.at h13 (At.ne h13 h12 (by decide))
        replace hown := own_mod hown hmG (fun i o ho _ hit e => isT_at h12 ho hit (by decide) e)
        replace hB2 := Nat.le_trans hB2 hmG.size
        clear z0 z1 z2 z3 zf0 zf1 zf2 zf3 l12 hG hmG h12
        generalize World.setCell _ _ _ = v11 at *
        obtain ⟨⟨z0, z1, z2, z3⟩, zf0, zf1, zf2, zf3⟩ := at4 h13
        have l13 := h13.lt
        refine stage 13 ?_

        refine stage_end (by kernel_rfl) rfl (fun K hK => ?_)
        go_simp
        refine hK.out _ _ ?_
        clear hK K
        try simp only [PT]
        first | refine stage 1000000 ?_ | skip
        refine tag [14] ?_
        refine sR (v := ?_) rfl (by kernel_rfl) (fun _ _ _ h => h) (Or.inl ⟨by kernel_rfl, ?_⟩) ?_
        rotate_left
        · (intro wS hwS; obtain ⟨hcS, hfS, hhS⟩ := bcell hwS; go_simp; try (first | (with_reducible rfl) | rw [if_pos (by omega)] | rw [if_neg (by omega)]))
        try simp only [PT]
        refine tagN ?_
        first | refine wpAnyT_done (by kernel_rfl) ?_ _ | refine wpAny_done (by kernel_rfl) ?_ _
        obtain ⟨hm13, hG⟩ := At.many [(0, .string ek), (1, .string evv), (2, .int .i64 er), (3, .bool eg)] h13
        dsimp only [setMany, setL, List.set] at hm13 hG
        have hmG := mod_one hG
        replace h := h.cell h13 (by decide) (by decide) (by decide) (by decide) (by decide) hmG
        replace hm := hm.step hmG (fun i o hi _ e => absurd e (by omega))
        replace hR := hmG.at hR (At.ne hR h13 (by decide))
        replace hm12 := hmG.at hm12 (At.ne hm12 h13 (by decide))
        replace hown := own_mod hown hmG (fun i o ho _ hit e => isT_at h13 ho hit (by decide) e)
        replace hB2 := Nat.le_trans hB2 hmG.size
        clear z0 z1 z2 z3 zf0 zf1 zf2 zf3 l13 hG hmG h13
        generalize World.setCell _ _ _ = v12 at *
        cases wr with
        | false =>
          have HRES := Lib.hid (HF0.out rfl)
          clear HWR HF0 HF1 HF2 hm13
          go_upto_region 7 with fail
          obtain ⟨⟨z0, z1, z2, z3⟩, zf0, zf1, zf2, zf3⟩ := at4 hm12
          obtain ⟨⟨r0, r1, r2, r3⟩, rf0, rf1, rf2, rf3⟩ := at4 hR
          obtain ⟨hmR, hG⟩ := At.many [(0, .int .i64 tc), (1, .int .i64 tr), (2, .string tv), (3, .slice A5 n5 c5)] hR
          dsimp only [setMany, setL, List.set] at hmR hG
          have hmG := mod_one hG
          replace h := h.cell hR (by decide) (by decide) (by decide) (by decide) (by decide) hmG
          replace hm := hm.step hmG (fun i o hi _ e => absurd e (by omega))
          replace hown := own_mod hown hmG (fun i o ho _ hit e => isT_at hR ho hit (by decide) e)
          have HH := Lib.hid h
          have HM := Lib.hid hm
          have HOW := Lib.hid hown
          have HRR := Lib.hid hmR
          clear h hm hown hG hmG hm12 hR hmR
          go_wp2_with fail
          obtain ⟨⟨u0, u1, u2, u3⟩, _⟩ := at4 HRR.out
          exact bodyPost_ret (v := .tuple #[.agg #[.int .i64 tc, .int .i64 tr, .string tv, .slice A5 n5 c5], .bool false]) (by simp [results, Tryz.results28, go_sem, u0, u1, u2, u3]) rfl (by rw [HRES.out]; exact ⟨A5, n5, c5, false, _, _, _, rfl, own_lower HOW.out (Nat.le_refl _), HM.out, HH.out⟩)
        | true =>
          go_upto_region 8 with fail
          obtain ⟨hts, HPT, HAP, HAY⟩ := HWR rfl
          refine region_any (by kernel_rfl) ?_
          change wpAny _ _ _ _ _ _ _ (World.drew _)
          replace h := h.drew
          replace hm := hm.drew
          replace hR := At.drew hR
          replace hm12 := At.drew hm12
          replace hm13 := At.drew hm13
          replace hown := own_below hown (Below.drew (Below.refl _ _))
          replace hB2 : w.heap.size ≤ (World.drew v12).heap.size := hB2
          generalize World.drew _ = v13 at *
          obtain ⟨⟨x0, x1, x2, x3, x4, x5, x6⟩, xf⟩ := at7 h.blk
          obtain ⟨⟨y0, y1, y2, y3⟩, yf⟩ := at4 hm13
          have l1 := h.blk.lt
          have l0 := hm13.lt
          refine stage 7 ?_
          refine tag [0,1,2,3,4] ?_
          iterate 5 (
            refine sR (v := ?_) rfl (by kernel_rfl) (fun _ _ _ h => h) (Or.inl ⟨by kernel_rfl, ?_⟩) ?_
            rotate_left
            · (intro wS hwS; obtain ⟨hcS, hfS, hhS⟩ := bcell hwS; go_simp; try (first | (with_reducible rfl) | rw [if_pos (by omega)] | rw [if_neg (by omega)]))
            try simp only [PT])
          refine tagN ?_
          refine stage_one 5 (by kernel_rfl) rfl (by kernel_rfl) (fun K hK => ?_)
          go_simp
          refine (HPT _).mono ?_
          rintro z v14 ⟨rfl, hbn⟩
          refine hK.out _ _ (hbn) ?_
          clear hK K
          try simp only [PT]
          clear x0 x1 x2 x3 x4 x5 x6 xf y0 y1 y2 y3 yf l1 l0
          replace hm12 := hm12.step hbn
          replace hm13 := hm13.step hbn
          replace h := h.step hbn
          replace hm := hm.below hbn
          replace hR := hR.step hbn
          try replace h12 := h12.step hbn
          try replace h13 := h13.step hbn
          try replace hown := own_below (show World.ownsRow _ _ _ _ _ _ _ from hown) hbn
          have hbs := hbn.size
          replace hB2 := Nat.le_trans hB2 hbs
          clear hbn hbs
          obtain ⟨cap, v15, hcv, hrd, hbn⟩ := conv_bytes6 T v14 (by omega)
          rw [HT2.out] at hrd

          refine stage_one 6 (by kernel_rfl) rfl (by kernel_rfl) (fun K hK => ?_)
          go_simp
          refine hK.out _ _ (hbn) ?_
          clear hK K
          try simp only [PT]
          replace hm12 := hm12.step hbn
          replace hm13 := hm13.step hbn
          replace h := h.step hbn
          replace hm := hm.below hbn
          replace hR := hR.step hbn
          try replace h12 := h12.step hbn
          try replace h13 := h13.step hbn
          try replace hown := own_below (show World.ownsRow _ _ _ _ _ _ _ from hown) hbn
          have hbs := hbn.size
          replace hB2 := Nat.le_trans hB2 hbs
          clear hbn hbs
          clear hcv

          refine stage_end (by kernel_rfl) rfl (fun K hK => ?_)
          go_simp
          refine (HAP _ _ _ _ h.v hrd (by omega)).mono ?_
          rintro z v16 ⟨rfl, hmA, hvA⟩
          refine hK.out _ _ ?_
          clear hK K
          try simp only [PT]
          first | refine stage 1000000 ?_ | skip
          refine tag [8] ?_
          refine sR (v := ?_) rfl (by kernel_rfl) (fun _ _ _ h => h) (Or.inl ⟨by kernel_rfl, ?_⟩) ?_
          rotate_left
          · (intro wS hwS; obtain ⟨hcS, hfS, hhS⟩ := bcell hwS; go_simp; try (first | (with_reducible rfl) | rw [if_pos (by omega)] | rw [if_neg (by omega)]))
          try simp only [PT]
          refine tagN ?_
          first | refine wpAnyT_done (by kernel_rfl) ?_ _ | refine wpAny_done (by kernel_rfl) ?_ _
          replace hm12 := h.far hm12 (by decide) (by decide) (by decide) (mdq hmA)
          replace hm13 := h.far hm13 (by decide) (by decide) (by decide) (mdq hmA)
          replace hR := h.far hR (by decide) (by decide) (by decide) (mdq hmA)
          replace hown := own_mod hown (mdq (gt := gt) hmA) (fun i o ho _ hit => h.farT ho hit (by decide) (by decide) (by decide))
          replace hm := hm.trans (mdq hmA)
          replace hB2 := Nat.le_trans hB2 hmA.size
          have h2 := h.log hmA hvA
          clear h hmA hvA hrd HPT HAP hts
          have h := h2
          clear h2
          obtain ⟨⟨x0, x1, x2, x3, x4, x5, x6⟩, xf⟩ := at7 h.blk
          by_cases hq : cq = 0
          · have hq1 : (cq != 0) = false := by simpa using hq
            have HRES := Lib.hid (HF2.out rfl hq)
            clear hq HF0 HF1 HF2
            go_upto_region 11 with fail
            refine region_any (by kernel_rfl) ?_
            change wpAny _ _ _ _ _ _ _ (World.drew _)
            replace h := h.drew
            replace hm := hm.drew
            replace hR := At.drew hR
            replace hm12 := At.drew hm12
            replace hm13 := At.drew hm13
            replace hown := own_below hown (Below.drew (Below.refl _ _))
            replace hB2 : w.heap.size ≤ (World.drew v16).heap.size := hB2
            clear x0 x1 x2 x3 x4 x5 x6 xf hq1
            generalize World.drew _ = v17 at *
            obtain ⟨⟨x0, x1, x2, x3, x4, x5, x6⟩, xf⟩ := at7 h.blk
            obtain ⟨⟨y0, y1, y2, y3⟩, yf⟩ := at4 hm13
            have l1 := h.blk.lt
            have l0 := hm13.lt
            refine stage 9 ?_
            refine tag [0,1,2,3,4,5] ?_
            iterate 6 (
              refine sR (v := ?_) rfl (by kernel_rfl) (fun _ _ _ h => h) (Or.inl ⟨by kernel_rfl, ?_⟩) ?_
              rotate_left
              · (intro wS hwS; obtain ⟨hcS, hfS, hhS⟩ := bcell hwS; go_simp; try (first | (with_reducible rfl) | rw [if_pos (by omega)] | rw [if_neg (by omega)]))
              try simp only [PT])
            refine tagN ?_
            refine stage_one 6 (by kernel_rfl) rfl (by kernel_rfl) (fun K hK => ?_)
            go_simp
            refine (HAY _ h.own.rd).mono ?_
            rintro z v18 ⟨A2, n2, c2, rfl, hown2, hbn⟩
            refine hK.out _ _ (hbn) ?_
            clear hK K
            try simp only [PT]
            clear x0 x1 x2 x3 x4 x5 x6 xf y0 y1 y2 y3 yf l1 l0 HAY
            have hown3 := own_lower (show World.ownsRow _ _ _ _ _ _ _ from hown2) (Nat.le_trans hBw hB2)
            replace hm12 := hm12.step hbn
            clear hown2 hm13
            replace h := h.step hbn
            replace hm := hm.below hbn
            replace hR := hR.step hbn
            try replace h12 := h12.step hbn
            try replace h13 := h13.step hbn
            try replace hown := own_below (show World.ownsRow _ _ _ _ _ _ _ from hown) hbn
            have hbs := hbn.size
            replace hB2 := Nat.le_trans hB2 hbs
            clear hbn hbs
            obtain ⟨⟨x0, x1, x2, x3, x4, x5, x6⟩, xf⟩ := at7 h.blk
            have l1 := h.blk.lt
            refine tag [7,8] ?_
            iterate 2 (
              refine sR (v := ?_) rfl (by kernel_rfl) (fun _ _ _ h => h) (Or.inl ⟨by kernel_rfl, ?_⟩) ?_
              rotate_left
              · (intro wS hwS; obtain ⟨hcS, hfS, hhS⟩ := bcell hwS; go_simp; try (first | (with_reducible rfl) | rw [if_pos (by omega)] | rw [if_neg (by omega)]))
              try simp only [PT])
            refine tagN ?_
            refine stage_end (by kernel_rfl) rfl (fun K hK => ?_)
            go_simp
            refine hK.out _ _ ?_
            clear hK K
            try simp only [PT]
            first | refine wpAnyT_done (by kernel_rfl) ?_ _ | refine wpAny_done (by kernel_rfl) ?_ _
            obtain ⟨hT, hG⟩ := At.many [(1, .int .i64 er), (2, .slice A2 n2 c2)] h.blk
            dsimp only [setMany, setL, List.set] at hT hG
            have hmG := mod_one hG
            have hown4 := own_mod hown3 hmG (fun i o ho _ hit => isT_at h.blk ho hit (by decide))
            have h2 := h.turn (s' := ⟨er, applyL ⟨ek, evv, er⟩ eg s.l⟩) hmG hT hown4
            replace hR := hmG.at hR (At.ne hR h.blk (by decide))
            replace hm12 := hmG.at hm12 (At.ne hm12 h.blk (by decide))
            replace hown := own_mod hown hmG (fun i o ho _ hit e => isT_at h.blk ho hit (by decide) e)
            replace hm := hm.trans (mdt hmG)
            clear x0 x1 x2 x3 x4 x5 x6 xf l1 hT hG hown3 hown4 hmG h hB2
            have h := h2
            clear h2
            generalize World.setCell _ _ _ = v19 at *
            obtain ⟨⟨x0, x1, x2, x3, x4, x5, x6⟩, xf⟩ := at7 h.blk
            obtain ⟨hT, hG⟩ := At.many [(5, .int .i64 (since + 1))] h.blk
            dsimp only [setMany, setL, List.set] at hT hG
            have hmG := mod_one hG
            have h2 := h.turn (s' := ⟨er, applyL ⟨ek, evv, er⟩ eg s.l⟩) hmG hT (h.ownT hmG)
            replace hR := hmG.at hR (At.ne hR h.blk (by decide))
            replace hm12 := hmG.at hm12 (At.ne hm12 h.blk (by decide))
            replace hown := own_mod hown hmG (fun i o ho _ hit e => isT_at h.blk ho hit (by decide) e)
            replace hm := hm.trans (mdt hmG)
            clear hT hG hmG h
            have h := h2
            clear h2
            go_upto_region 13 with fail
            clear x0 x1 x2 x3 x4 x5 x6 xf
            generalize World.setCell _ _ _ = v20 at *
            obtain ⟨⟨z0, z1, z2, z3⟩, zf0, zf1, zf2, zf3⟩ := at4 hm12
            obtain ⟨⟨r0, r1, r2, r3⟩, rf0, rf1, rf2, rf3⟩ := at4 hR
            obtain ⟨hmR, hG⟩ := At.many [(0, .int .i64 tc), (1, .int .i64 tr), (2, .string tv), (3, .slice A5 n5 c5)] hR
            dsimp only [setMany, setL, List.set] at hmR hG
            have hmG := mod_one hG
            replace h := h.cell hR (by decide) (by decide) (by decide) (by decide) (by decide) hmG
            replace hm := hm.step hmG (fun i o hi _ e => absurd e (by omega))
            replace hown := own_mod hown hmG (fun i o ho _ hit e => isT_at hR ho hit (by decide) e)
            have HH := Lib.hid h
            have HM := Lib.hid hm
            have HOW := Lib.hid hown
            have HRR := Lib.hid hmR
            clear h hm hown hG hmG hm12 hR hmR
            go_wp2_with fail
            obtain ⟨⟨u0, u1, u2, u3⟩, _⟩ := at4 HRR.out
            exact bodyPost_ret (v := .tuple #[.agg #[.int .i64 tc, .int .i64 tr, .string tv, .slice A5 n5 c5], .bool false]) (by simp [results, Tryz.results28, go_sem, u0, u1, u2, u3]) rfl (by rw [HRES.out]; exact ⟨A5, n5, c5, false, _, _, _, rfl, own_lower HOW.out (Nat.le_refl _), HM.out, HH.out⟩)
          · have hq1 : (cq != 0) = true := by simpa using hq
            have HRES := Lib.hid (HF1.out rfl hq)
            clear hq HF0 HF1 HF2 HAY hm12 hm13 hown
            obtain ⟨hT, hG⟩ := At.many [(6, .bool true)] h.blk
            dsimp only [setMany, setL, List.set] at hT hG
            have hmG := mod_one hG
            have h2 := h.turn hmG hT (h.ownT hmG)
            replace hR := hmG.at hR (At.ne hR h.blk (by decide))
            replace hm := hm.trans (mdt hmG)
            clear hT hG hmG h
            have h := h2
            clear h2
            go_upto_region 10 with fail
            clear x0 x1 x2 x3 x4 x5 x6 xf hq1
            generalize World.setCell _ _ _ = v19 at *
            obtain ⟨⟨r0, r1, r2, r3⟩, rf0, rf1, rf2, rf3⟩ := at4 hR
            obtain ⟨hmR, hG⟩ := At.many [(0, .int .i64 12), (1, .int .i64 0), (2, .string ⟨#[]⟩), (3, .slice none 0 0)] hR
            dsimp only [setMany, setL, List.set] at hmR hG
            have hmG := mod_one hG
            replace h := h.cell hR (by decide) (by decide) (by decide) (by decide) (by decide) hmG
            replace hm := hm.step hmG (fun i o hi _ e => absurd e (by omega))
            have HH := Lib.hid h
            have HM := Lib.hid hm
            have HRR := Lib.hid hmR
            clear h hm hG hmG hR hmR
            go_wp2_with fail
            obtain ⟨⟨u0, u1, u2, u3⟩, _⟩ := at4 HRR.out
            exact bodyPost_ret (v := .tuple #[.agg #[.int .i64 12, .int .i64 0, .string ⟨#[]⟩, .slice none 0 0], .bool true]) (by simp [results, Tryz.results28, go_sem, u0, u1, u2, u3]) rfl (by rw [HRES.out]; exact ⟨none, 0, 0, true, _, _, _, rfl, World.ownsRow_nil _ _ _ _, HM.out, HH.out⟩)
        )
      )
end
end Go.Proofs.YtnkjekkdndjfaaaGreat
