
/- The law StoreSure: the Go function returns true, at whatever writes the disk is lost, whatever crashes leave. -/
import Derived.Test.YtnkjekkdndjfaaaGreatStoreSure
import Derived.Test.YtnkjekkdndjfaaaGreatStoreStays
import Derived.Test.YtnkjekkdndjfaaaGreatKvRDo
import Derived.Test.YtnkjekkdndjfaaaGreatOpenAsk
namespace Go.Proofs.YtnkjekkdndjfaaaGreat
set_option linter.unusedVariables false
set_option linter.unusedSimpArgs false
open Go.RowKit
/-- a crash: what is kept, and at which write the disk is lost -/
structure Cr where
  A : Option Addr
  kn : Nat
  kc : Nat
  a : Nat
def Cr.row (x : Cr) : List Value := [.slice x.A x.kn x.kc, .int .u8 (x.a : Int)]
theorem Cr.row_length (x : Cr) : x.row.length = 2 := rfl
def Cr.keeps (W : World) (x : Cr) : Prop := x.a < 256 ∧ ∃ ks : List Nat, RdK W W.heap.size x.A x.kn x.kc ks ∧ ∀ k ∈ ks, k < 65536
theorem s11_lit {w : World} {B g8 g11 : Nat} {m : Kst} {cr : List Value} {ms : List Kst} {Am : Option Addr} {mn cm : Nat} {ns : List Kst} {g : Nat} (h : Mem w B g8 g11 m cr ms Am mn cm) (hg : At w g 41 (ns.flatMap Kst.row)) (hB : B ≤ g) (hl : ns.length ≤ 2) (hn : ∀ x ∈ ns, OwnRI w B x.A x.n x.c x.l) : Mem w B g8 g11 m cr ns (some ⟨g, 0, none⟩) ns.length ns.length :=
  ⟨h.st, h.cr, h.own, own_lit6 hg (flat_length Kst.row_length ns) (by simp only [maxLen]; omega) B hB, hn⟩
set_option maxRecDepth 100000 in
set_option maxHeartbeats 8000000 in
theorem storeSure_walk {q : Nat} (hq : q < 256) {A : Option Addr} {n c : Nat} {L : List Ask} {A2 : Option Addr} {n2 c2 : Nat} {C : List Cr} (w : World) (hr : Rd w w.heap.size 6 A n c (L.flatMap Ask.row)) (hf : ∀ o ∈ L, o.fits) (hr2 : Rd w w.heap.size 2 A2 n2 c2 (C.flatMap Cr.row)) (hc : ∀ x ∈ C, x.keeps w) :
    Calls Tryz.prog 4 #[.int .u8 (q : Int), .slice A n c, .slice A2 n2 c2] w fun x w' => x = .returned (.bool true) ∧ Below w.heap.size w w' := by
  have hln := Rd.count Ask.row_length (by omega) hr
  have hln2 := Rd.count Cr.row_length (by omega) hr2
  have hmax := hr.max
  have hle := hr.le
  have hmax2 := hr2.max
  have hle2 := hr2.le
  unfold maxLen at hmax hmax2
  subst hln hln2
  have HR := Lib.hid hr
  have HF := Lib.hid hf
  have HC := Lib.hid hr2
  have HCK := Lib.hid hc
  clear hr hf hr2 hc
  have hwq : IntKind.i64.wrap (q : Int) = (q : Int) := IntWalk.i64_in _ (by omega)
  go_enter Tryz.func4, Tryz.ntmps4
  go_upto_region 2 with (((with_reducible refine ((pd_new w)).mono ?_); rintro z w1 ⟨gd, bd, rfl, hd, hwb, hbg, hb1⟩))
  have hwd : w.heap.size ≤ gd := by omega
  obtain ⟨h8, hb2⟩ := one_at w1 41 [.int .i64 0, .slice none 0 0]
  have hw8 : w.heap.size ≤ w1.heap.size := hb1.size
  have HD0 := Lib.hid ((hd.step hb2).more (show 0 ≤ 240 * 0 by omega))
  have HB0 := Lib.hid (chain hb1 hb2)
  have H8 := Lib.hid h8
  clear hd hb1 hb2 h8
  go_upto_region 3 with fail
  generalize World.alloc _ _ = w2 at *
  generalize w1.heap.size = g8 at *
  go_wp2_with fail
  go_loopw [9, 28] (fun at_ i wr => ∃ (j k N : Nat) (d : PD) (s s0 : SL) (ws : List (List UInt8)) (A4 : Option Addr) (n4 c4 : Nat), at_ = .int .i64 (k : Int) ∧ i = .int .i64 (j : Int) ∧ j ≤ C.length ∧ j ≤ 5 ∧ k ≤ L.length ∧ k ≤ 12 * j ∧ IsD wr gd bd (240 * j) d ∧ d.Ok 16000 (2 * k) ∧ d.lost = false ∧ d.armed = false ∧ Hold d s0 ws s k ∧ SI s k ∧ At wr g8 41 [.int .i64 s.rev, .slice A4 n4 c4] ∧ OwnRI wr w.heap.size A4 n4 c4 s.l ∧ Below w.heap.size w wr) (fun _ i _ => C.length - (intOf i).toNat)
  case atStart => exact ⟨0, 0, 0, PD.new, ⟨0, []⟩, ⟨0, []⟩, [], none, 0, 0, rfl, rfl, Nat.zero_le _, by omega, Nat.zero_le _, by omega, HD0.out, PD.Ok.new.mono (Nat.zero_le _) (Nat.zero_le _), rfl, rfl, ⟨.inl ⟨rfl, rfl⟩, ⟨Inv9.nil, (fun x hx => by cases hx), Nat.le_refl _⟩, .inl ⟨rfl, rfl⟩, (fun p hp => by cases hp), Nat.le_refl _, rfl⟩, ⟨Inv9.nil, (fun x hx => by cases hx), Nat.le_refl _⟩, H8.out, World.ownsRow_nil _ _ _ _, HB0.out⟩
  case round =>
    clear HD0 HB0 H8
    obtain ⟨j, k, N, d, s, s0, ws, A4, n4, c4, rfl, rfl, hj, hj5, hk, hk12, hd, hok, hl, ha, hh, hsi, h8, how, hB⟩ := hrel
    by_cases hlt : j < C.length
    · obtain ⟨ga, off, ee, hga, he⟩ := HC.out.elem Cr.row_length (by omega) (k := j) hlt
      subst ee
      have hbc := bcell (Below.mono (B := w.heap.size) hB (Nat.le_refl _))
      have e0 := (hbc.1 _ _ hga).trans (he 0 _ rfl)
      have e1 := (hbc.1 _ _ hga).trans (he 1 _ rfl)
      rw [Nat.add_zero] at e0
      obtain ⟨hca, ks, hks1, hks2⟩ := HCK.out _ (List.getElem_mem hlt)
      have HK := Lib.hid hks1
      have HKS := Lib.hid hks2
      clear he hbc hks1 hks2
      generalize C[j] = y at *
      obtain ⟨Ak, nk, ck, a⟩ := y
      simp only at e0 e1 HK hca
      have hwa : IntKind.i64.wrap (a : Int) = (a : Int) := IntWalk.i64_in _ (by omega)
      obtain ⟨h11, hb6⟩ := one_at wr 44 [.slice Ak nk ck, .int .u8 (a : Int)]
      have hM : Mem _ w.heap.size g8 wr.heap.size ⟨s.rev, A4, n4, c4, s.l⟩ [.slice Ak nk ck, .int .u8 (a : Int)] [] none 0 0 := ⟨h8.step hb6, h11, OwnRI.step how hb6, World.ownsRow_nil _ _ _ _, (fun x hx => by cases hx)⟩
      replace hd := hd.step hb6
      have hz6 := hB.size
      replace hB := hB.trans (hb6.mono hB.size)
      go_upto_region 7 with fail
      clear e0 e1 hb6 h8 h11 how hga
      generalize World.alloc _ _ = w2 at *
      generalize wr.heap.size = g11 at *
      by_cases hj4 : j < 5
      · have hdj : decide ((j : Int) ≥ 5) = false := decide_eq_false (by omega)
        obtain ⟨ev, hev⟩ : ∃ ev, max ((q : Int) % 6) 1 = ev := ⟨_, rfl⟩
        have hev1 : 1 ≤ ev := by omega
        have hz2 := hB.size
        have HO := open_rdy ((q : Int) % 6) w2 hd (hh.rdy hl ha) hh.rp hok (by omega) (by omega) (by omega)
        unfold OPN SOK at HO
        rw [hev] at HO
        clear hh hl ha hev
        go_upto_region 9 with (((with_reducible refine (HO).mono ?_); rintro z w3 ⟨d1, sz1, ⟨gs, gst, bst, Ns1, gl, rfl, h, hNs1, hg, hm3⟩, hok1, hl1, ha1, hh1, hz1⟩))
        replace hM := hM.dk hd hm3
        replace hB := hB.trans (mod2s hm3 hwd hwb hB.size)
        have hg1 : w.heap.size ≤ gs ∧ w.heap.size ≤ gst ∧ w.heap.size ≤ bst ∧ w.heap.size ≤ gl := by omega
        clear HO hd hm3 hok hg
        refine region_any (by kernel_rfl) ?_
        change wpAny _ _ _ _ _ _ _ (World.drew _)
        replace hB := chain hB (Below.drew (Below.refl _ _))
        replace h := h.drew
        replace hM := hM.drew
        generalize World.drew _ = w3 at *
        obtain ⟨⟨x0, x1⟩, xf⟩ := at2 (show At _ _ _ [_, _] from hM.st)
        have l8 := hM.st.lt
        have hri := hM.own.rd
        refine stage 100000 ?_
        refine tag [0,1,2,3,5,6] ?_
        iterate 6 (
          refine sR (v := ?_) rfl (by kernel_rfl) (fun _ _ _ h => h) (Or.inl ⟨by kernel_rfl, ?_⟩) ?_
          rotate_left
          · (intro wS hwS; obtain ⟨hcS, hfS, hhS⟩ := bcell hwS; go_simp; try (first | (with_reducible rfl) | rw [if_pos (by omega)] | rw [if_neg (by omega)]))
          try simp only [PT])
        refine tagN ?_
        refine stage_one 4 (by kernel_rfl) rfl (by kernel_rfl) (fun K hK => ?_)
        go_simp
        refine (srev_any _ h.blk h.st).mono ?_
        rintro z w4 ⟨rfl, rfl⟩
        refine hK.out _ _ ((Below.refl _ _)) ?_
        clear hK K
        try simp only [PT]
        refine tag [7,8,9,10,12,13] ?_
        iterate 6 (
          refine sR (v := ?_) rfl (by kernel_rfl) (fun _ _ _ h => h) (Or.inl ⟨by kernel_rfl, ?_⟩) ?_
          rotate_left
          · (intro wS hwS; obtain ⟨hcS, hfS, hhS⟩ := bcell hwS; go_simp; try (first | (with_reducible rfl) | rw [if_pos (by omega)] | rw [if_neg (by omega)]))
          try simp only [PT])
        refine tagN ?_
        refine stage_one 11 (by kernel_rfl) rfl (by kernel_rfl) (fun K hK => ?_)
        go_simp
        refine (sall_any _ h.blk h.st (by omega) hsi.ks.sizes).mono ?_
        rintro z w5 ⟨A7, n7, c7, rfl, hown7, hb7⟩
        refine hK.out _ _ (hb7) ?_
        clear hK K
        try simp only [PT]
        replace hB := chain hB hb7
        replace h := h.step hb7
        replace hM := hM.step hb7
        clear x0 x1 xf l8 hri
        obtain ⟨⟨x0, x1⟩, xf⟩ := at2 (show At _ _ _ [_, _] from hM.st)
        have l8 := hM.st.lt
        have hri := hM.own.rd

        refine stage_one 14 (by kernel_rfl) rfl (by kernel_rfl) (fun K hK => ?_)
        go_simp
        refine (sitems_any A7 A4 n7 c7 n4 c4 s.l _ hown7.rd hri).mono ?_
        rintro z w6 ⟨rfl, hb9⟩
        refine hK.out _ _ (hb9) ?_
        clear hK K
        try simp only [PT]
        replace hB := chain hB hb9
        replace h := h.step hb9
        replace hM := hM.step hb9
        refine tag [15,16] ?_
        iterate 2 (
          refine sR (v := ?_) rfl (by kernel_rfl) (fun _ _ _ h => h) (Or.inl ⟨by kernel_rfl, ?_⟩) ?_
          rotate_left
          · (intro wS hwS; obtain ⟨hcS, hfS, hhS⟩ := bcell hwS; go_simp; try (first | (with_reducible rfl) | rw [if_pos (by omega)] | rw [if_neg (by omega)]))
          try simp only [PT])
        refine tagN ?_
        first | refine wpAnyT_done (by kernel_rfl) ?_ _ | refine wpAny_done (by kernel_rfl) ?_ _
        clear x0 x1 xf l8 hri hown7 hb7 hb9
        go_upto_region 11 with fail
        obtain ⟨⟨x0, x1⟩, xf⟩ := at2 (show At _ _ _ [_, _] from hM.cr)
        have HAR := pd_arm ((a : Int) % 24) (by omega) _ h.dk
        go_upto_region 12 with (((with_reducible refine (HAR).mono ?_); rintro z w7 ⟨rfl, hm7, hd7⟩))
        replace hM := hM.dk h.dk hm7
        replace hB := hB.trans (mod2s hm7 hwd hwb hB.size)
        replace h := h.disk hm7 hd7
        have hok7 := ok_arm hok1 ((a : Int) % 24) (by omega)
        have hh7 : Hold (d1.arm ((a : Int) % 24)) s0 ws s k := hh1.same rfl rfl (Nat.le_refl _)
        have hl7 : (d1.arm ((a : Int) % 24)).lost = false := hl1
        clear HAR hm7 hd7 hok1 hh1 hl1 ha1 x0 x1 xf hwa
        generalize d1.arm ((a : Int) % 24) = d7 at *
        obtain ⟨⟨x0, x1⟩, xf⟩ := at2 (show At _ _ _ [_, _] from hM.st)
        obtain ⟨hnew, hbn⟩ := one_at w7 41 [.int .i64 s.rev, .slice A4 n4 c4]
        replace hM := hM.step hbn
        replace hM := s11_lit (ns := [⟨s.rev, A4, n4, c4, s.l⟩]) hM hnew hB.size (by simp) (fun x hx => by simp only [List.mem_singleton] at hx; subst hx; exact hM.own)
        replace h := h.step hbn
        replace hB := hB.trans (hbn.mono hB.size)
        go_upto_region 13 with fail
        clear hnew hbn x0 x1 xf
        generalize World.alloc _ _ = w8 at *
        generalize w7.heap.size = g14 at *
        have HM0 := Lib.hid hM
        have H0 := Lib.hid (h.more (N' := 240 * j + 1 + 8 * 0) (Ns' := 32000 + 0) (by omega) (by omega))
        have HB0 := Lib.hid hB
        have HH0 := Lib.hid hh7
        have HOK0 := Lib.hid hok7
        have HSI0 := Lib.hid hsi
        clear hM h hB hh7 hok7 hsi
        go_wp2_with fail
        go_loopw [9, 14, 15] (fun at_ may nn wr => ∃ (kq m : Nat) (d : PD) (s s0 : SL) (ws : List (List UInt8)) (A4 : Option Addr) (n4 c4 : Nat) (sz since : Int) (Am : Option Addr) (cm : Nat), at_ = .int .i64 (kq : Int) ∧ may = .slice Am 1 cm ∧ nn = .int .i64 (m : Int) ∧ m ≤ 12 ∧ kq ≤ 12 * j + m ∧ kq ≤ L.length ∧ IsSto wr gs gd bd (240 * j + 1 + 8 * m) gst bst (32000 + m) gl d s sz false ev since false ∧ Hold d s0 ws s kq ∧ d.lost = false ∧ d.Ok 16000 (2 * kq) ∧ SI s kq ∧ (0 ≤ sz ∧ sz ≤ 16000 + 300 * (m : Int)) ∧ (0 ≤ since ∧ since ≤ (m : Int)) ∧ Mem wr w.heap.size g8 g11 ⟨s.rev, A4, n4, c4, s.l⟩ [.slice Ak nk ck, .int .u8 (a : Int)] [⟨s.rev, A4, n4, c4, s.l⟩] Am 1 cm ∧ Below w.heap.size w wr) (fun _ _ nn _ => 12 - (intOf nn).toNat)
        case atStart => exact ⟨k, 0, d7, s, s0, ws, A4, n4, c4, sz1, 0, _, _, rfl, rfl, rfl, by omega, by omega, hk, H0.out, HH0.out, hl7, HOK0.out, HSI0.out, by omega, by omega, HM0.out, HB0.out⟩
        case round =>
          clear HM0 H0 HB0 HH0 HOK0 HSI0 hl7
          obtain ⟨kq, m, d, s, s0q, ws, A4, n4, c4, sz, since, Am, cm, rfl, rfl, rfl, hm12, hkq, hkl, h, hh, hl, hok, hsi, hsz, hsc, hM, hB⟩ := hrel
          by_cases h12 : m < 12
          · have hd12 : decide ((m : Int) < 12) = true := decide_eq_true (by omega)
            by_cases hll : kq < L.length
            · have hdl : decide ((kq : Int) < (L.length : Int)) = true := decide_eq_true (by omega)
              obtain ⟨ga2, off2, ee2, hga2, he2⟩ := HR.out.elem Ask.row_length (by omega) (k := kq) hll
              subst ee2
              have hbc := bcell (Below.mono (B := w.heap.size) hB (Nat.le_refl _))
              have e0 := (hbc.1 _ _ hga2).trans (he2 0 _ rfl)
              have e1 := (hbc.1 _ _ hga2).trans (he2 1 _ rfl)
              have e2 := (hbc.1 _ _ hga2).trans (he2 2 _ rfl)
              have e3 := (hbc.1 _ _ hga2).trans (he2 3 _ rfl)
              have e4 := (hbc.1 _ _ hga2).trans (he2 4 _ rfl)
              have e5 := (hbc.1 _ _ hga2).trans (he2 5 _ rfl)
              rw [Nat.add_zero] at e0
              have hfit := HF.out _ (List.getElem_mem hll)
              clear he2 hbc
              generalize L[kq] = o at *
              have hov : (cutA o).val.size ≤ 100 := cutS_size _ _
              have hokk : (cutA o).key.size ≤ 140 := cutS_size _ _
              have hoi : (cutA o).iff.size ≤ maxLen := hfit.2.2.2.2.1
              have hn4 : n4 ≤ 1000000 := by
                have h1 := hM.own.len
                have h2 := hsi.cnt
                simp only at h1
                omega
              have hlo := hsi.inv.lo
              have hhi := hsi.inv.hi
              have HOU := fun v => ours9_any o v
              have HDO := fun v (h : IsSto v gs gd bd (240 * j + 1 + 8 * m) gst bst (32000 + m) gl d s sz false ev since false) => (sdo_hold (cutA o) v h hh hl hok hsi (by omega) (by omega) (by omega) (by omega) hev1 (by omega) (by omega) hov (by simp only [maxLen]; omega) hoi).mono (fun x w' q => SURE.two q)
              have HRD := fun v (h : OwnRI v w.heap.size A4 n4 c4 s.l) (hs : w.heap.size ≤ v.heap.size) => rdo_any A4 n4 c4 w.heap.size s.l s.rev (cutA o) v h hs hn4 hlo (by omega)
              have hcode := plan_not_lost s.rev s.l (cutA o)
              clear hfit
              generalize cutA o = p at *
              unfold SUR2 at HDO
              unfold RDoR at HRD
              generalize planP s.rev s.l p = pl at *
              generalize doSt s.rev s.l p = ds at *
              obtain ⟨ki, kk, vv, r, ii, jj⟩ := o
              obtain ⟨pki, pk, pv, pr, pi, pj⟩ := p
              obtain ⟨⟨tc0, tr0, tv0, ti0⟩, ef, wrb⟩ := pl
              obtain ⟨rev', l'⟩ := ds
              unfold Ask.v Ask.cells at HOU HDO HRD
              simp only at HOU HDO HRD hcode e0 e1 e2 e3 e4 e5
              have HSI := Lib.hid hsi
              clear hh hok hov hokk hoi hlo hhi hsi hl
              go_upto_region 17 with (((with_reducible refine ((HOU _)).mono ?_); rintro z w5 ⟨rfl, hb5⟩))
              obtain ⟨h16, h17, hb6⟩ := two_at w5 49 [.int .i64 pki, .string pk, .string pv, .int .i64 pr, .string pi, .int .i64 pj] 50 [.int .i64 pki, .string pk, .string pv, .int .i64 pr, .string pi, .int .i64 pj]
              replace h := (h.step hb5).step hb6
              replace hM := (hM.step hb5).step hb6
              replace hB := chain (chain hB hb5) hb6
              clear hb5 hb6 HOU e0 e1 e2 e3 e4 e5 hga2
              generalize World.alloc (World.alloc w5 _) _ = w6 at *
              obtain ⟨g16, hg16⟩ : ∃ g16, w5.heap.size = g16 := ⟨_, rfl⟩
              rw [hg16] at h16 h17 ⊢
              clear hg16
              obtain ⟨⟨x0, x1, x2, x3, x4, x5⟩, xf⟩ := at6 h17
              obtain ⟨⟨y0, y1⟩, yf⟩ := at2 (show At _ _ _ [_, _] from hM.st)
              have HRD1 := HRD w6 hM.own hB.size
              go_upto_region 19 with (((with_reducible refine (HRD1).mono ?_); rintro z w7 ⟨A5, n5, c5, A6, n6, c6, rfl, how5, how6, hb7⟩))
              obtain ⟨h18, h19, hb8⟩ := two_at w7 41 [.int .i64 rev', .slice A5 n5 c5] 54 [.int .i64 tc0, .int .i64 tr0, .string tv0, .slice A6 n6 c6]
              replace h := (h.step hb7).step hb8
              replace hM := (hM.step hb7).step hb8
              replace hB := chain (chain hB hb7) hb8
              replace h16 := (h16.step hb7).step hb8
              replace how5 := OwnRI.step how5 hb8
              replace how6 := OwnRI.step how6 hb8
              clear hb7 hb8 HRD HRD1 h17 x0 x1 x2 x3 x4 x5 xf y0 y1 yf
              generalize World.alloc (World.alloc w7 _) _ = w8 at *
              obtain ⟨g18, hg18⟩ : ∃ g18, w7.heap.size = g18 := ⟨_, rfl⟩
              rw [hg18] at h18 h19 ⊢
              clear hg18
              obtain ⟨⟨x0, x1, x2, x3, x4, x5⟩, xf⟩ := at6 h16
              have HDO1 := HDO w8 h
              go_upto_region 20 with (((with_reducible refine (HDO1).mono ?_); rintro z w9 ⟨tc, tr, tv, ti, A7, m7, c7, d', s', sz', since', ld', dead', rfl, how7, hm9, h', hok', hor⟩))
              replace hM := hM.m6 h hm9
              replace h18 := h.far h18 (by decide) (by decide) (by decide) (by decide) hm9
              replace h19 := h.far h19 (by decide) (by decide) (by decide) (by decide) hm9
              replace how5 := own_mod (show World.ownsRow _ _ _ _ _ _ _ from how5) hm9 (fun i o ho _ hit => h.farT ho hit (by decide) (by decide) (by decide) (by decide))
              replace how6 := own_mod (show World.ownsRow _ _ _ _ _ _ _ from how6) hm9 (fun i o ho _ hit => h.farT ho hit (by decide) (by decide) (by decide) (by decide))
              replace hB := hB.trans (m6_below hm9 hg1.1 hwd hwb hg1.2.1 hg1.2.2.1 hg1.2.2.2 hB.size)
              obtain ⟨h20, hb10⟩ := one_at w9 58 [.int .i64 tc, .int .i64 tr, .string tv, .slice A7 m7 c7]
              replace h := h'.step hb10
              replace hM := hM.step hb10
              replace h18 := h18.step hb10
              replace h19 := h19.step hb10
              replace how5 := OwnRI.step how5 hb10
              replace how6 := own_below how6 hb10
              replace how7 := OwnI.step how7 hb10
              replace hB := chain hB hb10
              clear hm9 h' hb10 HDO HDO1 h16 x0 x1 x2 x3 x4 x5 xf
              generalize World.alloc w9 _ = w10 at *
              generalize w9.heap.size = g20 at *
              obtain ⟨⟨x0, x1, x2, x3⟩, xf⟩ := at4 h20
              rcases hor with ⟨⟨t1, t2, t3, t4⟩, rfl, rfl, hl', ⟨hs1, hs2⟩, hsi', ⟨s0', ws', hh'⟩, hsz', hsc'⟩ | ⟨rfl, s0', ws', rs', s2, hLf, hr1, hr2, hs2, hsi2⟩
              · subst t1 t2 t3 t4
                obtain ⟨sr', sl'⟩ := s'
                simp only at hs1 hs2
                subst hs1 hs2
                have hc12 : (tc == 12) = false := by simpa using hcode
                obtain ⟨⟨y0, y1, y2, y3⟩, yf⟩ := at4 h19
                have HSA := same9_any A7 A6 m7 c7 n6 c6 ti tc tr tv w10 how7.rd (Rd.of_own how6)
                clear hcode
                go_upto_region 24 with (((with_reducible refine (HSA).mono ?_); rintro z w12 ⟨rfl, hb12⟩))
                replace h := h.step hb12
                replace hM := hM.step hb12
                replace h18 := h18.step hb12
                replace how5 := OwnRI.step how5 hb12
                replace hB := chain hB hb12
                clear hb12 HSA h19 how6 how7 h20 x0 x1 x2 x3 xf y0 y1 y2 y3 yf
                obtain ⟨⟨x0, x1⟩, xf⟩ := at2 h18
                obtain ⟨⟨y0, y1⟩, yf⟩ := at2 (show At _ _ _ [_, _] from hM.st)
                obtain ⟨h8, hG⟩ := At.many [(0, .int .i64 sr'), (1, .slice A5 n5 c5)] (show At _ _ _ [_, _] from hM.st)
                dsimp only [setMany, setL, List.set] at h8 hG
                have hmG := mod_one hG
                replace h := h.cell hM.st (by decide) (by decide) (by decide) (by decide) (by decide) hmG
                have hcr := hmG.at hM.cr (At.ne hM.cr hM.st (by decide))
                replace how5 := own_mod (show World.ownsRow _ _ _ _ _ _ _ from how5) hmG (fun i o ho _ hit e => isT_at hM.st ho hit (by decide) e)
                replace hB := hB.trans (below_mod hmG (fun i o hi e => by omega) hB.size)
                have hM2 : Mem _ w.heap.size g8 g11 ⟨sr', A5, n5, c5, sl'⟩ [.slice Ak nk ck, .int .u8 (a : Int)] [] none 0 0 := ⟨h8, hcr, how5, World.ownsRow_nil _ _ _ _, (fun x hx => by cases hx)⟩
                go_upto_region 25 with fail
                clear hM hG hmG hcr how5 h8 h18 x0 x1 xf y0 y1 yf
                generalize World.setCell _ _ _ = w13 at *
                obtain ⟨⟨x0, x1⟩, xf⟩ := at2 (show At _ _ _ [_, _] from hM2.st)
                obtain ⟨hnew, hbn⟩ := one_at w13 41 [.int .i64 sr', .slice A5 n5 c5]
                have hM3 := hM2.step hbn
                have HM3 := Lib.hid (s11_lit (ns := [⟨sr', A5, n5, c5, sl'⟩]) hM3 hnew hB.size (by simp) (fun x hx => by simp only [List.mem_singleton] at hx; subst hx; exact hM3.own))
                have H3 := Lib.hid (h.step hbn)
                have HB3 := Lib.hid (hB.trans (hbn.mono hB.size))
                have HOK3 := Lib.hid hok'
                have HSI3 := Lib.hid hsi'
                have HH3 := Lib.hid hh'
                clear hM2 hM3 hnew hbn h hB hok' hsi' hh'
                go_wp2_with fail
                go_roundw
                case rel => exact ⟨kq + 1, m + 1, d', ⟨sr', sl'⟩, s0', ws', A5, n5, c5, sz', since', _, _, by go_num, rfl, by go_num, by omega, by omega, by omega, H3.out.more (by omega) (by omega), HH3.out, hl', HOK3.out.mono (Nat.le_refl _) (by omega), HSI3.out, by omega, by omega, HM3.out, HB3.out⟩
                case measure => simp [intOf]; omega
              · have hc12 : ((12 : Int) == 12) = true := rfl
                obtain ⟨⟨y0, y1⟩, yf⟩ := at2 h18
                obtain ⟨⟨z0, z1⟩, zf⟩ := at2 (show At _ _ _ [_, _] from hM.st)
                obtain ⟨hnew, hbn⟩ := one_at w10 41 [.int .i64 s.rev, .slice A4 n4 c4, .int .i64 rev', .slice A5 n5 c5]
                replace hM := hM.step hbn
                replace how5 := OwnRI.step how5 hbn
                replace hM : Mem _ w.heap.size g8 g11 ⟨s.rev, A4, n4, c4, s.l⟩ [.slice Ak nk ck, .int .u8 (a : Int)] [⟨s.rev, A4, n4, c4, s.l⟩, ⟨rev', A5, n5, c5, l'⟩] (some ⟨_, 0, none⟩) 2 2 := s11_lit (ns := [⟨s.rev, A4, n4, c4, s.l⟩, ⟨rev', A5, n5, c5, l'⟩]) hM hnew hB.size (by simp) (fun x hx => by
                  simp only [List.mem_cons, List.not_mem_nil, or_false] at hx
                  rcases hx with rfl | rfl
                  · exact hM.own
                  · exact how5)
                have hD := h.dk.step hbn
                replace hB := hB.trans (hbn.mono hB.size)
                obtain ⟨MS, hMS⟩ : ∃ MS, [(⟨s.rev, A4, n4, c4, s.l⟩ : Kst), ⟨rev', A5, n5, c5, l'⟩] = MS := ⟨_, rfl⟩
                have hx1 : ∃ m ∈ MS, m.rev = s.rev ∧ m.l = s.l := by rw [← hMS]; exact ⟨_, List.mem_cons_self, rfl, rfl⟩
                have hx2 : ∃ m ∈ MS, m.rev = s2.rev ∧ m.l = s2.l := by
                  rcases hs2 with hs2 | ⟨e1, e2⟩
                  · rw [hs2]; exact hx1
                  · rw [← hMS, e1, e2]; exact ⟨⟨rev', A5, n5, c5, l'⟩, by simp, rfl, rfl⟩
                rw [hMS] at hM
                have hsi1 : SI s (kq + 1) := HSI.out.more (Nat.le_succ _)
                have hok := hok'
                clear hs2 hMS hok' how5 how6 how7 h18 h19 h20 hnew hbn h HSI
                go_upto_region 26 with fail
                clear x0 x1 x2 x3 xf y0 y1 yf z0 z1 zf
                generalize World.alloc _ _ = w13 at *
                generalize w10.heap.size = g22 at *
                obtain ⟨Am2, hAm2⟩ : ∃ A2, (some (⟨g22, 0, none⟩ : Addr)) = A2 := ⟨_, rfl⟩
                rw [hAm2] at hM ⊢
                clear hAm2
                obtain ⟨⟨x0, x1⟩, xf⟩ := at2 (show At _ _ _ [_, _] from hM.cr)
                have HCR := pd_crash Ak nk ck ks _ hD hok (by omega) (by omega) (by omega) (fun v hm => by
                  have hbv := hB.trans (hm.toBelow (B := w.heap.size) (fun i o hi e => by omega) hB.size)
                  exact Rd.more (Rd.below HK.out hbv) hbv.size) HKS.out
                go_upto_region 27 with (((with_reducible refine (HCR).mono ?_); rintro z w20 ⟨rfl, hm20, hd20⟩))
                obtain ⟨ts, hts, hrdy⟩ := hLf.crash ks
                replace hM := hM.dk hD hm20
                replace hB := hB.trans (mod2s hm20 hwd hwb hB.size)
                obtain ⟨s3, hr3, hx3, hsi3⟩ : ∃ s3, rplS s0' ts = (0, s3) ∧ (∃ m ∈ MS, m.rev = s3.rev ∧ m.l = s3.l) ∧ SI s3 (kq + 1) := by
                  rcases hts with rfl | rfl
                  · exact ⟨_, hr1, hx1, hsi1⟩
                  · exact ⟨_, hr2, hx2, hsi2⟩
                have HO3 := open_rdy 3 w20 hd20 hrdy hr3 (ok_crash hok ks) (by omega) (by omega) (by omega)
                unfold OPN SOK at HO3
                clear HCR hm20 hLf hts hrdy hr1 hr2 hx1 hx2 hsi1 hsi2 hD x0 x1 xf
                go_upto_region 28 with (((with_reducible refine (HO3).mono ?_); rintro z w21 ⟨d5, sz5, ⟨gs5, gst5, bst5, Ns5, gl5, rfl, h5, hNs5, hg5, hm21⟩, hok5, hl5, ha5, hh5, hz5⟩))
                replace hM := hM.dk hd20 hm21
                replace hB := hB.trans (mod2s hm21 hwd hwb hB.size)
                have HST := stays_any w21 h5 (by omega) hsi3.ks (Rd.of_own hM.may) (fun m hm => (hM.ms m hm).rd) hx3
                unfold STY at HST
                clear HO3 hm21 hd20 hx3
                go_upto_region 29 with (((with_reducible refine (HST).mono ?_); rintro z w22 ⟨⟨k9, rfl, hk9, hrv9, hl9⟩, hb22⟩))
                replace hM := hM.step hb22
                have hd5 := h5.dk.step hb22
                replace hB := hB.trans (hb22.mono hB.size)
                have hd29 : decide ((k9 : Int) < 0) = false := decide_eq_false (by omega)
                have hrm := Rd.of_own hM.may (w := w22)
                have hmn := Rd.count Kst.row_length (by omega) hrm
                obtain ⟨ga9, off9, ee9, hga9, he9⟩ := hrm.elem Kst.row_length (by omega) hk9
                have f0 := he9 0 _ rfl
                have f1 := he9 1 _ rfl
                rw [Nat.add_zero] at f0
                have hmo := hM.ms _ (List.getElem_mem hk9)
                subst ee9
                generalize MS[k9] = m9 at *
                obtain ⟨r9, A9, n9, c9, l9⟩ := m9
                simp only at hrv9 hl9 hmo f0 f1
                subst hrv9 hl9
                clear HST h5 hb22 he9 hrm
                go_upto_region 31 with fail
                obtain ⟨⟨x0, x1⟩, xf0, xf1⟩ := at2 (show At _ _ _ [_, _] from hM.st)
                obtain ⟨h8, hG⟩ := At.many [(0, .int .i64 s3.rev), (1, .slice A9 n9 c9)] (show At _ _ _ [_, _] from hM.st)
                dsimp only [setMany, setL, List.set] at h8 hG
                have hmG := mod_one hG
                have HD5 := Lib.hid (hd5.other hM.st (by decide) (by decide) hmG)
                have HOW := Lib.hid (own_mod (show World.ownsRow _ _ _ _ _ _ _ from hmo) hmG (fun i o ho _ hit e => isT_at hM.st ho hit (by decide) e))
                have H8 := Lib.hid h8
                have HB := Lib.hid (hB.trans (below_mod hmG (fun i o hi e => by omega) hB.size))
                have HH5 := Lib.hid hh5
                have HOK5 := Lib.hid hok5
                have HSI3 := Lib.hid hsi3
                clear hM hG hmG h8 hmo hd5 hB hh5 hok5 hsi3
                go_wp2_with fail
                go_roundw
                case rel => exact ⟨j + 1, kq + 1, 0, d5, s3, _, _, A9, n9, c9, by first | rfl | go_num, by go_num, by omega, by omega, by omega, by omega, HD5.out.more (show _ ≤ 240 * (j + 1) by omega), HOK5.out.mono (Nat.le_refl _) (by omega), hl5, ha5, HH5.out, HSI3.out, H8.out, HOW.out, HB.out⟩
                case measure => simp [intOf]; omega
            · have hdl : decide ((kq : Int) < (L.length : Int)) = false := decide_eq_false (by omega)
              obtain ⟨MS, hMS⟩ : ∃ MS, [(⟨s.rev, A4, n4, c4, s.l⟩ : Kst)] = MS := ⟨_, rfl⟩
              have hx1 : ∃ m ∈ MS, m.rev = s.rev ∧ m.l = s.l := by rw [← hMS]; exact ⟨_, List.mem_cons_self, rfl, rfl⟩
              have hx2 := hx1
              have hr1 := hh.rp
              have hr2 := hr1
              have hsi1 := hsi
              have hsi2 := hsi
              have hLf := hh.left
              have hD := h.dk
              rw [hMS] at hM
              clear hMS h hh hsi hl
              obtain ⟨⟨x0, x1⟩, xf⟩ := at2 (show At _ _ _ [_, _] from hM.cr)
              have HCR := pd_crash Ak nk ck ks _ hD hok (by omega) (by omega) (by omega) (fun v hm => by
                have hbv := hB.trans (hm.toBelow (B := w.heap.size) (fun i o hi e => by omega) hB.size)
                exact Rd.more (Rd.below HK.out hbv) hbv.size) HKS.out
              go_upto_region 27 with (((with_reducible refine (HCR).mono ?_); rintro z w20 ⟨rfl, hm20, hd20⟩))
              obtain ⟨ts, hts, hrdy⟩ := hLf.crash ks
              replace hM := hM.dk hD hm20
              replace hB := hB.trans (mod2s hm20 hwd hwb hB.size)
              obtain ⟨s3, hr3, hx3, hsi3⟩ : ∃ s3, rplS s0q ts = (0, s3) ∧ (∃ m ∈ MS, m.rev = s3.rev ∧ m.l = s3.l) ∧ SI s3 (kq) := by
                rcases hts with rfl | rfl
                · exact ⟨_, hr1, hx1, hsi1⟩
                · exact ⟨_, hr2, hx2, hsi2⟩
              have HO3 := open_rdy 3 w20 hd20 hrdy hr3 (ok_crash hok ks) (by omega) (by omega) (by omega)
              unfold OPN SOK at HO3
              clear HCR hm20 hLf hts hrdy hr1 hr2 hx1 hx2 hsi1 hsi2 hD x0 x1 xf
              go_upto_region 28 with (((with_reducible refine (HO3).mono ?_); rintro z w21 ⟨d5, sz5, ⟨gs5, gst5, bst5, Ns5, gl5, rfl, h5, hNs5, hg5, hm21⟩, hok5, hl5, ha5, hh5, hz5⟩))
              replace hM := hM.dk hd20 hm21
              replace hB := hB.trans (mod2s hm21 hwd hwb hB.size)
              have HST := stays_any w21 h5 (by omega) hsi3.ks (Rd.of_own hM.may) (fun m hm => (hM.ms m hm).rd) hx3
              unfold STY at HST
              clear HO3 hm21 hd20 hx3
              go_upto_region 29 with (((with_reducible refine (HST).mono ?_); rintro z w22 ⟨⟨k9, rfl, hk9, hrv9, hl9⟩, hb22⟩))
              replace hM := hM.step hb22
              have hd5 := h5.dk.step hb22
              replace hB := hB.trans (hb22.mono hB.size)
              have hd29 : decide ((k9 : Int) < 0) = false := decide_eq_false (by omega)
              have hrm := Rd.of_own hM.may (w := w22)
              have hmn := Rd.count Kst.row_length (by omega) hrm
              obtain ⟨ga9, off9, ee9, hga9, he9⟩ := hrm.elem Kst.row_length (by omega) hk9
              have f0 := he9 0 _ rfl
              have f1 := he9 1 _ rfl
              rw [Nat.add_zero] at f0
              have hmo := hM.ms _ (List.getElem_mem hk9)
              subst ee9
              generalize MS[k9] = m9 at *
              obtain ⟨r9, A9, n9, c9, l9⟩ := m9
              simp only at hrv9 hl9 hmo f0 f1
              subst hrv9 hl9
              clear HST h5 hb22 he9 hrm
              go_upto_region 31 with fail
              obtain ⟨⟨x0, x1⟩, xf0, xf1⟩ := at2 (show At _ _ _ [_, _] from hM.st)
              obtain ⟨h8, hG⟩ := At.many [(0, .int .i64 s3.rev), (1, .slice A9 n9 c9)] (show At _ _ _ [_, _] from hM.st)
              dsimp only [setMany, setL, List.set] at h8 hG
              have hmG := mod_one hG
              have HD5 := Lib.hid (hd5.other hM.st (by decide) (by decide) hmG)
              have HOW := Lib.hid (own_mod (show World.ownsRow _ _ _ _ _ _ _ from hmo) hmG (fun i o ho _ hit e => isT_at hM.st ho hit (by decide) e))
              have H8 := Lib.hid h8
              have HB := Lib.hid (hB.trans (below_mod hmG (fun i o hi e => by omega) hB.size))
              have HH5 := Lib.hid hh5
              have HOK5 := Lib.hid hok5
              have HSI3 := Lib.hid hsi3
              clear hM hG hmG h8 hmo hd5 hB hh5 hok5 hsi3
              go_wp2_with fail
              go_roundw
              case rel => exact ⟨j + 1, kq, 0, d5, s3, _, _, A9, n9, c9, by first | rfl | go_num, by go_num, by omega, by omega, by omega, by omega, HD5.out.more (show _ ≤ 240 * (j + 1) by omega), HOK5.out.mono (Nat.le_refl _) (by omega), hl5, ha5, HH5.out, HSI3.out, H8.out, HOW.out, HB.out⟩
              case measure => simp [intOf]; omega
          · have hd12 : decide ((m : Int) < 12) = false := decide_eq_false (by omega)
            obtain ⟨MS, hMS⟩ : ∃ MS, [(⟨s.rev, A4, n4, c4, s.l⟩ : Kst)] = MS := ⟨_, rfl⟩
            have hx1 : ∃ m ∈ MS, m.rev = s.rev ∧ m.l = s.l := by rw [← hMS]; exact ⟨_, List.mem_cons_self, rfl, rfl⟩
            have hx2 := hx1
            have hr1 := hh.rp
            have hr2 := hr1
            have hsi1 := hsi
            have hsi2 := hsi
            have hLf := hh.left
            have hD := h.dk
            rw [hMS] at hM
            clear hMS h hh hsi hl
            obtain ⟨⟨x0, x1⟩, xf⟩ := at2 (show At _ _ _ [_, _] from hM.cr)
            have HCR := pd_crash Ak nk ck ks _ hD hok (by omega) (by omega) (by omega) (fun v hm => by
              have hbv := hB.trans (hm.toBelow (B := w.heap.size) (fun i o hi e => by omega) hB.size)
              exact Rd.more (Rd.below HK.out hbv) hbv.size) HKS.out
            go_upto_region 27 with (((with_reducible refine (HCR).mono ?_); rintro z w20 ⟨rfl, hm20, hd20⟩))
            obtain ⟨ts, hts, hrdy⟩ := hLf.crash ks
            replace hM := hM.dk hD hm20
            replace hB := hB.trans (mod2s hm20 hwd hwb hB.size)
            obtain ⟨s3, hr3, hx3, hsi3⟩ : ∃ s3, rplS s0q ts = (0, s3) ∧ (∃ m ∈ MS, m.rev = s3.rev ∧ m.l = s3.l) ∧ SI s3 (kq) := by
              rcases hts with rfl | rfl
              · exact ⟨_, hr1, hx1, hsi1⟩
              · exact ⟨_, hr2, hx2, hsi2⟩
            have HO3 := open_rdy 3 w20 hd20 hrdy hr3 (ok_crash hok ks) (by omega) (by omega) (by omega)
            unfold OPN SOK at HO3
            clear HCR hm20 hLf hts hrdy hr1 hr2 hx1 hx2 hsi1 hsi2 hD x0 x1 xf
            go_upto_region 28 with (((with_reducible refine (HO3).mono ?_); rintro z w21 ⟨d5, sz5, ⟨gs5, gst5, bst5, Ns5, gl5, rfl, h5, hNs5, hg5, hm21⟩, hok5, hl5, ha5, hh5, hz5⟩))
            replace hM := hM.dk hd20 hm21
            replace hB := hB.trans (mod2s hm21 hwd hwb hB.size)
            have HST := stays_any w21 h5 (by omega) hsi3.ks (Rd.of_own hM.may) (fun m hm => (hM.ms m hm).rd) hx3
            unfold STY at HST
            clear HO3 hm21 hd20 hx3
            go_upto_region 29 with (((with_reducible refine (HST).mono ?_); rintro z w22 ⟨⟨k9, rfl, hk9, hrv9, hl9⟩, hb22⟩))
            replace hM := hM.step hb22
            have hd5 := h5.dk.step hb22
            replace hB := hB.trans (hb22.mono hB.size)
            have hd29 : decide ((k9 : Int) < 0) = false := decide_eq_false (by omega)
            have hrm := Rd.of_own hM.may (w := w22)
            have hmn := Rd.count Kst.row_length (by omega) hrm
            obtain ⟨ga9, off9, ee9, hga9, he9⟩ := hrm.elem Kst.row_length (by omega) hk9
            have f0 := he9 0 _ rfl
            have f1 := he9 1 _ rfl
            rw [Nat.add_zero] at f0
            have hmo := hM.ms _ (List.getElem_mem hk9)
            subst ee9
            generalize MS[k9] = m9 at *
            obtain ⟨r9, A9, n9, c9, l9⟩ := m9
            simp only at hrv9 hl9 hmo f0 f1
            subst hrv9 hl9
            clear HST h5 hb22 he9 hrm
            go_upto_region 31 with fail
            obtain ⟨⟨x0, x1⟩, xf0, xf1⟩ := at2 (show At _ _ _ [_, _] from hM.st)
            obtain ⟨h8, hG⟩ := At.many [(0, .int .i64 s3.rev), (1, .slice A9 n9 c9)] (show At _ _ _ [_, _] from hM.st)
            dsimp only [setMany, setL, List.set] at h8 hG
            have hmG := mod_one hG
            have HD5 := Lib.hid (hd5.other hM.st (by decide) (by decide) hmG)
            have HOW := Lib.hid (own_mod (show World.ownsRow _ _ _ _ _ _ _ from hmo) hmG (fun i o ho _ hit e => isT_at hM.st ho hit (by decide) e))
            have H8 := Lib.hid h8
            have HB := Lib.hid (hB.trans (below_mod hmG (fun i o hi e => by omega) hB.size))
            have HH5 := Lib.hid hh5
            have HOK5 := Lib.hid hok5
            have HSI3 := Lib.hid hsi3
            clear hM hG hmG h8 hmo hd5 hB hh5 hok5 hsi3
            go_wp2_with fail
            go_roundw
            case rel => exact ⟨j + 1, kq, 0, d5, s3, _, _, A9, n9, c9, by first | rfl | go_num, by go_num, by omega, by omega, by omega, by omega, HD5.out.more (show _ ≤ 240 * (j + 1) by omega), HOK5.out.mono (Nat.le_refl _) (by omega), hl5, ha5, HH5.out, HSI3.out, H8.out, HOW.out, HB.out⟩
            case measure => simp [intOf]; omega
      · have hdj : decide ((j : Int) ≥ 5) = true := decide_eq_true (by omega)
        have HB := Lib.hid hB
        clear hB hM hd hh hok hsi
        go_wp2_with (((with_reducible refine ((awake11 _)).mono ?_); rintro z w9 ⟨rfl, hb9⟩))
        go_ret
        exact ⟨rfl, chain HB.out hb9⟩
    · have HB := Lib.hid hB
      clear hB hd hh hok hsi h8 how
      go_wp2_with (((with_reducible refine ((awake11 _)).mono ?_); rintro z w9 ⟨rfl, hb9⟩))
      go_ret
      exact ⟨rfl, chain HB.out hb9⟩
end Go.Proofs.YtnkjekkdndjfaaaGreat
