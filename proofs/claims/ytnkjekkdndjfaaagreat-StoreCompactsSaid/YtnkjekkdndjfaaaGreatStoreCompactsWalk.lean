
/- The law StoreCompacts: the Go function returns true, however often it is compacted, whatever is asked. -/
import Derived.Test.YtnkjekkdndjfaaaGreatStoreLive
import Derived.Test.YtnkjekkdndjfaaaGreatStoreOpensWalk
import Derived.Test.YtnkjekkdndjfaaaGreatOpenAsk
namespace Go.Proofs.YtnkjekkdndjfaaaGreat
set_option linter.unusedVariables false
set_option linter.unusedSimpArgs false
open Go.RowKit
theorem slog_any {gs : Nat} {p0 p1 p2 : Option Addr} {ev since : Int} {dead : Bool} (w : World) (h : At w gs 107 [.pointer p0, .pointer p1, .pointer p2, .int .i64 ev, .int .i64 since, .bool dead]) :
    Calls Tryz.prog 24 #[.pointer (some ⟨gs, 0, none⟩)] w fun x w' => x = .returned (.int .i64 since) ∧ w = w' := by
  obtain ⟨⟨x0, x1, x2, x3, x4, x5⟩, xf⟩ := at6 h
  clear h
  go_enter Tryz.func24, Tryz.ntmps24
  go_wp2_with fail
  go_ret
  exact ⟨rfl, rfl⟩
theorem bs_put {d : PD} {s : SL} {n : Nat} (hl : d.lost = false) (hs : SI s n) (hn : n ≤ 1000) (h : findF d.fs snapN = some ⟨snapN, slL (stL s.rev s.l), none, 0, 0, ((slL (stL s.rev s.l)).length : Int)⟩) : bsC d = 0 ∧ bsS d = s := by
  obtain ⟨h1, h2⟩ := ld_sure hl h
  have hr := right11 hs.inv
  have hi := hs.inv.hi
  have hc := hs.cnt
  have h3 := okS_put hr (by omega) (by omega)
  have h4 := rdS_put hr (by omega) (by omega)
  unfold bsC bsS
  rw [h1, h2, if_pos rfl, if_pos rfl, h3, h4]
  exact ⟨rfl, rfl⟩
theorem allR_nil : AllR [] [] 0 6 := AllR.stop [] 6 rfl (by decide)
set_option maxRecDepth 100000 in
set_option maxHeartbeats 8000000 in
theorem storeCompacts_walk {e : Int} {A : Option Addr} {n c : Nat} {L : List Ask} (w : World) (hr : Rd w w.heap.size 6 A n c (L.flatMap Ask.row)) (hf : ∀ o ∈ L, o.fits) :
    Calls Tryz.prog 5 #[.int .i64 e, .slice A n c] w fun x w' => x = .returned (.bool true) ∧ Below w.heap.size w w' := by
  have hln := Rd.count Ask.row_length (by omega) hr
  have hmax := hr.max
  have hle := hr.le
  unfold maxLen at hmax
  subst hln
  have HR := Lib.hid hr
  have HF := Lib.hid hf
  clear hr hf
  go_enter Tryz.func5, Tryz.ntmps5
  go_upto_region 2 with (((with_reducible refine ((pd_new w)).mono ?_); rintro z w1 ⟨gd, bd, rfl, hd, hwb, hbg, hb1⟩))
  have hwd : w.heap.size ≤ gd := by omega
  have HO := sopen_new e w1 hd PD.Ok.new (by omega) (by omega) (bs_none (d := PD.new) rfl).1 rfl
  rw [(bs_none (d := PD.new) rfl).2] at HO
  unfold SOK at HO
  obtain ⟨ev, hev⟩ : ∃ ev, max e 1 = ev := ⟨_, rfl⟩
  rw [hev] at HO
  have hev1 : 1 ≤ ev := by omega
  clear hd hev
  go_upto_region 3 with (((with_reducible refine (HO).mono ?_); rintro z w2 ⟨gs, gst, bst, Ns, gl, rfl, hs, hNs, hg, hm2⟩))
  have hz1 := hb1.size
  have HB2 := Lib.hid (show Below w.heap.size w w2 from hb1.trans (mod2s hm2 hwd hwb hz1))
  have HS2 := Lib.hid (hs.more (N' := 1 + 8 * 0) (Ns' := 0) (by omega) (by omega))
  clear HO hm2 hb1 hs
  go_wp2_with fail
  go_loopw [30] (fun i wr => ∃ (k t : Nat) (d : PD) (s : SL) (sz since : Int), i = .int .i64 (k : Int) ∧ k ≤ L.length ∧ (t = k ∨ (20 ≤ k ∧ t = 20)) ∧ t ≤ 20 ∧ IsSto wr gs gd bd (1 + 8 * t) gst bst t gl d s sz false ev since false ∧ LvD d (6000 * t) (2 * t) ∧ SI s t ∧ (0 ≤ sz ∧ sz ≤ 300 * (t : Int)) ∧ (0 ≤ since ∧ since ≤ (t : Int)) ∧ Below w.heap.size w wr) (fun i _ => L.length - (intOf i).toNat)
  case atStart => exact ⟨0, 0, PD.new, ⟨0, []⟩, 0, 0, rfl, Nat.zero_le _, .inl rfl, by omega, HS2.out, ⟨PD.Ok.new, rfl, rfl⟩, ⟨Inv9.nil, (fun x hx => by cases hx), Nat.le_refl _⟩, by omega, by omega, HB2.out⟩
  case round =>
    clear HB2 HS2
    obtain ⟨k, t, d, s, sz, since, rfl, hk, ht, ht20, h, hl, hsi, hsz, hsc, hB⟩ := hrel
    have hzr := hB.size
    by_cases hlt : k < L.length
    · obtain ⟨ga, off, ee, hga, he⟩ := HR.out.elem Ask.row_length (by omega) (k := k) hlt
      subst ee
      have hbc := bcell (Below.mono (B := w.heap.size) hB (Nat.le_refl _))
      have e0 := (hbc.1 _ _ hga).trans (he 0 _ rfl)
      have e1 := (hbc.1 _ _ hga).trans (he 1 _ rfl)
      have e2 := (hbc.1 _ _ hga).trans (he 2 _ rfl)
      have e3 := (hbc.1 _ _ hga).trans (he 3 _ rfl)
      have e4 := (hbc.1 _ _ hga).trans (he 4 _ rfl)
      have e5 := (hbc.1 _ _ hga).trans (he 5 _ rfl)
      rw [Nat.add_zero] at e0
      have hfit := HF.out _ (List.getElem_mem hlt)
      clear he hbc
      generalize L[k] = o at *
      have hov : (cutA o).val.size ≤ 100 := cutS_size _ _
      have hok : (cutA o).key.size ≤ 140 := cutS_size _ _
      have hoi : (cutA o).iff.size ≤ maxLen := hfit.2.2.2.2.1
      have HOU := fun v => ours9_any o v
      have HDO := fun v (h : IsSto v gs gd bd (1 + 8 * t) gst bst t gl d s sz false ev since false) => sdo_live (cutA o) v h hl hsi (by omega) (by omega) (by omega) (by omega) (by omega) hev1 (by omega) (by omega) hov (by simp only [maxLen]; omega) hoi
      generalize cutA o = p at *
      obtain ⟨ki, kk, vv, r, i, j⟩ := o
      obtain ⟨pki, pk, pv, pr, pi, pj⟩ := p
      unfold Ask.v Ask.cells at HOU HDO
      simp only at HOU HDO e0 e1 e2 e3 e4 e5
      obtain ⟨h9, hb9⟩ := one_at wr 50 [.int .i64 ki, .string kk, .string vv, .int .i64 r, .string i, .int .i64 j]
      replace h := h.step hb9
      replace hB := chain hB hb9
      by_cases h20 : k < 20
      · have hd20 : decide ((k : Int) < 20) = true := decide_eq_true (by omega)
        obtain rfl : t = k := by omega
        go_upto_region 6 with fail
        clear hb9 e0 e1 e2 e3 e4 e5
        generalize World.alloc _ _ = w4 at *
        generalize wr.heap.size = g9 at *
        obtain ⟨⟨x0, x1, x2, x3, x4, x5⟩, xf⟩ := at6 h9
        have HO1 := HOU w4
        go_upto_region 8 with (((with_reducible refine (HO1).mono ?_); rintro z w5 ⟨rfl, hb5⟩))
        obtain ⟨h10, h11, hb6⟩ := two_at w5 49 [.int .i64 pki, .string pk, .string pv, .int .i64 pr, .string pi, .int .i64 pj] 50 [.int .i64 pki, .string pk, .string pv, .int .i64 pr, .string pi, .int .i64 pj]
        replace h := (h.step hb5).step hb6
        replace hB := chain (chain hB hb5) hb6
        clear hb5 hb6 HO1 HOU x0 x1 x2 x3 x4 x5 xf h9 h11
        generalize World.alloc (World.alloc w5 _) _ = w6 at *
        generalize w5.heap.size = g10 at *
        obtain ⟨⟨x0, x1, x2, x3, x4, x5⟩, xf⟩ := at6 h10
        have HD1 := HDO w6 h
        clear HDO hl hsi h
        go_upto_region 9 with (((with_reducible refine (HD1).mono ?_); rintro z w7 ⟨⟨tc, tr, tv, A7, m7, c7, rfl⟩, hm7, d', s', sz', since', h', hl', hsi', hsz', hsc'⟩))
        have HB7 := Lib.hid (hB.trans (m6_below hm7 (by omega) hwd hwb (by omega) (by omega) (by omega) hB.size))
        have H7 := Lib.hid (h'.more (N' := 1 + 8 * (t + 1)) (Ns' := t + 1) (by omega) (by omega))
        have HL7 := Lib.hid (hl'.mono (M' := 6000 * (t + 1)) (K' := 2 * (t + 1)) (by omega) (by omega))
        have HSI7 := Lib.hid hsi'
        clear HD1 h' hl' hsi' hm7 hB h10 x0 x1 x2 x3 x4 x5 xf
        go_wp2_with fail
        go_roundw
        case rel => exact ⟨t + 1, t + 1, d', s', sz', since', by go_num, by omega, .inl rfl, by omega, H7.out, HL7.out, HSI7.out, by omega, by omega, HB7.out⟩
        case measure => simp [intOf]; omega
      · have hd20 : decide ((k : Int) < 20) = false := decide_eq_false (by omega)
        have ht2 : t = 20 := by omega
        have HB7 := Lib.hid hB
        have H7 := Lib.hid h
        have HL7 := Lib.hid hl
        have HSI7 := Lib.hid hsi
        clear HOU HDO h hl hsi hB h9
        go_wp2_with fail
        go_roundw
        case rel => exact ⟨k + 1, t, d, s, sz, since, by go_num, by omega, .inr (by omega), ht20, H7.out, HL7.out, HSI7.out, hsz, hsc, HB7.out⟩
        case measure => simp [intOf]; omega
    ·
      go_upto_region 10 with fail
      have hKS := hsi.ks
      have HAL := sall_any wr h.blk h.st (by omega) hKS.sizes
      have HRV := srev_any wr h.blk h.st
      go_upto_region 11 with (first | (((with_reducible refine (HRV).mono ?_); rintro z v ⟨rfl, rfl⟩)) | (((with_reducible refine (HAL).mono ?_); rintro z w4 ⟨A4, n4, c4, rfl, hown4, hb4⟩)))
      have h4 := h.step hb4
      have hB4 := hB.trans (hb4.mono hB.size)
      obtain rfl : n4 = s.l.length := OwnI.len hown4
      clear HAL HRV h hB hb4
      obtain ⟨d2, hl2, hsn, hlog, HCP'⟩ := cmp_live w4 h4 hl hsi (by omega) (by omega) (by omega) (by omega) (by omega)
      have HCP := HCP' w4 h4
      have hbs := bs_put hl2.lost hsi (by omega) hsn
      clear HCP' hl hsn
      rcases hlog with hlog | hlog
      ·
        have hrc : d2.rc logN = 6 := by unfold PD.rc rdCode; rw [hlog]; rfl
        have hrb : d2.rb logN = [] := by unfold PD.rb rdBytes; rw [hlog]; rfl
        have HOP := fun v (hd : IsD v gd bd (1 + 8 * t + 6) d2) => (sopen_new e v hd hl2.ok (by omega) (by omega) hbs.1 hrc).mono (R' := fun x w' => ∃ d3 sz3, SOK v w' gd bd (1 + 8 * t + 6) (6000 * t + (12 + t * 244 + 4)) d3 s sz3 e x) (fun x w' q => ⟨d2, 0, by rw [hbs.2] at q; exact q⟩)
        unfold SOK at HOP
        clear hbs hlog
        go_upto_region 12 with (((with_reducible refine (HCP).mono ?_); rintro z w5 ⟨rfl, hm5, h5⟩))
        have hown5 := own_mod (show World.ownsRow _ _ _ _ _ _ _ from hown4) hm5 (fun i o ho _ hit => h4.farT ho hit (by decide) (by decide) (by decide) (by decide))
        have hB5 := hB4.trans (m6_below hm5 (by omega) hwd hwb (by omega) (by omega) (by omega) hB4.size)
        clear HCP hm5 hown4 h4 hB4
        have HRD := pd_rd logN logN_hi w5 h5.dk hl2.ok (by omega)
        rw [hrc, hrb] at HRD
        go_upto_region 13 with (((with_reducible refine (HRD).mono ?_); rintro z w6 ⟨A6, n6, c6, rfl, hown6, hb6⟩))
        obtain rfl : 0 = n6 := hown6.length
        have h6 := h5.step hb6
        have hr6 := own_below hown5 hb6
        have hB6 := hB5.trans (hb6.mono hB5.size)
        have HO2 := HOP w6 h6.dk
        clear HRD hown6 hb6 h5 hown5 hB5 HOP
        go_upto_region 14 with (((with_reducible refine (HO2).mono ?_); rintro z w7 ⟨d3, sz3, gs2, gst2, bst2, Ns2, gl2, rfl, h7, hNs2, hg2, hm7⟩))
        have hk7 := hm7.at h6.blk (h6.dk.freeAt h6.blk (by decide))
        have ht7 := h6.st.dk h6.dk hm7 h6.ne
        have hr7 := own_mod hr6 hm7 (fun i o ho _ hit => h6.dk.free ho hit (by decide))
        have hB7 := hB6.trans (mod2s hm7 hwd hwb hB6.size)
        have HAL2 := sall_any w7 h7.blk h7.st (by omega) hKS.sizes
        clear HO2 h6 hr6 hB6 hm7
        go_upto_region 15 with (((with_reducible refine (HAL2).mono ?_); rintro z w8 ⟨A8, n8, c8, rfl, hown8, hb8⟩))
        have hr8 := hown8.rd
        have hr9 := (Rd.of_own hr7).below hb8 |>.more hb8.size
        obtain rfl : n8 = s.l.length := (RdI.len hr8).symm
        have HR1 := srev_any w8 (hk7.step hb8) (ht7.step hb8)
        have HR2 := srev_any w8 (h7.blk.step hb8) (h7.st.step hb8)
        have HLG := slog_any w8 (hk7.step hb8)
        have HB8 := Lib.hid (hB7.trans (hb8.mono hB7.size))
        have HR8 := Lib.hid hr8
        have HR9 := Lib.hid hr9
        have hmax8 := hr8.max
        have hle8 := hr8.le
        have hle9 := hr9.le
        have hmax9 := hr9.max
        unfold maxLen at hmax8 hmax9
        obtain ⟨q, hq⟩ : ∃ q, s.l.length = q := ⟨_, rfl⟩
        have HQ := Lib.hid hq
        rw [hq] at hle8 hle9 ⊢
        clear HAL2 hown8 hb8 hr8 hr9 hr7 hk7 ht7 h7 hB7 hq
        go_upto_region 17 with (first | (((with_reducible refine (HR1).mono ?_); rintro z w9 ⟨rfl, rfl⟩)) | (((with_reducible refine (HR2).mono ?_); rintro z w9 ⟨rfl, rfl⟩)) | (((with_reducible refine (HLG).mono ?_); rintro z w9 ⟨rfl, rfl⟩)))
        clear HR1 HR2 HLG
        go_wp2_with fail
        go_loopw [110] (fun i wr => ∃ k : Nat, i = .int .i64 (k : Int) ∧ k ≤ q ∧ Below w8.heap.size w8 wr) (fun i _ => q - (intOf i).toNat)
        case atStart => exact ⟨0, rfl, Nat.zero_le _, Below.refl _ _⟩
        case round =>
          obtain ⟨k, rfl, hk, hb⟩ := hrel
          by_cases hlt : k < q
          · have h1 : k < s.l.length := by rw [HQ.out]; exact hlt
            obtain ⟨ga, off, e, hg, he⟩ := HR8.out.elem It.row_length (by omega) (k := k) h1
            subst e
            obtain ⟨ga2, off2, e2, hg2, he2⟩ := HR9.out.elem It.row_length (by omega) (k := k) h1
            subst e2
            have hbc := bcell hb
            have f0 := (hbc.1 _ _ hg2).trans (he2 0 _ rfl)
            have f1 := (hbc.1 _ _ hg2).trans (he2 1 _ rfl)
            have f2 := (hbc.1 _ _ hg2).trans (he2 2 _ rfl)
            have e0 := (hbc.1 _ _ hg).trans (he 0 _ rfl)
            have e1 := (hbc.1 _ _ hg).trans (he 1 _ rfl)
            have e2 := (hbc.1 _ _ hg).trans (he 2 _ rfl)
            rw [Nat.add_zero] at f0 e0
            clear hbc he he2
            generalize s.l[k] = y at *
            obtain ⟨yk, yv, yr⟩ := y
            simp only at f0 f1 f2 e0 e1 e2
            have HHB := Lib.hid hb
            clear hb
            go_upto_region 20 with fail
            go_quiet (fail)
            clear f0 f1 f2 e0 e1 e2
            go_wp2_with fail
            go_roundw
            case rel => exact ⟨k + 1, by go_num, by omega, below_drewN HHB.out _⟩
            case measure => simp [intOf]; omega
          · have HHB := Lib.hid hb
            clear hb
            go_wp2_with (((with_reducible refine ((awake11 _)).mono ?_); rintro z w9 ⟨rfl, hb9⟩))
            go_ret
            exact ⟨rfl, (HB8.out.trans (HHB.out.mono HB8.out.size)).trans (hb9.mono (Nat.le_trans HB8.out.size HHB.out.size))⟩
      ·
        have hrc : d2.rc logN = 0 := by unfold PD.rc rdCode; rw [hlog, hl2.lost]; rfl
        have hrb : d2.rb logN = [] := by unfold PD.rb rdBytes; rw [getF_some hlog, hlog, hl2.lost]; rfl
        have hsu : d2.su logN = 0 := by unfold PD.su; rw [getF_some hlog]
        have hmd : (mendO d2 logN ((d2.rb logN).length : Nat) ((0 : Nat) : Int)).code = 0 := by
          unfold mendO
          rw [hrb, hsu, if_neg (by simp), if_neg (by simp)]
        have HOP := fun v (hd : IsD v gd bd (1 + 8 * t + 6) d2) => (sopen_log (rs := []) (at_ := 0) (code := 6) (s' := s) e v hd hl2.ok (by omega) (by omega) hbs.1 hrc (by rw [hrb]; exact allR_nil) hmd (by rw [hbs.2]; rfl)).mono (R' := fun x w' => ∃ d3 sz3, SOK v w' gd bd (1 + 8 * t + 6) (6000 * t + (12 + t * 244 + 4)) d3 s sz3 e x) (fun x w' q => ⟨_, _, q⟩)
        unfold SOK at HOP
        clear hbs hlog hmd hsu
        go_upto_region 12 with (((with_reducible refine (HCP).mono ?_); rintro z w5 ⟨rfl, hm5, h5⟩))
        have hown5 := own_mod (show World.ownsRow _ _ _ _ _ _ _ from hown4) hm5 (fun i o ho _ hit => h4.farT ho hit (by decide) (by decide) (by decide) (by decide))
        have hB5 := hB4.trans (m6_below hm5 (by omega) hwd hwb (by omega) (by omega) (by omega) hB4.size)
        clear HCP hm5 hown4 h4 hB4
        have HRD := pd_rd logN logN_hi w5 h5.dk hl2.ok (by omega)
        rw [hrc, hrb] at HRD
        go_upto_region 13 with (((with_reducible refine (HRD).mono ?_); rintro z w6 ⟨A6, n6, c6, rfl, hown6, hb6⟩))
        obtain rfl : 0 = n6 := hown6.length
        have h6 := h5.step hb6
        have hr6 := own_below hown5 hb6
        have hB6 := hB5.trans (hb6.mono hB5.size)
        have HO2 := HOP w6 h6.dk
        clear HRD hown6 hb6 h5 hown5 hB5 HOP
        go_upto_region 14 with (((with_reducible refine (HO2).mono ?_); rintro z w7 ⟨d3, sz3, gs2, gst2, bst2, Ns2, gl2, rfl, h7, hNs2, hg2, hm7⟩))
        have hk7 := hm7.at h6.blk (h6.dk.freeAt h6.blk (by decide))
        have ht7 := h6.st.dk h6.dk hm7 h6.ne
        have hr7 := own_mod hr6 hm7 (fun i o ho _ hit => h6.dk.free ho hit (by decide))
        have hB7 := hB6.trans (mod2s hm7 hwd hwb hB6.size)
        have HAL2 := sall_any w7 h7.blk h7.st (by omega) hKS.sizes
        clear HO2 h6 hr6 hB6 hm7
        go_upto_region 15 with (((with_reducible refine (HAL2).mono ?_); rintro z w8 ⟨A8, n8, c8, rfl, hown8, hb8⟩))
        have hr8 := hown8.rd
        have hr9 := (Rd.of_own hr7).below hb8 |>.more hb8.size
        obtain rfl : n8 = s.l.length := (RdI.len hr8).symm
        have HR1 := srev_any w8 (hk7.step hb8) (ht7.step hb8)
        have HR2 := srev_any w8 (h7.blk.step hb8) (h7.st.step hb8)
        have HLG := slog_any w8 (hk7.step hb8)
        have HB8 := Lib.hid (hB7.trans (hb8.mono hB7.size))
        have HR8 := Lib.hid hr8
        have HR9 := Lib.hid hr9
        have hmax8 := hr8.max
        have hle8 := hr8.le
        have hle9 := hr9.le
        have hmax9 := hr9.max
        unfold maxLen at hmax8 hmax9
        obtain ⟨q, hq⟩ : ∃ q, s.l.length = q := ⟨_, rfl⟩
        have HQ := Lib.hid hq
        rw [hq] at hle8 hle9 ⊢
        clear HAL2 hown8 hb8 hr8 hr9 hr7 hk7 ht7 h7 hB7 hq
        go_upto_region 17 with (first | (((with_reducible refine (HR1).mono ?_); rintro z w9 ⟨rfl, rfl⟩)) | (((with_reducible refine (HR2).mono ?_); rintro z w9 ⟨rfl, rfl⟩)) | (((with_reducible refine (HLG).mono ?_); rintro z w9 ⟨rfl, rfl⟩)))
        clear HR1 HR2 HLG
        go_wp2_with fail
        go_loopw [110] (fun i wr => ∃ k : Nat, i = .int .i64 (k : Int) ∧ k ≤ q ∧ Below w8.heap.size w8 wr) (fun i _ => q - (intOf i).toNat)
        case atStart => exact ⟨0, rfl, Nat.zero_le _, Below.refl _ _⟩
        case round =>
          obtain ⟨k, rfl, hk, hb⟩ := hrel
          by_cases hlt : k < q
          · have h1 : k < s.l.length := by rw [HQ.out]; exact hlt
            obtain ⟨ga, off, e, hg, he⟩ := HR8.out.elem It.row_length (by omega) (k := k) h1
            subst e
            obtain ⟨ga2, off2, e2, hg2, he2⟩ := HR9.out.elem It.row_length (by omega) (k := k) h1
            subst e2
            have hbc := bcell hb
            have f0 := (hbc.1 _ _ hg2).trans (he2 0 _ rfl)
            have f1 := (hbc.1 _ _ hg2).trans (he2 1 _ rfl)
            have f2 := (hbc.1 _ _ hg2).trans (he2 2 _ rfl)
            have e0 := (hbc.1 _ _ hg).trans (he 0 _ rfl)
            have e1 := (hbc.1 _ _ hg).trans (he 1 _ rfl)
            have e2 := (hbc.1 _ _ hg).trans (he 2 _ rfl)
            rw [Nat.add_zero] at f0 e0
            clear hbc he he2
            generalize s.l[k] = y at *
            obtain ⟨yk, yv, yr⟩ := y
            simp only at f0 f1 f2 e0 e1 e2
            have HHB := Lib.hid hb
            clear hb
            go_upto_region 20 with fail
            go_quiet (fail)
            clear f0 f1 f2 e0 e1 e2
            go_wp2_with fail
            go_roundw
            case rel => exact ⟨k + 1, by go_num, by omega, below_drewN HHB.out _⟩
            case measure => simp [intOf]; omega
          · have HHB := Lib.hid hb
            clear hb
            go_wp2_with (((with_reducible refine ((awake11 _)).mono ?_); rintro z w9 ⟨rfl, hb9⟩))
            go_ret
            exact ⟨rfl, (HB8.out.trans (HHB.out.mono HB8.out.size)).trans (hb9.mono (Nat.le_trans HB8.out.size HHB.out.size))⟩
end Go.Proofs.YtnkjekkdndjfaaaGreat
