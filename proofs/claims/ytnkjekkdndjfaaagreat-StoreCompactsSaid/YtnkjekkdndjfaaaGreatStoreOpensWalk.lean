
/- The law StoreOpens: the Go function returns true, whatever stands in both files. -/
import Derived.Test.YtnkjekkdndjfaaaGreatStoreDisk
namespace Go.Proofs.YtnkjekkdndjfaaaGreat
set_option linter.unusedVariables false
set_option linter.unusedSimpArgs false
open Go.RowKit
section
variable {w w' : World} {gs gst bst Ns : Nat} {p1 p2 : Option Addr} {ev since : Int} {dead : Bool} {rev : Int} {l : List It}
theorem sall_any (w : World) (h : At w gs 107 [.pointer p1, .pointer (some ⟨gst, 0, none⟩), .pointer p2, .int .i64 ev, .int .i64 since, .bool dead]) (hst : IsSt w gst bst Ns rev l) (hN : Ns ≤ 1000000) (hk : ∀ x ∈ l, x.k.size ≤ 1000) :
    Calls Tryz.prog 12 #[.pointer (some ⟨gs, 0, none⟩)] w fun x w' => ∃ A n c, x = .returned (.slice A n c) ∧ OwnI w' w.heap.size A n c l ∧ Below w.heap.size w w' := by
  obtain ⟨⟨x0, x1, x2, x3, x4, x5⟩, xf⟩ := at6 h
  have HA := all_any w hst hN hk
  clear h
  go_enter Tryz.func12, Tryz.ntmps12
  go_wp2_with (((with_reducible refine (HA).mono ?_); rintro z v ⟨A, n, c, rfl, hown, hb⟩))
  go_ret
  exact ⟨A, n, c, rfl, hown, hb⟩
theorem srev_any (w : World) (h : At w gs 107 [.pointer p1, .pointer (some ⟨gst, 0, none⟩), .pointer p2, .int .i64 ev, .int .i64 since, .bool dead]) (hst : IsSt w gst bst Ns rev l) :
    Calls Tryz.prog 13 #[.pointer (some ⟨gs, 0, none⟩)] w fun x w' => x = .returned (.int .i64 rev) ∧ w = w' := by
  obtain ⟨⟨x0, x1, x2, x3, x4, x5⟩, xf⟩ := at6 h
  have HA := rev_any w hst
  clear h
  go_enter Tryz.func13, Tryz.ntmps13
  go_wp2_with (((with_reducible refine (HA).mono ?_); rintro z v ⟨rfl, rfl⟩))
  go_ret
  exact ⟨rfl, rfl⟩
end
theorem rplS_ks : ∀ (ps : List (List UInt8)) (s : SL), Ks s → Asc s.l → Ks (rplS s ps).2
  | [], s, h, ha => h
  | p :: ps, s, h, ha => by
    rw [rplS]
    split
    · split
      · exact rplS_ks ps s h ha
      · split
        · rename_i hap
          exact rplS_ks ps _ (h.apply ha (apOk_key hap)) (applyL_asc _ _ ha)
        · exact h
    · exact h
theorem bsS_asc (d : PD) (h : bsC d = 0) : Asc (bsS d).l := by
  unfold bsC at h
  unfold bsS
  split
  · rename_i h0
    rw [if_pos h0] at h
    by_cases h1 : okS (ldB d snapN) = true
    · obtain ⟨h2, _⟩ := okS_right (rev := (rdS (ldB d snapN)).rev) (l := (rdS (ldB d snapN)).l) (s := (rdS (ldB d snapN)).s) h1 rfl
      unfold rightL at h2
      simp only [Bool.and_eq_true] at h2
      exact (rightF_asc h2.1).1
    · rw [if_neg h1] at h; cases h
  · exact List.Pairwise.nil
set_option maxRecDepth 100000 in
set_option maxHeartbeats 8000000 in
theorem storeOpens_walk {Aa : Option Addr} {na ca : Nat} {a0 : List UInt8} {Ab : Option Addr} {nb cb : Nat} {b0 : List UInt8} (w : World) (ha : RdB w w.heap.size Aa na ca a0) (hb : RdB w w.heap.size Ab nb cb b0) :
    Calls Tryz.prog 3 #[.slice Aa na ca, .slice Ab nb cb] w fun x w' => x = .returned (.bool true) ∧ Below w.heap.size w w' := by
  obtain rfl : a0.length = na := ha.length
  obtain rfl : b0.length = nb := hb.length
  have hlea := ha.le
  have hleb := hb.le
  by_cases la0 : a0.length ≤ 200
  · have da : decide (200 < (a0.length : Int)) = false := decide_eq_false (by omega)
    have HRA := Lib.hid (fun v (hv : Below w.heap.size w v) => (ha.below hv).more hv.size)
    clear ha hlea
    obtain ⟨a, rfl⟩ : ∃ a, a = a0 := ⟨_, rfl⟩
    have la := la0
    by_cases lb0 : b0.length ≤ 200
    · have db : decide (200 < (b0.length : Int)) = false := decide_eq_false (by omega)
      have HRB := Lib.hid (fun v (hv : Below w.heap.size w v) => (hb.below hv).more hv.size)
      clear hb hleb
      obtain ⟨b, rfl⟩ : ∃ b, b = b0 := ⟨_, rfl⟩
      have lb := lb0
      go_enter Tryz.func3, Tryz.ntmps3
      go_upto_region 6 with (((with_reducible refine ((pd_new w)).mono ?_); rintro z w1 ⟨gd, bd, rfl, hd1, hwb, hbg, hb1⟩))
      have hwd : w.heap.size ≤ gd := by omega
      have ok1 := ok_ap PD.Ok.new snapN snapN_mx a
      have HA1 := pd_ap snapN snapN_mx Aa a.length ca a w1 hd1 PD.Ok.new (by omega) (fun u hG => hd1.rdb (HRA.out w1 hb1) (Nat.le_refl _) (grown_mod' hG)) (by omega) (by omega)
      go_upto_region 7 with (((with_reducible refine (HA1).mono ?_); rintro z w2 ⟨rfl, hm2, hd2⟩))
      have hB2 := hb1.trans (mod2s hm2 hwd hwb hb1.size)
      have HA2 := pd_ap logN logN_hi Ab b.length cb b w2 hd2 ok1 (by omega) (fun u hG => hd2.rdb (HRB.out w2 hB2) (Nat.le_refl _) (grown_mod' hG)) (by omega) (by omega)
      clear HA1 hm2 hd1 hb1
      go_upto_region 8 with (((with_reducible refine (HA2).mono ?_); rintro z w3 ⟨rfl, hm3, hd3⟩))
      have hB3 := hB2.trans (mod2s hm3 hwd hwb hB2.size)
      have hD := D11.made a b
      obtain ⟨d, hde⟩ : ∃ d, (PD.new.out (PD.new.apO snapN a)).out ((PD.new.out (PD.new.apO snapN a)).apO logN b) = d := ⟨_, rfl⟩
      rw [hde] at hD hd3
      clear HA2 hm3 hd2 hB2 ok1 hde
      generalize PD.apO _ _ _ = oo1 at *
      generalize PD.apO _ _ _ = oo2 at *
      by_cases hbc : bcA a = 0
      rotate_left
      ·
        have HO1 := sopen_bad 5 w3 hd3 hD.ok (by omega) (by rw [hD.bs.1]; exact hbc)
        rcases bcA_two a with h | h | h
        · exact absurd h hbc
        ·
          rw [hD.bs.1, h] at HO1
          go_upto_region 9 with (((with_reducible refine (HO1).mono ?_); rintro z w4 ⟨rfl, hb4⟩))
          have HO2 := sopen_bad 5 w4 (hd3.step hb4) hD.ok (by omega) (by rw [hD.bs.1]; exact hbc)
          rw [hD.bs.1, h] at HO2
          have HB4 := Lib.hid (hB3.trans (hb4.mono hB3.size))
          clear HO1 hb4 hbc
          go_upto_region 10 with (((with_reducible refine (HO2).mono ?_); rintro z w5 ⟨rfl, hb5⟩))
          have HB5 := Lib.hid (HB4.out.trans (hb5.mono HB4.out.size))
          clear HO2 hb5 HB4 hB3 hd3
          go_wp2_with (((with_reducible refine ((awake11 _)).mono ?_); rintro z w6 ⟨rfl, hb6⟩))
          go_ret
          exact ⟨rfl, HB5.out.trans (hb6.mono HB5.out.size)⟩
        ·
          rw [hD.bs.1, h] at HO1
          go_upto_region 9 with (((with_reducible refine (HO1).mono ?_); rintro z w4 ⟨rfl, hb4⟩))
          have HO2 := sopen_bad 5 w4 (hd3.step hb4) hD.ok (by omega) (by rw [hD.bs.1]; exact hbc)
          rw [hD.bs.1, h] at HO2
          have HB4 := Lib.hid (hB3.trans (hb4.mono hB3.size))
          clear HO1 hb4 hbc
          go_upto_region 10 with (((with_reducible refine (HO2).mono ?_); rintro z w5 ⟨rfl, hb5⟩))
          have HB5 := Lib.hid (HB4.out.trans (hb5.mono HB4.out.size))
          clear HO2 hb5 HB4 hB3 hd3
          go_wp2_with (((with_reducible refine ((awake11 _)).mono ?_); rintro z w6 ⟨rfl, hb6⟩))
          go_ret
          exact ⟨rfl, HB5.out.trans (hb6.mono HB5.out.size)⟩
      obtain ⟨rs, at_, code, hall⟩ := allR_ex11 _ b (Nat.le_refl _)
      have hat := allR_le hall
      have hrc := hD.rc
      have hmd := hD.mend hat
      have hbs := hD.bs
      obtain ⟨R, hR⟩ : ∃ R, rplS (bsA a) rs = R := ⟨_, rfl⟩
      have hR2 := rplS_two rs (bsA a)
      have hKS := rplS_ks rs (bsA a) (by rw [← hbs.2]; exact (bsS_ks d (by rw [hbs.1]; exact hbc)).1) (by rw [← hbs.2]; exact bsS_asc d (by rw [hbs.1]; exact hbc))
      rw [hR] at hR2 hKS
      obtain ⟨rc, s'⟩ := R
      simp only at hR2 hKS
      have hD2 := hmd.2
      have hmc : (mendO d logN ((d.rb logN).length : Nat) at_).code = 0 := by rw [hrc.2.1]; exact hmd.1
      have hall1 : AllR (d.rb logN) rs at_ code := by rw [hrc.2.1]; exact hall
      rw [← hrc.2.1] at hD2
      have hb1c : bsC d = 0 := by rw [hbs.1]; exact hbc
      have hrp1 : rplS (bsS d) rs = (rc, s') := by rw [hbs.2]; exact hR
      obtain ⟨d', hd'⟩ : ∃ d', d.out (mendO d logN ((d.rb logN).length : Nat) at_) = d' := ⟨_, rfl⟩
      have hrl : (b.take at_).length = at_ := by rw [List.length_take]; omega
      rw [hd', hrc.2.1] at hD2
      have hrc2 := hD2.rc
      have hbs2 := hD2.bs
      have hmd2 := hD2.mend (at_ := at_) (by rw [hrl]; omega)
      have hmc2 : (mendO d' logN ((d'.rb logN).length : Nat) at_).code = 0 := by rw [hrc2.2.1]; exact hmd2.1
      have hall2 : AllR (d'.rb logN) rs at_ 6 := by rw [hrc2.2.1]; exact allR_take11 hall
      have hb2c : bsC d' = 0 := by rw [hbs2.1]; exact hbc
      have hrp2 : rplS (bsS d') rs = (rc, s') := by rw [hbs2.2]; exact hR
      clear hall hrc hmd hbs hR hrl hbs2 hmd2
      rcases hR2 with rfl | rfl
      rotate_left
      ·
        have HO1 := sopen_stop 5 w3 hd3 hD.ok (by omega) (by omega) hb1c hD.rc.1 hall1 hmc hrp1
        rw [hd'] at HO1
        go_upto_region 9 with (((with_reducible refine (HO1).mono ?_); rintro z w4 ⟨rfl, hd4, hm4⟩))
        have HO2 := sopen_stop 5 w4 hd4 hD2.ok (by omega) (by omega) hb2c hrc2.1 hall2 hmc2 hrp2
        have hB4 := hB3.trans (mod2s hm4 hwd hwb hB3.size)
        clear HO1 hm4 hb1c hall1 hmc hrp1
        go_upto_region 10 with (((with_reducible refine (HO2).mono ?_); rintro z w5 ⟨rfl, hd5, hm5⟩))
        have HB5 := Lib.hid (hB4.trans (mod2s hm5 hwd hwb hB4.size))
        clear HO2 hm5 hd4 hd5 hB4 hB3 hd3
        go_wp2_with (((with_reducible refine ((awake11 _)).mono ?_); rintro z w6 ⟨rfl, hb6⟩))
        go_ret
        exact ⟨rfl, HB5.out.trans (hb6.mono HB5.out.size)⟩
      have HO1 := sopen_log 5 w3 hd3 hD.ok (by omega) (by omega) hb1c hD.rc.1 hall1 hmc hrp1
      rw [hd'] at HO1
      go_upto_region 9 with (((with_reducible refine (HO1).mono ?_); rintro z w4 ⟨gs, gst, bst, Ns, gl, rfl, hs4, hNs, hg4, hm4⟩))
      have hB4 := hB3.trans (mod2s hm4 hwd hwb hB3.size)
      have HO2 := sopen_log 5 w4 hs4.dk hD2.ok (by omega) (by omega) hb2c hrc2.1 hall2 hmc2 hrp2
      clear HO1 hm4 hb1c hall1 hmc hrp1
      go_upto_region 10 with (((with_reducible refine (HO2).mono ?_); rintro z w5 ⟨gs2, gst2, bst2, Ns2, gl2, rfl, hs5, hNs2, hg5, hm5⟩))
      have hk5 := hm5.at hs4.blk (hs4.dk.freeAt hs4.blk (by decide))
      have ht5 := hs4.st.dk hs4.dk hm5 hs4.ne
      have hB5 := hB4.trans (mod2s hm5 hwd hwb hB4.size)
      have HAL1 := sall_any w5 hk5 ht5 (by omega) hKS.sizes
      have HS5 := Lib.hid hs5
      have HK5 := Lib.hid hk5
      have HT5 := Lib.hid ht5
      clear HO2 hm5 hs4 hB4 hB3 hd3 hs5 hk5 ht5 hD2 hrc2 hmc2 hall2 hb2c hrp2 hD hd'
      go_upto_region 14 with fail
      have HAL2 := fun v (hb : Below w5.heap.size w5 v) => sall_any v (HS5.out.blk.step hb) (HS5.out.st.step hb) (by omega) hKS.sizes
      go_upto_region 15 with (first | (((with_reducible refine (HAL1).mono ?_); rintro z w6 ⟨A6, n6, c6, rfl, hown6, hb6⟩)) | (((with_reducible refine ((HAL2 w6 hb6)).mono ?_); rintro z w7 ⟨A7, n7, c7, rfl, hown7, hb7⟩)))
      have hr6 := hown6.rd
      have hr7 := hown7.rd
      obtain rfl : n6 = s'.l.length := (RdI.len hr6).symm
      obtain rfl : n7 = s'.l.length := (RdI.len hr7).symm
      replace hr6 := (Rd.below hr6 hb7).more hb7.size
      have hB7 := (hB5.trans (hb6.mono hB5.size)).trans (hb7.mono (Nat.le_trans hB5.size hb6.size))
      have HR1 := srev_any w7 ((HK5.out.step hb6).step hb7) ((HT5.out.step hb6).step hb7)
      have HR2 := srev_any w7 ((HS5.out.blk.step hb6).step hb7) ((HS5.out.st.step hb6).step hb7)
      have HR6 := Lib.hid hr6
      have HR7 := Lib.hid hr7
      have HB7 := Lib.hid hB7
      have hmax := hr6.max
      have hle6 := hr6.le
      have hle7 := hr7.le
      have hmax7 := hr7.max
      unfold maxLen at hmax hmax7
      obtain ⟨q, hq⟩ : ∃ q, s'.l.length = q := ⟨_, rfl⟩
      have HQ := Lib.hid hq
      rw [hq] at hle6 hle7 ⊢
      clear HAL1 HAL2 hown6 hown7 hb6 hb7 hr6 hr7 hB7 hB5 HS5 HK5 HT5 hKS hq
      go_upto_region 17 with (first | (((with_reducible refine (HR1).mono ?_); rintro z w8 ⟨rfl, rfl⟩)) | (((with_reducible refine (HR2).mono ?_); rintro z w8 ⟨rfl, rfl⟩)))
      clear HR1 HR2
      go_wp2_with fail
      go_loopw [86] (fun i wr => ∃ k : Nat, i = .int .i64 (k : Int) ∧ k ≤ q ∧ Below w7.heap.size w7 wr) (fun i _ => q - (intOf i).toNat)
      case atStart => exact ⟨0, rfl, Nat.zero_le _, Below.refl _ _⟩
      case round =>
        obtain ⟨k, rfl, hk, hb⟩ := hrel
        by_cases hlt : k < q
        · have h1 : k < s'.l.length := by rw [HQ.out]; exact hlt
          obtain ⟨ga, off, e, hg, he⟩ := HR6.out.elem It.row_length (by omega) (k := k) h1
          subst e
          obtain ⟨ga2, off2, e2, hg2, he2⟩ := HR7.out.elem It.row_length (by omega) (k := k) h1
          subst e2
          have hbc := bcell hb
          have f0 := (hbc.1 _ _ hg2).trans (he2 0 _ rfl)
          have f1 := (hbc.1 _ _ hg2).trans (he2 1 _ rfl)
          have f2 := (hbc.1 _ _ hg2).trans (he2 2 _ rfl)
          have e0 := (hbc.1 _ _ hg).trans (he 0 _ rfl)
          have e1 := (hbc.1 _ _ hg).trans (he 1 _ rfl)
          have e2 := (hbc.1 _ _ hg).trans (he 2 _ rfl)
          rw [Nat.add_zero] at f0 e0
          clear hbc he he2
          generalize s'.l[k] = y at *
          obtain ⟨yk, yv, yr⟩ := y
          simp only at f0 f1 f2 e0 e1 e2
          have HHB := Lib.hid hb
          clear hb
          go_upto_region 20 with fail
          go_quiet (fail)
          clear f0 f1 f2 e0 e1 e2
          go_wp2_with fail
          go_roundw
          case rel => exact ⟨k + 1, by go_num, by omega, below_drewN HHB.out _⟩
          case measure => simp [intOf]; omega
        · have HHB := Lib.hid hb
          clear hb
          go_wp2_with (((with_reducible refine ((awake11 _)).mono ?_); rintro z w9 ⟨rfl, hb9⟩))
          go_ret
          exact ⟨rfl, (HB7.out.trans (HHB.out.mono HB7.out.size)).trans (hb9.mono (Nat.le_trans HB7.out.size HHB.out.size))⟩
    · have db : decide (200 < (b0.length : Int)) = true := decide_eq_true (by omega)
      have hb2 := hb.take (k := 200) (by omega) (c' := cb) (by omega) (Nat.le_refl _)
      obtain ⟨b, hbe⟩ : ∃ b, b0.take 200 = b := ⟨_, rfl⟩
      have lb : b.length ≤ 200 := by rw [← hbe, List.length_take]; omega
      rw [hbe] at hb2
      have HRB := Lib.hid (fun v (hv : Below w.heap.size w v) => (hb2.below hv).more hv.size)
      clear hb hb2 hbe
      go_enter Tryz.func3, Tryz.ntmps3
      go_upto_region 5 with fail
      clear hleb
      go_upto_region 6 with (((with_reducible refine ((pd_new w)).mono ?_); rintro z w1 ⟨gd, bd, rfl, hd1, hwb, hbg, hb1⟩))
      have hwd : w.heap.size ≤ gd := by omega
      have ok1 := ok_ap PD.Ok.new snapN snapN_mx a
      have HA1 := pd_ap snapN snapN_mx Aa a.length ca a w1 hd1 PD.Ok.new (by omega) (fun u hG => hd1.rdb (HRA.out w1 hb1) (Nat.le_refl _) (grown_mod' hG)) (by omega) (by omega)
      go_upto_region 7 with (((with_reducible refine (HA1).mono ?_); rintro z w2 ⟨rfl, hm2, hd2⟩))
      have hB2 := hb1.trans (mod2s hm2 hwd hwb hb1.size)
      have HA2 := pd_ap logN logN_hi Ab 200 cb b w2 hd2 ok1 (by omega) (fun u hG => hd2.rdb (HRB.out w2 hB2) (Nat.le_refl _) (grown_mod' hG)) (by omega) (by omega)
      clear HA1 hm2 hd1 hb1
      go_upto_region 8 with (((with_reducible refine (HA2).mono ?_); rintro z w3 ⟨rfl, hm3, hd3⟩))
      have hB3 := hB2.trans (mod2s hm3 hwd hwb hB2.size)
      have hD := D11.made a b
      obtain ⟨d, hde⟩ : ∃ d, (PD.new.out (PD.new.apO snapN a)).out ((PD.new.out (PD.new.apO snapN a)).apO logN b) = d := ⟨_, rfl⟩
      rw [hde] at hD hd3
      clear HA2 hm3 hd2 hB2 ok1 hde
      generalize PD.apO _ _ _ = oo1 at *
      generalize PD.apO _ _ _ = oo2 at *
      by_cases hbc : bcA a = 0
      rotate_left
      ·
        have HO1 := sopen_bad 5 w3 hd3 hD.ok (by omega) (by rw [hD.bs.1]; exact hbc)
        rcases bcA_two a with h | h | h
        · exact absurd h hbc
        ·
          rw [hD.bs.1, h] at HO1
          go_upto_region 9 with (((with_reducible refine (HO1).mono ?_); rintro z w4 ⟨rfl, hb4⟩))
          have HO2 := sopen_bad 5 w4 (hd3.step hb4) hD.ok (by omega) (by rw [hD.bs.1]; exact hbc)
          rw [hD.bs.1, h] at HO2
          have HB4 := Lib.hid (hB3.trans (hb4.mono hB3.size))
          clear HO1 hb4 hbc
          go_upto_region 10 with (((with_reducible refine (HO2).mono ?_); rintro z w5 ⟨rfl, hb5⟩))
          have HB5 := Lib.hid (HB4.out.trans (hb5.mono HB4.out.size))
          clear HO2 hb5 HB4 hB3 hd3
          go_wp2_with (((with_reducible refine ((awake11 _)).mono ?_); rintro z w6 ⟨rfl, hb6⟩))
          go_ret
          exact ⟨rfl, HB5.out.trans (hb6.mono HB5.out.size)⟩
        ·
          rw [hD.bs.1, h] at HO1
          go_upto_region 9 with (((with_reducible refine (HO1).mono ?_); rintro z w4 ⟨rfl, hb4⟩))
          have HO2 := sopen_bad 5 w4 (hd3.step hb4) hD.ok (by omega) (by rw [hD.bs.1]; exact hbc)
          rw [hD.bs.1, h] at HO2
          have HB4 := Lib.hid (hB3.trans (hb4.mono hB3.size))
          clear HO1 hb4 hbc
          go_upto_region 10 with (((with_reducible refine (HO2).mono ?_); rintro z w5 ⟨rfl, hb5⟩))
          have HB5 := Lib.hid (HB4.out.trans (hb5.mono HB4.out.size))
          clear HO2 hb5 HB4 hB3 hd3
          go_wp2_with (((with_reducible refine ((awake11 _)).mono ?_); rintro z w6 ⟨rfl, hb6⟩))
          go_ret
          exact ⟨rfl, HB5.out.trans (hb6.mono HB5.out.size)⟩
      obtain ⟨rs, at_, code, hall⟩ := allR_ex11 _ b (Nat.le_refl _)
      have hat := allR_le hall
      have hrc := hD.rc
      have hmd := hD.mend hat
      have hbs := hD.bs
      obtain ⟨R, hR⟩ : ∃ R, rplS (bsA a) rs = R := ⟨_, rfl⟩
      have hR2 := rplS_two rs (bsA a)
      have hKS := rplS_ks rs (bsA a) (by rw [← hbs.2]; exact (bsS_ks d (by rw [hbs.1]; exact hbc)).1) (by rw [← hbs.2]; exact bsS_asc d (by rw [hbs.1]; exact hbc))
      rw [hR] at hR2 hKS
      obtain ⟨rc, s'⟩ := R
      simp only at hR2 hKS
      have hD2 := hmd.2
      have hmc : (mendO d logN ((d.rb logN).length : Nat) at_).code = 0 := by rw [hrc.2.1]; exact hmd.1
      have hall1 : AllR (d.rb logN) rs at_ code := by rw [hrc.2.1]; exact hall
      rw [← hrc.2.1] at hD2
      have hb1c : bsC d = 0 := by rw [hbs.1]; exact hbc
      have hrp1 : rplS (bsS d) rs = (rc, s') := by rw [hbs.2]; exact hR
      obtain ⟨d', hd'⟩ : ∃ d', d.out (mendO d logN ((d.rb logN).length : Nat) at_) = d' := ⟨_, rfl⟩
      have hrl : (b.take at_).length = at_ := by rw [List.length_take]; omega
      rw [hd', hrc.2.1] at hD2
      have hrc2 := hD2.rc
      have hbs2 := hD2.bs
      have hmd2 := hD2.mend (at_ := at_) (by rw [hrl]; omega)
      have hmc2 : (mendO d' logN ((d'.rb logN).length : Nat) at_).code = 0 := by rw [hrc2.2.1]; exact hmd2.1
      have hall2 : AllR (d'.rb logN) rs at_ 6 := by rw [hrc2.2.1]; exact allR_take11 hall
      have hb2c : bsC d' = 0 := by rw [hbs2.1]; exact hbc
      have hrp2 : rplS (bsS d') rs = (rc, s') := by rw [hbs2.2]; exact hR
      clear hall hrc hmd hbs hR hrl hbs2 hmd2
      rcases hR2 with rfl | rfl
      rotate_left
      ·
        have HO1 := sopen_stop 5 w3 hd3 hD.ok (by omega) (by omega) hb1c hD.rc.1 hall1 hmc hrp1
        rw [hd'] at HO1
        go_upto_region 9 with (((with_reducible refine (HO1).mono ?_); rintro z w4 ⟨rfl, hd4, hm4⟩))
        have HO2 := sopen_stop 5 w4 hd4 hD2.ok (by omega) (by omega) hb2c hrc2.1 hall2 hmc2 hrp2
        have hB4 := hB3.trans (mod2s hm4 hwd hwb hB3.size)
        clear HO1 hm4 hb1c hall1 hmc hrp1
        go_upto_region 10 with (((with_reducible refine (HO2).mono ?_); rintro z w5 ⟨rfl, hd5, hm5⟩))
        have HB5 := Lib.hid (hB4.trans (mod2s hm5 hwd hwb hB4.size))
        clear HO2 hm5 hd4 hd5 hB4 hB3 hd3
        go_wp2_with (((with_reducible refine ((awake11 _)).mono ?_); rintro z w6 ⟨rfl, hb6⟩))
        go_ret
        exact ⟨rfl, HB5.out.trans (hb6.mono HB5.out.size)⟩
      have HO1 := sopen_log 5 w3 hd3 hD.ok (by omega) (by omega) hb1c hD.rc.1 hall1 hmc hrp1
      rw [hd'] at HO1
      go_upto_region 9 with (((with_reducible refine (HO1).mono ?_); rintro z w4 ⟨gs, gst, bst, Ns, gl, rfl, hs4, hNs, hg4, hm4⟩))
      have hB4 := hB3.trans (mod2s hm4 hwd hwb hB3.size)
      have HO2 := sopen_log 5 w4 hs4.dk hD2.ok (by omega) (by omega) hb2c hrc2.1 hall2 hmc2 hrp2
      clear HO1 hm4 hb1c hall1 hmc hrp1
      go_upto_region 10 with (((with_reducible refine (HO2).mono ?_); rintro z w5 ⟨gs2, gst2, bst2, Ns2, gl2, rfl, hs5, hNs2, hg5, hm5⟩))
      have hk5 := hm5.at hs4.blk (hs4.dk.freeAt hs4.blk (by decide))
      have ht5 := hs4.st.dk hs4.dk hm5 hs4.ne
      have hB5 := hB4.trans (mod2s hm5 hwd hwb hB4.size)
      have HAL1 := sall_any w5 hk5 ht5 (by omega) hKS.sizes
      have HS5 := Lib.hid hs5
      have HK5 := Lib.hid hk5
      have HT5 := Lib.hid ht5
      clear HO2 hm5 hs4 hB4 hB3 hd3 hs5 hk5 ht5 hD2 hrc2 hmc2 hall2 hb2c hrp2 hD hd'
      go_upto_region 14 with fail
      have HAL2 := fun v (hb : Below w5.heap.size w5 v) => sall_any v (HS5.out.blk.step hb) (HS5.out.st.step hb) (by omega) hKS.sizes
      go_upto_region 15 with (first | (((with_reducible refine (HAL1).mono ?_); rintro z w6 ⟨A6, n6, c6, rfl, hown6, hb6⟩)) | (((with_reducible refine ((HAL2 w6 hb6)).mono ?_); rintro z w7 ⟨A7, n7, c7, rfl, hown7, hb7⟩)))
      have hr6 := hown6.rd
      have hr7 := hown7.rd
      obtain rfl : n6 = s'.l.length := (RdI.len hr6).symm
      obtain rfl : n7 = s'.l.length := (RdI.len hr7).symm
      replace hr6 := (Rd.below hr6 hb7).more hb7.size
      have hB7 := (hB5.trans (hb6.mono hB5.size)).trans (hb7.mono (Nat.le_trans hB5.size hb6.size))
      have HR1 := srev_any w7 ((HK5.out.step hb6).step hb7) ((HT5.out.step hb6).step hb7)
      have HR2 := srev_any w7 ((HS5.out.blk.step hb6).step hb7) ((HS5.out.st.step hb6).step hb7)
      have HR6 := Lib.hid hr6
      have HR7 := Lib.hid hr7
      have HB7 := Lib.hid hB7
      have hmax := hr6.max
      have hle6 := hr6.le
      have hle7 := hr7.le
      have hmax7 := hr7.max
      unfold maxLen at hmax hmax7
      obtain ⟨q, hq⟩ : ∃ q, s'.l.length = q := ⟨_, rfl⟩
      have HQ := Lib.hid hq
      rw [hq] at hle6 hle7 ⊢
      clear HAL1 HAL2 hown6 hown7 hb6 hb7 hr6 hr7 hB7 hB5 HS5 HK5 HT5 hKS hq
      go_upto_region 17 with (first | (((with_reducible refine (HR1).mono ?_); rintro z w8 ⟨rfl, rfl⟩)) | (((with_reducible refine (HR2).mono ?_); rintro z w8 ⟨rfl, rfl⟩)))
      clear HR1 HR2
      go_wp2_with fail
      go_loopw [86] (fun i wr => ∃ k : Nat, i = .int .i64 (k : Int) ∧ k ≤ q ∧ Below w7.heap.size w7 wr) (fun i _ => q - (intOf i).toNat)
      case atStart => exact ⟨0, rfl, Nat.zero_le _, Below.refl _ _⟩
      case round =>
        obtain ⟨k, rfl, hk, hb⟩ := hrel
        by_cases hlt : k < q
        · have h1 : k < s'.l.length := by rw [HQ.out]; exact hlt
          obtain ⟨ga, off, e, hg, he⟩ := HR6.out.elem It.row_length (by omega) (k := k) h1
          subst e
          obtain ⟨ga2, off2, e2, hg2, he2⟩ := HR7.out.elem It.row_length (by omega) (k := k) h1
          subst e2
          have hbc := bcell hb
          have f0 := (hbc.1 _ _ hg2).trans (he2 0 _ rfl)
          have f1 := (hbc.1 _ _ hg2).trans (he2 1 _ rfl)
          have f2 := (hbc.1 _ _ hg2).trans (he2 2 _ rfl)
          have e0 := (hbc.1 _ _ hg).trans (he 0 _ rfl)
          have e1 := (hbc.1 _ _ hg).trans (he 1 _ rfl)
          have e2 := (hbc.1 _ _ hg).trans (he 2 _ rfl)
          rw [Nat.add_zero] at f0 e0
          clear hbc he he2
          generalize s'.l[k] = y at *
          obtain ⟨yk, yv, yr⟩ := y
          simp only at f0 f1 f2 e0 e1 e2
          have HHB := Lib.hid hb
          clear hb
          go_upto_region 20 with fail
          go_quiet (fail)
          clear f0 f1 f2 e0 e1 e2
          go_wp2_with fail
          go_roundw
          case rel => exact ⟨k + 1, by go_num, by omega, below_drewN HHB.out _⟩
          case measure => simp [intOf]; omega
        · have HHB := Lib.hid hb
          clear hb
          go_wp2_with (((with_reducible refine ((awake11 _)).mono ?_); rintro z w9 ⟨rfl, hb9⟩))
          go_ret
          exact ⟨rfl, (HB7.out.trans (HHB.out.mono HB7.out.size)).trans (hb9.mono (Nat.le_trans HB7.out.size HHB.out.size))⟩
  · have da : decide (200 < (a0.length : Int)) = true := decide_eq_true (by omega)
    have ha2 := ha.take (k := 200) (by omega) (c' := ca) (by omega) (Nat.le_refl _)
    obtain ⟨a, hae⟩ : ∃ a, a0.take 200 = a := ⟨_, rfl⟩
    have la : a.length ≤ 200 := by rw [← hae, List.length_take]; omega
    rw [hae] at ha2
    have HRA := Lib.hid (fun v (hv : Below w.heap.size w v) => (ha2.below hv).more hv.size)
    clear ha ha2 hae
    by_cases lb0 : b0.length ≤ 200
    · have db : decide (200 < (b0.length : Int)) = false := decide_eq_false (by omega)
      have HRB := Lib.hid (fun v (hv : Below w.heap.size w v) => (hb.below hv).more hv.size)
      clear hb hleb
      obtain ⟨b, rfl⟩ : ∃ b, b = b0 := ⟨_, rfl⟩
      have lb := lb0
      go_enter Tryz.func3, Tryz.ntmps3
      go_upto_region 5 with fail
      clear hlea
      go_upto_region 6 with (((with_reducible refine ((pd_new w)).mono ?_); rintro z w1 ⟨gd, bd, rfl, hd1, hwb, hbg, hb1⟩))
      have hwd : w.heap.size ≤ gd := by omega
      have ok1 := ok_ap PD.Ok.new snapN snapN_mx a
      have HA1 := pd_ap snapN snapN_mx Aa 200 ca a w1 hd1 PD.Ok.new (by omega) (fun u hG => hd1.rdb (HRA.out w1 hb1) (Nat.le_refl _) (grown_mod' hG)) (by omega) (by omega)
      go_upto_region 7 with (((with_reducible refine (HA1).mono ?_); rintro z w2 ⟨rfl, hm2, hd2⟩))
      have hB2 := hb1.trans (mod2s hm2 hwd hwb hb1.size)
      have HA2 := pd_ap logN logN_hi Ab b.length cb b w2 hd2 ok1 (by omega) (fun u hG => hd2.rdb (HRB.out w2 hB2) (Nat.le_refl _) (grown_mod' hG)) (by omega) (by omega)
      clear HA1 hm2 hd1 hb1
      go_upto_region 8 with (((with_reducible refine (HA2).mono ?_); rintro z w3 ⟨rfl, hm3, hd3⟩))
      have hB3 := hB2.trans (mod2s hm3 hwd hwb hB2.size)
      have hD := D11.made a b
      obtain ⟨d, hde⟩ : ∃ d, (PD.new.out (PD.new.apO snapN a)).out ((PD.new.out (PD.new.apO snapN a)).apO logN b) = d := ⟨_, rfl⟩
      rw [hde] at hD hd3
      clear HA2 hm3 hd2 hB2 ok1 hde
      generalize PD.apO _ _ _ = oo1 at *
      generalize PD.apO _ _ _ = oo2 at *
      by_cases hbc : bcA a = 0
      rotate_left
      ·
        have HO1 := sopen_bad 5 w3 hd3 hD.ok (by omega) (by rw [hD.bs.1]; exact hbc)
        rcases bcA_two a with h | h | h
        · exact absurd h hbc
        ·
          rw [hD.bs.1, h] at HO1
          go_upto_region 9 with (((with_reducible refine (HO1).mono ?_); rintro z w4 ⟨rfl, hb4⟩))
          have HO2 := sopen_bad 5 w4 (hd3.step hb4) hD.ok (by omega) (by rw [hD.bs.1]; exact hbc)
          rw [hD.bs.1, h] at HO2
          have HB4 := Lib.hid (hB3.trans (hb4.mono hB3.size))
          clear HO1 hb4 hbc
          go_upto_region 10 with (((with_reducible refine (HO2).mono ?_); rintro z w5 ⟨rfl, hb5⟩))
          have HB5 := Lib.hid (HB4.out.trans (hb5.mono HB4.out.size))
          clear HO2 hb5 HB4 hB3 hd3
          go_wp2_with (((with_reducible refine ((awake11 _)).mono ?_); rintro z w6 ⟨rfl, hb6⟩))
          go_ret
          exact ⟨rfl, HB5.out.trans (hb6.mono HB5.out.size)⟩
        ·
          rw [hD.bs.1, h] at HO1
          go_upto_region 9 with (((with_reducible refine (HO1).mono ?_); rintro z w4 ⟨rfl, hb4⟩))
          have HO2 := sopen_bad 5 w4 (hd3.step hb4) hD.ok (by omega) (by rw [hD.bs.1]; exact hbc)
          rw [hD.bs.1, h] at HO2
          have HB4 := Lib.hid (hB3.trans (hb4.mono hB3.size))
          clear HO1 hb4 hbc
          go_upto_region 10 with (((with_reducible refine (HO2).mono ?_); rintro z w5 ⟨rfl, hb5⟩))
          have HB5 := Lib.hid (HB4.out.trans (hb5.mono HB4.out.size))
          clear HO2 hb5 HB4 hB3 hd3
          go_wp2_with (((with_reducible refine ((awake11 _)).mono ?_); rintro z w6 ⟨rfl, hb6⟩))
          go_ret
          exact ⟨rfl, HB5.out.trans (hb6.mono HB5.out.size)⟩
      obtain ⟨rs, at_, code, hall⟩ := allR_ex11 _ b (Nat.le_refl _)
      have hat := allR_le hall
      have hrc := hD.rc
      have hmd := hD.mend hat
      have hbs := hD.bs
      obtain ⟨R, hR⟩ : ∃ R, rplS (bsA a) rs = R := ⟨_, rfl⟩
      have hR2 := rplS_two rs (bsA a)
      have hKS := rplS_ks rs (bsA a) (by rw [← hbs.2]; exact (bsS_ks d (by rw [hbs.1]; exact hbc)).1) (by rw [← hbs.2]; exact bsS_asc d (by rw [hbs.1]; exact hbc))
      rw [hR] at hR2 hKS
      obtain ⟨rc, s'⟩ := R
      simp only at hR2 hKS
      have hD2 := hmd.2
      have hmc : (mendO d logN ((d.rb logN).length : Nat) at_).code = 0 := by rw [hrc.2.1]; exact hmd.1
      have hall1 : AllR (d.rb logN) rs at_ code := by rw [hrc.2.1]; exact hall
      rw [← hrc.2.1] at hD2
      have hb1c : bsC d = 0 := by rw [hbs.1]; exact hbc
      have hrp1 : rplS (bsS d) rs = (rc, s') := by rw [hbs.2]; exact hR
      obtain ⟨d', hd'⟩ : ∃ d', d.out (mendO d logN ((d.rb logN).length : Nat) at_) = d' := ⟨_, rfl⟩
      have hrl : (b.take at_).length = at_ := by rw [List.length_take]; omega
      rw [hd', hrc.2.1] at hD2
      have hrc2 := hD2.rc
      have hbs2 := hD2.bs
      have hmd2 := hD2.mend (at_ := at_) (by rw [hrl]; omega)
      have hmc2 : (mendO d' logN ((d'.rb logN).length : Nat) at_).code = 0 := by rw [hrc2.2.1]; exact hmd2.1
      have hall2 : AllR (d'.rb logN) rs at_ 6 := by rw [hrc2.2.1]; exact allR_take11 hall
      have hb2c : bsC d' = 0 := by rw [hbs2.1]; exact hbc
      have hrp2 : rplS (bsS d') rs = (rc, s') := by rw [hbs2.2]; exact hR
      clear hall hrc hmd hbs hR hrl hbs2 hmd2
      rcases hR2 with rfl | rfl
      rotate_left
      ·
        have HO1 := sopen_stop 5 w3 hd3 hD.ok (by omega) (by omega) hb1c hD.rc.1 hall1 hmc hrp1
        rw [hd'] at HO1
        go_upto_region 9 with (((with_reducible refine (HO1).mono ?_); rintro z w4 ⟨rfl, hd4, hm4⟩))
        have HO2 := sopen_stop 5 w4 hd4 hD2.ok (by omega) (by omega) hb2c hrc2.1 hall2 hmc2 hrp2
        have hB4 := hB3.trans (mod2s hm4 hwd hwb hB3.size)
        clear HO1 hm4 hb1c hall1 hmc hrp1
        go_upto_region 10 with (((with_reducible refine (HO2).mono ?_); rintro z w5 ⟨rfl, hd5, hm5⟩))
        have HB5 := Lib.hid (hB4.trans (mod2s hm5 hwd hwb hB4.size))
        clear HO2 hm5 hd4 hd5 hB4 hB3 hd3
        go_wp2_with (((with_reducible refine ((awake11 _)).mono ?_); rintro z w6 ⟨rfl, hb6⟩))
        go_ret
        exact ⟨rfl, HB5.out.trans (hb6.mono HB5.out.size)⟩
      have HO1 := sopen_log 5 w3 hd3 hD.ok (by omega) (by omega) hb1c hD.rc.1 hall1 hmc hrp1
      rw [hd'] at HO1
      go_upto_region 9 with (((with_reducible refine (HO1).mono ?_); rintro z w4 ⟨gs, gst, bst, Ns, gl, rfl, hs4, hNs, hg4, hm4⟩))
      have hB4 := hB3.trans (mod2s hm4 hwd hwb hB3.size)
      have HO2 := sopen_log 5 w4 hs4.dk hD2.ok (by omega) (by omega) hb2c hrc2.1 hall2 hmc2 hrp2
      clear HO1 hm4 hb1c hall1 hmc hrp1
      go_upto_region 10 with (((with_reducible refine (HO2).mono ?_); rintro z w5 ⟨gs2, gst2, bst2, Ns2, gl2, rfl, hs5, hNs2, hg5, hm5⟩))
      have hk5 := hm5.at hs4.blk (hs4.dk.freeAt hs4.blk (by decide))
      have ht5 := hs4.st.dk hs4.dk hm5 hs4.ne
      have hB5 := hB4.trans (mod2s hm5 hwd hwb hB4.size)
      have HAL1 := sall_any w5 hk5 ht5 (by omega) hKS.sizes
      have HS5 := Lib.hid hs5
      have HK5 := Lib.hid hk5
      have HT5 := Lib.hid ht5
      clear HO2 hm5 hs4 hB4 hB3 hd3 hs5 hk5 ht5 hD2 hrc2 hmc2 hall2 hb2c hrp2 hD hd'
      go_upto_region 14 with fail
      have HAL2 := fun v (hb : Below w5.heap.size w5 v) => sall_any v (HS5.out.blk.step hb) (HS5.out.st.step hb) (by omega) hKS.sizes
      go_upto_region 15 with (first | (((with_reducible refine (HAL1).mono ?_); rintro z w6 ⟨A6, n6, c6, rfl, hown6, hb6⟩)) | (((with_reducible refine ((HAL2 w6 hb6)).mono ?_); rintro z w7 ⟨A7, n7, c7, rfl, hown7, hb7⟩)))
      have hr6 := hown6.rd
      have hr7 := hown7.rd
      obtain rfl : n6 = s'.l.length := (RdI.len hr6).symm
      obtain rfl : n7 = s'.l.length := (RdI.len hr7).symm
      replace hr6 := (Rd.below hr6 hb7).more hb7.size
      have hB7 := (hB5.trans (hb6.mono hB5.size)).trans (hb7.mono (Nat.le_trans hB5.size hb6.size))
      have HR1 := srev_any w7 ((HK5.out.step hb6).step hb7) ((HT5.out.step hb6).step hb7)
      have HR2 := srev_any w7 ((HS5.out.blk.step hb6).step hb7) ((HS5.out.st.step hb6).step hb7)
      have HR6 := Lib.hid hr6
      have HR7 := Lib.hid hr7
      have HB7 := Lib.hid hB7
      have hmax := hr6.max
      have hle6 := hr6.le
      have hle7 := hr7.le
      have hmax7 := hr7.max
      unfold maxLen at hmax hmax7
      obtain ⟨q, hq⟩ : ∃ q, s'.l.length = q := ⟨_, rfl⟩
      have HQ := Lib.hid hq
      rw [hq] at hle6 hle7 ⊢
      clear HAL1 HAL2 hown6 hown7 hb6 hb7 hr6 hr7 hB7 hB5 HS5 HK5 HT5 hKS hq
      go_upto_region 17 with (first | (((with_reducible refine (HR1).mono ?_); rintro z w8 ⟨rfl, rfl⟩)) | (((with_reducible refine (HR2).mono ?_); rintro z w8 ⟨rfl, rfl⟩)))
      clear HR1 HR2
      go_wp2_with fail
      go_loopw [86] (fun i wr => ∃ k : Nat, i = .int .i64 (k : Int) ∧ k ≤ q ∧ Below w7.heap.size w7 wr) (fun i _ => q - (intOf i).toNat)
      case atStart => exact ⟨0, rfl, Nat.zero_le _, Below.refl _ _⟩
      case round =>
        obtain ⟨k, rfl, hk, hb⟩ := hrel
        by_cases hlt : k < q
        · have h1 : k < s'.l.length := by rw [HQ.out]; exact hlt
          obtain ⟨ga, off, e, hg, he⟩ := HR6.out.elem It.row_length (by omega) (k := k) h1
          subst e
          obtain ⟨ga2, off2, e2, hg2, he2⟩ := HR7.out.elem It.row_length (by omega) (k := k) h1
          subst e2
          have hbc := bcell hb
          have f0 := (hbc.1 _ _ hg2).trans (he2 0 _ rfl)
          have f1 := (hbc.1 _ _ hg2).trans (he2 1 _ rfl)
          have f2 := (hbc.1 _ _ hg2).trans (he2 2 _ rfl)
          have e0 := (hbc.1 _ _ hg).trans (he 0 _ rfl)
          have e1 := (hbc.1 _ _ hg).trans (he 1 _ rfl)
          have e2 := (hbc.1 _ _ hg).trans (he 2 _ rfl)
          rw [Nat.add_zero] at f0 e0
          clear hbc he he2
          generalize s'.l[k] = y at *
          obtain ⟨yk, yv, yr⟩ := y
          simp only at f0 f1 f2 e0 e1 e2
          have HHB := Lib.hid hb
          clear hb
          go_upto_region 20 with fail
          go_quiet (fail)
          clear f0 f1 f2 e0 e1 e2
          go_wp2_with fail
          go_roundw
          case rel => exact ⟨k + 1, by go_num, by omega, below_drewN HHB.out _⟩
          case measure => simp [intOf]; omega
        · have HHB := Lib.hid hb
          clear hb
          go_wp2_with (((with_reducible refine ((awake11 _)).mono ?_); rintro z w9 ⟨rfl, hb9⟩))
          go_ret
          exact ⟨rfl, (HB7.out.trans (HHB.out.mono HB7.out.size)).trans (hb9.mono (Nat.le_trans HB7.out.size HHB.out.size))⟩
    · have db : decide (200 < (b0.length : Int)) = true := decide_eq_true (by omega)
      have hb2 := hb.take (k := 200) (by omega) (c' := cb) (by omega) (Nat.le_refl _)
      obtain ⟨b, hbe⟩ : ∃ b, b0.take 200 = b := ⟨_, rfl⟩
      have lb : b.length ≤ 200 := by rw [← hbe, List.length_take]; omega
      rw [hbe] at hb2
      have HRB := Lib.hid (fun v (hv : Below w.heap.size w v) => (hb2.below hv).more hv.size)
      clear hb hb2 hbe
      go_enter Tryz.func3, Tryz.ntmps3
      go_upto_region 5 with fail
      clear hlea hleb
      go_upto_region 6 with (((with_reducible refine ((pd_new w)).mono ?_); rintro z w1 ⟨gd, bd, rfl, hd1, hwb, hbg, hb1⟩))
      have hwd : w.heap.size ≤ gd := by omega
      have ok1 := ok_ap PD.Ok.new snapN snapN_mx a
      have HA1 := pd_ap snapN snapN_mx Aa 200 ca a w1 hd1 PD.Ok.new (by omega) (fun u hG => hd1.rdb (HRA.out w1 hb1) (Nat.le_refl _) (grown_mod' hG)) (by omega) (by omega)
      go_upto_region 7 with (((with_reducible refine (HA1).mono ?_); rintro z w2 ⟨rfl, hm2, hd2⟩))
      have hB2 := hb1.trans (mod2s hm2 hwd hwb hb1.size)
      have HA2 := pd_ap logN logN_hi Ab 200 cb b w2 hd2 ok1 (by omega) (fun u hG => hd2.rdb (HRB.out w2 hB2) (Nat.le_refl _) (grown_mod' hG)) (by omega) (by omega)
      clear HA1 hm2 hd1 hb1
      go_upto_region 8 with (((with_reducible refine (HA2).mono ?_); rintro z w3 ⟨rfl, hm3, hd3⟩))
      have hB3 := hB2.trans (mod2s hm3 hwd hwb hB2.size)
      have hD := D11.made a b
      obtain ⟨d, hde⟩ : ∃ d, (PD.new.out (PD.new.apO snapN a)).out ((PD.new.out (PD.new.apO snapN a)).apO logN b) = d := ⟨_, rfl⟩
      rw [hde] at hD hd3
      clear HA2 hm3 hd2 hB2 ok1 hde
      generalize PD.apO _ _ _ = oo1 at *
      generalize PD.apO _ _ _ = oo2 at *
      by_cases hbc : bcA a = 0
      rotate_left
      ·
        have HO1 := sopen_bad 5 w3 hd3 hD.ok (by omega) (by rw [hD.bs.1]; exact hbc)
        rcases bcA_two a with h | h | h
        · exact absurd h hbc
        ·
          rw [hD.bs.1, h] at HO1
          go_upto_region 9 with (((with_reducible refine (HO1).mono ?_); rintro z w4 ⟨rfl, hb4⟩))
          have HO2 := sopen_bad 5 w4 (hd3.step hb4) hD.ok (by omega) (by rw [hD.bs.1]; exact hbc)
          rw [hD.bs.1, h] at HO2
          have HB4 := Lib.hid (hB3.trans (hb4.mono hB3.size))
          clear HO1 hb4 hbc
          go_upto_region 10 with (((with_reducible refine (HO2).mono ?_); rintro z w5 ⟨rfl, hb5⟩))
          have HB5 := Lib.hid (HB4.out.trans (hb5.mono HB4.out.size))
          clear HO2 hb5 HB4 hB3 hd3
          go_wp2_with (((with_reducible refine ((awake11 _)).mono ?_); rintro z w6 ⟨rfl, hb6⟩))
          go_ret
          exact ⟨rfl, HB5.out.trans (hb6.mono HB5.out.size)⟩
        ·
          rw [hD.bs.1, h] at HO1
          go_upto_region 9 with (((with_reducible refine (HO1).mono ?_); rintro z w4 ⟨rfl, hb4⟩))
          have HO2 := sopen_bad 5 w4 (hd3.step hb4) hD.ok (by omega) (by rw [hD.bs.1]; exact hbc)
          rw [hD.bs.1, h] at HO2
          have HB4 := Lib.hid (hB3.trans (hb4.mono hB3.size))
          clear HO1 hb4 hbc
          go_upto_region 10 with (((with_reducible refine (HO2).mono ?_); rintro z w5 ⟨rfl, hb5⟩))
          have HB5 := Lib.hid (HB4.out.trans (hb5.mono HB4.out.size))
          clear HO2 hb5 HB4 hB3 hd3
          go_wp2_with (((with_reducible refine ((awake11 _)).mono ?_); rintro z w6 ⟨rfl, hb6⟩))
          go_ret
          exact ⟨rfl, HB5.out.trans (hb6.mono HB5.out.size)⟩
      obtain ⟨rs, at_, code, hall⟩ := allR_ex11 _ b (Nat.le_refl _)
      have hat := allR_le hall
      have hrc := hD.rc
      have hmd := hD.mend hat
      have hbs := hD.bs
      obtain ⟨R, hR⟩ : ∃ R, rplS (bsA a) rs = R := ⟨_, rfl⟩
      have hR2 := rplS_two rs (bsA a)
      have hKS := rplS_ks rs (bsA a) (by rw [← hbs.2]; exact (bsS_ks d (by rw [hbs.1]; exact hbc)).1) (by rw [← hbs.2]; exact bsS_asc d (by rw [hbs.1]; exact hbc))
      rw [hR] at hR2 hKS
      obtain ⟨rc, s'⟩ := R
      simp only at hR2 hKS
      have hD2 := hmd.2
      have hmc : (mendO d logN ((d.rb logN).length : Nat) at_).code = 0 := by rw [hrc.2.1]; exact hmd.1
      have hall1 : AllR (d.rb logN) rs at_ code := by rw [hrc.2.1]; exact hall
      rw [← hrc.2.1] at hD2
      have hb1c : bsC d = 0 := by rw [hbs.1]; exact hbc
      have hrp1 : rplS (bsS d) rs = (rc, s') := by rw [hbs.2]; exact hR
      obtain ⟨d', hd'⟩ : ∃ d', d.out (mendO d logN ((d.rb logN).length : Nat) at_) = d' := ⟨_, rfl⟩
      have hrl : (b.take at_).length = at_ := by rw [List.length_take]; omega
      rw [hd', hrc.2.1] at hD2
      have hrc2 := hD2.rc
      have hbs2 := hD2.bs
      have hmd2 := hD2.mend (at_ := at_) (by rw [hrl]; omega)
      have hmc2 : (mendO d' logN ((d'.rb logN).length : Nat) at_).code = 0 := by rw [hrc2.2.1]; exact hmd2.1
      have hall2 : AllR (d'.rb logN) rs at_ 6 := by rw [hrc2.2.1]; exact allR_take11 hall
      have hb2c : bsC d' = 0 := by rw [hbs2.1]; exact hbc
      have hrp2 : rplS (bsS d') rs = (rc, s') := by rw [hbs2.2]; exact hR
      clear hall hrc hmd hbs hR hrl hbs2 hmd2
      rcases hR2 with rfl | rfl
      rotate_left
      ·
        have HO1 := sopen_stop 5 w3 hd3 hD.ok (by omega) (by omega) hb1c hD.rc.1 hall1 hmc hrp1
        rw [hd'] at HO1
        go_upto_region 9 with (((with_reducible refine (HO1).mono ?_); rintro z w4 ⟨rfl, hd4, hm4⟩))
        have HO2 := sopen_stop 5 w4 hd4 hD2.ok (by omega) (by omega) hb2c hrc2.1 hall2 hmc2 hrp2
        have hB4 := hB3.trans (mod2s hm4 hwd hwb hB3.size)
        clear HO1 hm4 hb1c hall1 hmc hrp1
        go_upto_region 10 with (((with_reducible refine (HO2).mono ?_); rintro z w5 ⟨rfl, hd5, hm5⟩))
        have HB5 := Lib.hid (hB4.trans (mod2s hm5 hwd hwb hB4.size))
        clear HO2 hm5 hd4 hd5 hB4 hB3 hd3
        go_wp2_with (((with_reducible refine ((awake11 _)).mono ?_); rintro z w6 ⟨rfl, hb6⟩))
        go_ret
        exact ⟨rfl, HB5.out.trans (hb6.mono HB5.out.size)⟩
      have HO1 := sopen_log 5 w3 hd3 hD.ok (by omega) (by omega) hb1c hD.rc.1 hall1 hmc hrp1
      rw [hd'] at HO1
      go_upto_region 9 with (((with_reducible refine (HO1).mono ?_); rintro z w4 ⟨gs, gst, bst, Ns, gl, rfl, hs4, hNs, hg4, hm4⟩))
      have hB4 := hB3.trans (mod2s hm4 hwd hwb hB3.size)
      have HO2 := sopen_log 5 w4 hs4.dk hD2.ok (by omega) (by omega) hb2c hrc2.1 hall2 hmc2 hrp2
      clear HO1 hm4 hb1c hall1 hmc hrp1
      go_upto_region 10 with (((with_reducible refine (HO2).mono ?_); rintro z w5 ⟨gs2, gst2, bst2, Ns2, gl2, rfl, hs5, hNs2, hg5, hm5⟩))
      have hk5 := hm5.at hs4.blk (hs4.dk.freeAt hs4.blk (by decide))
      have ht5 := hs4.st.dk hs4.dk hm5 hs4.ne
      have hB5 := hB4.trans (mod2s hm5 hwd hwb hB4.size)
      have HAL1 := sall_any w5 hk5 ht5 (by omega) hKS.sizes
      have HS5 := Lib.hid hs5
      have HK5 := Lib.hid hk5
      have HT5 := Lib.hid ht5
      clear HO2 hm5 hs4 hB4 hB3 hd3 hs5 hk5 ht5 hD2 hrc2 hmc2 hall2 hb2c hrp2 hD hd'
      go_upto_region 14 with fail
      have HAL2 := fun v (hb : Below w5.heap.size w5 v) => sall_any v (HS5.out.blk.step hb) (HS5.out.st.step hb) (by omega) hKS.sizes
      go_upto_region 15 with (first | (((with_reducible refine (HAL1).mono ?_); rintro z w6 ⟨A6, n6, c6, rfl, hown6, hb6⟩)) | (((with_reducible refine ((HAL2 w6 hb6)).mono ?_); rintro z w7 ⟨A7, n7, c7, rfl, hown7, hb7⟩)))
      have hr6 := hown6.rd
      have hr7 := hown7.rd
      obtain rfl : n6 = s'.l.length := (RdI.len hr6).symm
      obtain rfl : n7 = s'.l.length := (RdI.len hr7).symm
      replace hr6 := (Rd.below hr6 hb7).more hb7.size
      have hB7 := (hB5.trans (hb6.mono hB5.size)).trans (hb7.mono (Nat.le_trans hB5.size hb6.size))
      have HR1 := srev_any w7 ((HK5.out.step hb6).step hb7) ((HT5.out.step hb6).step hb7)
      have HR2 := srev_any w7 ((HS5.out.blk.step hb6).step hb7) ((HS5.out.st.step hb6).step hb7)
      have HR6 := Lib.hid hr6
      have HR7 := Lib.hid hr7
      have HB7 := Lib.hid hB7
      have hmax := hr6.max
      have hle6 := hr6.le
      have hle7 := hr7.le
      have hmax7 := hr7.max
      unfold maxLen at hmax hmax7
      obtain ⟨q, hq⟩ : ∃ q, s'.l.length = q := ⟨_, rfl⟩
      have HQ := Lib.hid hq
      rw [hq] at hle6 hle7 ⊢
      clear HAL1 HAL2 hown6 hown7 hb6 hb7 hr6 hr7 hB7 hB5 HS5 HK5 HT5 hKS hq
      go_upto_region 17 with (first | (((with_reducible refine (HR1).mono ?_); rintro z w8 ⟨rfl, rfl⟩)) | (((with_reducible refine (HR2).mono ?_); rintro z w8 ⟨rfl, rfl⟩)))
      clear HR1 HR2
      go_wp2_with fail
      go_loopw [86] (fun i wr => ∃ k : Nat, i = .int .i64 (k : Int) ∧ k ≤ q ∧ Below w7.heap.size w7 wr) (fun i _ => q - (intOf i).toNat)
      case atStart => exact ⟨0, rfl, Nat.zero_le _, Below.refl _ _⟩
      case round =>
        obtain ⟨k, rfl, hk, hb⟩ := hrel
        by_cases hlt : k < q
        · have h1 : k < s'.l.length := by rw [HQ.out]; exact hlt
          obtain ⟨ga, off, e, hg, he⟩ := HR6.out.elem It.row_length (by omega) (k := k) h1
          subst e
          obtain ⟨ga2, off2, e2, hg2, he2⟩ := HR7.out.elem It.row_length (by omega) (k := k) h1
          subst e2
          have hbc := bcell hb
          have f0 := (hbc.1 _ _ hg2).trans (he2 0 _ rfl)
          have f1 := (hbc.1 _ _ hg2).trans (he2 1 _ rfl)
          have f2 := (hbc.1 _ _ hg2).trans (he2 2 _ rfl)
          have e0 := (hbc.1 _ _ hg).trans (he 0 _ rfl)
          have e1 := (hbc.1 _ _ hg).trans (he 1 _ rfl)
          have e2 := (hbc.1 _ _ hg).trans (he 2 _ rfl)
          rw [Nat.add_zero] at f0 e0
          clear hbc he he2
          generalize s'.l[k] = y at *
          obtain ⟨yk, yv, yr⟩ := y
          simp only at f0 f1 f2 e0 e1 e2
          have HHB := Lib.hid hb
          clear hb
          go_upto_region 20 with fail
          go_quiet (fail)
          clear f0 f1 f2 e0 e1 e2
          go_wp2_with fail
          go_roundw
          case rel => exact ⟨k + 1, by go_num, by omega, below_drewN HHB.out _⟩
          case measure => simp [intOf]; omega
        · have HHB := Lib.hid hb
          clear hb
          go_wp2_with (((with_reducible refine ((awake11 _)).mono ?_); rintro z w9 ⟨rfl, hb9⟩))
          go_ret
          exact ⟨rfl, (HB7.out.trans (HHB.out.mono HB7.out.size)).trans (hb9.mono (Nat.le_trans HB7.out.size HHB.out.size))⟩
end Go.Proofs.YtnkjekkdndjfaaaGreat
