
/- The law KvPlays: the Go function returns true, whatever was asked. -/
import Derived.Test.YtcpkaolfafeojaaKvAwake
import Derived.Test.YtcpkaolfafeojaaKvInv
import Derived.Test.YtcpkaolfafeojaaKvRDo
import Derived.Test.YtcpkaolfafeojaaKvSame9
import Derived.Test.YtcpkaolfafeojaaOpenAsk
namespace Go.Proofs.Ytcpkaolfafeojaa
set_option linter.unusedVariables false
set_option linter.unusedSimpArgs false
open Go.RowKit
theorem cutA_keyP (o : Ask) : (cutA o).key.size ≤ 140 := cutS_size _ _
theorem big_maxP {n : Nat} (h : n ≤ 1000000) : n ≤ maxLen := by simp only [maxLen]; omega
set_option maxRecDepth 100000 in
set_option maxHeartbeats 4000000 in
theorem kvPlays_walk {A : Option Addr} {n c : Nat} {L : List Ask} (w : World) (hr : Rd w w.heap.size 6 A n c (L.flatMap Ask.row)) (hf : ∀ o ∈ L, o.fits) :
    Calls Try.prog 10 #[.slice A n c] w fun r w' => r = .returned (.bool true) ∧ Below w.heap.size w w' := by
  have hl := Rd.count (row := Ask.row) (fun _ => rfl) (by omega) hr
  have hmax := hr.max
  have hle := hr.le
  unfold maxLen at hmax
  subst hl
  have HR := Lib.hid hr
  have HF := Lib.hid hf
  have HNEW := Lib.hid (new_st w)
  clear hr hf
  go_enter Try.func10, Try.ntmps10
  go_upto_region 2 with (((with_reducible refine calls_id ?_); refine HNEW.out.mono ?_; rintro r w1 ⟨g, b, rfl, hst, hwb, hbg, hb⟩))
  obtain ⟨h4, hb2⟩ := one_at w1 81 [.int .i64 0, .slice none 0 0]
  obtain ⟨g4, hg4⟩ : ∃ g4, w1.heap.size = g4 := ⟨_, rfl⟩
  have hg1 : g < g4 := by rw [← hg4]; exact hst.lt.1
  have hb1 : b < g4 := by omega
  have hw1 : w.heap.size ≤ g4 := by omega
  have hs2 : w1.heap.size + 1 ≤ (World.alloc w1 (.cells #[.int .i64 0, .slice none 0 0] 81)).heap.size := by simp
  have HST := Lib.hid (hst.step hb2)
  have HB := Lib.hid (chain hb hb2)
  clear hst hb hb2 HNEW
  generalize World.alloc w1 _ = w2 at *
  rw [hg4] at h4 hs2 ⊢
  clear hg4
  obtain ⟨B2, hB2⟩ : ∃ B2, B2 = g4 + 1 := ⟨_, rfl⟩
  have hBg : g4 < B2 := by omega
  have HSZ := Lib.hid (show B2 ≤ w2.heap.size by omega)
  have H4 := Lib.hid h4
  clear h4 hB2 hs2
  go_wp2_with fail
  go_loopw [21] (fun i wr => ∃ (k N : Nat) (rev : Int) (l : List It) (A4 : Option Addr) (n4 c4 : Nat), i = .int .i64 (k : Int) ∧ k ≤ L.length ∧ N ≤ k ∧ N ≤ 40 ∧ IsSt wr g b N rev l ∧ Inv9 rev l N ∧ OwnRI wr B2 A4 n4 c4 l ∧ At wr g4 81 [.int .i64 rev, .slice A4 n4 c4] ∧ B2 ≤ wr.heap.size ∧ Below w.heap.size w wr) (fun i _ => L.length - (intOf i).toNat)
  case atStart => exact ⟨0, 0, 0, [], none, 0, 0, rfl, Nat.zero_le _, Nat.le_refl _, by omega, HST.out, Inv9.nil, OwnRI.nil, H4.out, HSZ.out, HB.out⟩
  case round =>
    clear HST HB HSZ H4
    obtain ⟨k, N, rev, l, A4, n4, c4, rfl, hk, hNk, hN, hst, hinv, hown, h4, hB2, hb⟩ := hrel
    have hsz := hb.size
    have hn4 : n4 ≤ 1000000 := by have h1 := hown.len; have h2 := hst.mp.len_le; omega
    by_cases hlt : k < L.length
    · obtain ⟨gs, off, e, hg, he⟩ := HR.out.elem (row := Ask.row) (fun _ => rfl) (by omega) (k := k) hlt
      subst e
      have hbc := bcell (Below.mono (B := w.heap.size) hb (Nat.le_refl _))
      have e0 := (hbc.1 _ _ hg).trans (he 0 _ rfl)
      have e1 := (hbc.1 _ _ hg).trans (he 1 _ rfl)
      have e2 := (hbc.1 _ _ hg).trans (he 2 _ rfl)
      have e3 := (hbc.1 _ _ hg).trans (he 3 _ rfl)
      have e4 := (hbc.1 _ _ hg).trans (he 4 _ rfl)
      have e5 := (hbc.1 _ _ hg).trans (he 5 _ rfl)
      rw [Nat.add_zero] at e0
      have hfo := HF.out _ (List.getElem_mem hlt)
      have hck := cutA_keyP L[k]
      have hci : (cutA L[k]).iff.size ≤ maxLen := hfo.2.2.2.2.1
      have HOU := Lib.hid (fun w => ours9_any L[k] w)
      clear he hbc hfo
      generalize cutA L[k] = p at *
      generalize L[k] = o at *
      obtain ⟨ki, kk, v, r, i, j⟩ := o
      unfold Ask.v Ask.cells at HOU
      simp only at HOU
      have HST := Lib.hid hst
      have HB := Lib.hid hb
      have HINV := Lib.hid hinv
      have HOW := Lib.hid hown
      have H4 := Lib.hid h4
      clear hst hb hinv hown h4
      go_upto_region 5 with fail
      obtain ⟨h7, hb2⟩ := one_at wr 40 [.int .i64 ki, .string kk, .string v, .int .i64 r, .string i, .int .i64 j]
      have hst := HST.out.step hb2
      have hb := chain HB.out hb2
      have hown := HOW.out.step hb2
      have h4 := H4.out.step hb2
      have hinv := HINV.out
      replace hB2 := Nat.le_trans hB2 hb2.size
      clear hb2 e0 e1 e2 e3 e4 e5 HST HB HOW H4
      generalize World.alloc _ _ = w2 at *
      generalize wr.heap.size = g7 at *
      obtain ⟨⟨x0, x1, x2, x3, x4, x5⟩, xf⟩ := at6 h7
      by_cases h40 : k < 40
      · have HPL := fun w2 (h : IsSt w2 g b N rev l) => plan_any p w2 h (by omega) hinv.keys (big_maxP (by omega)) hci
        have HRP := fun w2 (h : RdI w2 w2.heap.size A4 n4 c4 l) => rplan_any A4 n4 c4 l rev p w2 h hn4
        have HRD := fun w2 (h : OwnRI w2 B2 A4 n4 c4 l) (hs : B2 ≤ w2.heap.size) => rdo_any A4 n4 c4 B2 l rev p w2 h hs hn4 hinv.lo (by have := hinv.hi; omega)
        have HDO := fun w2 (h : IsSt w2 g b N rev l) => do_any p w2 h (by omega) hinv.keys (big_maxP (by omega)) hci (plan_key rev l p (big_maxP (by omega)))
        have HI := Lib.hid (hinv.step (by omega) p)
        clear hck hci HINV hinv
        unfold DoR at HDO
        unfold RDoR at HRD
        unfold PlanR at HPL
        unfold RPlanR at HRP
        generalize planP rev l p = pl at *
        generalize doSt rev l p = ds at *
        obtain ⟨pki, pk, pv, pr, pi, pj⟩ := p
        obtain ⟨⟨tc, tr, tv, ti⟩, ⟨ek, ev, er, eg⟩, tw⟩ := pl
        obtain ⟨rev', l'⟩ := ds
        unfold Ask.v Ask.cells at HDO HPL HRP HRD
        simp only at HDO HPL HRP HRD HI
        have HDO := Lib.hid HDO
        have HPL := Lib.hid HPL
        have HRP := Lib.hid HRP
        have HRD := Lib.hid HRD
        go_upto_region 7 with (((with_reducible refine calls_id ?_); refine (HOU.out _).mono ?_; rintro y w3 ⟨rfl, hb3⟩))
        obtain ⟨h8, h9, hb4⟩ := two_at w3 37 [.int .i64 pki, .string pk, .string pv, .int .i64 pr, .string pi, .int .i64 pj] 40 [.int .i64 pki, .string pk, .string pv, .int .i64 pr, .string pi, .int .i64 pj]
        replace hst := (hst.step hb3).step hb4
        replace hown := (hown.step hb3).step hb4
        replace h4 := (h4.step hb3).step hb4
        replace hb := chain (chain hb hb3) hb4
        have hg8 : B2 ≤ w3.heap.size := Nat.le_trans hB2 hb3.size
        replace hB2 := Nat.le_trans hB2 (Nat.le_trans hb3.size hb4.size)
        clear hb3 hb4 x0 x1 x2 x3 x4 x5 xf h7 HOU
        generalize World.alloc (World.alloc w3 _) _ = w4 at *
        obtain ⟨g8, hg8e⟩ : ∃ g8, w3.heap.size = g8 := ⟨_, rfl⟩
        rw [hg8e] at h8 h9 hg8 ⊢
        clear hg8e
        obtain ⟨⟨x0, x1, x2, x3, x4, x5⟩, xf⟩ := at6 h8
        go_upto_region 8 with (((with_reducible refine calls_id ?_); refine (HPL.out w4 hst).mono ?_; rintro y w5 ⟨A5, n5, c5, rfl, hown5, hb5⟩))
        obtain ⟨h10, h11, hb6⟩ := two_at w5 49 [.int .i64 tc, .int .i64 tr, .string tv, .slice A5 n5 c5] 60 [.string ek, .string ev, .int .i64 er, .bool eg]
        replace hst := (hst.step hb5).step hb6
        replace hown := (hown.step hb5).step hb6
        replace hown5 := OwnI.step hown5 hb6
        replace h4 := (h4.step hb5).step hb6
        replace h8 := (h8.step hb5).step hb6
        replace h9 := (h9.step hb5).step hb6
        replace hb := chain (chain hb hb5) hb6
        replace hB2 := Nat.le_trans hB2 (Nat.le_trans hb5.size hb6.size)
        clear hb5 hb6 x0 x1 x2 x3 x4 x5 xf HPL
        generalize World.alloc (World.alloc w5 _) _ = w6 at *
        obtain ⟨g10, hg10e⟩ : ∃ g10, w5.heap.size = g10 := ⟨_, rfl⟩
        rw [hg10e] at h10 h11 ⊢
        clear hg10e
        obtain ⟨⟨x0, x1, x2, x3, x4, x5⟩, xf⟩ := at6 h9
        obtain ⟨⟨s0, s1⟩, sf⟩ := at2 h4
        go_upto_region 9 with (((with_reducible refine calls_id ?_); refine (HRP.out w6 hown.rd).mono ?_; rintro y w7 ⟨A7, n7, c7, rfl, hown7, hb7⟩))
        obtain ⟨h12, h13, hb8⟩ := two_at w7 83 [.int .i64 tc, .int .i64 tr, .string tv, .slice A7 n7 c7] 54 [.string ek, .string ev, .int .i64 er, .bool eg]
        replace hst := (hst.step hb7).step hb8
        replace hown := (hown.step hb7).step hb8
        replace hown5 := (hown5.step hb7).step hb8
        replace hown7 := OwnRI.step hown7 hb8
        replace h4 := (h4.step hb7).step hb8
        replace h8 := (h8.step hb7).step hb8
        replace h9 := (h9.step hb7).step hb8
        replace h10 := (h10.step hb7).step hb8
        replace h11 := (h11.step hb7).step hb8
        replace hb := chain (chain hb hb7) hb8
        replace hB2 := Nat.le_trans hB2 (Nat.le_trans hb7.size hb8.size)
        clear hb7 hb8 x0 x1 x2 x3 x4 x5 xf s0 s1 sf HRP
        generalize World.alloc (World.alloc w7 _) _ = w8 at *
        obtain ⟨g12, hg12e⟩ : ∃ g12, w7.heap.size = g12 := ⟨_, rfl⟩
        rw [hg12e] at h12 h13 ⊢
        clear hg12e
        have HSA := Lib.hid (same9_any A5 A7 n5 c5 n7 c7 ti tc tr tv w8 hown5.rd hown7.rd)
        have HST := Lib.hid hst
        have HOW := Lib.hid hown
        have HB := Lib.hid hb
        clear hown5 hown7 hst hown hb
        have H11 := Lib.hid (fun w2 (h : Below w8.heap.size w8 w2) => (at4 (h11.step h)))
        have H13 := Lib.hid (fun w2 (h : Below w8.heap.size w8 w2) => (at4 (h13.step h)))
        obtain ⟨⟨x0, x1, x2, x3⟩, xf⟩ := at4 h10
        obtain ⟨⟨y0, y1, y2, y3⟩, yf⟩ := at4 h12
        go_upto_region 11 with (((with_reducible refine calls_id ?_); refine HSA.out.mono ?_; rintro z w9 ⟨rfl, hb9⟩); (obtain ⟨⟨u0, u1, u2, u3⟩, uf⟩ := H11.out _ hb9); (obtain ⟨⟨v0, v1, v2, v3⟩, vf⟩ := H13.out _ hb9))
        have hst := HST.out.step hb9
        have hown := HOW.out.step hb9
        have hb := chain HB.out hb9
        replace h4 := h4.step hb9
        replace h8 := h8.step hb9
        replace h9 := h9.step hb9
        replace hB2 := Nat.le_trans hB2 hb9.size
        clear x0 x1 x2 x3 xf y0 y1 y2 y3 yf u0 u1 u2 u3 uf v0 v1 v2 v3 vf hb9 h10 h11 h12 h13 HSA H11 H13 HST HOW HB
        obtain ⟨⟨x0, x1, x2, x3, x4, x5⟩, xf⟩ := at6 h9
        obtain ⟨⟨s0, s1⟩, sf⟩ := at2 h4
        go_upto_region 12 with (((with_reducible refine calls_id ?_); refine (HRD.out w9 hown hB2).mono ?_; rintro y w10 ⟨A10, n10, c10, A11, n11, c11, rfl, hown10, hown11, hb10⟩))
        obtain ⟨h15, h16, hb11⟩ := two_at w10 81 [.int .i64 rev', .slice A10 n10 c10] 83 [.int .i64 tc, .int .i64 tr, .string tv, .slice A11 n11 c11]
        replace hst := (hst.step hb10).step hb11
        replace h4 := (h4.step hb10).step hb11
        replace h8 := (h8.step hb10).step hb11
        replace hown10 := OwnRI.step hown10 hb11
        replace hown11 := OwnRI.lower (OwnRI.step hown11 hb11) hB2
        replace hb := chain (chain hb hb10) hb11
        have hg15 : B2 ≤ w10.heap.size := Nat.le_trans hB2 hb10.size
        replace hB2 := Nat.le_trans hg15 hb11.size
        clear hb10 hb11 x0 x1 x2 x3 x4 x5 xf s0 s1 sf HRD h9 hown
        generalize World.alloc (World.alloc w10 _) _ = w11 at *
        obtain ⟨g15, hg15e⟩ : ∃ g15, w10.heap.size = g15 := ⟨_, rfl⟩
        rw [hg15e] at h15 h16 hg15 ⊢
        clear hg15e
        obtain rfl : n10 = l'.length := OwnRI.len hown10
        obtain ⟨⟨s0, s1⟩, sf0, sf1⟩ := at2 h4
        obtain ⟨⟨z0, z1⟩, zf⟩ := at2 h15
        have HST := Lib.hid hst
        have HOW := Lib.hid hown10
        have HOX := Lib.hid hown11
        have HB := Lib.hid hb
        clear hst hown10 hown11 hb
        go_upto_region 13 with fail
        obtain ⟨hm1, hG1⟩ := At.many [(0, .int .i64 rev'), (1, .slice A10 l'.length c10)] h4
        dsimp only [setMany, setL, List.set] at hm1 hG1
        have hst := HST.out.only hG1 (by omega) (by omega)
        replace h8 := h8.only hG1 (by omega)
        replace h16 := h16.only hG1 (by omega)
        have hown10 := own_mod (show World.ownsRow _ _ _ _ _ _ _ from HOW.out) (grown_mod hG1) (fun i o _ hi _ e => absurd (Option.some.inj e) (by omega))
        have hown11 := own_mod (show World.ownsRow _ _ _ _ _ _ _ from HOX.out) (grown_mod hG1) (fun i o _ hi _ e => absurd (Option.some.inj e) (by omega))
        have hb := HB.out.trans ((Below.refl w.heap.size _).grown hG1 HB.out.size (by intro i hi; injection hi with hi; omega))
        replace hB2 := Nat.le_trans hB2 hG1.size
        clear s0 s1 sf0 sf1 z0 z1 zf hG1 h4 h15 HST HOW HOX HB
        generalize World.setCell _ _ _ = w12 at *
        have k0 : ∀ w' : World, At w' g8 37 [.int .i64 pki, .string pk, .string pv, .int .i64 pr, .string pi, .int .i64 pj] ∧ At w' (g15 + 1) 83 [.int .i64 tc, .int .i64 tr, .string tv, .slice A11 n11 c11] ∧ At w' g4 81 [.int .i64 rev', .slice A10 l'.length c10] → _ := fun w' h => (at6 h.1).1
        have k1 : ∀ w' : World, At w' g8 37 [.int .i64 pki, .string pk, .string pv, .int .i64 pr, .string pi, .int .i64 pj] ∧ At w' (g15 + 1) 83 [.int .i64 tc, .int .i64 tr, .string tv, .slice A11 n11 c11] ∧ At w' g4 81 [.int .i64 rev', .slice A10 l'.length c10] → _ := fun w' h => (at4 h.2.1).1
        have k2 : ∀ w' : World, At w' g8 37 [.int .i64 pki, .string pk, .string pv, .int .i64 pr, .string pi, .int .i64 pj] ∧ At w' (g15 + 1) 83 [.int .i64 tc, .int .i64 tr, .string tv, .slice A11 n11 c11] ∧ At w' g4 81 [.int .i64 rev', .slice A10 l'.length c10] → _ := fun w' h => (at2 h.2.2).1
        refine region_begin (fun w' : World => At w' g8 37 [.int .i64 pki, .string pk, .string pv, .int .i64 pr, .string pi, .int .i64 pj] ∧ At w' (g15 + 1) 83 [.int .i64 tc, .int .i64 tr, .string tv, .slice A11 n11 c11] ∧ At w' g4 81 [.int .i64 rev', .slice A10 l'.length c10]) (by kernel_rfl) (⟨h8.drew, h16.drew, hm1.drew⟩) (fun hHeld => ?_)
        replace hst := hst.drew
        replace hown10 := (show w12.drew.ownsRow _ _ _ _ _ _ from hown10)
        replace hown11 := (show w12.drew.ownsRow _ _ _ _ _ _ from hown11)
        replace hb := hb.drew
        replace hB2 : B2 ≤ w12.drew.heap.size := hB2
        clear h8 h16 hm1
        generalize World.drew _ = w13 at *
        refine wpAnyH_take (i := 0) (v := ?_) rfl (by kernel_rfl) (by kernel_rfl) (by kernel_rfl) (fun _ _ _ h => h) (Or.inl ⟨by kernel_rfl, ?_⟩) (by assumption) ?_
        rotate_left
        · (intro wS hwS; (try dsimp only at hwS); go_simp; try (first | (with_reducible rfl) | rw [if_pos (by omega)] | rw [if_neg (by omega)]))
        try simp only [Act.put, List.getElem_toArray, List.getElem_cons_succ, List.getElem_cons_zero, List.setIfInBounds_toArray, List.set_cons_zero, List.set_cons_succ]
        refine wpAnyH_take (i := 1) (v := ?_) rfl (by kernel_rfl) (by kernel_rfl) (by kernel_rfl) (fun _ _ _ h => h) (Or.inl ⟨by kernel_rfl, ?_⟩) (by assumption) ?_
        rotate_left
        · (intro wS hwS; (try dsimp only at hwS); go_simp; try (first | (with_reducible rfl) | rw [if_pos (by omega)] | rw [if_neg (by omega)]))
        try simp only [Act.put, List.getElem_toArray, List.getElem_cons_succ, List.getElem_cons_zero, List.setIfInBounds_toArray, List.set_cons_zero, List.set_cons_succ]
        refine wpAnyH_take (i := 3) (v := ?_) rfl (by kernel_rfl) (by kernel_rfl) (by kernel_rfl) (fun _ _ _ h => h) (Or.inl ⟨by kernel_rfl, ?_⟩) (by assumption) ?_
        rotate_left
        · (intro wS hwS; (try dsimp only at hwS); go_simp; try (first | (with_reducible rfl) | rw [if_pos (by omega)] | rw [if_neg (by omega)]))
        try simp only [Act.put, List.getElem_toArray, List.getElem_cons_succ, List.getElem_cons_zero, List.setIfInBounds_toArray, List.set_cons_zero, List.set_cons_succ]
        refine region_one 2 (by kernel_rfl) rfl (fun K hK => ?_)
        go_simp
        refine (HDO.out _ hst).mono ?_
        rintro z w14 ⟨A14, n14, c14, rfl, hown14, hst14, hm14, _⟩
        have h20 : At _ g8 37 [.int .i64 pki, .string pk, .string pv, .int .i64 pr, .string pi, .int .i64 pj] ∧ At _ (g15 + 1) 83 [.int .i64 tc, .int .i64 tr, .string tv, .slice A11 n11 c11] ∧ At _ g4 81 [.int .i64 rev', .slice A10 l'.length c10] := ⟨hm14.at hHeld.1 (by rintro (e | e) <;> omega), hm14.at hHeld.2.1 (by rintro (e | e) <;> omega), hm14.at hHeld.2.2 (by rintro (e | e) <;> omega)⟩
        replace hown10 := own_mod hown10 hm14 (fun i o _ hi _ e => by rcases e with e | e <;> omega)
        replace hown11 := own_mod hown11 hm14 (fun i o _ hi _ e => by rcases e with e | e <;> omega)
        replace hb := hb.trans (hm14.toBelow (fun i o hi e => by rcases e with e | e <;> omega) hb.size)
        replace hB2 := Nat.le_trans hB2 hm14.size
        clear hHeld hm14 hst
        refine hK.out _ _ (fun w' : World => At w' g8 37 [.int .i64 pki, .string pk, .string pv, .int .i64 pr, .string pi, .int .i64 pj] ∧ At w' (g15 + 1) 83 [.int .i64 tc, .int .i64 tr, .string tv, .slice A11 n11 c11] ∧ At w' g4 81 [.int .i64 rev', .slice A10 l'.length c10]) (h20) (fun _ h => h) (fun hHeld => ?_)
        clear hK K
        try simp only [Act.put, List.getElem_toArray, List.getElem_cons_succ, List.getElem_cons_zero, List.setIfInBounds_toArray, List.set_cons_zero, List.set_cons_succ]
        clear h20
        refine region_one 4 (by kernel_rfl) rfl (fun K hK => ?_)
        go_simp
        refine (same9_any A14 A11 n14 c14 n11 c11 ti tc tr tv _ (OwnI.rd hown14) (OwnRI.rd hown11)).mono ?_
        rintro z w15 ⟨rfl, hb15⟩
        have h20 : At _ g8 37 [.int .i64 pki, .string pk, .string pv, .int .i64 pr, .string pi, .int .i64 pj] ∧ At _ (g15 + 1) 83 [.int .i64 tc, .int .i64 tr, .string tv, .slice A11 n11 c11] ∧ At _ g4 81 [.int .i64 rev', .slice A10 l'.length c10] := ⟨hHeld.1.step hb15, hHeld.2.1.step hb15, hHeld.2.2.step hb15⟩
        replace hst14 := hst14.step hb15
        replace hown10 := OwnRI.step hown10 hb15
        replace hb := chain hb hb15
        replace hB2 := Nat.le_trans hB2 hb15.size
        clear hHeld hb15 hown14 hown11
        refine hK.out _ _ (fun w' : World => At w' g8 37 [.int .i64 pki, .string pk, .string pv, .int .i64 pr, .string pi, .int .i64 pj] ∧ At w' (g15 + 1) 83 [.int .i64 tc, .int .i64 tr, .string tv, .slice A11 n11 c11] ∧ At w' g4 81 [.int .i64 rev', .slice A10 l'.length c10]) (h20) (fun _ h => h) (fun hHeld => ?_)
        clear hK K
        try simp only [Act.put, List.getElem_toArray, List.getElem_cons_succ, List.getElem_cons_zero, List.setIfInBounds_toArray, List.set_cons_zero, List.set_cons_succ]
        clear h20
        refine wpAnyH_take (i := 5) (v := ?_) rfl (by kernel_rfl) (by kernel_rfl) (by kernel_rfl) (fun _ _ _ h => h) (Or.inl ⟨by kernel_rfl, ?_⟩) (by assumption) ?_
        rotate_left
        · (intro wS hwS; (try dsimp only at hwS); go_simp; try (first | (with_reducible rfl) | rw [if_pos (by omega)] | rw [if_neg (by omega)]))
        try simp only [Act.put, List.getElem_toArray, List.getElem_cons_succ, List.getElem_cons_zero, List.setIfInBounds_toArray, List.set_cons_zero, List.set_cons_succ]
        refine wpAnyH_take (i := 6) (v := ?_) rfl (by kernel_rfl) (by kernel_rfl) (by kernel_rfl) (fun _ _ _ h => h) (Or.inl ⟨by kernel_rfl, ?_⟩) (by assumption) ?_
        rotate_left
        · (intro wS hwS; (try dsimp only at hwS); go_simp; try (first | (with_reducible rfl) | rw [if_pos (by omega)] | rw [if_neg (by omega)]))
        try simp only [Act.put, List.getElem_toArray, List.getElem_cons_succ, List.getElem_cons_zero, List.setIfInBounds_toArray, List.set_cons_zero, List.set_cons_succ]
        refine wpAnyH_take (i := 7) (v := ?_) rfl (by kernel_rfl) (by kernel_rfl) (by kernel_rfl) (fun _ _ _ h => h) (Or.inl ⟨by kernel_rfl, ?_⟩) (by assumption) ?_
        rotate_left
        · (intro wS hwS; (try dsimp only at hwS); go_simp; try (first | (with_reducible rfl) | rw [if_pos (by omega)] | rw [if_neg (by omega)]))
        try simp only [Act.put, List.getElem_toArray, List.getElem_cons_succ, List.getElem_cons_zero, List.setIfInBounds_toArray, List.set_cons_zero, List.set_cons_succ]
        refine wpAnyH_take (i := 9) (v := ?_) rfl (by kernel_rfl) (by kernel_rfl) (by kernel_rfl) (fun _ _ _ h => h) (Or.inl ⟨by kernel_rfl, ?_⟩) (by assumption) ?_
        rotate_left
        · (intro wS hwS; (try dsimp only at hwS); go_simp; try (first | (with_reducible rfl) | rw [if_pos (by omega)] | rw [if_neg (by omega)]))
        try simp only [Act.put, List.getElem_toArray, List.getElem_cons_succ, List.getElem_cons_zero, List.setIfInBounds_toArray, List.set_cons_zero, List.set_cons_succ]
        refine wpAnyH_take (i := 10) (v := ?_) rfl (by kernel_rfl) (by kernel_rfl) (by kernel_rfl) (fun _ _ _ h => h) (Or.inl ⟨by kernel_rfl, ?_⟩) (by assumption) ?_
        rotate_left
        · (intro wS hwS; (try dsimp only at hwS); go_simp; try (first | (with_reducible rfl) | rw [if_pos (by omega)] | rw [if_neg (by omega)]))
        try simp only [Act.put, List.getElem_toArray, List.getElem_cons_succ, List.getElem_cons_zero, List.setIfInBounds_toArray, List.set_cons_zero, List.set_cons_succ]
        refine region_one 8 (by kernel_rfl) rfl (fun K hK => ?_)
        go_simp
        refine (rev_any _ hst14).mono ?_
        rintro z w16 ⟨rfl, rfl⟩
        have h20 := hHeld
        clear hHeld
        refine hK.out _ _ (fun w' : World => At w' g8 37 [.int .i64 pki, .string pk, .string pv, .int .i64 pr, .string pi, .int .i64 pj] ∧ At w' (g15 + 1) 83 [.int .i64 tc, .int .i64 tr, .string tv, .slice A11 n11 c11] ∧ At w' g4 81 [.int .i64 rev', .slice A10 l'.length c10]) (h20) (fun _ h => h) (fun hHeld => ?_)
        clear hK K
        try simp only [Act.put, List.getElem_toArray, List.getElem_cons_succ, List.getElem_cons_zero, List.setIfInBounds_toArray, List.set_cons_zero, List.set_cons_succ]
        clear h20
        refine wpAnyH_take (i := 11) (v := ?_) rfl (by kernel_rfl) (by kernel_rfl) (by kernel_rfl) (fun _ _ _ h => h) (Or.inl ⟨by kernel_rfl, ?_⟩) (by assumption) ?_
        rotate_left
        · (intro wS hwS; (try dsimp only at hwS); go_simp; try (first | (with_reducible rfl) | rw [if_pos (by omega)] | rw [if_neg (by omega)]))
        try simp only [Act.put, List.getElem_toArray, List.getElem_cons_succ, List.getElem_cons_zero, List.setIfInBounds_toArray, List.set_cons_zero, List.set_cons_succ]
        refine wpAnyH_take (i := 12) (v := ?_) rfl (by kernel_rfl) (by kernel_rfl) (by kernel_rfl) (fun _ _ _ h => h) (Or.inl ⟨by kernel_rfl, ?_⟩) (by assumption) ?_
        rotate_left
        · (intro wS hwS; (try dsimp only at hwS); go_simp; try (first | (with_reducible rfl) | rw [if_pos (by omega)] | rw [if_neg (by omega)]))
        try simp only [Act.put, List.getElem_toArray, List.getElem_cons_succ, List.getElem_cons_zero, List.setIfInBounds_toArray, List.set_cons_zero, List.set_cons_succ]
        refine wpAnyH_take (i := 13) (v := ?_) rfl (by kernel_rfl) (by kernel_rfl) (by kernel_rfl) (fun _ _ _ h => h) (Or.inl ⟨by kernel_rfl, ?_⟩) (by assumption) ?_
        rotate_left
        · (intro wS hwS; (try dsimp only at hwS); go_simp; try (first | (with_reducible rfl) | rw [if_pos (by omega)] | rw [if_neg (by omega)]))
        try simp only [Act.put, List.getElem_toArray, List.getElem_cons_succ, List.getElem_cons_zero, List.setIfInBounds_toArray, List.set_cons_zero, List.set_cons_succ]
        refine wpAnyH_take (i := 14) (v := ?_) rfl (by kernel_rfl) (by kernel_rfl) (by kernel_rfl) (fun _ _ _ h => h) (Or.inl ⟨by kernel_rfl, ?_⟩) (by assumption) ?_
        rotate_left
        · (intro wS hwS; (try dsimp only at hwS); go_simp; try (first | (with_reducible rfl) | rw [if_pos (by omega)] | rw [if_neg (by omega)]))
        try simp only [Act.put, List.getElem_toArray, List.getElem_cons_succ, List.getElem_cons_zero, List.setIfInBounds_toArray, List.set_cons_zero, List.set_cons_succ]
        refine wpAnyH_take (i := 16) (v := ?_) rfl (by kernel_rfl) (by kernel_rfl) (by kernel_rfl) (fun _ _ _ h => h) (Or.inl ⟨by kernel_rfl, ?_⟩) (by assumption) ?_
        rotate_left
        · (intro wS hwS; (try dsimp only at hwS); go_simp; try (first | (with_reducible rfl) | rw [if_pos (by omega)] | rw [if_neg (by omega)]))
        try simp only [Act.put, List.getElem_toArray, List.getElem_cons_succ, List.getElem_cons_zero, List.setIfInBounds_toArray, List.set_cons_zero, List.set_cons_succ]
        refine wpAnyH_take (i := 17) (v := ?_) rfl (by kernel_rfl) (by kernel_rfl) (by kernel_rfl) (fun _ _ _ h => h) (Or.inl ⟨by kernel_rfl, ?_⟩) (by assumption) ?_
        rotate_left
        · (intro wS hwS; (try dsimp only at hwS); go_simp; try (first | (with_reducible rfl) | rw [if_pos (by omega)] | rw [if_neg (by omega)]))
        try simp only [Act.put, List.getElem_toArray, List.getElem_cons_succ, List.getElem_cons_zero, List.setIfInBounds_toArray, List.set_cons_zero, List.set_cons_succ]
        refine wpAnyH_take (i := 18) (v := ?_) rfl (by kernel_rfl) (by kernel_rfl) (by kernel_rfl) (fun _ _ _ h => h) (Or.inl ⟨by kernel_rfl, ?_⟩) (by assumption) ?_
        rotate_left
        · (intro wS hwS; (try dsimp only at hwS); go_simp; try (first | (with_reducible rfl) | rw [if_pos (by omega)] | rw [if_neg (by omega)]))
        try simp only [Act.put, List.getElem_toArray, List.getElem_cons_succ, List.getElem_cons_zero, List.setIfInBounds_toArray, List.set_cons_zero, List.set_cons_succ]
        refine region_one 15 (by kernel_rfl) rfl (fun K hK => ?_)
        go_simp
        refine (len_any _ hst14).mono ?_
        rintro z w16 ⟨rfl, rfl⟩
        have h20 := hHeld
        clear hHeld
        refine hK.out _ _ (fun w' : World => At w' g8 37 [.int .i64 pki, .string pk, .string pv, .int .i64 pr, .string pi, .int .i64 pj] ∧ At w' (g15 + 1) 83 [.int .i64 tc, .int .i64 tr, .string tv, .slice A11 n11 c11] ∧ At w' g4 81 [.int .i64 rev', .slice A10 l'.length c10]) (h20) (fun _ h => h) (fun hHeld => ?_)
        clear hK K
        try simp only [Act.put, List.getElem_toArray, List.getElem_cons_succ, List.getElem_cons_zero, List.setIfInBounds_toArray, List.set_cons_zero, List.set_cons_succ]
        clear h20
        refine wpAnyH_take (i := 19) (v := ?_) rfl (by kernel_rfl) (by kernel_rfl) (by kernel_rfl) (fun _ _ _ h => h) (Or.inl ⟨by kernel_rfl, ?_⟩) (by assumption) ?_
        rotate_left
        · (intro wS hwS; (try dsimp only at hwS); go_simp; try (first | (with_reducible rfl) | rw [if_pos (by omega)] | rw [if_neg (by omega)]))
        try simp only [Act.put, List.getElem_toArray, List.getElem_cons_succ, List.getElem_cons_zero, List.setIfInBounds_toArray, List.set_cons_zero, List.set_cons_succ]
        refine wpAnyH_take (i := 20) (v := ?_) rfl (by kernel_rfl) (by kernel_rfl) (by kernel_rfl) (fun _ _ _ h => h) (Or.inl ⟨by kernel_rfl, ?_⟩) (by assumption) ?_
        rotate_left
        · (intro wS hwS; (try dsimp only at hwS); go_simp; try (first | (with_reducible rfl) | rw [if_pos (by omega)] | rw [if_neg (by omega)]))
        try simp only [Act.put, List.getElem_toArray, List.getElem_cons_succ, List.getElem_cons_zero, List.setIfInBounds_toArray, List.set_cons_zero, List.set_cons_succ]
        refine wpAnyH_done (by kernel_rfl) ?_ _
        clear k0 k1 k2
        have HST := Lib.hid hst14
        have HOW := Lib.hid hown10
        have H4 := Lib.hid hHeld.2.2
        have HB := Lib.hid hb
        clear hst14 hown10 hHeld hb
        go_wp2_with fail
        go_roundw
        case rel => exact ⟨k + 1, N + 1, rev', l', A10, l'.length, c10, by go_num, by omega, by omega, by omega, HST.out, HI.out, HOW.out, H4.out, hB2, HB.out⟩
        case measure => simp [intOf]; omega
      · clear HOU h7
        go_upto_region 16 with fail
        refine region_any (by kernel_rfl) ?_
        change wpAny _ _ _ _ _ _ _ (World.drew _)
        replace hst := hst.drew
        replace h4 := h4.drew
        have HOW := Lib.hid (show OwnRI w2.drew B2 A4 n4 c4 l from hown)
        have HB := Lib.hid hb.drew
        clear hb hown
        generalize World.drew _ = w6 at *
        obtain ⟨⟨s0, s1⟩, sf⟩ := at2 h4
        have l4 := h4.lt
        refine stage 100000 ?_
        refine stage_read (i := 0) (v := ?_) rfl (by kernel_rfl) (by kernel_rfl) (by kernel_rfl) (by kernel_rfl) (by kernel_rfl) (by kernel_rfl) (fun _ _ _ h => h) (Or.inl ⟨by kernel_rfl, ?_⟩) ?_
        rotate_left
        · (intro wS hwS; obtain ⟨hcS, hfS, hhS⟩ := bcell hwS; go_simp; try (first | (with_reducible rfl) | rw [if_pos (by omega)] | rw [if_neg (by omega)]))
        try simp only [Act.put, List.getElem_toArray, List.getElem_cons_succ, List.getElem_cons_zero, List.setIfInBounds_toArray, List.set_cons_zero, List.set_cons_succ]
        refine stage_read (i := 2) (v := ?_) rfl (by kernel_rfl) (by kernel_rfl) (by kernel_rfl) (by kernel_rfl) (by kernel_rfl) (by kernel_rfl) (fun _ _ _ h => h) (Or.inl ⟨by kernel_rfl, ?_⟩) ?_
        rotate_left
        · (intro wS hwS; obtain ⟨hcS, hfS, hhS⟩ := bcell hwS; go_simp; try (first | (with_reducible rfl) | rw [if_pos (by omega)] | rw [if_neg (by omega)]))
        try simp only [Act.put, List.getElem_toArray, List.getElem_cons_succ, List.getElem_cons_zero, List.setIfInBounds_toArray, List.set_cons_zero, List.set_cons_succ]
        refine stage_read (i := 3) (v := ?_) rfl (by kernel_rfl) (by kernel_rfl) (by kernel_rfl) (by kernel_rfl) (by kernel_rfl) (by kernel_rfl) (fun _ _ _ h => h) (Or.inl ⟨by kernel_rfl, ?_⟩) ?_
        rotate_left
        · (intro wS hwS; obtain ⟨hcS, hfS, hhS⟩ := bcell hwS; go_simp; try (first | (with_reducible rfl) | rw [if_pos (by omega)] | rw [if_neg (by omega)]))
        try simp only [Act.put, List.getElem_toArray, List.getElem_cons_succ, List.getElem_cons_zero, List.setIfInBounds_toArray, List.set_cons_zero, List.set_cons_succ]
        refine stage_one 1 (by kernel_rfl) rfl (by kernel_rfl) (fun K hK => ?_)
        go_simp
        refine (all_any _ hst (by omega) hinv.keys).mono ?_
        rintro r w7 ⟨A7, n7, c7, rfl, hown7, hb7⟩
        refine hK.out _ _ (hb7) ?_
        clear hK K
        try simp only [Act.put, List.getElem_toArray, List.getElem_cons_succ, List.getElem_cons_zero, List.setIfInBounds_toArray, List.set_cons_zero, List.set_cons_succ]
        have HOW := Lib.hid (HOW.out.step hb7)
        have HB := Lib.hid (chain HB.out hb7)
        replace h4 := h4.step hb7
        clear s0 s1 sf l4 hb7 hst
        obtain ⟨⟨s0, s1⟩, sf⟩ := at2 h4
        have l4 := h4.lt

        refine stage_one 4 (by kernel_rfl) rfl (by kernel_rfl) (fun K hK => ?_)
        go_simp
        refine (sitems_any A7 A4 n7 c7 n4 c4 l _ hown7.rd HOW.out.rd).mono ?_
        rintro r w8 ⟨rfl, hb8⟩
        refine hK.out _ _ (hb8) ?_
        clear hK K
        try simp only [Act.put, List.getElem_toArray, List.getElem_cons_succ, List.getElem_cons_zero, List.setIfInBounds_toArray, List.set_cons_zero, List.set_cons_succ]
        have HB := Lib.hid (chain HB.out hb8)
        refine stage_read (i := 5) (v := ?_) rfl (by kernel_rfl) (by kernel_rfl) (by kernel_rfl) (by kernel_rfl) (by kernel_rfl) (by kernel_rfl) (fun _ _ _ h => h) (Or.inl ⟨by kernel_rfl, ?_⟩) ?_
        rotate_left
        · (intro wS hwS; obtain ⟨hcS, hfS, hhS⟩ := bcell hwS; go_simp; try (first | (with_reducible rfl) | rw [if_pos (by omega)] | rw [if_neg (by omega)]))
        try simp only [Act.put, List.getElem_toArray, List.getElem_cons_succ, List.getElem_cons_zero, List.setIfInBounds_toArray, List.set_cons_zero, List.set_cons_succ]
        refine stage_one 6 (by kernel_rfl) rfl (by kernel_rfl) (fun K hK => ?_)
        go_simp
        refine (awake9_any _).mono ?_
        rintro r w9 ⟨rfl, hb9⟩
        refine hK.out _ _ (hb9) ?_
        clear hK K
        try simp only [Act.put, List.getElem_toArray, List.getElem_cons_succ, List.getElem_cons_zero, List.setIfInBounds_toArray, List.set_cons_zero, List.set_cons_succ]
        have HB := Lib.hid (chain HB.out hb9)
        refine stage_read (i := 7) (v := ?_) rfl (by kernel_rfl) (by kernel_rfl) (by kernel_rfl) (by kernel_rfl) (by kernel_rfl) (by kernel_rfl) (fun _ _ _ h => h) (Or.inl ⟨by kernel_rfl, ?_⟩) ?_
        rotate_left
        · (intro wS hwS; obtain ⟨hcS, hfS, hhS⟩ := bcell hwS; go_simp; try (first | (with_reducible rfl) | rw [if_pos (by omega)] | rw [if_neg (by omega)]))
        try simp only [Act.put, List.getElem_toArray, List.getElem_cons_succ, List.getElem_cons_zero, List.setIfInBounds_toArray, List.set_cons_zero, List.set_cons_succ]
        refine stage_read (i := 8) (v := ?_) rfl (by kernel_rfl) (by kernel_rfl) (by kernel_rfl) (by kernel_rfl) (by kernel_rfl) (by kernel_rfl) (fun _ _ _ h => h) (Or.inl ⟨by kernel_rfl, ?_⟩) ?_
        rotate_left
        · (intro wS hwS; obtain ⟨hcS, hfS, hhS⟩ := bcell hwS; go_simp; try (first | (with_reducible rfl) | rw [if_pos (by omega)] | rw [if_neg (by omega)]))
        try simp only [Act.put, List.getElem_toArray, List.getElem_cons_succ, List.getElem_cons_zero, List.setIfInBounds_toArray, List.set_cons_zero, List.set_cons_succ]
        first | refine wpAnyT_done (by kernel_rfl) ?_ _ | refine wpAny_done (by kernel_rfl) ?_ _
        go_wp2_with fail
        go_ret
        exact ⟨rfl, HB.out⟩
    ·
      go_upto_region 16 with fail
      refine region_any (by kernel_rfl) ?_
      change wpAny _ _ _ _ _ _ _ (World.drew _)
      replace hst := hst.drew
      replace h4 := h4.drew
      have HOW := Lib.hid (show OwnRI wr.drew B2 A4 n4 c4 l from hown)
      have HB := Lib.hid hb.drew
      clear hb hown
      generalize World.drew _ = w6 at *
      obtain ⟨⟨s0, s1⟩, sf⟩ := at2 h4
      have l4 := h4.lt
      refine stage 100000 ?_
      refine stage_read (i := 0) (v := ?_) rfl (by kernel_rfl) (by kernel_rfl) (by kernel_rfl) (by kernel_rfl) (by kernel_rfl) (by kernel_rfl) (fun _ _ _ h => h) (Or.inl ⟨by kernel_rfl, ?_⟩) ?_
      rotate_left
      · (intro wS hwS; obtain ⟨hcS, hfS, hhS⟩ := bcell hwS; go_simp; try (first | (with_reducible rfl) | rw [if_pos (by omega)] | rw [if_neg (by omega)]))
      try simp only [Act.put, List.getElem_toArray, List.getElem_cons_succ, List.getElem_cons_zero, List.setIfInBounds_toArray, List.set_cons_zero, List.set_cons_succ]
      refine stage_read (i := 2) (v := ?_) rfl (by kernel_rfl) (by kernel_rfl) (by kernel_rfl) (by kernel_rfl) (by kernel_rfl) (by kernel_rfl) (fun _ _ _ h => h) (Or.inl ⟨by kernel_rfl, ?_⟩) ?_
      rotate_left
      · (intro wS hwS; obtain ⟨hcS, hfS, hhS⟩ := bcell hwS; go_simp; try (first | (with_reducible rfl) | rw [if_pos (by omega)] | rw [if_neg (by omega)]))
      try simp only [Act.put, List.getElem_toArray, List.getElem_cons_succ, List.getElem_cons_zero, List.setIfInBounds_toArray, List.set_cons_zero, List.set_cons_succ]
      refine stage_read (i := 3) (v := ?_) rfl (by kernel_rfl) (by kernel_rfl) (by kernel_rfl) (by kernel_rfl) (by kernel_rfl) (by kernel_rfl) (fun _ _ _ h => h) (Or.inl ⟨by kernel_rfl, ?_⟩) ?_
      rotate_left
      · (intro wS hwS; obtain ⟨hcS, hfS, hhS⟩ := bcell hwS; go_simp; try (first | (with_reducible rfl) | rw [if_pos (by omega)] | rw [if_neg (by omega)]))
      try simp only [Act.put, List.getElem_toArray, List.getElem_cons_succ, List.getElem_cons_zero, List.setIfInBounds_toArray, List.set_cons_zero, List.set_cons_succ]
      refine stage_one 1 (by kernel_rfl) rfl (by kernel_rfl) (fun K hK => ?_)
      go_simp
      refine (all_any _ hst (by omega) hinv.keys).mono ?_
      rintro r w7 ⟨A7, n7, c7, rfl, hown7, hb7⟩
      refine hK.out _ _ (hb7) ?_
      clear hK K
      try simp only [Act.put, List.getElem_toArray, List.getElem_cons_succ, List.getElem_cons_zero, List.setIfInBounds_toArray, List.set_cons_zero, List.set_cons_succ]
      have HOW := Lib.hid (HOW.out.step hb7)
      have HB := Lib.hid (chain HB.out hb7)
      replace h4 := h4.step hb7
      clear s0 s1 sf l4 hb7 hst
      obtain ⟨⟨s0, s1⟩, sf⟩ := at2 h4
      have l4 := h4.lt

      refine stage_one 4 (by kernel_rfl) rfl (by kernel_rfl) (fun K hK => ?_)
      go_simp
      refine (sitems_any A7 A4 n7 c7 n4 c4 l _ hown7.rd HOW.out.rd).mono ?_
      rintro r w8 ⟨rfl, hb8⟩
      refine hK.out _ _ (hb8) ?_
      clear hK K
      try simp only [Act.put, List.getElem_toArray, List.getElem_cons_succ, List.getElem_cons_zero, List.setIfInBounds_toArray, List.set_cons_zero, List.set_cons_succ]
      have HB := Lib.hid (chain HB.out hb8)
      refine stage_read (i := 5) (v := ?_) rfl (by kernel_rfl) (by kernel_rfl) (by kernel_rfl) (by kernel_rfl) (by kernel_rfl) (by kernel_rfl) (fun _ _ _ h => h) (Or.inl ⟨by kernel_rfl, ?_⟩) ?_
      rotate_left
      · (intro wS hwS; obtain ⟨hcS, hfS, hhS⟩ := bcell hwS; go_simp; try (first | (with_reducible rfl) | rw [if_pos (by omega)] | rw [if_neg (by omega)]))
      try simp only [Act.put, List.getElem_toArray, List.getElem_cons_succ, List.getElem_cons_zero, List.setIfInBounds_toArray, List.set_cons_zero, List.set_cons_succ]
      refine stage_one 6 (by kernel_rfl) rfl (by kernel_rfl) (fun K hK => ?_)
      go_simp
      refine (awake9_any _).mono ?_
      rintro r w9 ⟨rfl, hb9⟩
      refine hK.out _ _ (hb9) ?_
      clear hK K
      try simp only [Act.put, List.getElem_toArray, List.getElem_cons_succ, List.getElem_cons_zero, List.setIfInBounds_toArray, List.set_cons_zero, List.set_cons_succ]
      have HB := Lib.hid (chain HB.out hb9)
      refine stage_read (i := 7) (v := ?_) rfl (by kernel_rfl) (by kernel_rfl) (by kernel_rfl) (by kernel_rfl) (by kernel_rfl) (by kernel_rfl) (fun _ _ _ h => h) (Or.inl ⟨by kernel_rfl, ?_⟩) ?_
      rotate_left
      · (intro wS hwS; obtain ⟨hcS, hfS, hhS⟩ := bcell hwS; go_simp; try (first | (with_reducible rfl) | rw [if_pos (by omega)] | rw [if_neg (by omega)]))
      try simp only [Act.put, List.getElem_toArray, List.getElem_cons_succ, List.getElem_cons_zero, List.setIfInBounds_toArray, List.set_cons_zero, List.set_cons_succ]
      refine stage_read (i := 8) (v := ?_) rfl (by kernel_rfl) (by kernel_rfl) (by kernel_rfl) (by kernel_rfl) (by kernel_rfl) (by kernel_rfl) (fun _ _ _ h => h) (Or.inl ⟨by kernel_rfl, ?_⟩) ?_
      rotate_left
      · (intro wS hwS; obtain ⟨hcS, hfS, hhS⟩ := bcell hwS; go_simp; try (first | (with_reducible rfl) | rw [if_pos (by omega)] | rw [if_neg (by omega)]))
      try simp only [Act.put, List.getElem_toArray, List.getElem_cons_succ, List.getElem_cons_zero, List.setIfInBounds_toArray, List.set_cons_zero, List.set_cons_succ]
      first | refine wpAnyT_done (by kernel_rfl) ?_ _ | refine wpAny_done (by kernel_rfl) ?_ _
      go_wp2_with fail
      go_ret
      exact ⟨rfl, HB.out⟩
end Go.Proofs.Ytcpkaolfafeojaa
