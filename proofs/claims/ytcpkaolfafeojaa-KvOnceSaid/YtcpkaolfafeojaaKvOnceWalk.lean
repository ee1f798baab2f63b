
/- The law KvOnce: the Go function returns true, whatever was asked. -/
import Derived.Test.YtcpkaolfafeojaaKvAwake
import Derived.Test.YtcpkaolfafeojaaKvOncePure
import Derived.Test.YtcpkaolfafeojaaOpenAsk
namespace Go.Proofs.Ytcpkaolfafeojaa
set_option linter.unusedVariables false
set_option linter.unusedSimpArgs false
open Go.RowKit
theorem cutA_keyO (o : Ask) : (cutA o).key.size ≤ 140 := cutS_size _ _
theorem big_maxO {n : Nat} (h : n ≤ 1000000) : n ≤ maxLen := by simp only [maxLen]; omega
set_option maxRecDepth 100000 in
set_option maxHeartbeats 4000000 in
theorem kvOnce_walk {A : Option Addr} {n c : Nat} {L : List Ask} (w : World) (hr : Rd w w.heap.size 6 A n c (L.flatMap Ask.row)) (hf : ∀ o ∈ L, o.fits) :
    Calls Try.prog 8 #[.slice A n c] w fun r w' => r = .returned (.bool true) ∧ Below w.heap.size w w' := by
  have hl := Rd.count (row := Ask.row) (fun _ => rfl) (by omega) hr
  have hmax := hr.max
  have hle := hr.le
  unfold maxLen at hmax
  subst hl
  have HR := Lib.hid hr
  have HF := Lib.hid hf
  have HNEW := Lib.hid (new_st w)
  clear hr hf
  go_enter Try.func8, Try.ntmps8
  go_upto_region 2 with (((with_reducible refine calls_id ?_); refine HNEW.out.mono ?_; rintro r w1 ⟨g, b, rfl, hst, hwb, hbg, hb⟩))
  obtain ⟨B1, hB1⟩ : ∃ B1, w1.heap.size = B1 := ⟨_, rfl⟩
  have hg1 : g < B1 := by rw [← hB1]; exact hst.lt.1
  have hb1 : b < B1 := by omega
  have hw1 : w.heap.size ≤ B1 := by omega
  have HST := Lib.hid hst
  have HB := Lib.hid hb
  have HSZ := Lib.hid (show B1 ≤ w1.heap.size by omega)
  clear hst hb HNEW hB1
  go_wp2_with fail
  go_loopw [4, 5, 17] (fun la us i wr => ∃ (k N : Nat) (rev : Int) (l : List It) (A5 : Option Addr) (n5 c5 : Nat) (u : List Us), i = .int .i64 (k : Int) ∧ la = .int .i64 rev ∧ us = .slice A5 n5 c5 ∧ k ≤ L.length ∧ N ≤ k ∧ N ≤ 30 ∧ IsSt wr g b N rev l ∧ Inv9 rev l N ∧ Spent rev l u ∧ OwnU wr B1 A5 n5 c5 u ∧ n5 ≤ N ∧ B1 ≤ wr.heap.size ∧ Below w.heap.size w wr) (fun _ _ i _ => L.length - (intOf i).toNat)
  case atStart => exact ⟨0, 0, 0, [], none, 0, 0, [], rfl, rfl, rfl, Nat.zero_le _, Nat.le_refl _, by omega, HST.out, Inv9.nil, Spent.nil _ _, OwnU.nil, Nat.le_refl _, HSZ.out, HB.out⟩
  case round =>
    clear HST HB HSZ
    obtain ⟨k, N, rev, l, A5, n5, c5, us, rfl, rfl, rfl, hk, hNk, hN, hst, hinv, hsp, hown, hn5, hB1, hb⟩ := hrel
    have hsz := hb.size
    by_cases hlt : k < L.length
    · obtain ⟨gs, off, e, hg, he⟩ := HR.out.elem (row := Ask.row) (fun _ => rfl) (by omega) (k := k) hlt
      subst e
      have hbc := bcell (Below.mono (B := w.heap.size) hb (Nat.le_refl _))
      have e0 := (hbc.1 _ _ hg).trans (he 0 _ rfl)
      have e1 := (hbc.1 _ _ hg).trans (he 1 _ rfl)
      have e2 := (hbc.1 _ _ hg).trans (he 2 _ rfl)
      have e3 := (hbc.1 _ _ hg).trans (he 3 _ rfl)
      have e4 := (hbc.1 _ _ hg).trans (he 4 _ rfl)
      have e5 := (hbc.1 _ _ hg).trans (he 5 _ rfl)
      rw [Nat.add_zero] at e0
      have hfo := HF.out _ (List.getElem_mem hlt)
      have hck := cutA_keyO L[k]
      have hci : (cutA L[k]).iff.size ≤ maxLen := hfo.2.2.2.2.1
      have HOU := Lib.hid (fun w => ours9_any L[k] w)
      clear he hbc hfo
      generalize cutA L[k] = p at *
      generalize L[k] = o at *
      obtain ⟨ki, kk, v, r, i, j⟩ := o
      unfold Ask.v Ask.cells at HOU
      simp only at HOU
      have HDO := fun w2 (h : IsSt w2 g b N rev l) => do_any p w2 h (by omega) hinv.keys (big_maxO (by omega)) hci (plan_key rev l p (big_maxO (by omega)))
      have HI := Lib.hid (hinv.step (by omega) p)
      have hlo := hinv.lo
      have hhi := hinv.hi
      have HOS := once_step (p := p) hinv (by omega) hsp
      clear hck hci
      unfold DoR at HDO
      generalize planP rev l p = pl at *
      obtain ⟨pki, pk, pv, pr, pi, pj⟩ := p
      obtain ⟨⟨tc, tr, tv, ti⟩, te, tw⟩ := pl
      unfold Ask.v Ask.cells at HDO
      simp only at HDO HI HOS
      have HDO := Lib.hid HDO
      have HOS := Lib.hid HOS
      have HST := Lib.hid hst
      have HB := Lib.hid hb
      have HIN := Lib.hid hinv
      have HSP := Lib.hid hsp
      have HOW := Lib.hid hown
      clear hst hb hinv hsp hown
      go_upto_region 7 with fail
      obtain ⟨h7, hb2⟩ := one_at wr 40 [.int .i64 ki, .string kk, .string v, .int .i64 r, .string i, .int .i64 j]
      have hst := HST.out.step hb2
      have hb := chain HB.out hb2
      have hown := HOW.out.step hb2
      replace hB1 := Nat.le_trans hB1 hb2.size
      clear hb2 e0 e1 e2 e3 e4 e5 HST HB HOW
      generalize World.alloc _ _ = w2 at *
      generalize wr.heap.size = g7 at *
      obtain ⟨⟨x0, x1, x2, x3, x4, x5⟩, xf⟩ := at6 h7
      by_cases h30 : k < 30
      · go_upto_region 9 with (((with_reducible refine calls_id ?_); refine (HOU.out _).mono ?_; rintro y w3 ⟨rfl, hb3⟩))
        obtain ⟨h8, h9, hb4⟩ := two_at w3 37 [.int .i64 pki, .string pk, .string pv, .int .i64 pr, .string pi, .int .i64 pj] 40 [.int .i64 pki, .string pk, .string pv, .int .i64 pr, .string pi, .int .i64 pj]
        have hg8 : B1 ≤ w3.heap.size := Nat.le_trans hB1 hb3.size
        replace hst := (hst.step hb3).step hb4
        replace hown := (hown.step hb3).step hb4
        replace hb := chain (chain hb hb3) hb4
        replace hB1 := Nat.le_trans hB1 (Nat.le_trans hb3.size hb4.size)
        clear hb3 hb4 x0 x1 x2 x3 x4 x5 xf h7 HOU h9
        generalize World.alloc (World.alloc w3 _) _ = w4 at *
        generalize w3.heap.size = g8 at *
        obtain ⟨⟨x0, x1, x2, x3, x4, x5⟩, xf⟩ := at6 h8
        have HDO := Lib.hid (HDO.out w4 hst)
        have HB := Lib.hid hb
        clear hst hb
        go_upto_region 10 with (((with_reducible refine calls_id ?_); refine HDO.out.mono ?_; rintro y w5 ⟨A6, n6, c6, rfl, _, hst5, hm5, _⟩))
        have hb5 := HB.out.trans (hm5.toBelow (fun i o hi e => by rcases e with e | e <;> omega) HB.out.size)
        replace h8 := hm5.at h8 (by rintro (e | e) <;> omega)
        have hown5 : OwnU w5 B1 A5 n5 c5 us := own_mod hown hm5 (fun i o _ hi _ e => by rcases e with e | e <;> omega)
        replace hB1 := Nat.le_trans hB1 hm5.size
        clear x0 x1 x2 x3 x4 x5 xf hown hm5 HB HDO
        obtain ⟨h10, hb6⟩ := one_at w5 49 [.int .i64 tc, .int .i64 tr, .string tv, .slice A6 n6 c6]
        replace hst5 := hst5.step hb6
        replace hown5 := hown5.step hb6
        replace h8 := h8.step hb6
        replace hb5 := chain hb5 hb6
        have hg10 : B1 ≤ w5.heap.size := hB1
        replace hB1 := Nat.le_trans hB1 hb6.size
        clear hb6
        generalize World.alloc w5 _ = w6 at *
        generalize w5.heap.size = g10 at *
        obtain ⟨⟨x0, x1, x2, x3, x4, x5⟩, xf⟩ := at6 h8
        obtain ⟨⟨y0, y1, y2, y3⟩, yf⟩ := at4 h10
        rcases HOS.out with ⟨q1, q2, q3⟩ | ⟨q1, q2, q3, q4, q5, q6, q7⟩
        · rw [q2] at hst5 HI
          simp only at hst5 HI
          clear q1 q2 HOS
          have HRV := Lib.hid (rev_any w6 hst5)
          have HST := Lib.hid hst5
          have HB := Lib.hid hb5
          have HOW := Lib.hid hown5
          clear hst5 hb5 hown5 h8 h10
          by_cases c1 : pki < 3
          · clear q3
            go_wp2_with (((with_reducible refine calls_id ?_); refine HRV.out.mono ?_; rintro z w7 ⟨rfl, rfl⟩))
            clear x0 x1 x2 x3 x4 x5 xf y0 y1 y2 y3 yf
            go_roundw
            case rel => exact ⟨k + 1, N + 1, rev, l, A5, n5, c5, us, by go_num, rfl, rfl, by omega, by omega, by omega, HST.out, HI.out, HSP.out, HOW.out, by omega, hB1, HB.out⟩
            case measure => simp [intOf]; omega
          · by_cases c2 : 5 < pki
            · clear q3
              go_wp2_with (((with_reducible refine calls_id ?_); refine HRV.out.mono ?_; rintro z w7 ⟨rfl, rfl⟩))
              clear x0 x1 x2 x3 x4 x5 xf y0 y1 y2 y3 yf
              go_roundw
              case rel => exact ⟨k + 1, N + 1, rev, l, A5, n5, c5, us, by go_num, rfl, rfl, by omega, by omega, by omega, HST.out, HI.out, HSP.out, HOW.out, by omega, hB1, HB.out⟩
              case measure => simp [intOf]; omega
            · have q4 : ¬ tc = 0 := by rcases q3 with h | h | h; exact absurd h c1; exact absurd h c2; exact h
              have q5 : (tc == 0) = false := beq_eq_false_iff_ne.mpr q4
              clear q3
              go_wp2_with (((with_reducible refine calls_id ?_); refine HRV.out.mono ?_; rintro z w7 ⟨rfl, rfl⟩))
              clear x0 x1 x2 x3 x4 x5 xf y0 y1 y2 y3 yf
              go_roundw
              case rel => exact ⟨k + 1, N + 1, rev, l, A5, n5, c5, us, by go_num, rfl, rfl, by omega, by omega, by omega, HST.out, HI.out, HSP.out, HOW.out, by omega, hB1, HB.out⟩
              case measure => simp [intOf]; omega
        · have c1 : ¬ pki < 3 := by omega
          have c2 : ¬ 5 < pki := by omega
          subst q3
          subst q4
          have hwr : IntKind.i64.wrap (rev + 1) = rev + 1 := IntWalk.i64_in _ (by omega)
          have hst5' := hst5
          obtain ⟨ds, hds⟩ : ∃ ds, doSt rev l ⟨pki, pk, pv, pr, pi, pj⟩ = ds := ⟨_, rfl⟩
          rw [hds] at hst5 q5 q6 q7 HI
          clear hds HOS hst5'
          obtain ⟨rev', l'⟩ := ds
          simp only at hst5 q5 q6 q7 HI
          subst q5
          have HST := Lib.hid hst5
          have HB := Lib.hid hb5
          have HOW := Lib.hid hown5
          have Q6 := Lib.hid q6
          have Q7 := Lib.hid q7
          have H8 := Lib.hid h8
          have H10 := Lib.hid h10
          clear hst5 hb5 hown5 h8 h10 q6 q7
          go_upto_region 13 with fail
          refine region_any (by kernel_rfl) ?_
          change wpAny _ _ _ _ _ _ _ (World.drew _)
          have HST := Lib.hid HST.out.drew
          have HB := Lib.hid HB.out.drew
          have HOW := Lib.hid (show OwnU w6.drew B1 A5 n5 c5 us from HOW.out)
          have H8 := Lib.hid H8.out.drew
          have H10 := Lib.hid H10.out.drew
          replace hB1 : B1 ≤ w6.drew.heap.size := hB1
          clear x0 x1 x2 x3 x4 x5 xf y0 y1 y2 y3 yf
          generalize World.drew _ = w7 at *
          obtain ⟨⟨y0, y1, y2, y3⟩, yf⟩ := at4 H10.out
          have l10 := H10.out.lt
          refine stage 100000 ?_
          refine stage_read (i := 0) (v := ?_) rfl (by kernel_rfl) (by kernel_rfl) (by kernel_rfl) (by kernel_rfl) (by kernel_rfl) (by kernel_rfl) (fun _ _ _ h => h) (Or.inl ⟨by kernel_rfl, ?_⟩) ?_
          rotate_left
          · (intro wS hwS; obtain ⟨hcS, hfS, hhS⟩ := bcell hwS; go_simp; try (first | (with_reducible rfl) | rw [if_pos (by omega)] | rw [if_neg (by omega)]))
          try simp only [Act.put, List.getElem_toArray, List.getElem_cons_succ, List.getElem_cons_zero, List.setIfInBounds_toArray, List.set_cons_zero, List.set_cons_succ]
          refine stage_read (i := 1) (v := ?_) rfl (by kernel_rfl) (by kernel_rfl) (by kernel_rfl) (by kernel_rfl) (by kernel_rfl) (by kernel_rfl) (fun _ _ _ h => h) (Or.inl ⟨by kernel_rfl, ?_⟩) ?_
          rotate_left
          · (intro wS hwS; obtain ⟨hcS, hfS, hhS⟩ := bcell hwS; go_simp; try (first | (with_reducible rfl) | rw [if_pos (by omega)] | rw [if_neg (by omega)]))
          try simp only [Act.put, List.getElem_toArray, List.getElem_cons_succ, List.getElem_cons_zero, List.setIfInBounds_toArray, List.set_cons_zero, List.set_cons_succ]
          refine stage_read (i := 2) (v := ?_) rfl (by kernel_rfl) (by kernel_rfl) (by kernel_rfl) (by kernel_rfl) (by kernel_rfl) (by kernel_rfl) (fun _ _ _ h => h) (Or.inl ⟨by kernel_rfl, ?_⟩) ?_
          rotate_left
          · (intro wS hwS; obtain ⟨hcS, hfS, hhS⟩ := bcell hwS; go_simp; try (first | (with_reducible rfl) | rw [if_pos (by omega)] | rw [if_neg (by omega)]))
          try simp only [Act.put, List.getElem_toArray, List.getElem_cons_succ, List.getElem_cons_zero, List.setIfInBounds_toArray, List.set_cons_zero, List.set_cons_succ]
          refine stage_read (i := 3) (v := ?_) rfl (by kernel_rfl) (by kernel_rfl) (by kernel_rfl) (by kernel_rfl) (by kernel_rfl) (by kernel_rfl) (fun _ _ _ h => h) (Or.inl ⟨by kernel_rfl, ?_⟩) ?_
          rotate_left
          · (intro wS hwS; obtain ⟨hcS, hfS, hhS⟩ := bcell hwS; go_simp; try (first | (with_reducible rfl) | rw [if_pos (by omega)] | rw [if_neg (by omega)]))
          try simp only [Act.put, List.getElem_toArray, List.getElem_cons_succ, List.getElem_cons_zero, List.setIfInBounds_toArray, List.set_cons_zero, List.set_cons_succ]
          refine stage_read (i := 4) (v := ?_) rfl (by kernel_rfl) (by kernel_rfl) (by kernel_rfl) (by kernel_rfl) (by kernel_rfl) (by kernel_rfl) (fun _ _ _ h => h) (Or.inl ⟨by kernel_rfl, ?_⟩) ?_
          rotate_left
          · (intro wS hwS; obtain ⟨hcS, hfS, hhS⟩ := bcell hwS; go_simp; try (first | (with_reducible rfl) | rw [if_pos (by omega)] | rw [if_neg (by omega)]))
          try simp only [Act.put, List.getElem_toArray, List.getElem_cons_succ, List.getElem_cons_zero, List.setIfInBounds_toArray, List.set_cons_zero, List.set_cons_succ]
          refine stage_read (i := 5) (v := ?_) rfl (by kernel_rfl) (by kernel_rfl) (by kernel_rfl) (by kernel_rfl) (by kernel_rfl) (by kernel_rfl) (fun _ _ _ h => h) (Or.inl ⟨by kernel_rfl, ?_⟩) ?_
          rotate_left
          · (intro wS hwS; obtain ⟨hcS, hfS, hhS⟩ := bcell hwS; go_simp; try (first | (with_reducible rfl) | rw [if_pos (by omega)] | rw [if_neg (by omega)]))
          try simp only [Act.put, List.getElem_toArray, List.getElem_cons_succ, List.getElem_cons_zero, List.setIfInBounds_toArray, List.set_cons_zero, List.set_cons_succ]
          refine stage_read (i := 6) (v := ?_) rfl (by kernel_rfl) (by kernel_rfl) (by kernel_rfl) (by kernel_rfl) (by kernel_rfl) (by kernel_rfl) (fun _ _ _ h => h) (Or.inl ⟨by kernel_rfl, ?_⟩) ?_
          rotate_left
          · (intro wS hwS; obtain ⟨hcS, hfS, hhS⟩ := bcell hwS; go_simp; try (first | (with_reducible rfl) | rw [if_pos (by omega)] | rw [if_neg (by omega)]))
          try simp only [Act.put, List.getElem_toArray, List.getElem_cons_succ, List.getElem_cons_zero, List.setIfInBounds_toArray, List.set_cons_zero, List.set_cons_succ]
          refine stage_read (i := 8) (v := ?_) rfl (by kernel_rfl) (by kernel_rfl) (by kernel_rfl) (by kernel_rfl) (by kernel_rfl) (by kernel_rfl) (fun _ _ _ h => h) (Or.inl ⟨by kernel_rfl, ?_⟩) ?_
          rotate_left
          · (intro wS hwS; obtain ⟨hcS, hfS, hhS⟩ := bcell hwS; go_simp; try (first | (with_reducible rfl) | rw [if_pos (by omega)] | rw [if_neg (by omega)]))
          try simp only [Act.put, List.getElem_toArray, List.getElem_cons_succ, List.getElem_cons_zero, List.setIfInBounds_toArray, List.set_cons_zero, List.set_cons_succ]
          refine stage_read (i := 9) (v := ?_) rfl (by kernel_rfl) (by kernel_rfl) (by kernel_rfl) (by kernel_rfl) (by kernel_rfl) (by kernel_rfl) (fun _ _ _ h => h) (Or.inl ⟨by kernel_rfl, ?_⟩) ?_
          rotate_left
          · (intro wS hwS; obtain ⟨hcS, hfS, hhS⟩ := bcell hwS; go_simp; try (first | (with_reducible rfl) | rw [if_pos (by omega)] | rw [if_neg (by omega)]))
          try simp only [Act.put, List.getElem_toArray, List.getElem_cons_succ, List.getElem_cons_zero, List.setIfInBounds_toArray, List.set_cons_zero, List.set_cons_succ]
          refine stage_one 7 (by kernel_rfl) rfl (by kernel_rfl) (fun K hK => ?_)
          go_simp
          refine (rev_any _ HST.out).mono ?_
          rintro r w8 ⟨rfl, rfl⟩
          refine hK.out _ _ (Below.refl _ _) ?_
          clear hK K
          try simp only [Act.put, List.getElem_toArray, List.getElem_cons_succ, List.getElem_cons_zero, List.setIfInBounds_toArray, List.set_cons_zero, List.set_cons_succ]
          refine stage_read (i := 10) (v := ?_) rfl (by kernel_rfl) (by kernel_rfl) (by kernel_rfl) (by kernel_rfl) (by kernel_rfl) (by kernel_rfl) (fun _ _ _ h => h) (Or.inl ⟨by kernel_rfl, ?_⟩) ?_
          rotate_left
          · (intro wS hwS; obtain ⟨hcS, hfS, hhS⟩ := bcell hwS; go_simp; try (first | (with_reducible rfl) | rw [if_pos (by omega)] | rw [if_neg (by omega)]))
          try simp only [Act.put, List.getElem_toArray, List.getElem_cons_succ, List.getElem_cons_zero, List.setIfInBounds_toArray, List.set_cons_zero, List.set_cons_succ]
          refine stage_read (i := 11) (v := ?_) rfl (by kernel_rfl) (by kernel_rfl) (by kernel_rfl) (by kernel_rfl) (by kernel_rfl) (by kernel_rfl) (fun _ _ _ h => h) (Or.inl ⟨by kernel_rfl, ?_⟩) ?_
          rotate_left
          · (intro wS hwS; obtain ⟨hcS, hfS, hhS⟩ := bcell hwS; go_simp; try (first | (with_reducible rfl) | rw [if_pos (by omega)] | rw [if_neg (by omega)]))
          try simp only [Act.put, List.getElem_toArray, List.getElem_cons_succ, List.getElem_cons_zero, List.setIfInBounds_toArray, List.set_cons_zero, List.set_cons_succ]
          first | refine wpAnyT_done (by kernel_rfl) ?_ _ | refine wpAny_done (by kernel_rfl) ?_ _
          have l8 := H8.out.lt
          obtain ⟨⟨x0, x1, x2, x3, x4, x5⟩, xf⟩ := at6 H8.out
          go_upto_region 17 with fail
          obtain ⟨h11, hb8⟩ := one_at w7 77 [.string pk, .int .i64 pr]
          have HST := Lib.hid (HST.out.step hb8)
          have HOW := Lib.hid (HOW.out.step hb8)
          have H8 := Lib.hid (H8.out.step hb8)
          have HB := Lib.hid (chain HB.out hb8)
          replace hB1 := Nat.le_trans hB1 hb8.size
          clear hb8 x0 x1 x2 x3 x4 x5 xf y0 y1 y2 y3 yf l8 l10 H10
          generalize World.alloc w7 _ = w8 at *
          generalize w7.heap.size = g11 at *
          obtain rfl : us.length = n5 := HOW.out.len
          have hmax5 := HOW.out.rd.max
          have hle5 := HOW.out.rd.le
          unfold maxLen at hmax5
          have H11 := Lib.hid h11
          clear h11
          go_wp2_with fail
          go_loopw [70] (fun i wr => ∃ j : Nat, i = .int .i64 (j : Int) ∧ j ≤ us.length ∧ Below w8.heap.size w8 wr) (fun i _ => us.length - (intOf i).toNat)
          case atStart => exact ⟨0, rfl, Nat.zero_le _, Below.refl _ _⟩
          case round =>
            obtain ⟨j2, rfl, hj, hb9⟩ := hrel
            have hs9 := hb9.size
            have h8 := H8.out.step hb9
            have h11 := H11.out.step hb9
            by_cases hlt2 : j2 < us.length
            · obtain ⟨gu, offu, eA, hgu, heu⟩ := HOW.out.rd.elem Us.row_length (by omega) (k := j2) hlt2
              subst eA
              have hbc := bcell hb9
              have f0 := (hbc.1 _ _ hgu).trans (heu 0 _ rfl)
              have f1 := (hbc.1 _ _ hgu).trans (heu 1 _ rfl)
              rw [Nat.add_zero] at f0
              have hnq : pki ≠ 3 → us[j2] ≠ ⟨pk, pr⟩ := fun h => (Q7.out h).1 _ (List.getElem_mem hlt2)
              generalize us[j2] = z at *
              obtain ⟨zk, zr⟩ := z
              simp only at f0 f1
              have HNQ := Lib.hid hnq
              have HHB := Lib.hid hb9
              clear heu hbc hnq hb9
              go_upto_region 20 with fail
              obtain ⟨hz, hb2⟩ := one_at wr 77 [.string zk, .int .i64 zr]
              have HHB := Lib.hid (chain HHB.out hb2)
              replace h8 := h8.step hb2
              replace h11 := h11.step hb2
              clear hb2 f0 f1
              generalize World.alloc wr _ = w9 at *
              obtain ⟨gz, hgz⟩ : ∃ gz, wr.heap.size = gz := ⟨_, rfl⟩
              rw [hgz] at hz hs9 ⊢
              clear hgz
              obtain ⟨⟨z0, z1⟩, zf⟩ := at2 hz
              obtain ⟨⟨x0, x1, x2, x3, x4, x5⟩, xf⟩ := at6 h8
              obtain ⟨⟨y0, y1⟩, yf⟩ := at2 h11
              clear hz h8 h11
              by_cases k3 : pki = 3
              · subst k3
                go_wp2_with fail
                clear x0 x1 x2 x3 x4 x5 xf y0 y1 yf z0 z1 zf
                go_roundw
                case rel => exact ⟨j2 + 1, by go_num, by omega, HHB.out⟩
                case measure => simp [intOf]; omega
              · have hk3 : (pki == 3) = false := beq_eq_false_iff_ne.mpr k3
                have hne := HNQ.out k3
                by_cases hzk : zk = pk
                · subst hzk
                  have hzr : ¬ zr = pr := fun e => hne (by rw [e])
                  clear hne
                  go_wp2_with fail
                  clear x0 x1 x2 x3 x4 x5 xf y0 y1 yf z0 z1 zf
                  go_roundw
                  case rel => exact ⟨j2 + 1, by go_num, by omega, HHB.out⟩
                  case measure => simp [intOf]; omega
                · have hkl : ¬ zk.toList = pk.toList := fun e => hzk (ba_ext e)
                  clear hne hzk
                  go_wp2_with fail
                  clear x0 x1 x2 x3 x4 x5 xf y0 y1 yf z0 z1 zf
                  go_roundw
                  case rel => exact ⟨j2 + 1, by go_num, by omega, HHB.out⟩
                  case measure => simp [intOf]; omega
            · have hst := HST.out.step hb9
              have hown := HOW.out.step hb9
              have hb := chain HB.out hb9
              replace hB1 := Nat.le_trans hB1 hb9.size
              obtain ⟨⟨x0, x1, x2, x3, x4, x5⟩, xf⟩ := at6 h8
              obtain ⟨⟨y0, y1⟩, yf⟩ := at2 h11
              by_cases k3 : pki = 3
              · subst k3
                have HST := Lib.hid hst
                have HOW := Lib.hid hown
                have HB := Lib.hid hb
                clear h8 h11 hst hown hb hb9
                go_wp2_with fail
                clear x0 x1 x2 x3 x4 x5 xf y0 y1 yf
                go_roundw
                case rel => exact ⟨k + 1, N + 1, rev + 1, l', A5, us.length, c5, us, by go_num, rfl, rfl, by omega, by omega, by omega, HST.out, HI.out, Q6.out, HOW.out, by omega, hB1, HB.out⟩
                case measure => simp [intOf]; omega
              · have hk3 : (pki == 3) = false := beq_eq_false_iff_ne.mpr k3
                have hbn := (one_at wr 77 [.string pk, .int .i64 pr]).2
                have HN := Lib.hid (Rd.lit (w := wr) (t := 77) (n := 1) (cs := [.string pk, .int .i64 pr]) rfl (by simp [maxLen]) (by omega : 0 < 2))
                have HO := Lib.hid (hown.step hbn)
                have HST := Lib.hid (hst.step hbn)
                have HB := Lib.hid (chain hb hbn)
                have HB1 := Lib.hid (Nat.le_trans hB1 hbn.size)
                have Q7 := Lib.hid (Q7.out k3).2
                clear h8 h11 hst hown hb hb9 hbn
                go_wp2_with (at_builtin; refine app_us rfl (.tmp 86) (.tmp 88) rfl rfl HO.out [⟨pk, pr⟩] rfl HN.out HB1.out (by omega) ?_; intro A3 c3 w4 hW4 hG4 hB4; have HST4 := Lib.hid (HST.out.apart (show World.ownsRow _ _ _ _ _ _ _ from HO.out) hG4 hg1 hb1); have HW4 := Lib.hid hW4; have HB4 := Lib.hid hB4; clear hW4 hG4 hB4)
                clear x0 x1 x2 x3 x4 x5 xf y0 y1 yf
                have hz4 := Nat.le_trans HB1.out HB4.out.size
                have hbb := HB.out.trans (HB4.out.mono hw1)
                go_roundw
                case rel => exact ⟨k + 1, N + 1, rev + 1, l', A3, us.length + 1, c3, us ++ [⟨pk, pr⟩], by go_num, rfl, rfl, by omega, by omega, by omega, HST4.out, HI.out, Q7.out, HW4.out, by omega, hz4, hbb⟩
                case measure => simp [intOf]; omega
      · clear HDO HOS HI HIN HSP hown hst HOU
        have HB := Lib.hid hb
        clear hb h7
        go_wp2_with (((with_reducible refine calls_id ?_); refine (awake9_any _).mono ?_; rintro z w9 ⟨rfl, hb9⟩))
        go_ret
        exact ⟨rfl, chain HB.out hb9⟩
    · have HB := Lib.hid hb
      clear hb hown hst
      go_wp2_with (((with_reducible refine calls_id ?_); refine (awake9_any _).mono ?_; rintro z w9 ⟨rfl, hb9⟩))
      go_ret
      exact ⟨rfl, chain HB.out hb9⟩
end Go.Proofs.Ytcpkaolfafeojaa
