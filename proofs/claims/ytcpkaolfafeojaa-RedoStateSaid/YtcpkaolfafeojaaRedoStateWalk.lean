
/- The law RedoState: the Go function returns true, whatever was asked. -/
import Derived.Test.YtcpkaolfafeojaaKvAwake
import Derived.Test.YtcpkaolfafeojaaKvRDo
import Derived.Test.YtcpkaolfafeojaaKvEqual9
import Derived.Test.YtcpkaolfafeojaaOpenAsk
import Derived.Test.YtcpkaolfafeojaaRedoBackWalk
namespace Go.Proofs.Ytcpkaolfafeojaa
set_option linter.unusedVariables false
set_option linter.unusedSimpArgs false
open Go.RowKit
theorem cutA_keyR (o : Ask) : (cutA o).key.size ≤ 140 := cutS_size _ _
theorem big_maxR {n : Nat} (h : n ≤ 1000000) : n ≤ maxLen := by simp only [maxLen]; omega
theorem rightF_of {rev : Int} : ∀ {l : List It} {p : Option It}, Asc l → (∀ x ∈ l, itOk rev x = true) → (∀ y, p = some y → ∀ x ∈ l, kless y.k x.k = true) → rightF rev p l = true
  | [], _, _, _, _ => rfl
  | x :: l, p, ha, hx, hp => by
    unfold Asc at ha
    rw [List.pairwise_cons] at ha
    have h1 : aheadOk p x = true := by
      cases p with
      | none => rfl
      | some y => exact hp y rfl x (by simp)
    rw [rightF, hx x (by simp), h1, rightF_of (p := some x) ha.2 (fun y hy => hx y (by simp [hy])) (fun y e z hz => by injection e with e; subst e; exact ha.1 z hz)]
    rfl
theorem Inv9.right {rev : Int} {l : List It} {n : Nat} (h : Inv9 rev l n) : rightL rev l = true := by
  unfold rightL
  rw [rightF_of h.asc (fun x hx => ?_) (fun _ e => by cases e), decide_eq_true h.lo]
  · rfl
  · obtain ⟨a, b, c, d⟩ := h.ok x hx
    unfold itOk
    rw [(keyB_iff x.k).2 a, decide_eq_true b, decide_eq_true c, decide_eq_true d]
    rfl
set_option maxRecDepth 100000 in
set_option maxHeartbeats 4000000 in
theorem redoState_walk {A : Option Addr} {n c : Nat} {L : List Ask} (w : World) (hr : Rd w w.heap.size 6 A n c (L.flatMap Ask.row)) (hf : ∀ o ∈ L, o.fits) :
    Calls Try.prog 17 #[.slice A n c] w fun r w' => r = .returned (.bool true) ∧ Below w.heap.size w w' := by
  have hl := Rd.count (row := Ask.row) (fun _ => rfl) (by omega) hr
  have hmax := hr.max
  have hle := hr.le
  unfold maxLen at hmax
  subst hl
  have HR := Lib.hid hr
  have HF := Lib.hid hf
  have HNEW := Lib.hid (new_st w)
  clear hr hf
  go_enter Try.func17, Try.ntmps17
  go_upto_region 2 with (((with_reducible refine (HNEW.out).mono ?_); rintro r w1 ⟨g, b, rfl, hst, hwb, hbg, hb⟩))
  obtain ⟨h4, hb2⟩ := one_at w1 81 [.int .i64 0, .slice none 0 0]
  obtain ⟨g7, hg7⟩ : ∃ g7, w1.heap.size = g7 := ⟨_, rfl⟩
  have hg1 : g < g7 := by rw [← hg7]; exact hst.lt.1
  have hb1 : b < g7 := by omega
  have hw1 : w.heap.size ≤ g7 := by omega
  have hs2 : w1.heap.size + 1 ≤ (World.alloc w1 (.cells #[.int .i64 0, .slice none 0 0] 81)).heap.size := by simp
  have HST := Lib.hid (hst.step hb2)
  have HB := Lib.hid (chain hb hb2)
  clear hst hb hb2 HNEW
  generalize World.alloc w1 _ = w2 at *
  rw [hg7] at h4 hs2 ⊢
  clear hg7
  obtain ⟨B2, hB2⟩ : ∃ B2, B2 = g7 + 1 := ⟨_, rfl⟩
  have hBg : g7 < B2 := by omega
  have HSZ := Lib.hid (show B2 ≤ w2.heap.size by omega)
  have H4 := Lib.hid h4
  clear h4 hB2 hs2
  go_wp2_with fail
  go_loopw [19] (fun i wr => ∃ (k N : Nat) (rev : Int) (l : List It) (A4 : Option Addr) (n4 c4 : Nat), i = .int .i64 (k : Int) ∧ k ≤ L.length ∧ N ≤ k ∧ N ≤ 20 ∧ IsSt wr g b N rev l ∧ Inv9 rev l N ∧ OwnRI wr B2 A4 n4 c4 l ∧ At wr g7 81 [.int .i64 rev, .slice A4 n4 c4] ∧ B2 ≤ wr.heap.size ∧ Below w.heap.size w wr) (fun i _ => L.length - (intOf i).toNat)
  case atStart => exact ⟨0, 0, 0, [], none, 0, 0, rfl, Nat.zero_le _, Nat.le_refl _, by omega, HST.out, Inv9.nil, OwnRI.nil, H4.out, HSZ.out, HB.out⟩
  case round =>
    clear HST HB HSZ H4
    obtain ⟨k, N, rev, l, A4, n4, c4, rfl, hk, hNk, hN, hst, hinv, hown, h4, hB2, hb⟩ := hrel
    have hsz := hb.size
    have hn4 : n4 ≤ 1000000 := by have h1 := hown.len; have h2 := hst.mp.len_le; omega
    by_cases hlt : k < L.length
    ·
      obtain ⟨gs, off, e, hg, he⟩ := HR.out.elem (row := Ask.row) (fun _ => rfl) (by omega) (k := k) hlt
      subst e
      have hbc := bcell (Below.mono (B := w.heap.size) hb (Nat.le_refl _))
      have e0 := (hbc.1 _ _ hg).trans (he 0 _ rfl)
      have e1 := (hbc.1 _ _ hg).trans (he 1 _ rfl)
      have e2 := (hbc.1 _ _ hg).trans (he 2 _ rfl)
      have e3 := (hbc.1 _ _ hg).trans (he 3 _ rfl)
      have e4 := (hbc.1 _ _ hg).trans (he 4 _ rfl)
      have e5 := (hbc.1 _ _ hg).trans (he 5 _ rfl)
      rw [Nat.add_zero] at e0
      have hfo := HF.out _ (List.getElem_mem hlt)
      have hck := cutA_keyR L[k]
      have hci : (cutA L[k]).iff.size ≤ maxLen := hfo.2.2.2.2.1
      have HOU := Lib.hid (fun w => ours9_any L[k] w)
      clear he hbc hfo
      generalize cutA L[k] = p at *
      generalize L[k] = o at *
      obtain ⟨ki, kk, v, r, i, j⟩ := o
      unfold Ask.v Ask.cells at HOU
      simp only at HOU
      have HST := Lib.hid hst
      have HB := Lib.hid hb
      have HINV := Lib.hid hinv
      have HOW := Lib.hid hown
      have H4 := Lib.hid h4
      clear hst hb hinv hown h4
      go_upto_region 5 with fail
      obtain ⟨h7, hb2⟩ := one_at wr 40 [.int .i64 ki, .string kk, .string v, .int .i64 r, .string i, .int .i64 j]
      have hst := HST.out.step hb2
      have hb := chain HB.out hb2
      have hown := HOW.out.step hb2
      have h4 := H4.out.step hb2
      have hinv := HINV.out
      replace hB2 := Nat.le_trans hB2 hb2.size
      clear hb2 e0 e1 e2 e3 e4 e5 HST HB HOW H4
      generalize World.alloc _ _ = w2 at *
      generalize wr.heap.size = g9 at *
      obtain ⟨⟨x0, x1, x2, x3, x4, x5⟩, xf⟩ := at6 h7
      by_cases h20 : k < 20
      · have HRD := fun w2 (h : OwnRI w2 B2 A4 n4 c4 l) (hs : B2 ≤ w2.heap.size) => rdo_any A4 n4 c4 B2 l rev p w2 h hs hn4 hinv.lo (by have := hinv.hi; omega)
        have HDO := fun w2 (h : IsSt w2 g b N rev l) => do_any p w2 h (by omega) hinv.keys (big_maxR (by omega)) hci (plan_key rev l p (big_maxR (by omega)))
        have HI := Lib.hid (hinv.step (by omega) p)
        clear hck hci HINV hinv
        unfold DoR at HDO
        unfold RDoR at HRD
        generalize planP rev l p = pl at *
        generalize doSt rev l p = ds at *
        obtain ⟨pki, pk, pv, pr, pi, pj⟩ := p
        obtain ⟨⟨tc, tr, tv, ti⟩, ⟨ek, ev, er, eg⟩, tw⟩ := pl
        obtain ⟨rev', l'⟩ := ds
        unfold Ask.v Ask.cells at HDO HRD
        simp only at HDO HRD HI
        have HDO := Lib.hid HDO
        have HRD := Lib.hid HRD
        go_upto_region 7 with (((with_reducible refine calls_id ?_); refine (HOU.out _).mono ?_; rintro y w3 ⟨rfl, hb3⟩))
        obtain ⟨h8, h9, hb4⟩ := two_at w3 37 [.int .i64 pki, .string pk, .string pv, .int .i64 pr, .string pi, .int .i64 pj] 40 [.int .i64 pki, .string pk, .string pv, .int .i64 pr, .string pi, .int .i64 pj]
        replace hst := (hst.step hb3).step hb4
        replace hown := (hown.step hb3).step hb4
        replace h4 := (h4.step hb3).step hb4
        replace hb := chain (chain hb hb3) hb4
        have hg8 : B2 ≤ w3.heap.size := Nat.le_trans hB2 hb3.size
        replace hB2 := Nat.le_trans hB2 (Nat.le_trans hb3.size hb4.size)
        clear hb3 hb4 x0 x1 x2 x3 x4 x5 xf h7 HOU
        generalize World.alloc (World.alloc w3 _) _ = w4 at *
        obtain ⟨g8, hg8e⟩ : ∃ g8, w3.heap.size = g8 := ⟨_, rfl⟩
        rw [hg8e] at h8 h9 hg8 ⊢
        clear hg8e
        obtain ⟨⟨x0, x1, x2, x3, x4, x5⟩, xf⟩ := at6 h8
        have HDO := Lib.hid (HDO.out w4 hst)
        go_upto_region 8 with (((with_reducible refine calls_id ?_); refine HDO.out.mono ?_; rintro y w5 ⟨A5, n5, c5, rfl, _, hst5, hm5, _⟩))
        replace h4 := hm5.at h4 (by rintro (e | e) <;> omega)
        replace h9 := hm5.at h9 (by rintro (e | e) <;> omega)
        replace hown : OwnRI w5 B2 A4 n4 c4 l := own_mod hown hm5 (fun i o _ hi _ e => by rcases e with e | e <;> omega)
        replace hb := hb.trans (hm5.toBelow (fun i o hi e => by rcases e with e | e <;> omega) hb.size)
        replace hB2 := Nat.le_trans hB2 hm5.size
        clear x0 x1 x2 x3 x4 x5 xf hm5 hst h8 HDO
        obtain ⟨⟨x0, x1, x2, x3, x4, x5⟩, xf⟩ := at6 h9
        obtain ⟨⟨s0, s1⟩, sf⟩ := at2 h4
        have HRD := Lib.hid (HRD.out w5 hown hB2)
        go_wp2_with (((with_reducible refine calls_id ?_); refine HRD.out.mono ?_; rintro z w6 ⟨A6, n6, c6, A7, n7, c7, rfl, hown6, _, hb6⟩); (have h4' := h4.step hb6); (obtain ⟨⟨s0', s1'⟩, sf0', sf1'⟩ := at2 h4'))
        obtain ⟨hm1, hG1⟩ := At.many [(0, .int .i64 rev'), (1, .slice A6 n6 c6)] h4'
        dsimp only [setMany, setL, List.set] at hm1 hG1
        replace hst5 := (hst5.step hb6).only hG1 (by omega) (by omega)
        replace hown6 : OwnRI _ B2 A6 n6 c6 l' := own_mod (show World.ownsRow _ _ _ _ _ _ _ from hown6) (grown_mod hG1) (fun i o _ hi _ e => absurd (Option.some.inj e) (by omega))
        replace hb := chain hb hb6
        replace hb := hb.trans ((Below.refl w.heap.size _).grown hG1 hb.size (by intro i hi; injection hi with hi; omega))
        replace hB2 := Nat.le_trans hB2 (Nat.le_trans hb6.size hG1.size)
        clear x0 x1 x2 x3 x4 x5 xf s0 s1 sf s0' s1' sf0' sf1' hG1 h4 h4' h9 hb6 hown
        generalize World.setCell _ _ _ = w7 at *
        go_roundw
        case rel => exact ⟨k + 1, N + 1, rev', l', A6, n6, c6, by go_num, by omega, by omega, by omega, hst5, HI.out, hown6, hm1, hB2, hb⟩
        case measure => simp [intOf]; omega
      · clear HOU h7
        go_wp2_with fail
        clear x0 x1 x2 x3 x4 x5 xf
        go_roundw
        case rel => exact ⟨k + 1, N, rev, l, A4, n4, c4, by go_num, by omega, by omega, by omega, hst, hinv, hown, h4, hB2, hb⟩
        case measure => simp [intOf]; omega
    ·
      have hright := hinv.right
      have hhi : rev < 9223372036854775808 := by have := hinv.hi; omega
      have hlo := hinv.lo
      have hkeys := hinv.keys
      have hll := hst.mp.len_le
      have hsm := rightL_small hright hhi
      have hok := okS_put hright hhi (by omega : l.length < 4294967296)
      have hrd := rdS_put hright hhi (by omega : l.length < 4294967296)
      have hln := stL_len (rev := rev) hsm
      have HPUT := putstate_any wr hst (by omega) hsm hlo hhi
      obtain ⟨B, hB⟩ : ∃ B, stL rev l = B := ⟨_, rfl⟩
      rw [hB] at hok hrd hln HPUT
      clear hinv hright HR HF
      go_upto_region 11 with (((with_reducible refine (HPUT).mono ?_); rintro z w5 ⟨A5, n5, c5, rfl, hown5, hb5⟩))
      replace hst := hst.step hb5
      replace h4 := h4.step hb5
      replace hown := OwnRI.step hown hb5
      replace hb := chain hb hb5
      have hn5 := hown5.length
      have HRD := rd_yes w5 hown5.rd (by omega) hok hrd
      clear HPUT hb5
      go_upto_region 12 with (((with_reducible refine (HRD).mono ?_); rintro z w6 ⟨g6, m6, rfl, hst6, hwm, hmg, hb6⟩))
      replace hst := hst.step hb6
      replace h4 := h4.step hb6
      replace hown := OwnRI.step hown hb6
      have hown5 := OwnB.step hown5 hb6
      replace hb := chain hb hb6
      clear HRD hb6 hok hrd
      have HNIL := putstate_nil w6
      go_upto_region 13 with (((with_reducible refine (HNIL).mono ?_); rintro z v ⟨rfl, rfl⟩))
      clear HNIL
      refine region_any (by kernel_rfl) ?_
      change wpAny _ _ _ _ _ _ _ (World.drew _)
      replace hst := hst.drew
      replace hst6 := hst6.drew
      replace h4 := h4.drew
      replace hown := (show w6.drew.ownsRow _ _ _ _ _ _ from hown)
      replace hown5 := (show w6.drew.ownsRow _ _ _ _ _ _ from hown5)
      replace hb := hb.drew
      generalize World.drew _ = w8 at *
      have HPS := rputstate_any A4 n4 c4 rev l w8 (OwnRI.rd hown) (by have := OwnRI.len hown; omega) hsm hlo hhi
      rw [hB] at HPS
      obtain ⟨⟨s0, s1⟩, sf⟩ := at2 h4
      have l4 := h4.lt
      have hcv : ∀ w', Below w8.heap.size w8 w' → _ := fun w' h => conv_str (RdB.below (OwnB.rd hown5) h)
      refine stage 100000 ?_
      refine stage_read (i := 0) (v := ?_) rfl (by kernel_rfl) (by kernel_rfl) (by kernel_rfl) (by kernel_rfl) (by kernel_rfl) (by kernel_rfl) (fun _ _ _ h => h) (Or.inl ⟨by kernel_rfl, ?_⟩) ?_
      rotate_left
      · (intro wS hwS; obtain ⟨hcS, hfS, hhS⟩ := bcell hwS; go_simp; try (first | (with_reducible rfl) | rw [if_pos (by omega)] | rw [if_neg (by omega)]))
      try simp only [Act.put, List.getElem_toArray, List.getElem_cons_succ, List.getElem_cons_zero, List.setIfInBounds_toArray, List.set_cons_zero, List.set_cons_succ]
      refine stage_read (i := 1) (v := ?_) rfl (by kernel_rfl) (by kernel_rfl) (by kernel_rfl) (by kernel_rfl) (by kernel_rfl) (by kernel_rfl) (fun _ _ _ h => h) (Or.inl ⟨by kernel_rfl, ?_⟩) ?_
      rotate_left
      · (intro wS hwS; obtain ⟨hcS, hfS, hhS⟩ := bcell hwS; go_simp; try (first | (with_reducible rfl) | rw [if_pos (by omega)] | rw [if_neg (by omega)]))
      try simp only [Act.put, List.getElem_toArray, List.getElem_cons_succ, List.getElem_cons_zero, List.setIfInBounds_toArray, List.set_cons_zero, List.set_cons_succ]
      refine stage_read (i := 2) (v := ?_) rfl (by kernel_rfl) (by kernel_rfl) (by kernel_rfl) (by kernel_rfl) (by kernel_rfl) (by kernel_rfl) (fun _ _ _ h => h) (Or.inl ⟨by kernel_rfl, ?_⟩) ?_
      rotate_left
      · (intro wS hwS; obtain ⟨hcS, hfS, hhS⟩ := bcell hwS; go_simp; try (first | (with_reducible rfl) | rw [if_pos (by omega)] | rw [if_neg (by omega)]))
      try simp only [Act.put, List.getElem_toArray, List.getElem_cons_succ, List.getElem_cons_zero, List.setIfInBounds_toArray, List.set_cons_zero, List.set_cons_succ]
      refine stage_read (i := 3) (v := ?_) rfl (by kernel_rfl) (by kernel_rfl) (by kernel_rfl) (by kernel_rfl) (by kernel_rfl) (by kernel_rfl) (fun _ _ _ h => h) (Or.inl ⟨by kernel_rfl, ?_⟩) ?_
      rotate_left
      · (intro wS hwS; obtain ⟨hcS, hfS, hhS⟩ := bcell hwS; go_simp; try (first | (with_reducible rfl) | rw [if_pos (by omega)] | rw [if_neg (by omega)]))
      try simp only [Act.put, List.getElem_toArray, List.getElem_cons_succ, List.getElem_cons_zero, List.setIfInBounds_toArray, List.set_cons_zero, List.set_cons_succ]
      refine stage_read (i := 4) (v := ?_) rfl (by kernel_rfl) (by kernel_rfl) (by kernel_rfl) (by kernel_rfl) (by kernel_rfl) (by kernel_rfl) (fun _ _ _ h => h) (Or.inl ⟨by kernel_rfl, ?_⟩) ?_
      rotate_left
      · (intro wS hwS; obtain ⟨hcS, hfS, hhS⟩ := bcell hwS; go_simp; try (first | (with_reducible rfl) | rw [if_pos (by omega)] | rw [if_neg (by omega)]))
      try simp only [Act.put, List.getElem_toArray, List.getElem_cons_succ, List.getElem_cons_zero, List.setIfInBounds_toArray, List.set_cons_zero, List.set_cons_succ]
      refine stage_read (i := 5) (v := ?_) rfl (by kernel_rfl) (by kernel_rfl) (by kernel_rfl) (by kernel_rfl) (by kernel_rfl) (by kernel_rfl) (fun _ _ _ h => h) (Or.inl ⟨by kernel_rfl, ?_⟩) ?_
      rotate_left
      · (intro wS hwS; obtain ⟨hcS, hfS, hhS⟩ := bcell hwS; go_simp; try (first | (with_reducible rfl) | rw [if_pos (by omega)] | rw [if_neg (by omega)]))
      try simp only [Act.put, List.getElem_toArray, List.getElem_cons_succ, List.getElem_cons_zero, List.setIfInBounds_toArray, List.set_cons_zero, List.set_cons_succ]
      refine stage_one 6 (by kernel_rfl) rfl (by kernel_rfl) (fun K hK => ?_)
      go_simp
      refine HPS.mono ?_
      rintro z w9 ⟨rfl, hb9⟩
      refine hK.out _ _ (hb9) ?_
      clear hK K
      try simp only [Act.put, List.getElem_toArray, List.getElem_cons_succ, List.getElem_cons_zero, List.setIfInBounds_toArray, List.set_cons_zero, List.set_cons_succ]
      replace hst := hst.step hb9
      replace hst6 := hst6.step hb9
      replace hb := chain hb hb9
      clear s0 s1 sf l4 h4 hown hown5 hcv HPS hb9
      have hks := ksame_any w9 hst hst6 (by omega) (by omega) hkeys hkeys
      rw [decide_eq_true rfl, decide_eq_true rfl] at hks
      refine stage_read (i := 7) (v := ?_) rfl (by kernel_rfl) (by kernel_rfl) (by kernel_rfl) (by kernel_rfl) (by kernel_rfl) (by kernel_rfl) (fun _ _ _ h => h) (Or.inl ⟨by kernel_rfl, ?_⟩) ?_
      rotate_left
      · (intro wS hwS; obtain ⟨hcS, hfS, hhS⟩ := bcell hwS; go_simp; try (first | (with_reducible rfl) | rw [if_pos (by omega)] | rw [if_neg (by omega)]))
      try simp only [Act.put, List.getElem_toArray, List.getElem_cons_succ, List.getElem_cons_zero, List.setIfInBounds_toArray, List.set_cons_zero, List.set_cons_succ]
      refine stage_read (i := 8) (v := ?_) rfl (by kernel_rfl) (by kernel_rfl) (by kernel_rfl) (by kernel_rfl) (by kernel_rfl) (by kernel_rfl) (fun _ _ _ h => h) (Or.inl ⟨by kernel_rfl, ?_⟩) ?_
      rotate_left
      · (intro wS hwS; obtain ⟨hcS, hfS, hhS⟩ := bcell hwS; go_simp; try (first | (with_reducible rfl) | rw [if_pos (by omega)] | rw [if_neg (by omega)]))
      try simp only [Act.put, List.getElem_toArray, List.getElem_cons_succ, List.getElem_cons_zero, List.setIfInBounds_toArray, List.set_cons_zero, List.set_cons_succ]
      refine stage_read (i := 9) (v := ?_) rfl (by kernel_rfl) (by kernel_rfl) (by kernel_rfl) (by kernel_rfl) (by kernel_rfl) (by kernel_rfl) (fun _ _ _ h => h) (Or.inl ⟨by kernel_rfl, ?_⟩) ?_
      rotate_left
      · (intro wS hwS; obtain ⟨hcS, hfS, hhS⟩ := bcell hwS; go_simp; try (first | (with_reducible rfl) | rw [if_pos (by omega)] | rw [if_neg (by omega)]))
      try simp only [Act.put, List.getElem_toArray, List.getElem_cons_succ, List.getElem_cons_zero, List.setIfInBounds_toArray, List.set_cons_zero, List.set_cons_succ]
      refine stage_read (i := 10) (v := ?_) rfl (by kernel_rfl) (by kernel_rfl) (by kernel_rfl) (by kernel_rfl) (by kernel_rfl) (by kernel_rfl) (fun _ _ _ h => h) (Or.inl ⟨by kernel_rfl, ?_⟩) ?_
      rotate_left
      · (intro wS hwS; obtain ⟨hcS, hfS, hhS⟩ := bcell hwS; go_simp; try (first | (with_reducible rfl) | rw [if_pos (by omega)] | rw [if_neg (by omega)]))
      try simp only [Act.put, List.getElem_toArray, List.getElem_cons_succ, List.getElem_cons_zero, List.setIfInBounds_toArray, List.set_cons_zero, List.set_cons_succ]
      refine stage_read (i := 11) (v := ?_) rfl (by kernel_rfl) (by kernel_rfl) (by kernel_rfl) (by kernel_rfl) (by kernel_rfl) (by kernel_rfl) (fun _ _ _ h => h) (Or.inl ⟨by kernel_rfl, ?_⟩) ?_
      rotate_left
      · (intro wS hwS; obtain ⟨hcS, hfS, hhS⟩ := bcell hwS; go_simp; try (first | (with_reducible rfl) | rw [if_pos (by omega)] | rw [if_neg (by omega)]))
      try simp only [Act.put, List.getElem_toArray, List.getElem_cons_succ, List.getElem_cons_zero, List.setIfInBounds_toArray, List.set_cons_zero, List.set_cons_succ]
      refine stage_read (i := 12) (v := ?_) rfl (by kernel_rfl) (by kernel_rfl) (by kernel_rfl) (by kernel_rfl) (by kernel_rfl) (by kernel_rfl) (fun _ _ _ h => h) (Or.inl ⟨by kernel_rfl, ?_⟩) ?_
      rotate_left
      · (intro wS hwS; obtain ⟨hcS, hfS, hhS⟩ := bcell hwS; go_simp; try (first | (with_reducible rfl) | rw [if_pos (by omega)] | rw [if_neg (by omega)]))
      try simp only [Act.put, List.getElem_toArray, List.getElem_cons_succ, List.getElem_cons_zero, List.setIfInBounds_toArray, List.set_cons_zero, List.set_cons_succ]
      refine stage_read (i := 13) (v := ?_) rfl (by kernel_rfl) (by kernel_rfl) (by kernel_rfl) (by kernel_rfl) (by kernel_rfl) (by kernel_rfl) (fun _ _ _ h => h) (Or.inl ⟨by kernel_rfl, ?_⟩) ?_
      rotate_left
      · (intro wS hwS; obtain ⟨hcS, hfS, hhS⟩ := bcell hwS; go_simp; try (first | (with_reducible rfl) | rw [if_pos (by omega)] | rw [if_neg (by omega)]))
      try simp only [Act.put, List.getElem_toArray, List.getElem_cons_succ, List.getElem_cons_zero, List.setIfInBounds_toArray, List.set_cons_zero, List.set_cons_succ]
      refine stage_read (i := 14) (v := ?_) rfl (by kernel_rfl) (by kernel_rfl) (by kernel_rfl) (by kernel_rfl) (by kernel_rfl) (by kernel_rfl) (fun _ _ _ h => h) (Or.inl ⟨by kernel_rfl, ?_⟩) ?_
      rotate_left
      · (intro wS hwS; obtain ⟨hcS, hfS, hhS⟩ := bcell hwS; go_simp; try (first | (with_reducible rfl) | rw [if_pos (by omega)] | rw [if_neg (by omega)]))
      try simp only [Act.put, List.getElem_toArray, List.getElem_cons_succ, List.getElem_cons_zero, List.setIfInBounds_toArray, List.set_cons_zero, List.set_cons_succ]
      refine stage_read (i := 15) (v := ?_) rfl (by kernel_rfl) (by kernel_rfl) (by kernel_rfl) (by kernel_rfl) (by kernel_rfl) (by kernel_rfl) (fun _ _ _ h => h) (Or.inl ⟨by kernel_rfl, ?_⟩) ?_
      rotate_left
      · (intro wS hwS; obtain ⟨hcS, hfS, hhS⟩ := bcell hwS; go_simp; try (first | (with_reducible rfl) | rw [if_pos (by omega)] | rw [if_neg (by omega)]))
      try simp only [Act.put, List.getElem_toArray, List.getElem_cons_succ, List.getElem_cons_zero, List.setIfInBounds_toArray, List.set_cons_zero, List.set_cons_succ]
      refine stage_one 16 (by kernel_rfl) rfl (by kernel_rfl) (fun K hK => ?_)
      go_simp
      refine hks.mono ?_
      rintro z wa ⟨rfl, hba⟩
      refine hK.out _ _ (hba) ?_
      clear hK K
      try simp only [Act.put, List.getElem_toArray, List.getElem_cons_succ, List.getElem_cons_zero, List.setIfInBounds_toArray, List.set_cons_zero, List.set_cons_succ]
      replace hb := chain hb hba
      clear hst hst6 hks hba
      refine stage_read (i := 17) (v := ?_) rfl (by kernel_rfl) (by kernel_rfl) (by kernel_rfl) (by kernel_rfl) (by kernel_rfl) (by kernel_rfl) (fun _ _ _ h => h) (Or.inl ⟨by kernel_rfl, ?_⟩) ?_
      rotate_left
      · (intro wS hwS; obtain ⟨hcS, hfS, hhS⟩ := bcell hwS; go_simp; try (first | (with_reducible rfl) | rw [if_pos (by omega)] | rw [if_neg (by omega)]))
      try simp only [Act.put, List.getElem_toArray, List.getElem_cons_succ, List.getElem_cons_zero, List.setIfInBounds_toArray, List.set_cons_zero, List.set_cons_succ]
      refine stage_read (i := 18) (v := ?_) rfl (by kernel_rfl) (by kernel_rfl) (by kernel_rfl) (by kernel_rfl) (by kernel_rfl) (by kernel_rfl) (fun _ _ _ h => h) (Or.inl ⟨by kernel_rfl, ?_⟩) ?_
      rotate_left
      · (intro wS hwS; obtain ⟨hcS, hfS, hhS⟩ := bcell hwS; go_simp; try (first | (with_reducible rfl) | rw [if_pos (by omega)] | rw [if_neg (by omega)]))
      try simp only [Act.put, List.getElem_toArray, List.getElem_cons_succ, List.getElem_cons_zero, List.setIfInBounds_toArray, List.set_cons_zero, List.set_cons_succ]
      refine stage_read (i := 19) (v := ?_) rfl (by kernel_rfl) (by kernel_rfl) (by kernel_rfl) (by kernel_rfl) (by kernel_rfl) (by kernel_rfl) (fun _ _ _ h => h) (Or.inl ⟨by kernel_rfl, ?_⟩) ?_
      rotate_left
      · (intro wS hwS; obtain ⟨hcS, hfS, hhS⟩ := bcell hwS; go_simp; try (first | (with_reducible rfl) | rw [if_pos (by omega)] | rw [if_neg (by omega)]))
      try simp only [Act.put, List.getElem_toArray, List.getElem_cons_succ, List.getElem_cons_zero, List.setIfInBounds_toArray, List.set_cons_zero, List.set_cons_succ]
      refine stage_read (i := 20) (v := ?_) rfl (by kernel_rfl) (by kernel_rfl) (by kernel_rfl) (by kernel_rfl) (by kernel_rfl) (by kernel_rfl) (fun _ _ _ h => h) (Or.inl ⟨by kernel_rfl, ?_⟩) ?_
      rotate_left
      · (intro wS hwS; obtain ⟨hcS, hfS, hhS⟩ := bcell hwS; go_simp; try (first | (with_reducible rfl) | rw [if_pos (by omega)] | rw [if_neg (by omega)]))
      try simp only [Act.put, List.getElem_toArray, List.getElem_cons_succ, List.getElem_cons_zero, List.setIfInBounds_toArray, List.set_cons_zero, List.set_cons_succ]
      refine stage_read (i := 21) (v := ?_) rfl (by kernel_rfl) (by kernel_rfl) (by kernel_rfl) (by kernel_rfl) (by kernel_rfl) (by kernel_rfl) (fun _ _ _ h => h) (Or.inl ⟨by kernel_rfl, ?_⟩) ?_
      rotate_left
      · (intro wS hwS; obtain ⟨hcS, hfS, hhS⟩ := bcell hwS; go_simp; try (first | (with_reducible rfl) | rw [if_pos (by omega)] | rw [if_neg (by omega)]))
      try simp only [Act.put, List.getElem_toArray, List.getElem_cons_succ, List.getElem_cons_zero, List.setIfInBounds_toArray, List.set_cons_zero, List.set_cons_succ]
      refine stage_read (i := 22) (v := ?_) rfl (by kernel_rfl) (by kernel_rfl) (by kernel_rfl) (by kernel_rfl) (by kernel_rfl) (by kernel_rfl) (fun _ _ _ h => h) (Or.inl ⟨by kernel_rfl, ?_⟩) ?_
      rotate_left
      · (intro wS hwS; obtain ⟨hcS, hfS, hhS⟩ := bcell hwS; go_simp; try (first | (with_reducible rfl) | rw [if_pos (by omega)] | rw [if_neg (by omega)]))
      try simp only [Act.put, List.getElem_toArray, List.getElem_cons_succ, List.getElem_cons_zero, List.setIfInBounds_toArray, List.set_cons_zero, List.set_cons_succ]
      refine stage_one 23 (by kernel_rfl) rfl (by kernel_rfl) (fun K hK => ?_)
      go_simp
      refine (awake10 _).mono ?_
      rintro z wb ⟨rfl, hbb⟩
      refine hK.out _ _ (hbb) ?_
      clear hK K
      try simp only [Act.put, List.getElem_toArray, List.getElem_cons_succ, List.getElem_cons_zero, List.setIfInBounds_toArray, List.set_cons_zero, List.set_cons_succ]
      replace hb := chain hb hbb
      refine stage_read (i := 24) (v := ?_) rfl (by kernel_rfl) (by kernel_rfl) (by kernel_rfl) (by kernel_rfl) (by kernel_rfl) (by kernel_rfl) (fun _ _ _ h => h) (Or.inl ⟨by kernel_rfl, ?_⟩) ?_
      rotate_left
      · (intro wS hwS; obtain ⟨hcS, hfS, hhS⟩ := bcell hwS; go_simp; try (first | (with_reducible rfl) | rw [if_pos (by omega)] | rw [if_neg (by omega)]))
      try simp only [Act.put, List.getElem_toArray, List.getElem_cons_succ, List.getElem_cons_zero, List.setIfInBounds_toArray, List.set_cons_zero, List.set_cons_succ]
      refine stage_read (i := 25) (v := ?_) rfl (by kernel_rfl) (by kernel_rfl) (by kernel_rfl) (by kernel_rfl) (by kernel_rfl) (by kernel_rfl) (fun _ _ _ h => h) (Or.inl ⟨by kernel_rfl, ?_⟩) ?_
      rotate_left
      · (intro wS hwS; obtain ⟨hcS, hfS, hhS⟩ := bcell hwS; go_simp; try (first | (with_reducible rfl) | rw [if_pos (by omega)] | rw [if_neg (by omega)]))
      try simp only [Act.put, List.getElem_toArray, List.getElem_cons_succ, List.getElem_cons_zero, List.setIfInBounds_toArray, List.set_cons_zero, List.set_cons_succ]
      first | refine wpAnyT_done (by kernel_rfl) ?_ _ | refine wpAny_done (by kernel_rfl) ?_ _
      have HB := Lib.hid hb
      clear hb hbb
      go_wp2_with fail
      go_ret
      exact ⟨rfl, HB.out⟩
end Go.Proofs.Ytcpkaolfafeojaa
