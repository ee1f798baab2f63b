
/- The law KvSame: the Go function returns true, whatever was asked of both. -/
import Derived.Test.YtcpkaolfafeojaaKvAwake
import Derived.Test.YtcpkaolfafeojaaKvRDo
import Derived.Test.YtcpkaolfafeojaaKvEqual9
import Derived.Test.YtcpkaolfafeojaaOpenAsk
namespace Go.Proofs.Ytcpkaolfafeojaa
set_option linter.unusedVariables false
set_option linter.unusedSimpArgs false
open Go.RowKit
theorem cutA_keyS (o : Ask) : (cutA o).key.size ≤ 140 := cutS_size _ _
theorem big_maxS {n : Nat} (h : n ≤ 1000000) : n ≤ maxLen := by simp only [maxLen]; omega
theorem ksame_self {g b N : Nat} {rev : Int} {l : List It} (w : World) (hst : IsSt w g b N rev l) (hN : N ≤ 1000000) (hk : ∀ x ∈ l, x.k.size ≤ 1000) :
    Calls Try.prog 51 #[.pointer (some ⟨g, 0, none⟩), .pointer (some ⟨g, 0, none⟩)] w fun r w' => r = .returned (.bool true) ∧ Below w.heap.size w w' := by
  have h := ksame_any w hst hst hN hN hk hk
  simpa using h
set_option maxRecDepth 100000 in
set_option maxHeartbeats 4000000 in
theorem kvSame_walk {A A' : Option Addr} {n c n' c' : Nat} {L M : List Ask} (w : World) (hr : Rd w w.heap.size 6 A n c (L.flatMap Ask.row)) (hf : ∀ o ∈ L, o.fits) (hr2 : Rd w w.heap.size 6 A' n' c' (M.flatMap Ask.row)) (hf2 : ∀ o ∈ M, o.fits) :
    Calls Try.prog 13 #[.slice A n c, .slice A' n' c'] w fun r w' => r = .returned (.bool true) ∧ Below w.heap.size w w' := by
  have hl := Rd.count (row := Ask.row) (fun _ => rfl) (by omega) hr
  have hl2 := Rd.count (row := Ask.row) (fun _ => rfl) (by omega) hr2
  have hmax := hr.max
  have hle := hr.le
  have hmax2 := hr2.max
  have hle2 := hr2.le
  unfold maxLen at hmax hmax2
  subst hl
  subst hl2
  have HR := Lib.hid hr
  have HF := Lib.hid hf
  have HR2 := Lib.hid hr2
  have HF2 := Lib.hid hf2
  have HNEW := Lib.hid (new_st w)
  clear hr hf hr2 hf2
  go_enter Try.func13, Try.ntmps13
  go_upto_region 2 with (first | (((with_reducible refine (HNEW.out).mono ?_); rintro r w1 ⟨g, b, rfl, hst, hwb, hbg, hb⟩)) | (((with_reducible refine ((new_st w1)).mono ?_); rintro r w2 ⟨g', b', rfl, hst', hwb', hbg', hb'⟩)))
  have hg0 := hst.lt.1
  replace hst := hst.step hb'
  replace hb := chain hb hb'
  go_upto_region 3 with fail
  obtain ⟨h4, h4o, hb2⟩ := two_at w2 81 [.int .i64 0, .slice none 0 0] 81 [.int .i64 0, .slice none 0 0]
  obtain ⟨g7, hg7⟩ : ∃ g7, w2.heap.size = g7 := ⟨_, rfl⟩
  have hg1 : g' < g7 := by rw [← hg7]; exact hst'.lt.1
  have d1 : g < b' := by omega
  have hs2 : w2.heap.size + 2 ≤ (World.alloc (World.alloc w2 (.cells #[.int .i64 0, .slice none 0 0] 81)) (.cells #[.int .i64 0, .slice none 0 0] 81)).heap.size := by simp
  have HST := Lib.hid (hst.step hb2)
  have HST' := Lib.hid (hst'.step hb2)
  have HB := Lib.hid (chain hb hb2)
  clear hst hst' hb hb' hb2 HNEW
  generalize World.alloc (World.alloc w2 _) _ = w3 at *
  rw [hg7] at h4 h4o hs2 ⊢
  clear hg7 hg0 hwb'
  obtain ⟨B2, hB2⟩ : ∃ B2, B2 = g7 + 2 := ⟨_, rfl⟩
  have hBg : g7 + 1 < B2 := by omega
  have HSZ := Lib.hid (show B2 ≤ w3.heap.size by omega)
  have H4 := Lib.hid h4
  have H4O := Lib.hid h4o
  clear h4 h4o hB2 hs2
  go_wp2_with fail
  go_loopw [24] (fun i wr => ∃ (k N : Nat) (rev : Int) (l : List It) (A4 : Option Addr) (n4 c4 : Nat), i = .int .i64 (k : Int) ∧ k ≤ L.length ∧ N ≤ k ∧ N ≤ 12 ∧ IsSt wr g b N rev l ∧ Inv9 rev l N ∧ OwnRI wr B2 A4 n4 c4 l ∧ At wr g7 81 [.int .i64 rev, .slice A4 n4 c4] ∧
    IsSt wr g' b' 0 0 [] ∧ At wr (g7 + 1) 81 [.int .i64 0, .slice none 0 0] ∧ OwnRI wr B2 none 0 0 [] ∧ B2 ≤ wr.heap.size ∧ Below w.heap.size w wr) (fun i _ => L.length - (intOf i).toNat)
  case atStart => exact ⟨0, 0, 0, [], none, 0, 0, rfl, Nat.zero_le _, Nat.le_refl _, by omega, HST.out, Inv9.nil, OwnRI.nil, H4.out, HST'.out, H4O.out, OwnRI.nil, HSZ.out, HB.out⟩
  case round =>
    clear HST HST' HB HSZ H4 H4O
    obtain ⟨k, N, rev, l, A4, n4, c4, rfl, hk, hNk, hN, hst, hinv, hown, h4, hsto, h4o, howno, hB2, hb⟩ := hrel
    have hsz := hb.size
    have hn4 : n4 ≤ 1000000 := by have h1 := hown.len; have h2 := hst.mp.len_le; omega
    by_cases hlt : k < L.length
    ·
      obtain ⟨gs, off, e, hg, he⟩ := HR.out.elem (row := Ask.row) (fun _ => rfl) (by omega) (k := k) hlt
      subst e
      have hbc := bcell (Below.mono (B := w.heap.size) hb (Nat.le_refl _))
      have e0 := (hbc.1 _ _ hg).trans (he 0 _ rfl)
      have e1 := (hbc.1 _ _ hg).trans (he 1 _ rfl)
      have e2 := (hbc.1 _ _ hg).trans (he 2 _ rfl)
      have e3 := (hbc.1 _ _ hg).trans (he 3 _ rfl)
      have e4 := (hbc.1 _ _ hg).trans (he 4 _ rfl)
      have e5 := (hbc.1 _ _ hg).trans (he 5 _ rfl)
      rw [Nat.add_zero] at e0
      have hfo := HF.out _ (List.getElem_mem hlt)
      have hck := cutA_keyS L[k]
      have hci : (cutA L[k]).iff.size ≤ maxLen := hfo.2.2.2.2.1
      have HOU := Lib.hid (fun w => ours9_any L[k] w)
      clear he hbc hfo
      generalize cutA L[k] = p at *
      generalize L[k] = o at *
      obtain ⟨ki, kk, v, r, i, j⟩ := o
      unfold Ask.v Ask.cells at HOU
      simp only at HOU
      have HST := Lib.hid hst
      have HB := Lib.hid hb
      have HINV := Lib.hid hinv
      have HOW := Lib.hid hown
      have H4 := Lib.hid h4
      have HSO := Lib.hid hsto
      have H4O := Lib.hid h4o
      have HOO := Lib.hid howno
      clear hst hb hinv hown h4 hsto h4o howno
      go_upto_region 6 with fail
      obtain ⟨h7, hb2⟩ := one_at wr 40 [.int .i64 ki, .string kk, .string v, .int .i64 r, .string i, .int .i64 j]
      have hst := HST.out.step hb2
      have hb := chain HB.out hb2
      have hown := HOW.out.step hb2
      have h4 := H4.out.step hb2
      have hsto := HSO.out.step hb2
      have h4o := H4O.out.step hb2
      have howno := HOO.out.step hb2
      have hinv := HINV.out
      replace hB2 := Nat.le_trans hB2 hb2.size
      clear hb2 e0 e1 e2 e3 e4 e5 HST HB HOW H4 HSO H4O HOO
      generalize World.alloc _ _ = w2 at *
      generalize wr.heap.size = g9 at *
      obtain ⟨⟨x0, x1, x2, x3, x4, x5⟩, xf⟩ := at6 h7
      by_cases h12 : k < 12
      · have HRD := fun w2 (h : OwnRI w2 B2 A4 n4 c4 l) (hs : B2 ≤ w2.heap.size) => rdo_any A4 n4 c4 B2 l rev p w2 h hs hn4 hinv.lo (by have := hinv.hi; omega)
        have HDO := fun w2 (h : IsSt w2 g b N rev l) => do_any p w2 h (by omega) hinv.keys (big_maxS (by omega)) hci (plan_key rev l p (big_maxS (by omega)))
        have HI := Lib.hid (hinv.step (by omega) p)
        clear hck hci HINV hinv
        unfold DoR at HDO
        unfold RDoR at HRD
        generalize planP rev l p = pl at *
        generalize doSt rev l p = ds at *
        obtain ⟨pki, pk, pv, pr, pi, pj⟩ := p
        obtain ⟨⟨tc, tr, tv, ti⟩, ⟨ek, ev, er, eg⟩, tw⟩ := pl
        obtain ⟨rev', l'⟩ := ds
        unfold Ask.v Ask.cells at HDO HRD
        simp only at HDO HRD HI
        have HDO := Lib.hid HDO
        have HRD := Lib.hid HRD
        go_upto_region 8 with (((with_reducible refine calls_id ?_); refine (HOU.out _).mono ?_; rintro y w3 ⟨rfl, hb3⟩))
        obtain ⟨h8, h9, hb4⟩ := two_at w3 37 [.int .i64 pki, .string pk, .string pv, .int .i64 pr, .string pi, .int .i64 pj] 40 [.int .i64 pki, .string pk, .string pv, .int .i64 pr, .string pi, .int .i64 pj]
        replace hst := (hst.step hb3).step hb4
        replace hown := (hown.step hb3).step hb4
        replace h4 := (h4.step hb3).step hb4
        replace hsto := (hsto.step hb3).step hb4
        replace h4o := (h4o.step hb3).step hb4
        replace howno := (howno.step hb3).step hb4
        replace hb := chain (chain hb hb3) hb4
        have hg8 : B2 ≤ w3.heap.size := Nat.le_trans hB2 hb3.size
        replace hB2 := Nat.le_trans hB2 (Nat.le_trans hb3.size hb4.size)
        clear hb3 hb4 x0 x1 x2 x3 x4 x5 xf h7 HOU
        generalize World.alloc (World.alloc w3 _) _ = w4 at *
        obtain ⟨g8, hg8e⟩ : ∃ g8, w3.heap.size = g8 := ⟨_, rfl⟩
        rw [hg8e] at h8 h9 hg8 ⊢
        clear hg8e
        obtain ⟨⟨x0, x1, x2, x3, x4, x5⟩, xf⟩ := at6 h8
        have HDO := Lib.hid (HDO.out w4 hst)
        go_upto_region 9 with (((with_reducible refine calls_id ?_); refine HDO.out.mono ?_; rintro y w5 ⟨A5, n5, c5, rfl, _, hst5, hm5, _⟩))
        replace h4 := hm5.at h4 (by rintro (e | e) <;> omega)
        replace h9 := hm5.at h9 (by rintro (e | e) <;> omega)
        replace h4o := hm5.at h4o (by rintro (e | e) <;> omega)
        replace hsto := hsto.mod hm5 (fun o e => by rcases e with e | e <;> omega) (fun o e => by rcases e with e | e <;> omega)
        replace hown : OwnRI w5 B2 A4 n4 c4 l := own_mod hown hm5 (fun i o _ hi _ e => by rcases e with e | e <;> omega)
        replace howno := own_mod (show World.ownsRow _ _ _ _ _ _ _ from howno) hm5 (fun i o _ hi _ e => by rcases e with e | e <;> omega)
        replace hb := hb.trans (hm5.toBelow (fun i o hi e => by rcases e with e | e <;> omega) hb.size)
        replace hB2 := Nat.le_trans hB2 hm5.size
        clear x0 x1 x2 x3 x4 x5 xf hm5 hst h8 HDO
        obtain ⟨⟨x0, x1, x2, x3, x4, x5⟩, xf⟩ := at6 h9
        obtain ⟨⟨s0, s1⟩, sf⟩ := at2 h4
        have HRD := Lib.hid (HRD.out w5 hown hB2)
        go_wp2_with (((with_reducible refine calls_id ?_); refine HRD.out.mono ?_; rintro z w6 ⟨A6, n6, c6, A7, n7, c7, rfl, hown6, _, hb6⟩); (have h4' := h4.step hb6); (obtain ⟨⟨s0', s1'⟩, sf0', sf1'⟩ := at2 h4'))
        obtain ⟨hm1, hG1⟩ := At.many [(0, .int .i64 rev'), (1, .slice A6 n6 c6)] h4'
        dsimp only [setMany, setL, List.set] at hm1 hG1
        replace hst5 := (hst5.step hb6).only hG1 (by omega) (by omega)
        replace hsto := (hsto.step hb6).only hG1 (by omega) (by omega)
        replace h4o := (h4o.step hb6).only hG1 (by omega)
        replace hown6 : OwnRI _ B2 A6 n6 c6 l' := own_mod (show World.ownsRow _ _ _ _ _ _ _ from hown6) (grown_mod hG1) (fun i o _ hi _ e => absurd (Option.some.inj e) (by omega))
        replace howno := own_mod (own_below (show World.ownsRow _ _ _ _ _ _ _ from howno) hb6) (grown_mod hG1) (fun i o _ hi _ e => absurd (Option.some.inj e) (by omega))
        replace hb := chain hb hb6
        replace hb := hb.trans ((Below.refl w.heap.size _).grown hG1 hb.size (by intro i hi; injection hi with hi; omega))
        replace hB2 := Nat.le_trans hB2 (Nat.le_trans hb6.size hG1.size)
        clear x0 x1 x2 x3 x4 x5 xf s0 s1 sf s0' s1' sf0' sf1' hG1 h4 h4' h9 hb6 hown
        generalize World.setCell _ _ _ = w7 at *
        go_roundw
        case rel => exact ⟨k + 1, N + 1, rev', l', A6, n6, c6, by go_num, by omega, by omega, by omega, hst5, HI.out, hown6, hm1, hsto, h4o, howno, hB2, hb⟩
        case measure => simp [intOf]; omega
      · clear HOU h7
        go_wp2_with fail
        clear x0 x1 x2 x3 x4 x5 xf
        go_roundw
        case rel => exact ⟨k + 1, N, rev, l, A4, n4, c4, by go_num, by omega, by omega, by omega, hst, hinv, hown, h4, hsto, h4o, howno, hB2, hb⟩
        case measure => simp [intOf]; omega
    · have HST := Lib.hid hst
      have HINV := Lib.hid hinv
      have HOW := Lib.hid hown
      have H4 := Lib.hid h4
      have HSO := Lib.hid hsto
      have H4O := Lib.hid h4o
      have HOO := Lib.hid howno
      have HSZ := Lib.hid hB2
      have HB := Lib.hid hb
      clear hst hinv hown h4 hsto h4o howno hB2 hb hk hNk
      go_wp2_with fail
      go_loopw [48] (fun i wr => ∃ (k N2 : Nat) (rev2 : Int) (l2 : List It) (A5 : Option Addr) (n5 c5 : Nat), i = .int .i64 (k : Int) ∧ k ≤ M.length ∧ N2 ≤ k ∧ N2 ≤ 12 ∧ IsSt wr g' b' N2 rev2 l2 ∧ Inv9 rev2 l2 N2 ∧ OwnRI wr B2 A5 n5 c5 l2 ∧ At wr (g7 + 1) 81 [.int .i64 rev2, .slice A5 n5 c5] ∧
        IsSt wr g b N rev l ∧ At wr g7 81 [.int .i64 rev, .slice A4 n4 c4] ∧ OwnRI wr B2 A4 n4 c4 l ∧ B2 ≤ wr.heap.size ∧ Below w.heap.size w wr) (fun i _ => M.length - (intOf i).toNat)
      case atStart => exact ⟨0, 0, 0, [], none, 0, 0, rfl, Nat.zero_le _, Nat.le_refl _, by omega, HSO.out, Inv9.nil, OwnRI.nil, H4O.out, HST.out, H4.out, HOW.out, HSZ.out, HB.out⟩
      case round =>
        clear HST HOW H4 HSO H4O HOO HSZ HB
        have No := N
        have hinvo := HINV.out
        clear HINV
        have hNo := hN
        have hno := hn4
        clear hN hn4 hsz hlt No
        generalize N = No at *
        generalize rev = revo at *
        generalize l = lo at *
        generalize A4 = Ao at *
        generalize n4 = no at *
        generalize c4 = co at *
        obtain ⟨k, N, rev, l, A4, n4, c4, rfl, hk, hNk, hN, hst, hinv, hown, h4, hsto, h4o, howno, hB2, hb⟩ := hrel
        have hsz := hb.size
        have hn4 : n4 ≤ 1000000 := by have h1 := hown.len; have h2 := hst.mp.len_le; omega
        by_cases hlt : k < M.length
        ·
          obtain ⟨gs, off, e, hg, he⟩ := HR2.out.elem (row := Ask.row) (fun _ => rfl) (by omega) (k := k) hlt
          subst e
          have hbc := bcell (Below.mono (B := w.heap.size) hb (Nat.le_refl _))
          have e0 := (hbc.1 _ _ hg).trans (he 0 _ rfl)
          have e1 := (hbc.1 _ _ hg).trans (he 1 _ rfl)
          have e2 := (hbc.1 _ _ hg).trans (he 2 _ rfl)
          have e3 := (hbc.1 _ _ hg).trans (he 3 _ rfl)
          have e4 := (hbc.1 _ _ hg).trans (he 4 _ rfl)
          have e5 := (hbc.1 _ _ hg).trans (he 5 _ rfl)
          rw [Nat.add_zero] at e0
          have hfo := HF2.out _ (List.getElem_mem hlt)
          have hck := cutA_keyS M[k]
          have hci : (cutA M[k]).iff.size ≤ maxLen := hfo.2.2.2.2.1
          have HOU := Lib.hid (fun w => ours9_any M[k] w)
          clear he hbc hfo
          generalize cutA M[k] = p at *
          generalize M[k] = o at *
          obtain ⟨ki, kk, v, r, i, j⟩ := o
          unfold Ask.v Ask.cells at HOU
          simp only at HOU
          have HST := Lib.hid hst
          have HB := Lib.hid hb
          have HINV := Lib.hid hinv
          have HOW := Lib.hid hown
          have H4 := Lib.hid h4
          have HSO := Lib.hid hsto
          have H4O := Lib.hid h4o
          have HOO := Lib.hid howno
          clear hst hb hinv hown h4 hsto h4o howno
          go_upto_region 14 with fail
          obtain ⟨h7, hb2⟩ := one_at wr 40 [.int .i64 ki, .string kk, .string v, .int .i64 r, .string i, .int .i64 j]
          have hst := HST.out.step hb2
          have hb := chain HB.out hb2
          have hown := HOW.out.step hb2
          have h4 := H4.out.step hb2
          have hsto := HSO.out.step hb2
          have h4o := H4O.out.step hb2
          have howno := HOO.out.step hb2
          have hinv := HINV.out
          replace hB2 := Nat.le_trans hB2 hb2.size
          clear hb2 e0 e1 e2 e3 e4 e5 HST HB HOW H4 HSO H4O HOO
          generalize World.alloc _ _ = w2 at *
          generalize wr.heap.size = g9 at *
          obtain ⟨⟨x0, x1, x2, x3, x4, x5⟩, xf⟩ := at6 h7
          by_cases h12 : k < 12
          · have HRD := fun w2 (h : OwnRI w2 B2 A4 n4 c4 l) (hs : B2 ≤ w2.heap.size) => rdo_any A4 n4 c4 B2 l rev p w2 h hs hn4 hinv.lo (by have := hinv.hi; omega)
            have HDO := fun w2 (h : IsSt w2 g' b' N rev l) => do_any p w2 h (by omega) hinv.keys (big_maxS (by omega)) hci (plan_key rev l p (big_maxS (by omega)))
            have HI := Lib.hid (hinv.step (by omega) p)
            clear hck hci HINV hinv
            unfold DoR at HDO
            unfold RDoR at HRD
            generalize planP rev l p = pl at *
            generalize doSt rev l p = ds at *
            obtain ⟨pki, pk, pv, pr, pi, pj⟩ := p
            obtain ⟨⟨tc, tr, tv, ti⟩, ⟨ek, ev, er, eg⟩, tw⟩ := pl
            obtain ⟨rev', l'⟩ := ds
            unfold Ask.v Ask.cells at HDO HRD
            simp only at HDO HRD HI
            have HDO := Lib.hid HDO
            have HRD := Lib.hid HRD
            go_upto_region 16 with (((with_reducible refine calls_id ?_); refine (HOU.out _).mono ?_; rintro y w3 ⟨rfl, hb3⟩))
            obtain ⟨h8, h9, hb4⟩ := two_at w3 37 [.int .i64 pki, .string pk, .string pv, .int .i64 pr, .string pi, .int .i64 pj] 40 [.int .i64 pki, .string pk, .string pv, .int .i64 pr, .string pi, .int .i64 pj]
            replace hst := (hst.step hb3).step hb4
            replace hown := (hown.step hb3).step hb4
            replace h4 := (h4.step hb3).step hb4
            replace hsto := (hsto.step hb3).step hb4
            replace h4o := (h4o.step hb3).step hb4
            replace howno := (howno.step hb3).step hb4
            replace hb := chain (chain hb hb3) hb4
            have hg8 : B2 ≤ w3.heap.size := Nat.le_trans hB2 hb3.size
            replace hB2 := Nat.le_trans hB2 (Nat.le_trans hb3.size hb4.size)
            clear hb3 hb4 x0 x1 x2 x3 x4 x5 xf h7 HOU
            generalize World.alloc (World.alloc w3 _) _ = w4 at *
            obtain ⟨g8, hg8e⟩ : ∃ g8, w3.heap.size = g8 := ⟨_, rfl⟩
            rw [hg8e] at h8 h9 hg8 ⊢
            clear hg8e
            obtain ⟨⟨x0, x1, x2, x3, x4, x5⟩, xf⟩ := at6 h8
            have HDO := Lib.hid (HDO.out w4 hst)
            go_upto_region 17 with (((with_reducible refine calls_id ?_); refine HDO.out.mono ?_; rintro y w5 ⟨A5, n5, c5, rfl, _, hst5, hm5, _⟩))
            replace h4 := hm5.at h4 (by rintro (e | e) <;> omega)
            replace h9 := hm5.at h9 (by rintro (e | e) <;> omega)
            replace h4o := hm5.at h4o (by rintro (e | e) <;> omega)
            replace hsto := hsto.mod hm5 (fun o e => by rcases e with e | e <;> omega) (fun o e => by rcases e with e | e <;> omega)
            replace hown : OwnRI w5 B2 A4 n4 c4 l := own_mod hown hm5 (fun i o _ hi _ e => by rcases e with e | e <;> omega)
            replace howno := own_mod (show World.ownsRow _ _ _ _ _ _ _ from howno) hm5 (fun i o _ hi _ e => by rcases e with e | e <;> omega)
            replace hb := hb.trans (hm5.toBelow (fun i o hi e => by rcases e with e | e <;> omega) hb.size)
            replace hB2 := Nat.le_trans hB2 hm5.size
            clear x0 x1 x2 x3 x4 x5 xf hm5 hst h8 HDO
            obtain ⟨⟨x0, x1, x2, x3, x4, x5⟩, xf⟩ := at6 h9
            obtain ⟨⟨s0, s1⟩, sf⟩ := at2 h4
            have HRD := Lib.hid (HRD.out w5 hown hB2)
            go_wp2_with (((with_reducible refine calls_id ?_); refine HRD.out.mono ?_; rintro z w6 ⟨A6, n6, c6, A7, n7, c7, rfl, hown6, _, hb6⟩); (have h4' := h4.step hb6); (obtain ⟨⟨s0', s1'⟩, sf0', sf1'⟩ := at2 h4'))
            obtain ⟨hm1, hG1⟩ := At.many [(0, .int .i64 rev'), (1, .slice A6 n6 c6)] h4'
            dsimp only [setMany, setL, List.set] at hm1 hG1
            replace hst5 := (hst5.step hb6).only hG1 (by omega) (by omega)
            replace hsto := (hsto.step hb6).only hG1 (by omega) (by omega)
            replace h4o := (h4o.step hb6).only hG1 (by omega)
            replace hown6 : OwnRI _ B2 A6 n6 c6 l' := own_mod (show World.ownsRow _ _ _ _ _ _ _ from hown6) (grown_mod hG1) (fun i o _ hi _ e => absurd (Option.some.inj e) (by omega))
            replace howno := own_mod (own_below (show World.ownsRow _ _ _ _ _ _ _ from howno) hb6) (grown_mod hG1) (fun i o _ hi _ e => absurd (Option.some.inj e) (by omega))
            replace hb := chain hb hb6
            replace hb := hb.trans ((Below.refl w.heap.size _).grown hG1 hb.size (by intro i hi; injection hi with hi; omega))
            replace hB2 := Nat.le_trans hB2 (Nat.le_trans hb6.size hG1.size)
            clear x0 x1 x2 x3 x4 x5 xf s0 s1 sf s0' s1' sf0' sf1' hG1 h4 h4' h9 hb6 hown
            generalize World.setCell _ _ _ = w7 at *
            go_roundw
            case rel => exact ⟨k + 1, N + 1, rev', l', A6, n6, c6, by go_num, by omega, by omega, by omega, hst5, HI.out, hown6, hm1, hsto, h4o, howno, hB2, hb⟩
            case measure => simp [intOf]; omega
          · clear HOU h7
            go_wp2_with fail
            clear x0 x1 x2 x3 x4 x5 xf
            go_roundw
            case rel => exact ⟨k + 1, N, rev, l, A4, n4, c4, by go_num, by omega, by omega, by omega, hst, hinv, hown, h4, hsto, h4o, howno, hB2, hb⟩
            case measure => simp [intOf]; omega
        ·
          by_cases hrr : revo = rev
          · subst hrr
            by_cases hll : lo = l
            ·
              have hD : decide (lo = l) = true := decide_eq_true hll
              clear hll
              go_upto_region 19 with fail
              refine region_any (by kernel_rfl) ?_
              change wpAny _ _ _ _ _ _ _ (World.drew _)
              replace hst := hst.drew
              replace hsto := hsto.drew
              replace h4 := h4.drew
              replace h4o := h4o.drew
              replace hown := (show wr.drew.ownsRow _ _ _ _ _ _ from hown)
              replace howno := (show wr.drew.ownsRow _ _ _ _ _ _ from howno)
              have HB := Lib.hid hb.drew
              clear hb
              generalize World.drew _ = w6 at *
              obtain ⟨⟨s0, s1⟩, sf⟩ := at2 h4o
              obtain ⟨⟨t0, t1⟩, tf⟩ := at2 h4
              have l4 := h4.lt
              have l4o := h4o.lt
              refine stage 100000 ?_
              refine stage_read (i := 0) (v := ?_) rfl (by kernel_rfl) (by kernel_rfl) (by kernel_rfl) (by kernel_rfl) (by kernel_rfl) (by kernel_rfl) (fun _ _ _ h => h) (Or.inl ⟨by kernel_rfl, ?_⟩) ?_
              rotate_left
              · (intro wS hwS; obtain ⟨hcS, hfS, hhS⟩ := bcell hwS; go_simp; try (first | (with_reducible rfl) | rw [if_pos (by omega)] | rw [if_neg (by omega)]))
              try simp only [Act.put, List.getElem_toArray, List.getElem_cons_succ, List.getElem_cons_zero, List.setIfInBounds_toArray, List.set_cons_zero, List.set_cons_succ]
              refine stage_read (i := 1) (v := ?_) rfl (by kernel_rfl) (by kernel_rfl) (by kernel_rfl) (by kernel_rfl) (by kernel_rfl) (by kernel_rfl) (fun _ _ _ h => h) (Or.inl ⟨by kernel_rfl, ?_⟩) ?_
              rotate_left
              · (intro wS hwS; obtain ⟨hcS, hfS, hhS⟩ := bcell hwS; go_simp; try (first | (with_reducible rfl) | rw [if_pos (by omega)] | rw [if_neg (by omega)]))
              try simp only [Act.put, List.getElem_toArray, List.getElem_cons_succ, List.getElem_cons_zero, List.setIfInBounds_toArray, List.set_cons_zero, List.set_cons_succ]
              refine stage_read (i := 2) (v := ?_) rfl (by kernel_rfl) (by kernel_rfl) (by kernel_rfl) (by kernel_rfl) (by kernel_rfl) (by kernel_rfl) (fun _ _ _ h => h) (Or.inl ⟨by kernel_rfl, ?_⟩) ?_
              rotate_left
              · (intro wS hwS; obtain ⟨hcS, hfS, hhS⟩ := bcell hwS; go_simp; try (first | (with_reducible rfl) | rw [if_pos (by omega)] | rw [if_neg (by omega)]))
              try simp only [Act.put, List.getElem_toArray, List.getElem_cons_succ, List.getElem_cons_zero, List.setIfInBounds_toArray, List.set_cons_zero, List.set_cons_succ]
              refine stage_read (i := 3) (v := ?_) rfl (by kernel_rfl) (by kernel_rfl) (by kernel_rfl) (by kernel_rfl) (by kernel_rfl) (by kernel_rfl) (fun _ _ _ h => h) (Or.inl ⟨by kernel_rfl, ?_⟩) ?_
              rotate_left
              · (intro wS hwS; obtain ⟨hcS, hfS, hhS⟩ := bcell hwS; go_simp; try (first | (with_reducible rfl) | rw [if_pos (by omega)] | rw [if_neg (by omega)]))
              try simp only [Act.put, List.getElem_toArray, List.getElem_cons_succ, List.getElem_cons_zero, List.setIfInBounds_toArray, List.set_cons_zero, List.set_cons_succ]
              refine stage_read (i := 4) (v := ?_) rfl (by kernel_rfl) (by kernel_rfl) (by kernel_rfl) (by kernel_rfl) (by kernel_rfl) (by kernel_rfl) (fun _ _ _ h => h) (Or.inl ⟨by kernel_rfl, ?_⟩) ?_
              rotate_left
              · (intro wS hwS; obtain ⟨hcS, hfS, hhS⟩ := bcell hwS; go_simp; try (first | (with_reducible rfl) | rw [if_pos (by omega)] | rw [if_neg (by omega)]))
              try simp only [Act.put, List.getElem_toArray, List.getElem_cons_succ, List.getElem_cons_zero, List.setIfInBounds_toArray, List.set_cons_zero, List.set_cons_succ]
              refine stage_read (i := 5) (v := ?_) rfl (by kernel_rfl) (by kernel_rfl) (by kernel_rfl) (by kernel_rfl) (by kernel_rfl) (by kernel_rfl) (fun _ _ _ h => h) (Or.inl ⟨by kernel_rfl, ?_⟩) ?_
              rotate_left
              · (intro wS hwS; obtain ⟨hcS, hfS, hhS⟩ := bcell hwS; go_simp; try (first | (with_reducible rfl) | rw [if_pos (by omega)] | rw [if_neg (by omega)]))
              try simp only [Act.put, List.getElem_toArray, List.getElem_cons_succ, List.getElem_cons_zero, List.setIfInBounds_toArray, List.set_cons_zero, List.set_cons_succ]
              refine stage_read (i := 6) (v := ?_) rfl (by kernel_rfl) (by kernel_rfl) (by kernel_rfl) (by kernel_rfl) (by kernel_rfl) (by kernel_rfl) (fun _ _ _ h => h) (Or.inl ⟨by kernel_rfl, ?_⟩) ?_
              rotate_left
              · (intro wS hwS; obtain ⟨hcS, hfS, hhS⟩ := bcell hwS; go_simp; try (first | (with_reducible rfl) | rw [if_pos (by omega)] | rw [if_neg (by omega)]))
              try simp only [Act.put, List.getElem_toArray, List.getElem_cons_succ, List.getElem_cons_zero, List.setIfInBounds_toArray, List.set_cons_zero, List.set_cons_succ]
              refine stage_read (i := 7) (v := ?_) rfl (by kernel_rfl) (by kernel_rfl) (by kernel_rfl) (by kernel_rfl) (by kernel_rfl) (by kernel_rfl) (fun _ _ _ h => h) (Or.inl ⟨by kernel_rfl, ?_⟩) ?_
              rotate_left
              · (intro wS hwS; obtain ⟨hcS, hfS, hhS⟩ := bcell hwS; go_simp; try (first | (with_reducible rfl) | rw [if_pos (by omega)] | rw [if_neg (by omega)]))
              try simp only [Act.put, List.getElem_toArray, List.getElem_cons_succ, List.getElem_cons_zero, List.setIfInBounds_toArray, List.set_cons_zero, List.set_cons_succ]
              refine stage_read (i := 9) (v := ?_) rfl (by kernel_rfl) (by kernel_rfl) (by kernel_rfl) (by kernel_rfl) (by kernel_rfl) (by kernel_rfl) (fun _ _ _ h => h) (Or.inl ⟨by kernel_rfl, ?_⟩) ?_
              rotate_left
              · (intro wS hwS; obtain ⟨hcS, hfS, hhS⟩ := bcell hwS; go_simp; try (first | (with_reducible rfl) | rw [if_pos (by omega)] | rw [if_neg (by omega)]))
              try simp only [Act.put, List.getElem_toArray, List.getElem_cons_succ, List.getElem_cons_zero, List.setIfInBounds_toArray, List.set_cons_zero, List.set_cons_succ]
              refine stage_read (i := 10) (v := ?_) rfl (by kernel_rfl) (by kernel_rfl) (by kernel_rfl) (by kernel_rfl) (by kernel_rfl) (by kernel_rfl) (fun _ _ _ h => h) (Or.inl ⟨by kernel_rfl, ?_⟩) ?_
              rotate_left
              · (intro wS hwS; obtain ⟨hcS, hfS, hhS⟩ := bcell hwS; go_simp; try (first | (with_reducible rfl) | rw [if_pos (by omega)] | rw [if_neg (by omega)]))
              try simp only [Act.put, List.getElem_toArray, List.getElem_cons_succ, List.getElem_cons_zero, List.setIfInBounds_toArray, List.set_cons_zero, List.set_cons_succ]
              refine stage_one 8 (by kernel_rfl) rfl (by kernel_rfl) (fun K hK => ?_)
              go_simp
              refine (items_any Ao no co lo _ (OwnRI.rd howno) hno).mono ?_
              rintro z w7 ⟨A7, n7, c7, rfl, hown7, hb7⟩
              refine hK.out _ _ (hb7) ?_
              clear hK K
              try simp only [Act.put, List.getElem_toArray, List.getElem_cons_succ, List.getElem_cons_zero, List.setIfInBounds_toArray, List.set_cons_zero, List.set_cons_succ]
              replace hst := hst.step hb7
              replace hsto := hsto.step hb7
              replace h4 := h4.step hb7
              replace hown := OwnRI.step hown hb7
              have HB := Lib.hid (chain HB.out hb7)
              clear s0 s1 sf t0 t1 tf l4 l4o h4o howno hb7
              obtain ⟨⟨t0, t1⟩, tf⟩ := at2 h4
              have l4 := h4.lt

              refine stage_one 11 (by kernel_rfl) rfl (by kernel_rfl) (fun K hK => ?_)
              go_simp
              have hsg := sitemsg_any A7 A4 n7 c7 n4 c4 lo l _ (OwnI.rd hown7) (OwnRI.rd hown)
              rw [hD] at hsg
              refine hsg.mono ?_
              rintro z w8 ⟨rfl, hb8⟩
              refine hK.out _ _ (hb8) ?_
              clear hK K
              try simp only [Act.put, List.getElem_toArray, List.getElem_cons_succ, List.getElem_cons_zero, List.setIfInBounds_toArray, List.set_cons_zero, List.set_cons_succ]
              replace hst := hst.step hb8
              replace hsto := hsto.step hb8
              have HB := Lib.hid (chain HB.out hb8)
              refine stage_read (i := 12) (v := ?_) rfl (by kernel_rfl) (by kernel_rfl) (by kernel_rfl) (by kernel_rfl) (by kernel_rfl) (by kernel_rfl) (fun _ _ _ h => h) (Or.inl ⟨by kernel_rfl, ?_⟩) ?_
              rotate_left
              · (intro wS hwS; obtain ⟨hcS, hfS, hhS⟩ := bcell hwS; go_simp; try (first | (with_reducible rfl) | rw [if_pos (by omega)] | rw [if_neg (by omega)]))
              try simp only [Act.put, List.getElem_toArray, List.getElem_cons_succ, List.getElem_cons_zero, List.setIfInBounds_toArray, List.set_cons_zero, List.set_cons_succ]
              refine stage_read (i := 13) (v := ?_) rfl (by kernel_rfl) (by kernel_rfl) (by kernel_rfl) (by kernel_rfl) (by kernel_rfl) (by kernel_rfl) (fun _ _ _ h => h) (Or.inl ⟨by kernel_rfl, ?_⟩) ?_
              rotate_left
              · (intro wS hwS; obtain ⟨hcS, hfS, hhS⟩ := bcell hwS; go_simp; try (first | (with_reducible rfl) | rw [if_pos (by omega)] | rw [if_neg (by omega)]))
              try simp only [Act.put, List.getElem_toArray, List.getElem_cons_succ, List.getElem_cons_zero, List.setIfInBounds_toArray, List.set_cons_zero, List.set_cons_succ]
              first | refine wpAnyT_done (by kernel_rfl) ?_ _ | refine wpAny_done (by kernel_rfl) ?_ _
              clear t0 t1 tf l4 hown7 hsg hb8
              have howno := hown
              have h4o := h4
              have hk1 := ksame_any _ hsto hst (by omega) (by omega) hinvo.keys hinv.keys
              rw [hD, decide_eq_true rfl, Bool.true_and] at hk1
              have K1 := Lib.hid hk1
              clear hk1
              have K2 := Lib.hid (fun v (h : Below w8.heap.size w8 v) => ksame_self v (hsto.step h) (by omega) hinvo.keys)
              clear hst hsto hown howno h4 h4o
              go_wp2_with (first
                | (((with_reducible refine (K1.out).mono ?_); rintro z v1 ⟨rfl, hv1⟩))
                | (((with_reducible refine ((K2.out v1 hv1)).mono ?_); rintro z v2 ⟨rfl, hv2⟩))
                | (((with_reducible refine ((new_st v2)).mono ?_); rintro z v3 ⟨g5, b5, rfl, hst5, _, _, hv3⟩))
                | (((with_reducible refine ((ksame_nil v3 hst5 (by omega))).mono ?_); rintro z v4 ⟨rfl, hv4⟩))
                | (((with_reducible refine ((awake9_any v4)).mono ?_); rintro z v5 ⟨rfl, hv5⟩)))
              go_ret
              exact ⟨rfl, chain (chain (chain (chain (chain HB.out hv1) hv2) hv3) hv4) hv5⟩
            ·
              have hD : decide (lo = l) = false := decide_eq_false hll
              clear hll
              go_upto_region 19 with fail
              refine region_any (by kernel_rfl) ?_
              change wpAny _ _ _ _ _ _ _ (World.drew _)
              replace hst := hst.drew
              replace hsto := hsto.drew
              replace h4 := h4.drew
              replace h4o := h4o.drew
              replace hown := (show wr.drew.ownsRow _ _ _ _ _ _ from hown)
              replace howno := (show wr.drew.ownsRow _ _ _ _ _ _ from howno)
              have HB := Lib.hid hb.drew
              clear hb
              generalize World.drew _ = w6 at *
              obtain ⟨⟨s0, s1⟩, sf⟩ := at2 h4o
              obtain ⟨⟨t0, t1⟩, tf⟩ := at2 h4
              have l4 := h4.lt
              have l4o := h4o.lt
              refine stage 100000 ?_
              refine stage_read (i := 0) (v := ?_) rfl (by kernel_rfl) (by kernel_rfl) (by kernel_rfl) (by kernel_rfl) (by kernel_rfl) (by kernel_rfl) (fun _ _ _ h => h) (Or.inl ⟨by kernel_rfl, ?_⟩) ?_
              rotate_left
              · (intro wS hwS; obtain ⟨hcS, hfS, hhS⟩ := bcell hwS; go_simp; try (first | (with_reducible rfl) | rw [if_pos (by omega)] | rw [if_neg (by omega)]))
              try simp only [Act.put, List.getElem_toArray, List.getElem_cons_succ, List.getElem_cons_zero, List.setIfInBounds_toArray, List.set_cons_zero, List.set_cons_succ]
              refine stage_read (i := 1) (v := ?_) rfl (by kernel_rfl) (by kernel_rfl) (by kernel_rfl) (by kernel_rfl) (by kernel_rfl) (by kernel_rfl) (fun _ _ _ h => h) (Or.inl ⟨by kernel_rfl, ?_⟩) ?_
              rotate_left
              · (intro wS hwS; obtain ⟨hcS, hfS, hhS⟩ := bcell hwS; go_simp; try (first | (with_reducible rfl) | rw [if_pos (by omega)] | rw [if_neg (by omega)]))
              try simp only [Act.put, List.getElem_toArray, List.getElem_cons_succ, List.getElem_cons_zero, List.setIfInBounds_toArray, List.set_cons_zero, List.set_cons_succ]
              refine stage_read (i := 2) (v := ?_) rfl (by kernel_rfl) (by kernel_rfl) (by kernel_rfl) (by kernel_rfl) (by kernel_rfl) (by kernel_rfl) (fun _ _ _ h => h) (Or.inl ⟨by kernel_rfl, ?_⟩) ?_
              rotate_left
              · (intro wS hwS; obtain ⟨hcS, hfS, hhS⟩ := bcell hwS; go_simp; try (first | (with_reducible rfl) | rw [if_pos (by omega)] | rw [if_neg (by omega)]))
              try simp only [Act.put, List.getElem_toArray, List.getElem_cons_succ, List.getElem_cons_zero, List.setIfInBounds_toArray, List.set_cons_zero, List.set_cons_succ]
              refine stage_read (i := 3) (v := ?_) rfl (by kernel_rfl) (by kernel_rfl) (by kernel_rfl) (by kernel_rfl) (by kernel_rfl) (by kernel_rfl) (fun _ _ _ h => h) (Or.inl ⟨by kernel_rfl, ?_⟩) ?_
              rotate_left
              · (intro wS hwS; obtain ⟨hcS, hfS, hhS⟩ := bcell hwS; go_simp; try (first | (with_reducible rfl) | rw [if_pos (by omega)] | rw [if_neg (by omega)]))
              try simp only [Act.put, List.getElem_toArray, List.getElem_cons_succ, List.getElem_cons_zero, List.setIfInBounds_toArray, List.set_cons_zero, List.set_cons_succ]
              refine stage_read (i := 4) (v := ?_) rfl (by kernel_rfl) (by kernel_rfl) (by kernel_rfl) (by kernel_rfl) (by kernel_rfl) (by kernel_rfl) (fun _ _ _ h => h) (Or.inl ⟨by kernel_rfl, ?_⟩) ?_
              rotate_left
              · (intro wS hwS; obtain ⟨hcS, hfS, hhS⟩ := bcell hwS; go_simp; try (first | (with_reducible rfl) | rw [if_pos (by omega)] | rw [if_neg (by omega)]))
              try simp only [Act.put, List.getElem_toArray, List.getElem_cons_succ, List.getElem_cons_zero, List.setIfInBounds_toArray, List.set_cons_zero, List.set_cons_succ]
              refine stage_read (i := 5) (v := ?_) rfl (by kernel_rfl) (by kernel_rfl) (by kernel_rfl) (by kernel_rfl) (by kernel_rfl) (by kernel_rfl) (fun _ _ _ h => h) (Or.inl ⟨by kernel_rfl, ?_⟩) ?_
              rotate_left
              · (intro wS hwS; obtain ⟨hcS, hfS, hhS⟩ := bcell hwS; go_simp; try (first | (with_reducible rfl) | rw [if_pos (by omega)] | rw [if_neg (by omega)]))
              try simp only [Act.put, List.getElem_toArray, List.getElem_cons_succ, List.getElem_cons_zero, List.setIfInBounds_toArray, List.set_cons_zero, List.set_cons_succ]
              refine stage_read (i := 6) (v := ?_) rfl (by kernel_rfl) (by kernel_rfl) (by kernel_rfl) (by kernel_rfl) (by kernel_rfl) (by kernel_rfl) (fun _ _ _ h => h) (Or.inl ⟨by kernel_rfl, ?_⟩) ?_
              rotate_left
              · (intro wS hwS; obtain ⟨hcS, hfS, hhS⟩ := bcell hwS; go_simp; try (first | (with_reducible rfl) | rw [if_pos (by omega)] | rw [if_neg (by omega)]))
              try simp only [Act.put, List.getElem_toArray, List.getElem_cons_succ, List.getElem_cons_zero, List.setIfInBounds_toArray, List.set_cons_zero, List.set_cons_succ]
              refine stage_read (i := 7) (v := ?_) rfl (by kernel_rfl) (by kernel_rfl) (by kernel_rfl) (by kernel_rfl) (by kernel_rfl) (by kernel_rfl) (fun _ _ _ h => h) (Or.inl ⟨by kernel_rfl, ?_⟩) ?_
              rotate_left
              · (intro wS hwS; obtain ⟨hcS, hfS, hhS⟩ := bcell hwS; go_simp; try (first | (with_reducible rfl) | rw [if_pos (by omega)] | rw [if_neg (by omega)]))
              try simp only [Act.put, List.getElem_toArray, List.getElem_cons_succ, List.getElem_cons_zero, List.setIfInBounds_toArray, List.set_cons_zero, List.set_cons_succ]
              refine stage_read (i := 9) (v := ?_) rfl (by kernel_rfl) (by kernel_rfl) (by kernel_rfl) (by kernel_rfl) (by kernel_rfl) (by kernel_rfl) (fun _ _ _ h => h) (Or.inl ⟨by kernel_rfl, ?_⟩) ?_
              rotate_left
              · (intro wS hwS; obtain ⟨hcS, hfS, hhS⟩ := bcell hwS; go_simp; try (first | (with_reducible rfl) | rw [if_pos (by omega)] | rw [if_neg (by omega)]))
              try simp only [Act.put, List.getElem_toArray, List.getElem_cons_succ, List.getElem_cons_zero, List.setIfInBounds_toArray, List.set_cons_zero, List.set_cons_succ]
              refine stage_read (i := 10) (v := ?_) rfl (by kernel_rfl) (by kernel_rfl) (by kernel_rfl) (by kernel_rfl) (by kernel_rfl) (by kernel_rfl) (fun _ _ _ h => h) (Or.inl ⟨by kernel_rfl, ?_⟩) ?_
              rotate_left
              · (intro wS hwS; obtain ⟨hcS, hfS, hhS⟩ := bcell hwS; go_simp; try (first | (with_reducible rfl) | rw [if_pos (by omega)] | rw [if_neg (by omega)]))
              try simp only [Act.put, List.getElem_toArray, List.getElem_cons_succ, List.getElem_cons_zero, List.setIfInBounds_toArray, List.set_cons_zero, List.set_cons_succ]
              refine stage_one 8 (by kernel_rfl) rfl (by kernel_rfl) (fun K hK => ?_)
              go_simp
              refine (items_any Ao no co lo _ (OwnRI.rd howno) hno).mono ?_
              rintro z w7 ⟨A7, n7, c7, rfl, hown7, hb7⟩
              refine hK.out _ _ (hb7) ?_
              clear hK K
              try simp only [Act.put, List.getElem_toArray, List.getElem_cons_succ, List.getElem_cons_zero, List.setIfInBounds_toArray, List.set_cons_zero, List.set_cons_succ]
              replace hst := hst.step hb7
              replace hsto := hsto.step hb7
              replace h4 := h4.step hb7
              replace hown := OwnRI.step hown hb7
              have HB := Lib.hid (chain HB.out hb7)
              clear s0 s1 sf t0 t1 tf l4 l4o h4o howno hb7
              obtain ⟨⟨t0, t1⟩, tf⟩ := at2 h4
              have l4 := h4.lt

              refine stage_one 11 (by kernel_rfl) rfl (by kernel_rfl) (fun K hK => ?_)
              go_simp
              have hsg := sitemsg_any A7 A4 n7 c7 n4 c4 lo l _ (OwnI.rd hown7) (OwnRI.rd hown)
              rw [hD] at hsg
              refine hsg.mono ?_
              rintro z w8 ⟨rfl, hb8⟩
              refine hK.out _ _ (hb8) ?_
              clear hK K
              try simp only [Act.put, List.getElem_toArray, List.getElem_cons_succ, List.getElem_cons_zero, List.setIfInBounds_toArray, List.set_cons_zero, List.set_cons_succ]
              replace hst := hst.step hb8
              replace hsto := hsto.step hb8
              have HB := Lib.hid (chain HB.out hb8)
              refine stage_read (i := 12) (v := ?_) rfl (by kernel_rfl) (by kernel_rfl) (by kernel_rfl) (by kernel_rfl) (by kernel_rfl) (by kernel_rfl) (fun _ _ _ h => h) (Or.inl ⟨by kernel_rfl, ?_⟩) ?_
              rotate_left
              · (intro wS hwS; obtain ⟨hcS, hfS, hhS⟩ := bcell hwS; go_simp; try (first | (with_reducible rfl) | rw [if_pos (by omega)] | rw [if_neg (by omega)]))
              try simp only [Act.put, List.getElem_toArray, List.getElem_cons_succ, List.getElem_cons_zero, List.setIfInBounds_toArray, List.set_cons_zero, List.set_cons_succ]
              refine stage_read (i := 13) (v := ?_) rfl (by kernel_rfl) (by kernel_rfl) (by kernel_rfl) (by kernel_rfl) (by kernel_rfl) (by kernel_rfl) (fun _ _ _ h => h) (Or.inl ⟨by kernel_rfl, ?_⟩) ?_
              rotate_left
              · (intro wS hwS; obtain ⟨hcS, hfS, hhS⟩ := bcell hwS; go_simp; try (first | (with_reducible rfl) | rw [if_pos (by omega)] | rw [if_neg (by omega)]))
              try simp only [Act.put, List.getElem_toArray, List.getElem_cons_succ, List.getElem_cons_zero, List.setIfInBounds_toArray, List.set_cons_zero, List.set_cons_succ]
              first | refine wpAnyT_done (by kernel_rfl) ?_ _ | refine wpAny_done (by kernel_rfl) ?_ _
              clear t0 t1 tf l4 hown7 hsg hb8
              have howno := hown
              have h4o := h4
              have hk1 := ksame_any _ hsto hst (by omega) (by omega) hinvo.keys hinv.keys
              rw [hD, decide_eq_true rfl, Bool.true_and] at hk1
              have K1 := Lib.hid hk1
              clear hk1
              have K2 := Lib.hid (fun v (h : Below w8.heap.size w8 v) => ksame_self v (hsto.step h) (by omega) hinvo.keys)
              clear hst hsto hown howno h4 h4o
              go_wp2_with (first
                | (((with_reducible refine (K1.out).mono ?_); rintro z v1 ⟨rfl, hv1⟩))
                | (((with_reducible refine ((K2.out v1 hv1)).mono ?_); rintro z v2 ⟨rfl, hv2⟩))
                | (((with_reducible refine ((new_st v2)).mono ?_); rintro z v3 ⟨g5, b5, rfl, hst5, _, _, hv3⟩))
                | (((with_reducible refine ((ksame_nil v3 hst5 (by omega))).mono ?_); rintro z v4 ⟨rfl, hv4⟩))
                | (((with_reducible refine ((awake9_any v4)).mono ?_); rintro z v5 ⟨rfl, hv5⟩)))
              go_ret
              exact ⟨rfl, chain (chain (chain (chain (chain HB.out hv1) hv2) hv3) hv4) hv5⟩
          · have hrb : (revo == rev) = false := beq_eq_false_iff_ne.mpr hrr
            have hD : decide (revo = rev) = false := decide_eq_false hrr
            clear hrr
            go_upto_region 19 with fail
            refine region_any (by kernel_rfl) ?_
            change wpAny _ _ _ _ _ _ _ (World.drew _)
            replace hst := hst.drew
            replace hsto := hsto.drew
            replace h4 := h4.drew
            replace h4o := h4o.drew
            replace hown := (show wr.drew.ownsRow _ _ _ _ _ _ from hown)
            replace howno := (show wr.drew.ownsRow _ _ _ _ _ _ from howno)
            have HB := Lib.hid hb.drew
            clear hb
            generalize World.drew _ = w6 at *
            obtain ⟨⟨s0, s1⟩, sf⟩ := at2 h4o
            obtain ⟨⟨t0, t1⟩, tf⟩ := at2 h4
            have l4 := h4.lt
            have l4o := h4o.lt
            refine stage 100000 ?_
            refine stage_read (i := 0) (v := ?_) rfl (by kernel_rfl) (by kernel_rfl) (by kernel_rfl) (by kernel_rfl) (by kernel_rfl) (by kernel_rfl) (fun _ _ _ h => h) (Or.inl ⟨by kernel_rfl, ?_⟩) ?_
            rotate_left
            · (intro wS hwS; obtain ⟨hcS, hfS, hhS⟩ := bcell hwS; go_simp; try (first | (with_reducible rfl) | rw [if_pos (by omega)] | rw [if_neg (by omega)]))
            try simp only [Act.put, List.getElem_toArray, List.getElem_cons_succ, List.getElem_cons_zero, List.setIfInBounds_toArray, List.set_cons_zero, List.set_cons_succ]
            refine stage_read (i := 1) (v := ?_) rfl (by kernel_rfl) (by kernel_rfl) (by kernel_rfl) (by kernel_rfl) (by kernel_rfl) (by kernel_rfl) (fun _ _ _ h => h) (Or.inl ⟨by kernel_rfl, ?_⟩) ?_
            rotate_left
            · (intro wS hwS; obtain ⟨hcS, hfS, hhS⟩ := bcell hwS; go_simp; try (first | (with_reducible rfl) | rw [if_pos (by omega)] | rw [if_neg (by omega)]))
            try simp only [Act.put, List.getElem_toArray, List.getElem_cons_succ, List.getElem_cons_zero, List.setIfInBounds_toArray, List.set_cons_zero, List.set_cons_succ]
            refine stage_read (i := 2) (v := ?_) rfl (by kernel_rfl) (by kernel_rfl) (by kernel_rfl) (by kernel_rfl) (by kernel_rfl) (by kernel_rfl) (fun _ _ _ h => h) (Or.inl ⟨by kernel_rfl, ?_⟩) ?_
            rotate_left
            · (intro wS hwS; obtain ⟨hcS, hfS, hhS⟩ := bcell hwS; go_simp; try (first | (with_reducible rfl) | rw [if_pos (by omega)] | rw [if_neg (by omega)]))
            try simp only [Act.put, List.getElem_toArray, List.getElem_cons_succ, List.getElem_cons_zero, List.setIfInBounds_toArray, List.set_cons_zero, List.set_cons_succ]
            refine stage_read (i := 3) (v := ?_) rfl (by kernel_rfl) (by kernel_rfl) (by kernel_rfl) (by kernel_rfl) (by kernel_rfl) (by kernel_rfl) (fun _ _ _ h => h) (Or.inl ⟨by kernel_rfl, ?_⟩) ?_
            rotate_left
            · (intro wS hwS; obtain ⟨hcS, hfS, hhS⟩ := bcell hwS; go_simp; try (first | (with_reducible rfl) | rw [if_pos (by omega)] | rw [if_neg (by omega)]))
            try simp only [Act.put, List.getElem_toArray, List.getElem_cons_succ, List.getElem_cons_zero, List.setIfInBounds_toArray, List.set_cons_zero, List.set_cons_succ]
            refine stage_read (i := 4) (v := ?_) rfl (by kernel_rfl) (by kernel_rfl) (by kernel_rfl) (by kernel_rfl) (by kernel_rfl) (by kernel_rfl) (fun _ _ _ h => h) (Or.inl ⟨by kernel_rfl, ?_⟩) ?_
            rotate_left
            · (intro wS hwS; obtain ⟨hcS, hfS, hhS⟩ := bcell hwS; go_simp; try (first | (with_reducible rfl) | rw [if_pos (by omega)] | rw [if_neg (by omega)]))
            try simp only [Act.put, List.getElem_toArray, List.getElem_cons_succ, List.getElem_cons_zero, List.setIfInBounds_toArray, List.set_cons_zero, List.set_cons_succ]
            refine stage_read (i := 5) (v := ?_) rfl (by kernel_rfl) (by kernel_rfl) (by kernel_rfl) (by kernel_rfl) (by kernel_rfl) (by kernel_rfl) (fun _ _ _ h => h) (Or.inl ⟨by kernel_rfl, ?_⟩) ?_
            rotate_left
            · (intro wS hwS; obtain ⟨hcS, hfS, hhS⟩ := bcell hwS; go_simp; try (first | (with_reducible rfl) | rw [if_pos (by omega)] | rw [if_neg (by omega)]))
            try simp only [Act.put, List.getElem_toArray, List.getElem_cons_succ, List.getElem_cons_zero, List.setIfInBounds_toArray, List.set_cons_zero, List.set_cons_succ]
            refine stage_pure (i := 6) (v := undef) rfl (by kernel_rfl) (by kernel_rfl) (by kernel_rfl) (by kernel_rfl) (by kernel_rfl) (fun _ _ _ h => h) (Or.inr ⟨by kernel_rfl, rfl⟩) ?_
            try simp only [Act.put, List.getElem_toArray, List.getElem_cons_succ, List.getElem_cons_zero, List.setIfInBounds_toArray, List.set_cons_zero, List.set_cons_succ]
            refine stage_pure (i := 7) (v := undef) rfl (by kernel_rfl) (by kernel_rfl) (by kernel_rfl) (by kernel_rfl) (by kernel_rfl) (fun _ _ _ h => h) (Or.inr ⟨by kernel_rfl, rfl⟩) ?_
            try simp only [Act.put, List.getElem_toArray, List.getElem_cons_succ, List.getElem_cons_zero, List.setIfInBounds_toArray, List.set_cons_zero, List.set_cons_succ]
            refine stage_pure (i := 8) (v := undef) rfl (by kernel_rfl) (by kernel_rfl) (by kernel_rfl) (by kernel_rfl) (by kernel_rfl) (fun _ _ _ h => h) (Or.inr ⟨by kernel_rfl, rfl⟩) ?_
            try simp only [Act.put, List.getElem_toArray, List.getElem_cons_succ, List.getElem_cons_zero, List.setIfInBounds_toArray, List.set_cons_zero, List.set_cons_succ]
            refine stage_pure (i := 9) (v := undef) rfl (by kernel_rfl) (by kernel_rfl) (by kernel_rfl) (by kernel_rfl) (by kernel_rfl) (fun _ _ _ h => h) (Or.inr ⟨by kernel_rfl, rfl⟩) ?_
            try simp only [Act.put, List.getElem_toArray, List.getElem_cons_succ, List.getElem_cons_zero, List.setIfInBounds_toArray, List.set_cons_zero, List.set_cons_succ]
            refine stage_pure (i := 10) (v := undef) rfl (by kernel_rfl) (by kernel_rfl) (by kernel_rfl) (by kernel_rfl) (by kernel_rfl) (fun _ _ _ h => h) (Or.inr ⟨by kernel_rfl, rfl⟩) ?_
            try simp only [Act.put, List.getElem_toArray, List.getElem_cons_succ, List.getElem_cons_zero, List.setIfInBounds_toArray, List.set_cons_zero, List.set_cons_succ]
            refine stage_pure (i := 11) (v := undef) rfl (by kernel_rfl) (by kernel_rfl) (by kernel_rfl) (by kernel_rfl) (by kernel_rfl) (fun _ _ _ h => h) (Or.inr ⟨by kernel_rfl, rfl⟩) ?_
            try simp only [Act.put, List.getElem_toArray, List.getElem_cons_succ, List.getElem_cons_zero, List.setIfInBounds_toArray, List.set_cons_zero, List.set_cons_succ]
            refine stage_read (i := 12) (v := ?_) rfl (by kernel_rfl) (by kernel_rfl) (by kernel_rfl) (by kernel_rfl) (by kernel_rfl) (by kernel_rfl) (fun _ _ _ h => h) (Or.inl ⟨by kernel_rfl, ?_⟩) ?_
            rotate_left
            · (intro wS hwS; obtain ⟨hcS, hfS, hhS⟩ := bcell hwS; go_simp; try (first | (with_reducible rfl) | rw [if_pos (by omega)] | rw [if_neg (by omega)]))
            try simp only [Act.put, List.getElem_toArray, List.getElem_cons_succ, List.getElem_cons_zero, List.setIfInBounds_toArray, List.set_cons_zero, List.set_cons_succ]
            refine stage_read (i := 13) (v := ?_) rfl (by kernel_rfl) (by kernel_rfl) (by kernel_rfl) (by kernel_rfl) (by kernel_rfl) (by kernel_rfl) (fun _ _ _ h => h) (Or.inl ⟨by kernel_rfl, ?_⟩) ?_
            rotate_left
            · (intro wS hwS; obtain ⟨hcS, hfS, hhS⟩ := bcell hwS; go_simp; try (first | (with_reducible rfl) | rw [if_pos (by omega)] | rw [if_neg (by omega)]))
            try simp only [Act.put, List.getElem_toArray, List.getElem_cons_succ, List.getElem_cons_zero, List.setIfInBounds_toArray, List.set_cons_zero, List.set_cons_succ]
            first | refine wpAnyT_done (by kernel_rfl) ?_ _ | refine wpAny_done (by kernel_rfl) ?_ _
            clear s0 s1 sf t0 t1 tf l4 l4o
            have hk1 := ksame_any _ hsto hst (by omega) (by omega) hinvo.keys hinv.keys
            rw [hD, Bool.false_and] at hk1
            have K1 := Lib.hid hk1
            clear hk1
            have K2 := Lib.hid (fun v (h : Below w6.heap.size w6 v) => ksame_self v (hsto.step h) (by omega) hinvo.keys)
            clear hst hsto hown howno h4 h4o
            go_wp2_with (first
              | (((with_reducible refine (K1.out).mono ?_); rintro z v1 ⟨rfl, hv1⟩))
              | (((with_reducible refine ((K2.out v1 hv1)).mono ?_); rintro z v2 ⟨rfl, hv2⟩))
              | (((with_reducible refine ((new_st v2)).mono ?_); rintro z v3 ⟨g5, b5, rfl, hst5, _, _, hv3⟩))
              | (((with_reducible refine ((ksame_nil v3 hst5 (by omega))).mono ?_); rintro z v4 ⟨rfl, hv4⟩))
              | (((with_reducible refine ((awake9_any v4)).mono ?_); rintro z v5 ⟨rfl, hv5⟩)))
            go_ret
            exact ⟨rfl, chain (chain (chain (chain (chain HB.out hv1) hv2) hv3) hv4) hv5⟩
end Go.Proofs.Ytcpkaolfafeojaa
