
/- The law KvGuards: the Go function returns true, whatever was asked, whatever the guard. -/
import Derived.Test.YtcpkaolfafeojaaKvAwake
import Derived.Test.YtcpkaolfafeojaaKvGuardPure
import Derived.Test.YtcpkaolfafeojaaKvRDo
import Derived.Test.YtcpkaolfafeojaaKvSame9
import Derived.Test.YtcpkaolfafeojaaOpenAsk
namespace Go.Proofs.Ytcpkaolfafeojaa
set_option linter.unusedVariables false
set_option linter.unusedSimpArgs false
open Go.RowKit
theorem cutA_keyG (o : Ask) : (cutA o).key.size ≤ 140 := cutS_size _ _
theorem big_maxG {n : Nat} (h : n ≤ 1000000) : n ≤ maxLen := by simp only [maxLen]; omega
theorem at_not {w : World} {g : Nat} {t e : TypeId} {cs : List Value} {o : Obj} (h : At w g t cs) (ho : w.heap[g]? = some o) (hI : IsT e o) (hne : t ≠ e) : False := by
  unfold At at h
  rw [h] at ho
  injection ho with ho
  subst ho
  exact hne hI
set_option maxRecDepth 100000 in
set_option maxHeartbeats 4000000 in
theorem kvGuards_walk {A : Option Addr} {n c : Nat} {L : List Ask} {o1 : Ask} {gi : ByteArray} {gj : Int} (w : World) (hr : Rd w w.heap.size 6 A n c (L.flatMap Ask.row)) (hf : ∀ o ∈ L, o.fits) (hf1 : o1.fits) (hgi : gi.size ≤ maxLen) :
    Calls Try.prog 9 #[.slice A n c, o1.v, .string gi, .int .i64 gj] w fun r w' => r = .returned (.bool true) ∧ Below w.heap.size w w' := by
  have hl := Rd.count (row := Ask.row) (fun _ => rfl) (by omega) hr
  have hmax := hr.max
  have hle := hr.le
  unfold maxLen at hmax
  subst hl
  have HR := Lib.hid hr
  have HF := Lib.hid hf
  have HOO := Lib.hid (fun w => ours9_any o1 w)
  have hck1 := cutA_keyG o1
  have hci1 : (cutA o1).iff.size ≤ maxLen := hf1.2.2.2.2.1
  generalize cutA o1 = p1 at *
  obtain ⟨oki, okk, ov, orr, oi, oj⟩ := o1
  obtain ⟨pki, pk, pv, pr, pi, pj⟩ := p1
  unfold Ask.v Ask.cells at *
  simp only at HOO hck1 hci1 ⊢
  clear hr hf hf1
  obtain ⟨h5, hbx⟩ := one_at w 40 [.int .i64 oki, .string okk, .string ov, .int .i64 orr, .string oi, .int .i64 oj]
  go_enter Try.func9, Try.ntmps9
  go_upto_region 1 with fail
  have hsx : w.heap.size < (World.alloc w (.cells #[.int .i64 oki, .string okk, .string ov, .int .i64 orr, .string oi, .int .i64 oj] 40)).heap.size := by simp
  generalize World.alloc w _ = w0 at *
  have HNEW := Lib.hid (new_st w0)
  go_upto_region 2 with (((with_reducible refine calls_id ?_); refine HNEW.out.mono ?_; rintro r w1 ⟨g, b, rfl, hst, hwb, hbg, hb⟩))
  obtain ⟨h4, hb2⟩ := one_at w1 81 [.int .i64 0, .slice none 0 0]
  obtain ⟨g4, hg4⟩ : ∃ g4, w1.heap.size = g4 := ⟨_, rfl⟩
  have hg1 : g < g4 := by rw [← hg4]; exact hst.lt.1
  have hb1 : b < g4 := by omega
  have hwx : w.heap.size < b := by omega
  have hs2 : w1.heap.size + 1 ≤ (World.alloc w1 (.cells #[.int .i64 0, .slice none 0 0] 81)).heap.size := by simp
  have HST := Lib.hid (hst.step hb2)
  have H5 := Lib.hid ((h5.step hb).step hb2)
  have HB := Lib.hid (chain (chain hbx hb) hb2)
  clear hst hb hb2 HNEW h5 hbx
  generalize World.alloc w1 _ = w2 at *
  rw [hg4] at h4 hs2 ⊢
  clear hg4
  obtain ⟨B2, hB2⟩ : ∃ B2, B2 = g4 + 1 := ⟨_, rfl⟩
  have hBg : g4 < B2 := by omega
  have HSZ := Lib.hid (show B2 ≤ w2.heap.size by omega)
  have H4 := Lib.hid h4
  clear h4 hB2 hs2 hsx hwb
  go_wp2_with fail
  go_loopw [25] (fun i wr => ∃ (k N : Nat) (rev : Int) (l : List It) (A4 : Option Addr) (n4 c4 : Nat), i = .int .i64 (k : Int) ∧ k ≤ L.length ∧ N ≤ k ∧ N ≤ 12 ∧ IsSt wr g b N rev l ∧ Inv9 rev l N ∧ OwnRI wr B2 A4 n4 c4 l ∧ At wr g4 81 [.int .i64 rev, .slice A4 n4 c4] ∧ At wr w.heap.size 40 [.int .i64 oki, .string okk, .string ov, .int .i64 orr, .string oi, .int .i64 oj] ∧ B2 ≤ wr.heap.size ∧ Below w.heap.size w wr) (fun i _ => L.length - (intOf i).toNat)
  case atStart => exact ⟨0, 0, 0, [], none, 0, 0, rfl, Nat.zero_le _, Nat.le_refl _, by omega, HST.out, Inv9.nil, OwnRI.nil, H4.out, H5.out, HSZ.out, HB.out⟩
  case round =>
    clear HST HB HSZ H4 H5
    obtain ⟨k, N, rev, l, A4, n4, c4, rfl, hk, hNk, hN, hst, hinv, hown, h4, h5, hB2, hb⟩ := hrel
    have hsz := hb.size
    have hn4 : n4 ≤ 1000000 := by have h1 := hown.len; have h2 := hst.mp.len_le; omega
    by_cases hlt : k < L.length
    · obtain ⟨gs, off, e, hg, he⟩ := HR.out.elem (row := Ask.row) (fun _ => rfl) (by omega) (k := k) hlt
      subst e
      have hbc := bcell (Below.mono (B := w.heap.size) hb (Nat.le_refl _))
      have e0 := (hbc.1 _ _ hg).trans (he 0 _ rfl)
      have e1 := (hbc.1 _ _ hg).trans (he 1 _ rfl)
      have e2 := (hbc.1 _ _ hg).trans (he 2 _ rfl)
      have e3 := (hbc.1 _ _ hg).trans (he 3 _ rfl)
      have e4 := (hbc.1 _ _ hg).trans (he 4 _ rfl)
      have e5 := (hbc.1 _ _ hg).trans (he 5 _ rfl)
      rw [Nat.add_zero] at e0
      have hfo := HF.out _ (List.getElem_mem hlt)
      have hck := cutA_keyG L[k]
      have hci : (cutA L[k]).iff.size ≤ maxLen := hfo.2.2.2.2.1
      have HOU := Lib.hid (fun w => ours9_any L[k] w)
      clear he hbc hfo HOO hck1 hci1
      generalize cutA L[k] = p at *
      generalize L[k] = o at *
      obtain ⟨ki, kk, v, r, i, j⟩ := o
      unfold Ask.v Ask.cells at HOU
      simp only at HOU
      have HST := Lib.hid hst
      have HB := Lib.hid hb
      have HINV := Lib.hid hinv
      have HOW := Lib.hid hown
      have H4 := Lib.hid h4
      have H5 := Lib.hid h5
      clear hst hb hinv hown h4 h5
      go_upto_region 5 with fail
      obtain ⟨h7, hb2⟩ := one_at wr 40 [.int .i64 ki, .string kk, .string v, .int .i64 r, .string i, .int .i64 j]
      have hst := HST.out.step hb2
      have hb := chain HB.out hb2
      have hown := HOW.out.step hb2
      have h4 := H4.out.step hb2
      have h5 := H5.out.step hb2
      have hinv := HINV.out
      replace hB2 := Nat.le_trans hB2 hb2.size
      clear hb2 e0 e1 e2 e3 e4 e5 HST HB HOW H4 H5
      generalize World.alloc _ _ = w2 at *
      generalize wr.heap.size = g7 at *
      obtain ⟨⟨x0, x1, x2, x3, x4, x5⟩, xf⟩ := at6 h7
      by_cases h12 : k < 12
      · have HRD := fun w2 (h : OwnRI w2 B2 A4 n4 c4 l) (hs : B2 ≤ w2.heap.size) => rdo_any A4 n4 c4 B2 l rev p w2 h hs hn4 hinv.lo (by have := hinv.hi; omega)
        have HDO := fun w2 (h : IsSt w2 g b N rev l) => do_any p w2 h (by omega) hinv.keys (big_maxG (by omega)) hci (plan_key rev l p (big_maxG (by omega)))
        have HI := Lib.hid (hinv.step (by omega) p)
        clear hck hci HINV hinv
        unfold DoR at HDO
        unfold RDoR at HRD
        generalize planP rev l p = pl at *
        generalize doSt rev l p = ds at *
        obtain ⟨pki, pk, pv, pr, pi, pj⟩ := p
        obtain ⟨⟨tc, tr, tv, ti⟩, ⟨ek, ev, er, eg⟩, tw⟩ := pl
        obtain ⟨rev', l'⟩ := ds
        unfold Ask.v Ask.cells at HDO HRD
        simp only at HDO HRD HI
        have HDO := Lib.hid HDO
        have HRD := Lib.hid HRD
        go_upto_region 7 with (((with_reducible refine calls_id ?_); refine (HOU.out _).mono ?_; rintro y w3 ⟨rfl, hb3⟩))
        obtain ⟨h8, h9, hb4⟩ := two_at w3 37 [.int .i64 pki, .string pk, .string pv, .int .i64 pr, .string pi, .int .i64 pj] 40 [.int .i64 pki, .string pk, .string pv, .int .i64 pr, .string pi, .int .i64 pj]
        replace hst := (hst.step hb3).step hb4
        replace hown := (hown.step hb3).step hb4
        replace h4 := (h4.step hb3).step hb4
        replace h5 := (h5.step hb3).step hb4
        replace hb := chain (chain hb hb3) hb4
        have hg8 : B2 ≤ w3.heap.size := Nat.le_trans hB2 hb3.size
        replace hB2 := Nat.le_trans hB2 (Nat.le_trans hb3.size hb4.size)
        clear hb3 hb4 x0 x1 x2 x3 x4 x5 xf h7 HOU
        generalize World.alloc (World.alloc w3 _) _ = w4 at *
        obtain ⟨g8, hg8e⟩ : ∃ g8, w3.heap.size = g8 := ⟨_, rfl⟩
        rw [hg8e] at h8 h9 hg8 ⊢
        clear hg8e
        obtain ⟨⟨x0, x1, x2, x3, x4, x5⟩, xf⟩ := at6 h8
        have HDO := Lib.hid (HDO.out w4 hst)
        go_upto_region 8 with (((with_reducible refine calls_id ?_); refine HDO.out.mono ?_; rintro y w5 ⟨A5, n5, c5, rfl, _, hst5, hm5, _⟩))
        replace h4 := hm5.at h4 (by rintro (e | e) <;> omega)
        replace h5 := hm5.at h5 (by rintro (e | e) <;> omega)
        replace h9 := hm5.at h9 (by rintro (e | e) <;> omega)
        replace hown : OwnRI w5 B2 A4 n4 c4 l := own_mod hown hm5 (fun i o _ hi _ e => by rcases e with e | e <;> omega)
        replace hb := hb.trans (hm5.toBelow (fun i o hi e => by rcases e with e | e <;> omega) hb.size)
        replace hB2 := Nat.le_trans hB2 hm5.size
        clear x0 x1 x2 x3 x4 x5 xf hm5 hst h8 HDO
        obtain ⟨⟨x0, x1, x2, x3, x4, x5⟩, xf⟩ := at6 h9
        obtain ⟨⟨s0, s1⟩, sf⟩ := at2 h4
        have HRD := Lib.hid (HRD.out w5 hown hB2)
        go_wp2_with (((with_reducible refine calls_id ?_); refine HRD.out.mono ?_; rintro z w6 ⟨A6, n6, c6, A7, n7, c7, rfl, hown6, _, hb6⟩); (have h4' := h4.step hb6); (obtain ⟨⟨s0', s1'⟩, sf0', sf1'⟩ := at2 h4'))
        obtain ⟨hm1, hG1⟩ := At.many [(0, .int .i64 rev'), (1, .slice A6 n6 c6)] h4'
        dsimp only [setMany, setL, List.set] at hm1 hG1
        replace hst5 := (hst5.step hb6).only hG1 (by omega) (by omega)
        replace h5 := (h5.step hb6).only hG1 (by omega)
        replace hown6 : OwnRI _ B2 A6 n6 c6 l' := own_mod (show World.ownsRow _ _ _ _ _ _ _ from hown6) (grown_mod hG1) (fun i o _ hi _ e => absurd (Option.some.inj e) (by omega))
        replace hb := chain hb hb6
        replace hb := hb.trans ((Below.refl w.heap.size _).grown hG1 hb.size (by intro i hi; injection hi with hi; omega))
        replace hB2 := Nat.le_trans hB2 (Nat.le_trans hb6.size hG1.size)
        clear x0 x1 x2 x3 x4 x5 xf s0 s1 sf s0' s1' sf0' sf1' hG1 h4 h4' h9 hb6 hown
        generalize World.setCell _ _ _ = w7 at *
        go_roundw
        case rel => exact ⟨k + 1, N + 1, rev', l', A6, n6, c6, by go_num, by omega, by omega, by omega, hst5, HI.out, hown6, hm1, h5, hB2, hb⟩
        case measure => simp [intOf]; omega
      · clear HOU h7
        go_wp2_with fail
        clear x0 x1 x2 x3 x4 x5 xf
        go_roundw
        case rel => exact ⟨k + 1, N, rev, l, A4, n4, c4, by go_num, by omega, by omega, by omega, hst, hinv, hown, h4, h5, hB2, hb⟩
        case measure => simp [intOf]; omega
    · obtain ⟨⟨x0, x1, x2, x3, x4, x5⟩, xf⟩ := at6 h5
      have hRP := fun w2 (h : RdI w2 w2.heap.size A4 n4 c4 l) => rplan_any A4 n4 c4 l rev ⟨pki, pk, pv, pr, ⟨#[]⟩, pj⟩ w2 h hn4
      have hDO := fun (a : ByteArray) (ha : a.size ≤ maxLen) w2 (h : IsSt w2 g b N rev l) => do_any ⟨pki, pk, pv, pr, a, gj⟩ w2 h (by omega) hinv.keys (big_maxG (show pk.size ≤ 1000000 by omega)) ha (plan_key rev l _ (big_maxG (show pk.size ≤ 1000000 by omega)))
      have hkeys := hinv.keys
      have hGS := fun (a : ByteArray) h => guard_same (rev := rev) (l := l) (ki := pki) (k := pk) (v := pv) (a := a) (r := pr) (j := gj) (j0 := pj) h
      have hGN := fun (a : ByteArray) h1 h2 h3 => guard_no (rev := rev) (l := l) (ki := pki) (k := pk) (v := pv) (a := a) (r := pr) (j := gj) (j0 := pj) h1 h2 h3
      have hGT := fun (a : ByteArray) => guard_st (rev := rev) (l := l) (o := ⟨pki, pk, pv, pr, a, gj⟩)
      unfold RPlanR at hRP
      unfold DoR at hDO
      unfold Ask.v Ask.cells at hRP hDO
      generalize hp0 : planP rev l ⟨pki, pk, pv, pr, ⟨#[]⟩, pj⟩ = pl0 at *
      clear hp0
      obtain ⟨⟨tc, tr, tv, ti⟩, ⟨ek, ev, er, eg⟩, tw⟩ := pl0
      simp only at hRP hDO hGS hGN
      have HRP := Lib.hid hRP
      have HDO := Lib.hid hDO
      have HGS := Lib.hid hGS
      have HGN := Lib.hid hGN
      have HGT := Lib.hid hGT
      have HKS := Lib.hid hkeys
      clear hRP hDO hGS hGN hGT hinv hkeys
      by_cases hcut : gi.size ≤ 140
      · have HA := Lib.hid (show gi.size ≤ maxLen from hgi)
        have hcut2 : ¬ 140 < gi.size := by omega
        generalize gi = a at *
        go_upto_region 13 with (((with_reducible refine calls_id ?_); refine (HOO.out _).mono ?_; rintro y w3 ⟨rfl, hb3⟩))
        obtain ⟨h8, h9, hb4⟩ := two_at w3 37 [.int .i64 pki, .string pk, .string pv, .int .i64 pr, .string pi, .int .i64 pj] 40 [.int .i64 pki, .string pk, .string pv, .int .i64 pr, .string pi, .int .i64 pj]
        replace hst := (hst.step hb3).step hb4
        replace hown := (hown.step hb3).step hb4
        replace h4 := (h4.step hb3).step hb4
        replace hb := chain (chain hb hb3) hb4
        have hg8 : B2 ≤ w3.heap.size := Nat.le_trans hB2 hb3.size
        replace hB2 := Nat.le_trans hB2 (Nat.le_trans hb3.size hb4.size)
        clear hb3 hb4 x0 x1 x2 x3 x4 x5 xf h5 HOO
        generalize World.alloc (World.alloc w3 _) _ = w4 at *
        obtain ⟨g8, hg8e⟩ : ∃ g8, w3.heap.size = g8 := ⟨_, rfl⟩
        rw [hg8e] at h8 h9 hg8 ⊢
        clear hg8e
        obtain ⟨⟨x0, x1, x2, x3, x4, x5⟩, y0, y1, y2, y3, y4, y5⟩ := at6 h8
        obtain ⟨⟨z0, z1, z2, z3, z4, z5⟩, q0, q1, q2, q3, q4, q5⟩ := at6 h9
        go_upto_region 15 with fail
        obtain ⟨hm8, hG8⟩ := At.many [(4, .string ⟨#[]⟩)] h8
        replace h9 := h9.only hG8 (by omega)
        replace h4 := h4.only hG8 (by omega)
        replace hst := hst.only hG8 (by omega) (by omega)
        replace hown : OwnRI _ B2 A4 n4 c4 l := own_mod (show World.ownsRow _ _ _ _ _ _ _ from hown) (grown_mod hG8) (fun i o hio hi ht e => by injection e with e; subst e; exact at_not h8 hio ht (by decide))
        replace hb := hb.trans ((Below.refl w.heap.size _).grown hG8 hb.size (by intro i hi; injection hi with hi; omega))
        replace hB2 := Nat.le_trans hB2 hG8.size
        obtain ⟨hm9, hG9⟩ := At.many [(4, .string ⟨#[]⟩)] h9
        replace hm8 := hm8.only hG9 (by omega)
        replace h4 := h4.only hG9 (by omega)
        replace hst := hst.only hG9 (by omega) (by omega)
        replace hown : OwnRI _ B2 A4 n4 c4 l := own_mod (show World.ownsRow _ _ _ _ _ _ _ from hown) (grown_mod hG9) (fun i o hio hi ht e => by injection e with e; subst e; exact at_not h9 hio ht (by decide))
        replace hb := hb.trans ((Below.refl w.heap.size _).grown hG9 hb.size (by intro i hi; injection hi with hi; omega))
        replace hB2 := Nat.le_trans hB2 hG9.size
        dsimp only [setMany, setL, List.set] at hm8 hm9 h4 hst hown hb hB2
        clear hG8 hG9 h8 h9 x0 x1 x2 x3 x4 x5 y0 y1 y2 y3 y4 y5 z0 z1 z2 z3 z4 z5 q0 q1 q2 q3 q4 q5
        generalize World.setCell _ _ _ = w5 at *
        obtain ⟨⟨z0, z1, z2, z3, z4, z5⟩, zf⟩ := at6 hm9
        obtain ⟨⟨s0, s1⟩, sf⟩ := at2 h4
        go_upto_region 16 with (((with_reducible refine calls_id ?_); refine (HRP.out w5 hown.rd).mono ?_; rintro y w6 ⟨A7, n7, c7, rfl, hown7, hb7⟩))
        obtain ⟨h12, h13, hb8⟩ := two_at w6 83 [.int .i64 tc, .int .i64 tr, .string tv, .slice A7 n7 c7] 54 [.string ek, .string ev, .int .i64 er, .bool eg]
        have hg8w : g8 < w6.heap.size := Nat.lt_of_lt_of_le hm8.lt hb7.size
        replace hst := (hst.step hb7).step hb8
        replace hown := (hown.step hb7).step hb8
        replace hown7 := OwnRI.step (OwnRI.lower hown7 hB2) hb8
        replace h4 := (h4.step hb7).step hb8
        replace hm8 := (hm8.step hb7).step hb8
        replace hb := chain (chain hb hb7) hb8
        have hg12 : B2 ≤ w6.heap.size := Nat.le_trans hB2 hb7.size
        replace hB2 := Nat.le_trans hB2 (Nat.le_trans hb7.size hb8.size)
        clear hb7 hb8 z0 z1 z2 z3 z4 z5 zf s0 s1 sf HRP hm9 h13
        generalize World.alloc (World.alloc w6 _) _ = w7 at *
        obtain ⟨g12, hg12e⟩ : ∃ g12, w6.heap.size = g12 := ⟨_, rfl⟩
        rw [hg12e] at h12 hg12 hg8w ⊢
        clear hg12e
        obtain ⟨⟨x0, x1, x2, x3, x4, x5⟩, y0, y1, y2, y3, y4, y5⟩ := at6 hm8
        go_upto_region 18 with fail
        obtain ⟨hm8', hG8⟩ := At.many [(4, .string a), (5, .int .i64 gj)] hm8
        replace h4 := h4.only hG8 (by omega)
        replace h12 := h12.only hG8 (by omega)
        replace hst := hst.only hG8 (by omega) (by omega)
        replace hown : OwnRI _ B2 A4 n4 c4 l := own_mod (show World.ownsRow _ _ _ _ _ _ _ from hown) (grown_mod hG8) (fun i o hio hi ht e => by injection e with e; subst e; exact at_not hm8 hio ht (by decide))
        replace hown7 : OwnRI _ B2 A7 n7 c7 ti := own_mod (show World.ownsRow _ _ _ _ _ _ _ from hown7) (grown_mod hG8) (fun i o hio hi ht e => by injection e with e; subst e; exact at_not hm8 hio ht (by decide))
        replace hb := hb.trans ((Below.refl w.heap.size _).grown hG8 hb.size (by intro i hi; injection hi with hi; omega))
        replace hB2 := Nat.le_trans hB2 hG8.size
        dsimp only [setMany, setL, List.set] at hm8' h4 h12 hst hown hown7 hb hB2
        clear hG8 hm8 x0 x1 x2 x3 x4 x5 y0 y1 y2 y3 y4 y5
        generalize World.setCell _ _ _ = w8 at *
        obtain ⟨⟨x0, x1, x2, x3, x4, x5⟩, xf⟩ := at6 hm8'
        have hda := HDO.out a HA.out w8 hst
        by_cases hcase : ¬ 1 ≤ a.size ∨ stands l a gj = true ∨ tw = false
        · rw [HGS.out a hcase] at hda
          generalize doSt rev l _ = ds at hda
          simp only at hda
          have HDA := Lib.hid hda
          have HCA := Lib.hid hcase
          clear hda hcase HGS HGN HGT HDO
          go_upto_region 19 with (((with_reducible refine calls_id ?_); refine HDA.out.mono ?_; rintro y w9 ⟨A9, n9, c9, rfl, hown9, hst9, hm9, _⟩))
          obtain ⟨h20, hb10⟩ := one_at w9 49 [.int .i64 tc, .int .i64 tr, .string tv, .slice A9 n9 c9]
          replace h4 := (hm9.at h4 (by rintro (e | e) <;> omega)).step hb10
          replace h12 := (hm9.at h12 (by rintro (e | e) <;> omega)).step hb10
          replace hown : OwnRI _ B2 A4 n4 c4 l := OwnRI.step (own_mod (show World.ownsRow _ _ _ _ _ _ _ from hown) hm9 (fun i o _ hi _ e => by rcases e with e | e <;> omega)) hb10
          replace hown7 : OwnRI _ B2 A7 n7 c7 ti := OwnRI.step (own_mod (show World.ownsRow _ _ _ _ _ _ _ from hown7) hm9 (fun i o _ hi _ e => by rcases e with e | e <;> omega)) hb10
          replace hown9 := OwnI.step hown9 hb10
          replace hst9 := hst9.step hb10
          replace hb := chain (hb.trans (hm9.toBelow (fun i o hi e => by rcases e with e | e <;> omega) hb.size)) hb10
          clear hm9 hb10 hst x0 x1 x2 x3 x4 x5 xf hm8'
          generalize World.alloc w9 _ = w10 at *
          generalize w9.heap.size = g20 at *
          obtain ⟨⟨x0, x1, x2, x3⟩, xf⟩ := at4 h20
          obtain ⟨⟨s0, s1⟩, sf⟩ := at2 h4
          have hem := empty_iff a
          have hsta := rstands_any A4 n4 c4 l rev a gj w10 hown.rd
          by_cases ha : 1 ≤ a.size
          · rw [decide_eq_true ha] at hem
            cases hsd : stands l a gj with
            | true =>
              rw [hsd] at hsta
              have HSTA := Lib.hid hsta
              clear hsta
              go_upto_region 20 with (((with_reducible refine calls_id ?_); refine HSTA.out.mono ?_; rintro z w11 ⟨rfl, hb11⟩))
              replace h20 := h20.step hb11
              replace h12 := h12.step hb11
              replace hown9 := OwnI.step hown9 hb11
              replace hown7 := OwnRI.step hown7 hb11
              replace hb := chain hb hb11
              clear x0 x1 x2 x3 xf s0 s1 sf hb11
              obtain ⟨⟨x0, x1, x2, x3⟩, xf⟩ := at4 h20
              obtain ⟨⟨y0, y1, y2, y3⟩, yf⟩ := at4 h12
              have HSA := Lib.hid (same9_any A9 A7 n9 c9 n7 c7 ti tc tr tv _ (OwnI.rd hown9) (OwnRI.rd hown7))
              have HB := Lib.hid hb
              clear hb h20 h12 hown9 hown7
              go_wp2_with (first
                | (((with_reducible refine calls_id ?_); refine HSA.out.mono ?_; rintro z w12 ⟨rfl, hb12⟩); replace HB := Lib.hid (chain HB.out hb12))
                | (((with_reducible refine calls_id ?_); refine (awake9_any _).mono ?_; rintro z w13 ⟨rfl, hb13⟩); replace HB := Lib.hid (chain HB.out hb13)))
              go_ret
              exact ⟨rfl, HB.out⟩
            | false =>
              rw [hsd] at hsta
              have HSTA := Lib.hid hsta
              clear hsta
              have htw : tw = false := by
                rcases HCA.out with h | h | h
                · exact absurd ha h
                · rw [hsd] at h; cases h
                · exact h
              subst htw
              go_upto_region 20 with (((with_reducible refine calls_id ?_); refine HSTA.out.mono ?_; rintro z w11 ⟨rfl, hb11⟩))
              replace h20 := h20.step hb11
              replace h12 := h12.step hb11
              replace hown9 := OwnI.step hown9 hb11
              replace hown7 := OwnRI.step hown7 hb11
              replace hb := chain hb hb11
              clear x0 x1 x2 x3 xf s0 s1 sf hb11
              obtain ⟨⟨x0, x1, x2, x3⟩, xf⟩ := at4 h20
              obtain ⟨⟨y0, y1, y2, y3⟩, yf⟩ := at4 h12
              have HSA := Lib.hid (same9_any A9 A7 n9 c9 n7 c7 ti tc tr tv _ (OwnI.rd hown9) (OwnRI.rd hown7))
              have HB := Lib.hid hb
              clear hb h20 h12 hown9 hown7
              go_wp2_with (first
                | (((with_reducible refine calls_id ?_); refine HSA.out.mono ?_; rintro z w12 ⟨rfl, hb12⟩); replace HB := Lib.hid (chain HB.out hb12))
                | (((with_reducible refine calls_id ?_); refine (awake9_any _).mono ?_; rintro z w13 ⟨rfl, hb13⟩); replace HB := Lib.hid (chain HB.out hb13)))
              go_ret
              exact ⟨rfl, HB.out⟩
          · rw [decide_eq_false ha] at hem
            go_upto_region 20 with fail
            clear x0 x1 x2 x3 xf s0 s1 sf
            obtain ⟨⟨x0, x1, x2, x3⟩, xf⟩ := at4 h20
            obtain ⟨⟨y0, y1, y2, y3⟩, yf⟩ := at4 h12
            have HSA := Lib.hid (same9_any A9 A7 n9 c9 n7 c7 ti tc tr tv _ (OwnI.rd hown9) (OwnRI.rd hown7))
            have HB := Lib.hid hb
            clear hb h20 h12 hown9 hown7
            go_wp2_with (first
              | (((with_reducible refine calls_id ?_); refine HSA.out.mono ?_; rintro z w12 ⟨rfl, hb12⟩); replace HB := Lib.hid (chain HB.out hb12))
              | (((with_reducible refine calls_id ?_); refine (awake9_any _).mono ?_; rintro z w13 ⟨rfl, hb13⟩); replace HB := Lib.hid (chain HB.out hb13)))
            go_ret
            exact ⟨rfl, HB.out⟩
        · have c1 : 1 ≤ a.size := Decidable.byContradiction fun h => hcase (.inl h)
          have c2 : stands l a gj = false := by
            cases h : stands l a gj with
            | false => rfl
            | true => exact absurd (.inr (.inl h)) hcase
          have c3 : tw = true := by
            cases h : tw with
            | true => rfl
            | false => exact absurd (.inr (.inr h)) hcase
          have hp1 := HGN.out a c1 c2 c3
          rw [HGT.out a (by rw [hp1]), hp1] at hda
          simp only at hda
          have HDA := Lib.hid hda
          subst c3
          clear hda hcase HGS HGN HGT HDO hp1
          go_upto_region 19 with (((with_reducible refine calls_id ?_); refine HDA.out.mono ?_; rintro y w9 ⟨A9, n9, c9, rfl, hown9, hst9, hm9, _⟩))
          obtain ⟨h20, hb10⟩ := one_at w9 49 [.int .i64 8, .int .i64 0, .string ⟨#[]⟩, .slice A9 n9 c9]
          replace h4 := (hm9.at h4 (by rintro (e | e) <;> omega)).step hb10
          replace h12 := (hm9.at h12 (by rintro (e | e) <;> omega)).step hb10
          replace hown : OwnRI _ B2 A4 n4 c4 l := OwnRI.step (own_mod (show World.ownsRow _ _ _ _ _ _ _ from hown) hm9 (fun i o _ hi _ e => by rcases e with e | e <;> omega)) hb10
          replace hown7 : OwnRI _ B2 A7 n7 c7 ti := OwnRI.step (own_mod (show World.ownsRow _ _ _ _ _ _ _ from hown7) hm9 (fun i o _ hi _ e => by rcases e with e | e <;> omega)) hb10
          replace hown9 := OwnI.step hown9 hb10
          replace hst9 := hst9.step hb10
          replace hb := chain (hb.trans (hm9.toBelow (fun i o hi e => by rcases e with e | e <;> omega) hb.size)) hb10
          clear hm9 hb10 hst x0 x1 x2 x3 x4 x5 xf hm8'
          generalize World.alloc w9 _ = w10 at *
          generalize w9.heap.size = g20 at *
          obtain ⟨⟨x0, x1, x2, x3⟩, xf⟩ := at4 h20
          obtain ⟨⟨s0, s1⟩, sf⟩ := at2 h4
          have hem := empty_iff a
          have hsta := rstands_any A4 n4 c4 l rev a gj w10 hown.rd
          rw [decide_eq_true c1] at hem
          rw [c2] at hsta
          have HSTA := Lib.hid hsta
          clear hsta c1 c2
          go_upto_region 21 with (((with_reducible refine calls_id ?_); refine HSTA.out.mono ?_; rintro z w11 ⟨rfl, hb11⟩))
          replace h4 := h4.step hb11
          replace hst9 := hst9.step hb11
          replace hown := OwnRI.step hown hb11
          replace h20 := h20.step hb11
          replace h12 := h12.step hb11
          replace hown9 := OwnI.step hown9 hb11
          replace hown7 := OwnRI.step hown7 hb11
          replace hb := chain hb hb11
          clear x0 x1 x2 x3 xf s0 s1 sf hb11
          refine region_any (by kernel_rfl) ?_
          change wpAny _ _ _ _ _ _ _ (World.drew _)
          replace hst9 := hst9.drew
          replace h4 := h4.drew
          replace h20 := h20.drew
          replace hown := (show w11.drew.ownsRow _ _ _ _ _ _ from hown)
          have HB := Lib.hid hb.drew
          clear hb h12 hown7 hown9 HSTA
          generalize World.drew _ = w12 at *
          obtain ⟨⟨x0, x1, x2, x3⟩, xf⟩ := at4 h20
          obtain ⟨⟨s0, s1⟩, sf⟩ := at2 h4
          have l4 := h4.lt
          have l20 := h20.lt
          refine stage 100000 ?_
          refine stage_read (i := 0) (v := ?_) rfl (by kernel_rfl) (by kernel_rfl) (by kernel_rfl) (by kernel_rfl) (by kernel_rfl) (by kernel_rfl) (fun _ _ _ h => h) (Or.inl ⟨by kernel_rfl, ?_⟩) ?_
          rotate_left
          · (intro wS hwS; obtain ⟨hcS, hfS, hhS⟩ := bcell hwS; go_simp; try (first | (with_reducible rfl) | rw [if_pos (by omega)] | rw [if_neg (by omega)]))
          try simp only [Act.put, List.getElem_toArray, List.getElem_cons_succ, List.getElem_cons_zero, List.setIfInBounds_toArray, List.set_cons_zero, List.set_cons_succ]
          refine stage_read (i := 1) (v := ?_) rfl (by kernel_rfl) (by kernel_rfl) (by kernel_rfl) (by kernel_rfl) (by kernel_rfl) (by kernel_rfl) (fun _ _ _ h => h) (Or.inl ⟨by kernel_rfl, ?_⟩) ?_
          rotate_left
          · (intro wS hwS; obtain ⟨hcS, hfS, hhS⟩ := bcell hwS; go_simp; try (first | (with_reducible rfl) | rw [if_pos (by omega)] | rw [if_neg (by omega)]))
          try simp only [Act.put, List.getElem_toArray, List.getElem_cons_succ, List.getElem_cons_zero, List.setIfInBounds_toArray, List.set_cons_zero, List.set_cons_succ]
          refine stage_read (i := 2) (v := ?_) rfl (by kernel_rfl) (by kernel_rfl) (by kernel_rfl) (by kernel_rfl) (by kernel_rfl) (by kernel_rfl) (fun _ _ _ h => h) (Or.inl ⟨by kernel_rfl, ?_⟩) ?_
          rotate_left
          · (intro wS hwS; obtain ⟨hcS, hfS, hhS⟩ := bcell hwS; go_simp; try (first | (with_reducible rfl) | rw [if_pos (by omega)] | rw [if_neg (by omega)]))
          try simp only [Act.put, List.getElem_toArray, List.getElem_cons_succ, List.getElem_cons_zero, List.setIfInBounds_toArray, List.set_cons_zero, List.set_cons_succ]
          refine stage_read (i := 3) (v := ?_) rfl (by kernel_rfl) (by kernel_rfl) (by kernel_rfl) (by kernel_rfl) (by kernel_rfl) (by kernel_rfl) (fun _ _ _ h => h) (Or.inl ⟨by kernel_rfl, ?_⟩) ?_
          rotate_left
          · (intro wS hwS; obtain ⟨hcS, hfS, hhS⟩ := bcell hwS; go_simp; try (first | (with_reducible rfl) | rw [if_pos (by omega)] | rw [if_neg (by omega)]))
          try simp only [Act.put, List.getElem_toArray, List.getElem_cons_succ, List.getElem_cons_zero, List.setIfInBounds_toArray, List.set_cons_zero, List.set_cons_succ]
          refine stage_read (i := 4) (v := ?_) rfl (by kernel_rfl) (by kernel_rfl) (by kernel_rfl) (by kernel_rfl) (by kernel_rfl) (by kernel_rfl) (fun _ _ _ h => h) (Or.inl ⟨by kernel_rfl, ?_⟩) ?_
          rotate_left
          · (intro wS hwS; obtain ⟨hcS, hfS, hhS⟩ := bcell hwS; go_simp; try (first | (with_reducible rfl) | rw [if_pos (by omega)] | rw [if_neg (by omega)]))
          try simp only [Act.put, List.getElem_toArray, List.getElem_cons_succ, List.getElem_cons_zero, List.setIfInBounds_toArray, List.set_cons_zero, List.set_cons_succ]
          refine stage_read (i := 6) (v := ?_) rfl (by kernel_rfl) (by kernel_rfl) (by kernel_rfl) (by kernel_rfl) (by kernel_rfl) (by kernel_rfl) (fun _ _ _ h => h) (Or.inl ⟨by kernel_rfl, ?_⟩) ?_
          rotate_left
          · (intro wS hwS; obtain ⟨hcS, hfS, hhS⟩ := bcell hwS; go_simp; try (first | (with_reducible rfl) | rw [if_pos (by omega)] | rw [if_neg (by omega)]))
          try simp only [Act.put, List.getElem_toArray, List.getElem_cons_succ, List.getElem_cons_zero, List.setIfInBounds_toArray, List.set_cons_zero, List.set_cons_succ]
          refine stage_read (i := 7) (v := ?_) rfl (by kernel_rfl) (by kernel_rfl) (by kernel_rfl) (by kernel_rfl) (by kernel_rfl) (by kernel_rfl) (fun _ _ _ h => h) (Or.inl ⟨by kernel_rfl, ?_⟩) ?_
          rotate_left
          · (intro wS hwS; obtain ⟨hcS, hfS, hhS⟩ := bcell hwS; go_simp; try (first | (with_reducible rfl) | rw [if_pos (by omega)] | rw [if_neg (by omega)]))
          try simp only [Act.put, List.getElem_toArray, List.getElem_cons_succ, List.getElem_cons_zero, List.setIfInBounds_toArray, List.set_cons_zero, List.set_cons_succ]
          refine stage_one 5 (by kernel_rfl) rfl (by kernel_rfl) (fun K hK => ?_)
          go_simp
          refine (rev_any _ hst9).mono ?_
          rintro r w13 ⟨rfl, rfl⟩
          refine hK.out _ _ (Below.refl _ _) ?_
          clear hK K
          try simp only [Act.put, List.getElem_toArray, List.getElem_cons_succ, List.getElem_cons_zero, List.setIfInBounds_toArray, List.set_cons_zero, List.set_cons_succ]
          refine stage_read (i := 8) (v := ?_) rfl (by kernel_rfl) (by kernel_rfl) (by kernel_rfl) (by kernel_rfl) (by kernel_rfl) (by kernel_rfl) (fun _ _ _ h => h) (Or.inl ⟨by kernel_rfl, ?_⟩) ?_
          rotate_left
          · (intro wS hwS; obtain ⟨hcS, hfS, hhS⟩ := bcell hwS; go_simp; try (first | (with_reducible rfl) | rw [if_pos (by omega)] | rw [if_neg (by omega)]))
          try simp only [Act.put, List.getElem_toArray, List.getElem_cons_succ, List.getElem_cons_zero, List.setIfInBounds_toArray, List.set_cons_zero, List.set_cons_succ]
          refine stage_read (i := 9) (v := ?_) rfl (by kernel_rfl) (by kernel_rfl) (by kernel_rfl) (by kernel_rfl) (by kernel_rfl) (by kernel_rfl) (fun _ _ _ h => h) (Or.inl ⟨by kernel_rfl, ?_⟩) ?_
          rotate_left
          · (intro wS hwS; obtain ⟨hcS, hfS, hhS⟩ := bcell hwS; go_simp; try (first | (with_reducible rfl) | rw [if_pos (by omega)] | rw [if_neg (by omega)]))
          try simp only [Act.put, List.getElem_toArray, List.getElem_cons_succ, List.getElem_cons_zero, List.setIfInBounds_toArray, List.set_cons_zero, List.set_cons_succ]
          refine stage_read (i := 10) (v := ?_) rfl (by kernel_rfl) (by kernel_rfl) (by kernel_rfl) (by kernel_rfl) (by kernel_rfl) (by kernel_rfl) (fun _ _ _ h => h) (Or.inl ⟨by kernel_rfl, ?_⟩) ?_
          rotate_left
          · (intro wS hwS; obtain ⟨hcS, hfS, hhS⟩ := bcell hwS; go_simp; try (first | (with_reducible rfl) | rw [if_pos (by omega)] | rw [if_neg (by omega)]))
          try simp only [Act.put, List.getElem_toArray, List.getElem_cons_succ, List.getElem_cons_zero, List.setIfInBounds_toArray, List.set_cons_zero, List.set_cons_succ]
          refine stage_read (i := 11) (v := ?_) rfl (by kernel_rfl) (by kernel_rfl) (by kernel_rfl) (by kernel_rfl) (by kernel_rfl) (by kernel_rfl) (fun _ _ _ h => h) (Or.inl ⟨by kernel_rfl, ?_⟩) ?_
          rotate_left
          · (intro wS hwS; obtain ⟨hcS, hfS, hhS⟩ := bcell hwS; go_simp; try (first | (with_reducible rfl) | rw [if_pos (by omega)] | rw [if_neg (by omega)]))
          try simp only [Act.put, List.getElem_toArray, List.getElem_cons_succ, List.getElem_cons_zero, List.setIfInBounds_toArray, List.set_cons_zero, List.set_cons_succ]
          refine stage_read (i := 13) (v := ?_) rfl (by kernel_rfl) (by kernel_rfl) (by kernel_rfl) (by kernel_rfl) (by kernel_rfl) (by kernel_rfl) (fun _ _ _ h => h) (Or.inl ⟨by kernel_rfl, ?_⟩) ?_
          rotate_left
          · (intro wS hwS; obtain ⟨hcS, hfS, hhS⟩ := bcell hwS; go_simp; try (first | (with_reducible rfl) | rw [if_pos (by omega)] | rw [if_neg (by omega)]))
          try simp only [Act.put, List.getElem_toArray, List.getElem_cons_succ, List.getElem_cons_zero, List.setIfInBounds_toArray, List.set_cons_zero, List.set_cons_succ]
          refine stage_read (i := 14) (v := ?_) rfl (by kernel_rfl) (by kernel_rfl) (by kernel_rfl) (by kernel_rfl) (by kernel_rfl) (by kernel_rfl) (fun _ _ _ h => h) (Or.inl ⟨by kernel_rfl, ?_⟩) ?_
          rotate_left
          · (intro wS hwS; obtain ⟨hcS, hfS, hhS⟩ := bcell hwS; go_simp; try (first | (with_reducible rfl) | rw [if_pos (by omega)] | rw [if_neg (by omega)]))
          try simp only [Act.put, List.getElem_toArray, List.getElem_cons_succ, List.getElem_cons_zero, List.setIfInBounds_toArray, List.set_cons_zero, List.set_cons_succ]
          refine stage_one 12 (by kernel_rfl) rfl (by kernel_rfl) (fun K hK => ?_)
          go_simp
          refine (all_any _ hst9 (by omega) HKS.out).mono ?_
          rintro r w13 ⟨A13, n13, c13, rfl, hown13, hb13⟩
          refine hK.out _ _ (hb13) ?_
          clear hK K
          try simp only [Act.put, List.getElem_toArray, List.getElem_cons_succ, List.getElem_cons_zero, List.setIfInBounds_toArray, List.set_cons_zero, List.set_cons_succ]
          replace h4 := h4.step hb13
          replace hown := OwnRI.step hown hb13
          have HB := Lib.hid (chain HB.out hb13)
          clear x0 x1 x2 x3 xf s0 s1 sf l4 l20 hst9 h20 hb13
          obtain ⟨⟨s0, s1⟩, sf⟩ := at2 h4
          have l4 := h4.lt

          refine stage_one 15 (by kernel_rfl) rfl (by kernel_rfl) (fun K hK => ?_)
          go_simp
          refine (sitems_any A13 A4 n13 c13 n4 c4 l _ (OwnI.rd hown13) (OwnRI.rd hown)).mono ?_
          rintro r w14 ⟨rfl, hb14⟩
          refine hK.out _ _ (hb14) ?_
          clear hK K
          try simp only [Act.put, List.getElem_toArray, List.getElem_cons_succ, List.getElem_cons_zero, List.setIfInBounds_toArray, List.set_cons_zero, List.set_cons_succ]
          have HB := Lib.hid (chain HB.out hb14)
          refine stage_read (i := 16) (v := ?_) rfl (by kernel_rfl) (by kernel_rfl) (by kernel_rfl) (by kernel_rfl) (by kernel_rfl) (by kernel_rfl) (fun _ _ _ h => h) (Or.inl ⟨by kernel_rfl, ?_⟩) ?_
          rotate_left
          · (intro wS hwS; obtain ⟨hcS, hfS, hhS⟩ := bcell hwS; go_simp; try (first | (with_reducible rfl) | rw [if_pos (by omega)] | rw [if_neg (by omega)]))
          try simp only [Act.put, List.getElem_toArray, List.getElem_cons_succ, List.getElem_cons_zero, List.setIfInBounds_toArray, List.set_cons_zero, List.set_cons_succ]
          refine stage_read (i := 17) (v := ?_) rfl (by kernel_rfl) (by kernel_rfl) (by kernel_rfl) (by kernel_rfl) (by kernel_rfl) (by kernel_rfl) (fun _ _ _ h => h) (Or.inl ⟨by kernel_rfl, ?_⟩) ?_
          rotate_left
          · (intro wS hwS; obtain ⟨hcS, hfS, hhS⟩ := bcell hwS; go_simp; try (first | (with_reducible rfl) | rw [if_pos (by omega)] | rw [if_neg (by omega)]))
          try simp only [Act.put, List.getElem_toArray, List.getElem_cons_succ, List.getElem_cons_zero, List.setIfInBounds_toArray, List.set_cons_zero, List.set_cons_succ]
          refine stage_one 18 (by kernel_rfl) rfl (by kernel_rfl) (fun K hK => ?_)
          go_simp
          refine (awake9_any _).mono ?_
          rintro r w15 ⟨rfl, hb15⟩
          refine hK.out _ _ (hb15) ?_
          clear hK K
          try simp only [Act.put, List.getElem_toArray, List.getElem_cons_succ, List.getElem_cons_zero, List.setIfInBounds_toArray, List.set_cons_zero, List.set_cons_succ]
          have HB := Lib.hid (chain HB.out hb15)
          refine stage_read (i := 19) (v := ?_) rfl (by kernel_rfl) (by kernel_rfl) (by kernel_rfl) (by kernel_rfl) (by kernel_rfl) (by kernel_rfl) (fun _ _ _ h => h) (Or.inl ⟨by kernel_rfl, ?_⟩) ?_
          rotate_left
          · (intro wS hwS; obtain ⟨hcS, hfS, hhS⟩ := bcell hwS; go_simp; try (first | (with_reducible rfl) | rw [if_pos (by omega)] | rw [if_neg (by omega)]))
          try simp only [Act.put, List.getElem_toArray, List.getElem_cons_succ, List.getElem_cons_zero, List.setIfInBounds_toArray, List.set_cons_zero, List.set_cons_succ]
          refine stage_read (i := 20) (v := ?_) rfl (by kernel_rfl) (by kernel_rfl) (by kernel_rfl) (by kernel_rfl) (by kernel_rfl) (by kernel_rfl) (fun _ _ _ h => h) (Or.inl ⟨by kernel_rfl, ?_⟩) ?_
          rotate_left
          · (intro wS hwS; obtain ⟨hcS, hfS, hhS⟩ := bcell hwS; go_simp; try (first | (with_reducible rfl) | rw [if_pos (by omega)] | rw [if_neg (by omega)]))
          try simp only [Act.put, List.getElem_toArray, List.getElem_cons_succ, List.getElem_cons_zero, List.setIfInBounds_toArray, List.set_cons_zero, List.set_cons_succ]
          first | refine wpAnyT_done (by kernel_rfl) ?_ _ | refine wpAny_done (by kernel_rfl) ?_ _
          go_wp2_with fail
          go_ret
          exact ⟨rfl, HB.out⟩
      · have hcut2 : 140 < gi.size := by omega
        have HA := Lib.hid (show (gi.extract 0 140).size ≤ maxLen from by rw [ByteArray.size_extract]; simp only [maxLen]; omega)
        go_upto_region 12 with fail
        generalize gi.extract 0 140 = a at *
        go_upto_region 13 with (((with_reducible refine calls_id ?_); refine (HOO.out _).mono ?_; rintro y w3 ⟨rfl, hb3⟩))
        obtain ⟨h8, h9, hb4⟩ := two_at w3 37 [.int .i64 pki, .string pk, .string pv, .int .i64 pr, .string pi, .int .i64 pj] 40 [.int .i64 pki, .string pk, .string pv, .int .i64 pr, .string pi, .int .i64 pj]
        replace hst := (hst.step hb3).step hb4
        replace hown := (hown.step hb3).step hb4
        replace h4 := (h4.step hb3).step hb4
        replace hb := chain (chain hb hb3) hb4
        have hg8 : B2 ≤ w3.heap.size := Nat.le_trans hB2 hb3.size
        replace hB2 := Nat.le_trans hB2 (Nat.le_trans hb3.size hb4.size)
        clear hb3 hb4 x0 x1 x2 x3 x4 x5 xf h5 HOO
        generalize World.alloc (World.alloc w3 _) _ = w4 at *
        obtain ⟨g8, hg8e⟩ : ∃ g8, w3.heap.size = g8 := ⟨_, rfl⟩
        rw [hg8e] at h8 h9 hg8 ⊢
        clear hg8e
        obtain ⟨⟨x0, x1, x2, x3, x4, x5⟩, y0, y1, y2, y3, y4, y5⟩ := at6 h8
        obtain ⟨⟨z0, z1, z2, z3, z4, z5⟩, q0, q1, q2, q3, q4, q5⟩ := at6 h9
        go_upto_region 15 with fail
        obtain ⟨hm8, hG8⟩ := At.many [(4, .string ⟨#[]⟩)] h8
        replace h9 := h9.only hG8 (by omega)
        replace h4 := h4.only hG8 (by omega)
        replace hst := hst.only hG8 (by omega) (by omega)
        replace hown : OwnRI _ B2 A4 n4 c4 l := own_mod (show World.ownsRow _ _ _ _ _ _ _ from hown) (grown_mod hG8) (fun i o hio hi ht e => by injection e with e; subst e; exact at_not h8 hio ht (by decide))
        replace hb := hb.trans ((Below.refl w.heap.size _).grown hG8 hb.size (by intro i hi; injection hi with hi; omega))
        replace hB2 := Nat.le_trans hB2 hG8.size
        obtain ⟨hm9, hG9⟩ := At.many [(4, .string ⟨#[]⟩)] h9
        replace hm8 := hm8.only hG9 (by omega)
        replace h4 := h4.only hG9 (by omega)
        replace hst := hst.only hG9 (by omega) (by omega)
        replace hown : OwnRI _ B2 A4 n4 c4 l := own_mod (show World.ownsRow _ _ _ _ _ _ _ from hown) (grown_mod hG9) (fun i o hio hi ht e => by injection e with e; subst e; exact at_not h9 hio ht (by decide))
        replace hb := hb.trans ((Below.refl w.heap.size _).grown hG9 hb.size (by intro i hi; injection hi with hi; omega))
        replace hB2 := Nat.le_trans hB2 hG9.size
        dsimp only [setMany, setL, List.set] at hm8 hm9 h4 hst hown hb hB2
        clear hG8 hG9 h8 h9 x0 x1 x2 x3 x4 x5 y0 y1 y2 y3 y4 y5 z0 z1 z2 z3 z4 z5 q0 q1 q2 q3 q4 q5
        generalize World.setCell _ _ _ = w5 at *
        obtain ⟨⟨z0, z1, z2, z3, z4, z5⟩, zf⟩ := at6 hm9
        obtain ⟨⟨s0, s1⟩, sf⟩ := at2 h4
        go_upto_region 16 with (((with_reducible refine calls_id ?_); refine (HRP.out w5 hown.rd).mono ?_; rintro y w6 ⟨A7, n7, c7, rfl, hown7, hb7⟩))
        obtain ⟨h12, h13, hb8⟩ := two_at w6 83 [.int .i64 tc, .int .i64 tr, .string tv, .slice A7 n7 c7] 54 [.string ek, .string ev, .int .i64 er, .bool eg]
        have hg8w : g8 < w6.heap.size := Nat.lt_of_lt_of_le hm8.lt hb7.size
        replace hst := (hst.step hb7).step hb8
        replace hown := (hown.step hb7).step hb8
        replace hown7 := OwnRI.step (OwnRI.lower hown7 hB2) hb8
        replace h4 := (h4.step hb7).step hb8
        replace hm8 := (hm8.step hb7).step hb8
        replace hb := chain (chain hb hb7) hb8
        have hg12 : B2 ≤ w6.heap.size := Nat.le_trans hB2 hb7.size
        replace hB2 := Nat.le_trans hB2 (Nat.le_trans hb7.size hb8.size)
        clear hb7 hb8 z0 z1 z2 z3 z4 z5 zf s0 s1 sf HRP hm9 h13
        generalize World.alloc (World.alloc w6 _) _ = w7 at *
        obtain ⟨g12, hg12e⟩ : ∃ g12, w6.heap.size = g12 := ⟨_, rfl⟩
        rw [hg12e] at h12 hg12 hg8w ⊢
        clear hg12e
        obtain ⟨⟨x0, x1, x2, x3, x4, x5⟩, y0, y1, y2, y3, y4, y5⟩ := at6 hm8
        go_upto_region 18 with fail
        obtain ⟨hm8', hG8⟩ := At.many [(4, .string a), (5, .int .i64 gj)] hm8
        replace h4 := h4.only hG8 (by omega)
        replace h12 := h12.only hG8 (by omega)
        replace hst := hst.only hG8 (by omega) (by omega)
        replace hown : OwnRI _ B2 A4 n4 c4 l := own_mod (show World.ownsRow _ _ _ _ _ _ _ from hown) (grown_mod hG8) (fun i o hio hi ht e => by injection e with e; subst e; exact at_not hm8 hio ht (by decide))
        replace hown7 : OwnRI _ B2 A7 n7 c7 ti := own_mod (show World.ownsRow _ _ _ _ _ _ _ from hown7) (grown_mod hG8) (fun i o hio hi ht e => by injection e with e; subst e; exact at_not hm8 hio ht (by decide))
        replace hb := hb.trans ((Below.refl w.heap.size _).grown hG8 hb.size (by intro i hi; injection hi with hi; omega))
        replace hB2 := Nat.le_trans hB2 hG8.size
        dsimp only [setMany, setL, List.set] at hm8' h4 h12 hst hown hown7 hb hB2
        clear hG8 hm8 x0 x1 x2 x3 x4 x5 y0 y1 y2 y3 y4 y5
        generalize World.setCell _ _ _ = w8 at *
        obtain ⟨⟨x0, x1, x2, x3, x4, x5⟩, xf⟩ := at6 hm8'
        have hda := HDO.out a HA.out w8 hst
        by_cases hcase : ¬ 1 ≤ a.size ∨ stands l a gj = true ∨ tw = false
        · rw [HGS.out a hcase] at hda
          generalize doSt rev l _ = ds at hda
          simp only at hda
          have HDA := Lib.hid hda
          have HCA := Lib.hid hcase
          clear hda hcase HGS HGN HGT HDO
          go_upto_region 19 with (((with_reducible refine calls_id ?_); refine HDA.out.mono ?_; rintro y w9 ⟨A9, n9, c9, rfl, hown9, hst9, hm9, _⟩))
          obtain ⟨h20, hb10⟩ := one_at w9 49 [.int .i64 tc, .int .i64 tr, .string tv, .slice A9 n9 c9]
          replace h4 := (hm9.at h4 (by rintro (e | e) <;> omega)).step hb10
          replace h12 := (hm9.at h12 (by rintro (e | e) <;> omega)).step hb10
          replace hown : OwnRI _ B2 A4 n4 c4 l := OwnRI.step (own_mod (show World.ownsRow _ _ _ _ _ _ _ from hown) hm9 (fun i o _ hi _ e => by rcases e with e | e <;> omega)) hb10
          replace hown7 : OwnRI _ B2 A7 n7 c7 ti := OwnRI.step (own_mod (show World.ownsRow _ _ _ _ _ _ _ from hown7) hm9 (fun i o _ hi _ e => by rcases e with e | e <;> omega)) hb10
          replace hown9 := OwnI.step hown9 hb10
          replace hst9 := hst9.step hb10
          replace hb := chain (hb.trans (hm9.toBelow (fun i o hi e => by rcases e with e | e <;> omega) hb.size)) hb10
          clear hm9 hb10 hst x0 x1 x2 x3 x4 x5 xf hm8'
          generalize World.alloc w9 _ = w10 at *
          generalize w9.heap.size = g20 at *
          obtain ⟨⟨x0, x1, x2, x3⟩, xf⟩ := at4 h20
          obtain ⟨⟨s0, s1⟩, sf⟩ := at2 h4
          have hem := empty_iff a
          have hsta := rstands_any A4 n4 c4 l rev a gj w10 hown.rd
          by_cases ha : 1 ≤ a.size
          · rw [decide_eq_true ha] at hem
            cases hsd : stands l a gj with
            | true =>
              rw [hsd] at hsta
              have HSTA := Lib.hid hsta
              clear hsta
              go_upto_region 20 with (((with_reducible refine calls_id ?_); refine HSTA.out.mono ?_; rintro z w11 ⟨rfl, hb11⟩))
              replace h20 := h20.step hb11
              replace h12 := h12.step hb11
              replace hown9 := OwnI.step hown9 hb11
              replace hown7 := OwnRI.step hown7 hb11
              replace hb := chain hb hb11
              clear x0 x1 x2 x3 xf s0 s1 sf hb11
              obtain ⟨⟨x0, x1, x2, x3⟩, xf⟩ := at4 h20
              obtain ⟨⟨y0, y1, y2, y3⟩, yf⟩ := at4 h12
              have HSA := Lib.hid (same9_any A9 A7 n9 c9 n7 c7 ti tc tr tv _ (OwnI.rd hown9) (OwnRI.rd hown7))
              have HB := Lib.hid hb
              clear hb h20 h12 hown9 hown7
              go_wp2_with (first
                | (((with_reducible refine calls_id ?_); refine HSA.out.mono ?_; rintro z w12 ⟨rfl, hb12⟩); replace HB := Lib.hid (chain HB.out hb12))
                | (((with_reducible refine calls_id ?_); refine (awake9_any _).mono ?_; rintro z w13 ⟨rfl, hb13⟩); replace HB := Lib.hid (chain HB.out hb13)))
              go_ret
              exact ⟨rfl, HB.out⟩
            | false =>
              rw [hsd] at hsta
              have HSTA := Lib.hid hsta
              clear hsta
              have htw : tw = false := by
                rcases HCA.out with h | h | h
                · exact absurd ha h
                · rw [hsd] at h; cases h
                · exact h
              subst htw
              go_upto_region 20 with (((with_reducible refine calls_id ?_); refine HSTA.out.mono ?_; rintro z w11 ⟨rfl, hb11⟩))
              replace h20 := h20.step hb11
              replace h12 := h12.step hb11
              replace hown9 := OwnI.step hown9 hb11
              replace hown7 := OwnRI.step hown7 hb11
              replace hb := chain hb hb11
              clear x0 x1 x2 x3 xf s0 s1 sf hb11
              obtain ⟨⟨x0, x1, x2, x3⟩, xf⟩ := at4 h20
              obtain ⟨⟨y0, y1, y2, y3⟩, yf⟩ := at4 h12
              have HSA := Lib.hid (same9_any A9 A7 n9 c9 n7 c7 ti tc tr tv _ (OwnI.rd hown9) (OwnRI.rd hown7))
              have HB := Lib.hid hb
              clear hb h20 h12 hown9 hown7
              go_wp2_with (first
                | (((with_reducible refine calls_id ?_); refine HSA.out.mono ?_; rintro z w12 ⟨rfl, hb12⟩); replace HB := Lib.hid (chain HB.out hb12))
                | (((with_reducible refine calls_id ?_); refine (awake9_any _).mono ?_; rintro z w13 ⟨rfl, hb13⟩); replace HB := Lib.hid (chain HB.out hb13)))
              go_ret
              exact ⟨rfl, HB.out⟩
          · rw [decide_eq_false ha] at hem
            go_upto_region 20 with fail
            clear x0 x1 x2 x3 xf s0 s1 sf
            obtain ⟨⟨x0, x1, x2, x3⟩, xf⟩ := at4 h20
            obtain ⟨⟨y0, y1, y2, y3⟩, yf⟩ := at4 h12
            have HSA := Lib.hid (same9_any A9 A7 n9 c9 n7 c7 ti tc tr tv _ (OwnI.rd hown9) (OwnRI.rd hown7))
            have HB := Lib.hid hb
            clear hb h20 h12 hown9 hown7
            go_wp2_with (first
              | (((with_reducible refine calls_id ?_); refine HSA.out.mono ?_; rintro z w12 ⟨rfl, hb12⟩); replace HB := Lib.hid (chain HB.out hb12))
              | (((with_reducible refine calls_id ?_); refine (awake9_any _).mono ?_; rintro z w13 ⟨rfl, hb13⟩); replace HB := Lib.hid (chain HB.out hb13)))
            go_ret
            exact ⟨rfl, HB.out⟩
        · have c1 : 1 ≤ a.size := Decidable.byContradiction fun h => hcase (.inl h)
          have c2 : stands l a gj = false := by
            cases h : stands l a gj with
            | false => rfl
            | true => exact absurd (.inr (.inl h)) hcase
          have c3 : tw = true := by
            cases h : tw with
            | true => rfl
            | false => exact absurd (.inr (.inr h)) hcase
          have hp1 := HGN.out a c1 c2 c3
          rw [HGT.out a (by rw [hp1]), hp1] at hda
          simp only at hda
          have HDA := Lib.hid hda
          subst c3
          clear hda hcase HGS HGN HGT HDO hp1
          go_upto_region 19 with (((with_reducible refine calls_id ?_); refine HDA.out.mono ?_; rintro y w9 ⟨A9, n9, c9, rfl, hown9, hst9, hm9, _⟩))
          obtain ⟨h20, hb10⟩ := one_at w9 49 [.int .i64 8, .int .i64 0, .string ⟨#[]⟩, .slice A9 n9 c9]
          replace h4 := (hm9.at h4 (by rintro (e | e) <;> omega)).step hb10
          replace h12 := (hm9.at h12 (by rintro (e | e) <;> omega)).step hb10
          replace hown : OwnRI _ B2 A4 n4 c4 l := OwnRI.step (own_mod (show World.ownsRow _ _ _ _ _ _ _ from hown) hm9 (fun i o _ hi _ e => by rcases e with e | e <;> omega)) hb10
          replace hown7 : OwnRI _ B2 A7 n7 c7 ti := OwnRI.step (own_mod (show World.ownsRow _ _ _ _ _ _ _ from hown7) hm9 (fun i o _ hi _ e => by rcases e with e | e <;> omega)) hb10
          replace hown9 := OwnI.step hown9 hb10
          replace hst9 := hst9.step hb10
          replace hb := chain (hb.trans (hm9.toBelow (fun i o hi e => by rcases e with e | e <;> omega) hb.size)) hb10
          clear hm9 hb10 hst x0 x1 x2 x3 x4 x5 xf hm8'
          generalize World.alloc w9 _ = w10 at *
          generalize w9.heap.size = g20 at *
          obtain ⟨⟨x0, x1, x2, x3⟩, xf⟩ := at4 h20
          obtain ⟨⟨s0, s1⟩, sf⟩ := at2 h4
          have hem := empty_iff a
          have hsta := rstands_any A4 n4 c4 l rev a gj w10 hown.rd
          rw [decide_eq_true c1] at hem
          rw [c2] at hsta
          have HSTA := Lib.hid hsta
          clear hsta c1 c2
          go_upto_region 21 with (((with_reducible refine calls_id ?_); refine HSTA.out.mono ?_; rintro z w11 ⟨rfl, hb11⟩))
          replace h4 := h4.step hb11
          replace hst9 := hst9.step hb11
          replace hown := OwnRI.step hown hb11
          replace h20 := h20.step hb11
          replace h12 := h12.step hb11
          replace hown9 := OwnI.step hown9 hb11
          replace hown7 := OwnRI.step hown7 hb11
          replace hb := chain hb hb11
          clear x0 x1 x2 x3 xf s0 s1 sf hb11
          refine region_any (by kernel_rfl) ?_
          change wpAny _ _ _ _ _ _ _ (World.drew _)
          replace hst9 := hst9.drew
          replace h4 := h4.drew
          replace h20 := h20.drew
          replace hown := (show w11.drew.ownsRow _ _ _ _ _ _ from hown)
          have HB := Lib.hid hb.drew
          clear hb h12 hown7 hown9 HSTA
          generalize World.drew _ = w12 at *
          obtain ⟨⟨x0, x1, x2, x3⟩, xf⟩ := at4 h20
          obtain ⟨⟨s0, s1⟩, sf⟩ := at2 h4
          have l4 := h4.lt
          have l20 := h20.lt
          refine stage 100000 ?_
          refine stage_read (i := 0) (v := ?_) rfl (by kernel_rfl) (by kernel_rfl) (by kernel_rfl) (by kernel_rfl) (by kernel_rfl) (by kernel_rfl) (fun _ _ _ h => h) (Or.inl ⟨by kernel_rfl, ?_⟩) ?_
          rotate_left
          · (intro wS hwS; obtain ⟨hcS, hfS, hhS⟩ := bcell hwS; go_simp; try (first | (with_reducible rfl) | rw [if_pos (by omega)] | rw [if_neg (by omega)]))
          try simp only [Act.put, List.getElem_toArray, List.getElem_cons_succ, List.getElem_cons_zero, List.setIfInBounds_toArray, List.set_cons_zero, List.set_cons_succ]
          refine stage_read (i := 1) (v := ?_) rfl (by kernel_rfl) (by kernel_rfl) (by kernel_rfl) (by kernel_rfl) (by kernel_rfl) (by kernel_rfl) (fun _ _ _ h => h) (Or.inl ⟨by kernel_rfl, ?_⟩) ?_
          rotate_left
          · (intro wS hwS; obtain ⟨hcS, hfS, hhS⟩ := bcell hwS; go_simp; try (first | (with_reducible rfl) | rw [if_pos (by omega)] | rw [if_neg (by omega)]))
          try simp only [Act.put, List.getElem_toArray, List.getElem_cons_succ, List.getElem_cons_zero, List.setIfInBounds_toArray, List.set_cons_zero, List.set_cons_succ]
          refine stage_read (i := 2) (v := ?_) rfl (by kernel_rfl) (by kernel_rfl) (by kernel_rfl) (by kernel_rfl) (by kernel_rfl) (by kernel_rfl) (fun _ _ _ h => h) (Or.inl ⟨by kernel_rfl, ?_⟩) ?_
          rotate_left
          · (intro wS hwS; obtain ⟨hcS, hfS, hhS⟩ := bcell hwS; go_simp; try (first | (with_reducible rfl) | rw [if_pos (by omega)] | rw [if_neg (by omega)]))
          try simp only [Act.put, List.getElem_toArray, List.getElem_cons_succ, List.getElem_cons_zero, List.setIfInBounds_toArray, List.set_cons_zero, List.set_cons_succ]
          refine stage_read (i := 3) (v := ?_) rfl (by kernel_rfl) (by kernel_rfl) (by kernel_rfl) (by kernel_rfl) (by kernel_rfl) (by kernel_rfl) (fun _ _ _ h => h) (Or.inl ⟨by kernel_rfl, ?_⟩) ?_
          rotate_left
          · (intro wS hwS; obtain ⟨hcS, hfS, hhS⟩ := bcell hwS; go_simp; try (first | (with_reducible rfl) | rw [if_pos (by omega)] | rw [if_neg (by omega)]))
          try simp only [Act.put, List.getElem_toArray, List.getElem_cons_succ, List.getElem_cons_zero, List.setIfInBounds_toArray, List.set_cons_zero, List.set_cons_succ]
          refine stage_read (i := 4) (v := ?_) rfl (by kernel_rfl) (by kernel_rfl) (by kernel_rfl) (by kernel_rfl) (by kernel_rfl) (by kernel_rfl) (fun _ _ _ h => h) (Or.inl ⟨by kernel_rfl, ?_⟩) ?_
          rotate_left
          · (intro wS hwS; obtain ⟨hcS, hfS, hhS⟩ := bcell hwS; go_simp; try (first | (with_reducible rfl) | rw [if_pos (by omega)] | rw [if_neg (by omega)]))
          try simp only [Act.put, List.getElem_toArray, List.getElem_cons_succ, List.getElem_cons_zero, List.setIfInBounds_toArray, List.set_cons_zero, List.set_cons_succ]
          refine stage_read (i := 6) (v := ?_) rfl (by kernel_rfl) (by kernel_rfl) (by kernel_rfl) (by kernel_rfl) (by kernel_rfl) (by kernel_rfl) (fun _ _ _ h => h) (Or.inl ⟨by kernel_rfl, ?_⟩) ?_
          rotate_left
          · (intro wS hwS; obtain ⟨hcS, hfS, hhS⟩ := bcell hwS; go_simp; try (first | (with_reducible rfl) | rw [if_pos (by omega)] | rw [if_neg (by omega)]))
          try simp only [Act.put, List.getElem_toArray, List.getElem_cons_succ, List.getElem_cons_zero, List.setIfInBounds_toArray, List.set_cons_zero, List.set_cons_succ]
          refine stage_read (i := 7) (v := ?_) rfl (by kernel_rfl) (by kernel_rfl) (by kernel_rfl) (by kernel_rfl) (by kernel_rfl) (by kernel_rfl) (fun _ _ _ h => h) (Or.inl ⟨by kernel_rfl, ?_⟩) ?_
          rotate_left
          · (intro wS hwS; obtain ⟨hcS, hfS, hhS⟩ := bcell hwS; go_simp; try (first | (with_reducible rfl) | rw [if_pos (by omega)] | rw [if_neg (by omega)]))
          try simp only [Act.put, List.getElem_toArray, List.getElem_cons_succ, List.getElem_cons_zero, List.setIfInBounds_toArray, List.set_cons_zero, List.set_cons_succ]
          refine stage_one 5 (by kernel_rfl) rfl (by kernel_rfl) (fun K hK => ?_)
          go_simp
          refine (rev_any _ hst9).mono ?_
          rintro r w13 ⟨rfl, rfl⟩
          refine hK.out _ _ (Below.refl _ _) ?_
          clear hK K
          try simp only [Act.put, List.getElem_toArray, List.getElem_cons_succ, List.getElem_cons_zero, List.setIfInBounds_toArray, List.set_cons_zero, List.set_cons_succ]
          refine stage_read (i := 8) (v := ?_) rfl (by kernel_rfl) (by kernel_rfl) (by kernel_rfl) (by kernel_rfl) (by kernel_rfl) (by kernel_rfl) (fun _ _ _ h => h) (Or.inl ⟨by kernel_rfl, ?_⟩) ?_
          rotate_left
          · (intro wS hwS; obtain ⟨hcS, hfS, hhS⟩ := bcell hwS; go_simp; try (first | (with_reducible rfl) | rw [if_pos (by omega)] | rw [if_neg (by omega)]))
          try simp only [Act.put, List.getElem_toArray, List.getElem_cons_succ, List.getElem_cons_zero, List.setIfInBounds_toArray, List.set_cons_zero, List.set_cons_succ]
          refine stage_read (i := 9) (v := ?_) rfl (by kernel_rfl) (by kernel_rfl) (by kernel_rfl) (by kernel_rfl) (by kernel_rfl) (by kernel_rfl) (fun _ _ _ h => h) (Or.inl ⟨by kernel_rfl, ?_⟩) ?_
          rotate_left
          · (intro wS hwS; obtain ⟨hcS, hfS, hhS⟩ := bcell hwS; go_simp; try (first | (with_reducible rfl) | rw [if_pos (by omega)] | rw [if_neg (by omega)]))
          try simp only [Act.put, List.getElem_toArray, List.getElem_cons_succ, List.getElem_cons_zero, List.setIfInBounds_toArray, List.set_cons_zero, List.set_cons_succ]
          refine stage_read (i := 10) (v := ?_) rfl (by kernel_rfl) (by kernel_rfl) (by kernel_rfl) (by kernel_rfl) (by kernel_rfl) (by kernel_rfl) (fun _ _ _ h => h) (Or.inl ⟨by kernel_rfl, ?_⟩) ?_
          rotate_left
          · (intro wS hwS; obtain ⟨hcS, hfS, hhS⟩ := bcell hwS; go_simp; try (first | (with_reducible rfl) | rw [if_pos (by omega)] | rw [if_neg (by omega)]))
          try simp only [Act.put, List.getElem_toArray, List.getElem_cons_succ, List.getElem_cons_zero, List.setIfInBounds_toArray, List.set_cons_zero, List.set_cons_succ]
          refine stage_read (i := 11) (v := ?_) rfl (by kernel_rfl) (by kernel_rfl) (by kernel_rfl) (by kernel_rfl) (by kernel_rfl) (by kernel_rfl) (fun _ _ _ h => h) (Or.inl ⟨by kernel_rfl, ?_⟩) ?_
          rotate_left
          · (intro wS hwS; obtain ⟨hcS, hfS, hhS⟩ := bcell hwS; go_simp; try (first | (with_reducible rfl) | rw [if_pos (by omega)] | rw [if_neg (by omega)]))
          try simp only [Act.put, List.getElem_toArray, List.getElem_cons_succ, List.getElem_cons_zero, List.setIfInBounds_toArray, List.set_cons_zero, List.set_cons_succ]
          refine stage_read (i := 13) (v := ?_) rfl (by kernel_rfl) (by kernel_rfl) (by kernel_rfl) (by kernel_rfl) (by kernel_rfl) (by kernel_rfl) (fun _ _ _ h => h) (Or.inl ⟨by kernel_rfl, ?_⟩) ?_
          rotate_left
          · (intro wS hwS; obtain ⟨hcS, hfS, hhS⟩ := bcell hwS; go_simp; try (first | (with_reducible rfl) | rw [if_pos (by omega)] | rw [if_neg (by omega)]))
          try simp only [Act.put, List.getElem_toArray, List.getElem_cons_succ, List.getElem_cons_zero, List.setIfInBounds_toArray, List.set_cons_zero, List.set_cons_succ]
          refine stage_read (i := 14) (v := ?_) rfl (by kernel_rfl) (by kernel_rfl) (by kernel_rfl) (by kernel_rfl) (by kernel_rfl) (by kernel_rfl) (fun _ _ _ h => h) (Or.inl ⟨by kernel_rfl, ?_⟩) ?_
          rotate_left
          · (intro wS hwS; obtain ⟨hcS, hfS, hhS⟩ := bcell hwS; go_simp; try (first | (with_reducible rfl) | rw [if_pos (by omega)] | rw [if_neg (by omega)]))
          try simp only [Act.put, List.getElem_toArray, List.getElem_cons_succ, List.getElem_cons_zero, List.setIfInBounds_toArray, List.set_cons_zero, List.set_cons_succ]
          refine stage_one 12 (by kernel_rfl) rfl (by kernel_rfl) (fun K hK => ?_)
          go_simp
          refine (all_any _ hst9 (by omega) HKS.out).mono ?_
          rintro r w13 ⟨A13, n13, c13, rfl, hown13, hb13⟩
          refine hK.out _ _ (hb13) ?_
          clear hK K
          try simp only [Act.put, List.getElem_toArray, List.getElem_cons_succ, List.getElem_cons_zero, List.setIfInBounds_toArray, List.set_cons_zero, List.set_cons_succ]
          replace h4 := h4.step hb13
          replace hown := OwnRI.step hown hb13
          have HB := Lib.hid (chain HB.out hb13)
          clear x0 x1 x2 x3 xf s0 s1 sf l4 l20 hst9 h20 hb13
          obtain ⟨⟨s0, s1⟩, sf⟩ := at2 h4
          have l4 := h4.lt

          refine stage_one 15 (by kernel_rfl) rfl (by kernel_rfl) (fun K hK => ?_)
          go_simp
          refine (sitems_any A13 A4 n13 c13 n4 c4 l _ (OwnI.rd hown13) (OwnRI.rd hown)).mono ?_
          rintro r w14 ⟨rfl, hb14⟩
          refine hK.out _ _ (hb14) ?_
          clear hK K
          try simp only [Act.put, List.getElem_toArray, List.getElem_cons_succ, List.getElem_cons_zero, List.setIfInBounds_toArray, List.set_cons_zero, List.set_cons_succ]
          have HB := Lib.hid (chain HB.out hb14)
          refine stage_read (i := 16) (v := ?_) rfl (by kernel_rfl) (by kernel_rfl) (by kernel_rfl) (by kernel_rfl) (by kernel_rfl) (by kernel_rfl) (fun _ _ _ h => h) (Or.inl ⟨by kernel_rfl, ?_⟩) ?_
          rotate_left
          · (intro wS hwS; obtain ⟨hcS, hfS, hhS⟩ := bcell hwS; go_simp; try (first | (with_reducible rfl) | rw [if_pos (by omega)] | rw [if_neg (by omega)]))
          try simp only [Act.put, List.getElem_toArray, List.getElem_cons_succ, List.getElem_cons_zero, List.setIfInBounds_toArray, List.set_cons_zero, List.set_cons_succ]
          refine stage_read (i := 17) (v := ?_) rfl (by kernel_rfl) (by kernel_rfl) (by kernel_rfl) (by kernel_rfl) (by kernel_rfl) (by kernel_rfl) (fun _ _ _ h => h) (Or.inl ⟨by kernel_rfl, ?_⟩) ?_
          rotate_left
          · (intro wS hwS; obtain ⟨hcS, hfS, hhS⟩ := bcell hwS; go_simp; try (first | (with_reducible rfl) | rw [if_pos (by omega)] | rw [if_neg (by omega)]))
          try simp only [Act.put, List.getElem_toArray, List.getElem_cons_succ, List.getElem_cons_zero, List.setIfInBounds_toArray, List.set_cons_zero, List.set_cons_succ]
          refine stage_one 18 (by kernel_rfl) rfl (by kernel_rfl) (fun K hK => ?_)
          go_simp
          refine (awake9_any _).mono ?_
          rintro r w15 ⟨rfl, hb15⟩
          refine hK.out _ _ (hb15) ?_
          clear hK K
          try simp only [Act.put, List.getElem_toArray, List.getElem_cons_succ, List.getElem_cons_zero, List.setIfInBounds_toArray, List.set_cons_zero, List.set_cons_succ]
          have HB := Lib.hid (chain HB.out hb15)
          refine stage_read (i := 19) (v := ?_) rfl (by kernel_rfl) (by kernel_rfl) (by kernel_rfl) (by kernel_rfl) (by kernel_rfl) (by kernel_rfl) (fun _ _ _ h => h) (Or.inl ⟨by kernel_rfl, ?_⟩) ?_
          rotate_left
          · (intro wS hwS; obtain ⟨hcS, hfS, hhS⟩ := bcell hwS; go_simp; try (first | (with_reducible rfl) | rw [if_pos (by omega)] | rw [if_neg (by omega)]))
          try simp only [Act.put, List.getElem_toArray, List.getElem_cons_succ, List.getElem_cons_zero, List.setIfInBounds_toArray, List.set_cons_zero, List.set_cons_succ]
          refine stage_read (i := 20) (v := ?_) rfl (by kernel_rfl) (by kernel_rfl) (by kernel_rfl) (by kernel_rfl) (by kernel_rfl) (by kernel_rfl) (fun _ _ _ h => h) (Or.inl ⟨by kernel_rfl, ?_⟩) ?_
          rotate_left
          · (intro wS hwS; obtain ⟨hcS, hfS, hhS⟩ := bcell hwS; go_simp; try (first | (with_reducible rfl) | rw [if_pos (by omega)] | rw [if_neg (by omega)]))
          try simp only [Act.put, List.getElem_toArray, List.getElem_cons_succ, List.getElem_cons_zero, List.setIfInBounds_toArray, List.set_cons_zero, List.set_cons_succ]
          first | refine wpAnyT_done (by kernel_rfl) ?_ _ | refine wpAny_done (by kernel_rfl) ?_ _
          go_wp2_with fail
          go_ret
          exact ⟨rfl, HB.out⟩
end Go.Proofs.Ytcpkaolfafeojaa
