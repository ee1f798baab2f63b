
/- The law KvLists: the Go function returns true, whatever was asked, whatever the beginning. -/
import Derived.Test.YtcpkaolfafeojaaKvAwake
import Derived.Test.YtcpkaolfafeojaaKvInv
import Derived.Test.YtcpkaolfafeojaaOpenAsk
namespace Go.Proofs.Ytcpkaolfafeojaa
set_option linter.unusedVariables false
set_option linter.unusedSimpArgs false
open Go.RowKit
theorem cutA_key (o : Ask) : (cutA o).key.size ≤ 140 := cutS_size _ _
theorem big_max {n : Nat} (h : n ≤ 1000000) : n ≤ maxLen := by simp only [maxLen]; omega
theorem filter_at {l : List It} {p : It → Bool} {k : Nat} (h : k < l.length) (hp : p l[k] = true) : (l.filter p)[((l.take k).filter p).length]? = some l[k] := by
  have e : l = l.take k ++ (l[k] :: l.drop (k + 1)) := by rw [List.getElem_cons_drop, List.take_append_drop]
  have e2 : l.filter p = (l.take k).filter p ++ (l[k] :: (l.drop (k + 1)).filter p) := by
    conv => lhs; rw [e]
    rw [List.filter_append, List.filter_cons, if_pos hp]
  rw [e2, List.getElem?_append_right (Nat.le_refl _), Nat.sub_self]
  rfl
theorem field_items (a b c d : Value) (w : World) : (Instr.field 49 (.agg #[a, b, c, d]) 3).run Try.prog w = .ok d w := by
  simp [Instr.field, run_underlying Try.underlying49, asAgg, part, Try.isAgg47, go_sem]
set_option maxRecDepth 100000 in
set_option maxHeartbeats 4000000 in
theorem kvLists_walk {A : Option Addr} {n c : Nat} {L : List Ask} {a : ByteArray} (w : World) (hr : Rd w w.heap.size 6 A n c (L.flatMap Ask.row)) (hf : ∀ o ∈ L, o.fits) (ha : a.size ≤ maxLen) :
    Calls Try.prog 12 #[.slice A n c, .string a] w fun r w' => r = .returned (.bool true) ∧ Below w.heap.size w w' := by
  have hl := Rd.count (row := Ask.row) (fun _ => rfl) (by omega) hr
  have hmax := hr.max
  have hle := hr.le
  unfold maxLen at hmax
  subst hl
  have HR := Lib.hid hr
  have HF := Lib.hid hf
  have HNEW := Lib.hid (new_st w)
  clear hr hf
  go_enter Try.func12, Try.ntmps12
  go_upto_region 2 with (((with_reducible refine calls_id ?_); refine HNEW.out.mono ?_; rintro r w1 ⟨g, b, rfl, hst, hwb, hbg, hb⟩))
  have HST := Lib.hid hst
  have HB := Lib.hid hb
  clear hst hb HNEW
  go_wp2_with fail
  go_loopw [17] (fun i wr => ∃ (k N : Nat) (rev : Int) (l : List It), i = .int .i64 (k : Int) ∧ k ≤ L.length ∧ N ≤ k ∧ N ≤ 15 ∧ IsSt wr g b N rev l ∧ Inv9 rev l N ∧ Below w.heap.size w wr) (fun i _ => L.length - (intOf i).toNat)
  case atStart => exact ⟨0, 0, 0, [], rfl, Nat.zero_le _, Nat.le_refl _, by omega, HST.out, Inv9.nil, HB.out⟩
  case round =>
    clear HST HB
    obtain ⟨k, N, rev, l, rfl, hk, hNk, hN, hst, hinv, hb⟩ := hrel
    have hsz := hb.size
    by_cases hlt : k < L.length
    · obtain ⟨gs, off, e, hg, he⟩ := HR.out.elem (row := Ask.row) (fun _ => rfl) (by omega) (k := k) hlt
      subst e
      have hbc := bcell (Below.mono (B := w.heap.size) hb (Nat.le_refl _))
      have e0 := (hbc.1 _ _ hg).trans (he 0 _ rfl)
      have e1 := (hbc.1 _ _ hg).trans (he 1 _ rfl)
      have e2 := (hbc.1 _ _ hg).trans (he 2 _ rfl)
      have e3 := (hbc.1 _ _ hg).trans (he 3 _ rfl)
      have e4 := (hbc.1 _ _ hg).trans (he 4 _ rfl)
      have e5 := (hbc.1 _ _ hg).trans (he 5 _ rfl)
      rw [Nat.add_zero] at e0
      have hfo := HF.out _ (List.getElem_mem hlt)
      have hck := cutA_key L[k]
      have hci : (cutA L[k]).iff.size ≤ maxLen := hfo.2.2.2.2.1
      have HOU := Lib.hid (fun w => ours9_any L[k] w)
      clear he hbc hfo
      generalize hp : cutA L[k] = p at *
      clear hp
      generalize L[k] = o at *
      obtain ⟨ki, kk, v, r, i, j⟩ := o
      unfold Ask.v Ask.cells at HOU
      simp only at HOU
      have HDO := fun w2 (h : IsSt w2 g b N rev l) => do_any p w2 h (by omega) hinv.keys (big_max (by omega)) hci (plan_key rev l p (big_max (by omega)))
      have HI := Lib.hid (hinv.step (by omega) p)
      have HI0 := Lib.hid hinv
      clear hck hci hinv
      unfold DoR at HDO
      generalize planP rev l p = pl at *
      generalize doSt rev l p = ds at *
      obtain ⟨pki, pk, pv, pr, pi, pj⟩ := p
      obtain ⟨rev', l'⟩ := ds
      unfold Ask.v Ask.cells at HDO
      simp only at HDO HI
      have HDO := Lib.hid HDO
      have HST := Lib.hid hst
      have HB := Lib.hid hb
      clear hst hb
      go_upto_region 5 with fail
      obtain ⟨h7, hb2⟩ := one_at wr 40 [.int .i64 ki, .string kk, .string v, .int .i64 r, .string i, .int .i64 j]
      have hst := HST.out.step hb2
      have hb := chain HB.out hb2
      clear hb2 e0 e1 e2 e3 e4 e5 HST HB
      generalize World.alloc _ _ = w2 at *
      generalize wr.heap.size = g7 at *
      obtain ⟨⟨x0, x1, x2, x3, x4, x5⟩, xf⟩ := at6 h7
      by_cases h15 : k < 15
      · go_upto_region 7 with (((with_reducible refine calls_id ?_); refine (HOU.out _).mono ?_; rintro y w3 ⟨rfl, hb3⟩))
        obtain ⟨h8, h9, hb4⟩ := two_at w3 37 [.int .i64 pki, .string pk, .string pv, .int .i64 pr, .string pi, .int .i64 pj] 40 [.int .i64 pki, .string pk, .string pv, .int .i64 pr, .string pi, .int .i64 pj]
        replace hst := (hst.step hb3).step hb4
        replace hb := chain (chain hb hb3) hb4
        clear hb3 hb4 x0 x1 x2 x3 x4 x5 xf h7 HOU h9
        generalize World.alloc (World.alloc w3 _) _ = w4 at *
        generalize w3.heap.size = g8 at *
        obtain ⟨⟨x0, x1, x2, x3, x4, x5⟩, xf⟩ := at6 h8
        have HDO := Lib.hid (HDO.out w4 hst)
        have HB := Lib.hid hb
        clear hst hb
        go_wp2_with (((with_reducible refine calls_id ?_); refine HDO.out.mono ?_; rintro y w5 ⟨A5, n5, c5, rfl, _, hst5, hm5, _⟩))
        have hb5 := HB.out.trans (hm5.toBelow (fun i o hi e => by rcases e with e | e <;> omega) HB.out.size)
        clear x0 x1 x2 x3 x4 x5 xf h8
        go_roundw
        case rel => exact ⟨k + 1, N + 1, rev', l', by go_num, by omega, by omega, by omega, hst5, HI.out, hb5⟩
        case measure => simp [intOf]; omega
      · go_wp2_with fail
        clear x0 x1 x2 x3 x4 x5 xf h7
        go_roundw
        case rel => exact ⟨k + 1, N, rev, l, by go_num, by omega, by omega, hN, hst, HI0.out, hb⟩
        case measure => simp [intOf]; omega
    · obtain rfl : k = L.length := by omega
      clear HR HF
      have hinv2 := hinv.keys
      have hlo := hinv.lo
      have hhi := hinv.hi
      have hdo := do_any (rev := rev) (l := l) ⟨2, a, ⟨#[]⟩, 0, ⟨#[]⟩, 0⟩ wr hst (by omega) hinv2 ha (Nat.zero_le _) (plan_key _ _ _ ha)
      have hp : planP rev l ⟨2, a, ⟨#[]⟩, 0, ⟨#[]⟩, 0⟩ = ⟨⟨0, rev, ⟨#[]⟩, l.filter fun x => begB a x.k⟩, Eff.zero, false⟩ := by simp [planP]
      have hd : doSt rev l ⟨2, a, ⟨#[]⟩, 0, ⟨#[]⟩, 0⟩ = (rev, l) := by unfold doSt; rw [hp]; simp
      unfold DoR at hdo
      rw [hp, hd] at hdo
      unfold Ask.v Ask.cells at hdo
      simp only at hdo
      have HDO := Lib.hid hdo
      clear hdo hp hd
      have HB := Lib.hid hb
      have hst0 := Lib.hid hst
      clear hb hst
      go_upto_region 10 with (((with_reducible refine calls_id ?_); refine HDO.out.mono ?_; rintro y w2 ⟨A2, n2, c2, rfl, hown, hst2, _, hbl⟩))
      have hb2 := hbl trivial
      have hlk := hown.len
      have HLK := Lib.hid hlk
      obtain ⟨h10, hb3⟩ := one_at w2 49 [.int .i64 0, .int .i64 rev, .string ⟨#[]⟩, .slice A2 n2 c2]
      have hst3 := hst2.step hb3
      have hrd3 := (hown.rd).step hb3
      have HB := Lib.hid (chain (chain HB.out hb2) hb3)
      clear hown hst2 hb2 hb3 hbl hlk HDO hst0
      generalize World.alloc w2 _ = w3 at *
      obtain ⟨g10, hg10⟩ : ∃ g10, w2.heap.size = g10 := ⟨_, rfl⟩
      rw [hg10] at h10 ⊢
      clear hg10
      have HALL := Lib.hid (all_any w3 hst3 (by omega) hinv2)
      have hl100 : l.length ≤ 16 := by have := hst3.mp.len_le; omega
      have hn2 : n2 ≤ 16 := by have h1 := HLK.out; have := List.length_filter_le (fun x => begB a x.k) l; omega
      have HRI := Lib.hid hrd3
      have HH10 := Lib.hid h10
      have HST3 := Lib.hid hst3
      clear hrd3 h10 hst3
      go_upto_region 11 with fail
      go_wp2_with (((with_reducible refine calls_id ?_); refine HALL.out.mono ?_; rintro y w4 ⟨A4, n4, c4, rfl, hown4, hb4⟩); (have HL4 := Lib.hid hown4.len); (have hn4 : n4 ≤ 16 := by (have h1 := HL4.out; omega)); (have hmax4 := hown4.rd.max); (have hle4 := hown4.rd.le); unfold maxLen at hmax4)
      have HRA := Lib.hid hown4.rd
      have HB4 := Lib.hid hb4
      clear hown4 hb4 HALL
      go_loopw [11, 40] (fun cn i wr => ∃ k : Nat, i = .int .i64 (k : Int) ∧ cn = .int .i64 ((((l.take k).filter fun x => begB a x.k).length : Nat) : Int) ∧ k ≤ l.length ∧ Below w4.heap.size w4 wr) (fun _ i _ => l.length - (intOf i).toNat)
      case atStart => exact ⟨0, rfl, rfl, Nat.zero_le _, Below.refl _ _⟩
      case round =>
        obtain ⟨k, rfl, rfl, hk, hb⟩ := hrel
        have hsz4 := hb.size
        by_cases hlt : k < l.length
        · obtain ⟨gs, off, e, hg, he⟩ := HRA.out.elem It.row_length (by omega) (k := k) hlt
          subst e
          have hbc := bcell hb
          have e0 := (hbc.1 _ _ hg).trans (he 0 _ rfl)
          have e1 := (hbc.1 _ _ hg).trans (he 1 _ rfl)
          have e2 := (hbc.1 _ _ hg).trans (he 2 _ rfl)
          rw [Nat.add_zero] at e0
          have hft := filter_take (p := fun x => begB a x.k) hlt
          have hfa := filter_at (p := fun x => begB a x.k) hlt
          clear he hbc
          have hb3 := HB4.out.trans (hb.mono HB4.out.size)
          have h10 := HH10.out.step hb3
          have hri := HRI.out.step hb3
          generalize hln : ((l.take k).filter fun x => begB a x.k).length = q at *
          have hln2 : ((l.take (k + 1)).filter fun x => begB a x.k).length = q + (if begB a (l[k]).k then 1 else 0) := by
            rw [hft, List.length_append, hln]; split <;> rfl
          clear hft
          generalize l[k] = y at *
          obtain ⟨yk, yv, yr⟩ := y
          simp only at e0 e1 e2 hfa hln2
          have hkn : (k : Int) < (n4 : Int) := by have := HL4.out; omega
          have HLN2 := Lib.hid hln2
          have HFA := Lib.hid hfa
          have HHB := Lib.hid hb
          have HRI' := Lib.hid hri
          have HH := Lib.hid h10
          clear hln hln2 hfa hb3 hb h10 hri
          go_upto_region 14 with fail
          obtain ⟨hy, hb2⟩ := one_at wr 97 [.string yk, .string yv, .int .i64 yr]
          have HHB := Lib.hid (chain HHB.out hb2)
          have hri := HRI'.out.step hb2
          have h10 := HH.out.step hb2
          clear hb2 e0 e1 e2 HRI' HH
          generalize World.alloc wr _ = w5 at *
          obtain ⟨gy, hgy⟩ : ∃ gy, wr.heap.size = gy := ⟨_, rfl⟩
          rw [hgy] at hy hsz4 ⊢
          clear hgy
          obtain ⟨⟨y0, y1, y2⟩, yf⟩ := at3 hy
          obtain ⟨⟨x0, x1, x2, x3⟩, xf⟩ := at4 h10
          have hcmp : ((yk.extract 0 a.size).toList == a.toList) = decide (yk.extract 0 a.size = a) := ba_beq _ _
          have hq : begB a yk = (decide (a.size ≤ yk.size) && decide (yk.extract 0 a.size = a)) := rfl
          by_cases hs : a.size ≤ yk.size
          · rw [decide_eq_true hs, Bool.true_and] at hq
            by_cases he : yk.extract 0 a.size = a
            · rw [decide_eq_true he] at hq hcmp
              clear he
              have hln3 := HLN2.out
              rw [hq] at hln3
              simp only [if_true] at hln3
              obtain ⟨hql, hqe⟩ := List.getElem?_eq_some_iff.1 (HFA.out hq)
              obtain ⟨g2, off2, eA2, hg2, he2⟩ := hri.elem It.row_length (by omega) (k := q) hql
              rw [hqe] at he2
              subst eA2
              have f0 := he2 0 _ rfl
              have f1 := he2 1 _ rfl
              have f2 := he2 2 _ rfl
              rw [Nat.add_zero] at f0
              simp only at f0 f1 f2
              have hqn : q < n2 := by have := HLK.out; omega
              have HLN3 := Lib.hid hln3
              have hqi : (q : Int) < (n2 : Int) := by omega
              have hqd : decide ((n2 : Int) ≤ (q : Int)) = false := decide_eq_false (by omega)
              have hqd2 : decide (n2 ≤ q) = false := decide_eq_false (by omega)
              clear he2 hqe hql hln3 hq hri h10 hy
              go_upto_region 15 with fail
              go_quiet (fail)
              clear y0 y1 y2 yf x0 x1 x2 x3 xf f0 f1 f2 hcmp hqi hqd hqd2
              go_wp2_with fail
              go_roundw
              case rel => exact ⟨k + 1, by go_num, by rw [HLN3.out]; simp, by omega, below_drewN HHB.out _⟩
              case measure => simp [intOf]; omega
            · rw [decide_eq_false he] at hq hcmp
              have hln3 := HLN2.out
              rw [hq] at hln3
              have HLN3 := Lib.hid hln3
              clear hq he hln3 hri h10 hy
              go_wp2_with fail
              clear y0 y1 y2 yf x0 x1 x2 x3 xf hcmp
              go_roundw
              case rel => exact ⟨k + 1, by go_num, by rw [HLN3.out]; simp, by omega, HHB.out⟩
              case measure => simp [intOf]; omega
          · rw [decide_eq_false hs, Bool.false_and] at hq
            have hln3 := HLN2.out
            rw [hq] at hln3
            have HLN3 := Lib.hid hln3
            clear hq hcmp hln3 hri h10 hy
            go_wp2_with fail
            clear y0 y1 y2 yf x0 x1 x2 x3 xf
            go_roundw
            case rel => exact ⟨k + 1, by go_num, by rw [HLN3.out]; simp, by omega, HHB.out⟩
            case measure => simp [intOf]; omega
        · obtain rfl : k = l.length := by omega
          rw [List.take_length]
          have hb3 := HB4.out.trans (hb.mono HB4.out.size)
          have hst := HST3.out.step hb3
          have h10 := HH10.out.step hb3
          have HB := Lib.hid (chain HB.out hb3)
          have HN2 := Lib.hid HLK.out.symm
          generalize ((l.filter fun x => begB a x.k).length) = m at *
          obtain rfl : m = n2 := by first | exact HN2.out | exact HN2.out.symm
          have hkn : ¬ ((l.length : Int) < (n4 : Int)) := by have := HL4.out; omega
          clear HB4 hb hb3 HLK HN2 HRA HRI HST3 HH10 HL4
          go_upto_region 19 with fail
          refine region_any (by kernel_rfl) ?_
          change wpAny _ _ _ _ _ _ _ (World.drew _)
          replace hst := hst.drew
          replace h10 := h10.drew
          have HB := Lib.hid HB.out.drew
          generalize World.drew _ = w5 at *
          have hrev := rev_any w5 hst
          have hdo := do_any (rev := rev) (l := l) ⟨2, ⟨#[]⟩, ⟨#[]⟩, 0, ⟨#[]⟩, 0⟩ w5 hst (by omega) hinv2 (Nat.zero_le _) (Nat.zero_le _) (plan_key _ _ _ (Nat.zero_le _))
          have hp : planP rev l ⟨2, ⟨#[]⟩, ⟨#[]⟩, 0, ⟨#[]⟩, 0⟩ = ⟨⟨0, rev, ⟨#[]⟩, l⟩, Eff.zero, false⟩ := by
            have e : (l.filter fun x => begB ⟨#[]⟩ x.k) = l := List.filter_eq_self.2 fun x _ => begB_nil _
            simp [planP, e]
          have hd : doSt rev l ⟨2, ⟨#[]⟩, ⟨#[]⟩, 0, ⟨#[]⟩, 0⟩ = (rev, l) := by unfold doSt; rw [hp]; simp
          unfold DoR at hdo
          rw [hp, hd] at hdo
          unfold Ask.v Ask.cells at hdo
          simp only at hdo
          clear hp hd
          have l10 := h10.lt
          have lst := hst.lt.1
          obtain ⟨⟨x0, x1, x2, x3⟩, xf⟩ := at4 h10
          have hfi := field_items
          refine stage 100000 ?_
          refine stage_read (i := 0) (v := ?_) rfl (by kernel_rfl) (by kernel_rfl) (by kernel_rfl) (by kernel_rfl) (by kernel_rfl) (by kernel_rfl) (fun _ _ _ h => h) (Or.inl ⟨by kernel_rfl, ?_⟩) ?_
          rotate_left
          · (intro wS hwS; obtain ⟨hcS, hfS, hhS⟩ := bcell hwS; go_simp; try (first | (with_reducible rfl) | rw [if_pos (by omega)] | rw [if_neg (by omega)]))
          try simp only [Act.put, List.getElem_toArray, List.getElem_cons_succ, List.getElem_cons_zero, List.setIfInBounds_toArray, List.set_cons_zero, List.set_cons_succ]
          refine stage_read (i := 1) (v := ?_) rfl (by kernel_rfl) (by kernel_rfl) (by kernel_rfl) (by kernel_rfl) (by kernel_rfl) (by kernel_rfl) (fun _ _ _ h => h) (Or.inl ⟨by kernel_rfl, ?_⟩) ?_
          rotate_left
          · (intro wS hwS; obtain ⟨hcS, hfS, hhS⟩ := bcell hwS; go_simp; try (first | (with_reducible rfl) | rw [if_pos (by omega)] | rw [if_neg (by omega)]))
          try simp only [Act.put, List.getElem_toArray, List.getElem_cons_succ, List.getElem_cons_zero, List.setIfInBounds_toArray, List.set_cons_zero, List.set_cons_succ]
          refine stage_read (i := 2) (v := ?_) rfl (by kernel_rfl) (by kernel_rfl) (by kernel_rfl) (by kernel_rfl) (by kernel_rfl) (by kernel_rfl) (fun _ _ _ h => h) (Or.inl ⟨by kernel_rfl, ?_⟩) ?_
          rotate_left
          · (intro wS hwS; obtain ⟨hcS, hfS, hhS⟩ := bcell hwS; go_simp; try (first | (with_reducible rfl) | rw [if_pos (by omega)] | rw [if_neg (by omega)]))
          try simp only [Act.put, List.getElem_toArray, List.getElem_cons_succ, List.getElem_cons_zero, List.setIfInBounds_toArray, List.set_cons_zero, List.set_cons_succ]
          refine stage_read (i := 3) (v := ?_) rfl (by kernel_rfl) (by kernel_rfl) (by kernel_rfl) (by kernel_rfl) (by kernel_rfl) (by kernel_rfl) (fun _ _ _ h => h) (Or.inl ⟨by kernel_rfl, ?_⟩) ?_
          rotate_left
          · (intro wS hwS; obtain ⟨hcS, hfS, hhS⟩ := bcell hwS; go_simp; try (first | (with_reducible rfl) | rw [if_pos (by omega)] | rw [if_neg (by omega)]))
          try simp only [Act.put, List.getElem_toArray, List.getElem_cons_succ, List.getElem_cons_zero, List.setIfInBounds_toArray, List.set_cons_zero, List.set_cons_succ]
          refine stage_read (i := 4) (v := ?_) rfl (by kernel_rfl) (by kernel_rfl) (by kernel_rfl) (by kernel_rfl) (by kernel_rfl) (by kernel_rfl) (fun _ _ _ h => h) (Or.inl ⟨by kernel_rfl, ?_⟩) ?_
          rotate_left
          · (intro wS hwS; obtain ⟨hcS, hfS, hhS⟩ := bcell hwS; go_simp; try (first | (with_reducible rfl) | rw [if_pos (by omega)] | rw [if_neg (by omega)]))
          try simp only [Act.put, List.getElem_toArray, List.getElem_cons_succ, List.getElem_cons_zero, List.setIfInBounds_toArray, List.set_cons_zero, List.set_cons_succ]
          refine stage_read (i := 5) (v := ?_) rfl (by kernel_rfl) (by kernel_rfl) (by kernel_rfl) (by kernel_rfl) (by kernel_rfl) (by kernel_rfl) (fun _ _ _ h => h) (Or.inl ⟨by kernel_rfl, ?_⟩) ?_
          rotate_left
          · (intro wS hwS; obtain ⟨hcS, hfS, hhS⟩ := bcell hwS; go_simp; try (first | (with_reducible rfl) | rw [if_pos (by omega)] | rw [if_neg (by omega)]))
          try simp only [Act.put, List.getElem_toArray, List.getElem_cons_succ, List.getElem_cons_zero, List.setIfInBounds_toArray, List.set_cons_zero, List.set_cons_succ]
          refine stage_read (i := 6) (v := ?_) rfl (by kernel_rfl) (by kernel_rfl) (by kernel_rfl) (by kernel_rfl) (by kernel_rfl) (by kernel_rfl) (fun _ _ _ h => h) (Or.inl ⟨by kernel_rfl, ?_⟩) ?_
          rotate_left
          · (intro wS hwS; obtain ⟨hcS, hfS, hhS⟩ := bcell hwS; go_simp; try (first | (with_reducible rfl) | rw [if_pos (by omega)] | rw [if_neg (by omega)]))
          try simp only [Act.put, List.getElem_toArray, List.getElem_cons_succ, List.getElem_cons_zero, List.setIfInBounds_toArray, List.set_cons_zero, List.set_cons_succ]
          refine stage_read (i := 7) (v := ?_) rfl (by kernel_rfl) (by kernel_rfl) (by kernel_rfl) (by kernel_rfl) (by kernel_rfl) (by kernel_rfl) (fun _ _ _ h => h) (Or.inl ⟨by kernel_rfl, ?_⟩) ?_
          rotate_left
          · (intro wS hwS; obtain ⟨hcS, hfS, hhS⟩ := bcell hwS; go_simp; try (first | (with_reducible rfl) | rw [if_pos (by omega)] | rw [if_neg (by omega)]))
          try simp only [Act.put, List.getElem_toArray, List.getElem_cons_succ, List.getElem_cons_zero, List.setIfInBounds_toArray, List.set_cons_zero, List.set_cons_succ]
          refine stage_read (i := 8) (v := ?_) rfl (by kernel_rfl) (by kernel_rfl) (by kernel_rfl) (by kernel_rfl) (by kernel_rfl) (by kernel_rfl) (fun _ _ _ h => h) (Or.inl ⟨by kernel_rfl, ?_⟩) ?_
          rotate_left
          · (intro wS hwS; obtain ⟨hcS, hfS, hhS⟩ := bcell hwS; go_simp; try (first | (with_reducible rfl) | rw [if_pos (by omega)] | rw [if_neg (by omega)]))
          try simp only [Act.put, List.getElem_toArray, List.getElem_cons_succ, List.getElem_cons_zero, List.setIfInBounds_toArray, List.set_cons_zero, List.set_cons_succ]
          refine stage_read (i := 9) (v := ?_) rfl (by kernel_rfl) (by kernel_rfl) (by kernel_rfl) (by kernel_rfl) (by kernel_rfl) (by kernel_rfl) (fun _ _ _ h => h) (Or.inl ⟨by kernel_rfl, ?_⟩) ?_
          rotate_left
          · (intro wS hwS; obtain ⟨hcS, hfS, hhS⟩ := bcell hwS; go_simp; try (first | (with_reducible rfl) | rw [if_pos (by omega)] | rw [if_neg (by omega)]))
          try simp only [Act.put, List.getElem_toArray, List.getElem_cons_succ, List.getElem_cons_zero, List.setIfInBounds_toArray, List.set_cons_zero, List.set_cons_succ]
          refine stage_read (i := 10) (v := ?_) rfl (by kernel_rfl) (by kernel_rfl) (by kernel_rfl) (by kernel_rfl) (by kernel_rfl) (by kernel_rfl) (fun _ _ _ h => h) (Or.inl ⟨by kernel_rfl, ?_⟩) ?_
          rotate_left
          · (intro wS hwS; obtain ⟨hcS, hfS, hhS⟩ := bcell hwS; go_simp; try (first | (with_reducible rfl) | rw [if_pos (by omega)] | rw [if_neg (by omega)]))
          try simp only [Act.put, List.getElem_toArray, List.getElem_cons_succ, List.getElem_cons_zero, List.setIfInBounds_toArray, List.set_cons_zero, List.set_cons_succ]
          refine stage_read (i := 11) (v := ?_) rfl (by kernel_rfl) (by kernel_rfl) (by kernel_rfl) (by kernel_rfl) (by kernel_rfl) (by kernel_rfl) (fun _ _ _ h => h) (Or.inl ⟨by kernel_rfl, ?_⟩) ?_
          rotate_left
          · (intro wS hwS; obtain ⟨hcS, hfS, hhS⟩ := bcell hwS; go_simp; try (first | (with_reducible rfl) | rw [if_pos (by omega)] | rw [if_neg (by omega)]))
          try simp only [Act.put, List.getElem_toArray, List.getElem_cons_succ, List.getElem_cons_zero, List.setIfInBounds_toArray, List.set_cons_zero, List.set_cons_succ]
          refine stage_read (i := 12) (v := ?_) rfl (by kernel_rfl) (by kernel_rfl) (by kernel_rfl) (by kernel_rfl) (by kernel_rfl) (by kernel_rfl) (fun _ _ _ h => h) (Or.inl ⟨by kernel_rfl, ?_⟩) ?_
          rotate_left
          · (intro wS hwS; obtain ⟨hcS, hfS, hhS⟩ := bcell hwS; go_simp; try (first | (with_reducible rfl) | rw [if_pos (by omega)] | rw [if_neg (by omega)]))
          try simp only [Act.put, List.getElem_toArray, List.getElem_cons_succ, List.getElem_cons_zero, List.setIfInBounds_toArray, List.set_cons_zero, List.set_cons_succ]
          refine stage_read (i := 13) (v := ?_) rfl (by kernel_rfl) (by kernel_rfl) (by kernel_rfl) (by kernel_rfl) (by kernel_rfl) (by kernel_rfl) (fun _ _ _ h => h) (Or.inl ⟨by kernel_rfl, ?_⟩) ?_
          rotate_left
          · (intro wS hwS; obtain ⟨hcS, hfS, hhS⟩ := bcell hwS; go_simp; try (first | (with_reducible rfl) | rw [if_pos (by omega)] | rw [if_neg (by omega)]))
          try simp only [Act.put, List.getElem_toArray, List.getElem_cons_succ, List.getElem_cons_zero, List.setIfInBounds_toArray, List.set_cons_zero, List.set_cons_succ]
          refine stage_one 14 (by kernel_rfl) rfl (by kernel_rfl) (fun K hK => ?_)
          go_simp
          refine hrev.mono ?_
          rintro r w6 ⟨rfl, rfl⟩
          refine hK.out _ _ (Below.refl _ _) ?_
          clear hK K
          try simp only [Act.put, List.getElem_toArray, List.getElem_cons_succ, List.getElem_cons_zero, List.setIfInBounds_toArray, List.set_cons_zero, List.set_cons_succ]
          refine stage_read (i := 15) (v := ?_) rfl (by kernel_rfl) (by kernel_rfl) (by kernel_rfl) (by kernel_rfl) (by kernel_rfl) (by kernel_rfl) (fun _ _ _ h => h) (Or.inl ⟨by kernel_rfl, ?_⟩) ?_
          rotate_left
          · (intro wS hwS; obtain ⟨hcS, hfS, hhS⟩ := bcell hwS; go_simp; try (first | (with_reducible rfl) | rw [if_pos (by omega)] | rw [if_neg (by omega)]))
          try simp only [Act.put, List.getElem_toArray, List.getElem_cons_succ, List.getElem_cons_zero, List.setIfInBounds_toArray, List.set_cons_zero, List.set_cons_succ]
          refine stage_read (i := 16) (v := ?_) rfl (by kernel_rfl) (by kernel_rfl) (by kernel_rfl) (by kernel_rfl) (by kernel_rfl) (by kernel_rfl) (fun _ _ _ h => h) (Or.inl ⟨by kernel_rfl, ?_⟩) ?_
          rotate_left
          · (intro wS hwS; obtain ⟨hcS, hfS, hhS⟩ := bcell hwS; go_simp; try (first | (with_reducible rfl) | rw [if_pos (by omega)] | rw [if_neg (by omega)]))
          try simp only [Act.put, List.getElem_toArray, List.getElem_cons_succ, List.getElem_cons_zero, List.setIfInBounds_toArray, List.set_cons_zero, List.set_cons_succ]
          refine stage_read (i := 17) (v := ?_) rfl (by kernel_rfl) (by kernel_rfl) (by kernel_rfl) (by kernel_rfl) (by kernel_rfl) (by kernel_rfl) (fun _ _ _ h => h) (Or.inl ⟨by kernel_rfl, ?_⟩) ?_
          rotate_left
          · (intro wS hwS; obtain ⟨hcS, hfS, hhS⟩ := bcell hwS; go_simp; try (first | (with_reducible rfl) | rw [if_pos (by omega)] | rw [if_neg (by omega)]))
          try simp only [Act.put, List.getElem_toArray, List.getElem_cons_succ, List.getElem_cons_zero, List.setIfInBounds_toArray, List.set_cons_zero, List.set_cons_succ]
          refine stage_read (i := 18) (v := ?_) rfl (by kernel_rfl) (by kernel_rfl) (by kernel_rfl) (by kernel_rfl) (by kernel_rfl) (by kernel_rfl) (fun _ _ _ h => h) (Or.inl ⟨by kernel_rfl, ?_⟩) ?_
          rotate_left
          · (intro wS hwS; obtain ⟨hcS, hfS, hhS⟩ := bcell hwS; go_simp; try (first | (with_reducible rfl) | rw [if_pos (by omega)] | rw [if_neg (by omega)]))
          try simp only [Act.put, List.getElem_toArray, List.getElem_cons_succ, List.getElem_cons_zero, List.setIfInBounds_toArray, List.set_cons_zero, List.set_cons_succ]
          refine stage_read (i := 19) (v := ?_) rfl (by kernel_rfl) (by kernel_rfl) (by kernel_rfl) (by kernel_rfl) (by kernel_rfl) (by kernel_rfl) (fun _ _ _ h => h) (Or.inl ⟨by kernel_rfl, ?_⟩) ?_
          rotate_left
          · (intro wS hwS; obtain ⟨hcS, hfS, hhS⟩ := bcell hwS; go_simp; try (first | (with_reducible rfl) | rw [if_pos (by omega)] | rw [if_neg (by omega)]))
          try simp only [Act.put, List.getElem_toArray, List.getElem_cons_succ, List.getElem_cons_zero, List.setIfInBounds_toArray, List.set_cons_zero, List.set_cons_succ]
          refine stage_read (i := 23) (v := ?_) rfl (by kernel_rfl) (by kernel_rfl) (by kernel_rfl) (by kernel_rfl) (by kernel_rfl) (by kernel_rfl) (fun _ _ _ h => h) (Or.inl ⟨by kernel_rfl, ?_⟩) ?_
          rotate_left
          · (intro wS hwS; obtain ⟨hcS, hfS, hhS⟩ := bcell hwS; go_simp; try (first | (with_reducible rfl) | rw [if_pos (by omega)] | rw [if_neg (by omega)]))
          try simp only [Act.put, List.getElem_toArray, List.getElem_cons_succ, List.getElem_cons_zero, List.setIfInBounds_toArray, List.set_cons_zero, List.set_cons_succ]
          refine stage_one 20 (by kernel_rfl) rfl (by kernel_rfl) (fun K hK => ?_)
          go_simp
          refine hdo.mono ?_
          rintro r w6 ⟨A6, n6, c6, rfl, ho6, hst6, hm6, hb6⟩
          replace hb6 := hb6 trivial
          have h6l := ho6.len
          replace ho6 := ho6
          refine hK.out _ _ (hb6) ?_
          clear hK K
          try simp only [Act.put, List.getElem_toArray, List.getElem_cons_succ, List.getElem_cons_zero, List.setIfInBounds_toArray, List.set_cons_zero, List.set_cons_succ]
          replace h10 := h10.step hb6
          have HB := Lib.hid (chain HB.out hb6)
          clear hb6 hm6 ho6 hst x0 x1 x2 x3 xf hdo hrev
          have l10 := h10.lt
          have lst := hst6.lt.1
          obtain ⟨⟨x0, x1, x2, x3⟩, xf⟩ := at4 h10
          refine stage_read (i := 21) (v := ?_) rfl (by kernel_rfl) (by kernel_rfl) (by kernel_rfl) (by kernel_rfl) (by kernel_rfl) (by kernel_rfl) (fun _ _ _ h => h) (Or.inl ⟨by kernel_rfl, ?_⟩) ?_
          rotate_left
          · (intro wS hwS; obtain ⟨hcS, hfS, hhS⟩ := bcell hwS; go_simp; try (first | (with_reducible rfl) | rw [if_pos (by omega)] | rw [if_neg (by omega)]))
          try simp only [Act.put, List.getElem_toArray, List.getElem_cons_succ, List.getElem_cons_zero, List.setIfInBounds_toArray, List.set_cons_zero, List.set_cons_succ]
          refine stage_read (i := 22) (v := ?_) rfl (by kernel_rfl) (by kernel_rfl) (by kernel_rfl) (by kernel_rfl) (by kernel_rfl) (by kernel_rfl) (fun _ _ _ h => h) (Or.inl ⟨by kernel_rfl, ?_⟩) ?_
          rotate_left
          · (intro wS hwS; obtain ⟨hcS, hfS, hhS⟩ := bcell hwS; go_simp; try (first | (with_reducible rfl) | rw [if_pos (by omega)] | rw [if_neg (by omega)]))
          try simp only [Act.put, List.getElem_toArray, List.getElem_cons_succ, List.getElem_cons_zero, List.setIfInBounds_toArray, List.set_cons_zero, List.set_cons_succ]
          refine stage_one 24 (by kernel_rfl) rfl (by kernel_rfl) (fun K hK => ?_)
          go_simp
          refine (len_any _ hst6).mono ?_
          rintro r w7 ⟨rfl, rfl⟩
          refine hK.out _ _ (Below.refl _ _) ?_
          clear hK K
          try simp only [Act.put, List.getElem_toArray, List.getElem_cons_succ, List.getElem_cons_zero, List.setIfInBounds_toArray, List.set_cons_zero, List.set_cons_succ]
          obtain rfl : n6 = l.length := by first | exact h6l | exact h6l.symm
          refine stage_read (i := 25) (v := ?_) rfl (by kernel_rfl) (by kernel_rfl) (by kernel_rfl) (by kernel_rfl) (by kernel_rfl) (by kernel_rfl) (fun _ _ _ h => h) (Or.inl ⟨by kernel_rfl, ?_⟩) ?_
          rotate_left
          · (intro wS hwS; obtain ⟨hcS, hfS, hhS⟩ := bcell hwS; go_simp; try (first | (with_reducible rfl) | rw [if_pos (by omega)] | rw [if_neg (by omega)]))
          try simp only [Act.put, List.getElem_toArray, List.getElem_cons_succ, List.getElem_cons_zero, List.setIfInBounds_toArray, List.set_cons_zero, List.set_cons_succ]
          refine stage_read (i := 26) (v := ?_) rfl (by kernel_rfl) (by kernel_rfl) (by kernel_rfl) (by kernel_rfl) (by kernel_rfl) (by kernel_rfl) (fun _ _ _ h => h) (Or.inl ⟨by kernel_rfl, ?_⟩) ?_
          rotate_left
          · (intro wS hwS; obtain ⟨hcS, hfS, hhS⟩ := bcell hwS; go_simp; try (first | (with_reducible rfl) | rw [if_pos (by omega)] | rw [if_neg (by omega)]))
          try simp only [Act.put, List.getElem_toArray, List.getElem_cons_succ, List.getElem_cons_zero, List.setIfInBounds_toArray, List.set_cons_zero, List.set_cons_succ]
          refine stage_read (i := 27) (v := ?_) rfl (by kernel_rfl) (by kernel_rfl) (by kernel_rfl) (by kernel_rfl) (by kernel_rfl) (by kernel_rfl) (fun _ _ _ h => h) (Or.inl ⟨by kernel_rfl, ?_⟩) ?_
          rotate_left
          · (intro wS hwS; obtain ⟨hcS, hfS, hhS⟩ := bcell hwS; go_simp; try (first | (with_reducible rfl) | rw [if_pos (by omega)] | rw [if_neg (by omega)]))
          try simp only [Act.put, List.getElem_toArray, List.getElem_cons_succ, List.getElem_cons_zero, List.setIfInBounds_toArray, List.set_cons_zero, List.set_cons_succ]
          refine stage_one 28 (by kernel_rfl) rfl (by kernel_rfl) (fun K hK => ?_)
          go_simp
          refine (awake9_any _).mono ?_
          rintro r w7 ⟨rfl, hb7⟩
          refine hK.out _ _ (hb7) ?_
          clear hK K
          try simp only [Act.put, List.getElem_toArray, List.getElem_cons_succ, List.getElem_cons_zero, List.setIfInBounds_toArray, List.set_cons_zero, List.set_cons_succ]
          have HB := Lib.hid (chain HB.out hb7)
          refine stage_read (i := 29) (v := ?_) rfl (by kernel_rfl) (by kernel_rfl) (by kernel_rfl) (by kernel_rfl) (by kernel_rfl) (by kernel_rfl) (fun _ _ _ h => h) (Or.inl ⟨by kernel_rfl, ?_⟩) ?_
          rotate_left
          · (intro wS hwS; obtain ⟨hcS, hfS, hhS⟩ := bcell hwS; go_simp; try (first | (with_reducible rfl) | rw [if_pos (by omega)] | rw [if_neg (by omega)]))
          try simp only [Act.put, List.getElem_toArray, List.getElem_cons_succ, List.getElem_cons_zero, List.setIfInBounds_toArray, List.set_cons_zero, List.set_cons_succ]
          refine stage_read (i := 30) (v := ?_) rfl (by kernel_rfl) (by kernel_rfl) (by kernel_rfl) (by kernel_rfl) (by kernel_rfl) (by kernel_rfl) (fun _ _ _ h => h) (Or.inl ⟨by kernel_rfl, ?_⟩) ?_
          rotate_left
          · (intro wS hwS; obtain ⟨hcS, hfS, hhS⟩ := bcell hwS; go_simp; try (first | (with_reducible rfl) | rw [if_pos (by omega)] | rw [if_neg (by omega)]))
          try simp only [Act.put, List.getElem_toArray, List.getElem_cons_succ, List.getElem_cons_zero, List.setIfInBounds_toArray, List.set_cons_zero, List.set_cons_succ]
          first | refine wpAnyT_done (by kernel_rfl) ?_ _ | refine wpAny_done (by kernel_rfl) ?_ _
          go_wp2_with fail
          go_ret
          exact ⟨rfl, HB.out⟩
end Go.Proofs.Ytcpkaolfafeojaa
