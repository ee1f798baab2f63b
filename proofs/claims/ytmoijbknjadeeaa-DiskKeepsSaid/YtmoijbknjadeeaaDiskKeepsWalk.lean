
/- The law DiskKeeps: the Go function returns true: behind a crash each file has at least what was sure. -/
import Derived.Test.YtmoijbknjadeeaaDiskPlaysWalk
namespace Go.Proofs.Ytmoijbknjadeeaa
set_option linter.unusedVariables false
set_option linter.unusedSimpArgs false
open Go.RowKit
/-- what a crash leaves of a file -/
theorem crash_one {ks : List Nat} {l l' : List Fi} (hc : l'.map Fi.core = crashF ks 0 l) (ha : AscF l') {k : Nat} (hk : k < l.length) (hs : 0 ≤ (l[k]).s ∧ (l[k]).s ≤ (l[k]).b.length) :
    ∃ m : Nat, (l[k]).s ≤ (m : Int) ∧ m ≤ (l[k]).b.length ∧ rdCode l' false (l[k]).k = 0 ∧ rdBytes l' false (l[k]).k = (l[k]).b.take m ∧ (getF l' (l[k]).k).s = (m : Int) := by
  have hl : l'.length = l.length := by have := congrArg List.length hc; rw [List.length_map, crashF_length] at this; exact this
  have hk2 : k < l'.length := by omega
  have e := crashF_at ks 0 k l hk
  rw [← hc, List.getElem?_map, List.getElem?_eq_getElem hk2, Nat.zero_add] at e
  have e2 := Option.some.inj e
  have e3 : (l'[k]).b = (l[k]).b.take (crashN ks k l[k]) := (congrArg Fi.b e2 : (l'[k]).core.b = (crashX ks k l[k]).b)
  have e4 : (l'[k]).k = (l[k]).k := (congrArg Fi.k e2 : (l'[k]).core.k = (crashX ks k l[k]).k)
  have e5 : (l'[k]).s = (crashN ks k l[k] : Int) := (congrArg Fi.s e2 : (l'[k]).core.s = (crashX ks k l[k]).s)
  have hg := getF_mem ha (x := l'[k]) (List.getElem_mem hk2)
  have hf : (findF l' (l'[k]).k).isSome = true := by
    unfold findF
    rw [List.find?_isSome]
    exact ⟨l'[k], List.getElem_mem hk2, by simp⟩
  rw [e4] at hg hf
  refine ⟨crashN ks k l[k], ?_, crashN_le (by omega), ?_, ?_, ?_⟩
  · unfold crashN; omega
  · unfold rdCode; rw [hf]; rfl
  · unfold rdBytes; rw [hf, hg, ← e3]; rfl
  · rw [hg, e5]
theorem take_extract (b : List UInt8) (m : Nat) : (⟨b.toArray⟩ : ByteArray).extract 0 m = ⟨(b.take m).toArray⟩ := by
  apply ByteArray.ext
  rw [ByteArray.data_extract]
  simp
set_option maxRecDepth 100000 in
set_option maxHeartbeats 4000000 in
theorem diskKeeps_walk {A : Option Addr} {n c : Nat} {L : List Opr} {Ak : Option Addr} {nk ck : Nat} {ks : List Nat} (w : World) (hr : Rd w w.heap.size 6 A n c (L.flatMap Opr.row)) (hf : ∀ o ∈ L, o.keeps w) (hk : RdK w w.heap.size Ak nk ck ks) (hks : ∀ x ∈ ks, x < 65536) :
    Calls Try.prog 5 #[.slice A n c, .slice Ak nk ck] w fun r w' => r = .returned (.bool true) ∧ Below w.heap.size w w' := by
  have hl := Rd.count Opr.row_length (by omega) hr
  have hmax := hr.max
  have hle := hr.le
  unfold maxLen at hmax
  subst hl
  have HR := Lib.hid hr
  have HF := Lib.hid hf
  have HK := Lib.hid hk
  have HKS := Lib.hid hks
  have HRN := fun v => rnew_any v
  clear hr hf hk hks
  go_enter Try.func5, Try.ntmps5
  go_upto_region 2 with (first | (((with_reducible refine ((new_dk w)).mono ?_); rintro z w1 ⟨gd, bd, rfl, hd, hwb, hbg, hb1⟩)) | (((with_reducible refine ((HRN _)).mono ?_); rintro z w2 ⟨gr, rfl, hrf, hwr, hb2⟩)))
  have hB := chain hb1 hb2
  have hb0 : Both w2 gd bd gr 0 [] false false 0 0 := ⟨hd.step hb2, hrf, bd_nil⟩
  have hwr2 : w.heap.size ≤ gr := Nat.le_trans hb1.size hwr
  have HB := Lib.hid hB
  have HBO := Lib.hid hb0
  clear hb1 hb2 hB hb0 hd hrf hwr HRN
  go_wp2_with fail
  go_loopw [18] (fun i wr => ∃ (k j N : Nat) (l : List Fi) (lost armed : Bool) (left : Int), i = .int .i64 (k : Int) ∧ k ≤ L.length ∧ j ≤ k ∧ j ≤ 30 ∧ N ≤ 50 * j ∧ l.length ≤ j ∧ Both wr gd bd gr N l lost armed left (50 * j) ∧ Below w.heap.size w wr) (fun i _ => L.length - (intOf i).toNat)
  case atStart => exact ⟨0, 0, 0, [], false, false, 0, rfl, Nat.zero_le _, by omega, by omega, by omega, by simp, HBO.out, HB.out⟩
  case round =>
    clear HB HBO
    obtain ⟨k, j, N, l, lost, armed, left, rfl, hk, hjk, hj30, hN, hll, hbo, hB⟩ := hrel
    have hsz := hB.size
    by_cases hlt : k < L.length
    · obtain ⟨gs, off, e, hg, he⟩ := HR.out.elem Opr.row_length (by omega) (k := k) hlt
      subst e
      have hbc := bcell (Below.mono (B := w.heap.size) hB (Nat.le_refl _))
      have e0 := (hbc.1 _ _ hg).trans (he 0 _ rfl)
      have e1 := (hbc.1 _ _ hg).trans (he 1 _ rfl)
      have e2 := (hbc.1 _ _ hg).trans (he 2 _ rfl)
      have e3 := (hbc.1 _ _ hg).trans (he 3 _ rfl)
      have e4 := (hbc.1 _ _ hg).trans (he 4 _ rfl)
      have e5 := (hbc.1 _ _ hg).trans (he 5 _ rfl)
      rw [Nat.add_zero] at e0
      obtain ⟨hfit, ks2, hks, hkb⟩ := HF.out _ (List.getElem_mem hlt)
      have HKS2 := Lib.hid hks
      have HKB := Lib.hid hkb
      clear he hbc hks hkb
      generalize L[k] = o at *
      go_upto_region 5 with fail
      obtain ⟨h7, hb9⟩ := one_at wr 40 [.int .i64 o.kind, .string o.name, .string o.to, .string o.b, .int .i64 o.n, .slice o.A o.kn o.kc]
      replace hbo := hbo.step hb9
      replace hB := chain hB hb9
      clear hb9 e0 e1 e2 e3 e4 e5
      generalize World.alloc _ _ = w4 at *
      generalize wr.heap.size = g7 at *
      by_cases h30 : k < 30
      ·
        have hd30 : decide ((k : Int) < 30) = true := decide_eq_true (by omega)
        obtain ⟨⟨x0, x1, x2, x3, x4, x5⟩, xf⟩ := at6 h7
        have HST := step_any o hfit ks2 w4 hbo (fun v hm => by
          have hbv := hB.trans (mod3_below hm (by omega) (by omega) (by omega) hB.size)
          exact Rd.more (Rd.below HKS2.out hbv) hbv.size) HKB.out (by omega) (by omega) (by omega)
        unfold Opr.v at HST
        have HB := Lib.hid hB
        clear hbo hB
        go_upto_region 7 with (((with_reducible refine (HST).mono ?_); rintro z w5 ⟨rfl, hm5, N5, l5, lost5, armed5, left5, hbo5, hN5, hl5⟩))
        have HB2 := Lib.hid (HB.out.trans (mod3_below hm5 (by omega) (by omega) (by omega) HB.out.size))
        have HBO := Lib.hid hbo5
        clear HB hm5 hbo5 HST h7 x0 x1 x2 x3 x4 x5 xf
        go_wp2_with fail
        go_roundw
        case rel => exact ⟨k + 1, j + 1, N5, l5, lost5, armed5, left5, by go_num, by omega, by omega, by omega, by omega, by omega, HBO.out, HB2.out⟩
        case measure => simp [intOf]; omega
      ·
        have hd30 : decide ((k : Int) < 30) = false := decide_eq_false (by omega)
        have HB2 := Lib.hid hB
        have HBO := Lib.hid hbo
        clear hbo hB h7
        go_wp2_with fail
        go_roundw
        case rel => exact ⟨k + 1, j, N, l, lost, armed, left, by go_num, by omega, by omega, by omega, by omega, by omega, HBO.out, HB2.out⟩
        case measure => simp [intOf]; omega
    ·
      obtain ⟨A3, c3, h4, hown3⟩ := hbo.rf.ex
      obtain ⟨⟨x0, x1, x2⟩, xf⟩ := at3 h4
      have hsd : ∀ x ∈ l, (0 ≤ x.s ∧ x.s ≤ x.b.length) ∧ x.b.length ≤ 100000000 ∧ x.k.size ≤ maxLen := fun x hx => ⟨(hbo.dk.own x hx).2, Nat.le_trans (hbo.sm x hx).1 (by omega), (hbo.sm x hx).2⟩
      have HCR := crash_any Ak nk ck ks wr hbo.dk (by omega) (by omega) (fun v hv => by
          have hbv := hB.trans (hv.toBelow (B := w.heap.size) (fun i o hi e => by omega) hB.size)
          exact Rd.more (Rd.below HK.out hbv) hbv.size) HKS.out (fun x hx => (hsd x hx).2)
      have HSD := Lib.hid hsd
      go_upto_region 9 with fail
      go_upto_region 10 with (((with_reducible refine (HCR).mono ?_); rintro z w5 ⟨rfl, hm5, l5, hl5, hd5⟩))
      have hown5 : OwnRF w5 0 A3 l.length c3 l := own_mod hown3 hm5 (fun i o ho _ hit e => hbo.dk.free ho hit (by decide) e)
      have hB5 := hB.trans (hm5.toBelow (fun i o hi e => by rcases e with e | e <;> omega) hB.size)
      have hl5' : l5.length = l.length := by have := congrArg List.length hl5; rw [List.length_map, crashF_length] at this; exact this
      have hz5 : ∀ x ∈ l5, x.b.length ≤ 1099511627776 := fun x hx => Nat.le_trans (crash_bd hl5 hbo.sm x hx).1 (by omega)
      have HL5 := Lib.hid hl5
      have HZ5 := Lib.hid hz5
      have hasc5 := hd5.mp.asc
      have HASC := Lib.hid hasc5
      have HLO := lost_any w5 hd5
      have HNA := names_any w5 hd5 (by omega)
      rw [hl5'] at HNA
      have HR5 := Lib.hid hown5.rd
      have hmax5 := hown5.rd.max
      unfold maxLen at hmax5
      have hle5 := hown5.rd.le
      have HD5 := Lib.hid hd5
      have HB5 := Lib.hid hB5
      clear hown3 h4 hbo hB hm5 hsd hl5 hz5 hasc5 hown5 hd5 hB5 x0 x1 x2 xf HCR hl5'
      go_upto_region 12 with (first | (((with_reducible refine (HLO).mono ?_); rintro z v ⟨rfl, rfl⟩)) | (((with_reducible refine (HNA).mono ?_); rintro z w6 ⟨A6, c6, rfl, -, hb6⟩)))
      have HR6 := Lib.hid (HR5.out.step hb6)
      have HD6 := Lib.hid (HD5.out.step hb6)
      have HB6 := Lib.hid (chain HB5.out hb6)
      clear HR5 HD5 HB5 hb6 HLO HNA
      go_wp2_with fail
      go_loopw [49] (fun i wr => ∃ k : Nat, i = .int .i64 (k : Int) ∧ k ≤ l.length ∧ Below w6.heap.size w6 wr) (fun i _ => l.length - (intOf i).toNat)
      case atStart => exact ⟨0, rfl, Nat.zero_le _, Below.refl _ _⟩
      case round =>
        obtain ⟨k2, rfl, hk2, hb⟩ := hrel
        have hsz2 := hb.size
        by_cases hlt2 : k2 < l.length
        · obtain ⟨gs, off, e, hg, he⟩ := HR6.out.elem Fi.row_length (by omega) (k := k2) hlt2
          subst e
          have hbc := bcell (Below.mono (B := w6.heap.size) hb (Nat.le_refl _))
          have e0 := (hbc.1 _ _ hg).trans (he 0 _ rfl)
          have e1 := (hbc.1 _ _ hg).trans (he 1 _ rfl)
          have e2 := (hbc.1 _ _ hg).trans (he 2 _ rfl)
          rw [Nat.add_zero] at e0
          have hx := HSD.out l[k2] (List.getElem_mem hlt2)
          obtain ⟨m, hm1, hm2, hcd, hby, hsu⟩ := crash_one HL5.out HASC.out hlt2 hx.1
          have hd := HD6.out.step hb
          have HB7 := Lib.hid (chain HB6.out hb)
          have HBW := Lib.hid hb
          clear he hbc hb
          generalize l[k2] = y at *
          obtain ⟨yk, yb, yA, yn, yc, ys⟩ := y
          simp only at e0 e1 e2 hx hm1 hm2 hcd hby hsu
          obtain ⟨⟨hs0, hs1⟩, hbl, hkm⟩ := hx
          obtain ⟨S, rfl⟩ := Int.eq_ofNat_of_zero_le hs0
          have hex := take_extract yb m
          have hbz : (⟨yb.toArray⟩ : ByteArray).size = yb.length := List.size_toArray
          obtain ⟨fB, hfB⟩ : ∃ fB : ByteArray, ⟨yb.toArray⟩ = fB := ⟨_, rfl⟩
          obtain ⟨bB, hbB⟩ : ∃ bB : ByteArray, ⟨(yb.take m).toArray⟩ = bB := ⟨_, rfl⟩
          rw [hfB] at e1 hex hbz
          rw [hbB] at hex
          have hln : (yb.take m).length = m := by rw [List.length_take]; omega
          go_upto_region 15 with fail
          obtain ⟨h7, hb2⟩ := one_at wr 52 [.string yk, .string fB, .int .i64 (S : Int)]
          replace hd := hd.step hb2
          have HB7 := Lib.hid (chain HB7.out hb2)
          have HBW := Lib.hid (chain HBW.out hb2)
          have hgz := h7.lt
          clear e0 e1 e2 hb2
          generalize World.alloc _ _ = w7 at *
          generalize wr.heap.size = g7 at *
          obtain ⟨⟨y0, y1, y2⟩, yf⟩ := at3 h7
          have HRD := dread_any yk hkm w7 hd HZ5.out
          rw [hby, hcd] at HRD
          go_upto_region 16 with (((with_reducible refine (HRD).mono ?_); rintro z w8 ⟨A8, n8, c8, rfl, hown8, hb8⟩))
          have hrd := hown8.rd
          have hn8 := hown8.length
          rw [hln] at hn8
          subst hn8
          replace hd := hd.step hb8
          replace h7 := h7.step hb8
          have HB7 := Lib.hid (chain HB7.out hb8)
          have HBW := Lib.hid (chain HBW.out hb8)
          clear HRD hown8 hb8 y0 y1 y2 yf hgz
          refine region_any (by kernel_rfl) ?_
          change wpAny _ _ _ _ _ _ _ (World.drew _)
          replace hrd := hrd.step (Below.drew (Below.refl _ _))
          replace hd := hd.drew
          replace h7 := h7.drew
          have HB7 := Lib.hid HB7.out.drew
          have HBW := Lib.hid HBW.out.drew
          generalize World.drew _ = w9 at *
          obtain ⟨⟨y0, y1, y2⟩, yf⟩ := at3 h7
          have hgz := h7.lt
          have hcv := fun (wS : World) (hwS : Below w9.heap.size w9 wS) => conv_str (hrd.step hwS)
          rw [hbB] at hcv
          have hSU := sure_any yk hkm w9 hd
          rw [hsu] at hSU
          have hf1 : decide ((m : Int) < (S : Int)) = false := decide_eq_false (by omega)
          have hf2 : decide ((fB.size : Int) < (m : Int)) = false := decide_eq_false (by omega)
          have hf3 : m ≤ fB.size := by omega
          have hf4 : S ≤ m := by omega
          have hf7 : decide (yb.length < m) = false := decide_eq_false (by omega)
          have hf5 : decide (m < S) = false := decide_eq_false (by omega)
          have hf6 : decide (fB.size < m) = false := decide_eq_false (by omega)
          refine stage 100000 ?_
          refine stage_read (i := 0) (v := ?_) rfl (by kernel_rfl) (by kernel_rfl) (by kernel_rfl) (by kernel_rfl) (by kernel_rfl) (by kernel_rfl) (fun _ _ _ h => h) (Or.inl ⟨by kernel_rfl, ?_⟩) ?_
          rotate_left
          · (intro wS hwS; obtain ⟨hcS, hfS, hhS⟩ := bcell hwS; go_simp; try (first | (with_reducible rfl) | rw [if_pos (by omega)] | rw [if_neg (by omega)]))
          try simp only [Act.put, List.getElem_toArray, List.getElem_cons_succ, List.getElem_cons_zero, List.setIfInBounds_toArray, List.set_cons_zero, List.set_cons_succ]
          refine stage_read (i := 1) (v := ?_) rfl (by kernel_rfl) (by kernel_rfl) (by kernel_rfl) (by kernel_rfl) (by kernel_rfl) (by kernel_rfl) (fun _ _ _ h => h) (Or.inl ⟨by kernel_rfl, ?_⟩) ?_
          rotate_left
          · (intro wS hwS; obtain ⟨hcS, hfS, hhS⟩ := bcell hwS; go_simp; try (first | (with_reducible rfl) | rw [if_pos (by omega)] | rw [if_neg (by omega)]))
          try simp only [Act.put, List.getElem_toArray, List.getElem_cons_succ, List.getElem_cons_zero, List.setIfInBounds_toArray, List.set_cons_zero, List.set_cons_succ]
          refine stage_read (i := 2) (v := ?_) rfl (by kernel_rfl) (by kernel_rfl) (by kernel_rfl) (by kernel_rfl) (by kernel_rfl) (by kernel_rfl) (fun _ _ _ h => h) (Or.inl ⟨by kernel_rfl, ?_⟩) ?_
          rotate_left
          · (intro wS hwS; obtain ⟨hcS, hfS, hhS⟩ := bcell hwS; go_simp; try (first | (with_reducible rfl) | rw [if_pos (by omega)] | rw [if_neg (by omega)]))
          try simp only [Act.put, List.getElem_toArray, List.getElem_cons_succ, List.getElem_cons_zero, List.setIfInBounds_toArray, List.set_cons_zero, List.set_cons_succ]
          refine stage_read (i := 3) (v := ?_) rfl (by kernel_rfl) (by kernel_rfl) (by kernel_rfl) (by kernel_rfl) (by kernel_rfl) (by kernel_rfl) (fun _ _ _ h => h) (Or.inl ⟨by kernel_rfl, ?_⟩) ?_
          rotate_left
          · (intro wS hwS; obtain ⟨hcS, hfS, hhS⟩ := bcell hwS; go_simp; try (first | (with_reducible rfl) | rw [if_pos (by omega)] | rw [if_neg (by omega)]))
          try simp only [Act.put, List.getElem_toArray, List.getElem_cons_succ, List.getElem_cons_zero, List.setIfInBounds_toArray, List.set_cons_zero, List.set_cons_succ]
          refine stage_read (i := 4) (v := ?_) rfl (by kernel_rfl) (by kernel_rfl) (by kernel_rfl) (by kernel_rfl) (by kernel_rfl) (by kernel_rfl) (fun _ _ _ h => h) (Or.inl ⟨by kernel_rfl, ?_⟩) ?_
          rotate_left
          · (intro wS hwS; obtain ⟨hcS, hfS, hhS⟩ := bcell hwS; go_simp; try (first | (with_reducible rfl) | rw [if_pos (by omega)] | rw [if_neg (by omega)]))
          try simp only [Act.put, List.getElem_toArray, List.getElem_cons_succ, List.getElem_cons_zero, List.setIfInBounds_toArray, List.set_cons_zero, List.set_cons_succ]
          refine stage_read (i := 5) (v := ?_) rfl (by kernel_rfl) (by kernel_rfl) (by kernel_rfl) (by kernel_rfl) (by kernel_rfl) (by kernel_rfl) (fun _ _ _ h => h) (Or.inl ⟨by kernel_rfl, ?_⟩) ?_
          rotate_left
          · (intro wS hwS; obtain ⟨hcS, hfS, hhS⟩ := bcell hwS; go_simp; try (first | (with_reducible rfl) | rw [if_pos (by omega)] | rw [if_neg (by omega)]))
          try simp only [Act.put, List.getElem_toArray, List.getElem_cons_succ, List.getElem_cons_zero, List.setIfInBounds_toArray, List.set_cons_zero, List.set_cons_succ]
          refine stage_read (i := 6) (v := ?_) rfl (by kernel_rfl) (by kernel_rfl) (by kernel_rfl) (by kernel_rfl) (by kernel_rfl) (by kernel_rfl) (fun _ _ _ h => h) (Or.inl ⟨by kernel_rfl, ?_⟩) ?_
          rotate_left
          · (intro wS hwS; obtain ⟨hcS, hfS, hhS⟩ := bcell hwS; go_simp; try (first | (with_reducible rfl) | rw [if_pos (by omega)] | rw [if_neg (by omega)]))
          try simp only [Act.put, List.getElem_toArray, List.getElem_cons_succ, List.getElem_cons_zero, List.setIfInBounds_toArray, List.set_cons_zero, List.set_cons_succ]
          refine stage_read (i := 7) (v := ?_) rfl (by kernel_rfl) (by kernel_rfl) (by kernel_rfl) (by kernel_rfl) (by kernel_rfl) (by kernel_rfl) (fun _ _ _ h => h) (Or.inl ⟨by kernel_rfl, ?_⟩) ?_
          rotate_left
          · (intro wS hwS; obtain ⟨hcS, hfS, hhS⟩ := bcell hwS; go_simp; try (first | (with_reducible rfl) | rw [if_pos (by omega)] | rw [if_neg (by omega)]))
          try simp only [Act.put, List.getElem_toArray, List.getElem_cons_succ, List.getElem_cons_zero, List.setIfInBounds_toArray, List.set_cons_zero, List.set_cons_succ]
          refine stage_read (i := 8) (v := ?_) rfl (by kernel_rfl) (by kernel_rfl) (by kernel_rfl) (by kernel_rfl) (by kernel_rfl) (by kernel_rfl) (fun _ _ _ h => h) (Or.inl ⟨by kernel_rfl, ?_⟩) ?_
          rotate_left
          · (intro wS hwS; obtain ⟨hcS, hfS, hhS⟩ := bcell hwS; go_simp; try (first | (with_reducible rfl) | rw [if_pos (by omega)] | rw [if_neg (by omega)]))
          try simp only [Act.put, List.getElem_toArray, List.getElem_cons_succ, List.getElem_cons_zero, List.setIfInBounds_toArray, List.set_cons_zero, List.set_cons_succ]
          refine stage_read (i := 9) (v := ?_) rfl (by kernel_rfl) (by kernel_rfl) (by kernel_rfl) (by kernel_rfl) (by kernel_rfl) (by kernel_rfl) (fun _ _ _ h => h) (Or.inl ⟨by kernel_rfl, ?_⟩) ?_
          rotate_left
          · (intro wS hwS; obtain ⟨hcS, hfS, hhS⟩ := bcell hwS; go_simp; try (first | (with_reducible rfl) | rw [if_pos (by omega)] | rw [if_neg (by omega)]))
          try simp only [Act.put, List.getElem_toArray, List.getElem_cons_succ, List.getElem_cons_zero, List.setIfInBounds_toArray, List.set_cons_zero, List.set_cons_succ]
          refine stage_read (i := 10) (v := ?_) rfl (by kernel_rfl) (by kernel_rfl) (by kernel_rfl) (by kernel_rfl) (by kernel_rfl) (by kernel_rfl) (fun _ _ _ h => h) (Or.inl ⟨by kernel_rfl, ?_⟩) ?_
          rotate_left
          · (intro wS hwS; obtain ⟨hcS, hfS, hhS⟩ := bcell hwS; go_simp; try (first | (with_reducible rfl) | rw [if_pos (by omega)] | rw [if_neg (by omega)]))
          try simp only [Act.put, List.getElem_toArray, List.getElem_cons_succ, List.getElem_cons_zero, List.setIfInBounds_toArray, List.set_cons_zero, List.set_cons_succ]
          refine stage_read (i := 11) (v := ?_) rfl (by kernel_rfl) (by kernel_rfl) (by kernel_rfl) (by kernel_rfl) (by kernel_rfl) (by kernel_rfl) (fun _ _ _ h => h) (Or.inl ⟨by kernel_rfl, ?_⟩) ?_
          rotate_left
          · (intro wS hwS; obtain ⟨hcS, hfS, hhS⟩ := bcell hwS; go_simp; try (first | (with_reducible rfl) | rw [if_pos (by omega)] | rw [if_neg (by omega)]))
          try simp only [Act.put, List.getElem_toArray, List.getElem_cons_succ, List.getElem_cons_zero, List.setIfInBounds_toArray, List.set_cons_zero, List.set_cons_succ]
          refine stage_read (i := 12) (v := ?_) rfl (by kernel_rfl) (by kernel_rfl) (by kernel_rfl) (by kernel_rfl) (by kernel_rfl) (by kernel_rfl) (fun _ _ _ h => h) (Or.inl ⟨by kernel_rfl, ?_⟩) ?_
          rotate_left
          · (intro wS hwS; obtain ⟨hcS, hfS, hhS⟩ := bcell hwS; go_simp; try (first | (with_reducible rfl) | rw [if_pos (by omega)] | rw [if_neg (by omega)]))
          try simp only [Act.put, List.getElem_toArray, List.getElem_cons_succ, List.getElem_cons_zero, List.setIfInBounds_toArray, List.set_cons_zero, List.set_cons_succ]
          refine stage_read (i := 13) (v := ?_) rfl (by kernel_rfl) (by kernel_rfl) (by kernel_rfl) (by kernel_rfl) (by kernel_rfl) (by kernel_rfl) (fun _ _ _ h => h) (Or.inl ⟨by kernel_rfl, ?_⟩) ?_
          rotate_left
          · (intro wS hwS; obtain ⟨hcS, hfS, hhS⟩ := bcell hwS; go_simp; try (first | (with_reducible rfl) | rw [if_pos (by omega)] | rw [if_neg (by omega)]))
          try simp only [Act.put, List.getElem_toArray, List.getElem_cons_succ, List.getElem_cons_zero, List.setIfInBounds_toArray, List.set_cons_zero, List.set_cons_succ]
          refine stage_read (i := 14) (v := ?_) rfl (by kernel_rfl) (by kernel_rfl) (by kernel_rfl) (by kernel_rfl) (by kernel_rfl) (by kernel_rfl) (fun _ _ _ h => h) (Or.inl ⟨by kernel_rfl, ?_⟩) ?_
          rotate_left
          · (intro wS hwS; obtain ⟨hcS, hfS, hhS⟩ := bcell hwS; go_simp; try (first | (with_reducible rfl) | rw [if_pos (by omega)] | rw [if_neg (by omega)]))
          try simp only [Act.put, List.getElem_toArray, List.getElem_cons_succ, List.getElem_cons_zero, List.setIfInBounds_toArray, List.set_cons_zero, List.set_cons_succ]
          refine stage_read (i := 15) (v := ?_) rfl (by kernel_rfl) (by kernel_rfl) (by kernel_rfl) (by kernel_rfl) (by kernel_rfl) (by kernel_rfl) (fun _ _ _ h => h) (Or.inl ⟨by kernel_rfl, ?_⟩) ?_
          rotate_left
          · (intro wS hwS; obtain ⟨hcS, hfS, hhS⟩ := bcell hwS; go_simp; try (first | (with_reducible rfl) | rw [if_pos (by omega)] | rw [if_neg (by omega)]))
          try simp only [Act.put, List.getElem_toArray, List.getElem_cons_succ, List.getElem_cons_zero, List.setIfInBounds_toArray, List.set_cons_zero, List.set_cons_succ]
          refine stage_read (i := 16) (v := ?_) rfl (by kernel_rfl) (by kernel_rfl) (by kernel_rfl) (by kernel_rfl) (by kernel_rfl) (by kernel_rfl) (fun _ _ _ h => h) (Or.inl ⟨by kernel_rfl, ?_⟩) ?_
          rotate_left
          · (intro wS hwS; obtain ⟨hcS, hfS, hhS⟩ := bcell hwS; go_simp; try (first | (with_reducible rfl) | rw [if_pos (by omega)] | rw [if_neg (by omega)]))
          try simp only [Act.put, List.getElem_toArray, List.getElem_cons_succ, List.getElem_cons_zero, List.setIfInBounds_toArray, List.set_cons_zero, List.set_cons_succ]
          refine stage_read (i := 17) (v := ?_) rfl (by kernel_rfl) (by kernel_rfl) (by kernel_rfl) (by kernel_rfl) (by kernel_rfl) (by kernel_rfl) (fun _ _ _ h => h) (Or.inl ⟨by kernel_rfl, ?_⟩) ?_
          rotate_left
          · (intro wS hwS; obtain ⟨hcS, hfS, hhS⟩ := bcell hwS; go_simp; try (first | (with_reducible rfl) | rw [if_pos (by omega)] | rw [if_neg (by omega)]))
          try simp only [Act.put, List.getElem_toArray, List.getElem_cons_succ, List.getElem_cons_zero, List.setIfInBounds_toArray, List.set_cons_zero, List.set_cons_succ]
          refine stage_read (i := 18) (v := ?_) rfl (by kernel_rfl) (by kernel_rfl) (by kernel_rfl) (by kernel_rfl) (by kernel_rfl) (by kernel_rfl) (fun _ _ _ h => h) (Or.inl ⟨by kernel_rfl, ?_⟩) ?_
          rotate_left
          · (intro wS hwS; obtain ⟨hcS, hfS, hhS⟩ := bcell hwS; go_simp; try (first | (with_reducible rfl) | rw [if_pos (by omega)] | rw [if_neg (by omega)]))
          try simp only [Act.put, List.getElem_toArray, List.getElem_cons_succ, List.getElem_cons_zero, List.setIfInBounds_toArray, List.set_cons_zero, List.set_cons_succ]
          refine stage_read (i := 19) (v := ?_) rfl (by kernel_rfl) (by kernel_rfl) (by kernel_rfl) (by kernel_rfl) (by kernel_rfl) (by kernel_rfl) (fun _ _ _ h => h) (Or.inl ⟨by kernel_rfl, ?_⟩) ?_
          rotate_left
          · (intro wS hwS; obtain ⟨hcS, hfS, hhS⟩ := bcell hwS; go_simp; try (first | (with_reducible rfl) | rw [if_pos (by omega)] | rw [if_neg (by omega)]))
          try simp only [Act.put, List.getElem_toArray, List.getElem_cons_succ, List.getElem_cons_zero, List.setIfInBounds_toArray, List.set_cons_zero, List.set_cons_succ]
          refine stage_read (i := 20) (v := ?_) rfl (by kernel_rfl) (by kernel_rfl) (by kernel_rfl) (by kernel_rfl) (by kernel_rfl) (by kernel_rfl) (fun _ _ _ h => h) (Or.inl ⟨by kernel_rfl, ?_⟩) ?_
          rotate_left
          · (intro wS hwS; obtain ⟨hcS, hfS, hhS⟩ := bcell hwS; go_simp; try (first | (with_reducible rfl) | rw [if_pos (by omega)] | rw [if_neg (by omega)]))
          try simp only [Act.put, List.getElem_toArray, List.getElem_cons_succ, List.getElem_cons_zero, List.setIfInBounds_toArray, List.set_cons_zero, List.set_cons_succ]
          refine stage_read (i := 21) (v := ?_) rfl (by kernel_rfl) (by kernel_rfl) (by kernel_rfl) (by kernel_rfl) (by kernel_rfl) (by kernel_rfl) (fun _ _ _ h => h) (Or.inl ⟨by kernel_rfl, ?_⟩) ?_
          rotate_left
          · (intro wS hwS; obtain ⟨hcS, hfS, hhS⟩ := bcell hwS; go_simp; try (first | (with_reducible rfl) | rw [if_pos (by omega)] | rw [if_neg (by omega)]))
          try simp only [Act.put, List.getElem_toArray, List.getElem_cons_succ, List.getElem_cons_zero, List.setIfInBounds_toArray, List.set_cons_zero, List.set_cons_succ]
          refine stage_read (i := 22) (v := ?_) rfl (by kernel_rfl) (by kernel_rfl) (by kernel_rfl) (by kernel_rfl) (by kernel_rfl) (by kernel_rfl) (fun _ _ _ h => h) (Or.inl ⟨by kernel_rfl, ?_⟩) ?_
          rotate_left
          · (intro wS hwS; obtain ⟨hcS, hfS, hhS⟩ := bcell hwS; go_simp; try (first | (with_reducible rfl) | rw [if_pos (by omega)] | rw [if_neg (by omega)]))
          try simp only [Act.put, List.getElem_toArray, List.getElem_cons_succ, List.getElem_cons_zero, List.setIfInBounds_toArray, List.set_cons_zero, List.set_cons_succ]
          refine stage_read (i := 23) (v := ?_) rfl (by kernel_rfl) (by kernel_rfl) (by kernel_rfl) (by kernel_rfl) (by kernel_rfl) (by kernel_rfl) (fun _ _ _ h => h) (Or.inl ⟨by kernel_rfl, ?_⟩) ?_
          rotate_left
          · (intro wS hwS; obtain ⟨hcS, hfS, hhS⟩ := bcell hwS; go_simp; try (first | (with_reducible rfl) | rw [if_pos (by omega)] | rw [if_neg (by omega)]))
          try simp only [Act.put, List.getElem_toArray, List.getElem_cons_succ, List.getElem_cons_zero, List.setIfInBounds_toArray, List.set_cons_zero, List.set_cons_succ]
          refine stage_read (i := 24) (v := ?_) rfl (by kernel_rfl) (by kernel_rfl) (by kernel_rfl) (by kernel_rfl) (by kernel_rfl) (by kernel_rfl) (fun _ _ _ h => h) (Or.inl ⟨by kernel_rfl, ?_⟩) ?_
          rotate_left
          · (intro wS hwS; obtain ⟨hcS, hfS, hhS⟩ := bcell hwS; go_simp; try (first | (with_reducible rfl) | rw [if_pos (by omega)] | rw [if_neg (by omega)]))
          try simp only [Act.put, List.getElem_toArray, List.getElem_cons_succ, List.getElem_cons_zero, List.setIfInBounds_toArray, List.set_cons_zero, List.set_cons_succ]
          refine stage_read (i := 25) (v := ?_) rfl (by kernel_rfl) (by kernel_rfl) (by kernel_rfl) (by kernel_rfl) (by kernel_rfl) (by kernel_rfl) (fun _ _ _ h => h) (Or.inl ⟨by kernel_rfl, ?_⟩) ?_
          rotate_left
          · (intro wS hwS; obtain ⟨hcS, hfS, hhS⟩ := bcell hwS; go_simp; try (first | (with_reducible rfl) | rw [if_pos (by omega)] | rw [if_neg (by omega)]))
          try simp only [Act.put, List.getElem_toArray, List.getElem_cons_succ, List.getElem_cons_zero, List.setIfInBounds_toArray, List.set_cons_zero, List.set_cons_succ]
          refine stage_read (i := 26) (v := ?_) rfl (by kernel_rfl) (by kernel_rfl) (by kernel_rfl) (by kernel_rfl) (by kernel_rfl) (by kernel_rfl) (fun _ _ _ h => h) (Or.inl ⟨by kernel_rfl, ?_⟩) ?_
          rotate_left
          · (intro wS hwS; obtain ⟨hcS, hfS, hhS⟩ := bcell hwS; go_simp; try (first | (with_reducible rfl) | rw [if_pos (by omega)] | rw [if_neg (by omega)]))
          try simp only [Act.put, List.getElem_toArray, List.getElem_cons_succ, List.getElem_cons_zero, List.setIfInBounds_toArray, List.set_cons_zero, List.set_cons_succ]
          refine stage_read (i := 27) (v := ?_) rfl (by kernel_rfl) (by kernel_rfl) (by kernel_rfl) (by kernel_rfl) (by kernel_rfl) (by kernel_rfl) (fun _ _ _ h => h) (Or.inl ⟨by kernel_rfl, ?_⟩) ?_
          rotate_left
          · (intro wS hwS; obtain ⟨hcS, hfS, hhS⟩ := bcell hwS; go_simp; try (first | (with_reducible rfl) | rw [if_pos (by omega)] | rw [if_neg (by omega)]))
          try simp only [Act.put, List.getElem_toArray, List.getElem_cons_succ, List.getElem_cons_zero, List.setIfInBounds_toArray, List.set_cons_zero, List.set_cons_succ]
          refine stage_read (i := 28) (v := ?_) rfl (by kernel_rfl) (by kernel_rfl) (by kernel_rfl) (by kernel_rfl) (by kernel_rfl) (by kernel_rfl) (fun _ _ _ h => h) (Or.inl ⟨by kernel_rfl, ?_⟩) ?_
          rotate_left
          · (intro wS hwS; obtain ⟨hcS, hfS, hhS⟩ := bcell hwS; go_simp; try (first | (with_reducible rfl) | rw [if_pos (by omega)] | rw [if_neg (by omega)]))
          try simp only [Act.put, List.getElem_toArray, List.getElem_cons_succ, List.getElem_cons_zero, List.setIfInBounds_toArray, List.set_cons_zero, List.set_cons_succ]
          refine stage_read (i := 29) (v := ?_) rfl (by kernel_rfl) (by kernel_rfl) (by kernel_rfl) (by kernel_rfl) (by kernel_rfl) (by kernel_rfl) (fun _ _ _ h => h) (Or.inl ⟨by kernel_rfl, ?_⟩) ?_
          rotate_left
          · (intro wS hwS; obtain ⟨hcS, hfS, hhS⟩ := bcell hwS; go_simp; try (first | (with_reducible rfl) | rw [if_pos (by omega)] | rw [if_neg (by omega)]))
          try simp only [Act.put, List.getElem_toArray, List.getElem_cons_succ, List.getElem_cons_zero, List.setIfInBounds_toArray, List.set_cons_zero, List.set_cons_succ]
          refine stage_read (i := 30) (v := ?_) rfl (by kernel_rfl) (by kernel_rfl) (by kernel_rfl) (by kernel_rfl) (by kernel_rfl) (by kernel_rfl) (fun _ _ _ h => h) (Or.inl ⟨by kernel_rfl, ?_⟩) ?_
          rotate_left
          · (intro wS hwS; obtain ⟨hcS, hfS, hhS⟩ := bcell hwS; go_simp; try (first | (with_reducible rfl) | rw [if_pos (by omega)] | rw [if_neg (by omega)]))
          try simp only [Act.put, List.getElem_toArray, List.getElem_cons_succ, List.getElem_cons_zero, List.setIfInBounds_toArray, List.set_cons_zero, List.set_cons_succ]
          refine stage_read (i := 32) (v := ?_) rfl (by kernel_rfl) (by kernel_rfl) (by kernel_rfl) (by kernel_rfl) (by kernel_rfl) (by kernel_rfl) (fun _ _ _ h => h) (Or.inl ⟨by kernel_rfl, ?_⟩) ?_
          rotate_left
          · (intro wS hwS; obtain ⟨hcS, hfS, hhS⟩ := bcell hwS; go_simp; try (first | (with_reducible rfl) | rw [if_pos (by omega)] | rw [if_neg (by omega)]))
          try simp only [Act.put, List.getElem_toArray, List.getElem_cons_succ, List.getElem_cons_zero, List.setIfInBounds_toArray, List.set_cons_zero, List.set_cons_succ]
          refine stage_read (i := 33) (v := ?_) rfl (by kernel_rfl) (by kernel_rfl) (by kernel_rfl) (by kernel_rfl) (by kernel_rfl) (by kernel_rfl) (fun _ _ _ h => h) (Or.inl ⟨by kernel_rfl, ?_⟩) ?_
          rotate_left
          · (intro wS hwS; obtain ⟨hcS, hfS, hhS⟩ := bcell hwS; go_simp; try (first | (with_reducible rfl) | rw [if_pos (by omega)] | rw [if_neg (by omega)]))
          try simp only [Act.put, List.getElem_toArray, List.getElem_cons_succ, List.getElem_cons_zero, List.setIfInBounds_toArray, List.set_cons_zero, List.set_cons_succ]
          refine stage_one 31 (by kernel_rfl) rfl (by kernel_rfl) (fun K hK => ?_)
          go_simp
          refine hSU.mono ?_
          rintro z v ⟨rfl, rfl⟩
          refine hK.out _ _ ((Below.refl _ _)) ?_
          clear hK K
          try simp only [Act.put, List.getElem_toArray, List.getElem_cons_succ, List.getElem_cons_zero, List.setIfInBounds_toArray, List.set_cons_zero, List.set_cons_succ]
          refine stage_read (i := 34) (v := ?_) rfl (by kernel_rfl) (by kernel_rfl) (by kernel_rfl) (by kernel_rfl) (by kernel_rfl) (by kernel_rfl) (fun _ _ _ h => h) (Or.inl ⟨by kernel_rfl, ?_⟩) ?_
          rotate_left
          · (intro wS hwS; obtain ⟨hcS, hfS, hhS⟩ := bcell hwS; go_simp; try (first | (with_reducible rfl) | rw [if_pos (by omega)] | rw [if_neg (by omega)]))
          try simp only [Act.put, List.getElem_toArray, List.getElem_cons_succ, List.getElem_cons_zero, List.setIfInBounds_toArray, List.set_cons_zero, List.set_cons_succ]
          refine stage_read (i := 35) (v := ?_) rfl (by kernel_rfl) (by kernel_rfl) (by kernel_rfl) (by kernel_rfl) (by kernel_rfl) (by kernel_rfl) (fun _ _ _ h => h) (Or.inl ⟨by kernel_rfl, ?_⟩) ?_
          rotate_left
          · (intro wS hwS; obtain ⟨hcS, hfS, hhS⟩ := bcell hwS; go_simp; try (first | (with_reducible rfl) | rw [if_pos (by omega)] | rw [if_neg (by omega)]))
          try simp only [Act.put, List.getElem_toArray, List.getElem_cons_succ, List.getElem_cons_zero, List.setIfInBounds_toArray, List.set_cons_zero, List.set_cons_succ]
          first | refine wpAnyT_done (by kernel_rfl) ?_ _ | refine wpAny_done (by kernel_rfl) ?_ _
          go_wp2_with fail
          go_roundw
          case rel => exact ⟨k2 + 1, by go_num, by omega, HBW.out⟩
          case measure => simp [intOf]; omega
        · have HB2 := Lib.hid (chain HB6.out hb)
          clear hb
          go_wp2_with (((with_reducible refine ((awake6 wr)).mono ?_); rintro z w9 ⟨rfl, hb3⟩))
          go_ret
          exact ⟨rfl, chain HB2.out hb3⟩
end Go.Proofs.Ytmoijbknjadeeaa
