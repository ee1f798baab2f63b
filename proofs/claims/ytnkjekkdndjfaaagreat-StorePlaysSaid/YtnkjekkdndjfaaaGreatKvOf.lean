
/- Chapter 9, in plain words: a list that is right for a state. -/
import Derived.Test.YtnkjekkdndjfaaaGreatKvInv
import Derived.Test.YtnkjekkdndjfaaaGreatKvRP
import Derived.Test.YtnkjekkdndjfaaaGreatPkA
import Derived.Test.YtnkjekkdndjfaaaGreatKvDo
namespace Go.Proofs.YtnkjekkdndjfaaaGreat
set_option linter.unusedVariables false
set_option linter.unusedSimpArgs false
/-- one item, right at this revision -/
def itOk (rev : Int) (x : It) : Bool := keyB x.k && decide (x.v.size ≤ 65536) && decide (1 ≤ x.r) && decide (x.r ≤ rev)
/-- the item ahead has a lesser key (none ahead: nothing is asked) -/
def aheadOk (p : Option It) (x : It) : Bool := match p with | none => true | some y => kless y.k x.k
/-- right from here on, behind p -/
def rightF (rev : Int) : Option It → List It → Bool
  | _, [] => true
  | p, x :: l => itOk rev x && aheadOk p x && rightF rev (some x) l
def rightL (rev : Int) (l : List It) : Bool := rightF rev none l && decide (0 ≤ rev)
theorem rightF_ok {rev : Int} : ∀ {l : List It} {p : Option It}, rightF rev p l = true → ∀ x ∈ l, itOk rev x = true
  | [], _, _, _, hx => by cases hx
  | y :: l, p, h, x, hx => by
    simp only [rightF, Bool.and_eq_true] at h
    rcases List.mem_cons.1 hx with rfl | hx
    · exact h.1.1
    · exact rightF_ok h.2 x hx
theorem rightF_asc {rev : Int} : ∀ {l : List It} {p : Option It}, rightF rev p l = true → Asc l ∧ ∀ y, p = some y → ∀ x ∈ l, kless y.k x.k = true
  | [], _, _ => ⟨List.Pairwise.nil, fun _ _ _ hx => by cases hx⟩
  | z :: l, p, h => by
    simp only [rightF, Bool.and_eq_true] at h
    obtain ⟨h1, h2⟩ := rightF_asc h.2
    have hz := h2 z rfl
    refine ⟨List.Pairwise.cons hz h1, fun y hy x hx => ?_⟩
    subst hy
    have hyz : kless y.k z.k = true := h.1.2
    rcases List.mem_cons.1 hx with rfl | hx
    · exact hyz
    · exact kless_trans hyz (hz x hx)
/-- an item with a greater key goes to the end -/
theorem applyL_end {l : List It} {x : It} (h : ∀ c ∈ l, kless c.k x.k = true) : applyL x false l = l ++ [x] := by
  have := applyL_less x false [] l h
  rw [List.append_nil] at this
  rw [this]
  rfl
end Go.Proofs.YtnkjekkdndjfaaaGreat
namespace Go.Proofs.YtnkjekkdndjfaaaGreat
set_option linter.unusedVariables false
set_option linter.unusedSimpArgs false
open Go.RowKit
def prevO (l : List It) (k : Nat) : Option It := if k = 0 then none else some (l.getD (k - 1) default)
theorem rightF_drop {rev : Int} {l : List It} {k : Nat} (h : k < l.length) :
    rightF rev (prevO l k) (l.drop k) = (itOk rev l[k] && aheadOk (prevO l k) l[k] && rightF rev (prevO l (k + 1)) (l.drop (k + 1))) := by
  have e : prevO l (k + 1) = some l[k] := by simp [prevO, h]
  rw [List.drop_eq_getElem_cons h, rightF, e]
theorem prevO_zero (l : List It) : prevO l 0 = none := rfl
theorem prevO_succ {l : List It} {j : Nat} (h : j < l.length) : prevO l (j + 1) = some l[j] := by simp [prevO, h]
theorem ahead_all {l : List It} {k : Nat} (hk : k < l.length) (ha : Asc (l.take k)) (hp : aheadOk (prevO l k) l[k] = true) : ∀ c ∈ l.take k, kless c.k l[k].k = true := by
  cases k with
  | zero => intro c hc; simp at hc
  | succ j =>
    have hj : j < l.length := by omega
    rw [prevO_succ hj] at hp
    have hp : kless l[j].k l[j + 1].k = true := hp
    rw [List.take_succ_eq_append_getElem hj] at ha ⊢
    unfold Asc at ha
    rw [List.pairwise_append] at ha
    intro c hc
    rcases List.mem_append.1 hc with hc | hc
    · exact kless_trans (ha.2.2 c hc l[j] (by simp)) hp
    · simp at hc
      rw [hc]
      exact hp
theorem asc_take {l : List It} {k : Nat} (hk : k < l.length) (ha : Asc (l.take k)) (hp : aheadOk (prevO l k) l[k] = true) : Asc (l.take (k + 1)) := by
  have h := ahead_all hk ha hp
  rw [List.take_succ_eq_append_getElem hk]
  unfold Asc at *
  rw [List.pairwise_append]
  exact ⟨ha, List.pairwise_singleton _ _, fun c hc d hd => by simp at hd; rw [hd]; exact h c hc⟩
theorem leq_of {z y : ByteArray} (h : kless z y = true) : (Op.bytesLess y.toList z.toList || y.toList == z.toList) = false := by
  have h1 : Op.bytesLess y.toList z.toList = false := kless_asymm h
  rw [h1, ba_beq, decide_eq_false (kless_ne h).symm]
  rfl
theorem leq_not {z y : ByteArray} (h : kless z y = false) : (Op.bytesLess y.toList z.toList || y.toList == z.toList) = true := by
  rcases kless_tri z y with h1 | h1 | h1
  · rw [h1] at h; cases h
  · rw [h1, ba_beq, decide_eq_true rfl, Bool.or_true]
  · have h2 : Op.bytesLess y.toList z.toList = true := h1
    rw [h2, Bool.true_or]
end Go.Proofs.YtnkjekkdndjfaaaGreat
namespace Go.Proofs.YtnkjekkdndjfaaaGreat
set_option linter.unusedVariables false
set_option linter.unusedSimpArgs false
open Go.RowKit
def OfR (w w' : World) (rev : Int) (l : List It) (q : Bool) (x : Ending) : Prop :=
  Below w.heap.size w w' ∧ (q = false → x = .returned (.tuple #[.pointer none, .int .i64 1])) ∧
  (q = true → ∃ g b, x = .returned (.tuple #[.pointer (some ⟨g, 0, none⟩), .int .i64 0]) ∧ IsSt w' g b l.length rev l ∧ w.heap.size ≤ b ∧ b < g)
theorem key_max {k : ByteArray} (h : keyB k = true) : k.size ≤ maxLen := by
  unfold keyB at h
  simp only [Bool.and_eq_true, decide_eq_true_eq] at h
  simp only [maxLen]
  omega
set_option maxRecDepth 100000 in
set_option maxHeartbeats 4000000 in
theorem kvof_any (A : Option Addr) (n c : Nat) (l : List It) (rev : Int) (w : World) (hr : RdI w w.heap.size A n c l) (hn : n ≤ 100000) :
    Calls Tryz.prog 110 #[.int .i64 rev, .slice A n c] w fun x w' => OfR w w' rev l (rightL rev l) x := by
  have hl := RdI.len hr
  have hmax := hr.max
  have hle := hr.le
  unfold maxLen at hmax
  subst hl
  have HR := Lib.hid hr
  clear hr
  have HNEW := Lib.hid (new_st w)
  obtain ⟨q, hq⟩ : ∃ q, rightL rev l = q := ⟨_, rfl⟩
  have hq1 : (rightF rev none l && decide (0 ≤ rev)) = q := hq
  rw [hq]
  have HQ := Lib.hid hq1
  clear hq hq1
  go_enter Tryz.func110, Tryz.ntmps110
  go_upto_region 2 with (((with_reducible refine (HNEW.out).mono ?_); rintro r w1 ⟨g, b, rfl, hst, hwb, hbg, hb⟩))
  clear HNEW
  have HB := Lib.hid hb
  have HST := Lib.hid hst
  have hgl := hst.lt.1
  clear hb hst
  by_cases hlo : rev < 0
  ·
    have hdl : decide (rev < 0) = true := decide_eq_true hlo
    have hqf : q = false := by rw [← HQ.out, decide_eq_false (show ¬ 0 ≤ rev by omega), Bool.and_false]
    have HQF := Lib.hid hqf
    clear hqf
    go_wp2_with fail
    exact bodyPost_ret (v := .tuple #[.pointer none, .int .i64 1]) (by simp [results, Tryz.results110, go_sem]) rfl ⟨HB.out, fun _ => rfl, fun h => by rw [HQF.out] at h; cases h⟩
  have hdl : decide (rev < 0) = false := decide_eq_false hlo
  have hqf : rightF rev none l = q := by rw [← HQ.out, decide_eq_true (show 0 ≤ rev by omega), Bool.and_true]
  have HQF := Lib.hid hqf
  clear hqf HQ
  obtain ⟨⟨s0, s1⟩, sf0, sf1⟩ := at2 HST.out.at_
  go_upto_region 5 with fail
  have hS := grown_set w1 g 0 (.int .i64 rev)
  have hst6 := HST.out.at_.set 0 (.int .i64 rev)
  dsimp only [List.set] at hst6
  have hmp6 := HST.out.mp.kept hS (by intro e; injection e with e; exact HST.out.ne e)
  have hne := HST.out.ne
  have hb6 := chainG HB.out hS (by omega)
  clear s0 s1 sf0 sf1 hS HST HB
  generalize World.setCell _ _ _ = w6 at *
  have HB0 := Lib.hid hb6
  have H00 := Lib.hid hst6
  have HM0 := Lib.hid hmp6
  have HNE := Lib.hid hne
  clear hb6 hst6 hmp6 hne hgl
  go_wp2_with fail
  go_loopw [18] (fun i wr => ∃ (k : Nat), i = .int .i64 (k : Int) ∧ k ≤ l.length ∧ rightF rev none l = rightF rev (prevO l k) (l.drop k) ∧ Asc (l.take k) ∧ Below w.heap.size w wr ∧ At wr g 146 [.int .i64 rev, .map (some b)] ∧ IsMp wr b k (l.take k) ∧ g ≠ b) (fun i _ => l.length - (intOf i).toNat)
  case atStart => exact ⟨0, rfl, Nat.zero_le _, rfl, List.Pairwise.nil, HB0.out, H00.out, HM0.out, HNE.out⟩
  case round =>
    obtain ⟨k, rfl, hk, hf, hasc, hb, h0, hmp, hne⟩ := hrel
    have hst : IsSt wr g b k rev (l.take k) := ⟨h0, hmp, hne⟩
    clear h0 hmp hne
    have hsz := hb.size
    by_cases hlt : k < l.length
    · obtain ⟨gs, off, e, hg, he⟩ := HR.out.elem It.row_length (by omega) (k := k) hlt
      subst e
      have hbc := bcell (Below.mono (B := w.heap.size) hb (Nat.le_refl _))
      have e0 := (hbc.1 _ _ hg).trans (he 0 _ rfl)
      have e1 := (hbc.1 _ _ hg).trans (he 1 _ rfl)
      have e2 := (hbc.1 _ _ hg).trans (he 2 _ rfl)
      rw [Nat.add_zero] at e0
      rw [rightF_drop hlt] at hf
      clear he hbc
      have HQ2 := HQF.out
      rw [hf] at HQ2
      have HD := Lib.hid (show (itOk rev l[k] && aheadOk (prevO l k) l[k]) = false → q = false from fun h => by rw [← HQ2, h]; rfl)
      have HY := Lib.hid (show (itOk rev l[k] && aheadOk (prevO l k) l[k]) = true → rightF rev none l = rightF rev (prevO l (k + 1)) (l.drop (k + 1)) ∧ Asc (l.take (k + 1)) ∧ ∀ c ∈ l.take k, kless c.k l[k].k = true from fun h => ⟨by rw [hf, h]; rfl, asc_take hlt hasc (by simp only [Bool.and_eq_true] at h; exact h.2), ahead_all hlt hasc (by simp only [Bool.and_eq_true] at h; exact h.2)⟩)
      have HF := Lib.hid (List.take_succ_eq_append_getElem hlt)
      clear HQ2 hf hasc
      have hz2 : ∀ j, k = j + 1 → ∃ z : ByteArray, (∃ v r, prevO l k = some ⟨z, v, r⟩) ∧ (j : Int) < (l.length : Int) ∧ ∀ w2 : World, Below w.heap.size w w2 → w2.cell? ⟨gs, off + j * 3, none⟩ = some (Value.string z) := by
        intro j hj
        have hlj : j < l.length := by omega
        obtain ⟨g', off', e, hg', he⟩ := HR.out.elem It.row_length (by omega) (k := j) hlj
        injection e with e
        injection e with e1 e2
        subst e1
        subst e2
        refine ⟨l[j].k, ⟨l[j].v, l[j].r, by rw [hj, prevO_succ hlj]⟩, by omega, fun w2 hb2 => ?_⟩
        have f0 := ((bcell hb2).1 _ _ hg).trans (he 0 _ rfl)
        rw [Nat.add_zero] at f0
        exact f0
      generalize l[k] = y at *
      obtain ⟨yk, yv, yr⟩ := y
      simp only at e0 e1 e2 HY
      have HB := Lib.hid hb
      have HST := Lib.hid hst
      clear hb hst
      go_upto_region 8 with fail
      obtain ⟨hy, hb2⟩ := one_at wr 35 [.string yk, .string yv, .int .i64 yr]
      have HB := Lib.hid (chain HB.out hb2)
      have hlt2 := HST.out.lt
      have HST := Lib.hid (HST.out.step hb2)
      have hz3 := Nat.le_trans hsz hb2.size
      clear hb2 e0 e1 e2
      generalize World.alloc _ _ = w2 at *
      obtain ⟨gy, hgy⟩ : ∃ gy, wr.heap.size = gy := ⟨_, rfl⟩
      rw [hgy] at hy hsz hlt2 ⊢
      clear hgy
      obtain ⟨⟨y0, y1, y2⟩, yf⟩ := at3 hy
      have HZ := Lib.hid (show ∀ j, k = j + 1 → ∃ z : ByteArray, (∃ v r, prevO l k = some ⟨z, v, r⟩) ∧ (j : Int) < (l.length : Int) ∧ w2.cell? ⟨gs, off + j * 3, none⟩ = some (Value.string z) from fun j hj => (by obtain ⟨z, a, b, c⟩ := hz2 j hj; exact ⟨z, a, b, c w2 HB.out⟩))
      clear hz2
      have hkey := fun w => key_any yk w
      have hval := fun w => val_any yv w
      cases hq : keyB yk with
      | false =>
        rw [hq] at hkey
        have HKEY := Lib.hid hkey
        clear hkey
        have HN := Lib.hid (HD.out (by simp [itOk, aheadOk, hq]))
        go_quiet (first | (go_at_call 115; exact quiet_same (HKEY.out _)) | (go_at_call 116; exact quiet_same (HVAL.out _)))
        clear y0 y1 y2 yf
        go_wp2_with fail
        exact bodyPost_ret (v := .tuple #[.pointer none, .int .i64 1]) (by simp [results, Tryz.results110, go_sem]) rfl ⟨below_drewN HB.out _, fun _ => rfl, fun h => by rw [HN.out] at h; cases h⟩
      | true =>
        rw [hq] at hkey
        have HKEY := Lib.hid hkey
        clear hkey
        by_cases h2 : yv.size ≤ 65536
        rotate_left
        ·
          rw [decide_eq_false h2] at hval
          have HVAL := Lib.hid hval
          clear hval
          have HN := Lib.hid (HD.out (by simp [itOk, aheadOk, hq, h2]))
          go_quiet (first | (go_at_call 115; exact quiet_same (HKEY.out _)) | (go_at_call 116; exact quiet_same (HVAL.out _)))
          clear y0 y1 y2 yf
          go_wp2_with fail
          exact bodyPost_ret (v := .tuple #[.pointer none, .int .i64 1]) (by simp [results, Tryz.results110, go_sem]) rfl ⟨below_drewN HB.out _, fun _ => rfl, fun h => by rw [HN.out] at h; cases h⟩
        rw [decide_eq_true h2] at hval
        have HVAL := Lib.hid hval
        clear hval
        by_cases h3 : yr < 1
        ·
          have hq3 : decide (yr < 1) = true := decide_eq_true h3
          have h3n : ¬ 1 ≤ yr := by omega
          have HN := Lib.hid (HD.out (by simp [itOk, aheadOk, hq, h2, h3n]))
          go_quiet (first | (go_at_call 115; exact quiet_same (HKEY.out _)) | (go_at_call 116; exact quiet_same (HVAL.out _)))
          clear y0 y1 y2 yf
          go_wp2_with fail
          exact bodyPost_ret (v := .tuple #[.pointer none, .int .i64 1]) (by simp [results, Tryz.results110, go_sem]) rfl ⟨below_drewN HB.out _, fun _ => rfl, fun h => by rw [HN.out] at h; cases h⟩
        have hq3 : decide (yr < 1) = false := decide_eq_false h3
        have h3n : 1 ≤ yr := by omega
        by_cases h4 : rev < yr
        ·
          have hq4 : decide (rev < yr) = true := decide_eq_true h4
          have h4n : ¬ yr ≤ rev := by omega
          have HN := Lib.hid (HD.out (by simp [itOk, aheadOk, hq, h2, h3n, h4n]))
          go_quiet (first | (go_at_call 115; exact quiet_same (HKEY.out _)) | (go_at_call 116; exact quiet_same (HVAL.out _)))
          clear y0 y1 y2 yf
          go_wp2_with fail
          exact bodyPost_ret (v := .tuple #[.pointer none, .int .i64 1]) (by simp [results, Tryz.results110, go_sem]) rfl ⟨below_drewN HB.out _, fun _ => rfl, fun h => by rw [HN.out] at h; cases h⟩
        have hq4 : decide (rev < yr) = false := decide_eq_false h4
        have h4n : yr ≤ rev := by omega
        cases k with
        | zero =>
          have hq5 : decide ((0 : Int) < ((0 : Nat) : Int)) = false := rfl
          have HN := Lib.hid (HY.out (by simp [itOk, aheadOk, hq, h2, h3n, h4n, prevO_zero]))
          go_quiet (first | (go_at_call 115; exact quiet_same (HKEY.out _)) | (go_at_call 116; exact quiet_same (HVAL.out _)))
          go_upto_region 10 with fail
          clear y0 y1 y2 yf
          replace hy := hy.drewN nq
          have HST := Lib.hid (HST.out.drewN nq)
          have HB := Lib.hid (below_drewN HB.out nq)
          generalize World.drewN _ _ = w3 at *
          refine region_any (by kernel_rfl) ?_
          change wpAny _ _ _ _ _ _ _ (World.drew _)
          replace hy := hy.drew
          have HST := Lib.hid HST.out.drew
          have HB := Lib.hid HB.out.drew
          generalize World.drew _ = w4 at *
          obtain ⟨⟨y0, y1, y2⟩, yf⟩ := at3 hy
          obtain ⟨⟨s0, s1⟩, sf0, sf1⟩ := at2 HST.out.at_
          have l0 := hy.lt
          have l1 := HST.out.lt.1
          obtain ⟨w8, hrun, hmp8, hg8⟩ := HST.out.mp.store ⟨yk, yv, yr⟩ (key_max hq) (lt_max (by omega))
          unfold It.val at hrun
          dsimp only at hrun
          have HR2 := Lib.hid hrun
          clear hrun
          refine stage 7 ?_
          refine tag [0,1,2,3,4,5,6] ?_
          iterate 7 (
            refine sR (v := ?_) rfl (by kernel_rfl) (fun _ _ _ h => h) (Or.inl ⟨by kernel_rfl, ?_⟩) ?_
            rotate_left
            · (intro wS hwS; obtain ⟨hcS, hfS, hhS⟩ := bcell hwS; go_simp; try (first | (with_reducible rfl) | rw [if_pos (by omega)] | rw [if_neg (by omega)]))
            try simp only [PT])
          refine tagN ?_
          have hrun := HR2.out
          refine stage_end (by kernel_rfl) rfl (fun K hK => ?_)
          go_simp
          refine hK.out _ _ ?_
          clear hK K
          try simp only [PT]
          first | refine wpAnyT_done (by kernel_rfl) ?_ _ | refine wpAny_done (by kernel_rfl) ?_ _
          clear y0 y1 y2 yf s0 s1 sf0 sf1 hrun l0 l1
          have hne := HST.out.ne
          have hat8 := HST.out.at_.only hg8 hne
          have hb8 := chainG HB.out hg8 hwb
          rw [applyL_end HN.out.2.2] at hmp8
          go_wp2_with fail
          go_roundw
          case rel => exact ⟨0 + 1, by go_num, by omega, HN.out.1, HN.out.2.1, hb8, hat8, by rw [HF.out]; exact hmp8, hne⟩
          case measure => simp [intOf]; omega
        | succ j =>
          obtain ⟨z, ⟨zv, zr, hz⟩, hjl, z0⟩ := HZ.out j rfl
          have hq5 : decide ((0 : Int) < ((j + 1 : Nat) : Int)) = true := decide_eq_true (by omega)
          have hq6 : decide (0 < j + 1) = true := decide_eq_true (by omega)
          have hw2 : ((j + 1 : Nat) : Int) - 1 = (j : Int) := by omega
          have hw : IntKind.i64.wrap (((j + 1 : Nat) : Int) - 1) = (j : Int) := by rw [hw2]; exact IntWalk.i64_in _ (by omega)
          have hj0 : (0 : Int) ≤ (j : Int) := by omega
          cases hkl : kless z yk with
          | false =>
            have hlq : Op.bytesLess z.toList yk.toList = false := hkl
            have HN := Lib.hid (HD.out (by simp [itOk, aheadOk, hq, h2, h3n, h4n, hz, hkl]))
            go_quiet (first | (go_at_call 115; exact quiet_same (HKEY.out _)) | (go_at_call 116; exact quiet_same (HVAL.out _)))
            clear y0 y1 y2 yf
            go_wp2_with fail
            exact bodyPost_ret (v := .tuple #[.pointer none, .int .i64 1]) (by simp [results, Tryz.results110, go_sem]) rfl ⟨below_drewN HB.out _, fun _ => rfl, fun h => by rw [HN.out] at h; cases h⟩
          | true =>
            have hlq : Op.bytesLess z.toList yk.toList = true := hkl
            have HN := Lib.hid (HY.out (by simp [itOk, aheadOk, hq, h2, h3n, h4n, hz, hkl]))
            go_quiet (first | (go_at_call 115; exact quiet_same (HKEY.out _)) | (go_at_call 116; exact quiet_same (HVAL.out _)))
            go_upto_region 10 with fail
            clear y0 y1 y2 yf
            replace hy := hy.drewN nq
            have HST := Lib.hid (HST.out.drewN nq)
            have HB := Lib.hid (below_drewN HB.out nq)
            generalize World.drewN _ _ = w3 at *
            refine region_any (by kernel_rfl) ?_
            change wpAny _ _ _ _ _ _ _ (World.drew _)
            replace hy := hy.drew
            have HST := Lib.hid HST.out.drew
            have HB := Lib.hid HB.out.drew
            generalize World.drew _ = w4 at *
            obtain ⟨⟨y0, y1, y2⟩, yf⟩ := at3 hy
            obtain ⟨⟨s0, s1⟩, sf0, sf1⟩ := at2 HST.out.at_
            have l0 := hy.lt
            have l1 := HST.out.lt.1
            obtain ⟨w8, hrun, hmp8, hg8⟩ := HST.out.mp.store ⟨yk, yv, yr⟩ (key_max hq) (lt_max (by omega))
            unfold It.val at hrun
            dsimp only at hrun
            have HR2 := Lib.hid hrun
            clear hrun
            refine stage 7 ?_
            refine tag [0,1,2,3,4,5,6] ?_
            iterate 7 (
              refine sR (v := ?_) rfl (by kernel_rfl) (fun _ _ _ h => h) (Or.inl ⟨by kernel_rfl, ?_⟩) ?_
              rotate_left
              · (intro wS hwS; obtain ⟨hcS, hfS, hhS⟩ := bcell hwS; go_simp; try (first | (with_reducible rfl) | rw [if_pos (by omega)] | rw [if_neg (by omega)]))
              try simp only [PT])
            refine tagN ?_
            have hrun := HR2.out
            refine stage_end (by kernel_rfl) rfl (fun K hK => ?_)
            go_simp
            refine hK.out _ _ ?_
            clear hK K
            try simp only [PT]
            first | refine wpAnyT_done (by kernel_rfl) ?_ _ | refine wpAny_done (by kernel_rfl) ?_ _
            clear y0 y1 y2 yf s0 s1 sf0 sf1 hrun l0 l1
            have hne := HST.out.ne
            have hat8 := HST.out.at_.only hg8 hne
            have hb8 := chainG HB.out hg8 hwb
            rw [applyL_end HN.out.2.2] at hmp8
            go_wp2_with fail
            go_roundw
            case rel => exact ⟨(j + 1) + 1, by go_num, by omega, HN.out.1, HN.out.2.1, hb8, hat8, by rw [HF.out]; exact hmp8, hne⟩
            case measure => simp [intOf]; omega
    · obtain rfl : k = l.length := by omega
      have hz : rightF rev none l = true := by rw [hf, List.drop_of_length_le (Nat.le_refl _)]; rfl
      have hqq := HQF.out
      rw [hz] at hqq
      have HQQ := Lib.hid hqq
      have HB := Lib.hid hb
      rw [List.take_length] at hst
      have HST := Lib.hid hst
      clear hf hz hqq hb hst hasc
      go_wp2_with fail
      exact bodyPost_ret (v := .tuple #[.pointer (some ⟨g, 0, none⟩), .int .i64 0]) (by simp [results, Tryz.results110, go_sem]) rfl ⟨HB.out, fun h => absurd (HQQ.out.trans h) Bool.noConfusion, fun _ => ⟨g, b, rfl, HST.out, hwb, hbg⟩⟩
theorem of_no {A : Option Addr} {n c : Nat} {l : List It} {rev : Int} (w : World) (hr : RdI w w.heap.size A n c l) (hn : n ≤ 100000) (h : rightL rev l = false) :
    Calls Tryz.prog 110 #[.int .i64 rev, .slice A n c] w fun x w' => x = .returned (.tuple #[.pointer none, .int .i64 1]) ∧ Below w.heap.size w w' :=
  (kvof_any A n c l rev w hr hn).mono fun _ _ ⟨h1, h2, _⟩ => ⟨h2 h, h1⟩
theorem of_yes {A : Option Addr} {n c : Nat} {l : List It} {rev : Int} (w : World) (hr : RdI w w.heap.size A n c l) (hn : n ≤ 100000) (h : rightL rev l = true) :
    Calls Tryz.prog 110 #[.int .i64 rev, .slice A n c] w fun x w' => ∃ g b, x = .returned (.tuple #[.pointer (some ⟨g, 0, none⟩), .int .i64 0]) ∧ IsSt w' g b l.length rev l ∧ w.heap.size ≤ b ∧ b < g ∧ Below w.heap.size w w' :=
  (kvof_any A n c l rev w hr hn).mono fun _ _ ⟨h1, _, h2⟩ => (by obtain ⟨g, b, e, h3, h4, h5⟩ := h2 h; exact ⟨g, b, e, h3, h4, h5, h1⟩)
end Go.Proofs.YtnkjekkdndjfaaaGreat
