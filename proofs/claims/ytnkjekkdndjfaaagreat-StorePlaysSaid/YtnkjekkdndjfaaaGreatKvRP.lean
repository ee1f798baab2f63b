
/- Chapter 9: the document's Find, Begin, Stands, key. -/
import Derived.Test.YtnkjekkdndjfaaaGreatKvInv
namespace Go.Proofs.YtnkjekkdndjfaaaGreat
set_option linter.unusedVariables false
set_option linter.unusedSimpArgs false
open Go.RowKit
theorem rkey_any (k : ByteArray) (w : World) : Calls Tryz.prog 68 #[.string k] w fun r w' => r = .returned (.bool (keyB k)) ∧ w = w' := by
  unfold keyB
  by_cases h : 1 ≤ k.size
  · rw [decide_eq_true h]
    go_enter Tryz.func68, Tryz.ntmps68
    go_wp2_with fail
    go_ret
    exact ⟨by simp; omega, rfl⟩
  · rw [decide_eq_false h]
    go_enter Tryz.func68, Tryz.ntmps68
    go_wp2_with fail
    go_ret
    exact ⟨by simp, rfl⟩
theorem find_drop {l : List It} {k : ByteArray} {j : Nat} (h : j < l.length) : findI (l.drop j) k = if (l[j]).k = k then some l[j] else findI (l.drop (j + 1)) k := by
  rw [← List.getElem_cons_drop h]
  unfold findI
  rw [List.find?_cons]
  by_cases hk : (l[j]).k = k <;> simp [hk]
set_option maxRecDepth 100000 in
set_option maxHeartbeats 4000000 in
theorem rfind_any (A : Option Addr) (n c : Nat) (l : List It) (rev : Int) (k : ByteArray) (w : World) (hr : RdI w w.heap.size A n c l) :
    Calls Tryz.prog 66 #[.agg #[.int .i64 rev, .slice A n c], .string k] w fun r w' => r = .returned (.tuple #[(getI l k).val, .bool (findI l k).isSome]) ∧ Below w.heap.size w w' := by
  have hl := RdI.len hr
  have hmax := hr.max
  have hle := hr.le
  unfold maxLen at hmax
  subst hl
  obtain ⟨h0, h1, hb⟩ := two_at w 41 [.int .i64 rev, .slice A l.length c] 108 [.string ⟨#[]⟩, .string ⟨#[]⟩, .int .i64 0]
  have HR := Lib.hid hr
  clear hr
  go_enter Tryz.func66, Tryz.ntmps66
  go_upto_region 1 with fail
  generalize World.alloc (World.alloc w _) _ = w1 at *
  obtain ⟨⟨x0, x1⟩, xf⟩ := at2 h0
  have H1 := Lib.hid h1
  have HB0 := Lib.hid hb
  have hlt1 := h1.lt
  clear h1 hb
  go_wp2_with fail
  clear x0 x1 xf h0
  go_loopw [11] (fun i wr => ∃ j : Nat, i = .int .i64 (j : Int) ∧ j ≤ l.length ∧ findI l k = findI (l.drop j) k ∧ Below w1.heap.size w1 wr) (fun i _ => l.length - (intOf i).toNat)
  case atStart => exact ⟨0, rfl, Nat.zero_le _, rfl, Below.refl _ _⟩
  case round =>
    obtain ⟨j, rfl, hj, hfi, hb⟩ := hrel
    have h1 := H1.out.step hb
    have hz := hb.size
    by_cases hlt : j < l.length
    ·
      obtain ⟨gs, off, e, hg, he⟩ := HR.out.elem It.row_length (by omega) (k := j) hlt
      subst e
      have hbw := chain HB0.out hb
      have hbc := bcell (Below.mono (B := w.heap.size) hbw (Nat.le_refl _))
      have e0 := (hbc.1 _ _ hg).trans (he 0 _ rfl)
      have e1 := (hbc.1 _ _ hg).trans (he 1 _ rfl)
      have e2 := (hbc.1 _ _ hg).trans (he 2 _ rfl)
      rw [Nat.add_zero] at e0
      clear he hbc
      rw [find_drop hlt] at hfi
      generalize l[j] = y at *
      obtain ⟨yk, yv, yr⟩ := y
      simp only at e0 e1 e2 hfi
      have HB := Lib.hid hb
      have HFI := Lib.hid hfi
      have HH1 := Lib.hid h1
      clear hb hfi h1 hbw
      go_upto_region 4 with fail
      obtain ⟨hy, hb2⟩ := one_at wr 108 [.string yk, .string yv, .int .i64 yr]
      have HB := Lib.hid (chain HB.out hb2)
      have h1 := HH1.out.step hb2
      have hz2 := Nat.le_trans hz hb2.size
      clear hb2 e0 e1 e2
      generalize World.alloc _ _ = w2 at *
      obtain ⟨gy, hgy⟩ : ∃ gy, wr.heap.size = gy := ⟨_, rfl⟩
      rw [hgy] at hy hz ⊢
      clear hgy
      obtain ⟨⟨y0, y1, y2⟩, yf⟩ := at3 hy
      have hcmp : (yk.toList == k.toList) = decide (yk = k) := ba_beq _ _
      by_cases hk : yk = k
      · rw [decide_eq_true hk] at hcmp
        subst hk
        obtain ⟨⟨u0, u1, u2⟩, v0, v1, v2⟩ := at3 h1
        go_wp2_with fail
        obtain ⟨hm1, hG1⟩ := At.many [(0, .string yk), (1, .string yv), (2, .int .i64 yr)] h1
        have hb5 := (HB0.out.trans (HB.out.mono HB0.out.size)).trans ((Below.refl w.heap.size w2).grown hG1 (Nat.le_trans HB0.out.size hz2) (by intro i hi; injection hi with hi; omega))
        dsimp only [setMany, setL, List.set] at hm1 hb5
        clear u0 u1 u2 v0 v1 v2 y0 y1 y2 yf hG1 h1 hy
        generalize World.setCell _ _ _ = w5 at *
        obtain ⟨⟨u0, u1, u2⟩, _⟩ := at3 hm1
        have hf := HFI.out
        simp only [if_true] at hf
        exact bodyPost_ret (v := .tuple #[.agg #[.string yk, .string yv, .int .i64 yr], .bool true]) (by simp [results, Tryz.results66, go_sem, u0, u1, u2]) rfl ⟨by simp only [getI, hf]; rfl, hb5⟩
      · rw [decide_eq_false hk] at hcmp
        go_wp2_with fail
        clear y0 y1 y2 yf hy
        go_roundw
        case rel => exact ⟨j + 1, by go_num, by omega, by rw [HFI.out, if_neg hk], HB.out⟩
        case measure => simp [intOf]; omega
    · obtain rfl : j = l.length := by omega
      rw [List.drop_length] at hfi
      have HFI := Lib.hid hfi
      have HB := Lib.hid hb
      clear hb hfi
      obtain ⟨⟨u0, u1, u2⟩, v0, v1, v2⟩ := at3 h1
      go_wp2_with fail
      obtain ⟨hm1, hG1⟩ := At.many [(0, .string ⟨#[]⟩), (1, .string ⟨#[]⟩), (2, .int .i64 0)] h1
      have hb5 := (HB0.out.trans (HB.out.mono HB0.out.size)).trans ((Below.refl w.heap.size wr).grown hG1 (Nat.le_trans HB0.out.size hz) (by intro i hi; injection hi with hi; omega))
      dsimp only [setMany, setL, List.set] at hm1 hb5
      clear u0 u1 u2 v0 v1 v2 hG1 h1
      generalize World.setCell _ _ _ = w5 at *
      obtain ⟨⟨u0, u1, u2⟩, _⟩ := at3 hm1
      have hf : findI l k = none := HFI.out
      exact bodyPost_ret (v := .tuple #[.agg #[.string ⟨#[]⟩, .string ⟨#[]⟩, .int .i64 0], .bool false]) (by simp [results, Tryz.results66, go_sem, u0, u1, u2]) rfl ⟨by simp only [getI, hf]; rfl, hb5⟩
set_option maxRecDepth 100000 in
set_option maxHeartbeats 4000000 in
theorem rstands_any (A : Option Addr) (n c : Nat) (l : List It) (rev : Int) (k : ByteArray) (r : Int) (w : World) (hr : RdI w w.heap.size A n c l) :
    Calls Tryz.prog 69 #[.agg #[.int .i64 rev, .slice A n c], .string k, .int .i64 r] w fun x w' => x = .returned (.bool (stands l k r)) ∧ Below w.heap.size w w' := by
  obtain ⟨h0, hb⟩ := one_at w 41 [.int .i64 rev, .slice A n c]
  have HF := Lib.hid (rfind_any A n c l rev k _ (hr.step hb))
  unfold stands
  generalize (getI l k) = y at *
  generalize (findI l k).isSome = o at *
  obtain ⟨yk, yv, yr⟩ := y
  unfold It.val at HF
  simp only at HF ⊢
  clear hr
  go_enter Tryz.func69, Tryz.ntmps69
  go_upto_region 1 with fail
  generalize World.alloc w _ = w1 at *
  obtain ⟨⟨x0, x1⟩, xf⟩ := at2 h0
  go_upto_region 2 with (((with_reducible refine calls_id ?_); refine HF.out.mono ?_; rintro z w2 ⟨rfl, hb2⟩))
  obtain ⟨hy, hb3⟩ := one_at w2 108 [.string yk, .string yv, .int .i64 yr]
  have HB := Lib.hid (chain (chain hb hb2) hb3)
  clear hb hb2 hb3 x0 x1 xf h0
  generalize World.alloc w2 _ = w3 at *
  obtain ⟨⟨y0, y1, y2⟩, yf⟩ := at3 hy
  cases o with
  | false =>
    go_wp2_with fail
    go_ret
    exact ⟨by simp, HB.out⟩
  | true =>
    go_wp2_with fail
    go_ret
    refine ⟨?_, HB.out⟩
    by_cases hq : yr = r <;> simp [hq]
end Go.Proofs.YtnkjekkdndjfaaaGreat
namespace Go.Proofs.YtnkjekkdndjfaaaGreat
set_option linter.unusedVariables false
set_option linter.unusedSimpArgs false
open Go.RowKit
theorem four_at (w : World) (t : TypeId) (cs : List Value) (t' : TypeId) (cs' : List Value) (t2 : TypeId) (cs2 : List Value) (t3 : TypeId) (cs3 : List Value) :
    At ((((w.alloc (.cells cs.toArray t)).alloc (.cells cs'.toArray t')).alloc (.cells cs2.toArray t2)).alloc (.cells cs3.toArray t3)) w.heap.size t cs ∧
    At ((((w.alloc (.cells cs.toArray t)).alloc (.cells cs'.toArray t')).alloc (.cells cs2.toArray t2)).alloc (.cells cs3.toArray t3)) (w.heap.size + 1) t' cs' ∧
    At ((((w.alloc (.cells cs.toArray t)).alloc (.cells cs'.toArray t')).alloc (.cells cs2.toArray t2)).alloc (.cells cs3.toArray t3)) (w.heap.size + 1 + 1) t2 cs2 ∧
    At ((((w.alloc (.cells cs.toArray t)).alloc (.cells cs'.toArray t')).alloc (.cells cs2.toArray t2)).alloc (.cells cs3.toArray t3)) (w.heap.size + 1 + 1 + 1) t3 cs3 ∧
    Below w.heap.size w ((((w.alloc (.cells cs.toArray t)).alloc (.cells cs'.toArray t')).alloc (.cells cs2.toArray t2)).alloc (.cells cs3.toArray t3)) := by
  obtain ⟨h1, h2, h3, hb⟩ := three_at w t cs t' cs' t2 cs2
  refine ⟨h1.alloc _, h2.alloc _, h3.alloc _, ?_, hb.alloc hb.size _⟩
  have := At.new (((w.alloc (.cells cs.toArray t)).alloc (.cells cs'.toArray t')).alloc (.cells cs2.toArray t2)) t3 cs3
  simpa using this
set_option maxRecDepth 100000 in
set_option maxHeartbeats 4000000 in
theorem rbegin_any (A : Option Addr) (n c : Nat) (l : List It) (rev : Int) (a : ByteArray) (w : World) (hr : RdI w w.heap.size A n c l) (hn : n ≤ 1000000) :
    Calls Tryz.prog 67 #[.agg #[.int .i64 rev, .slice A n c], .string a] w fun r w' => ∃ A2 n2 c2, r = .returned (.slice A2 n2 c2) ∧ OwnRI w' w.heap.size A2 n2 c2 (l.filter fun x => begB a x.k) ∧ Below w.heap.size w w' := by
  have hl := RdI.len hr
  have hmax := hr.max
  have hle := hr.le
  unfold maxLen at hmax
  subst hl
  obtain ⟨h0, hb⟩ := one_at w 41 [.int .i64 rev, .slice A l.length c]
  have HR := Lib.hid hr
  clear hr
  go_enter Tryz.func67, Tryz.ntmps67
  go_upto_region 2 with fail
  generalize World.alloc w _ = w1 at *
  obtain ⟨⟨x0, x1⟩, xf⟩ := at2 h0
  have HB0 := Lib.hid hb
  clear hb
  go_wp2_with fail
  clear x0 x1 xf h0
  go_loopw [5, 11] (fun v i wr => ∃ (k n1 c1 : Nat) (A1 : Option Addr), i = .int .i64 (k : Int) ∧ v = .slice A1 n1 c1 ∧ k ≤ l.length ∧ OwnRI wr w1.heap.size A1 n1 c1 ((l.take k).filter fun x => begB a x.k) ∧ Below w1.heap.size w1 wr) (fun _ i _ => l.length - (intOf i).toNat)
  case atStart => exact ⟨0, 0, 0, none, rfl, rfl, Nat.zero_le _, OwnRI.nil, Below.refl _ _⟩
  case round =>
    obtain ⟨k, n1, c1, A1, rfl, rfl, hk, hown, hb⟩ := hrel
    have hn1 : n1 ≤ k := by
      rw [hown.len]
      exact Nat.le_trans (List.length_filter_le _ _) (by rw [List.length_take]; omega)
    have hsz := hb.size
    by_cases hlt : k < l.length
    · obtain ⟨gs, off, e, hg, he⟩ := HR.out.elem It.row_length (by omega) (k := k) hlt
      subst e
      have hbw := chain HB0.out hb
      have hbc := bcell (Below.mono (B := w.heap.size) hbw (Nat.le_refl _))
      have e0 := (hbc.1 _ _ hg).trans (he 0 _ rfl)
      have e1 := (hbc.1 _ _ hg).trans (he 1 _ rfl)
      have e2 := (hbc.1 _ _ hg).trans (he 2 _ rfl)
      rw [Nat.add_zero] at e0
      have hft := filter_take (p := fun x => begB a x.k) hlt
      clear he hbc
      generalize l[k] = y at *
      obtain ⟨yk, yv, yr⟩ := y
      simp only at e0 e1 e2 hft
      have HB := Lib.hid hb
      have HF := Lib.hid hft
      have HW := Lib.hid hown
      clear hb hft hown hbw
      go_upto_region 5 with fail
      obtain ⟨hy, hb2⟩ := one_at wr 108 [.string yk, .string yv, .int .i64 yr]
      have HB := Lib.hid (chain HB.out hb2)
      have HW := Lib.hid (HW.out.step hb2)
      have hz2 := Nat.le_trans hsz hb2.size
      clear hb2 e0 e1 e2
      generalize World.alloc _ _ = w2 at *
      obtain ⟨gy, hgy⟩ : ∃ gy, wr.heap.size = gy := ⟨_, rfl⟩
      rw [hgy] at hy hsz ⊢
      clear hgy
      obtain ⟨⟨y0, y1, y2⟩, yf⟩ := at3 hy
      have hcmp : ((yk.extract 0 a.size).toList == a.toList) = decide (yk.extract 0 a.size = a) := ba_beq _ _
      have hq : begB a yk = (decide (a.size ≤ yk.size) && decide (yk.extract 0 a.size = a)) := rfl
      have hbn := (one_at w2 108 [.string yk, .string yv, .int .i64 yr]).2
      have HN := Lib.hid (Rd.lit (w := w2) (t := 108) (n := 1) (cs := [.string yk, .string yv, .int .i64 yr]) rfl (by simp [maxLen]) (by omega : 0 < 3))
      have HO := Lib.hid (HW.out.step hbn)
      have HBN := Lib.hid (hbn.mono hz2)
      have HBN2 := Lib.hid hbn.size
      clear hbn
      by_cases hs : a.size ≤ yk.size
      · rw [decide_eq_true hs, Bool.true_and] at hq
        by_cases he : yk.extract 0 a.size = a
        · rw [decide_eq_true he] at hq hcmp
          rw [hq] at HF
          clear hq he
          go_wp2_with (at_builtin; refine app_ri rfl (.tmp 30) (.tmp 32) rfl rfl HO.out [⟨yk, yv, yr⟩] rfl HN.out (Nat.le_trans hz2 HBN2.out) (by omega) ?_; intro A3 c3 w4 hW4 hG4 hB4)
          have hb4 := (HB.out.trans HBN.out).trans hB4
          clear y0 y1 y2 yf hy hcmp
          go_roundw
          case rel => exact ⟨k + 1, n1 + 1, c3, A3, by go_num, rfl, by omega, by rw [HF.out]; simpa using hW4, hb4⟩
          case measure => simp [intOf]; omega
        · rw [decide_eq_false he] at hq hcmp
          rw [hq] at HF
          clear hq he
          go_wp2_with fail
          clear y0 y1 y2 yf hy hcmp
          go_roundw
          case rel => exact ⟨k + 1, n1, c1, A1, by go_num, rfl, by omega, by rw [HF.out]; simpa using HW.out, HB.out⟩
          case measure => simp [intOf]; omega
      · rw [decide_eq_false hs, Bool.false_and] at hq
        rw [hq] at HF
        clear hq hcmp
        go_wp2_with fail
        clear y0 y1 y2 yf hy
        go_roundw
        case rel => exact ⟨k + 1, n1, c1, A1, by go_num, rfl, by omega, by rw [HF.out]; simpa using HW.out, HB.out⟩
        case measure => simp [intOf]; omega
    · obtain rfl : k = l.length := by omega
      rw [List.take_length] at hown
      have HW := Lib.hid hown
      have HB := Lib.hid (chain HB0.out hb)
      clear hown hb
      go_wp2_with fail
      go_ret
      exact ⟨A1, n1, c1, rfl, HW.out.lower HB0.out.size, HB.out⟩
end Go.Proofs.YtnkjekkdndjfaaaGreat
namespace Go.Proofs.YtnkjekkdndjfaaaGreat
set_option linter.unusedVariables false
set_option linter.unusedSimpArgs false
open Go.RowKit
def RPlanR (w w' : World) (p : Pl) (x : Ending) : Prop :=
  ∃ A n c, x = .returned (.tuple #[.agg #[.int .i64 p.told.code, .int .i64 p.told.rev, .string p.told.val, .slice A n c], .agg #[.string p.eff.k, .string p.eff.v, .int .i64 p.eff.r, .bool p.eff.g], .bool p.wr]) ∧ OwnRI w' w.heap.size A n c p.told.items ∧ Below w.heap.size w w'
theorem Rd.step' {w w' : World} {s n c : Nat} {A : Option Addr} {xs : List Value} (h : Rd w w.heap.size s A n c xs) (hb : Below w.heap.size w w') : Rd w' w'.heap.size s A n c xs := h.step hb
set_option maxRecDepth 100000 in
set_option maxHeartbeats 4000000 in
theorem rplan_get (A : Option Addr) (n c : Nat) (l : List It) (rev : Int) (ki : Int) (k v i : ByteArray) (r j : Int) (w : World) (hr : RdI w w.heap.size A n c l) (hki : ki = 1) :
    Calls Tryz.prog 40 #[.agg #[.int .i64 rev, .slice A n c], .agg #[.int .i64 ki, .string k, .string v, .int .i64 r, .string i, .int .i64 j]] w fun x w' => RPlanR w w' (planP rev l ⟨ki, k, v, r, i, j⟩) x := by
  have hp : planP rev l ⟨ki, k, v, r, i, j⟩ = ⟨⟨(getR l k).1, (getR l k).2.1, (getR l k).2.2, []⟩, Eff.zero, false⟩ := by simp [planP, hki]
  have hk1 : (ki == 1) = true := by rw [hki]; rfl
  clear hki
  cases hf : findI l k with
  | none =>
    have hgr : getR l k = (6, 0, ⟨#[]⟩) := by unfold getR; rw [hf]
    rw [hgr] at hp
    have HP := Lib.hid hp
    clear hp
    have hfo : (findI l k).isSome = false := by rw [hf]; rfl
    obtain ⟨h0, h1, h2, h3, hb⟩ := four_at w 41 [.int .i64 rev, .slice A n c] 50 [.int .i64 ki, .string k, .string v, .int .i64 r, .string i, .int .i64 j] 54 [.int .i64 0, .int .i64 0, .string ⟨#[]⟩, .slice none 0 0] 110 [.string ⟨#[]⟩, .string ⟨#[]⟩, .int .i64 0, .bool false]
    have HR := Lib.hid (hr.step' hb)
    clear hr
    obtain ⟨y, hy⟩ : ∃ y, getI l k = y := ⟨_, rfl⟩
    obtain ⟨yo, hyo⟩ : ∃ yo, (findI l k).isSome = yo := ⟨_, rfl⟩
    have hrf := fun w hr => rfind_any A n c l rev k w hr
    rw [hy, hyo] at hrf
    obtain ⟨yk, yv, yr⟩ := y
    unfold It.val at hrf
    simp only at hrf
    have HRF := Lib.hid hrf
    clear hrf
    go_enter Tryz.func40, Tryz.ntmps40
    go_upto_region 1 with fail
    generalize hW1 : World.alloc (World.alloc (World.alloc (World.alloc w _) _) _) _ = w1 at *
    have hsz : w.heap.size + 4 ≤ w1.heap.size := by rw [← hW1]; simp
    clear hW1
    obtain ⟨⟨s0, s1⟩, sf⟩ := at2 h0
    obtain ⟨⟨x0, x1, x2, x3, x4, x5⟩, xf⟩ := at6 h1
    go_upto_region 2 with (((with_reducible refine calls_id ?_); refine (HRF.out w1 HR.out).mono ?_; rintro z w2 ⟨rfl, hb2⟩))
    obtain ⟨hy7, hb3⟩ := one_at w2 108 [.string yk, .string yv, .int .i64 yr]
    replace hb := chain (chain hb hb2) hb3
    replace h0 := (h0.step hb2).step hb3
    replace h1 := (h1.step hb2).step hb3
    replace h2 := (h2.step hb2).step hb3
    replace h3 := (h3.step hb2).step hb3
    have HR := Lib.hid ((HR.out.step hb2).step hb3)
    replace hsz : w.heap.size + 4 ≤ w2.heap.size := Nat.le_trans hsz hb2.size
    have hs3 := hb3.size
    clear hb2 hb3 s0 s1 sf x0 x1 x2 x3 x4 x5 xf HRF
    generalize World.alloc w2 _ = w3 at *
    obtain ⟨g7, hg7⟩ : ∃ g7, w2.heap.size = g7 := ⟨_, rfl⟩
    rw [hg7] at hy7 hsz hs3 ⊢
    clear hg7
    obtain ⟨⟨s0, s1⟩, sf⟩ := at2 h0
    obtain ⟨⟨x0, x1, x2, x3, x4, x5⟩, xf⟩ := at6 h1
    obtain ⟨⟨u0, u1, u2, u3⟩, v0, v1, v2, v3⟩ := at4 h2
    obtain ⟨⟨p0, p1, p2, p3⟩, q0, q1, q2, q3⟩ := at4 h3
    obtain ⟨⟨y0, y1, y2⟩, yf⟩ := at3 hy7
    have hyo2 : yo = false := hyo.symm.trans hfo
    subst hyo2
    go_wp2_with fail
    obtain ⟨hm1, hG1⟩ := At.many [(0, .int .i64 6), (1, .int .i64 0), (2, .string ⟨#[]⟩), (3, .slice none 0 0)] h2
    have h3' := h3.only hG1 (by omega)
    obtain ⟨hm2, hG2⟩ := At.many [(0, .string ⟨#[]⟩), (1, .string ⟨#[]⟩), (2, .int .i64 0), (3, .bool false)] h3'
    have hm1' := hm1.only hG2 (by omega)
    have hown' := own_mod (own_mod (show OwnRI _ _ _ _ _ _ from OwnRI.nil (w := w3) (B := w3.heap.size)) (grown_mod hG1) (fun i o _ hi _ e => by injection e with e; omega)) (grown_mod hG2) (fun i o _ hi _ e => by injection e with e; omega)
    have hb' := (hb.trans ((Below.refl w.heap.size _).grown hG1 hb.size (by intro i hi; injection hi with hi; omega))).trans ((Below.refl w.heap.size _).grown hG2 (Nat.le_trans hb.size hG1.size) (by intro i hi; injection hi with hi; omega))
    dsimp only [setMany, setL, List.set] at hm1' hm2 hb' hown'
    clear s0 s1 sf x0 x1 x2 x3 x4 x5 xf u0 u1 u2 u3 v0 v1 v2 v3 p0 p1 p2 p3 q0 q1 q2 q3 hG1 hG2 hm1 h2 h3 h3' hb y0 y1 y2 yf
    generalize World.setCell _ _ _ = w5 at *
    obtain ⟨⟨u0, u1, u2, u3⟩, _⟩ := at4 hm1'
    obtain ⟨⟨p0, p1, p2, p3⟩, _⟩ := at4 hm2
    exact bodyPost_ret (v := .tuple #[.agg #[.int .i64 6, .int .i64 0, .string ⟨#[]⟩, .slice none 0 0], .agg #[.string ⟨#[]⟩, .string ⟨#[]⟩, .int .i64 0, .bool false], .bool false]) (by simp [results, Tryz.results40, go_sem, u0, u1, u2, u3, p0, p1, p2, p3]) rfl ⟨_, _, _, by rw [HP.out]; rfl, by rw [HP.out]; exact own_lower hown' (by omega), hb'⟩
  | some q =>
    have hgr : getR l k = (0, q.r, q.v) := by unfold getR; rw [hf]
    have hq2 : getI l k = q := by simp [getI, hf]
    rw [hgr] at hp
    have HP := Lib.hid hp
    clear hp
    have hfo : (findI l k).isSome = true := by rw [hf]; rfl
    obtain ⟨h0, h1, h2, h3, hb⟩ := four_at w 41 [.int .i64 rev, .slice A n c] 50 [.int .i64 ki, .string k, .string v, .int .i64 r, .string i, .int .i64 j] 54 [.int .i64 0, .int .i64 0, .string ⟨#[]⟩, .slice none 0 0] 110 [.string ⟨#[]⟩, .string ⟨#[]⟩, .int .i64 0, .bool false]
    have HR := Lib.hid (hr.step' hb)
    clear hr
    obtain ⟨y, hy⟩ : ∃ y, getI l k = y := ⟨_, rfl⟩
    obtain ⟨yo, hyo⟩ : ∃ yo, (findI l k).isSome = yo := ⟨_, rfl⟩
    have hrf := fun w hr => rfind_any A n c l rev k w hr
    rw [hy, hyo] at hrf
    obtain ⟨yk, yv, yr⟩ := y
    unfold It.val at hrf
    simp only at hrf
    have HRF := Lib.hid hrf
    clear hrf
    go_enter Tryz.func40, Tryz.ntmps40
    go_upto_region 1 with fail
    generalize hW1 : World.alloc (World.alloc (World.alloc (World.alloc w _) _) _) _ = w1 at *
    have hsz : w.heap.size + 4 ≤ w1.heap.size := by rw [← hW1]; simp
    clear hW1
    obtain ⟨⟨s0, s1⟩, sf⟩ := at2 h0
    obtain ⟨⟨x0, x1, x2, x3, x4, x5⟩, xf⟩ := at6 h1
    go_upto_region 2 with (((with_reducible refine calls_id ?_); refine (HRF.out w1 HR.out).mono ?_; rintro z w2 ⟨rfl, hb2⟩))
    obtain ⟨hy7, hb3⟩ := one_at w2 108 [.string yk, .string yv, .int .i64 yr]
    replace hb := chain (chain hb hb2) hb3
    replace h0 := (h0.step hb2).step hb3
    replace h1 := (h1.step hb2).step hb3
    replace h2 := (h2.step hb2).step hb3
    replace h3 := (h3.step hb2).step hb3
    have HR := Lib.hid ((HR.out.step hb2).step hb3)
    replace hsz : w.heap.size + 4 ≤ w2.heap.size := Nat.le_trans hsz hb2.size
    have hs3 := hb3.size
    clear hb2 hb3 s0 s1 sf x0 x1 x2 x3 x4 x5 xf HRF
    generalize World.alloc w2 _ = w3 at *
    obtain ⟨g7, hg7⟩ : ∃ g7, w2.heap.size = g7 := ⟨_, rfl⟩
    rw [hg7] at hy7 hsz hs3 ⊢
    clear hg7
    obtain ⟨⟨s0, s1⟩, sf⟩ := at2 h0
    obtain ⟨⟨x0, x1, x2, x3, x4, x5⟩, xf⟩ := at6 h1
    obtain ⟨⟨u0, u1, u2, u3⟩, v0, v1, v2, v3⟩ := at4 h2
    obtain ⟨⟨p0, p1, p2, p3⟩, q0, q1, q2, q3⟩ := at4 h3
    obtain ⟨⟨y0, y1, y2⟩, yf⟩ := at3 hy7
    have hyo2 : yo = true := hyo.symm.trans hfo
    subst hyo2
    have hqq : q = ⟨yk, yv, yr⟩ := hq2.symm.trans hy
    subst hqq
    go_wp2_with fail
    obtain ⟨hm1, hG1⟩ := At.many [(0, .int .i64 0), (1, .int .i64 yr), (2, .string yv), (3, .slice none 0 0)] h2
    have h3' := h3.only hG1 (by omega)
    obtain ⟨hm2, hG2⟩ := At.many [(0, .string ⟨#[]⟩), (1, .string ⟨#[]⟩), (2, .int .i64 0), (3, .bool false)] h3'
    have hm1' := hm1.only hG2 (by omega)
    have hown' := own_mod (own_mod (show OwnRI _ _ _ _ _ _ from OwnRI.nil (w := w3) (B := w3.heap.size)) (grown_mod hG1) (fun i o _ hi _ e => by injection e with e; omega)) (grown_mod hG2) (fun i o _ hi _ e => by injection e with e; omega)
    have hb' := (hb.trans ((Below.refl w.heap.size _).grown hG1 hb.size (by intro i hi; injection hi with hi; omega))).trans ((Below.refl w.heap.size _).grown hG2 (Nat.le_trans hb.size hG1.size) (by intro i hi; injection hi with hi; omega))
    dsimp only [setMany, setL, List.set] at hm1' hm2 hb' hown'
    clear s0 s1 sf x0 x1 x2 x3 x4 x5 xf u0 u1 u2 u3 v0 v1 v2 v3 p0 p1 p2 p3 q0 q1 q2 q3 hG1 hG2 hm1 h2 h3 h3' hb y0 y1 y2 yf
    generalize World.setCell _ _ _ = w5 at *
    obtain ⟨⟨u0, u1, u2, u3⟩, _⟩ := at4 hm1'
    obtain ⟨⟨p0, p1, p2, p3⟩, _⟩ := at4 hm2
    exact bodyPost_ret (v := .tuple #[.agg #[.int .i64 0, .int .i64 yr, .string yv, .slice none 0 0], .agg #[.string ⟨#[]⟩, .string ⟨#[]⟩, .int .i64 0, .bool false], .bool false]) (by simp [results, Tryz.results40, go_sem, u0, u1, u2, u3, p0, p1, p2, p3]) rfl ⟨_, _, _, by rw [HP.out]; rfl, by rw [HP.out]; exact own_lower hown' (by omega), hb'⟩
end Go.Proofs.YtnkjekkdndjfaaaGreat
