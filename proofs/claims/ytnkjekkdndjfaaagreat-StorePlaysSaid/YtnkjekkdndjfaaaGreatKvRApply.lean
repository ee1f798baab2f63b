
/- Chapter 9: the document's Apply. -/
import Derived.Test.YtnkjekkdndjfaaaGreatKvRP
namespace Go.Proofs.YtnkjekkdndjfaaaGreat
set_option linter.unusedVariables false
set_option linter.unusedSimpArgs false
open Go.RowKit
theorem applyL_cons (e : It) (d : Bool) (c : It) (l : List It) : applyL e d (c :: l) = ((if !d && kless e.k c.k then [e] else []) ++ (if c.k = e.k then [] else [c])) ++ applyL e (d || kless e.k c.k) l := rfl
set_option maxRecDepth 100000 in
set_option maxHeartbeats 4000000 in
theorem rapply_any (A : Option Addr) (n c : Nat) (l : List It) (rev : Int) (ek ev : ByteArray) (er : Int) (eg : Bool) (w : World) (hr : RdI w w.heap.size A n c l) (hn : n ≤ 1000000) :
    Calls Tryz.prog 41 #[.agg #[.int .i64 rev, .slice A n c], .agg #[.string ek, .string ev, .int .i64 er, .bool eg]] w fun r w' => ∃ A2 n2 c2, r = .returned (.agg #[.int .i64 er, .slice A2 n2 c2]) ∧ OwnRI w' w.heap.size A2 n2 c2 (applyL ⟨ek, ev, er⟩ eg l) ∧ Below w.heap.size w w' := by
  have hl := RdI.len hr
  have hle := hr.le
  have hmax := hr.max
  unfold maxLen at hmax
  subst hl
  have HR := Lib.hid hr
  clear hr
  obtain ⟨h0, h1, h2, hb⟩ := three_at w 41 [.int .i64 rev, .slice A l.length c] 110 [.string ek, .string ev, .int .i64 er, .bool eg] 41 [.int .i64 0, .slice none 0 0]
  go_enter Tryz.func41, Tryz.ntmps41
  go_upto_region 1 with fail
  generalize hW1 : World.alloc (World.alloc (World.alloc w _) _) _ = w1 at *
  have hsz : w.heap.size + 3 ≤ w1.heap.size := by rw [← hW1]; simp
  clear hW1
  obtain ⟨⟨x0, x1, x2, x3⟩, xf⟩ := at4 h1
  go_upto_region 2 with fail
  obtain ⟨h5, hb5⟩ := one_at w1 41 [.int .i64 er, .slice none 0 0]
  replace h0 := h0.step hb5
  replace h1 := h1.step hb5
  replace h2 := h2.step hb5
  replace hb := chain hb hb5
  have hs5 : w1.heap.size < (World.alloc w1 (.cells #[.int .i64 er, .slice none 0 0] 41)).heap.size := by simp
  clear hb5 x0 x1 x2 x3 xf
  generalize World.alloc w1 _ = w2 at *
  obtain ⟨g5, hg5⟩ : ∃ g5, w1.heap.size = g5 := ⟨_, rfl⟩
  rw [hg5] at h5 hsz hs5 ⊢
  clear hg5
  obtain ⟨⟨x0, x1, x2, x3⟩, xf⟩ := at4 h1
  obtain ⟨⟨s0, s1⟩, sf⟩ := at2 h0
  obtain ⟨B, hB⟩ : ∃ B, B = w2.heap.size := ⟨_, rfl⟩
  have hB1 : B ≤ w2.heap.size := by omega
  have hgB : g5 < B := by omega
  have hwB : w.heap.size + 3 ≤ g5 := hsz
  have HE := Lib.hid h1
  have HQ := Lib.hid h2
  have HZ := Lib.hid h5
  have HB := Lib.hid hb
  clear hB h0 h1 h2 h5 hb hs5 hsz
  go_wp2_with fail
  clear x0 x1 x2 x3 xf s0 s1 sf
  go_loopw [6, 17] (fun dn i wr => ∃ (k n1 c1 : Nat) (A1 : Option Addr) (d : Bool) (o : List It), i = .int .i64 (k : Int) ∧ dn = .bool d ∧ k ≤ l.length ∧ n1 ≤ k + d.toNat ∧ OwnRI wr B A1 n1 c1 o ∧ applyL ⟨ek, ev, er⟩ eg l = o ++ applyL ⟨ek, ev, er⟩ d (l.drop k) ∧
    At wr (w.heap.size + 1) 110 [.string ek, .string ev, .int .i64 er, .bool eg] ∧ At wr (w.heap.size + 1 + 1) 41 [.int .i64 0, .slice none 0 0] ∧ At wr g5 41 [.int .i64 er, .slice A1 n1 c1] ∧ Below w.heap.size w wr ∧ B ≤ wr.heap.size) (fun _ i _ => l.length - (intOf i).toNat)
  case atStart => exact ⟨0, 0, 0, none, eg, [], rfl, rfl, Nat.zero_le _, by omega, OwnRI.nil, rfl, HE.out, HQ.out, HZ.out, HB.out, hB1⟩
  case round =>
    clear HB HE HQ HZ
    obtain ⟨k, n1, c1, A1, d, o, rfl, rfl, hk, hn1, hown, hset, he, hq, hz, hb, hsz⟩ := hrel
    have HE := Lib.hid he
    have HQ := Lib.hid hq
    have HZ := Lib.hid hz
    have hn2 : n1 ≤ 1000001 := by cases d <;> simp at hn1 <;> omega
    clear he hq hz
    by_cases hlt : k < l.length
    · obtain ⟨g, off, e, hg, hel⟩ := HR.out.elem It.row_length (by omega) (k := k) hlt
      subst e
      have hbc := bcell (Below.mono (B := w.heap.size) hb (Nat.le_refl _))
      have e0 := (hbc.1 _ _ hg).trans (hel 0 _ rfl)
      have e1 := (hbc.1 _ _ hg).trans (hel 1 _ rfl)
      have e2 := (hbc.1 _ _ hg).trans (hel 2 _ rfl)
      rw [Nat.add_zero] at e0
      rw [← List.getElem_cons_drop hlt, applyL_cons] at hset
      clear hel hbc
      generalize l[k] = y at *
      obtain ⟨yk, yv, yr⟩ := y
      simp only at e0 e1 e2 hset
      have HLT := Lib.hid (show ∀ i, (Value.slice A1 n1 c1).ownBlock = some i → i < wr.heap.size from fun i hi => (hown.lt i hi).2)
      have HB := Lib.hid hb
      have HW := Lib.hid hown
      have HS := Lib.hid hset
      clear hb hown hset
      go_upto_region 6 with fail
      obtain ⟨hy, hb2⟩ := one_at wr 108 [.string yk, .string yv, .int .i64 yr]
      have HW := Lib.hid (HW.out.step hb2)
      have HB := Lib.hid (chain HB.out hb2)
      have HE := Lib.hid (HE.out.step hb2)
      have HQ := Lib.hid (HQ.out.step hb2)
      have HZ := Lib.hid (HZ.out.step hb2)
      have hsv := Nat.le_trans hsz hb2.size
      clear hb2 e0 e1 e2
      generalize World.alloc _ _ = w2 at *
      obtain ⟨gy, hgy⟩ : ∃ gy, wr.heap.size = gy := ⟨_, rfl⟩
      rw [hgy] at hy HLT hsz ⊢
      clear hgy
      have HY := Lib.hid hy
      clear hy
      obtain ⟨⟨y0, y1, y2⟩, yf⟩ := at3 HY.out
      obtain ⟨⟨x0, x1, x2, x3⟩, xf⟩ := at4 HE.out
      obtain ⟨⟨z0, z1⟩, zf0, zf1⟩ := at2 HZ.out
      have hcmp : (yk.toList == ek.toList) = decide (yk = ek) := ba_beq _ _
      have hgt : Op.bytesLess ek.toList yk.toList = kless ek yk := rfl
      cases d with
      | true =>
        clear hgt
        by_cases hyx : yk = ek
        · subst hyx
          rw [decide_eq_true rfl] at hcmp
          go_wp2_with fail
          clear x0 x1 x2 x3 xf y0 y1 y2 yf z0 z1 zf0 zf1
          go_roundw
          case rel => exact ⟨k + 1, n1, c1, A1, true, o, by go_num, rfl, by omega, by simp at hn1 ⊢; omega, HW.out, by rw [HS.out]; simp [decide_true], HE.out, HQ.out, HZ.out, HB.out, hsv⟩
          case measure => simp [intOf]; omega
        · rw [decide_eq_false hyx] at hcmp
          have hne : ¬ yk.toList = ek.toList := fun e => hyx (ba_ext e)
          have hbn := (one_at w2 108 [.string yk, .string yv, .int .i64 yr]).2
          have HN := Lib.hid (Rd.lit (w := w2) (t := 108) (n := 1) (cs := [.string yk, .string yv, .int .i64 yr]) rfl (by simp [maxLen]) (by omega : 0 < 3))
          have HO := Lib.hid (HW.out.step hbn)
          have HZn := Lib.hid (HZ.out.step hbn)
          have HEn := Lib.hid (HE.out.step hbn)
          have HQn := Lib.hid (HQ.out.step hbn)
          have HBn := Lib.hid (chain HB.out hbn)
          have hsn := Nat.le_trans hsv hbn.size
          skip
          clear hbn
          go_upto_region 11 with (at_builtin; refine app_ri rfl (.tmp 48) (.tmp 50) rfl rfl HO.out [⟨yk, yv, yr⟩] rfl HN.out hsn (by omega) ?_; intro A3 c3 w4 hW4 hG4 hB4; (have hz4 := HZn.out.under hB4 hgB); (obtain ⟨⟨z0', z1'⟩, fz0', fz1'⟩ := at2 hz4))
          have hst := grown_set w4 g5 1 (.slice A3 (n1 + 1) c3)
          have hz5 := hz4.set 1 (.slice A3 (n1 + 1) c3)
          simp only [List.set_cons_succ, List.set_cons_zero] at hz5
          have hw5 : OwnRI (w4.setCell ⟨g5, 1, none⟩ (.slice A3 (n1 + 1) c3)) B A3 _ c3 _ := own_mod (show World.ownsRow _ _ _ _ _ _ _ from hW4) (grown_mod hst) (by intro i o _ hi _ e; injection e with e; omega)
          have he5 := (HEn.out.under hB4 (by omega)).only hst (by omega)
          have hq5 := (HQn.out.under hB4 (by omega)).only hst (by omega)
          have hb5 := chainG (HBn.out.trans (hB4.mono (by omega))) hst (by omega)
          have hsv := Nat.le_trans (Nat.le_trans hsn hB4.size) hst.size
          skip
          replace HW := Lib.hid hw5
          replace HZ := Lib.hid hz5
          replace HE := Lib.hid he5
          replace HQ := Lib.hid hq5
          replace HB := Lib.hid hb5
          clear z0 z1 zf0 zf1 HN HO HZn HEn HQn HBn hsn hW4 hG4 hB4 hz4 z0' z1' fz0' fz1' hst hz5 hw5 he5 hq5 hb5
          generalize World.setCell _ _ _ = w5 at *
          obtain ⟨⟨z0, z1⟩, zf0, zf1⟩ := at2 HZ.out
          clear x0 x1 x2 x3 xf y0 y1 y2 yf z0 z1 zf0 zf1
          go_wp2_with fail
          go_roundw
          case rel => exact ⟨k + 1, n1 + 1, c3, A3, true, _, by go_num, rfl, by omega, by simp at hn1 ⊢; omega, HW.out, by rw [HS.out]; simp [hyx], HE.out, HQ.out, HZ.out, HB.out, hsv⟩
          case measure => simp [intOf]; omega
      | false =>
        cases hkl : kless ek yk with
        | true =>
          have hyx : ¬ yk = ek := fun e => kless_ne hkl e.symm
          rw [decide_eq_false hyx] at hcmp
          rw [hkl] at hgt
          have hgl : Op.bytesLess yk.toList ek.toList = false := kless_asymm hkl
          have hne : ¬ yk.toList = ek.toList := fun e => hyx (ba_ext e)
          have hbn := (one_at w2 108 [.string ek, .string ev, .int .i64 er]).2
          have HN := Lib.hid (Rd.lit (w := w2) (t := 108) (n := 1) (cs := [.string ek, .string ev, .int .i64 er]) rfl (by simp [maxLen]) (by omega : 0 < 3))
          have HO := Lib.hid (HW.out.step hbn)
          have HZn := Lib.hid (HZ.out.step hbn)
          have HEn := Lib.hid (HE.out.step hbn)
          have HQn := Lib.hid (HQ.out.step hbn)
          have HBn := Lib.hid (chain HB.out hbn)
          have hsn := Nat.le_trans hsv hbn.size
          have HYn := Lib.hid (HY.out.step hbn)
          clear hbn
          go_upto_region 9 with (at_builtin; refine app_ri rfl (.tmp 31) (.tmp 39) rfl rfl HO.out [⟨ek, ev, er⟩] rfl HN.out hsn (by omega) ?_; intro A3 c3 w4 hW4 hG4 hB4; (have hz4 := HZn.out.under hB4 hgB); (obtain ⟨⟨z0', z1'⟩, fz0', fz1'⟩ := at2 hz4))
          have hst := grown_set w4 g5 1 (.slice A3 (n1 + 1) c3)
          have hz5 := hz4.set 1 (.slice A3 (n1 + 1) c3)
          simp only [List.set_cons_succ, List.set_cons_zero] at hz5
          have hw5 : OwnRI (w4.setCell ⟨g5, 1, none⟩ (.slice A3 (n1 + 1) c3)) B A3 _ c3 _ := own_mod (show World.ownsRow _ _ _ _ _ _ _ from hW4) (grown_mod hst) (by intro i o _ hi _ e; injection e with e; omega)
          have he5 := (HEn.out.under hB4 (by omega)).only hst (by omega)
          have hq5 := (HQn.out.under hB4 (by omega)).only hst (by omega)
          have hb5 := chainG (HBn.out.trans (hB4.mono (by omega))) hst (by omega)
          have hsv := Nat.le_trans (Nat.le_trans hsn hB4.size) hst.size
          have hy5 := (HYn.out.row hG4 (fun e => absurd (HLT.out _ e) (by omega))).only hst (by omega)
          replace HW := Lib.hid hw5
          replace HZ := Lib.hid hz5
          replace HE := Lib.hid he5
          replace HQ := Lib.hid hq5
          replace HB := Lib.hid hb5
          clear z0 z1 zf0 zf1 HN HO HZn HEn HQn HBn hsn hW4 hG4 hB4 hz4 z0' z1' fz0' fz1' hst hz5 hw5 he5 hq5 hb5
          generalize World.setCell _ _ _ = w5 at *
          obtain ⟨⟨z0, z1⟩, zf0, zf1⟩ := at2 HZ.out
          clear x0 x1 x2 x3 xf y0 y1 y2 yf HY HYn
          have HY := Lib.hid hy5
          clear hy5
          obtain ⟨⟨y0, y1, y2⟩, yf⟩ := at3 HY.out
          obtain ⟨⟨x0, x1, x2, x3⟩, xf⟩ := at4 HE.out
          have hbn := (one_at w5 108 [.string yk, .string yv, .int .i64 yr]).2
          have HN := Lib.hid (Rd.lit (w := w5) (t := 108) (n := 1) (cs := [.string yk, .string yv, .int .i64 yr]) rfl (by simp [maxLen]) (by omega : 0 < 3))
          have HO := Lib.hid (HW.out.step hbn)
          have HZn := Lib.hid (HZ.out.step hbn)
          have HEn := Lib.hid (HE.out.step hbn)
          have HQn := Lib.hid (HQ.out.step hbn)
          have HBn := Lib.hid (chain HB.out hbn)
          have hsn := Nat.le_trans hsv hbn.size
          skip
          clear hbn
          go_upto_region 11 with (at_builtin; refine app_ri rfl (.tmp 48) (.tmp 50) rfl rfl HO.out [⟨yk, yv, yr⟩] rfl HN.out hsn (by omega) ?_; intro A3 c3 w4 hW4 hG4 hB4; (have hz4 := HZn.out.under hB4 hgB); (obtain ⟨⟨z0', z1'⟩, fz0', fz1'⟩ := at2 hz4))
          have hst := grown_set w4 g5 1 (.slice A3 (n1 + 1 + 1) c3)
          have hz5 := hz4.set 1 (.slice A3 (n1 + 1 + 1) c3)
          simp only [List.set_cons_succ, List.set_cons_zero] at hz5
          have hw5 : OwnRI (w4.setCell ⟨g5, 1, none⟩ (.slice A3 (n1 + 1 + 1) c3)) B A3 _ c3 _ := own_mod (show World.ownsRow _ _ _ _ _ _ _ from hW4) (grown_mod hst) (by intro i o _ hi _ e; injection e with e; omega)
          have he5 := (HEn.out.under hB4 (by omega)).only hst (by omega)
          have hq5 := (HQn.out.under hB4 (by omega)).only hst (by omega)
          have hb5 := chainG (HBn.out.trans (hB4.mono (by omega))) hst (by omega)
          have hsv := Nat.le_trans (Nat.le_trans hsn hB4.size) hst.size
          skip
          replace HW := Lib.hid hw5
          replace HZ := Lib.hid hz5
          replace HE := Lib.hid he5
          replace HQ := Lib.hid hq5
          replace HB := Lib.hid hb5
          clear z0 z1 zf0 zf1 HN HO HZn HEn HQn HBn hsn hW4 hG4 hB4 hz4 z0' z1' fz0' fz1' hst hz5 hw5 he5 hq5 hb5
          generalize World.setCell _ _ _ = w5 at *
          obtain ⟨⟨z0, z1⟩, zf0, zf1⟩ := at2 HZ.out
          clear x0 x1 x2 x3 xf y0 y1 y2 yf z0 z1 zf0 zf1
          go_wp2_with fail
          go_roundw
          case rel => exact ⟨k + 1, n1 + 1 + 1, c3, A3, true, _, by go_num, rfl, by omega, by simp at hn1 ⊢; omega, HW.out, by rw [HS.out]; simp [hyx, hkl], HE.out, HQ.out, HZ.out, HB.out, hsv⟩
          case measure => simp [intOf]; omega
        | false =>
          rw [hkl] at hgt
          by_cases hyx : yk = ek
          · subst hyx
            rw [decide_eq_true rfl] at hcmp
            have hgl : Op.bytesLess yk.toList yk.toList = false := kless_irrefl yk
            go_wp2_with fail
            clear x0 x1 x2 x3 xf y0 y1 y2 yf z0 z1 zf0 zf1
            go_roundw
            case rel => exact ⟨k + 1, n1, c1, A1, false, o, by go_num, rfl, by omega, by simp at hn1 ⊢; omega, HW.out, by rw [HS.out]; simp [hkl], HE.out, HQ.out, HZ.out, HB.out, hsv⟩
            case measure => simp [intOf]; omega
          · rw [decide_eq_false hyx] at hcmp
            have hgl : Op.bytesLess yk.toList ek.toList = true := by
              rcases kless_tri yk ek with h | h | h
              · exact h
              · exact absurd h hyx
              · rw [h] at hkl; cases hkl
            have hne : ¬ yk.toList = ek.toList := fun e => hyx (ba_ext e)
            have hbn := (one_at w2 108 [.string yk, .string yv, .int .i64 yr]).2
            have HN := Lib.hid (Rd.lit (w := w2) (t := 108) (n := 1) (cs := [.string yk, .string yv, .int .i64 yr]) rfl (by simp [maxLen]) (by omega : 0 < 3))
            have HO := Lib.hid (HW.out.step hbn)
            have HZn := Lib.hid (HZ.out.step hbn)
            have HEn := Lib.hid (HE.out.step hbn)
            have HQn := Lib.hid (HQ.out.step hbn)
            have HBn := Lib.hid (chain HB.out hbn)
            have hsn := Nat.le_trans hsv hbn.size
            skip
            clear hbn
            go_upto_region 11 with (at_builtin; refine app_ri rfl (.tmp 48) (.tmp 50) rfl rfl HO.out [⟨yk, yv, yr⟩] rfl HN.out hsn (by omega) ?_; intro A3 c3 w4 hW4 hG4 hB4; (have hz4 := HZn.out.under hB4 hgB); (obtain ⟨⟨z0', z1'⟩, fz0', fz1'⟩ := at2 hz4))
            have hst := grown_set w4 g5 1 (.slice A3 (n1 + 1) c3)
            have hz5 := hz4.set 1 (.slice A3 (n1 + 1) c3)
            simp only [List.set_cons_succ, List.set_cons_zero] at hz5
            have hw5 : OwnRI (w4.setCell ⟨g5, 1, none⟩ (.slice A3 (n1 + 1) c3)) B A3 _ c3 _ := own_mod (show World.ownsRow _ _ _ _ _ _ _ from hW4) (grown_mod hst) (by intro i o _ hi _ e; injection e with e; omega)
            have he5 := (HEn.out.under hB4 (by omega)).only hst (by omega)
            have hq5 := (HQn.out.under hB4 (by omega)).only hst (by omega)
            have hb5 := chainG (HBn.out.trans (hB4.mono (by omega))) hst (by omega)
            have hsv := Nat.le_trans (Nat.le_trans hsn hB4.size) hst.size
            skip
            replace HW := Lib.hid hw5
            replace HZ := Lib.hid hz5
            replace HE := Lib.hid he5
            replace HQ := Lib.hid hq5
            replace HB := Lib.hid hb5
            clear z0 z1 zf0 zf1 HN HO HZn HEn HQn HBn hsn hW4 hG4 hB4 hz4 z0' z1' fz0' fz1' hst hz5 hw5 he5 hq5 hb5
            generalize World.setCell _ _ _ = w5 at *
            obtain ⟨⟨z0, z1⟩, zf0, zf1⟩ := at2 HZ.out
            clear x0 x1 x2 x3 xf y0 y1 y2 yf z0 z1 zf0 zf1
            go_wp2_with fail
            go_roundw
            case rel => exact ⟨k + 1, n1 + 1, c3, A3, false, _, by go_num, rfl, by omega, by simp at hn1 ⊢; omega, HW.out, by rw [HS.out]; simp [hyx, hkl], HE.out, HQ.out, HZ.out, HB.out, hsv⟩
            case measure => simp [intOf]; omega
    · obtain rfl : k = l.length := by omega
      rw [List.drop_length] at hset
      have HB := Lib.hid hb
      have HW := Lib.hid hown
      have HS := Lib.hid hset
      have hsv := hsz
      clear hb hown hset
      obtain ⟨⟨z0, z1⟩, zf0, zf1⟩ := at2 HZ.out
      cases d with
      | true =>
        obtain ⟨⟨q0, q1⟩, qf0, qf1⟩ := at2 HQ.out
        go_wp2_with fail
        obtain ⟨hm1, hG1⟩ := At.many [(0, .int .i64 er), (1, .slice A1 n1 c1)] HQ.out
        have hown6 := own_mod (show World.ownsRow _ _ _ _ _ _ _ from HW.out) (grown_mod hG1) (fun i o _ hi _ e => by injection e with e; omega)
        have hb6 := HB.out.trans ((Below.refl w.heap.size _).grown hG1 HB.out.size (by intro i hi; injection hi with hi; omega))
        dsimp only [setMany, setL, List.set] at hm1 hb6 hown6
        clear hG1 q0 q1 qf0 qf1 z0 z1 zf0 zf1
        generalize World.setCell _ _ _ = w7 at *
        obtain ⟨⟨u0, u1⟩, _⟩ := at2 hm1
        exact bodyPost_ret (v := .agg #[.int .i64 er, .slice A1 n1 c1]) (by simp [results, Tryz.results41, go_sem, u0, u1]) rfl ⟨_, _, _, rfl, by rw [HS.out]; simp only [applyL, if_true, if_false, Bool.false_eq_true, List.append_nil]; exact own_lower hown6 (by omega), hb6⟩
      | false =>
        have hn3 : n1 ≤ 1000000 := by simp at hn1; omega
        obtain ⟨⟨x0, x1, x2, x3⟩, xf⟩ := at4 HE.out
        have hbn := (one_at wr 108 [.string ek, .string ev, .int .i64 er]).2
        have HN := Lib.hid (Rd.lit (w := wr) (t := 108) (n := 1) (cs := [.string ek, .string ev, .int .i64 er]) rfl (by simp [maxLen]) (by omega : 0 < 3))
        have HO := Lib.hid (HW.out.step hbn)
        have HZn := Lib.hid (HZ.out.step hbn)
        have HEn := Lib.hid (HE.out.step hbn)
        have HQn := Lib.hid (HQ.out.step hbn)
        have HBn := Lib.hid (chain HB.out hbn)
        have hsn := Nat.le_trans hsv hbn.size
        skip
        clear hbn
        go_upto_region 14 with (at_builtin; refine app_ri rfl (.tmp 57) (.tmp 65) rfl rfl HO.out [⟨ek, ev, er⟩] rfl HN.out hsn (by omega) ?_; intro A3 c3 w4 hW4 hG4 hB4; (have hz4 := HZn.out.under hB4 hgB); (obtain ⟨⟨z0', z1'⟩, fz0', fz1'⟩ := at2 hz4))
        have hst := grown_set w4 g5 1 (.slice A3 (n1 + 1) c3)
        have hz5 := hz4.set 1 (.slice A3 (n1 + 1) c3)
        simp only [List.set_cons_succ, List.set_cons_zero] at hz5
        have hw5 : OwnRI (w4.setCell ⟨g5, 1, none⟩ (.slice A3 (n1 + 1) c3)) B A3 _ c3 _ := own_mod (show World.ownsRow _ _ _ _ _ _ _ from hW4) (grown_mod hst) (by intro i o _ hi _ e; injection e with e; omega)
        have he5 := (HEn.out.under hB4 (by omega)).only hst (by omega)
        have hq5 := (HQn.out.under hB4 (by omega)).only hst (by omega)
        have hb5 := chainG (HBn.out.trans (hB4.mono (by omega))) hst (by omega)
        have hsv := Nat.le_trans (Nat.le_trans hsn hB4.size) hst.size
        skip
        replace HW := Lib.hid hw5
        replace HZ := Lib.hid hz5
        replace HE := Lib.hid he5
        replace HQ := Lib.hid hq5
        replace HB := Lib.hid hb5
        clear z0 z1 zf0 zf1 HN HO HZn HEn HQn HBn hsn hW4 hG4 hB4 hz4 z0' z1' fz0' fz1' hst hz5 hw5 he5 hq5 hb5
        generalize World.setCell _ _ _ = w5 at *
        obtain ⟨⟨z0, z1⟩, zf0, zf1⟩ := at2 HZ.out
        clear x0 x1 x2 x3 xf
        obtain ⟨⟨q0, q1⟩, qf0, qf1⟩ := at2 HQ.out
        go_wp2_with fail
        obtain ⟨hm1, hG1⟩ := At.many [(0, .int .i64 er), (1, .slice A3 (n1 + 1) c3)] HQ.out
        have hown6 := own_mod (show World.ownsRow _ _ _ _ _ _ _ from HW.out) (grown_mod hG1) (fun i o _ hi _ e => by injection e with e; omega)
        have hb6 := HB.out.trans ((Below.refl w.heap.size _).grown hG1 HB.out.size (by intro i hi; injection hi with hi; omega))
        dsimp only [setMany, setL, List.set] at hm1 hb6 hown6
        clear hG1 q0 q1 qf0 qf1 z0 z1 zf0 zf1
        generalize World.setCell _ _ _ = w7 at *
        obtain ⟨⟨u0, u1⟩, _⟩ := at2 hm1
        exact bodyPost_ret (v := .agg #[.int .i64 er, .slice A3 (n1 + 1) c3]) (by simp [results, Tryz.results41, go_sem, u0, u1]) rfl ⟨_, _, _, rfl, by rw [HS.out]; simp only [applyL, if_true, if_false, Bool.false_eq_true, List.append_nil]; exact own_lower hown6 (by omega), hb6⟩
end Go.Proofs.YtnkjekkdndjfaaaGreat
