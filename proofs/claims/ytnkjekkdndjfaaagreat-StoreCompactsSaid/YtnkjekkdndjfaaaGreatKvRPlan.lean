
/- Chapter 9: the document's Begin and Plan. -/
import Derived.Test.YtnkjekkdndjfaaaGreatKvRFind
namespace Go.Proofs.YtnkjekkdndjfaaaGreat
set_option linter.unusedVariables false
set_option linter.unusedSimpArgs false
open Go.RowKit
theorem four_at (w : World) (t : TypeId) (cs : List Value) (t' : TypeId) (cs' : List Value) (t2 : TypeId) (cs2 : List Value) (t3 : TypeId) (cs3 : List Value) :
    At ((((w.alloc (.cells cs.toArray t)).alloc (.cells cs'.toArray t')).alloc (.cells cs2.toArray t2)).alloc (.cells cs3.toArray t3)) w.heap.size t cs ∧
    At ((((w.alloc (.cells cs.toArray t)).alloc (.cells cs'.toArray t')).alloc (.cells cs2.toArray t2)).alloc (.cells cs3.toArray t3)) (w.heap.size + 1) t' cs' ∧
    At ((((w.alloc (.cells cs.toArray t)).alloc (.cells cs'.toArray t')).alloc (.cells cs2.toArray t2)).alloc (.cells cs3.toArray t3)) (w.heap.size + 1 + 1) t2 cs2 ∧
    At ((((w.alloc (.cells cs.toArray t)).alloc (.cells cs'.toArray t')).alloc (.cells cs2.toArray t2)).alloc (.cells cs3.toArray t3)) (w.heap.size + 1 + 1 + 1) t3 cs3 ∧
    Below w.heap.size w ((((w.alloc (.cells cs.toArray t)).alloc (.cells cs'.toArray t')).alloc (.cells cs2.toArray t2)).alloc (.cells cs3.toArray t3)) := by
  obtain ⟨h1, h2, h3, hb⟩ := three_at w t cs t' cs' t2 cs2
  refine ⟨h1.alloc _, h2.alloc _, h3.alloc _, ?_, hb.alloc hb.size _⟩
  have := At.new (((w.alloc (.cells cs.toArray t)).alloc (.cells cs'.toArray t')).alloc (.cells cs2.toArray t2)) t3 cs3
  simpa using this
set_option maxRecDepth 100000 in
set_option maxHeartbeats 4000000 in
theorem rbegin_any (A : Option Addr) (n c : Nat) (l : List It) (rev : Int) (a : ByteArray) (w : World) (hr : RdI w w.heap.size A n c l) (hn : n ≤ 1000000) :
    Calls Tryz.prog 67 #[.agg #[.int .i64 rev, .slice A n c], .string a] w fun r w' => ∃ A2 n2 c2, r = .returned (.slice A2 n2 c2) ∧ OwnRI w' w.heap.size A2 n2 c2 (l.filter fun x => begB a x.k) ∧ Below w.heap.size w w' := by
  have hl := RdI.len hr
  have hmax := hr.max
  have hle := hr.le
  unfold maxLen at hmax
  subst hl
  obtain ⟨h0, hb⟩ := one_at w 41 [.int .i64 rev, .slice A l.length c]
  have HR := Lib.hid hr
  clear hr
  go_enter Tryz.func67, Tryz.ntmps67
  go_upto_region 2 with fail
  generalize World.alloc w _ = w1 at *
  obtain ⟨⟨x0, x1⟩, xf⟩ := at2 h0
  have HB0 := Lib.hid hb
  clear hb
  go_wp2_with fail
  clear x0 x1 xf h0
  go_loopw [5, 11] (fun v i wr => ∃ (k n1 c1 : Nat) (A1 : Option Addr), i = .int .i64 (k : Int) ∧ v = .slice A1 n1 c1 ∧ k ≤ l.length ∧ OwnRI wr w1.heap.size A1 n1 c1 ((l.take k).filter fun x => begB a x.k) ∧ Below w1.heap.size w1 wr) (fun _ i _ => l.length - (intOf i).toNat)
  case atStart => exact ⟨0, 0, 0, none, rfl, rfl, Nat.zero_le _, OwnRI.nil, Below.refl _ _⟩
  case round =>
    obtain ⟨k, n1, c1, A1, rfl, rfl, hk, hown, hb⟩ := hrel
    have hn1 : n1 ≤ k := by
      rw [hown.len]
      exact Nat.le_trans (List.length_filter_le _ _) (by rw [List.length_take]; omega)
    have hsz := hb.size
    by_cases hlt : k < l.length
    · obtain ⟨gs, off, e, hg, he⟩ := HR.out.elem It.row_length (by omega) (k := k) hlt
      subst e
      have hbw := chain HB0.out hb
      have hbc := bcell (Below.mono (B := w.heap.size) hbw (Nat.le_refl _))
      have e0 := (hbc.1 _ _ hg).trans (he 0 _ rfl)
      have e1 := (hbc.1 _ _ hg).trans (he 1 _ rfl)
      have e2 := (hbc.1 _ _ hg).trans (he 2 _ rfl)
      rw [Nat.add_zero] at e0
      have hft := filter_take (p := fun x => begB a x.k) hlt
      clear he hbc
      generalize l[k] = y at *
      obtain ⟨yk, yv, yr⟩ := y
      simp only at e0 e1 e2 hft
      have HB := Lib.hid hb
      have HF := Lib.hid hft
      have HW := Lib.hid hown
      clear hb hft hown hbw
      go_upto_region 5 with fail
      obtain ⟨hy, hb2⟩ := one_at wr 108 [.string yk, .string yv, .int .i64 yr]
      have HB := Lib.hid (chain HB.out hb2)
      have HW := Lib.hid (HW.out.step hb2)
      have hz2 := Nat.le_trans hsz hb2.size
      clear hb2 e0 e1 e2
      generalize World.alloc _ _ = w2 at *
      obtain ⟨gy, hgy⟩ : ∃ gy, wr.heap.size = gy := ⟨_, rfl⟩
      rw [hgy] at hy hsz ⊢
      clear hgy
      obtain ⟨⟨y0, y1, y2⟩, yf⟩ := at3 hy
      have hcmp : ((yk.extract 0 a.size).toList == a.toList) = decide (yk.extract 0 a.size = a) := ba_beq _ _
      have hq : begB a yk = (decide (a.size ≤ yk.size) && decide (yk.extract 0 a.size = a)) := rfl
      have hbn := (one_at w2 108 [.string yk, .string yv, .int .i64 yr]).2
      have HN := Lib.hid (Rd.lit (w := w2) (t := 108) (n := 1) (cs := [.string yk, .string yv, .int .i64 yr]) rfl (by simp [maxLen]) (by omega : 0 < 3))
      have HO := Lib.hid (HW.out.step hbn)
      have HBN := Lib.hid (hbn.mono hz2)
      have HBN2 := Lib.hid hbn.size
      clear hbn
      by_cases hs : a.size ≤ yk.size
      · rw [decide_eq_true hs, Bool.true_and] at hq
        by_cases he : yk.extract 0 a.size = a
        · rw [decide_eq_true he] at hq hcmp
          rw [hq] at HF
          clear hq he
          go_wp2_with (at_builtin; refine app_ri rfl (.tmp 30) (.tmp 32) rfl rfl HO.out [⟨yk, yv, yr⟩] rfl HN.out (Nat.le_trans hz2 HBN2.out) (by omega) ?_; intro A3 c3 w4 hW4 hG4 hB4)
          have hb4 := (HB.out.trans HBN.out).trans hB4
          clear y0 y1 y2 yf hy hcmp
          go_roundw
          case rel => exact ⟨k + 1, n1 + 1, c3, A3, by go_num, rfl, by omega, by rw [HF.out]; simpa using hW4, hb4⟩
          case measure => simp [intOf]; omega
        · rw [decide_eq_false he] at hq hcmp
          rw [hq] at HF
          clear hq he
          go_wp2_with fail
          clear y0 y1 y2 yf hy hcmp
          go_roundw
          case rel => exact ⟨k + 1, n1, c1, A1, by go_num, rfl, by omega, by rw [HF.out]; simpa using HW.out, HB.out⟩
          case measure => simp [intOf]; omega
      · rw [decide_eq_false hs, Bool.false_and] at hq
        rw [hq] at HF
        clear hq hcmp
        go_wp2_with fail
        clear y0 y1 y2 yf hy
        go_roundw
        case rel => exact ⟨k + 1, n1, c1, A1, by go_num, rfl, by omega, by rw [HF.out]; simpa using HW.out, HB.out⟩
        case measure => simp [intOf]; omega
    · obtain rfl : k = l.length := by omega
      rw [List.take_length] at hown
      have HW := Lib.hid hown
      have HB := Lib.hid (chain HB0.out hb)
      clear hown hb
      go_wp2_with fail
      go_ret
      exact ⟨A1, n1, c1, rfl, HW.out.lower HB0.out.size, HB.out⟩
end Go.Proofs.YtnkjekkdndjfaaaGreat
