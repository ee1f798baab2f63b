
/- Chapter 9: the law's Items; SameItems and slices.Equal of any two lists. -/
import Derived.Test.YtnkjekkdndjfaaaGreatKvRP
namespace Go.Proofs.YtnkjekkdndjfaaaGreat
set_option linter.unusedVariables false
set_option linter.unusedSimpArgs false
open Go.RowKit
theorem it_ne {y z : It} (h : y ≠ z) : (¬ y.k = z.k) ∨ (y.k = z.k ∧ ¬ y.v = z.v) ∨ (y.k = z.k ∧ y.v = z.v ∧ ¬ y.r = z.r) := by
  by_cases h1 : y.k = z.k
  · by_cases h2 : y.v = z.v
    · exact .inr (.inr ⟨h1, h2, fun h3 => h (by cases y; cases z; simp_all)⟩)
    · exact .inr (.inl ⟨h1, h2⟩)
  · exact .inl h1
theorem take_ne {l m : List It} {k : Nat} (hl : k < l.length) (hm : k < m.length) (h : l[k] ≠ m[k]) : decide (l = m) = false := by
  refine decide_eq_false fun e => h ?_
  subst e
  rfl
set_option maxRecDepth 100000 in
set_option maxHeartbeats 4000000 in
theorem sitemsg_any (A A2 : Option Addr) (n c n2 c2 : Nat) (l m : List It) (w : World) (hr : RdI w w.heap.size A n c l) (hr2 : RdI w w.heap.size A2 n2 c2 m) :
    Calls Tryz.prog 14 #[.slice A n c, .slice A2 n2 c2] w fun r w' => r = .returned (.bool (decide (l = m))) ∧ Below w.heap.size w w' := by
  have hl := RdI.len hr
  have hl2 := RdI.len hr2
  have hmax := hr.max
  have hle := hr.le
  have hmax2 := hr2.max
  have hle2 := hr2.le
  unfold maxLen at hmax hmax2
  subst hl
  subst hl2
  have HR := Lib.hid hr
  have HR2 := Lib.hid hr2
  clear hr hr2
  by_cases hlen : l.length = m.length
  rotate_left
  · have hd : decide (l = m) = false := decide_eq_false fun e => hlen (by rw [e])
    rw [hd]
    have hli : ¬ (l.length : Int) = (m.length : Int) := by omega
    have hlb : ((l.length : Int) == (m.length : Int)) = false := beq_eq_false_iff_ne.mpr hli
    go_enter Tryz.func14, Tryz.ntmps14
    go_wp2_with fail
    go_ret
    exact ⟨rfl, Below.refl _ _⟩
  have HL := Lib.hid hlen
  obtain ⟨q, hq⟩ : ∃ q, l.length = q := ⟨_, rfl⟩
  have hq2 : m.length = q := by omega
  have HQ := Lib.hid hq
  have HQ2 := Lib.hid hq2
  rw [hq, hq2]
  clear hq hq2 hlen
  go_enter Tryz.func14, Tryz.ntmps14
  go_wp2_with fail
  go_loopw [14] (fun i wr => ∃ k : Nat, i = .int .i64 (k : Int) ∧ k ≤ q ∧ l.take k = m.take k ∧ Below w.heap.size w wr) (fun i _ => q - (intOf i).toNat)
  case atStart => exact ⟨0, rfl, Nat.zero_le _, rfl, Below.refl _ _⟩
  case round =>
    obtain ⟨k, rfl, hk, htk, hb⟩ := hrel
    have hsz := hb.size
    have HTK := Lib.hid htk
    clear htk
    by_cases hlt : k < q
    · have h1 : k < l.length := by rw [HQ.out]; exact hlt
      have h2 : k < m.length := by rw [HQ2.out]; exact hlt
      obtain ⟨gs, off, e, hg, he⟩ := HR.out.elem It.row_length (by omega) (k := k) h1
      subst e
      obtain ⟨gs2, off2, e2, hg2, he2⟩ := HR2.out.elem It.row_length (by omega) (k := k) h2
      subst e2
      have hbc := bcell (Below.mono (B := w.heap.size) hb (Nat.le_refl _))
      have f0 := (hbc.1 _ _ hg2).trans (he2 0 _ rfl)
      have f1 := (hbc.1 _ _ hg2).trans (he2 1 _ rfl)
      have f2 := (hbc.1 _ _ hg2).trans (he2 2 _ rfl)
      have HC := Lib.hid (show ∀ w2 : World, Below w.heap.size w w2 → w2.cell? ⟨gs, off + k * 3 + 0, none⟩ = some (.string (l[k]).k) ∧ w2.cell? ⟨gs, off + k * 3 + 1, none⟩ = some (.string (l[k]).v) ∧ w2.cell? ⟨gs, off + k * 3 + 2, none⟩ = some (.int .i64 (l[k]).r) from fun w2 h => ⟨((bcell h).1 _ _ hg).trans (he 0 _ rfl), ((bcell h).1 _ _ hg).trans (he 1 _ rfl), ((bcell h).1 _ _ hg).trans (he 2 _ rfl)⟩)
      have HNE := Lib.hid (take_ne h1 h2)
      have HEQ := Lib.hid (show l[k] = m[k] → l.take (k + 1) = m.take (k + 1) from fun h => by rw [List.take_succ_eq_append_getElem h1, List.take_succ_eq_append_getElem h2, HTK.out, h])
      rw [Nat.add_zero] at f0
      clear hbc he he2
      generalize l[k] = y at *
      generalize m[k] = z at *
      obtain ⟨zk, zv, zr⟩ := z
      simp only at f0 f1 f2
      have HB := Lib.hid hb
      clear hb
      go_upto_region 6 with fail
      obtain ⟨hy, hb2⟩ := one_at wr 108 [.string zk, .string zv, .int .i64 zr]
      have hb := chain HB.out hb2
      clear hb2 f0 f1 f2
      generalize World.alloc wr _ = w5 at *
      obtain ⟨gy, hgy⟩ : ∃ gy, wr.heap.size = gy := ⟨_, rfl⟩
      rw [hgy] at hy hsz ⊢
      clear hgy
      obtain ⟨⟨y0, y1, y2⟩, yf⟩ := at3 hy
      obtain ⟨e0, e1, e2⟩ := HC.out w5 hb
      rw [Nat.add_zero] at e0
      have HHB := Lib.hid hb
      clear hb hy HC
      by_cases hyz : y = ⟨zk, zv, zr⟩
      · have hen := HEQ.out hyz
        subst hyz
        have HEN := Lib.hid hen
        clear hen
        simp only at e0 e1 e2
        go_quiet (fail)
        clear y0 y1 y2 yf e0 e1 e2
        go_wp2_with fail
        go_roundw
        case rel => exact ⟨k + 1, by go_num, by omega, HEN.out, below_drewN HHB.out _⟩
        case measure => simp [intOf]; omega
      · have HD := Lib.hid (HNE.out hyz)
        have hcs := it_ne hyz
        obtain ⟨yk, yv, yr⟩ := y
        simp only at hcs e0 e1 e2
        clear hyz
        rcases hcs with h | ⟨h, h'⟩ | ⟨h, h', h''⟩
        ·
          have hne : ¬ yk.toList = zk.toList := fun e => h (ba_ext e)
          clear h
          go_quiet (fail)
          clear y0 y1 y2 yf e0 e1 e2
          go_wp2_with fail
          go_ret
          exact ⟨by rw [HD.out]; rfl, below_drewN HHB.out _⟩
        ·
          subst h
          have hne : ¬ yv.toList = zv.toList := fun e => h' (ba_ext e)
          clear h'
          go_quiet (fail)
          clear y0 y1 y2 yf e0 e1 e2
          go_wp2_with fail
          go_ret
          exact ⟨by rw [HD.out]; rfl, below_drewN HHB.out _⟩
        ·
          subst h
          subst h'
          go_quiet (fail)
          clear y0 y1 y2 yf e0 e1 e2
          go_wp2_with fail
          go_ret
          exact ⟨by rw [HD.out]; rfl, below_drewN HHB.out _⟩
    · obtain rfl : k = q := by omega
      have hd : decide (l = m) = true := by
        refine decide_eq_true ?_
        have := HTK.out
        rw [List.take_of_length_le (by rw [HQ.out]; omega), List.take_of_length_le (by rw [HQ2.out]; omega)] at this
        exact this
      have HD := Lib.hid hd
      have HHB := Lib.hid hb
      clear hd hb
      go_wp2_with fail
      go_ret
      exact ⟨by rw [HD.out]; rfl, HHB.out⟩
end Go.Proofs.YtnkjekkdndjfaaaGreat
namespace Go.Proofs.YtnkjekkdndjfaaaGreat
set_option linter.unusedVariables false
set_option linter.unusedSimpArgs false
open Go.RowKit
set_option maxRecDepth 100000 in
set_option maxHeartbeats 4000000 in
theorem sitems_any (A A2 : Option Addr) (n c n2 c2 : Nat) (l : List It) (w : World) (hr : RdI w w.heap.size A n c l) (hr2 : RdI w w.heap.size A2 n2 c2 l) :
    Calls Tryz.prog 14 #[.slice A n c, .slice A2 n2 c2] w fun r w' => r = .returned (.bool true) ∧ Below w.heap.size w w' := by
  have hl := RdI.len hr
  have hl2 := RdI.len hr2
  have hmax := hr.max
  have hle := hr.le
  have hmax2 := hr2.max
  have hle2 := hr2.le
  unfold maxLen at hmax hmax2
  subst hl
  subst hl2
  have HR := Lib.hid hr
  have HR2 := Lib.hid hr2
  clear hr hr2
  go_enter Tryz.func14, Tryz.ntmps14
  go_wp2_with fail
  go_loopw [14] (fun i wr => ∃ k : Nat, i = .int .i64 (k : Int) ∧ k ≤ l.length ∧ Below w.heap.size w wr) (fun i _ => l.length - (intOf i).toNat)
  case atStart => exact ⟨0, rfl, Nat.zero_le _, Below.refl _ _⟩
  case round =>
    obtain ⟨k, rfl, hk, hb⟩ := hrel
    have hsz := hb.size
    by_cases hlt : k < l.length
    · obtain ⟨gs, off, e, hg, he⟩ := HR.out.elem It.row_length (by omega) (k := k) hlt
      subst e
      obtain ⟨gs2, off2, e2, hg2, he2⟩ := HR2.out.elem It.row_length (by omega) (k := k) hlt
      subst e2
      have hbc := bcell (Below.mono (B := w.heap.size) hb (Nat.le_refl _))
      have f0 := (hbc.1 _ _ hg2).trans (he2 0 _ rfl)
      have f1 := (hbc.1 _ _ hg2).trans (he2 1 _ rfl)
      have f2 := (hbc.1 _ _ hg2).trans (he2 2 _ rfl)
      have HC := Lib.hid (show ∀ w2 : World, Below w.heap.size w w2 → w2.cell? ⟨gs, off + k * 3 + 0, none⟩ = some (.string (l[k]).k) ∧ w2.cell? ⟨gs, off + k * 3 + 1, none⟩ = some (.string (l[k]).v) ∧ w2.cell? ⟨gs, off + k * 3 + 2, none⟩ = some (.int .i64 (l[k]).r) from fun w2 h => ⟨((bcell h).1 _ _ hg).trans (he 0 _ rfl), ((bcell h).1 _ _ hg).trans (he 1 _ rfl), ((bcell h).1 _ _ hg).trans (he 2 _ rfl)⟩)
      rw [Nat.add_zero] at f0
      clear hbc he he2
      generalize l[k] = y at *
      obtain ⟨yk, yv, yr⟩ := y
      simp only at f0 f1 f2 HC
      have HB := Lib.hid hb
      clear hb
      go_upto_region 6 with fail
      obtain ⟨hy, hb2⟩ := one_at wr 108 [.string yk, .string yv, .int .i64 yr]
      have hb := chain HB.out hb2
      clear hb2 f0 f1 f2
      generalize World.alloc wr _ = w5 at *
      obtain ⟨gy, hgy⟩ : ∃ gy, wr.heap.size = gy := ⟨_, rfl⟩
      rw [hgy] at hy hsz ⊢
      clear hgy
      obtain ⟨⟨y0, y1, y2⟩, yf⟩ := at3 hy
      obtain ⟨e0, e1, e2⟩ := HC.out w5 hb
      rw [Nat.add_zero] at e0
      have HHB := Lib.hid hb
      clear hb hy
      go_quiet (fail)
      clear y0 y1 y2 yf e0 e1 e2
      go_wp2_with fail
      go_roundw
      case rel => exact ⟨k + 1, by go_num, by omega, below_drewN HHB.out _⟩
      case measure => simp [intOf]; omega
    · obtain rfl : k = l.length := by omega
      have HHB := Lib.hid hb
      go_wp2_with fail
      go_ret
      exact ⟨rfl, HHB.out⟩
set_option maxRecDepth 100000 in
set_option maxHeartbeats 4000000 in
theorem same9_any (A A2 : Option Addr) (n c n2 c2 : Nat) (l : List It) (pc pr : Int) (pv : ByteArray) (w : World) (hr : RdI w w.heap.size A n c l) (hr2 : RdI w w.heap.size A2 n2 c2 l) :
    Calls Tryz.prog 19 #[.agg #[.int .i64 pc, .int .i64 pr, .string pv, .slice A n c], .agg #[.int .i64 pc, .int .i64 pr, .string pv, .slice A2 n2 c2]] w fun r w' => r = .returned (.bool true) ∧ Below w.heap.size w w' := by
  obtain ⟨h0, h1, hb⟩ := two_at w 58 [.int .i64 pc, .int .i64 pr, .string pv, .slice A n c] 54 [.int .i64 pc, .int .i64 pr, .string pv, .slice A2 n2 c2]
  have HSI := Lib.hid (sitems_any A A2 n c n2 c2 l _ (hr.step' hb) (hr2.step' hb))
  clear hr hr2
  go_enter Tryz.func19, Tryz.ntmps19
  go_upto_region 1 with fail
  generalize World.alloc (World.alloc w _) _ = w1 at *
  obtain ⟨⟨x0, x1, x2, x3⟩, xf⟩ := at4 h0
  obtain ⟨⟨y0, y1, y2, y3⟩, yf⟩ := at4 h1
  have HB := Lib.hid hb
  clear hb h0 h1
  go_wp2_with (((with_reducible refine calls_id ?_); refine HSI.out.mono ?_; rintro z w2 ⟨rfl, hb2⟩))
  go_ret
  exact ⟨rfl, chain HB.out hb2⟩
end Go.Proofs.YtnkjekkdndjfaaaGreat
