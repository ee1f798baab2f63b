
/- Chapter 9: SameItems and Same of what is alike. -/
import Derived.Test.YtcpkaolfafeojaaKvRPlan2
namespace Go.Proofs.Ytcpkaolfafeojaa
set_option linter.unusedVariables false
set_option linter.unusedSimpArgs false
open Go.RowKit
set_option maxRecDepth 100000 in
set_option maxHeartbeats 4000000 in
theorem sitems_any (A A2 : Option Addr) (n c n2 c2 : Nat) (l : List It) (w : World) (hr : RdI w w.heap.size A n c l) (hr2 : RdI w w.heap.size A2 n2 c2 l) :
    Calls Try.prog 45 #[.slice A n c, .slice A2 n2 c2] w fun r w' => r = .returned (.bool true) ∧ Below w.heap.size w w' := by
  have hl := RdI.len hr
  have hl2 := RdI.len hr2
  have hmax := hr.max
  have hle := hr.le
  have hmax2 := hr2.max
  have hle2 := hr2.le
  unfold maxLen at hmax hmax2
  subst hl
  subst hl2
  have HR := Lib.hid hr
  have HR2 := Lib.hid hr2
  clear hr hr2
  go_enter Try.func45, Try.ntmps45
  go_wp2_with fail
  go_loopw [14] (fun i wr => ∃ k : Nat, i = .int .i64 (k : Int) ∧ k ≤ l.length ∧ Below w.heap.size w wr) (fun i _ => l.length - (intOf i).toNat)
  case atStart => exact ⟨0, rfl, Nat.zero_le _, Below.refl _ _⟩
  case round =>
    obtain ⟨k, rfl, hk, hb⟩ := hrel
    have hsz := hb.size
    by_cases hlt : k < l.length
    · obtain ⟨gs, off, e, hg, he⟩ := HR.out.elem It.row_length (by omega) (k := k) hlt
      subst e
      obtain ⟨gs2, off2, e2, hg2, he2⟩ := HR2.out.elem It.row_length (by omega) (k := k) hlt
      subst e2
      have hbc := bcell (Below.mono (B := w.heap.size) hb (Nat.le_refl _))
      have f0 := (hbc.1 _ _ hg2).trans (he2 0 _ rfl)
      have f1 := (hbc.1 _ _ hg2).trans (he2 1 _ rfl)
      have f2 := (hbc.1 _ _ hg2).trans (he2 2 _ rfl)
      have HC := Lib.hid (show ∀ w2 : World, Below w.heap.size w w2 → w2.cell? ⟨gs, off + k * 3 + 0, none⟩ = some (.string (l[k]).k) ∧ w2.cell? ⟨gs, off + k * 3 + 1, none⟩ = some (.string (l[k]).v) ∧ w2.cell? ⟨gs, off + k * 3 + 2, none⟩ = some (.int .i64 (l[k]).r) from fun w2 h => ⟨((bcell h).1 _ _ hg).trans (he 0 _ rfl), ((bcell h).1 _ _ hg).trans (he 1 _ rfl), ((bcell h).1 _ _ hg).trans (he 2 _ rfl)⟩)
      rw [Nat.add_zero] at f0
      clear hbc he he2
      generalize l[k] = y at *
      obtain ⟨yk, yv, yr⟩ := y
      simp only at f0 f1 f2 HC
      have HB := Lib.hid hb
      clear hb
      go_upto_region 6 with fail
      obtain ⟨hy, hb2⟩ := one_at wr 108 [.string yk, .string yv, .int .i64 yr]
      have hb := chain HB.out hb2
      clear hb2 f0 f1 f2
      generalize World.alloc wr _ = w5 at *
      obtain ⟨gy, hgy⟩ : ∃ gy, wr.heap.size = gy := ⟨_, rfl⟩
      rw [hgy] at hy hsz ⊢
      clear hgy
      obtain ⟨⟨y0, y1, y2⟩, yf⟩ := at3 hy
      obtain ⟨e0, e1, e2⟩ := HC.out w5 hb
      rw [Nat.add_zero] at e0
      have HHB := Lib.hid hb
      clear hb hy
      go_quiet (fail)
      clear y0 y1 y2 yf e0 e1 e2
      go_wp2_with fail
      go_roundw
      case rel => exact ⟨k + 1, by go_num, by omega, below_drewN HHB.out _⟩
      case measure => simp [intOf]; omega
    · obtain rfl : k = l.length := by omega
      have HHB := Lib.hid hb
      go_wp2_with fail
      go_ret
      exact ⟨rfl, HHB.out⟩
set_option maxRecDepth 100000 in
set_option maxHeartbeats 4000000 in
theorem same9_any (A A2 : Option Addr) (n c n2 c2 : Nat) (l : List It) (pc pr : Int) (pv : ByteArray) (w : World) (hr : RdI w w.heap.size A n c l) (hr2 : RdI w w.heap.size A2 n2 c2 l) :
    Calls Try.prog 44 #[.agg #[.int .i64 pc, .int .i64 pr, .string pv, .slice A n c], .agg #[.int .i64 pc, .int .i64 pr, .string pv, .slice A2 n2 c2]] w fun r w' => r = .returned (.bool true) ∧ Below w.heap.size w w' := by
  obtain ⟨h0, h1, hb⟩ := two_at w 49 [.int .i64 pc, .int .i64 pr, .string pv, .slice A n c] 83 [.int .i64 pc, .int .i64 pr, .string pv, .slice A2 n2 c2]
  have HSI := Lib.hid (sitems_any A A2 n c n2 c2 l _ (hr.step' hb) (hr2.step' hb))
  clear hr hr2
  go_enter Try.func44, Try.ntmps44
  go_upto_region 1 with fail
  generalize World.alloc (World.alloc w _) _ = w1 at *
  obtain ⟨⟨x0, x1, x2, x3⟩, xf⟩ := at4 h0
  obtain ⟨⟨y0, y1, y2, y3⟩, yf⟩ := at4 h1
  have HB := Lib.hid hb
  clear hb h0 h1
  go_wp2_with (((with_reducible refine calls_id ?_); refine HSI.out.mono ?_; rintro z w2 ⟨rfl, hb2⟩))
  go_ret
  exact ⟨rfl, chain HB.out hb2⟩
end Go.Proofs.Ytcpkaolfafeojaa
