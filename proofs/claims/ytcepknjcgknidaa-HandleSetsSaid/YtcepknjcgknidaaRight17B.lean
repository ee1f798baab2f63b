
/- Chapter 17: handle.Right. -/
import Derived.Test.YtcepknjcgknidaaRight17
import Derived.Test.YtcepknjcgknidaaRef03b
namespace Go.Proofs.Ytcepknjcgknidaa
set_option linter.unusedVariables false
set_option linter.unusedSimpArgs false
open Go.RowKit
set_option maxRecDepth 100000 in
set_option maxHeartbeats 4000000 in
theorem right17_any (A : Option Addr) (n c : Nat) (l : List Ct) (w : World) (hr : RdC w w.heap.size A n c l) (hf : ∀ x ∈ l, x.b < 4294967296) :
    Calls Try.prog 46 #[.agg #[.slice A n c]] w fun x w' => x = .returned (.bool (right17 l)) ∧ Below w.heap.size w w' := by
  have hl := RdC.len hr
  have hmax := hr.max
  have hle := hr.le
  unfold maxLen at hmax
  subst hl
  have HR := Lib.hid hr
  have HF := Lib.hid hf
  clear hr hf
  go_enter Try.func46, Try.ntmps46
  go_upto_region 1 with fail
  obtain ⟨h0, hb⟩ := one_at w 62 [.slice A l.length c]
  generalize World.alloc _ _ = w1 at *
  obtain ⟨x0, x1⟩ := at1 h0
  have H0 := Lib.hid h0
  have HB := Lib.hid hb
  clear h0 hb
  go_wp2_with fail
  clear x0 x1
  go_loopw [8] (fun i wr => ∃ (k : Nat), i = .int .i64 (k : Int) ∧ k ≤ l.length ∧ (∀ j, j < k → okC l j) ∧ At wr w.heap.size 62 [.slice A l.length c] ∧ Below w.heap.size w wr) (fun i _ => l.length - (intOf i).toNat)
  case atStart => exact ⟨0, rfl, Nat.zero_le _, by intro j hj; omega, H0.out, HB.out⟩
  case round =>
    clear H0 HB
    obtain ⟨k, rfl, hk, ha, h0, hb⟩ := hrel
    have H0 := Lib.hid h0
    clear h0
    have hsz := hb.size
    have HA := Lib.hid ha
    clear ha
    by_cases hlt : k < l.length
    · obtain ⟨g, off, e, hg, he⟩ := HR.out.elem Ct.row_length (by omega) (k := k) hlt
      subst e
      have hbc := bcell (Below.mono (B := w.heap.size) hb (Nat.le_refl _))
      have e0 := (hbc.1 _ _ hg).trans (he 0 _ rfl)
      have e1 := (hbc.1 _ _ hg).trans (he 1 _ rfl)
      rw [Nat.add_zero] at e0
      have hfb := HF.out l[k] (List.getElem_mem hlt)
      have hxk := getD_at hlt
      generalize l[k] = y at *
      clear he hbc
      have HB := Lib.hid hb
      clear hb
      go_upto_region 4 with fail
      obtain ⟨hy, hb2⟩ := one_at wr 96 y.row
      have HB := Lib.hid (chain HB.out hb2)
      have H0 := Lib.hid (H0.out.below hb2)
      have hsz' := Nat.le_trans hsz hb2.size
      unfold Ct.row at hy HB hsz' H0
      clear hb2 e0 e1
      generalize World.alloc _ _ = w2 at *
      generalize wr.heap.size = gy at *
      obtain ⟨⟨y0, y1⟩, _⟩ := at2 hy
      obtain ⟨x0, x1⟩ := at1 H0.out
      have HFI := Lib.hid (fun w => first17_any y.b hfb w)
      obtain ⟨fb, hfbe⟩ : ∃ fb, fb = y.b - y.b % 64 := ⟨_, rfl⟩
      rw [← hfbe] at HFI
      have hz2 : ∀ j, k = j + 1 → ∃ z : Ct, l.getD j default = z ∧ (j : Int) < (l.length : Int) ∧ w2.cell? ⟨g, off + j * 2, none⟩ = some (Value.int .u32 (z.b : Int)) := by
        intro j hj
        have hlj : j < l.length := by omega
        obtain ⟨g', off', e, hg', he⟩ := HR.out.elem Ct.row_length (by omega) (k := j) hlj
        injection e with e
        injection e with e1 e2
        subst e1
        subst e2
        have f0 := ((bcell HB.out).1 _ _ hg).trans (he 0 _ rfl)
        rw [Nat.add_zero] at f0
        exact ⟨l[j], getD_at hlj, by omega, f0⟩
      have HZ := Lib.hid hz2
      have HXK := Lib.hid hxk
      clear hz2 hxk
      by_cases h1 : y.b % 64 = 0
      · have hq1 : ((fb : Int) != (y.b : Int)) = false := by simp; omega
        clear hfbe
        by_cases h2 : y.n < 1
        · have hq2 : decide (y.n < 1) = true := decide_eq_true h2
          have HN := Lib.hid (right17_no hlt fun e => absurd e.2.1 (by rw [HXK.out]; omega))
          clear h2 h1
          go_wp2_with fail
          go_quiet ((go_at_call 66; exact quiet_same (HFI.out _)))
          go_wp2_with fail
          go_ret
          exact ⟨by rw [HN.out]; rfl, below_drewN HB.out _⟩
        · have hq2 : decide (y.n < 1) = false := decide_eq_false h2
          by_cases h3 : 65535 < y.n
          · have hq3 : decide (65535 < y.n) = true := decide_eq_true h3
            have HN := Lib.hid (right17_no hlt fun e => absurd e.2.2.1 (by rw [HXK.out]; omega))
            clear h3 h2 h1
            go_wp2_with fail
            go_quiet ((go_at_call 66; exact quiet_same (HFI.out _)))
            go_wp2_with fail
            go_ret
            exact ⟨by rw [HN.out]; rfl, below_drewN HB.out _⟩
          · have hq3 : decide (65535 < y.n) = false := decide_eq_false h3
            by_cases h4 : 0 < k
            · have hq4 : decide ((0 : Int) < (k : Int)) = true := decide_eq_true (by omega)
              have hq6 : decide (0 < k) = true := decide_eq_true h4
              obtain ⟨j, hj⟩ : ∃ j, k = j + 1 := ⟨k - 1, by omega⟩
              obtain ⟨z, hz, hjl, z0⟩ := HZ.out j hj
              have hw2 : (k : Int) - 1 = (j : Int) := by omega
              have hw : IntKind.i64.wrap ((k : Int) - 1) = (j : Int) := by rw [hw2]; exact IntWalk.i64_in _ (by omega)
              have hj0 : (0 : Int) ≤ (j : Int) := by omega
              have hpk : l.getD (k - 1) default = z := by rw [hj]; exact hz
              by_cases h5 : y.b ≤ z.b
              · have hq5 : decide ((y.b : Int) ≤ (z.b : Int)) = true := decide_eq_true (by omega)
                have hq7 : decide (y.b ≤ z.b) = true := decide_eq_true h5
                have HN := Lib.hid (right17_no hlt fun e => absurd (e.2.2.2 h4) (by rw [HXK.out, hpk]; omega))
                clear h5 h4 h3 h2 h1 hz hpk hj
                go_wp2_with fail
                go_quiet ((go_at_call 66; exact quiet_same (HFI.out _)))
                go_wp2_with fail
                go_ret
                exact ⟨by rw [HN.out]; rfl, below_drewN HB.out _⟩
              · have hq5 : decide ((y.b : Int) ≤ (z.b : Int)) = false := decide_eq_false (by omega)
                have hq7 : decide (y.b ≤ z.b) = false := decide_eq_false h5
                have HN := Lib.hid (show okC l k from by unfold okC; rw [HXK.out, hpk]; exact ⟨h1, by omega, by omega, fun _ => by omega⟩)
                clear h5 h4 h3 h2 h1 hz hpk hj
                go_wp2_with fail
                go_quiet ((go_at_call 66; exact quiet_same (HFI.out _)))
                go_wp2_with fail
                go_roundw
                case rel => exact ⟨k + 1, by go_num, by omega, fun i hi => (by rcases Nat.lt_succ_iff_lt_or_eq.1 hi with h | rfl; exact HA.out i h; exact HN.out), H0.out.drewN _, below_drewN HB.out _⟩
                case measure => simp [intOf]; omega
            · have hq4 : decide ((0 : Int) < (k : Int)) = false := decide_eq_false (by omega)
              have hq6 : decide (0 < k) = false := decide_eq_false h4
              have HN := Lib.hid (show okC l k from by unfold okC; rw [HXK.out]; exact ⟨h1, by omega, by omega, fun h => absurd h h4⟩)
              clear h4 h3 h2 h1
              go_wp2_with fail
              go_quiet ((go_at_call 66; exact quiet_same (HFI.out _)))
              go_wp2_with fail
              go_roundw
              case rel => exact ⟨k + 1, by go_num, by omega, fun i hi => (by rcases Nat.lt_succ_iff_lt_or_eq.1 hi with h | rfl; exact HA.out i h; exact HN.out), H0.out.drewN _, below_drewN HB.out _⟩
              case measure => simp [intOf]; omega
      · have HN := Lib.hid (right17_no hlt fun e => h1 (by have := e.1; rw [HXK.out] at this; exact this))
        have hq1 : ((fb : Int) != (y.b : Int)) = true := by simp; omega
        clear hfbe
        clear h1
        go_wp2_with fail
        go_quiet ((go_at_call 66; exact quiet_same (HFI.out _)))
        go_wp2_with fail
        go_ret
        exact ⟨by rw [HN.out]; rfl, below_drewN HB.out _⟩
    · obtain rfl : k = l.length := by omega
      have HN := Lib.hid (right17_end HA.out)
      have HB := Lib.hid hb
      clear hb
      obtain ⟨x0, x1⟩ := at1 H0.out
      go_wp2_with fail
      go_ret
      exact ⟨by rw [HN.out]; simp; omega, HB.out⟩
end Go.Proofs.Ytcepknjcgknidaa
