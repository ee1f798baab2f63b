
/- Chapter 17: an address's block; may counts be a handle's? -/
import Derived.Test.YtcepknjcgknidaaPlain17
import Derived.Test.YtcepknjcgknidaaCidr
namespace Go.Proofs.Ytcepknjcgknidaa
set_option linter.unusedVariables false
set_option linter.unusedSimpArgs false
open Go.RowKit
theorem and_block (a : Nat) (ha : a < 4294967296) : a &&& 4294967232 = a - a % 64 := by
  have h1 : a - a % 64 = (a >>> 6) <<< 6 := by rw [Nat.shiftLeft_eq, Nat.shiftRight_eq_div_pow]; omega
  have h2 : 4294967232 = (2 ^ 26 - 1) <<< 6 := by decide
  rw [h1, h2]
  apply Nat.eq_of_testBit_eq
  intro j
  rw [Nat.testBit_and, Nat.testBit_shiftLeft, Nat.testBit_shiftLeft, Nat.testBit_shiftRight, Nat.testBit_two_pow_sub_one]
  by_cases h : 6 ≤ j
  · rw [show 6 + (j - 6) = j by omega]
    by_cases h32 : j < 32
    · simp [h, show j - 6 < 26 by omega]
    · have : a.testBit j = false := Nat.testBit_lt_two_pow (Nat.lt_of_lt_of_le ha (by rw [show 4294967296 = 2 ^ 32 by decide]; exact Nat.pow_le_pow_right (by omega) (by omega)))
      simp [this]
  · simp [h]
theorem and_mask (a : Nat) (ha : a < 4294967296) : bits .and .u32 (a : Int) (maskN 26 : Int) = ((a - a % 64 : Nat) : Int) := by
  rw [show maskN 26 = 4294967232 from by decide]
  rw [u32_and_nat a 4294967232 ha (by omega), and_block a ha]
theorem first17_any (a : Nat) (ha : a < 4294967296) (w : World) : Calls Try.prog 66 #[.int .u32 (a : Int)] w fun x w' => x = .returned (.int .u32 ((a - a % 64 : Nat) : Int)) ∧ w = w' := by
  have hm := fun w => mask_any 26 (by omega) w
  have hb := and_mask a ha
  simp only [Int.cast_ofNat_Int] at hm
  generalize maskN 26 = mm at *
  go_enter Try.func66, Try.ntmps66
  go_wp2_with fail
  refine (hm _).mono ?_
  rintro x w2 ⟨rfl, rfl⟩
  go_wp2_with fail
  go_ret
  exact ⟨rfl, rfl⟩
def okC (l : List Ct) (i : Nat) : Prop := (l.getD i default).b % 64 = 0 ∧ 1 ≤ (l.getD i default).n ∧ (l.getD i default).n ≤ 65535 ∧ (0 < i → (l.getD (i - 1) default).b < (l.getD i default).b)
instance (l : List Ct) (i : Nat) : Decidable (okC l i) := by unfold okC; exact inferInstance
def right17 (l : List Ct) : Bool := decide ((∀ i, i < l.length → okC l i) ∧ l.length ≤ 4096)
theorem right17_no {l : List Ct} {k : Nat} (hk : k < l.length) (h : ¬ okC l k) : right17 l = false := decide_eq_false fun e => h (e.1 k hk)
theorem right17_end {l : List Ct} (h : ∀ i, i < l.length → okC l i) : right17 l = decide (l.length ≤ 4096) := by
  unfold right17
  by_cases hl : l.length ≤ 4096
  · rw [decide_eq_true hl, decide_eq_true ⟨h, hl⟩]
  · rw [decide_eq_false hl, decide_eq_false fun e => hl e.2]
theorem getD_at {l : List Ct} {k : Nat} (h : k < l.length) : l.getD k default = l[k] := by simp [h]
set_option maxRecDepth 100000 in
set_option maxHeartbeats 4000000 in
theorem rright17_any (A : Option Addr) (n c : Nat) (l : List Ct) (w : World) (hr : RdC w w.heap.size A n c l) (hf : ∀ x ∈ l, x.b < 4294967296) :
    Calls Try.prog 36 #[.slice A n c] w fun x w' => x = .returned (.bool (right17 l)) ∧ Below w.heap.size w w' := by
  have hl := RdC.len hr
  have hmax := hr.max
  have hle := hr.le
  unfold maxLen at hmax
  subst hl
  have HR := Lib.hid hr
  have HF := Lib.hid hf
  clear hr hf
  go_enter Try.func36, Try.ntmps36
  go_wp2_with fail
  go_loopw [7] (fun i wr => ∃ (k : Nat), i = .int .i64 (k : Int) ∧ k ≤ l.length ∧ (∀ j, j < k → okC l j) ∧ Below w.heap.size w wr) (fun i _ => l.length - (intOf i).toNat)
  case atStart => exact ⟨0, rfl, Nat.zero_le _, by intro j hj; omega, Below.refl _ _⟩
  case round =>
    obtain ⟨k, rfl, hk, ha, hb⟩ := hrel
    have hsz := hb.size
    have HA := Lib.hid ha
    clear ha
    by_cases hlt : k < l.length
    · obtain ⟨g, off, e, hg, he⟩ := HR.out.elem Ct.row_length (by omega) (k := k) hlt
      subst e
      have hbc := bcell (Below.mono (B := w.heap.size) hb (Nat.le_refl _))
      have e0 := (hbc.1 _ _ hg).trans (he 0 _ rfl)
      have e1 := (hbc.1 _ _ hg).trans (he 1 _ rfl)
      rw [Nat.add_zero] at e0
      have hfb := HF.out l[k] (List.getElem_mem hlt)
      have hxk := getD_at hlt
      generalize l[k] = y at *
      clear he hbc
      have HB := Lib.hid hb
      clear hb
      go_upto_region 4 with fail
      obtain ⟨hy, hb2⟩ := one_at wr 95 y.row
      have HB := Lib.hid (chain HB.out hb2)
      have hsz' := Nat.le_trans hsz hb2.size
      unfold Ct.row at hy HB hsz'
      clear hb2 e0 e1
      generalize World.alloc _ _ = w2 at *
      generalize wr.heap.size = gy at *
      obtain ⟨⟨y0, y1⟩, _⟩ := at2 hy
      have hz2 : ∀ j, k = j + 1 → ∃ z : Ct, l.getD j default = z ∧ (j : Int) < (l.length : Int) ∧ w2.cell? ⟨g, off + j * 2, none⟩ = some (Value.int .u32 (z.b : Int)) := by
        intro j hj
        have hlj : j < l.length := by omega
        obtain ⟨g', off', e, hg', he⟩ := HR.out.elem Ct.row_length (by omega) (k := j) hlj
        injection e with e
        injection e with e1 e2
        subst e1
        subst e2
        have f0 := ((bcell HB.out).1 _ _ hg).trans (he 0 _ rfl)
        rw [Nat.add_zero] at f0
        exact ⟨l[j], getD_at hlj, by omega, f0⟩
      have HZ := Lib.hid hz2
      have HXK := Lib.hid hxk
      clear hz2 hxk
      by_cases h1 : y.b % 64 = 0
      · have hq1 : ((y.b : Int) % 64 != 0) = false := by simp; omega
        by_cases h2 : y.n < 1
        · have hq2 : decide (y.n < 1) = true := decide_eq_true h2
          have HN := Lib.hid (right17_no hlt fun e => absurd e.2.1 (by rw [HXK.out]; omega))
          clear h2 h1
          go_wp2_with fail
          go_quiet (fail)
          go_wp2_with fail
          go_ret
          exact ⟨by rw [HN.out]; rfl, below_drewN HB.out _⟩
        · have hq2 : decide (y.n < 1) = false := decide_eq_false h2
          by_cases h3 : 65535 < y.n
          · have hq3 : decide (65535 < y.n) = true := decide_eq_true h3
            have HN := Lib.hid (right17_no hlt fun e => absurd e.2.2.1 (by rw [HXK.out]; omega))
            clear h3 h2 h1
            go_wp2_with fail
            go_quiet (fail)
            go_wp2_with fail
            go_ret
            exact ⟨by rw [HN.out]; rfl, below_drewN HB.out _⟩
          · have hq3 : decide (65535 < y.n) = false := decide_eq_false h3
            by_cases h4 : 0 < k
            · have hq4 : decide ((0 : Int) < (k : Int)) = true := decide_eq_true (by omega)
              have hq6 : decide (0 < k) = true := decide_eq_true h4
              obtain ⟨j, hj⟩ : ∃ j, k = j + 1 := ⟨k - 1, by omega⟩
              obtain ⟨z, hz, hjl, z0⟩ := HZ.out j hj
              have hw2 : (k : Int) - 1 = (j : Int) := by omega
              have hw : IntKind.i64.wrap ((k : Int) - 1) = (j : Int) := by rw [hw2]; exact IntWalk.i64_in _ (by omega)
              have hj0 : (0 : Int) ≤ (j : Int) := by omega
              have hpk : l.getD (k - 1) default = z := by rw [hj]; exact hz
              by_cases h5 : y.b ≤ z.b
              · have hq5 : decide ((y.b : Int) ≤ (z.b : Int)) = true := decide_eq_true (by omega)
                have hq7 : decide (y.b ≤ z.b) = true := decide_eq_true h5
                have HN := Lib.hid (right17_no hlt fun e => absurd (e.2.2.2 h4) (by rw [HXK.out, hpk]; omega))
                clear h5 h4 h3 h2 h1 hz hpk hj
                go_wp2_with fail
                go_quiet (fail)
                go_wp2_with fail
                go_ret
                exact ⟨by rw [HN.out]; rfl, below_drewN HB.out _⟩
              · have hq5 : decide ((y.b : Int) ≤ (z.b : Int)) = false := decide_eq_false (by omega)
                have hq7 : decide (y.b ≤ z.b) = false := decide_eq_false h5
                have HN := Lib.hid (show okC l k from by unfold okC; rw [HXK.out, hpk]; exact ⟨h1, by omega, by omega, fun _ => by omega⟩)
                clear h5 h4 h3 h2 h1 hz hpk hj
                go_wp2_with fail
                go_quiet (fail)
                go_wp2_with fail
                go_roundw
                case rel => exact ⟨k + 1, by go_num, by omega, fun i hi => (by rcases Nat.lt_succ_iff_lt_or_eq.1 hi with h | rfl; exact HA.out i h; exact HN.out), below_drewN HB.out _⟩
                case measure => simp [intOf]; omega
            · have hq4 : decide ((0 : Int) < (k : Int)) = false := decide_eq_false (by omega)
              have hq6 : decide (0 < k) = false := decide_eq_false h4
              have HN := Lib.hid (show okC l k from by unfold okC; rw [HXK.out]; exact ⟨h1, by omega, by omega, fun h => absurd h h4⟩)
              clear h4 h3 h2 h1
              go_wp2_with fail
              go_quiet (fail)
              go_wp2_with fail
              go_roundw
              case rel => exact ⟨k + 1, by go_num, by omega, fun i hi => (by rcases Nat.lt_succ_iff_lt_or_eq.1 hi with h | rfl; exact HA.out i h; exact HN.out), below_drewN HB.out _⟩
              case measure => simp [intOf]; omega
      · have HN := Lib.hid (right17_no hlt fun e => h1 (by have := e.1; rw [HXK.out] at this; exact this))
        have hq1 : ((y.b : Int) % 64 != 0) = true := by simp; omega
        clear h1
        go_wp2_with fail
        go_quiet (fail)
        go_wp2_with fail
        go_ret
        exact ⟨by rw [HN.out]; rfl, below_drewN HB.out _⟩
    · obtain rfl : k = l.length := by omega
      have HN := Lib.hid (right17_end HA.out)
      have HB := Lib.hid hb
      clear hb
      go_wp2_with fail
      go_ret
      exact ⟨by rw [HN.out]; simp; omega, HB.out⟩
end Go.Proofs.Ytcepknjcgknidaa
