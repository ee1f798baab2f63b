/- Chapter 4: the walk of SumBursts. -/
import Derived.Test.YtkohfgkokboghaaSeal
namespace Go.Proofs.Ytkohfgkokboghaa
set_option linter.unusedVariables false
set_option linter.unusedSimpArgs false
open Go.RowKit

theorem mul_xor_pow (f a b : Nat) : 2 ^ f * (a ^^^ b) = 2 ^ f * a ^^^ 2 ^ f * b := by
  have h := Nat.shiftLeft_xor_distrib (a := a) (b := b) (i := f)
  simp only [Nat.shiftLeft_eq] at h
  rw [Nat.mul_comm, h, Nat.mul_comm a, Nat.mul_comm b]

/-- one bit more of those that are turned: it is 1 -/
theorem burst_one {v k f : Nat} (h : v / 2 ^ k % 2 = 1) : 2 ^ f * (v % 2 ^ (k + 1)) = 2 ^ f * (v % 2 ^ k) ^^^ 2 ^ (f + k) := by
  have h1 : v % 2 ^ (k + 1) = v % 2 ^ k ^^^ 2 ^ k * 1 := by
    rw [xor_low _ _ _ (Nat.mod_lt _ (Nat.two_pow_pos k)), Nat.pow_succ, Nat.mod_mul, h]
  rw [h1, mul_xor_pow, Nat.mul_one, ← Nat.pow_add]
theorem burst_zero {v k f : Nat} (h : v / 2 ^ k % 2 ≠ 1) : 2 ^ f * (v % 2 ^ (k + 1)) = 2 ^ f * (v % 2 ^ k) := by
  have h0 : v / 2 ^ k % 2 = 0 := by omega
  rw [Nat.pow_succ, Nat.mod_mul, h0, Nat.mul_zero, Nat.add_zero]

set_option maxHeartbeats 1000000 in
theorem sumBursts_walk {A : Option Addr} {n c : Nat} {l : List UInt8} {at_ v : Nat} (w : World) (hr : RdB w w.heap.size A n c l) (hat : at_ < 65536) (hv : v < 4294967296) :
    Calls Try.prog 10 #[.slice A n c, .int .u16 (at_ : Int), .int .u32 (v : Int)] w fun e w' => e = .returned (.bool true) ∧ Below w.heap.size w w' := by
  have hr2 := hr.take04 300
  have hl2 : (l.take 300).length ≤ 300 := by simp; omega
  have hfew := few04 A n c _ l w hr
  generalize l.take 300 = l2 at *
  have hwl := whole_sealed l2
  have hyl : (l2 ++ fourL (ofN l2)).length = l2.length + 4 := by simp [fourL]
  have hseal := seal_any _ _ _ _ _ hr2 (by omega)
  generalize l2 ++ fourL (ofN l2) = y at *
  have HF := Lib.hid hfew
  have HS := Lib.hid hseal
  have HW := Lib.hid hwl
  have HY := Lib.hid hyl
  clear hfew hseal hwl hyl
  by_cases hv0 : v = 0
  · subst hv0
    go_enter Try.func10, Try.ntmps10
    go_wp2_with (first | (go_at_call 35; refine HF.out.mono ?_; rintro e w1 ⟨rfl, rfl⟩) | (go_at_call 41; refine HS.out.mono ?_; rintro e w1 ⟨A1, c1, rfl, hown1, hb1⟩) | (go_at_call 40; refine (awake04 _).mono ?_; rintro e w2 ⟨rfl, hb2⟩))
    go_ret
    exact ⟨rfl, chain hb1 hb2⟩
  · have hz : ((v : Int) == 0) = false := by simp; omega
    have hf : at_ % (8 * (l2.length + 4) - 31) < 8 * (l2.length + 4) - 31 := Nat.mod_lt _ (by omega)
    have hfi : ((at_ : Int) % (8 * ((l2.length : Int) + 4) - 31)) = ((at_ % (8 * (l2.length + 4) - 31) : Nat) : Int) := by
      rw [Int.natCast_emod, show ((8 * (l2.length + 4) - 31 : Nat) : Int) = 8 * ((l2.length : Int) + 4) - 31 from by omega]
    generalize at_ % (8 * (l2.length + 4) - 31) = f at *
    go_enter Try.func10, Try.ntmps10
    go_wp2_with (first | (go_at_call 35; refine HF.out.mono ?_; rintro e w1 ⟨rfl, rfl⟩) | (go_at_call 41; refine HS.out.mono ?_; rintro e w1 ⟨A1, c1, rfl, hown1, hb1⟩; obtain ⟨g, rfl, hg, _⟩ := hown1.form (by omega)))
    go_loopw [9] (fun i wr => ∃ (k : Nat) (z : List UInt8), k ≤ 32 ∧ i = .int .i64 (k : Int) ∧ OwnB wr w.heap.size (some ⟨g, 0, none⟩) (l2.length + 4) c1 z ∧ bigN z = bigN y ^^^ 2 ^ f * (v % 2 ^ k) ∧ Below w.heap.size w wr) (fun i _ => 32 - (intOf i).toNat)
    case atStart => exact ⟨0, y, by omega, rfl, hown1, by simp [Nat.mod_one], hb1⟩
    case round =>
      obtain ⟨k, z, hk, rfl, hown, hbig, hbr⟩ := hrel
      have HB := Lib.hid hbig
      clear hbig
      by_cases hlt : k < 32
      · have hq : v / 2 ^ k < 4294967296 := Nat.lt_of_le_of_lt (Nat.div_le_self _ _) hv
        have hand : bits .and .u32 ((v : Int) / 2 ^ k) 1 = ((v / 2 ^ k % 2 : Nat) : Int) := by
          have := u32_and_nat (v / 2 ^ k) 1 hq (by omega)
          rw [Nat.and_one_is_mod] at this
          simpa using this
        by_cases hbit : v / 2 ^ k % 2 = 1
        · have hone := burst_one (f := f) hbit
          have HO := Lib.hid hone
          rw [hbit] at hand
          clear hone hbit
          have hzl := hown.length
          have hi8 : (f + k) / 8 < z.length := by omega
          obtain ⟨hc, hfz⟩ := hown.at_ hi8
          go_wp2_with fail
          go_roundw
          case rel =>
            have hj : (f + k) % 8 < 8 := Nat.mod_lt _ (by omega)
            have hpow : 2 ^ ((f + k) % 8) < 256 := Nat.lt_of_lt_of_le (Nat.pow_lt_pow_right (by omega) hj) (by omega)
            have hval : bits .xor .u8 (z[(f + k) / 8].toNat : Int) (2 ^ ((f + k) % 8) % 256) = ((UInt8.ofNat (z[(f + k) / 8].toNat ^^^ 2 ^ ((f + k) % 8))).toNat : Int) := by
              have h1 := u8_xor_nat z[(f + k) / 8].toNat (2 ^ ((f + k) % 8)) (z[(f + k) / 8].toNat_lt) hpow
              have h2 : ((2 : Int) ^ ((f + k) % 8) % 256) = ((2 ^ ((f + k) % 8) : Nat) : Int) := by
                have h3 : ((2 ^ ((f + k) % 8) : Nat) : Int) = (2 : Int) ^ ((f + k) % 8) := by simp
                rw [← h3]
                exact Int.emod_eq_of_lt (Int.natCast_nonneg _) (Int.ofNat_lt.2 hpow)
              rw [h2, h1, UInt8.toNat_ofNat', Nat.mod_eq_of_lt (Nat.xor_lt_two_pow (n := 8) (z[(f + k) / 8].toNat_lt) hpow)]
            obtain ⟨s1, s2, _⟩ := hown.set ((f + k) / 8) _ hval
            refine ⟨k + 1, _, by omega, by go_num, s1, ?_, hbr.trans s2⟩
            rw [big_flip z _ _ hi8 hj, HB.out, HO.out, Nat.xor_assoc, show 8 * ((f + k) / 8) + (f + k) % 8 = f + k from by omega]
          case measure => simp [intOf]; omega
        · have hz0 := burst_zero (f := f) hbit
          have HO := Lib.hid hz0
          have hbit0 : v / 2 ^ k % 2 = 0 := by omega
          rw [hbit0] at hand
          clear hz0 hbit hbit0
          go_wp2_with fail
          go_roundw
          case rel => exact ⟨k + 1, z, by omega, by go_num, hown, by rw [HO.out]; exact HB.out, hbr⟩
          case measure => simp [intOf]; omega
      · obtain rfl : k = 32 := by omega
        go_wp2_with fail
        have hnw : wholeB z = false := by
          have hzl := hown.length
          have hb := HB.out
          rw [Nat.mod_eq_of_lt (show v < 2 ^ 32 from hv)] at hb
          have := burst (y := y) (z := z) (by rw [hzl, HY.out]) v f hv0 hv (by rw [HY.out]; omega) hb HW.out
          rw [← wholeB_iff] at this
          simpa using this
        have hwz := whole_any _ _ _ z wr hown.rd (by omega)
        rw [hnw] at hwz
        have HWZ := Lib.hid hwz
        clear hwz hnw
        go_wp2_with (first | (go_at_call 43; refine HWZ.out.mono ?_; rintro e w3 ⟨rfl, hb3⟩) | (go_at_call 40; refine (awake04 _).mono ?_; rintro e w4 ⟨rfl, hb4⟩))
        go_ret
        exact ⟨rfl, chain (chain hbr hb3) hb4⟩
end Go.Proofs.Ytkohfgkokboghaa
