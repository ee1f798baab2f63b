
/- Chapter 7: are two rows of records the same? -/
import Derived.Test.YtmoijbknjadeeaaFrameAll
namespace Go.Proofs.Ytmoijbknjadeeaa
set_option linter.unusedVariables false
set_option linter.unusedSimpArgs false
open Go.RowKit
set_option maxHeartbeats 1000000 in
/-- are two rows the same? -/
theorem same07 (A : Option Addr) (n c B : Nat) (ys : List Bsl) (A2 : Option Addr) (n2 c2 B2 : Nat) (zs : List Bsl) (w : World) (hy : RdS w B A n c ys) (hz : RdS w B2 A2 n2 c2 zs) :
    Calls Try.prog 35 #[.slice A n c, .slice A2 n2 c2] w fun e w' => e = .returned (.bool (decide (ys.map Bsl.l = zs.map Bsl.l))) ∧ ∃ k, w' = w.drewN k := by
  obtain rfl : ys.length = n := hy.length
  obtain rfl : zs.length = n2 := hz.length
  have hle := hz.1.le
  have hmax := hz.1.max
  unfold maxLen at hmax
  by_cases hlen : ys.length = zs.length
  · have h1 : ((ys.length : Int) != (zs.length : Int)) = false := by simp; omega
    have HL := Lib.hid hlen
    clear hlen
    go_enter Try.func35, Try.ntmps35
    go_wp2_with fail
    go_loopw [13] (fun i wr => ∃ k j : Nat, k ≤ zs.length ∧ i = .int .i64 (k : Int) ∧ (ys.map Bsl.l).take k = (zs.map Bsl.l).take k ∧ wr = w.drewN j) (fun i _ => zs.length - (intOf i).toNat)
    case atStart => exact ⟨0, 0, Nat.zero_le _, rfl, by simp, rfl⟩
    case round =>
      obtain ⟨k, j, hk, rfl, ht, rfl⟩ := hrel
      have HT := Lib.hid ht
      clear ht
      by_cases hlt : k < zs.length
      · have hlt2 : k < ys.length := by rw [HL.out]; exact hlt
        obtain ⟨b, off, rfl, _, hc, hrd⟩ := hy.get hlt2
        obtain ⟨b2, off2, rfl, _, hc2, hrd2⟩ := hz.get hlt
        have hi1 : (0 : Int) ≤ (k : Int) := by omega
        have hi2 : (k : Int) < (ys.length : Int) := by omega
        have hi3 : (k : Int) < (zs.length : Int) := by omega
        have hcv1 := fun q => conv_str (hrd.drewN q)
        have hcv2 := fun q => conv_str (hrd2.drewN q)
        by_cases heq : ys[k].l = zs[k].l
        · have h2 : (ys[k].l == zs[k].l) = true := by simp [heq]
          have HQ := Lib.hid heq
          clear heq
          go_wp2_with fail
          go_quiet (fail)
          go_wp2_with fail
          go_roundw
          case rel => exact ⟨k + 1, _, by omega, by go_num, by rw [List.take_succ_eq_append_getElem (by simpa using hlt2), List.take_succ_eq_append_getElem (by simpa using hlt), HT.out]; simp [HQ.out], by first | rfl | rw [World.drewN_drewN]⟩
          case measure => simp [intOf]; omega
        · have h2 : (ys[k].l == zs[k].l) = false := by simpa using heq
          have hne : ys.map Bsl.l ≠ zs.map Bsl.l := by
            intro h
            have h3 := congrArg (fun l => l[k]?) h
            simp only [List.getElem?_map, List.getElem?_eq_getElem hlt, List.getElem?_eq_getElem hlt2, Option.map_some] at h3
            injection h3 with h3
            exact heq h3
          have HN := Lib.hid (decide_eq_false hne)
          clear heq hne
          go_wp2_with fail
          go_quiet (fail)
          go_wp2_with fail
          go_ret
          exact ⟨by rw [HN.out]; rfl, j + nq, by rw [World.drewN_drewN]⟩
      · obtain rfl : k = zs.length := by omega
        have hEq : ys.map Bsl.l = zs.map Bsl.l := by
          have := HT.out
          rw [List.take_of_length_le (by simp [HL.out]), List.take_of_length_le (by simp)] at this
          exact this
        have HN := Lib.hid (decide_eq_true hEq)
        clear hEq
        go_wp2_with fail
        go_ret
        exact ⟨by rw [HN.out]; rfl, _, rfl⟩
  · have h1 : ((ys.length : Int) != (zs.length : Int)) = true := by simp; omega
    have hne : ys.map Bsl.l ≠ zs.map Bsl.l := by
      intro h
      have := congrArg List.length h
      simp at this
      exact hlen this
    have HN := Lib.hid (decide_eq_false hne)
    clear hlen hne
    go_enter Try.func35, Try.ntmps35
    go_wp2_with fail
    go_ret
    exact ⟨by rw [HN.out]; rfl, 0, rfl⟩
end Go.Proofs.Ytmoijbknjadeeaa
