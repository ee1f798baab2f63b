
/- Chapter 13: the walk of RecsStates. -/
import Derived.Test.YtcepknjcgknidaaRecs
namespace Go.Proofs.Ytcepknjcgknidaa
set_option linter.unusedVariables false
set_option linter.unusedSimpArgs false
open Go.RowKit
set_option maxRecDepth 100000 in
set_option maxHeartbeats 4000000 in
theorem recsStates_walk {n : Int} {gone : Bool} {name : ByteArray} (w : World) (hn : name.size ≤ maxLen) :
    Calls Try.prog 3 #[.int .i64 n, .bool gone, .string name] w fun x w' => x = .returned (.bool true) ∧ Below w.heap.size w w' := by
  by_cases h80 : 80 < name.size
  · obtain ⟨s, hs, hsz⟩ : ∃ s, name.extract 0 80 = s ∧ s.size ≤ 80 := ⟨_, rfl, by simp [ByteArray.size_extract]; omega⟩
    have HS := Lib.hid hs
    clear hs
    have h1 := fun w => seed_any s w (by omega)
    have h2 := fun w => rseed_any s w (by omega)
    have H1 := Lib.hid h1
    have H2 := Lib.hid h2
    clear h1 h2
    generalize seedN s.data.toList = sd at *
    cases gone
    all_goals
      go_enter Try.func3, Try.ntmps3
      go_upto_region 3 with fail
      rw [HS.out]
      go_wp2_with fail
      refine (putnode_any _ _).mono ?_
      rintro x w1 ⟨rfl, hb1⟩
      go_wp2_with fail
      refine (rnode_any _ _).mono ?_
      rintro x w2 ⟨rfl, rfl⟩
      go_wp2_with fail
      refine (H1.out _).mono ?_
      rintro x w3 ⟨rfl, hb3⟩
      replace hb1 := chain hb1 hb3
      clear hb3
      go_wp2_with fail
      refine (H2.out _).mono ?_
      rintro x w4 ⟨rfl, rfl⟩
      go_upto_region 5 with fail
      by_cases hbad : n < 1 ∨ 3 < n
      · have HBAD := Lib.hid hbad
        rcases (show n < 1 ∨ (¬ n < 1 ∧ 3 < n) by omega) with hlo | ⟨hlo, hhi⟩
        all_goals
          clear hbad
          go_wp2_with fail
          refine (putaff_bad n _ HBAD.out).mono ?_
          rintro x w5 ⟨rfl, rfl⟩
          go_wp2_with fail
          refine (awake13 _).mono ?_
          rintro x w6 ⟨rfl, hb6⟩
          replace hb1 := chain hb1 hb6
          clear hb6
          go_wp2_with fail
          go_ret
          exact ⟨rfl, hb1⟩
      · have hn : n = 1 ∨ n = 2 ∨ n = 3 := by omega
        clear hbad
        rcases hn with rfl | rfl | rfl
        ·
          have h3 := readaff_any ⟨#[65, 1]⟩
          rw [show affV ⟨#[65, 1]⟩ = some 1 from rfl] at h3
          have H3 := Lib.hid h3
          clear h3
          have hcc : (⟨#[65]⟩ ++ ⟨#[1]⟩ : ByteArray) = ⟨#[65, 1]⟩ := rfl
          go_wp2_with fail
          refine (putaff_ok 1 _ (by omega)).mono ?_
          rintro x w5 ⟨rfl, hb5⟩
          replace hb1 := chain hb1 hb5
          clear hb5
          go_wp2_with fail
          refine (H3.out _).mono ?_
          rintro x w6 ⟨rfl, rfl⟩
          have hrd := RdB.one (w := w5) (t := 5) (b := 1) (v := 1) rfl
          have hcv := conv_str hrd
          go_wp2_with fail
          refine (awake13 _).mono ?_
          rintro x w7 ⟨rfl, hb7⟩
          replace hb1 := chain (hb1.alloc hb1.size _) hb7
          clear hb7
          go_wp2_with fail
          go_ret
          exact ⟨rfl, hb1⟩
        ·
          have h3 := readaff_any ⟨#[65, 2]⟩
          rw [show affV ⟨#[65, 2]⟩ = some 2 from rfl] at h3
          have H3 := Lib.hid h3
          clear h3
          have hcc : (⟨#[65]⟩ ++ ⟨#[2]⟩ : ByteArray) = ⟨#[65, 2]⟩ := rfl
          go_wp2_with fail
          refine (putaff_ok 2 _ (by omega)).mono ?_
          rintro x w5 ⟨rfl, hb5⟩
          replace hb1 := chain hb1 hb5
          clear hb5
          go_wp2_with fail
          refine (H3.out _).mono ?_
          rintro x w6 ⟨rfl, rfl⟩
          have hrd := RdB.one (w := w5) (t := 5) (b := 2) (v := 2) rfl
          have hcv := conv_str hrd
          go_wp2_with fail
          refine (awake13 _).mono ?_
          rintro x w7 ⟨rfl, hb7⟩
          replace hb1 := chain (hb1.alloc hb1.size _) hb7
          clear hb7
          go_wp2_with fail
          go_ret
          exact ⟨rfl, hb1⟩
        ·
          have h3 := readaff_any ⟨#[65, 3]⟩
          rw [show affV ⟨#[65, 3]⟩ = some 3 from rfl] at h3
          have H3 := Lib.hid h3
          clear h3
          have hcc : (⟨#[65]⟩ ++ ⟨#[3]⟩ : ByteArray) = ⟨#[65, 3]⟩ := rfl
          go_wp2_with fail
          refine (putaff_ok 3 _ (by omega)).mono ?_
          rintro x w5 ⟨rfl, hb5⟩
          replace hb1 := chain hb1 hb5
          clear hb5
          go_wp2_with fail
          refine (H3.out _).mono ?_
          rintro x w6 ⟨rfl, rfl⟩
          have hrd := RdB.one (w := w5) (t := 5) (b := 3) (v := 3) rfl
          have hcv := conv_str hrd
          go_wp2_with fail
          refine (awake13 _).mono ?_
          rintro x w7 ⟨rfl, hb7⟩
          replace hb1 := chain (hb1.alloc hb1.size _) hb7
          clear hb7
          go_wp2_with fail
          go_ret
          exact ⟨rfl, hb1⟩
  · obtain ⟨s, hs, hsz⟩ : ∃ s, name = s ∧ s.size ≤ 80 := ⟨_, rfl, by omega⟩
    have HS := Lib.hid hs
    clear hs
    have h1 := fun w => seed_any s w (by omega)
    have h2 := fun w => rseed_any s w (by omega)
    have H1 := Lib.hid h1
    have H2 := Lib.hid h2
    clear h1 h2
    generalize seedN s.data.toList = sd at *
    cases gone
    all_goals
      go_enter Try.func3, Try.ntmps3
      go_upto_region 3 with fail
      rw [HS.out]
      go_wp2_with fail
      refine (putnode_any _ _).mono ?_
      rintro x w1 ⟨rfl, hb1⟩
      go_wp2_with fail
      refine (rnode_any _ _).mono ?_
      rintro x w2 ⟨rfl, rfl⟩
      go_wp2_with fail
      refine (H1.out _).mono ?_
      rintro x w3 ⟨rfl, hb3⟩
      replace hb1 := chain hb1 hb3
      clear hb3
      go_wp2_with fail
      refine (H2.out _).mono ?_
      rintro x w4 ⟨rfl, rfl⟩
      go_upto_region 5 with fail
      by_cases hbad : n < 1 ∨ 3 < n
      · have HBAD := Lib.hid hbad
        rcases (show n < 1 ∨ (¬ n < 1 ∧ 3 < n) by omega) with hlo | ⟨hlo, hhi⟩
        all_goals
          clear hbad
          go_wp2_with fail
          refine (putaff_bad n _ HBAD.out).mono ?_
          rintro x w5 ⟨rfl, rfl⟩
          go_wp2_with fail
          refine (awake13 _).mono ?_
          rintro x w6 ⟨rfl, hb6⟩
          replace hb1 := chain hb1 hb6
          clear hb6
          go_wp2_with fail
          go_ret
          exact ⟨rfl, hb1⟩
      · have hn : n = 1 ∨ n = 2 ∨ n = 3 := by omega
        clear hbad
        rcases hn with rfl | rfl | rfl
        ·
          have h3 := readaff_any ⟨#[65, 1]⟩
          rw [show affV ⟨#[65, 1]⟩ = some 1 from rfl] at h3
          have H3 := Lib.hid h3
          clear h3
          have hcc : (⟨#[65]⟩ ++ ⟨#[1]⟩ : ByteArray) = ⟨#[65, 1]⟩ := rfl
          go_wp2_with fail
          refine (putaff_ok 1 _ (by omega)).mono ?_
          rintro x w5 ⟨rfl, hb5⟩
          replace hb1 := chain hb1 hb5
          clear hb5
          go_wp2_with fail
          refine (H3.out _).mono ?_
          rintro x w6 ⟨rfl, rfl⟩
          have hrd := RdB.one (w := w5) (t := 5) (b := 1) (v := 1) rfl
          have hcv := conv_str hrd
          go_wp2_with fail
          refine (awake13 _).mono ?_
          rintro x w7 ⟨rfl, hb7⟩
          replace hb1 := chain (hb1.alloc hb1.size _) hb7
          clear hb7
          go_wp2_with fail
          go_ret
          exact ⟨rfl, hb1⟩
        ·
          have h3 := readaff_any ⟨#[65, 2]⟩
          rw [show affV ⟨#[65, 2]⟩ = some 2 from rfl] at h3
          have H3 := Lib.hid h3
          clear h3
          have hcc : (⟨#[65]⟩ ++ ⟨#[2]⟩ : ByteArray) = ⟨#[65, 2]⟩ := rfl
          go_wp2_with fail
          refine (putaff_ok 2 _ (by omega)).mono ?_
          rintro x w5 ⟨rfl, hb5⟩
          replace hb1 := chain hb1 hb5
          clear hb5
          go_wp2_with fail
          refine (H3.out _).mono ?_
          rintro x w6 ⟨rfl, rfl⟩
          have hrd := RdB.one (w := w5) (t := 5) (b := 2) (v := 2) rfl
          have hcv := conv_str hrd
          go_wp2_with fail
          refine (awake13 _).mono ?_
          rintro x w7 ⟨rfl, hb7⟩
          replace hb1 := chain (hb1.alloc hb1.size _) hb7
          clear hb7
          go_wp2_with fail
          go_ret
          exact ⟨rfl, hb1⟩
        ·
          have h3 := readaff_any ⟨#[65, 3]⟩
          rw [show affV ⟨#[65, 3]⟩ = some 3 from rfl] at h3
          have H3 := Lib.hid h3
          clear h3
          have hcc : (⟨#[65]⟩ ++ ⟨#[3]⟩ : ByteArray) = ⟨#[65, 3]⟩ := rfl
          go_wp2_with fail
          refine (putaff_ok 3 _ (by omega)).mono ?_
          rintro x w5 ⟨rfl, hb5⟩
          replace hb1 := chain hb1 hb5
          clear hb5
          go_wp2_with fail
          refine (H3.out _).mono ?_
          rintro x w6 ⟨rfl, rfl⟩
          have hrd := RdB.one (w := w5) (t := 5) (b := 3) (v := 3) rfl
          have hcv := conv_str hrd
          go_wp2_with fail
          refine (awake13 _).mono ?_
          rintro x w7 ⟨rfl, hb7⟩
          replace hb1 := chain (hb1.alloc hb1.size _) hb7
          clear hb7
          go_wp2_with fail
          go_ret
          exact ⟨rfl, hb1⟩
end Go.Proofs.Ytcepknjcgknidaa
