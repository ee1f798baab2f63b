/- Chapter 5: the walk of FrameMany. -/
import Derived.Test.YtkohfgkokboghaaFrameAllWalk
import Derived.Test.YtkohfgkokboghaaRowsR
namespace Go.Proofs.Ytkohfgkokboghaa
set_option linter.unusedVariables false
set_option linter.unusedSimpArgs false
open Go.RowKit

set_option maxRecDepth 100000 in
set_option maxHeartbeats 8000000 in
theorem frameMany_walk {A0 : Option Addr} {n0 c0 : Nat} {xs : List Bsl} (w : World) (hr : RdS w w.heap.size A0 n0 c0 xs) :
    Calls Try.prog 14 #[.slice A0 n0 c0] w fun e w' => e = .returned (.bool true) ∧ Below w.heap.size w w' := by
  have hlen := hr.length
  have hle := hr.1.le
  have hmax := hr.1.max
  unfold maxLen at hmax
  go_enter Try.func14, Try.ntmps14
  go_wp2_with fail
  go_loopw [3, 4, 14] (fun va vw i wr => ∃ (ys : List Bsl) (k : Nat) (A1 A2 : Option Addr) (n1 c1 m c2 : Nat), va = .slice A1 n1 c1 ∧ vw = .slice A2 m c2 ∧ i = .int .i64 (k : Int) ∧ k ≤ n0 ∧ OwnB wr w.heap.size A1 n1 c1 (framesL (ys.map Bsl.l)) ∧ OwnR wr w.heap.size A2 m c2 ys ∧ (∀ p ∈ ys.map Bsl.l, 1 ≤ p.length ∧ p.length ≤ 200) ∧ Below w.heap.size w wr ∧ m ≤ k ∧ m ≤ 10) (fun _ _ i _ => n0 - (intOf i).toNat)
  case atStart => exact ⟨[], 0, none, none, 0, 0, 0, 0, rfl, rfl, rfl, Nat.zero_le _, OwnB.nil, OwnR.nil, by simp, Below.refl _ _, Nat.le_refl _, Nat.zero_le _⟩
  case round =>
    obtain ⟨ys, k, A1, A2, n1, c1, m, c2, rfl, rfl, rfl, hk, hA, hR, hps, hbr, hmk, hm10⟩ := hrel
    have hn1 : n1 ≤ 2080 := by
      have h1 := framesL_le (ys.map Bsl.l) 200 fun p hp => (hps p hp).2
      have h2 := hA.length
      have h3 := hR.length
      rw [List.length_map, h3] at h1
      omega
    have HPS := Lib.hid hps
    clear hps
    by_cases hkn : k < n0
    · obtain ⟨g, off, rfl, hg, hcell, hz⟩ := (hr.below hbr).get (k := k) (by omega)
      generalize xs[k] = y at hcell hz
      obtain ⟨Ay, ny, cy, l⟩ := y
      simp only at hcell hz
      have hz2 := hz.take05 200
      have hl2 : (l.take 200).length ≤ 200 := by simp; omega
      have hfew := few05 Ay ny cy _ l wr hz
      generalize l.take 200 = p at *
      have HF := Lib.hid hfew
      clear hfew
      go_wp2_with fail
      refine HF.out.mono ?_
      rintro e w1 ⟨rfl, rfl⟩
      clear HF
      by_cases hp0 : p.length = 0
      · rw [hp0] at hz2 ⊢
        go_wp2_with fail
        refine (fput_zero _ _ wr).mono ?_
        rintro e w1 ⟨rfl, rfl⟩
        by_cases hk10 : k < 10
        · go_wp2_with fail
          go_roundw
          case rel => exact ⟨ys, k + 1, A1, A2, n1, c1, m, c2, rfl, rfl, by simp, by omega, hA, hR, HPS.out, hbr, by omega, hm10⟩
          case measure => simp [intOf]; omega
        · go_wp2_with fail
          go_roundw
          case rel => exact ⟨ys, k + 1, A1, A2, n1, c1, m, c2, rfl, rfl, by simp, by omega, hA, hR, HPS.out, hbr, by omega, hm10⟩
          case measure => simp [intOf]; omega
      · go_wp2_with fail
        refine (fput_ok _ _ _ _ wr (hz2.more hbr.size) (by omega) (by omega)).mono ?_
        rintro e w1 ⟨A3, c3, rfl, hown3, hb3⟩
        have hb1 := chain hbr hb3
        have hA1 := hA.below hb3
        have hR1 := hR.below hb3 hbr.size
        have hz3 := RdB.below hz2 (hb3.mono hbr.size)
        by_cases hk10 : k < 10
        · go_wp2_with (first
            | (at_builtin
               refine app_u8 rfl (.tmp 32) (.tmp 33) rfl rfl hA1 rfl hown3.rd ?_ (by omega) hb1.size
               intro A4 c4 w4 hA4 hb4 hg4 _
               have hb14 := hb1.trans hb4
               have hR4 := hR1.kept_u8 hA1 hg4 hb4
               have hz4 := RdB.below hz3 hb4
               have hR4' := OwnR.below hR4 ((Below.refl _ _).alloc (Nat.le_refl _) (.cells #[.slice Ay p.length cy] 29)) hb14.size
               have hz4' := RdB.alloc hz4 hb14.size (.cells #[.slice Ay p.length cy] 29)
               have hA4' := OwnB.alloc hA4 (.cells #[.slice Ay p.length cy] 29)
               have hsz4 : w.heap.size ≤ (w4.alloc (.cells #[.slice Ay p.length cy] 29)).heap.size := by have := hb14.size; simp; omega)
            | (at_builtin
               refine app_r rfl (.tmp 35) (.tmp 37) rfl rfl hR4' ⟨Ay, p.length, cy, p⟩ rfl Rd.one hz4' ?_ (by omega) hsz4
               intro A5 c5 w5 hR5 hb5 hg5))
          have hA5 := hA4'.kept_r hR4' hg5
          go_roundw
          case rel =>
            refine ⟨ys ++ [⟨Ay, p.length, cy, p⟩], k + 1, A4, A5, n1 + (8 + p.length), c4, m + 1, c5, rfl, rfl, by simp, by omega, ?_, hR5, ?_, (hb14.alloc hb14.size _).trans hb5, by omega, by omega⟩
            · rw [List.map_append, List.map_cons, List.map_nil, framesL_snoc]
              exact hA5
            · intro q hq
              rw [List.map_append, List.mem_append] at hq
              rcases hq with hq | hq
              · exact HPS.out q hq
              · simp at hq
                subst hq
                omega
          case measure => simp [intOf]; omega
        · go_wp2_with fail
          go_roundw
          case rel => exact ⟨ys, k + 1, A1, A2, n1, c1, m, c2, rfl, rfl, by simp, by omega, hA1, hR1, HPS.out, hb1, by omega, hm10⟩
          case measure => simp [intOf]; omega
    · obtain rfl : k = n0 := by omega
      have hall := all_frames (ys.map Bsl.l) (fun p hp => by have := HPS.out p hp; omega)
      rw [hA.length] at hall
      go_wp2_with fail
      refine (fall_any _ _ _ _ wr hA.rd (by omega)).mono ?_
      rintro e w1 ⟨A3, c3, zs, k3, code, rfl, hall3, hown3, hb3⟩
      obtain ⟨he, rfl, rfl⟩ := hall3.det hall
      have hb1 := chain hbr hb3
      have hR1 := (hR.below hb3 hbr.size).own.rd hb1.size
      have hS1 := hown3.rd hb3.size
      go_wp2_with fail
      refine (same05 _ _ _ _ _ _ _ _ _ _ w1 hS1 hR1).mono ?_
      rintro e w2 ⟨rfl, j, rfl⟩
      rw [decide_eq_true he]
      go_wp2_with fail
      refine (awake05 _).mono ?_
      rintro e w4 ⟨rfl, hb4⟩
      go_wp2_with fail
      go_ret
      exact ⟨rfl, chain (below_drewN hb1 j) hb4⟩
end Go.Proofs.Ytkohfgkokboghaa
