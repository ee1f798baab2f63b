/- Chapter 5: the walk of FrameTorn. -/
import Derived.Test.YtkohfgkokboghaaFrameAllWalk
import Derived.Test.YtkohfgkokboghaaRowsR
namespace Go.Proofs.Ytkohfgkokboghaa
set_option linter.unusedVariables false
set_option linter.unusedSimpArgs false
open Go.RowKit

theorem RdS.take {w : World} {B n c : Nat} {A : Option Addr} {ys : List Bsl} (h : RdS w B A n c ys) {k c' : Nat} (hk : k ≤ n) (hkc : k ≤ c') (hc : c' ≤ c) : RdS w B A k c' (ys.take k) := by
  refine ⟨?_, fun y hy => h.2 y (List.mem_of_mem_take hy)⟩
  have := Rd.take h.1 hk hkc hc
  rw [Nat.mul_one] at this
  rwa [List.map_take]
theorem take_get_nat (l : List Nat) (k : Nat) (hk : k < l.length) : l.take (k + 1) = l.take k ++ [l[k]] := by
  rw [List.take_add_one, List.getElem?_eq_getElem hk]
  rfl
set_option maxRecDepth 100000 in
set_option maxHeartbeats 8000000 in
theorem frameTorn_walk {A0 : Option Addr} {n0 c0 : Nat} {xs : List Bsl} {x : Nat} (w : World) (hr : RdS w w.heap.size A0 n0 c0 xs) (hx : x < 65536) :
    Calls Try.prog 13 #[.slice A0 n0 c0, .int .u16 (x : Int)] w fun e w' => e = .returned (.bool true) ∧ Below w.heap.size w w' := by
  have hlen := hr.length
  have hle := hr.1.le
  have hmax := hr.1.max
  unfold maxLen at hmax
  go_enter Try.func13, Try.ntmps13
  go_wp2_with fail
  go_loopw [5, 6, 7, 23] (fun va ve vw i wr => ∃ (ys : List Bsl) (k : Nat) (A1 A2 A6 : Option Addr) (n1 c1 m c2 c6 : Nat), va = .slice A1 n1 c1 ∧ ve = .slice A6 m c6 ∧ vw = .slice A2 m c2 ∧ i = .int .i64 (k : Int) ∧ k ≤ n0 ∧ OwnB wr w.heap.size A1 n1 c1 (framesL (ys.map Bsl.l)) ∧ OwnI wr w.heap.size A6 m c6 (endsL 0 (ys.map Bsl.l)) ∧ OwnR wr w.heap.size A2 m c2 ys ∧ (∀ p ∈ ys.map Bsl.l, 1 ≤ p.length ∧ p.length ≤ 200) ∧ Below w.heap.size w wr ∧ m ≤ k ∧ m ≤ 8) (fun _ _ _ i _ => n0 - (intOf i).toNat)
  case atStart => exact ⟨[], 0, none, none, none, 0, 0, 0, 0, 0, rfl, rfl, rfl, rfl, Nat.zero_le _, OwnB.nil, OwnI.nil, OwnR.nil, by simp, Below.refl _ _, Nat.le_refl _, Nat.zero_le _⟩
  case round =>
    obtain ⟨ys, k, A1, A2, A6, n1, c1, m, c2, c6, rfl, rfl, rfl, rfl, hk, hA, hI, hR, hps, hbr, hmk, hm10⟩ := hrel
    have hn1 : n1 ≤ 2080 := by
      have h1 := framesL_le (ys.map Bsl.l) 200 fun p hp => (hps p hp).2
      have h2 := hA.length
      have h3 := hR.length
      rw [List.length_map, h3] at h1
      omega
    have HPS := Lib.hid hps
    clear hps
    by_cases hkn : k < n0
    · obtain ⟨g, off, rfl, hg, hcell, hz⟩ := (hr.below hbr).get (k := k) (by omega)
      generalize xs[k] = y at hcell hz
      obtain ⟨Ay, ny, cy, l⟩ := y
      simp only at hcell hz
      have hz2 := hz.take05 200
      have hl2 : (l.take 200).length ≤ 200 := by simp; omega
      have hfew := few05 Ay ny cy _ l wr hz
      generalize l.take 200 = p at *
      have HF := Lib.hid hfew
      clear hfew
      go_wp2_with fail
      refine HF.out.mono ?_
      rintro e w1 ⟨rfl, rfl⟩
      clear HF
      by_cases hp0 : p.length = 0
      · rw [hp0] at hz2 ⊢
        go_wp2_with fail
        refine (fput_zero _ _ wr).mono ?_
        rintro e w1 ⟨rfl, rfl⟩
        by_cases hk10 : k < 8
        · go_wp2_with fail
          go_roundw
          case rel => exact ⟨ys, k + 1, A1, A2, A6, n1, c1, m, c2, c6, rfl, rfl, rfl, by simp, by omega, hA, hI, hR, HPS.out, hbr, by omega, hm10⟩
          case measure => simp [intOf]; omega
        · go_wp2_with fail
          go_roundw
          case rel => exact ⟨ys, k + 1, A1, A2, A6, n1, c1, m, c2, c6, rfl, rfl, rfl, by simp, by omega, hA, hI, hR, HPS.out, hbr, by omega, hm10⟩
          case measure => simp [intOf]; omega
      · go_wp2_with fail
        refine (fput_ok _ _ _ _ wr (hz2.more hbr.size) (by omega) (by omega)).mono ?_
        rintro e w1 ⟨A3, c3, rfl, hown3, hb3⟩
        have hb1 := chain hbr hb3
        have hA1 := hA.below hb3
        have hR1 := hR.below hb3 hbr.size
        have hI1 := hI.below hb3
        have hz3 := RdB.below hz2 (hb3.mono hbr.size)
        by_cases hk10 : k < 8
        · go_wp2_with (first
            | (at_builtin
               refine app_u8 rfl (.tmp 41) (.tmp 42) rfl rfl hA1 rfl hown3.rd ?_ (by omega) hb1.size
               intro A4 c4 w4 hA4 hb4 hg4 _
               have hb14 := hb1.trans hb4
               have hI4 := hI1.kept_u8 hA1 hg4
               have hR4 := hR1.kept_u8 hA1 hg4 hb4
               have hz4 := RdB.below hz3 hb4
               have hba := (Below.refl w4.heap.size w4).alloc (Nat.le_refl _) (.cells #[.int .i64 ((n1 + (8 + p.length) : Nat) : Int)] 3)
               have hR4' := OwnR.below hR4 hba hb14.size
               have hI4' := OwnI.below hI4 hba
               have hA4' := OwnB.below hA4 hba
               have hz4' := RdB.below hz4 (hba.mono hb14.size)
               have hb4' := hb14.trans (hba.mono hb14.size))
            | (at_builtin
               refine app_i rfl (.tmp 44) (.tmp 47) rfl rfl hI4' (n1 + (8 + p.length)) rfl Rd.one ?_ (by omega) hb4'.size
               intro A5 c5 w5 hI5 hb5 hg5
               have hb15 := hb4'.trans hb5
               have hA5 := hA4'.kept_i hI4' hg5
               have hR5 := hR4'.kept_i hI4' hg5 hb5
               have hz5 := RdB.below hz4' hb5
               have hbb := (Below.refl w5.heap.size w5).alloc (Nat.le_refl _) (.cells #[.slice Ay p.length cy] 29)
               have hR5' := OwnR.below hR5 hbb hb15.size
               have hI5' := OwnI.below hI5 hbb
               have hA5' := OwnB.below hA5 hbb
               have hz5' := RdB.below hz5 (hbb.mono hb15.size)
               have hb5' := hb15.trans (hbb.mono hb15.size))
            | (at_builtin
               refine app_r rfl (.tmp 49) (.tmp 51) rfl rfl hR5' ⟨Ay, p.length, cy, p⟩ rfl Rd.one hz5' ?_ (by omega) hb5'.size
               intro A7 c7 w7 hR7 hb7 hg7))
          have hA7 := hA5'.kept_r hR5' hg7
          have hI7 := hI5'.kept_r hR5' hg7
          have hfl : (framesL (ys.map Bsl.l)).length = n1 := hA.length
          go_roundw
          case rel =>
            refine ⟨ys ++ [⟨Ay, p.length, cy, p⟩], k + 1, A4, A7, A5, n1 + (8 + p.length), c4, m + 1, c7, c5, rfl, rfl, rfl, by simp, by omega, ?_, ?_, hR7, ?_, hb5'.trans hb7, by omega, by omega⟩
            · rw [List.map_append, List.map_cons, List.map_nil, framesL_snoc]
              exact hA7
            · rw [List.map_append, List.map_cons, List.map_nil, endsL_snoc, framesL_snoc, List.length_append, hfl, frameL_length, Nat.zero_add]
              exact hI7
            · intro q hq
              rw [List.map_append, List.mem_append] at hq
              rcases hq with hq | hq
              · exact HPS.out q hq
              · simp at hq
                subst hq
                omega
          case measure => simp [intOf]; omega
        · go_wp2_with fail
          go_roundw
          case rel => exact ⟨ys, k + 1, A1, A2, A6, n1, c1, m, c2, c6, rfl, rfl, rfl, by simp, by omega, hA1, hI1, hR1, HPS.out, hb1, by omega, hm10⟩
          case measure => simp [intOf]; omega
    · obtain rfl : k = n0 := by omega
      go_wp2_with fail
      have ecut : ((x : Int) % ((n1 : Int) + 1)) = ((x % (n1 + 1) : Nat) : Int) := by simp
      have hcut : x % (n1 + 1) ≤ n1 := Nat.le_of_lt_succ (Nat.mod_lt _ (by omega))
      rw [ecut]
      generalize x % (n1 + 1) = cut at *
      clear ecut
      have hel : (endsL 0 (ys.map Bsl.l)).length = m := hI.length
      have hIr := Rd.of_own hI
      have hfold := torn_fold cut (ys.map Bsl.l) 0 0 (Nat.zero_le _)
      simp only [Nat.sub_zero, Nat.zero_add] at hfold
      have hle2 := tornN_le (ys.map Bsl.l) cut
      have hytl := all_torn (ys.map Bsl.l) cut (fun p hp => by have := HPS.out p hp; omega) (by rw [hA.length]; exact hcut)
      have hyl := hR.length
      rw [List.length_map, hyl] at hle2
      clear HPS
      generalize endsL 0 (ys.map Bsl.l) = es at *
      generalize tornN (ys.map Bsl.l) cut = tn at *
      obtain ⟨tk, tl⟩ := tn
      simp only at hytl hle2
      have HFO := Lib.hid hfold
      have HYT := Lib.hid hytl
      clear hfold hytl
      go_loopw [13, 14, 62] (fun vn vl vi w2 => ∃ j : Nat, vn = .int .i64 (((es.take j).foldl (tornStep cut) (0, 0)).1 : Int) ∧ vl = .int .i64 (((es.take j).foldl (tornStep cut) (0, 0)).2 : Int) ∧ vi = .int .i64 (j : Int) ∧ j ≤ m ∧ w2 = wr ∧ ((es.take j).foldl (tornStep cut) (0, 0)).1 ≤ j) (fun _ _ vi _ => m - (intOf vi).toNat)
      case atStart => exact ⟨0, rfl, rfl, rfl, Nat.zero_le _, rfl, Nat.le_refl _⟩
      case round =>
        obtain ⟨j, rfl, rfl, rfl, hj, rfl, hs⟩ := hrel
        by_cases hjm : j < m
        · obtain ⟨g, off, u, rfl, hg, hu, hcell⟩ := hIr.get (k := j) hjm
          have hje : j < es.length := by omega
          have hu' : u = .int .i64 (es[j] : Int) := by
            unfold ins at hu
            rw [List.getElem?_map, List.getElem?_eq_getElem hje] at hu
            simp only [Option.map_some] at hu
            injection hu with hu
            exact hu.symm
          subst hu'
          have hst : (es.take (j + 1)).foldl (tornStep cut) (0, 0) = tornStep cut ((es.take j).foldl (tornStep cut) (0, 0)) es[j] := by
            rw [take_get_nat es j hje, List.foldl_append]
            rfl
          generalize (es.take j).foldl (tornStep cut) (0, 0) = s at *
          obtain ⟨s1, s2⟩ := s
          have HST := Lib.hid hst
          clear hst
          simp only at hs ⊢
          generalize es[j] = kk at *
          by_cases hkc : kk ≤ cut
          · go_wp2_with fail
            go_roundw
            case rel =>
              refine ⟨j + 1, ?_, ?_, by simp, by omega, trivial, ?_⟩
              · rw [HST.out, tornStep, if_pos hkc]; simp
              · rw [HST.out, tornStep, if_pos hkc]
              · rw [HST.out, tornStep, if_pos hkc]; simp only; omega
            case measure => simp [intOf]; omega
          · go_wp2_with fail
            go_roundw
            case rel =>
              refine ⟨j + 1, ?_, ?_, by simp, by omega, trivial, ?_⟩
              · rw [HST.out, tornStep, if_neg hkc]
              · rw [HST.out, tornStep, if_neg hkc]
              · rw [HST.out, tornStep, if_neg hkc]; simp only; omega
            case measure => simp [intOf]; omega
        · obtain rfl : j = m := by omega
          rw [show es.take j = es from List.take_of_length_le (by omega), HFO.out] at *
          simp only at hs ⊢
          have hcc := hA.rd.le
          have hmc := hR.own.1
          have hle3 := (Rd.of_own hR.1).le
          have hat := RdB.take hA.rd (k := cut) (c' := c1) hcut (by omega) (Nat.le_refl _)
          have hrt := RdS.take (hR.own.rd hbr.size) (k := tk) (c' := c2) hle2.1 (by omega) (Nat.le_refl _)
          clear hI hIr HFO
          by_cases hlc : tl = cut
          · rw [if_pos hlc] at HYT
            go_wp2_with fail
            refine (fall_any _ _ _ _ wr hat (by omega)).mono ?_
            rintro e w1 ⟨A3, c3, zs, k3, code, rfl, hall3, hown3, hb3⟩
            obtain ⟨he, rfl, rfl⟩ := hall3.det HYT.out
            have hb1 := chain hbr hb3
            have hR1 := (hrt.below hb3).more hb3.size
            have hS1 := hown3.rd hb3.size
            have hsame := same05 _ _ _ _ _ _ _ _ _ _ w1 hS1 hR1
            rw [decide_eq_true (by rw [he, List.map_take])] at hsame
            have HSM := Lib.hid hsame
            clear hsame he HYT hall3
            go_wp2_with fail
            refine HSM.out.mono ?_
            rintro e w2 ⟨rfl, i, rfl⟩
            go_wp2_with fail
            refine (awake05 _).mono ?_
            rintro e w4 ⟨rfl, hb4⟩
            go_wp2_with fail
            go_ret
            exact ⟨rfl, chain (below_drewN hb1 i) hb4⟩
          · rw [if_neg hlc] at HYT
            go_wp2_with fail
            refine (fall_any _ _ _ _ wr hat (by omega)).mono ?_
            rintro e w1 ⟨A3, c3, zs, k3, code, rfl, hall3, hown3, hb3⟩
            obtain ⟨he, rfl, rfl⟩ := hall3.det HYT.out
            have hb1 := chain hbr hb3
            have hR1 := (hrt.below hb3).more hb3.size
            have hS1 := hown3.rd hb3.size
            have hsame := same05 _ _ _ _ _ _ _ _ _ _ w1 hS1 hR1
            rw [decide_eq_true (by rw [he, List.map_take])] at hsame
            have HSM := Lib.hid hsame
            clear hsame he HYT hall3
            go_wp2_with fail
            refine HSM.out.mono ?_
            rintro e w2 ⟨rfl, i, rfl⟩
            go_wp2_with fail
            refine (awake05 _).mono ?_
            rintro e w4 ⟨rfl, hb4⟩
            go_wp2_with fail
            go_ret
            exact ⟨rfl, chain (below_drewN hb1 i) hb4⟩
end Go.Proofs.Ytkohfgkokboghaa
