
/- frame.Next and the reference's. -/
import Derived.Test.YtmoijbknjadeeaaFrame
import Derived.Test.YtmoijbknjadeeaaRef03
namespace Go.Proofs.Ytmoijbknjadeeaa
set_option linter.unusedVariables false
set_option linter.unusedSimpArgs false
open Go.RowKit

theorem next_nil (A : Option Addr) (c : Nat) (w : World) (hr : RdB w w.heap.size A 0 c []) :
    Calls Try.prog 87 #[.slice A 0 c] w fun e w' => e = .returned (.tuple #[.slice none 0 0, .int .i64 0, .int .i64 6]) ∧ Below w.heap.size w w' := by
  have hu1 := fun g w h => u_any g ⟨[], false⟩ 4 w h
  generalize hs1 : (⟨[], false⟩ : St).u 4 = u1 at *
  have hl1 : u1.1 < 18446744073709551616 := by rw [← hs1]; exact St.u_lt _ _
  have hu2 := fun g w h => u_any g u1.2 4 w h
  have hl2 := St.u_lt u1.2 4
  generalize u1.2.u 4 = u2 at *
  clear hs1
  have HU1 := Lib.hid hu1
  have HU2 := Lib.hid hu2
  clear hu1 hu2
  obtain ⟨x1, st1⟩ := u1
  obtain ⟨x2, st2⟩ := u2
  have hle := hr.le
  simp only at hl1 hl2
  go_enter Try.func87, Try.ntmps87
  go_wp2_with fail
  refine (new_any _ _ _ _ _ hr (by omega)).mono ?_
  rintro e w1 ⟨g, rfl, hg, hI1, hb1⟩
  go_wp2_with fail
  refine (HU1.out _ _ hI1).mono ?_
  rintro e w2 ⟨rfl, hI2, hG2⟩
  go_wp2_with fail
  refine (HU2.out _ _ hI2).mono ?_
  rintro e w3 ⟨rfl, hI3, hG3⟩
  go_wp2_with fail
  all_goals go_ret3
  all_goals exact ⟨rfl, chainG (chainG hb1 hG2 hg) hG3 hg⟩

theorem next_short_any (A : Option Addr) (n c : Nat) (b : List UInt8) (w : World) (hr : RdB w w.heap.size A n c b) (h0 : 0 < n) (h8 : n < 8) :
    Calls Try.prog 87 #[.slice A n c] w fun e w' => e = .returned (.tuple #[.slice none 0 0, .int .i64 0, .int .i64 4]) ∧ Below w.heap.size w w' := by
  have hn := hr.length
  have hu1 := fun g w h => u_any g ⟨b, false⟩ 4 w h
  have hbad := u4_short b (by omega)
  generalize hs1 : (⟨b, false⟩ : St).u 4 = u1 at *
  have hl1 : u1.1 < 18446744073709551616 := by rw [← hs1]; exact St.u_lt _ _
  have hu2 := fun g w h => u_any g u1.2 4 w h
  have hl2 := St.u_lt u1.2 4
  generalize u1.2.u 4 = u2 at *
  clear hs1 hn
  have HU1 := Lib.hid hu1
  have HU2 := Lib.hid hu2
  clear hu1 hu2
  obtain ⟨x1, st1⟩ := u1
  obtain ⟨x2, l2, bad2⟩ := u2
  have hle := hr.le
  simp only at hl1 hl2 hbad
  subst hbad
  have hne : ((n : Int) == 0) = false := by simp; omega
  have hmin : (if (n : Int) < 8 then (n : Int) else 8) = (n : Int) := if_pos (by omega)
  have hmin2 : (if (8 : Int) < (n : Int) then 8 else (n : Int)) = (n : Int) := if_neg (by omega)
  go_enter Try.func87, Try.ntmps87
  go_wp2_with fail
  refine (new_any _ _ _ _ _ hr (by omega)).mono ?_
  rintro e w1 ⟨g, rfl, hg, hI1, hb1⟩
  go_wp2_with fail
  refine (HU1.out _ _ hI1).mono ?_
  rintro e w2 ⟨rfl, hI2, hG2⟩
  go_wp2_with fail
  refine (HU2.out _ _ hI2).mono ?_
  rintro e w3 ⟨rfl, hI3, hG3⟩
  go_wp2_with (go_at_call 112; refine (bad_any _ _ _ hI3).mono ?_; rintro e w4 ⟨rfl, rfl⟩)
  all_goals go_ret3
  all_goals exact ⟨rfl, chainG (chainG hb1 hG2 hg) hG3 hg⟩

theorem next_long_any (A : Option Addr) (n c : Nat) (b : List UInt8) (w : World) (hr : RdB w w.heap.size A n c b) (h8 : 8 ≤ n) (hn : n ≤ 1099511627776) :
    Calls Try.prog 87 #[.slice A n c] w fun e w' => ∃ A2 c2, e = .returned (.tuple #[.slice A2 (nextF b).2.1.length c2, .int .i64 ((nextF b).2.2 : Int), .int .i64 ((nextF b).1 : Int)]) ∧
      OwnB w' w.heap.size A2 (nextF b).2.1.length c2 (nextF b).2.1 ∧ Below w.heap.size w w' := by
  have hlen := hr.length
  have hle := hr.le
  have hmax := hr.max
  unfold maxLen at hmax
  have hu1 := fun g w h => u_any g ⟨b.take 8, false⟩ 4 w h
  rw [u4_first b (by omega)] at hu1
  have hu2 := fun g w h => u_any g ⟨(b.drop 4).take 4, false⟩ 4 w h
  rw [u4_second b (by omega)] at hu2
  obtain ⟨g0, off, rfl, _, _⟩ := hr.cells (by omega)
  have hr8 := hr.take (k := 8) h8 (c' := c) (by omega) (Nat.le_refl _)
  have hrd := hr.drop (k := 8) h8
  have hl1 := lenAt_lt b
  have hl2 := sumAt_lt b
  have HU1 := Lib.hid hu1
  have HU2 := Lib.hid hu2
  clear hu1 hu2
  have hne : ((n : Int) == 0) = false := by simp; omega
  have hmin : (if (n : Int) < 8 then (n : Int) else 8) = 8 := if_neg (by omega)
  have hmin2 : ¬ (n : Int) < 8 := by omega
  have hmin3 : (8 : Int) ≤ (n : Int) := by omega
  by_cases hf : lenAt b < 1 ∨ 1048576 < lenAt b
  · rw [next_form (by omega) hf]
    clear hlen hrd
    generalize lenAt b = x at *
    generalize sumAt b = y at *
    by_cases hx : x < 1
    · clear hf
      go_enter Try.func87, Try.ntmps87
      go_wp2_with fail
      refine (new_any _ _ _ _ _ hr8 (by omega)).mono ?_
      rintro e w1 ⟨g, rfl, hg, hI1, hb1⟩
      go_wp2_with fail
      refine (HU1.out _ _ hI1).mono ?_
      rintro e w2 ⟨rfl, hI2, hG2⟩
      go_wp2_with fail
      refine (HU2.out _ _ hI2).mono ?_
      rintro e w3 ⟨rfl, hI3, hG3⟩
      have hb3 := chainG (chainG hb1 hG2 hg) hG3 hg
      go_wp2_with (go_at_call 112; refine (bad_any _ _ _ hI3).mono ?_; rintro e w4 ⟨rfl, rfl⟩)
      all_goals go_ret3
      all_goals exact ⟨none, 0, rfl, OwnB.nil, hb3⟩
    · have hx2 : 1048576 < x := by omega
      clear hf
      go_enter Try.func87, Try.ntmps87
      go_wp2_with fail
      refine (new_any _ _ _ _ _ hr8 (by omega)).mono ?_
      rintro e w1 ⟨g, rfl, hg, hI1, hb1⟩
      go_wp2_with fail
      refine (HU1.out _ _ hI1).mono ?_
      rintro e w2 ⟨rfl, hI2, hG2⟩
      go_wp2_with fail
      refine (HU2.out _ _ hI2).mono ?_
      rintro e w3 ⟨rfl, hI3, hG3⟩
      have hb3 := chainG (chainG hb1 hG2 hg) hG3 hg
      go_wp2_with (go_at_call 112; refine (bad_any _ _ _ hI3).mono ?_; rintro e w4 ⟨rfl, rfl⟩)
      all_goals go_ret3
      all_goals exact ⟨none, 0, rfl, OwnB.nil, hb3⟩
  · have hf1 : 1 ≤ lenAt b := by omega
    have hf2 : lenAt b ≤ 1048576 := by omega
    by_cases hm : b.length - 8 < lenAt b
    · rw [next_more (by omega) hf hm]
      have hm' : n - 8 < lenAt b := by omega
      clear hlen hrd hm hf
      generalize lenAt b = x at *
      generalize sumAt b = y at *
      go_enter Try.func87, Try.ntmps87
      go_wp2_with fail
      refine (new_any _ _ _ _ _ hr8 (by omega)).mono ?_
      rintro e w1 ⟨g, rfl, hg, hI1, hb1⟩
      go_wp2_with fail
      refine (HU1.out _ _ hI1).mono ?_
      rintro e w2 ⟨rfl, hI2, hG2⟩
      go_wp2_with fail
      refine (HU2.out _ _ hI2).mono ?_
      rintro e w3 ⟨rfl, hI3, hG3⟩
      have hb3 := chainG (chainG hb1 hG2 hg) hG3 hg
      go_wp2_with (go_at_call 112; refine (bad_any _ _ _ hI3).mono ?_; rintro e w4 ⟨rfl, rfl⟩)
      all_goals go_ret3
      all_goals exact ⟨none, 0, rfl, OwnB.nil, hb3⟩
    · have hm' : lenAt b ≤ n - 8 := by omega
      have hc8 : ¬ c = 8 := by omega
      rw [if_neg hc8] at hrd
      simp only [Option.map_some, Addr.add, Nat.reduceEqDiff, if_false] at hrd
      have hrp := hrd.take (k := lenAt b) hm' (c' := c - 8) (by omega) (Nat.le_refl _)
      by_cases hs : ofN ((b.drop 8).take (lenAt b)) = sumAt b
      · rw [next_ok (by omega) hf hm hs]
        clear hf hm hlen
        generalize lenAt b = x at *
        generalize sumAt b = y at *
        generalize (b.drop 4).take 4 = b4 at *
        generalize (b.drop 8).take x = p at *
        obtain rfl : p.length = x := hrp.length
        have HSum := Lib.hid hs
        clear hs
        go_enter Try.func87, Try.ntmps87
        go_wp2_with fail
        refine (new_any _ _ _ _ _ hr8 (by omega)).mono ?_
        rintro e w1 ⟨g, rfl, hg, hI1, hb1⟩
        go_wp2_with fail
        refine (HU1.out _ _ hI1).mono ?_
        rintro e w2 ⟨rfl, hI2, hG2⟩
        go_wp2_with fail
        refine (HU2.out _ _ hI2).mono ?_
        rintro e w3 ⟨rfl, hI3, hG3⟩
        have hb3 := chainG (chainG hb1 hG2 hg) hG3 hg
        have hof := of_any _ _ _ _ _ w3 (hrp.below hb3)
        rw [HSum.out] at hof
        have HOF := Lib.hid hof
        clear hof
        go_wp2_with (first | (go_at_call 112; refine (bad_any _ _ _ hI3).mono ?_; rintro e w4 ⟨rfl, rfl⟩) | (go_at_call 90; refine HOF.out.mono ?_; rintro e w4 ⟨rfl, rfl⟩) | (go_at_call 54; refine (clone_any _ _ _ _ _ ((hrp.below hb3).more hb3.size) (by omega)).mono ?_; rintro e w5 ⟨A5, c5, rfl, hown5, hb5⟩) | (go_at_call 88; refine (size_ok p.length hf1 hf2 _).mono ?_; rintro e w6 ⟨rfl, rfl⟩))
        go_ret3
        exact ⟨A5, c5, by simp, hown5.lower hb3.size, chain hb3 hb5⟩
      · rw [next_sum (by omega) hf hm hs]
        clear hf hm hlen
        have hlo := of_lt ((b.drop 8).take (lenAt b))
        generalize sumAt b = y at *
        generalize (b.drop 4).take 4 = b4 at *
        have hof := fun w' h => of_any _ _ _ _ _ w' (hrp.below (w' := w') h)
        generalize ofN ((b.drop 8).take (lenAt b)) = z at *
        generalize lenAt b = x at *
        have hne2 : ((z : Int) != (y : Int)) = true := by simp; omega
        have HOF := Lib.hid hof
        clear hof hs
        go_enter Try.func87, Try.ntmps87
        go_wp2_with fail
        refine (new_any _ _ _ _ _ hr8 (by omega)).mono ?_
        rintro e w1 ⟨g, rfl, hg, hI1, hb1⟩
        go_wp2_with fail
        refine (HU1.out _ _ hI1).mono ?_
        rintro e w2 ⟨rfl, hI2, hG2⟩
        go_wp2_with fail
        refine (HU2.out _ _ hI2).mono ?_
        rintro e w3 ⟨rfl, hI3, hG3⟩
        have hb3 := chainG (chainG hb1 hG2 hg) hG3 hg
        go_wp2_with (first | (go_at_call 112; refine (bad_any _ _ _ hI3).mono ?_; rintro e w4 ⟨rfl, rfl⟩) | (go_at_call 90; refine (HOF.out _ hb3).mono ?_; rintro e w4 ⟨rfl, rfl⟩))
        go_ret3
        exact ⟨none, 0, rfl, OwnB.nil, hb3⟩

/-- Next, whatever the bytes -/
theorem next_any (A : Option Addr) (n c : Nat) (b : List UInt8) (w : World) (hr : RdB w w.heap.size A n c b) (hn : n ≤ 1099511627776) :
    Calls Try.prog 87 #[.slice A n c] w fun e w' => ∃ A2 c2, e = .returned (.tuple #[.slice A2 (nextF b).2.1.length c2, .int .i64 ((nextF b).2.2 : Int), .int .i64 ((nextF b).1 : Int)]) ∧
      OwnB w' w.heap.size A2 (nextF b).2.1.length c2 (nextF b).2.1 ∧ Below w.heap.size w w' := by
  have hlen := hr.length
  by_cases h0 : n = 0
  · subst h0
    obtain rfl := List.eq_nil_of_length_eq_zero hlen
    refine (next_nil A c w hr).mono ?_
    rintro e w' ⟨rfl, hb⟩
    exact ⟨none, 0, rfl, OwnB.nil, hb⟩
  by_cases h8 : n < 8
  · rw [next_short (by omega) (by omega)]
    refine (next_short_any A n c b w hr (by omega) h8).mono ?_
    rintro e w' ⟨rfl, hb⟩
    exact ⟨none, 0, rfl, OwnB.nil, hb⟩
  · exact next_long_any A n c b w hr (by omega) hn
end Go.Proofs.Ytmoijbknjadeeaa
