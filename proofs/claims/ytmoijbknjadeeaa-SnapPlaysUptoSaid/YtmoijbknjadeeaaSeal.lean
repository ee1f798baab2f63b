
/- sum.Seal, sum.Whole; chapter 4's helpers; the walks of SumOf and SumParts. -/
import Derived.Test.YtmoijbknjadeeaaSum
import Derived.Test.YtmoijbknjadeeaaSlices
import Derived.Test.YtmoijbknjadeeaaPack
import Derived.Lib.SlBytesConst
namespace Go.Proofs.Ytmoijbknjadeeaa
set_option linter.unusedVariables false
set_option linter.unusedSimpArgs false
open Go.RowKit

theorem putN4 (x : Nat) : putN x 4 = [UInt8.ofNat (x / 16777216), UInt8.ofNat (x / 65536), UInt8.ofNat (x / 256), UInt8.ofNat x] := by
  simp [putN, Nat.div_div_eq_div_mul]

theorem seal_any (A : Option Addr) (n c : Nat) (l : List UInt8) (w : World) (hr : RdB w w.heap.size A n c l) (hn : n ≤ 1099511627776 / 2) :
    Calls Try.prog 71 #[.slice A n c] w fun e w' => ∃ A2 c2, e = .returned (.slice A2 (n + 4) c2) ∧ OwnB w' w.heap.size A2 (n + 4) c2 (l ++ fourL (ofN l)) ∧ Below w.heap.size w w' := by
  have hof := of_any A n c _ l w hr
  have hlt := of_lt l
  generalize ofN l = x at *
  have HOF := Lib.hid hof
  clear hof
  go_enter Try.func71, Try.ntmps71
  go_wp2_with fail
  refine HOF.out.mono ?_
  rintro e w1 ⟨rfl, rfl⟩
  go_wp2_with fail
  refine (put_any none 0 0 [] x 4 w RdB.nil (by omega) (by omega) (by omega) (by omega)).mono ?_
  rintro e w1 ⟨A1, c1, rfl, hown1, hb1⟩
  rw [List.nil_append, putN4] at hown1
  obtain ⟨g, rfl, hg, hgl⟩ := hown1.form (by omega)
  go_wp2_with fail
  refine (reverse4 g c1 _ _ _ _ _ _ hown1).mono ?_
  rintro e w2 ⟨rfl, hown2, hb2⟩
  have hb12 := hb1.trans hb2
  go_wp2_with fail
  refine (concat2 _ A n c l (some ⟨g, 0, none⟩) 4 c1 (fourL x) _ ?_ ?_ ((hr.below hb12).more hb12.size |>.alloc (Nat.le_refl _) _ |>.more (by simp)) (hown2.rd.alloc (Nat.le_refl _) _ |>.more (by simp)) hn (by omega)).mono ?_
  · unfold World.cell?
    rw [heap_alloc_new]
    rfl
  · unfold World.cell?
    rw [heap_alloc_new]
    rfl
  rintro e w3 ⟨A3, c3, rfl, hown3, hb3⟩
  go_wp2_with fail
  go_ret
  have hb4 := hb12.alloc hb12.size (.cells #[.slice A n c, .slice (some ⟨g, 0, none⟩) 4 c1] 27)
  exact ⟨A3, c3, rfl, hown3.lower hb4.size, chain hb4 hb3⟩

theorem whole_any (A : Option Addr) (n c : Nat) (l : List UInt8) (w : World) (hr : RdB w w.heap.size A n c l) (hn : n ≤ 1099511627776 / 2) :
    Calls Try.prog 81 #[.slice A n c] w fun e w' => e = .returned (.bool (wholeB l)) ∧ Below w.heap.size w w' := by
  obtain rfl : l.length = n := hr.length
  have hle := hr.le
  by_cases h4 : 4 ≤ l.length
  · have hr2 := hr.take (k := l.length - 4) (by omega) (c' := c) (by omega) (Nat.le_refl _)
    have hw := wholeB_eq h4
    rw [hw]
    clear hw
    obtain ⟨m, hm⟩ : ∃ m, l.length = m + 4 := ⟨l.length - 4, by omega⟩
    rw [hm] at hr hn hle h4 ⊢
    simp only [Nat.add_sub_cancel] at hr2 ⊢
    rw [hm, Nat.add_sub_cancel] at hr2
    have hs := seal_any A m c _ w hr2 (by omega)
    generalize l.take m ++ fourL (ofN (l.take m)) = y at *
    have HS := Lib.hid hs
    clear hs hm
    go_enter Try.func81, Try.ntmps81
    go_wp2_with (first | (go_at_call 71; refine HS.out.mono ?_; rintro e w1 ⟨A1, c1, rfl, hown1, hb1⟩) | (go_at_call 98; refine (equal_any _ _ _ _ _ _ _ _ _ _ _ hown1.rd (hr.below hb1)).mono ?_; rintro e w2 ⟨rfl, k, rfl⟩))
    go_ret
    exact ⟨rfl, below_drewN hb1 _⟩
  · rw [wholeB_short (by omega)]
    go_enter Try.func81, Try.ntmps81
    go_wp2_with fail
    go_ret
    exact ⟨rfl, Below.refl _ _⟩

theorem RdB.take04 {w : World} {B n c : Nat} {A : Option Addr} {l : List UInt8} (h : RdB w B A n c l) (k : Nat) : RdB w B A (l.take k).length c (l.take k) := by
  have hn := h.length
  have hle := h.le
  by_cases hk : k ≤ n
  · have e : (l.take k).length = k := by simp; omega
    rw [e]
    exact h.take hk (by omega) (Nat.le_refl _)
  · rw [List.take_of_length_le (by omega), hn]
    exact h

end Go.Proofs.Ytmoijbknjadeeaa
