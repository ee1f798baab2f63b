/- sum.Seal, sum.Whole; chapter 4's helpers; the walks of SumOf and SumParts. -/
import Derived.Test.YtkohfgkokboghaaSum
import Derived.Test.YtkohfgkokboghaaSlices
import Derived.Test.YtkohfgkokboghaaPack
import Derived.Lib.SlBytesConst
namespace Go.Proofs.Ytkohfgkokboghaa
set_option linter.unusedVariables false
set_option linter.unusedSimpArgs false
open Go.RowKit

theorem putN4 (x : Nat) : putN x 4 = [UInt8.ofNat (x / 16777216), UInt8.ofNat (x / 65536), UInt8.ofNat (x / 256), UInt8.ofNat x] := by
  simp [putN, Nat.div_div_eq_div_mul]

theorem seal_any (A : Option Addr) (n c : Nat) (l : List UInt8) (w : World) (hr : RdB w w.heap.size A n c l) (hn : n ≤ 1099511627776 / 2) :
    Calls Try.prog 41 #[.slice A n c] w fun e w' => ∃ A2 c2, e = .returned (.slice A2 (n + 4) c2) ∧ OwnB w' w.heap.size A2 (n + 4) c2 (l ++ fourL (ofN l)) ∧ Below w.heap.size w w' := by
  have hof := of_any A n c _ l w hr
  have hlt := of_lt l
  generalize ofN l = x at *
  have HOF := Lib.hid hof
  clear hof
  go_enter Try.func41, Try.ntmps41
  go_wp2_with fail
  refine HOF.out.mono ?_
  rintro e w1 ⟨rfl, rfl⟩
  go_wp2_with fail
  refine (put_any none 0 0 [] x 4 w RdB.nil (by omega) (by omega) (by omega) (by omega)).mono ?_
  rintro e w1 ⟨A1, c1, rfl, hown1, hb1⟩
  rw [List.nil_append, putN4] at hown1
  obtain ⟨g, rfl, hg, hgl⟩ := hown1.form (by omega)
  go_wp2_with fail
  refine (reverse4 g c1 _ _ _ _ _ _ hown1).mono ?_
  rintro e w2 ⟨rfl, hown2, hb2⟩
  have hb12 := hb1.trans hb2
  go_wp2_with fail
  refine (concat2 _ A n c l (some ⟨g, 0, none⟩) 4 c1 (fourL x) _ ?_ ?_ ((hr.below hb12).more hb12.size |>.alloc (Nat.le_refl _) _ |>.more (by simp)) (hown2.rd.alloc (Nat.le_refl _) _ |>.more (by simp)) hn (by omega)).mono ?_
  · unfold World.cell?
    rw [heap_alloc_new]
    rfl
  · unfold World.cell?
    rw [heap_alloc_new]
    rfl
  rintro e w3 ⟨A3, c3, rfl, hown3, hb3⟩
  go_wp2_with fail
  go_ret
  have hb4 := hb12.alloc hb12.size (.cells #[.slice A n c, .slice (some ⟨g, 0, none⟩) 4 c1] 29)
  exact ⟨A3, c3, rfl, hown3.lower hb4.size, chain hb4 hb3⟩

theorem whole_any (A : Option Addr) (n c : Nat) (l : List UInt8) (w : World) (hr : RdB w w.heap.size A n c l) (hn : n ≤ 1099511627776 / 2) :
    Calls Try.prog 43 #[.slice A n c] w fun e w' => e = .returned (.bool (wholeB l)) ∧ Below w.heap.size w w' := by
  obtain rfl : l.length = n := hr.length
  have hle := hr.le
  by_cases h4 : 4 ≤ l.length
  · have hr2 := hr.take (k := l.length - 4) (by omega) (c' := c) (by omega) (Nat.le_refl _)
    have hw := wholeB_eq h4
    rw [hw]
    clear hw
    obtain ⟨m, hm⟩ : ∃ m, l.length = m + 4 := ⟨l.length - 4, by omega⟩
    rw [hm] at hr hn hle h4 ⊢
    simp only [Nat.add_sub_cancel] at hr2 ⊢
    rw [hm, Nat.add_sub_cancel] at hr2
    have hs := seal_any A m c _ w hr2 (by omega)
    generalize l.take m ++ fourL (ofN (l.take m)) = y at *
    have HS := Lib.hid hs
    clear hs hm
    go_enter Try.func43, Try.ntmps43
    go_wp2_with (first | (go_at_call 41; refine HS.out.mono ?_; rintro e w1 ⟨A1, c1, rfl, hown1, hb1⟩) | (go_at_call 57; refine (equal_any _ _ _ _ _ _ _ _ _ _ _ hown1.rd (hr.below hb1)).mono ?_; rintro e w2 ⟨rfl, k, rfl⟩))
    go_ret
    exact ⟨rfl, below_drewN hb1 _⟩
  · rw [wholeB_short (by omega)]
    go_enter Try.func43, Try.ntmps43
    go_wp2_with fail
    go_ret
    exact ⟨rfl, Below.refl _ _⟩

theorem few04 (A : Option Addr) (n c : Nat) (B : Nat) (l : List UInt8) (w : World) (hr : RdB w B A n c l) :
    Calls Try.prog 35 #[.slice A n c] w fun e w' => e = .returned (.slice A (l.take 300).length c) ∧ w = w' := by
  obtain rfl : l.length = n := hr.length
  have hle := hr.le
  by_cases h : l.length ≤ 300
  · have e1 : (l.take 300).length = l.length := by simp; omega
    rw [e1]
    clear e1
    go_enter Try.func35, Try.ntmps35
    go_wp2
    go_ret
    exact ⟨rfl, rfl⟩
  · have e1 : (l.take 300).length = 300 := by simp; omega
    rw [e1]
    clear e1
    go_enter Try.func35, Try.ntmps35
    go_wp2
    go_ret
    exact ⟨rfl, rfl⟩

theorem awake04 (w : World) : Calls Try.prog 40 #[] w fun e w' => e = .returned (.bool true) ∧ Below w.heap.size w w' := by
  have kc := fun (w : World) (C : Array Value) (n c : Nat) => Lib.run_convert_bytes_const (P := Try.prog) w 29 5 C n c Try.underlying29 Try.underlying5
  go_enter Try.func40, Try.ntmps40
  go_wp2_with fail
  have hb1 : Below w.heap.size w (w.alloc (.cells #[.int .u8 49, .int .u8 50, .int .u8 51, .int .u8 52, .int .u8 53, .int .u8 54, .int .u8 55, .int .u8 56, .int .u8 57] 5 (9, 10))) := (Below.refl _ _).alloc (Nat.le_refl _) _
  have hof := of_any _ _ _ _ _ _ (RdB.lit (w := w) (cs := #[.int .u8 49, .int .u8 50, .int .u8 51, .int .u8 52, .int .u8 53, .int .u8 54, .int .u8 55, .int .u8 56, .int .u8 57]) (t := 5) (fr := (9, 10)) (l := [49, 50, 51, 52, 53, 54, 55, 56, 57]) rfl (by simp [maxLen]))
  rw [of_example] at hof
  refine hof.mono ?_
  clear hof kc
  generalize w.alloc (.cells #[.int .u8 49, .int .u8 50, .int .u8 51, .int .u8 52, .int .u8 53, .int .u8 54, .int .u8 55, .int .u8 56, .int .u8 57] 5 (9, 10)) = w1 at *
  rintro e w2 ⟨rfl, rfl⟩
  have hs := seal_any none 0 0 [] w1 RdB.nil (by omega)
  have hwb := wholeB_sealed []
  generalize [] ++ fourL (ofN []) = y at *
  have HS := Lib.hid hs
  clear hs
  go_wp2_with fail
  refine HS.out.mono ?_
  rintro e w3 ⟨A3, c3, rfl, hown3, hb3⟩
  have hb3' := chain hb1 hb3
  have hw := whole_any _ _ _ _ w3 hown3.rd (by omega)
  rw [hwb] at hw
  have HW := Lib.hid hw
  clear hw hwb
  go_wp2_with fail
  refine HW.out.mono ?_
  rintro e w4 ⟨rfl, hb4⟩
  go_wp2_with fail
  go_ret
  exact ⟨rfl, chain hb3' hb4⟩

theorem RdB.take04 {w : World} {B n c : Nat} {A : Option Addr} {l : List UInt8} (h : RdB w B A n c l) (k : Nat) : RdB w B A (l.take k).length c (l.take k) := by
  have hn := h.length
  have hle := h.le
  by_cases hk : k ≤ n
  · have e : (l.take k).length = k := by simp; omega
    rw [e]
    exact h.take hk (by omega) (Nat.le_refl _)
  · rw [List.take_of_length_le (by omega), hn]
    exact h

theorem sumOf_walk {s : Nat} {A : Option Addr} {n c : Nat} {l : List UInt8} (w : World) (hs : s < 4294967296) (hr : RdB w w.heap.size A n c l) :
    Calls Try.prog 7 #[.int .u32 (s : Int), .slice A n c] w fun e w' => e = .returned (.bool true) ∧ Below w.heap.size w w' := by
  have hr2 := hr.take04 300
  have hl2 : (l.take 300).length ≤ 300 := by simp; omega
  have hfew := few04 A n c _ l w hr
  generalize l.take 300 = l2 at *
  have h1 := of_any _ _ _ _ _ _ hr2
  have h2 := of_ref _ _ _ _ _ _ hr2
  have h3 := more_any s hs _ _ _ _ _ _ hr2
  have h4 := more_ref s hs _ _ _ _ _ _ hr2
  generalize ofN l2 = x at *
  generalize moreN s l2 = y at *
  have HF := Lib.hid hfew
  have H1 := Lib.hid h1
  have H2 := Lib.hid h2
  have H3 := Lib.hid h3
  have H4 := Lib.hid h4
  clear hfew h1 h2 h3 h4
  go_enter Try.func7, Try.ntmps7
  go_wp2_with (first | (go_at_call 35; refine HF.out.mono ?_; rintro e w1 ⟨rfl, rfl⟩) | (go_at_call 36; refine H1.out.mono ?_; rintro e w1 ⟨rfl, rfl⟩) | (go_at_call 37; refine H2.out.mono ?_; rintro e w1 ⟨rfl, rfl⟩) | (go_at_call 38; refine H3.out.mono ?_; rintro e w1 ⟨rfl, rfl⟩) | (go_at_call 39; refine H4.out.mono ?_; rintro e w1 ⟨rfl, rfl⟩) | (go_at_call 40; refine (awake04 _).mono ?_; rintro e w1 ⟨rfl, hb⟩))
  go_ret
  exact ⟨rfl, hb⟩

theorem sumParts_walk {s : Nat} {A : Option Addr} {n c : Nat} {l : List UInt8} {A' : Option Addr} {n' c' : Nat} {m : List UInt8} (w : World) (hs : s < 4294967296) (hr : RdB w w.heap.size A n c l) (hr' : RdB w w.heap.size A' n' c' m) :
    Calls Try.prog 8 #[.int .u32 (s : Int), .slice A n c, .slice A' n' c'] w fun e w' => e = .returned (.bool true) ∧ Below w.heap.size w w' := by
  have hr2 := hr.take04 300
  have hl2 : (l.take 300).length ≤ 300 := by simp; omega
  have hfew := few04 A n c _ l w hr
  generalize l.take 300 = l2 at *
  have hr3 := hr'.take04 300
  have hl3 : (m.take 300).length ≤ 300 := by simp; omega
  have hfew2 := few04 A' n' c' _ m w hr'
  generalize m.take 300 = m2 at *
  have hlt := more_lt hs l2
  have hap := more_append s l2 m2
  have HA := Lib.hid hap
  have HF := Lib.hid hfew
  have HF2 := Lib.hid hfew2
  clear hfew hfew2 hap
  go_enter Try.func8, Try.ntmps8
  go_wp2_with fail
  refine HF.out.mono ?_
  rintro e w1 ⟨rfl, rfl⟩
  go_wp2_with fail
  refine HF2.out.mono ?_
  rintro e w1 ⟨rfl, rfl⟩
  go_wp2_with (first | (at_builtin; refine app_u8 rfl (.tmp 12) (.tmp 13) rfl rfl (OwnB.made (Nat.le_refl _)) rfl (hr2.alloc (Nat.le_refl _) _) ?_ (by omega) (by simp); intro A4 c4 w2 hown2 hb2 _ _; simp only [Nat.zero_add, List.nil_append] at hown2; have hb2' : Below w.heap.size w w2 := ((Below.refl _ _).alloc (Nat.le_refl _) _).trans hb2) | (at_builtin; refine app_u8 rfl (.tmp 14) (.tmp 15) rfl rfl hown2 rfl (hr3.below hb2') ?_ (by omega) hb2'.size; intro A5 c5 w3 hown3 hb3 _ _))
  have hb3' := hb2'.trans hb3
  have h1 := more_any s hs _ _ _ _ _ w3 (hr2.below hb3')
  have h2 := more_any (moreN s l2) hlt _ _ _ _ _ w3 (hr3.below hb3')
  have h3 := more_any s hs _ _ _ _ _ w3 hown3.rd
  rw [HA.out] at h3
  generalize moreN (moreN s l2) m2 = z at *
  generalize moreN s l2 = y at *
  have H1 := Lib.hid h1
  have H2 := Lib.hid h2
  have H3 := Lib.hid h3
  clear h1 h2 h3
  go_wp2_with fail
  refine H1.out.mono ?_
  rintro e w1 ⟨rfl, rfl⟩
  go_wp2_with fail
  refine H2.out.mono ?_
  rintro e w1 ⟨rfl, rfl⟩
  go_wp2_with fail
  refine H3.out.mono ?_
  rintro e w1 ⟨rfl, rfl⟩
  go_wp2_with (go_at_call 40; refine (awake04 _).mono ?_; rintro e w1 ⟨rfl, hb⟩)
  go_ret
  exact ⟨rfl, chain hb3' hb⟩
end Go.Proofs.Ytkohfgkokboghaa
