
/- The reference's Put and Next of frames. -/
import Derived.Test.YtmoijbknjadeeaaFrameNext
namespace Go.Proofs.Ytmoijbknjadeeaa
set_option linter.unusedVariables false
set_option linter.unusedSimpArgs false
open Go.RowKit

theorem rput5 (A : Option Addr) (n c : Nat) (l : List UInt8) (w : World) (hr : RdB w w.heap.size A n c l) (h2 : n ≤ 1048576) :
    Calls Try.prog 92 #[.slice A n c] w fun e w' => ∃ A2 c2, e = .returned (.slice A2 (8 + n) c2) ∧ OwnB w' w.heap.size A2 (8 + n) c2 (frameL l) ∧ Below w.heap.size w w' := by
  obtain rfl : l.length = n := hr.length
  have hlt := of_lt l
  go_enter Try.func92, Try.ntmps92
  go_wp2_with fail
  have hb0 : Below w.heap.size w (w.alloc (.cells #[] 5)) := (Below.refl _ _).alloc (Nat.le_refl _) _
  have hown0 : OwnB (w.alloc (.cells #[] 5)) w.heap.size (some ⟨w.heap.size, 0, none⟩) 0 0 [] := OwnB.made (Nat.le_refl _)
  refine (ref_put l.length 4 _ (by omega) (by omega) (by omega)).mono ?_
  rintro e w1 ⟨A1, rfl, hown1, hb1⟩
  have hb1' := chain hb0 hb1
  have hown0' : OwnB w1 w.heap.size (some ⟨w.heap.size, 0, none⟩) 0 0 [] := hown0.below hb1
  go_wp2_with (at_builtin; refine app_u8 rfl (.tmp 4) (.tmp 8) rfl rfl hown0' rfl hown1.rd ?_ (by omega) hb1'.size; intro A2 c2 w2 hown2 hb2 _ _)
  have hb2' := hb1'.trans hb2
  simp only [Nat.zero_add, List.nil_append] at hown2
  refine (of_ref _ _ _ _ _ _ (hr.below hb2')).mono ?_
  rintro e w3 ⟨rfl, rfl⟩
  go_wp2_with fail
  refine (ref_put (ofN l) 4 _ (by omega) (by omega) (by omega)).mono ?_
  rintro e w3 ⟨A3, rfl, hown3, hb3⟩
  have hb3' := chain hb2' hb3
  have hown2' := hown2.below hb3
  go_wp2_with (first | (at_builtin; refine app_u8 rfl (.tmp 10) (.tmp 14) rfl rfl hown2' rfl hown3.rd ?_ (by omega) hb3'.size; intro A4 c4 w4 hown4 hb4 _ _; have hb4' := hb3'.trans hb4) | (at_builtin; refine app_u8 rfl (.tmp 16) (.tmp 17) rfl rfl hown4 rfl (hr.below hb4') ?_ (by omega) hb4'.size; intro A5 c5 w5 hown5 hb5 _ _))
  go_ret
  rw [List.append_assoc] at hown5
  exact ⟨A5, c5, by simp, hown5, hb4'.trans hb5⟩

theorem rnext_short (A : Option Addr) (n c k : Nat) (w : World) (hn : n ≤ 1099511627776) (hk : k ≤ n) (h8 : n < k + 8) :
    Calls Try.prog 65 #[.slice A n c, .int .i64 (k : Int)] w fun e w' => e = .returned (.tuple #[.slice none 0 0, .int .i64 (if n = k then 6 else 4)]) ∧ w = w' := by
  by_cases h0 : n = k
  · subst h0
    rw [if_pos rfl]
    go_enter Try.func65, Try.ntmps65
    go_wp2_with fail
    go_ret2
    exact ⟨rfl, rfl⟩
  · rw [if_neg h0]
    have hne : ((n : Int) - (k : Int) == 0) = false := by simp; omega
    clear h0
    go_enter Try.func65, Try.ntmps65
    go_wp2_with fail
    go_ret2
    exact ⟨rfl, rfl⟩

theorem rnext_long (g0 off : Nat) (n c B k : Nat) (b : List UInt8) (w : World) (hr : RdB w B (some ⟨g0, off, none⟩) n c b) (hn : n ≤ 1099511627776) (hk : k + 8 ≤ n) :
    Calls Try.prog 65 #[.slice (some ⟨g0, off, none⟩) n c, .int .i64 (k : Int)] w fun e w' => ∃ A2 c2, e = .returned (.tuple #[.slice A2 (nextF (b.drop k)).2.1.length c2, .int .i64 ((nextF (b.drop k)).1 : Int)]) ∧
      RdB w' B A2 (nextF (b.drop k)).2.1.length c2 (nextF (b.drop k)).2.1 ∧ w = w' := by
  have hlen := hr.length
  have hle := hr.le
  have hmax := hr.max
  unfold maxLen at hmax
  have hck : ¬ c = k := by omega
  have hck4 : ¬ c = k + 4 := by omega
  have hne : ((n : Int) - (k : Int) == 0) = false := by simp; omega
  have hdl : (b.drop k).length = n - k := by simp; omega
  have h1 := ref_num _ _ _ _ _ w (hr.cut (k := k) (m := 4) (by omega))
  have hq1 : num ((b.drop k).take 4) = lenAt (b.drop k) := rfl
  rw [hq1] at h1
  have h2 := ref_num _ _ _ _ _ w (hr.cut (k := k + 4) (m := 4) (by omega))
  have hq2 : num ((b.drop (k + 4)).take 4) = sumAt (b.drop k) := by unfold sumAt; rw [List.drop_drop]
  rw [hq2] at h2
  have hl1 := lenAt_lt (b.drop k)
  have hl2 := sumAt_lt (b.drop k)
  have H1 := Lib.hid h1
  have H2 := Lib.hid h2
  clear h1 h2 hq1 hq2
  by_cases hf : lenAt (b.drop k) < 1 ∨ 1048576 < lenAt (b.drop k)
  · rw [next_form (by omega) hf]
    clear hlen hdl
    generalize lenAt (b.drop k) = x at *
    by_cases hx : x < 1
    · obtain rfl : x = 0 := by omega
      clear hf
      go_enter Try.func65, Try.ntmps65
      go_wp2_with fail
      refine H1.out.mono ?_
      rintro e w1 ⟨rfl, rfl⟩
      go_wp2_with fail
      go_ret2
      exact ⟨none, 0, rfl, RdB.nil, rfl⟩
    · have hx2 : 1048576 < x := by omega
      have hx0 : ((x : Int) == 0) = false := by simp; omega
      clear hf
      go_enter Try.func65, Try.ntmps65
      go_wp2_with fail
      refine H1.out.mono ?_
      rintro e w1 ⟨rfl, rfl⟩
      go_wp2_with fail
      go_ret2
      exact ⟨none, 0, rfl, RdB.nil, rfl⟩
  · have hx0 : ((lenAt (b.drop k) : Int) == 0) = false := by simp; omega
    have hf2 : lenAt (b.drop k) ≤ 1048576 := by omega
    have hf1 : 1 ≤ lenAt (b.drop k) := by omega
    by_cases hm : (b.drop k).length - 8 < lenAt (b.drop k)
    · rw [next_more (by omega) hf hm]
      have hm' : (n : Int) - (k : Int) - 8 < (lenAt (b.drop k) : Int) := by omega
      clear hlen hdl hm hf
      generalize lenAt (b.drop k) = x at *
      go_enter Try.func65, Try.ntmps65
      go_wp2_with fail
      refine H1.out.mono ?_
      rintro e w1 ⟨rfl, rfl⟩
      go_wp2_with fail
      go_ret2
      exact ⟨none, 0, rfl, RdB.nil, rfl⟩
    · have hm' : ¬ (n : Int) - (k : Int) - 8 < (lenAt (b.drop k) : Int) := by omega
      have hm2 : k + 8 + lenAt (b.drop k) ≤ n := by omega
      have hck8 : ¬ c = k + 8 := by omega
      have hrp := hr.cut (k := k + 8) (m := lenAt (b.drop k)) hm2
      have hpe : (b.drop (k + 8)).take (lenAt (b.drop k)) = ((b.drop k).drop 8).take (lenAt (b.drop k)) := by rw [List.drop_drop]
      rw [hpe] at hrp
      clear hpe
      by_cases hs : ofN (((b.drop k).drop 8).take (lenAt (b.drop k))) = sumAt (b.drop k)
      · rw [next_ok (by omega) hf hm hs]
        clear hf hm hlen hdl
        generalize sumAt (b.drop k) = y at *
        generalize lenAt (b.drop k) = x at *
        generalize ((b.drop k).drop 8).take x = p at *
        obtain rfl : p.length = x := hrp.length
        have h3 := of_ref _ _ _ _ _ w hrp
        rw [hs] at h3
        have H3 := Lib.hid h3
        clear hs h3
        go_enter Try.func65, Try.ntmps65
        go_wp2_with fail
        refine H1.out.mono ?_
        rintro e w1 ⟨rfl, rfl⟩
        go_wp2_with fail
        refine H2.out.mono ?_
        rintro e w1 ⟨rfl, rfl⟩
        go_wp2_with fail
        refine H3.out.mono ?_
        rintro e w1 ⟨rfl, rfl⟩
        go_wp2_with fail
        go_ret2
        exact ⟨_, _, rfl, hrp, rfl⟩
      · rw [next_sum (by omega) hf hm hs]
        have hlo := of_lt (((b.drop k).drop 8).take (lenAt (b.drop k)))
        have h3 := of_ref _ _ _ _ _ w hrp
        have hpl := hrp.length
        clear hf hm hlen hdl
        generalize sumAt (b.drop k) = y at *
        generalize ofN (((b.drop k).drop 8).take (lenAt (b.drop k))) = z at *
        generalize lenAt (b.drop k) = x at *
        have hne2 : ((y : Int) != (z : Int)) = true := by simp; omega
        have H3 := Lib.hid h3
        clear hs h3 hpl
        go_enter Try.func65, Try.ntmps65
        go_wp2_with fail
        refine H1.out.mono ?_
        rintro e w1 ⟨rfl, rfl⟩
        go_wp2_with fail
        refine H2.out.mono ?_
        rintro e w1 ⟨rfl, rfl⟩
        go_wp2_with fail
        refine H3.out.mono ?_
        rintro e w1 ⟨rfl, rfl⟩
        go_wp2_with fail
        go_ret2
        exact ⟨none, 0, rfl, RdB.nil, rfl⟩

/-- the reference's Next, at any place -/
theorem rnext_any (A : Option Addr) (n c B k : Nat) (b : List UInt8) (w : World) (hr : RdB w B A n c b) (hn : n ≤ 1099511627776) (hk : k ≤ n) :
    Calls Try.prog 65 #[.slice A n c, .int .i64 (k : Int)] w fun e w' => ∃ A2 c2, e = .returned (.tuple #[.slice A2 (nextF (b.drop k)).2.1.length c2, .int .i64 ((nextF (b.drop k)).1 : Int)]) ∧
      RdB w' B A2 (nextF (b.drop k)).2.1.length c2 (nextF (b.drop k)).2.1 ∧ w = w' := by
  have hlen := hr.length
  by_cases h8 : n < k + 8
  · have hx := rnext_short A n c k w hn hk h8
    by_cases h0 : n = k
    · rw [if_pos h0] at hx
      rw [next_none (by simp; omega)]
      refine hx.mono ?_
      rintro e w' ⟨rfl, rfl⟩
      exact ⟨none, 0, rfl, RdB.nil, rfl⟩
    · rw [if_neg h0] at hx
      rw [next_short (by simp; omega) (by simp; omega)]
      refine hx.mono ?_
      rintro e w' ⟨rfl, rfl⟩
      exact ⟨none, 0, rfl, RdB.nil, rfl⟩
  · obtain ⟨g0, off, rfl, _, _⟩ := hr.cells (by have := hr.le; omega)
    exact rnext_long g0 off n c B k b w hr hn (by omega)
end Go.Proofs.Ytmoijbknjadeeaa
