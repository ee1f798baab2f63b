
/- slices.Reverse at four bytes, slices.Equal, slices.Grow of nothing, slices.Concat of two. -/
import Derived.Test.YtmoijbknjadeeaaBytes
import Derived.RegionTactic
import Derived.BigRegion
import Derived.BigQuiet
namespace Go.Proofs.Ytmoijbknjadeeaa
set_option linter.unusedVariables false
set_option linter.unusedSimpArgs false
open Go.RowKit

theorem reverse4 (g c base : Nat) (a b d e : UInt8) (w : World) (h : OwnB w base (some ⟨g, 0, none⟩) 4 c [a, b, d, e]) :
    Calls Try.prog 93 #[.slice (some ⟨g, 0, none⟩) 4 c] w fun r w' => r = .returned (.tuple #[]) ∧ OwnB w' base (some ⟨g, 0, none⟩) 4 c [e, d, b, a] ∧ Below base w w' := by
  obtain ⟨c0, f0⟩ := h.at_ (k := 0) (by simp)
  obtain ⟨c1, f1⟩ := h.at_ (k := 1) (by simp)
  obtain ⟨c2, f2⟩ := h.at_ (k := 2) (by simp)
  obtain ⟨c3, f3⟩ := h.at_ (k := 3) (by simp)
  simp at c0 c1 c2 c3
  go_enter Try.func93, Try.ntmps93
  go_wp2_with fail
  refine wp_loop_rounds 3 ?_
  rw [rounds_succ]
  go_wp2_with fail
  go_region
  all_goals go_wp2_with fail
  rw [rounds_succ]
  go_wp2_with fail
  go_region
  all_goals go_wp2_with fail
  rw [rounds_succ]
  go_wp2_with fail
  go_end0
  obtain ⟨s1, b1, _⟩ := h.set 0 e (v := (e.toNat : Int)) rfl
  obtain ⟨s2, b2, _⟩ := s1.set 3 a (v := (a.toNat : Int)) rfl
  obtain ⟨s3, b3, _⟩ := s2.set 1 d (v := (d.toNat : Int)) rfl
  obtain ⟨s4, b4, _⟩ := s3.set 2 b (v := (b.toNat : Int)) rfl
  exact ⟨rfl, s4, (((b1.trans b2).trans b3).trans b4).drew.drew⟩

theorem equal_any (A : Option Addr) (n c B : Nat) (l : List UInt8) (A2 : Option Addr) (n2 c2 B2 : Nat) (m : List UInt8) (w : World) (hl : RdB w B A n c l) (hm : RdB w B2 A2 n2 c2 m) :
    Calls Try.prog 98 #[.slice A n c, .slice A2 n2 c2] w fun e w' => e = .returned (.bool (decide (l = m))) ∧ ∃ k, w' = w.drewN k := by
  obtain rfl : l.length = n := hl.length
  obtain rfl : m.length = n2 := hm.length
  have hle := hl.le
  have hmax := hl.max
  unfold maxLen at hmax
  by_cases hlen : l.length = m.length
  · have h1 : ((l.length : Int) != (m.length : Int)) = false := by simp; omega
    have HL := Lib.hid hlen
    clear hlen
    go_enter Try.func98, Try.ntmps98
    go_wp2_with fail
    go_loopw [13] (fun i wr => ∃ k j : Nat, k ≤ l.length ∧ i = .int .i64 (k : Int) ∧ l.take k = m.take k ∧ wr = w.drewN j) (fun i _ => l.length - (intOf i).toNat)
    case atStart => exact ⟨0, 0, Nat.zero_le _, rfl, by simp, rfl⟩
    case round =>
      obtain ⟨k, j, hk, rfl, ht, rfl⟩ := hrel
      have HT := Lib.hid ht
      clear ht
      by_cases hlt : k < l.length
      · have hlt2 : k < m.length := by rw [← HL.out]; exact hlt
        obtain ⟨b, off, rfl, _, hc⟩ := hl.get hlt
        obtain ⟨b2, off2, rfl, _, hc2⟩ := hm.get hlt2
        have hi1 : (0 : Int) ≤ (k : Int) := by omega
        have hi2 : (k : Int) < (l.length : Int) := by omega
        have hi3 : (k : Int) < (m.length : Int) := by omega
        by_cases heq : l[k] = m[k]
        · have h2 : ((l[k].toNat : Int) != (m[k].toNat : Int)) = false := by simp [heq]
          have HQ := Lib.hid heq
          clear heq
          go_wp2_with fail
          go_quiet (fail)
          go_wp2_with fail
          go_roundw
          case rel => exact ⟨k + 1, _, by omega, by go_num, by rw [List.take_succ_eq_append_getElem hlt, List.take_succ_eq_append_getElem hlt2, HT.out, HQ.out], by first | rfl | rw [World.drewN_drewN]⟩
          case measure => simp [intOf]; omega
        · have h2 : ((l[k].toNat : Int) != (m[k].toNat : Int)) = true := by
            simp only [bne_iff_ne, ne_eq]
            intro h
            exact heq (UInt8.toNat_inj.1 (by omega))
          have hne : l ≠ m := by
            rintro rfl
            exact heq rfl
          have HN := Lib.hid (decide_eq_false hne)
          clear heq hne
          go_wp2_with fail
          go_quiet (fail)
          go_wp2_with fail
          go_ret
          exact ⟨by rw [HN.out]; rfl, j + nq, by rw [World.drewN_drewN]⟩
      · obtain rfl : k = l.length := by omega
        have hEq : l = m := by
          have := HT.out
          rw [List.take_length, HL.out, List.take_length] at this
          exact this
        have HN := Lib.hid (decide_eq_true hEq)
        clear hEq
        go_wp2_with fail
        go_ret
        exact ⟨by rw [HN.out]; rfl, _, rfl⟩
  · have h1 : ((l.length : Int) != (m.length : Int)) = true := by simp; omega
    have hne : l ≠ m := by
      rintro rfl
      exact hlen rfl
    have HN := Lib.hid (decide_eq_false hne)
    clear hlen hne
    go_enter Try.func98, Try.ntmps98
    go_wp2_with fail
    go_ret
    exact ⟨by rw [HN.out]; rfl, 0, rfl⟩

theorem grow_nil (n : Nat) (w : World) (h0 : 0 < n) (hn : n ≤ 1099511627776) :
    Calls Try.prog 82 #[.slice none 0 0, .int .i64 (n : Int)] w fun e w' => ∃ A c, e = .returned (.slice A 0 c) ∧ OwnB w' w.heap.size A 0 c [] ∧ Below w.heap.size w w' := by
  have hb : Try.t5.bytes = 1 := rfl
  have hns : Builtin.nextslicecap n 0 = n := by
    unfold Builtin.nextslicecap
    simp [h0]
  go_enter Try.func82, Try.ntmps82
  go_wp2_with fail
  go_ret
  have hge := grownCap_ge w n 0 5
  have hle := grownCap_le_maxLen w n 0 5 (by simp only [maxLen]; omega)
  unfold grownCap at hge hle
  generalize (Question.appendCap n 0 5).cut (w.tape w.drawn (Question.appendCap n 0 5)) = c at *
  refine ⟨_, c, rfl, ?_, ((Below.refl _ _).alloc (Nat.le_refl _) _).drew⟩
  refine ⟨by simp [bys], .inr ⟨w.heap.size, c, _, rfl, Nat.le_refl _, heap_alloc_new w _, Nat.zero_le _, hle, ?_, by simp [bys]⟩⟩
  simp [Builtin.zeroCells]
  omega

theorem grow_zero (w : World) : Calls Try.prog 82 #[.slice none 0 0, .int .i64 0] w fun e w' => e = .returned (.slice none 0 0) ∧ w = w' := by
  go_enter Try.func82, Try.ntmps82
  go_wp2_with fail
  go_ret
  exact ⟨rfl, rfl⟩

theorem grow_any (n : Nat) (w : World) (hn : n ≤ 1099511627776) :
    Calls Try.prog 82 #[.slice none 0 0, .int .i64 (n : Int)] w fun e w' => ∃ A c, e = .returned (.slice A 0 c) ∧ OwnB w' w.heap.size A 0 c [] ∧ Below w.heap.size w w' := by
  rcases Nat.eq_zero_or_pos n with rfl | h0
  · refine (grow_zero w).mono ?_
    rintro e w' ⟨rfl, rfl⟩
    exact ⟨none, 0, rfl, OwnB.nil, Below.refl _ _⟩
  · exact grow_nil n w h0 hn

theorem concat2 (g : Nat) (A : Option Addr) (n c : Nat) (l : List UInt8) (A2 : Option Addr) (n2 c2 : Nat) (m : List UInt8) (w : World) (h0 : w.cell? ⟨g, 0, none⟩ = some (.slice A n c)) (h1 : w.cell? ⟨g, 1, none⟩ = some (.slice A2 n2 c2))
    (hl : RdB w w.heap.size A n c l) (hm : RdB w w.heap.size A2 n2 c2 m) (hn : n ≤ 1099511627776 / 2) (hn2 : n2 ≤ 1099511627776 / 2) :
    Calls Try.prog 52 #[.slice (some ⟨g, 0, none⟩) 2 2] w fun e w' => ∃ A3 c3, e = .returned (.slice A3 (n + n2) c3) ∧ OwnB w' w.heap.size A3 (n + n2) c3 (l ++ m) ∧ Below w.heap.size w w' := by
  have hg : g < w.heap.size := World.block_lt_of_cell? w _ h0
  have hgr := grow_any (n + n2) w (by omega)
  rw [Int.natCast_add] at hgr
  have HG := Lib.hid hgr
  clear hgr
  go_enter Try.func52, Try.ntmps52
  go_wp2_with fail
  refine wp_loop_rounds 3 ?_
  rw [rounds_succ]
  go_wp2_with fail
  rw [rounds_succ]
  go_wp2_with fail
  rw [rounds_succ]
  go_wp2_with fail
  refine HG.out.mono ?_
  rintro e w1 ⟨A1, c1, rfl, hown1, hb1⟩
  have h0' : w1.cell? ⟨g, 0, none⟩ = some (.slice A n c) := (hb1.cell (p := ⟨g, 0, none⟩) hg).trans h0
  have h1' : w1.cell? ⟨g, 1, none⟩ = some (.slice A2 n2 c2) := (hb1.cell (p := ⟨g, 1, none⟩) hg).trans h1
  go_wp2_with fail
  refine wp_loop_rounds 3 ?_
  rw [rounds_succ]
  go_wp2_with (at_builtin; refine app_u8 rfl (.tmp 31) (.tmp 32) rfl rfl hown1 rfl (hl.below hb1) ?_ ?c1 ?c2; intro A3 c3 w2 hown2 hb2 _ _)
  case c1 => omega
  case c2 => exact hb1.size
  simp only [Nat.zero_add, List.nil_append] at hown2
  have h1'' : w2.cell? ⟨g, 1, none⟩ = some (.slice A2 n2 c2) := (hb2.cell (p := ⟨g, 1, none⟩) hg).trans h1'
  have hb12 := hb1.trans hb2
  rw [rounds_succ]
  go_wp2_with (at_builtin; refine app_u8 rfl (.tmp 31) (.tmp 32) rfl rfl hown2 rfl (hm.below hb12) ?_ ?c1 ?c2; intro A4 c4 w3 hown3 hb3 _ _)
  case c1 => omega
  case c2 => exact hb12.size
  rw [rounds_succ]
  go_wp2_with fail
  go_ret
  exact ⟨A4, c4, rfl, hown3, hb12.trans hb3⟩
end Go.Proofs.Ytmoijbknjadeeaa
