
/- Chapter 17: a handle's counts as the document's; how many in all; the same. -/
import Derived.Test.YtcepknjcgknidaaOurs17
import Derived.RegionTactic
import Derived.BigRegion
import Derived.BigQuiet
namespace Go.Proofs.Ytcepknjcgknidaa
set_option linter.unusedVariables false
set_option linter.unusedSimpArgs false
open Go.RowKit
set_option maxRecDepth 100000 in
set_option maxHeartbeats 4000000 in
theorem plain17_any (A : Option Addr) (n c : Nat) (l : List Ct) (w : World) (hr : RdC w w.heap.size A n c l) (hn : n ≤ 1000000) :
    Calls Try.prog 32 #[.agg #[.slice A n c]] w fun x w' => ∃ A1 c1, x = .returned (.slice A1 n c1) ∧ OwnRC w' w.heap.size A1 n c1 l ∧ Below w.heap.size w w' := by
  have hl := RdC.len hr
  have hmax := hr.max
  have hle := hr.le
  unfold maxLen at hmax
  subst hl
  have HR := Lib.hid hr
  clear hr
  go_enter Try.func32, Try.ntmps32
  go_upto_region 1 with fail
  obtain ⟨h0, hb⟩ := one_at w 62 [.slice A l.length c]
  generalize World.alloc _ _ = w1 at *
  obtain ⟨x0, x1⟩ := at1 h0
  have HB := Lib.hid hb
  clear hb
  go_wp2_with fail
  go_loopw [3, 9] (fun v i wr => ∃ (k : Nat) (A1 : Option Addr) (c1 : Nat), i = .int .i64 (k : Int) ∧ v = .slice A1 k c1 ∧ k ≤ l.length ∧ OwnRC wr w.heap.size A1 k c1 (l.take k) ∧ Below w.heap.size w wr) (fun _ i _ => l.length - (intOf i).toNat)
  case atStart => exact ⟨0, none, 0, rfl, rfl, Nat.zero_le _, OwnRC.nil, HB.out⟩
  case round =>
    clear HB h0 x0 x1
    obtain ⟨k, A1, c1, rfl, rfl, hk, hown, hb⟩ := hrel
    have hsz := hb.size
    by_cases hlt : k < l.length
    · obtain ⟨g, off, e, hg, he⟩ := HR.out.elem Ct.row_length (by omega) (k := k) hlt
      subst e
      have hbc := bcell (Below.mono (B := w.heap.size) hb (Nat.le_refl _))
      have e0 := (hbc.1 _ _ hg).trans (he 0 _ rfl)
      have e1 := (hbc.1 _ _ hg).trans (he 1 _ rfl)
      rw [Nat.add_zero] at e0
      have hsn := take_snoc hlt
      generalize l[k] = y at *
      clear he hbc
      have HB := Lib.hid hb
      have HW := Lib.hid hown
      have HS := Lib.hid hsn
      clear hb hown hsn
      go_upto_region 5 with fail
      obtain ⟨hy, hb2⟩ := one_at wr 96 y.row
      have HW := Lib.hid (HW.out.below hb2)
      have HB := Lib.hid (chain HB.out hb2)
      have hsz' := Nat.le_trans hsz hb2.size
      unfold Ct.row at hy HW HB hsz'
      clear hb2 e0 e1
      generalize World.alloc _ _ = w2 at *
      generalize wr.heap.size = gy at *
      obtain ⟨⟨y0, y1⟩, _⟩ := at2 hy
      have hbn := (one_at w2 95 y.row).2
      have hN := Rd.lit (w := w2) (t := 95) (n := 1) (cs := y.row) rfl (by simp [maxLen]) (by omega : 0 < 2)
      have hO := HW.out.below hbn
      have hB' := chain HB.out hbn
      have hbz := hbn.size
      unfold Ct.row at hN hO hB' hbz
      have HN := Lib.hid hN
      have HO := Lib.hid hO
      have HB := Lib.hid hB'
      clear hN hO hB' hbn HW
      go_wp2_with (at_builtin; refine app_rc rfl (.tmp 13) (.tmp 19) rfl rfl HO.out [y] rfl HN.out (Nat.le_trans hsz' hbz) (by omega) ?_; intro A3 c3 w4 hW4 hG4; have hB4 := HB.out.trans (below_of_app HO.out hG4 (Nat.le_trans hsz' hbz)))
      rw [HS.out] at hW4
      go_roundw
      case rel => exact ⟨k + 1, A3, c3, by go_num, rfl, by omega, hW4, hB4⟩
      case measure => simp [intOf]; omega
    · obtain rfl : k = l.length := by omega
      rw [List.take_length] at hown
      have HB := Lib.hid hb
      have HW := Lib.hid hown
      clear hb hown
      go_wp2_with fail
      go_ret
      exact ⟨A1, c1, rfl, HW.out, HB.out⟩
set_option maxRecDepth 100000 in
set_option maxHeartbeats 4000000 in
/-- are two the same? -/
theorem same17_any (A : Option Addr) (n c : Nat) (l : List Ct) (A2 : Option Addr) (n2 c2 : Nat) (m : List Ct) (w : World) (hr : RdC w w.heap.size A n c l) (hr2 : RdC w w.heap.size A2 n2 c2 m) :
    Calls Try.prog 40 #[.slice A n c, .slice A2 n2 c2] w fun x w' => x = .returned (.bool (decide (l = m))) ∧ Below w.heap.size w w' := by
  have hl := RdC.len hr
  have hl2 := RdC.len hr2
  have hmax := hr.max
  have hle := hr.le
  have hmax2 := hr2.max
  have hle2 := hr2.le
  unfold maxLen at hmax hmax2
  subst hl
  subst hl2
  by_cases hne : l.length = m.length
  · have hne2 : ((l.length : Int) != (m.length : Int)) = false := by simp; omega
    have HR := Lib.hid hr
    have HR2 := Lib.hid hr2
    have HE := Lib.hid hne
    clear hr hr2 hne
    go_enter Try.func40, Try.ntmps40
    go_wp2_with fail
    go_loopw [13] (fun i wr => ∃ k j : Nat, k ≤ l.length ∧ i = .int .i64 (k : Int) ∧ l.take k = m.take k ∧ wr = w.drewN j) (fun i _ => l.length - (intOf i).toNat)
    case atStart => exact ⟨0, 0, Nat.zero_le _, by simp [HE.out], by simp, rfl⟩
    case round =>
      obtain ⟨k, j, hk, rfl, ht, rfl⟩ := hrel
      have HT := Lib.hid ht
      clear ht
      by_cases hlt : k < l.length
      · have hlt2 : k < m.length := by rw [← HE.out]; exact hlt
        have hlt3 : (k : Int) < (m.length : Int) := by omega
        obtain ⟨g, off, e, hg, he⟩ := HR.out.elem Ct.row_length (by omega) (k := k) hlt
        subst e
        obtain ⟨g2, off2, e, hg2, he2⟩ := HR2.out.elem Ct.row_length (by omega) (k := k) hlt2
        subst e
        have e0 := he 0 _ rfl
        have e1 := he 1 _ rfl
        have f0 := he2 0 _ rfl
        have f1 := he2 1 _ rfl
        rw [Nat.add_zero] at e0 f0
        have hs1 := take_snoc hlt
        have hs2 := take_snoc hlt2
        have hkk : k < l.length → k < m.length → l = m → l[k]? = m[k]? := fun _ _ e => by rw [e]
        rw [List.getElem?_eq_getElem hlt, List.getElem?_eq_getElem hlt2] at hkk
        generalize l[k] = x at *
        generalize m[k] = y at *
        clear he he2
        by_cases heq : x = y
        · subst heq
          have HK := Lib.hid hkk
          have HS1 := Lib.hid hs1
          have HS2 := Lib.hid hs2
          clear hkk hs1 hs2
          go_wp2_with fail
          go_quiet (fail)
          go_wp2_with fail
          go_roundw
          case rel => exact ⟨k + 1, _, by omega, by go_num, by rw [← HS1.out, ← HS2.out, HT.out], by first | rfl | rw [World.drewN_drewN]⟩
          case measure => simp [intOf]; omega
        · have hne : l ≠ m := fun e => heq (Option.some.inj (hkk hlt hlt2 e))
          have HN := Lib.hid (decide_eq_false hne)
          clear hkk hs1 hs2
          by_cases hbb : x.b = y.b
          · have hnn : x.n ≠ y.n := fun e => heq (by cases x; cases y; simp only [Ct.mk.injEq]; exact ⟨hbb, e⟩)
            have hq1 : ((x.b : Int) == (y.b : Int)) = true := by rw [hbb]; exact beq_self_eq_true _
            have hq2 : (x.n == y.n) = false := beq_eq_false_iff_ne.mpr hnn
            have HH := Lib.hid heq
            clear heq hbb hnn
            go_wp2_with fail
            go_quiet (fail)
            go_wp2_with fail
            go_ret
            exact ⟨by rw [HN.out]; rfl, below_drewN (below_drewN (Below.refl _ _) _) _⟩
          · have hq1 : ((x.b : Int) == (y.b : Int)) = false := beq_eq_false_iff_ne.mpr (by omega)
            have HH := Lib.hid heq
            clear heq hbb
            go_wp2_with fail
            go_quiet (fail)
            go_wp2_with fail
            go_ret
            exact ⟨by rw [HN.out]; rfl, below_drewN (below_drewN (Below.refl _ _) _) _⟩
      · obtain rfl : k = l.length := by omega
        have hEq : l = m := by
          have := HT.out
          rw [List.take_length, HE.out, List.take_length] at this
          exact this
        have HN := Lib.hid (decide_eq_true hEq)
        clear hEq
        go_wp2_with fail
        go_ret
        exact ⟨by rw [HN.out]; rfl, below_drewN (Below.refl _ _) _⟩
  · have hne2 : ¬ ((l.length : Int) = (m.length : Int)) := by omega
    have hd : decide (l = m) = false := decide_eq_false (fun e => hne (by rw [e]))
    rw [hd]
    go_enter Try.func40, Try.ntmps40
    go_wp2_with fail
    go_ret
    exact ⟨rfl, Below.refl _ _⟩
end Go.Proofs.Ytcepknjcgknidaa
