
/- Chapter 17: counts as the program's, and as the document's. -/
import Derived.Test.YtcepknjcgknidaaCts
import Derived.Test.YtcepknjcgknidaaStage
import Derived.Deep.Cut
namespace Go.Proofs.Ytcepknjcgknidaa
set_option linter.unusedVariables false
set_option linter.unusedSimpArgs false
open Go.RowKit
theorem take_snoc {l : List Ct} {k : Nat} (h : k < l.length) : l.take k ++ [l[k]] = l.take (k + 1) := by rw [List.take_succ_eq_append_getElem h]
theorem ct_ne : (96 : TypeId) ≠ 95 := by decide
theorem hc_ne : (62 : TypeId) ≠ 96 := by decide
theorem hrc_ne : (62 : TypeId) ≠ 95 := by decide
theorem OwnC.lower {w : World} {base base' n c : Nat} {A : Option Addr} {l : List Ct} (h : OwnC w base A n c l) (hb : base' ≤ base) : OwnC w base' A n c l := by
  obtain ⟨h1, h2⟩ := h
  refine ⟨h1, ?_⟩
  rcases h2 with h0 | ⟨g, cap, cur, k1, k2, k3, k4⟩
  · exact .inl h0
  · exact .inr ⟨g, cap, cur, k1, Nat.le_trans hb k2, k3, k4⟩
set_option maxRecDepth 100000 in
set_option maxHeartbeats 4000000 in
theorem ours17_any (A : Option Addr) (n c : Nat) (l : List Ct) (w : World) (hr : RdC w w.heap.size A n c l) :
    Calls Try.prog 31 #[.slice A n c] w fun x w' => ∃ A1 c1, x = .returned (.agg #[.slice A1 (min n 40) c1]) ∧ OwnC w' w.heap.size A1 (min n 40) c1 (l.take 40) ∧ Below w.heap.size w w' := by
  have hn := RdC.len hr
  have hmax := hr.max
  have hle := hr.le
  unfold maxLen at hmax
  subst hn
  have HR := Lib.hid hr
  clear hr
  go_enter Try.func31, Try.ntmps31
  go_upto_region 2 with fail
  obtain ⟨h0, h1, hb⟩ := two_at w 62 [.slice none 0 0] 62 [.slice none 0 0]
  generalize World.alloc (World.alloc _ _) _ = w1 at *
  have H0 := Lib.hid h0
  have H1 := Lib.hid h1
  have HB := Lib.hid hb
  clear h0 h1 hb
  go_wp2_with fail
  go_loopw [8] (fun i wr => ∃ (k m : Nat) (A1 : Option Addr) (c1 : Nat), i = .int .i64 (k : Int) ∧ k ≤ l.length ∧ m = min k 40 ∧ At wr w.heap.size 62 [.slice none 0 0] ∧ At wr (w.heap.size + 1) 62 [.slice A1 m c1] ∧ OwnC wr (w.heap.size + 2) A1 m c1 (l.take m) ∧ Below w.heap.size w wr ∧ w.heap.size + 2 ≤ wr.heap.size) (fun i _ => l.length - (intOf i).toNat)
  case atStart => exact ⟨0, 0, none, 0, rfl, Nat.zero_le _, rfl, H0.out, H1.out, OwnC.nil, HB.out, by have := H1.out.lt; omega⟩
  case round =>
    clear H0 H1 HB
    obtain ⟨k, m, A1, c1, rfl, hk, hm, h0, h1, hown, hb, hsz⟩ := hrel
    by_cases hlt : k < l.length
    · obtain ⟨g, off, e, hg, he⟩ := HR.out.elem Ct.row_length (by omega) (k := k) hlt
      subst e
      have hbc := bcell (Below.mono (B := w.heap.size) hb (Nat.le_refl _))
      have e0 := (hbc.1 _ _ hg).trans (he 0 _ rfl)
      have e1 := (hbc.1 _ _ hg).trans (he 1 _ rfl)
      rw [Nat.add_zero] at e0
      have hsn := take_snoc hlt
      generalize l[k] = y at *
      clear he hbc
      have H0 := Lib.hid h0
      have H1 := Lib.hid h1
      have HB := Lib.hid hb
      have HW := Lib.hid hown
      have HS := Lib.hid hsn
      clear h0 h1 hb hown hsn
      by_cases h40 : k < 40
      · obtain rfl : m = k := by omega
        clear hm
        go_upto_region 5 with fail
        obtain ⟨hy, hb2⟩ := one_at wr 95 y.row
        have h1 := H1.out.below hb2
        have HW := Lib.hid (HW.out.below hb2)
        have HB := Lib.hid (chain HB.out hb2)
        have HZ := Lib.hid (H0.out.below hb2)
        have hsz' := Nat.le_trans hsz hb2.size
        unfold Ct.row at hy HW HB HZ h1 hsz'
        clear hb2 e0 e1
        generalize World.alloc _ _ = w2 at *
        generalize wr.heap.size = gy at *
        obtain ⟨⟨y0, y1⟩, _⟩ := at2 hy
        obtain ⟨x0, x1⟩ := at1 h1
        have hbn := (one_at w2 96 y.row).2
        have hN := Rd.lit (w := w2) (t := 96) (n := 1) (cs := y.row) rfl (by simp [maxLen]) (by omega : 0 < 2)
        have hO := HW.out.below hbn
        have h1' := h1.below hbn
        have hz' := HZ.out.below hbn
        have hB' := chain HB.out hbn
        have hy1 : y.row = [y].flatMap Ct.row := by simp
        have hbz := hbn.size
        unfold Ct.row at hN hO h1' hz' hB' hbz
        have HN := Lib.hid hN
        have HO := Lib.hid hO
        have HX := Lib.hid h1'
        have HZ := Lib.hid hz'
        have HB := Lib.hid hB'
        clear hN hO h1' hz' hB' hbn HW h1
        go_upto_region 7 with (at_builtin; refine app_c rfl (.tmp 16) (.tmp 22) rfl rfl HO.out [y] rfl HN.out (Nat.le_trans hsz' hbz) (by omega) ?_; intro A3 c3 w4 hW4 hG4; have hx4 := HX.out.own HO.out hG4 hc_ne; have hz4 := HZ.out.own HO.out hG4 hc_ne; have hB4 := HB.out.trans (Below.mono (below_of_app HO.out hG4 (Nat.le_trans hsz' hbz)) (show w.heap.size ≤ w.heap.size + 2 by omega)); have hle4 := Nat.le_trans (Nat.le_trans hsz' hbz) (below_of_app HO.out hG4 (Nat.le_trans hsz' hbz)).size; obtain ⟨k0, k1⟩ := at1 hx4; have HX4 := Lib.hid hx4; have HZ4 := Lib.hid hz4; have HB4 := Lib.hid hB4; have HW4 := Lib.hid hW4; clear hx4 hz4 hB4 hG4 hW4)
        have hst := grown_set w4 (w.heap.size + 1) 0 (.slice A3 (m + 1) c3)
        have hx5 := HX4.out.set 0 (.slice A3 (m + 1) c3)
        simp only [List.set_cons_zero] at hx5
        have hz5 := HZ4.out.only hst (by omega)
        have hB5 := chainG HB4.out hst (by omega)
        have hw5 : OwnC _ (w.heap.size + 2) A3 (m + 1) c3 (l.take m ++ [y]) := own_mod HW4.out (grown_mod hst) (by intro i o _ hi _ e; injection e with e; omega)
        rw [HS.out] at hw5
        have hle5 := Nat.le_trans hle4 hst.size
        go_wp2_with fail
        go_roundw
        case rel => exact ⟨m + 1, m + 1, A3, c3, by go_num, by omega, by omega, hz5, hx5, hw5, hB5, hle5⟩
        case measure => simp [intOf]; omega
      · obtain rfl : m = 40 := by omega
        clear hm
        go_upto_region 5 with fail
        obtain ⟨hy, hb2⟩ := one_at wr 95 y.row
        have h1 := H1.out.below hb2
        have hW2 := HW.out.below hb2
        have hB2 := chain HB.out hb2
        have hz2 := H0.out.below hb2
        have hsz' := Nat.le_trans hsz hb2.size
        unfold Ct.row at hW2 hB2 hz2 h1 hsz'
        clear hb2 e0 e1 hy
        go_wp2_with fail
        go_roundw
        case rel => exact ⟨k + 1, 40, A1, c1, by go_num, by omega, by omega, hz2, h1, hW2, hB2, hsz'⟩
        case measure => simp [intOf]; omega
    · obtain rfl : k = l.length := by omega
      obtain ⟨x0, x1⟩ := at1 h1
      obtain ⟨z0, z1⟩ := at1 h0
      have hst := grown_set wr w.heap.size 0 (.slice A1 m c1)
      have hz5 := h0.set 0 (.slice A1 m c1)
      simp only [List.set_cons_zero] at hz5
      have hB5 := chainG hb hst (Nat.le_refl _)
      have hw5 : OwnC _ w.heap.size A1 m c1 (l.take m) := OwnC.lower (own_mod hown (grown_mod hst) (by intro i o _ hi _ e; injection e with e; omega)) (by omega)
      obtain ⟨c0, c1'⟩ := at1 hz5
      have HC := Lib.hid c0
      clear c1'
      go_wp2_with fail
      have q0 := HC.out
      have hml : l.take m = l.take 40 := by rw [hm, ← List.take_length (l := l), List.take_take]; simp [Nat.min_comm]
      rw [hml] at hw5
      subst hm
      exact bodyPost_ret (v := .agg #[.slice A1 (min l.length 40) c1]) (by simp [results, Try.results31, go_sem, q0]) rfl ⟨A1, c1, rfl, hw5, hB5⟩
end Go.Proofs.Ytcepknjcgknidaa
