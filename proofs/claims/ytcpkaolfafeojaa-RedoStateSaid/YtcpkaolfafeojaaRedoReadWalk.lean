
/- Chapter 10: the walk of RedoPut. -/
import Derived.Test.YtcpkaolfafeojaaRedoB
namespace Go.Proofs.Ytcpkaolfafeojaa
set_option linter.unusedVariables false
set_option linter.unusedSimpArgs false
open Go.RowKit
theorem cutE_r (e : Eff) : (cutE e).r = e.r := rfl
/-- an effect is stored over another one -/
theorem put4 {w : World} {g : Nat} {T : TypeId} {a b c d : Value} (h : w.heap[g]? = some (.cells #[a, b, c, d] T)) (a' b' c' d' : Value) :
    ((((w.setCell ⟨g, 0, none⟩ a').setCell ⟨g, 1, none⟩ b').setCell ⟨g, 2, none⟩ c').setCell ⟨g, 3, none⟩ d').heap[g]? = some (.cells #[a', b', c', d'] T) ∧ w.grownBy ((((w.setCell ⟨g, 0, none⟩ a').setCell ⟨g, 1, none⟩ b').setCell ⟨g, 2, none⟩ c').setCell ⟨g, 3, none⟩ d') (some g) :=
  ⟨heap_setCell_at (heap_setCell_at (heap_setCell_at (heap_setCell_at h 0 a') 1 b') 2 c') 3 d', only_trans (only_trans (only_trans (only_setCell w g 0 a') (only_setCell _ g 1 b')) (only_setCell _ g 2 c')) (only_setCell _ g 3 d')⟩

set_option maxRecDepth 100000 in
set_option maxHeartbeats 4000000 in
theorem redoPut_walk {e : Eff} (w : World) (hf : e.fits) :
    Calls Try.prog 6 #[e.val] w fun x w' => x = .returned (.bool true) ∧ Below w.heap.size w w' := by
  have hfr : (cutE e).r < 9223372036854775808 := hf.2.2.2
  have hb0 : Below w.heap.size w (w.alloc (.cells e.cells 54)) := (Below.refl _ _).alloc (Nat.le_refl _) _
  have hat0 := heap_alloc_new w (.cells e.cells 54)
  have hcut := cut_any e (w.alloc (.cells e.cells 54))
  generalize hf' : cutE e = f at *
  have hfk : f.k.size ≤ 140 := by rw [← hf']; exact cutS_size _ _
  have hfv : f.v.size ≤ 100 := by rw [← hf']; exact cutS_size _ _
  clear hf' hf
  have hours := ours_any f
  have hright := rright_any f
  obtain ⟨ek, ev, er, eg⟩ := e
  obtain ⟨fk, fv, fr, fg⟩ := f
  have hbad := eput_bad ⟨fk, fv, fr, fg⟩
  have hok := fun w h => eput_ok ⟨fk, fv, fr, fg⟩ w h hfr
  have hrp := fun w h => rput_any ⟨fk, fv, fr, fg⟩ w h hfr
  have hlen := effL_length ⟨fk, fv, fr, fg⟩
  have hre := fun h => rdE_put ⟨fk, fv, fr, fg⟩ h hfr
  have hoe := fun h => okE_put ⟨fk, fv, fr, fg⟩ h hfr
  unfold Eff.val Eff.cells at *
  simp only at *
  generalize effL ⟨fk, fv, fr, fg⟩ = L at *
  have HC := Lib.hid hcut
  have HO := Lib.hid hours
  have HR := Lib.hid hright
  have HA := Lib.hid hat0
  have HB := Lib.hid hb0
  have HBad := Lib.hid hbad
  have HOk := Lib.hid hok
  have HRP := Lib.hid hrp
  have HRE := Lib.hid hre
  have HOE := Lib.hid hoe
  clear hcut hours hright hat0 hb0 hbad hok hrp hre hoe
  go_enter Try.func6, Try.ntmps6
  go_wp2_with fail
  refine HC.out.mono ?_
  rintro x w1 ⟨rfl, hb1⟩
  have hat1 := at_below HA.out hb1
  have hb1' := chain HB.out hb1
  obtain ⟨f0, f1, f2, f3⟩ := frozen4 hat1
  obtain ⟨c0, c1, c2, c3⟩ := cells4 hat1
  clear hb1 HC HA HB
  go_wp2_with fail
  obtain ⟨hat2, hG2⟩ := put4 hat1 (.string fk) (.string fv) (.int .i64 fr) (.bool fg)
  have hb2 := chainG hb1' hG2 (Nat.le_refl _)
  generalize World.setCell _ ⟨w.heap.size, 3, none⟩ (Value.bool fg) = w2 at *
  clear f0 f1 f2 f3 c0 c1 c2 c3 hG2 hat1 hb1'
  refine (HO.out _).mono ?_
  rintro x w3 ⟨rfl, hb3⟩
  have hat3 := at_below hat2 hb3
  have hb3' := chain hb2 hb3
  clear hat2 hb2 hb3
  by_cases hri : Eff.right ⟨fk, fv, fr, fg⟩
  · have hR1 := HR.out
    rw [decide_eq_true hri] at hR1
    have HR1 := Lib.hid hR1
    have HOk1 := Lib.hid (fun w => HOk.out w hri)
    have HRP1 := Lib.hid (fun w => HRP.out w hri)
    have HRE1 := Lib.hid (HRE.out hri)
    have HOE1 := Lib.hid (HOE.out hri)
    clear hri hR1 HR HOk HRP HRE HOE HBad
    go_wp2_with fail
    refine (HOk1.out _).mono ?_
    rintro x w4 ⟨A4, q4, rfl, hown4, hb4⟩
    have hat4 := at_below hat3 hb4
    have hb4' := chain hb3' hb4
    obtain ⟨c0, c1, c2, c3⟩ := cells4 hat4
    clear hat3 hb4 hb3' HOk1
    go_wp2_with fail
    refine (HR1.out _).mono ?_
    rintro x w5 ⟨rfl, hb5⟩
    have hat5 := at_below hat4 hb5
    have hb5' := chain hb4' hb5
    have hown5 := hown4.below hb5
    clear hat4 hb4' hb5 HR1 hown4 c0 c1 c2 c3
    go_wp2_with fail
    have hrd := eread_ok A4 _ q4 L w5 hown5.rd (by omega) HOE1.out
    rw [HRE1.out] at hrd
    unfold Eff.val Eff.cells at hrd
    simp only at hrd
    have HRD := Lib.hid hrd
    clear hrd HOE1 HRE1
    refine HRD.out.mono ?_
    rintro x w6 ⟨rfl, hb6⟩
    have hat6 := at_below hat5 hb6
    have hb6' := chain hb5' hb6
    have hown6 := hown5.below hb6
    clear hat5 hb5' hb6 HRD hown5
    go_wp2_with fail
    have hat6' := at_below hat6 ((Below.refl _ _).alloc (Nat.le_refl _) (.cells #[.string fk, .string fv, .int .i64 fr, .bool fg] 60))
    have hat7 := heap_alloc_new w6 (.cells #[.string fk, .string fv, .int .i64 fr, .bool fg] 60)
    have hb7 := hb6'.alloc hb6'.size (.cells #[.string fk, .string fv, .int .i64 fr, .bool fg] 60)
    have hown7 := hown6.alloc (.cells #[.string fk, .string fv, .int .i64 fr, .bool fg] 60)
    generalize hg5 : w6.heap.size = g5 at *
    generalize World.alloc _ _ = w7 at *
    have k0 : ∀ w', Below w7.heap.size w7 w' → _ := fun w' hb => (cells4 (at_below hat6' hb)).1
    have k1 : ∀ w', Below w7.heap.size w7 w' → _ := fun w' hb => (cells4 (at_below hat6' hb)).2.1
    have k2 : ∀ w', Below w7.heap.size w7 w' → _ := fun w' hb => (cells4 (at_below hat6' hb)).2.2.1
    have k3 : ∀ w', Below w7.heap.size w7 w' → _ := fun w' hb => (cells4 (at_below hat6' hb)).2.2.2
    have m0 : ∀ w', Below w7.heap.size w7 w' → _ := fun w' hb => (cells4 (at_below hat7 hb)).1
    have m1 : ∀ w', Below w7.heap.size w7 w' → _ := fun w' hb => (cells4 (at_below hat7 hb)).2.1
    have m2 : ∀ w', Below w7.heap.size w7 w' → _ := fun w' hb => (cells4 (at_below hat7 hb)).2.2.1
    have m3 : ∀ w', Below w7.heap.size w7 w' → _ := fun w' hb => (cells4 (at_below hat7 hb)).2.2.2
    have kv : ∀ w', Below w7.heap.size w7 w' → _ := fun w' hb => conv_str (hown7.rd.below hb)
    clear hat6 hb6' hown6 hg5 hat6' hat7 hown7 hlen
    go_wp2_with fail
    refine region_begin (fun w' => Below w7.heap.size w7 w') (by kernel_rfl) (Below.drew (Below.refl _ _)) (fun hHeld => ?_)
    refine wpAnyH_take (i := 0) (v := ?_) rfl (by kernel_rfl) (by kernel_rfl) (by kernel_rfl) (fun _ _ _ h => h) (Or.inl ⟨by kernel_rfl, ?_⟩) (by assumption) ?_
    rotate_left
    · (intro wS hwS; (try dsimp only at hwS); go_simp; try (first | (with_reducible rfl) | rw [if_pos (by omega)] | rw [if_neg (by omega)]))
    try simp only [Act.put, List.getElem_toArray, List.getElem_cons_succ, List.getElem_cons_zero, List.setIfInBounds_toArray, List.set_cons_zero, List.set_cons_succ]
    refine wpAnyH_take (i := 1) (v := ?_) rfl (by kernel_rfl) (by kernel_rfl) (by kernel_rfl) (fun _ _ _ h => h) (Or.inl ⟨by kernel_rfl, ?_⟩) (by assumption) ?_
    rotate_left
    · (intro wS hwS; (try dsimp only at hwS); go_simp; try (first | (with_reducible rfl) | rw [if_pos (by omega)] | rw [if_neg (by omega)]))
    try simp only [Act.put, List.getElem_toArray, List.getElem_cons_succ, List.getElem_cons_zero, List.setIfInBounds_toArray, List.set_cons_zero, List.set_cons_succ]
    refine wpAnyH_take (i := 2) (v := ?_) rfl (by kernel_rfl) (by kernel_rfl) (by kernel_rfl) (fun _ _ _ h => h) (Or.inl ⟨by kernel_rfl, ?_⟩) (by assumption) ?_
    rotate_left
    · (intro wS hwS; (try dsimp only at hwS); go_simp; try (first | (with_reducible rfl) | rw [if_pos (by omega)] | rw [if_neg (by omega)]))
    try simp only [Act.put, List.getElem_toArray, List.getElem_cons_succ, List.getElem_cons_zero, List.setIfInBounds_toArray, List.set_cons_zero, List.set_cons_succ]
    refine wpAnyH_take (i := 3) (v := ?_) rfl (by kernel_rfl) (by kernel_rfl) (by kernel_rfl) (fun _ _ _ h => h) (Or.inl ⟨by kernel_rfl, ?_⟩) (by assumption) ?_
    rotate_left
    · (intro wS hwS; (try dsimp only at hwS); go_simp; try (first | (with_reducible rfl) | rw [if_pos (by omega)] | rw [if_neg (by omega)]))
    try simp only [Act.put, List.getElem_toArray, List.getElem_cons_succ, List.getElem_cons_zero, List.setIfInBounds_toArray, List.set_cons_zero, List.set_cons_succ]
    refine wpAnyH_take (i := 4) (v := ?_) rfl (by kernel_rfl) (by kernel_rfl) (by kernel_rfl) (fun _ _ _ h => h) (Or.inl ⟨by kernel_rfl, ?_⟩) (by assumption) ?_
    rotate_left
    · (intro wS hwS; (try dsimp only at hwS); go_simp; try (first | (with_reducible rfl) | rw [if_pos (by omega)] | rw [if_neg (by omega)]))
    try simp only [Act.put, List.getElem_toArray, List.getElem_cons_succ, List.getElem_cons_zero, List.setIfInBounds_toArray, List.set_cons_zero, List.set_cons_succ]
    refine wpAnyH_take (i := 5) (v := ?_) rfl (by kernel_rfl) (by kernel_rfl) (by kernel_rfl) (fun _ _ _ h => h) (Or.inl ⟨by kernel_rfl, ?_⟩) (by assumption) ?_
    rotate_left
    · (intro wS hwS; (try dsimp only at hwS); go_simp; try (first | (with_reducible rfl) | rw [if_pos (by omega)] | rw [if_neg (by omega)]))
    try simp only [Act.put, List.getElem_toArray, List.getElem_cons_succ, List.getElem_cons_zero, List.setIfInBounds_toArray, List.set_cons_zero, List.set_cons_succ]
    refine region_one 6 (by kernel_rfl) rfl (fun K hK => ?_)
    go_simp
    refine (HRP1.out _).mono ?_
    rintro x w8 ⟨rfl, hb8⟩
    have hc8 := chain hHeld hb8
    refine hK.out _ _ (fun w' => Below w7.heap.size w7 w') (hc8) (fun _ h => h) (fun hHeld => ?_)
    clear hK K
    try simp only [Act.put, List.getElem_toArray, List.getElem_cons_succ, List.getElem_cons_zero, List.setIfInBounds_toArray, List.set_cons_zero, List.set_cons_succ]
    refine wpAnyH_take (i := 7) (v := ?_) rfl (by kernel_rfl) (by kernel_rfl) (by kernel_rfl) (fun _ _ _ h => h) (Or.inl ⟨by kernel_rfl, ?_⟩) (by assumption) ?_
    rotate_left
    · (intro wS hwS; (try dsimp only at hwS); go_simp; try (first | (with_reducible rfl) | rw [if_pos (by omega)] | rw [if_neg (by omega)]))
    try simp only [Act.put, List.getElem_toArray, List.getElem_cons_succ, List.getElem_cons_zero, List.setIfInBounds_toArray, List.set_cons_zero, List.set_cons_succ]
    refine wpAnyH_take (i := 8) (v := ?_) rfl (by kernel_rfl) (by kernel_rfl) (by kernel_rfl) (fun _ _ _ h => h) (Or.inl ⟨by kernel_rfl, ?_⟩) (by assumption) ?_
    rotate_left
    · (intro wS hwS; (try dsimp only at hwS); go_simp; try (first | (with_reducible rfl) | rw [if_pos (by omega)] | rw [if_neg (by omega)]))
    try simp only [Act.put, List.getElem_toArray, List.getElem_cons_succ, List.getElem_cons_zero, List.setIfInBounds_toArray, List.set_cons_zero, List.set_cons_succ]
    refine wpAnyH_take (i := 9) (v := ?_) rfl (by kernel_rfl) (by kernel_rfl) (by kernel_rfl) (fun _ _ _ h => h) (Or.inl ⟨by kernel_rfl, ?_⟩) (by assumption) ?_
    rotate_left
    · (intro wS hwS; (try dsimp only at hwS); go_simp; try (first | (with_reducible rfl) | rw [if_pos (by omega)] | rw [if_neg (by omega)]))
    try simp only [Act.put, List.getElem_toArray, List.getElem_cons_succ, List.getElem_cons_zero, List.setIfInBounds_toArray, List.set_cons_zero, List.set_cons_succ]
    refine wpAnyH_take (i := 10) (v := ?_) rfl (by kernel_rfl) (by kernel_rfl) (by kernel_rfl) (fun _ _ _ h => h) (Or.inl ⟨by kernel_rfl, ?_⟩) (by assumption) ?_
    rotate_left
    · (intro wS hwS; (try dsimp only at hwS); go_simp; try (first | (with_reducible rfl) | rw [if_pos (by omega)] | rw [if_neg (by omega)]))
    try simp only [Act.put, List.getElem_toArray, List.getElem_cons_succ, List.getElem_cons_zero, List.setIfInBounds_toArray, List.set_cons_zero, List.set_cons_succ]
    refine wpAnyH_take (i := 11) (v := ?_) rfl (by kernel_rfl) (by kernel_rfl) (by kernel_rfl) (fun _ _ _ h => h) (Or.inl ⟨by kernel_rfl, ?_⟩) (by assumption) ?_
    rotate_left
    · (intro wS hwS; (try dsimp only at hwS); go_simp; try (first | (with_reducible rfl) | rw [if_pos (by omega)] | rw [if_neg (by omega)]))
    try simp only [Act.put, List.getElem_toArray, List.getElem_cons_succ, List.getElem_cons_zero, List.setIfInBounds_toArray, List.set_cons_zero, List.set_cons_succ]
    refine wpAnyH_take (i := 12) (v := ?_) rfl (by kernel_rfl) (by kernel_rfl) (by kernel_rfl) (fun _ _ _ h => h) (Or.inl ⟨by kernel_rfl, ?_⟩) (by assumption) ?_
    rotate_left
    · (intro wS hwS; (try dsimp only at hwS); go_simp; try (first | (with_reducible rfl) | rw [if_pos (by omega)] | rw [if_neg (by omega)]))
    try simp only [Act.put, List.getElem_toArray, List.getElem_cons_succ, List.getElem_cons_zero, List.setIfInBounds_toArray, List.set_cons_zero, List.set_cons_succ]
    refine wpAnyH_take (i := 13) (v := ?_) rfl (by kernel_rfl) (by kernel_rfl) (by kernel_rfl) (fun _ _ _ h => h) (Or.inl ⟨by kernel_rfl, ?_⟩) (by assumption) ?_
    rotate_left
    · (intro wS hwS; (try dsimp only at hwS); go_simp; try (first | (with_reducible rfl) | rw [if_pos (by omega)] | rw [if_neg (by omega)]))
    try simp only [Act.put, List.getElem_toArray, List.getElem_cons_succ, List.getElem_cons_zero, List.setIfInBounds_toArray, List.set_cons_zero, List.set_cons_succ]
    refine wpAnyH_take (i := 14) (v := ?_) rfl (by kernel_rfl) (by kernel_rfl) (by kernel_rfl) (fun _ _ _ h => h) (Or.inl ⟨by kernel_rfl, ?_⟩) (by assumption) ?_
    rotate_left
    · (intro wS hwS; (try dsimp only at hwS); go_simp; try (first | (with_reducible rfl) | rw [if_pos (by omega)] | rw [if_neg (by omega)]))
    try simp only [Act.put, List.getElem_toArray, List.getElem_cons_succ, List.getElem_cons_zero, List.setIfInBounds_toArray, List.set_cons_zero, List.set_cons_succ]
    refine wpAnyH_take (i := 15) (v := ?_) rfl (by kernel_rfl) (by kernel_rfl) (by kernel_rfl) (fun _ _ _ h => h) (Or.inl ⟨by kernel_rfl, ?_⟩) (by assumption) ?_
    rotate_left
    · (intro wS hwS; (try dsimp only at hwS); go_simp; try (first | (with_reducible rfl) | rw [if_pos (by omega)] | rw [if_neg (by omega)]))
    try simp only [Act.put, List.getElem_toArray, List.getElem_cons_succ, List.getElem_cons_zero, List.setIfInBounds_toArray, List.set_cons_zero, List.set_cons_succ]
    refine region_one 16 (by kernel_rfl) rfl (fun K hK => ?_)
    go_simp
    refine (HO.out _).mono ?_
    rintro x w9 ⟨rfl, hb9⟩
    have hc9 := chain hHeld hb9
    refine hK.out _ _ (fun w' => Below w7.heap.size w7 w') (hc9) (fun _ h => h) (fun hHeld => ?_)
    clear hK K
    try simp only [Act.put, List.getElem_toArray, List.getElem_cons_succ, List.getElem_cons_zero, List.setIfInBounds_toArray, List.set_cons_zero, List.set_cons_succ]
    refine wpAnyH_take (i := 17) (v := ?_) rfl (by kernel_rfl) (by kernel_rfl) (by kernel_rfl) (fun _ _ _ h => h) (Or.inl ⟨by kernel_rfl, ?_⟩) (by assumption) ?_
    rotate_left
    · (intro wS hwS; (try dsimp only at hwS); go_simp; try (first | (with_reducible rfl) | rw [if_pos (by omega)] | rw [if_neg (by omega)]))
    try simp only [Act.put, List.getElem_toArray, List.getElem_cons_succ, List.getElem_cons_zero, List.setIfInBounds_toArray, List.set_cons_zero, List.set_cons_succ]
    refine wpAnyH_take (i := 18) (v := ?_) rfl (by kernel_rfl) (by kernel_rfl) (by kernel_rfl) (fun _ _ _ h => h) (Or.inl ⟨by kernel_rfl, ?_⟩) (by assumption) ?_
    rotate_left
    · (intro wS hwS; (try dsimp only at hwS); go_simp; try (first | (with_reducible rfl) | rw [if_pos (by omega)] | rw [if_neg (by omega)]))
    try simp only [Act.put, List.getElem_toArray, List.getElem_cons_succ, List.getElem_cons_zero, List.setIfInBounds_toArray, List.set_cons_zero, List.set_cons_succ]
    refine wpAnyH_take (i := 19) (v := ?_) rfl (by kernel_rfl) (by kernel_rfl) (by kernel_rfl) (fun _ _ _ h => h) (Or.inl ⟨by kernel_rfl, ?_⟩) (by assumption) ?_
    rotate_left
    · (intro wS hwS; (try dsimp only at hwS); go_simp; try (first | (with_reducible rfl) | rw [if_pos (by omega)] | rw [if_neg (by omega)]))
    try simp only [Act.put, List.getElem_toArray, List.getElem_cons_succ, List.getElem_cons_zero, List.setIfInBounds_toArray, List.set_cons_zero, List.set_cons_succ]
    refine region_one 20 (by kernel_rfl) rfl (fun K hK => ?_)
    go_simp
    refine (awake10 _).mono ?_
    rintro x w10 ⟨rfl, hb10⟩
    have hc10 := chain hHeld hb10
    refine hK.out _ _ (fun w' => Below w7.heap.size w7 w') (hc10) (fun _ h => h) (fun hHeld => ?_)
    clear hK K
    try simp only [Act.put, List.getElem_toArray, List.getElem_cons_succ, List.getElem_cons_zero, List.setIfInBounds_toArray, List.set_cons_zero, List.set_cons_succ]
    refine wpAnyH_take (i := 21) (v := ?_) rfl (by kernel_rfl) (by kernel_rfl) (by kernel_rfl) (fun _ _ _ h => h) (Or.inl ⟨by kernel_rfl, ?_⟩) (by assumption) ?_
    rotate_left
    · (intro wS hwS; (try dsimp only at hwS); go_simp; try (first | (with_reducible rfl) | rw [if_pos (by omega)] | rw [if_neg (by omega)]))
    try simp only [Act.put, List.getElem_toArray, List.getElem_cons_succ, List.getElem_cons_zero, List.setIfInBounds_toArray, List.set_cons_zero, List.set_cons_succ]
    refine wpAnyH_take (i := 22) (v := ?_) rfl (by kernel_rfl) (by kernel_rfl) (by kernel_rfl) (fun _ _ _ h => h) (Or.inl ⟨by kernel_rfl, ?_⟩) (by assumption) ?_
    rotate_left
    · (intro wS hwS; (try dsimp only at hwS); go_simp; try (first | (with_reducible rfl) | rw [if_pos (by omega)] | rw [if_neg (by omega)]))
    try simp only [Act.put, List.getElem_toArray, List.getElem_cons_succ, List.getElem_cons_zero, List.setIfInBounds_toArray, List.set_cons_zero, List.set_cons_succ]
    refine wpAnyH_done (by kernel_rfl) ?_ _
    have hbz := chain hb7 hHeld
    clear k0 k1 k2 k3 m0 m1 m2 m3 kv hHeld hc8 hc9 hc10 HO HRP1 hfr hfk hfv hb7 hb8 hb9 hb10
    go_wp2_with fail
    go_ret
    exact ⟨rfl, hbz⟩
  · have hR1 := HR.out
    rw [decide_eq_false hri] at hR1
    have HR1 := Lib.hid hR1
    have HB1 := Lib.hid (fun w => HBad.out w hri)
    clear hri hR1 HR HOk HRP HRE HOE HBad HO
    go_wp2_with fail
    refine (HB1.out _).mono ?_
    rintro x w4 ⟨rfl, hb4⟩
    obtain ⟨c0, c1, c2, c3⟩ := cells4 (at_below hat3 hb4)
    have hb4' := chain hb3' hb4
    clear hat3 hb4 hb3' HB1
    go_wp2_with fail
    refine (HR1.out _).mono ?_
    rintro x w5 ⟨rfl, hb5⟩
    have hb5' := chain hb4' hb5
    clear hb4' hb5 HR1 c0 c1 c2 c3
    go_wp2_with fail
    refine (awake10 _).mono ?_
    rintro x w6 ⟨rfl, hb6⟩
    have hb6' := chain hb5' hb6
    clear hb5' hb6
    go_wp2_with fail
    go_ret
    exact ⟨rfl, hb6'⟩
end Go.Proofs.Ytcpkaolfafeojaa
namespace Go.Proofs.Ytcpkaolfafeojaa
set_option linter.unusedVariables false
set_option linter.unusedSimpArgs false
open Go.RowKit
theorem RdB.take10 {w : World} {B n c : Nat} {A : Option Addr} {l : List UInt8} (h : RdB w B A n c l) (k : Nat) : RdB w B A (l.take k).length c (l.take k) := by
  have hl := h.length
  have hle := h.le
  have := RdB.take h (k := (l.take k).length) (c' := c) (by simp; omega) (by simp; omega) (Nat.le_refl _)
  rwa [List.length_take, show l.take (min k l.length) = l.take k from by rw [List.take_eq_take_iff]; omega, ← List.length_take] at this
theorem few10 (A : Option Addr) (n c : Nat) (B : Nat) (l : List UInt8) (w : World) (hr : RdB w B A n c l) :
    Calls Try.prog 36 #[.slice A n c] w fun e w' => e = .returned (.slice A (l.take 300).length c) ∧ w = w' := by
  obtain rfl : l.length = n := hr.length
  have hle := hr.le
  by_cases h : l.length ≤ 300
  · have e1 : (l.take 300).length = l.length := by simp; omega
    rw [e1]
    clear e1
    go_enter Try.func36, Try.ntmps36
    go_wp2
    go_ret
    exact ⟨rfl, rfl⟩
  · have e1 : (l.take 300).length = 300 := by simp; omega
    rw [e1]
    clear e1
    go_enter Try.func36, Try.ntmps36
    go_wp2
    go_ret
    exact ⟨rfl, rfl⟩
theorem rdE_size (b : List UInt8) : (rdE b).e.r < 9223372036854775808 := by
  unfold rdE
  simp only
  unfold sgn
  have := St.u_lt ((⟨b, false⟩ : St).u 1).2 8
  split <;> omega
set_option maxRecDepth 100000 in
set_option maxHeartbeats 4000000 in
theorem redoRead_walk {A : Option Addr} {n c : Nat} {l : List UInt8} (w : World) (hr : RdB w w.heap.size A n c l) :
    Calls Try.prog 7 #[.slice A n c] w fun e w' => e = .returned (.bool true) ∧ Below w.heap.size w w' := by
  have hr2 := hr.take10 300
  have hl2 : (l.take 300).length ≤ 300 := by simp; omega
  have hfew := few10 A n c _ l w hr
  generalize l.take 300 = b at *
  have HF := Lib.hid hfew
  clear hfew
  by_cases hok : okE b
  · have hrd := eread_ok A _ c b w hr2 (by omega) hok
    have hpo := put_okE b hok
    have hrt := hok.2.2
    have hsz := rdE_size b
    generalize rdE b = R at *
    obtain ⟨kd, ⟨fk, fv, fr, fg⟩, st⟩ := R
    simp only at hrd hpo hrt hsz
    have hright := rright_any ⟨fk, fv, fr, fg⟩
    have hrp := fun w => rput_any ⟨fk, fv, fr, fg⟩ w hrt hsz
    rw [hpo] at hrp
    rw [decide_eq_true hrt] at hright
    unfold Eff.val Eff.cells at *
    simp only at hrd hright hrp
    have HRD := Lib.hid hrd
    have HR := Lib.hid hright
    have HRP := Lib.hid hrp
    clear hrd hright hrp hpo hrt hsz hok
    go_enter Try.func7, Try.ntmps7
    go_wp2_with fail
    refine HF.out.mono ?_
    rintro e w1 ⟨rfl, rfl⟩
    go_wp2_with fail
    refine HRD.out.mono ?_
    rintro e w1 ⟨rfl, hb1⟩
    have hrb1 := (hr2.below hb1).more hb1.size
    clear HF HRD
    go_wp2_with fail
    have hb7 := (hb1.alloc hb1.size (.cells #[.string fk, .string fv, .int .i64 fr, .bool fg] 60)).alloc (by have := hb1.size; simp; omega) (.cells #[.string fk, .string fv, .int .i64 fr, .bool fg] 54)
    have hat7 := heap_alloc_new (w1.alloc (.cells #[.string fk, .string fv, .int .i64 fr, .bool fg] 60)) (.cells #[.string fk, .string fv, .int .i64 fr, .bool fg] 54)
    have hrb7 := (hr2.below hb7).more hb7.size
    simp only [show (w1.alloc (.cells #[.string fk, .string fv, .int .i64 fr, .bool fg] 60)).heap.size = w1.heap.size + 1 from by simp] at hat7
    generalize w1.heap.size + 1 = g5 at *
    generalize World.alloc (World.alloc _ _) _ = w7 at *
    have k0 : ∀ w', Below w7.heap.size w7 w' → _ := fun w' hb => (cells4 (at_below hat7 hb)).1
    have k1 : ∀ w', Below w7.heap.size w7 w' → _ := fun w' hb => (cells4 (at_below hat7 hb)).2.1
    have k2 : ∀ w', Below w7.heap.size w7 w' → _ := fun w' hb => (cells4 (at_below hat7 hb)).2.2.1
    have k3 : ∀ w', Below w7.heap.size w7 w' → _ := fun w' hb => (cells4 (at_below hat7 hb)).2.2.2
    have kv : ∀ w', Below w7.heap.size w7 w' → _ := fun w' hb => conv_str (hrb7.below hb)
    clear hat7 hrb7 hrb1
    go_wp2_with fail
    refine region_begin (fun w' => Below w7.heap.size w7 w') (by kernel_rfl) (Below.drew (Below.refl _ _)) (fun hHeld => ?_)
    refine wpAnyH_take (i := 0) (v := ?_) rfl (by kernel_rfl) (by kernel_rfl) (by kernel_rfl) (fun _ _ _ h => h) (Or.inl ⟨by kernel_rfl, ?_⟩) (by assumption) ?_
    rotate_left
    · (intro wS hwS; (try dsimp only at hwS); go_simp; try (first | (with_reducible rfl) | rw [if_pos (by omega)] | rw [if_neg (by omega)]))
    try simp only [Act.put, List.getElem_toArray, List.getElem_cons_succ, List.getElem_cons_zero, List.setIfInBounds_toArray, List.set_cons_zero, List.set_cons_succ]
    refine region_one 1 (by kernel_rfl) rfl (fun K hK => ?_)
    go_simp
    refine (HR.out _).mono ?_
    rintro x w8 ⟨rfl, hb8⟩
    have hc8 := chain hHeld hb8
    refine hK.out _ _ (fun w' => Below w7.heap.size w7 w') (hc8) (fun _ h => h) (fun hHeld => ?_)
    clear hK K
    try simp only [Act.put, List.getElem_toArray, List.getElem_cons_succ, List.getElem_cons_zero, List.setIfInBounds_toArray, List.set_cons_zero, List.set_cons_succ]
    refine wpAnyH_take (i := 2) (v := ?_) rfl (by kernel_rfl) (by kernel_rfl) (by kernel_rfl) (fun _ _ _ h => h) (Or.inl ⟨by kernel_rfl, ?_⟩) (by assumption) ?_
    rotate_left
    · (intro wS hwS; (try dsimp only at hwS); go_simp; try (first | (with_reducible rfl) | rw [if_pos (by omega)] | rw [if_neg (by omega)]))
    try simp only [Act.put, List.getElem_toArray, List.getElem_cons_succ, List.getElem_cons_zero, List.setIfInBounds_toArray, List.set_cons_zero, List.set_cons_succ]
    refine wpAnyH_take (i := 3) (v := ?_) rfl (by kernel_rfl) (by kernel_rfl) (by kernel_rfl) (fun _ _ _ h => h) (Or.inl ⟨by kernel_rfl, ?_⟩) (by assumption) ?_
    rotate_left
    · (intro wS hwS; (try dsimp only at hwS); go_simp; try (first | (with_reducible rfl) | rw [if_pos (by omega)] | rw [if_neg (by omega)]))
    try simp only [Act.put, List.getElem_toArray, List.getElem_cons_succ, List.getElem_cons_zero, List.setIfInBounds_toArray, List.set_cons_zero, List.set_cons_succ]
    refine wpAnyH_take (i := 5) (v := ?_) rfl (by kernel_rfl) (by kernel_rfl) (by kernel_rfl) (fun _ _ _ h => h) (Or.inl ⟨by kernel_rfl, ?_⟩) (by assumption) ?_
    rotate_left
    · (intro wS hwS; (try dsimp only at hwS); go_simp; try (first | (with_reducible rfl) | rw [if_pos (by omega)] | rw [if_neg (by omega)]))
    try simp only [Act.put, List.getElem_toArray, List.getElem_cons_succ, List.getElem_cons_zero, List.setIfInBounds_toArray, List.set_cons_zero, List.set_cons_succ]
    refine wpAnyH_take (i := 6) (v := ?_) rfl (by kernel_rfl) (by kernel_rfl) (by kernel_rfl) (fun _ _ _ h => h) (Or.inl ⟨by kernel_rfl, ?_⟩) (by assumption) ?_
    rotate_left
    · (intro wS hwS; (try dsimp only at hwS); go_simp; try (first | (with_reducible rfl) | rw [if_pos (by omega)] | rw [if_neg (by omega)]))
    try simp only [Act.put, List.getElem_toArray, List.getElem_cons_succ, List.getElem_cons_zero, List.setIfInBounds_toArray, List.set_cons_zero, List.set_cons_succ]
    refine region_one 4 (by kernel_rfl) rfl (fun K hK => ?_)
    go_simp
    refine (HRP.out _).mono ?_
    rintro x w9 ⟨rfl, hb9⟩
    have hc9 := chain hHeld hb9
    refine hK.out _ _ (fun w' => Below w7.heap.size w7 w') (hc9) (fun _ h => h) (fun hHeld => ?_)
    clear hK K
    try simp only [Act.put, List.getElem_toArray, List.getElem_cons_succ, List.getElem_cons_zero, List.setIfInBounds_toArray, List.set_cons_zero, List.set_cons_succ]
    refine wpAnyH_take (i := 7) (v := ?_) rfl (by kernel_rfl) (by kernel_rfl) (by kernel_rfl) (fun _ _ _ h => h) (Or.inl ⟨by kernel_rfl, ?_⟩) (by assumption) ?_
    rotate_left
    · (intro wS hwS; (try dsimp only at hwS); go_simp; try (first | (with_reducible rfl) | rw [if_pos (by omega)] | rw [if_neg (by omega)]))
    try simp only [Act.put, List.getElem_toArray, List.getElem_cons_succ, List.getElem_cons_zero, List.setIfInBounds_toArray, List.set_cons_zero, List.set_cons_succ]
    refine wpAnyH_take (i := 8) (v := ?_) rfl (by kernel_rfl) (by kernel_rfl) (by kernel_rfl) (fun _ _ _ h => h) (Or.inl ⟨by kernel_rfl, ?_⟩) (by assumption) ?_
    rotate_left
    · (intro wS hwS; (try dsimp only at hwS); go_simp; try (first | (with_reducible rfl) | rw [if_pos (by omega)] | rw [if_neg (by omega)]))
    try simp only [Act.put, List.getElem_toArray, List.getElem_cons_succ, List.getElem_cons_zero, List.setIfInBounds_toArray, List.set_cons_zero, List.set_cons_succ]
    refine wpAnyH_take (i := 9) (v := ?_) rfl (by kernel_rfl) (by kernel_rfl) (by kernel_rfl) (fun _ _ _ h => h) (Or.inl ⟨by kernel_rfl, ?_⟩) (by assumption) ?_
    rotate_left
    · (intro wS hwS; (try dsimp only at hwS); go_simp; try (first | (with_reducible rfl) | rw [if_pos (by omega)] | rw [if_neg (by omega)]))
    try simp only [Act.put, List.getElem_toArray, List.getElem_cons_succ, List.getElem_cons_zero, List.setIfInBounds_toArray, List.set_cons_zero, List.set_cons_succ]
    refine region_one 10 (by kernel_rfl) rfl (fun K hK => ?_)
    go_simp
    refine (awake10 _).mono ?_
    rintro x w10 ⟨rfl, hb10⟩
    have hc10 := chain hHeld hb10
    refine hK.out _ _ (fun w' => Below w7.heap.size w7 w') (hc10) (fun _ h => h) (fun hHeld => ?_)
    clear hK K
    try simp only [Act.put, List.getElem_toArray, List.getElem_cons_succ, List.getElem_cons_zero, List.setIfInBounds_toArray, List.set_cons_zero, List.set_cons_succ]
    refine wpAnyH_take (i := 11) (v := ?_) rfl (by kernel_rfl) (by kernel_rfl) (by kernel_rfl) (fun _ _ _ h => h) (Or.inl ⟨by kernel_rfl, ?_⟩) (by assumption) ?_
    rotate_left
    · (intro wS hwS; (try dsimp only at hwS); go_simp; try (first | (with_reducible rfl) | rw [if_pos (by omega)] | rw [if_neg (by omega)]))
    try simp only [Act.put, List.getElem_toArray, List.getElem_cons_succ, List.getElem_cons_zero, List.setIfInBounds_toArray, List.set_cons_zero, List.set_cons_succ]
    refine wpAnyH_take (i := 12) (v := ?_) rfl (by kernel_rfl) (by kernel_rfl) (by kernel_rfl) (fun _ _ _ h => h) (Or.inl ⟨by kernel_rfl, ?_⟩) (by assumption) ?_
    rotate_left
    · (intro wS hwS; (try dsimp only at hwS); go_simp; try (first | (with_reducible rfl) | rw [if_pos (by omega)] | rw [if_neg (by omega)]))
    try simp only [Act.put, List.getElem_toArray, List.getElem_cons_succ, List.getElem_cons_zero, List.setIfInBounds_toArray, List.set_cons_zero, List.set_cons_succ]
    refine wpAnyH_done (by kernel_rfl) ?_ _
    have hbz := chain hb7 hHeld
    clear k0 k1 k2 k3 kv hHeld hc8 hc9 hc10 HR HRP hb7 hb8 hb9 hb10
    go_wp2_with fail
    go_ret
    exact ⟨rfl, hbz⟩
  · have hrd := eread_bad A _ c b w hr2 (by omega) hok
    unfold Eff.val Eff.cells Eff.zero at hrd
    simp only at hrd
    have HRD := Lib.hid hrd
    clear hrd hok
    go_enter Try.func7, Try.ntmps7
    go_wp2_with fail
    refine HF.out.mono ?_
    rintro e w1 ⟨rfl, rfl⟩
    go_wp2_with fail
    refine HRD.out.mono ?_
    rintro e w1 ⟨rfl, hb1⟩
    have hb2 := hb1.alloc hb1.size (.cells #[.string ⟨#[]⟩, .string ⟨#[]⟩, .int .i64 0, .bool false] 60)
    go_wp2_with fail
    refine (awake10 _).mono ?_
    rintro x w6 ⟨rfl, hb6⟩
    have hb6' := chain hb2 hb6
    clear hb2 hb6 hb1
    go_wp2_with fail
    go_ret
    exact ⟨rfl, hb6'⟩
end Go.Proofs.Ytcpkaolfafeojaa
