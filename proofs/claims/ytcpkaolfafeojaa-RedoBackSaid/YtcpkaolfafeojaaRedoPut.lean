
/- Chapter 10: the reference's Put. -/
import Derived.Test.YtcpkaolfafeojaaRedoB
namespace Go.Proofs.Ytcpkaolfafeojaa
set_option linter.unusedVariables false
set_option linter.unusedSimpArgs false
open Go.RowKit
set_option maxRecDepth 100000 in
set_option maxHeartbeats 2000000 in
theorem rput_any (e : Eff) (w : World) (h : e.right) (hr : e.r < 9223372036854775808) :
    Calls Try.prog 35 #[e.val] w fun x w' => x = .returned (.string ⟨(effL e).toArray⟩) ∧ Below w.heap.size w w' := by
  have hb0 : Below w.heap.size w (w.alloc (.cells e.cells 54)) := (Below.refl _ _).alloc (Nat.le_refl _) _
  have hcell := heap_alloc_new w (.cells e.cells 54)
  obtain ⟨k, v, r, g⟩ := e
  obtain ⟨h1, h2, h3, h4, h5⟩ := h
  simp only at h1 h2 h3 h4 hr ⊢
  clear h5
  obtain ⟨m, rfl⟩ := Int.eq_ofNat_of_zero_le (show 0 ≤ r by omega)
  have hmm : IntKind.u64.wrap (m : Int) = (m : Int) := by show (m : Int) % 18446744073709551616 = (m : Int); omega
  unfold Eff.val Eff.cells at *
  unfold effL
  simp only [Int.toNat_natCast] at *
  have hat : ∀ w', Below (w.alloc (.cells #[.string k, .string v, .int .i64 (m : Int), .bool g] 54)).heap.size (w.alloc (.cells #[.string k, .string v, .int .i64 (m : Int), .bool g] 54)) w' → w'.heap[w.heap.size]? = some (.cells #[.string k, .string v, .int .i64 (m : Int), .bool g] 54) := fun w' hb => at_below hcell hb
  have hc0 : ∀ w', Below (w.alloc (.cells #[.string k, .string v, .int .i64 (m : Int), .bool g] 54)).heap.size (w.alloc (.cells #[.string k, .string v, .int .i64 (m : Int), .bool g] 54)) w' → w'.cell? ⟨w.heap.size, 0, none⟩ = some (.string k) := fun w' hb => (cells4 (hat w' hb)).1
  have hc1 : ∀ w', Below (w.alloc (.cells #[.string k, .string v, .int .i64 (m : Int), .bool g] 54)).heap.size (w.alloc (.cells #[.string k, .string v, .int .i64 (m : Int), .bool g] 54)) w' → w'.cell? ⟨w.heap.size, 1, none⟩ = some (.string v) := fun w' hb => (cells4 (hat w' hb)).2.1
  have hc2 : ∀ w', Below (w.alloc (.cells #[.string k, .string v, .int .i64 (m : Int), .bool g] 54)).heap.size (w.alloc (.cells #[.string k, .string v, .int .i64 (m : Int), .bool g] 54)) w' → w'.cell? ⟨w.heap.size, 2, none⟩ = some (.int .i64 (m : Int)) := fun w' hb => (cells4 (hat w' hb)).2.2.1
  have hc3 : (w.alloc (.cells #[.string k, .string v, .int .i64 (m : Int), .bool g] 54)).cell? ⟨w.heap.size, 3, none⟩ = some (.bool g) := (cells4 hcell).2.2.2
  clear hat hcell
  have hq := putN_length m 8
  have hlk := longL_length k
  have hlv := longL_length v
  have hP : ∀ w, _ := fun w => ref_put m 8 w (by omega) (by omega) (by omega)
  have hLK : ∀ w, _ := fun w => rlong_any k w (by omega)
  have hLV : ∀ w, _ := fun w => rlong_any v w (by omega)
  generalize putN m 8 = q at *
  generalize longL k = lk at *
  generalize longL v = lv at *
  have HP := Lib.hid hP
  have HLK := Lib.hid hLK
  have HLV := Lib.hid hLV
  clear hP hLK hLV
  cases g
  · have e1 : (⟨#[1]⟩ ++ ⟨q.toArray⟩ : ByteArray) = ⟨([1] ++ q).toArray⟩ := cat_str [1] q
    have e2 : (⟨([1] ++ q).toArray⟩ ++ ⟨lk.toArray⟩ : ByteArray) = ⟨([1] ++ q ++ lk).toArray⟩ := cat_str _ _
    have e3 : (⟨([1] ++ q ++ lk).toArray⟩ ++ ⟨lv.toArray⟩ : ByteArray) = ⟨([1] ++ q ++ lk ++ lv).toArray⟩ := cat_str _ _
    have s1 : ¬ 9223372036854775807 < 1 + q.length := by omega
    have s2 : ¬ 9223372036854775807 < ([1] ++ q).length + lk.length := by simp; omega
    have s3 : ¬ 9223372036854775807 < ([1] ++ q ++ lk).length + lv.length := by simp; omega
    have hjA : [1] ++ q ++ lk ++ lv = putN 1 1 ++ (q ++ (lk ++ lv)) := by simp [putN]
    generalize hj3 : [1] ++ q ++ lk ++ lv = j3 at *
    generalize hj2 : [1] ++ q ++ lk = j2 at *
    generalize hj1 : [1] ++ q = j1 at *
    have HJ := Lib.hid hjA
    clear hjA
    clear hj3 hj2 hj1
    go_enter Try.func35, Try.ntmps35
    go_wp2_with fail
    generalize w.alloc _ = w1 at *
    go_wp2_with fail
    refine region_begin (fun w' => Below w1.heap.size w1 w') (by kernel_rfl) (Below.drew (Below.refl _ _)) (fun hHeld => ?_)
    refine wpAnyH_take (i := 0) (v := ?_) rfl (by kernel_rfl) (by kernel_rfl) (by kernel_rfl) (fun _ _ _ h => h) (Or.inl ⟨by kernel_rfl, ?_⟩) (by assumption) ?_
    rotate_left
    · (intro wS hwS; (try dsimp only at hwS); go_simp; try (first | (with_reducible rfl) | rw [if_pos (by omega)] | rw [if_neg (by omega)]))
    try simp only [Act.put, List.getElem_toArray, List.getElem_cons_succ, List.getElem_cons_zero, List.setIfInBounds_toArray, List.set_cons_zero, List.set_cons_succ]
    refine wpAnyH_take (i := 1) (v := ?_) rfl (by kernel_rfl) (by kernel_rfl) (by kernel_rfl) (fun _ _ _ h => h) (Or.inl ⟨by kernel_rfl, ?_⟩) (by assumption) ?_
    rotate_left
    · (intro wS hwS; (try dsimp only at hwS); go_simp; try (first | (with_reducible rfl) | rw [if_pos (by omega)] | rw [if_neg (by omega)]))
    try simp only [Act.put, List.getElem_toArray, List.getElem_cons_succ, List.getElem_cons_zero, List.setIfInBounds_toArray, List.set_cons_zero, List.set_cons_succ]
    refine wpAnyH_take (i := 2) (v := ?_) rfl (by kernel_rfl) (by kernel_rfl) (by kernel_rfl) (fun _ _ _ h => h) (Or.inl ⟨by kernel_rfl, ?_⟩) (by assumption) ?_
    rotate_left
    · (intro wS hwS; (try dsimp only at hwS); go_simp; try (first | (with_reducible rfl) | rw [if_pos (by omega)] | rw [if_neg (by omega)]))
    try simp only [Act.put, List.getElem_toArray, List.getElem_cons_succ, List.getElem_cons_zero, List.setIfInBounds_toArray, List.set_cons_zero, List.set_cons_succ]
    refine wpAnyH_take (i := 3) (v := ?_) rfl (by kernel_rfl) (by kernel_rfl) (by kernel_rfl) (fun _ _ _ h => h) (Or.inl ⟨by kernel_rfl, ?_⟩) (by assumption) ?_
    rotate_left
    · (intro wS hwS; (try dsimp only at hwS); go_simp; try (first | (with_reducible rfl) | rw [if_pos (by omega)] | rw [if_neg (by omega)]))
    try simp only [Act.put, List.getElem_toArray, List.getElem_cons_succ, List.getElem_cons_zero, List.setIfInBounds_toArray, List.set_cons_zero, List.set_cons_succ]
    refine wpAnyH_take (i := 7) (v := ?_) rfl (by kernel_rfl) (by kernel_rfl) (by kernel_rfl) (fun _ _ _ h => h) (Or.inl ⟨by kernel_rfl, ?_⟩) (by assumption) ?_
    rotate_left
    · (intro wS hwS; (try dsimp only at hwS); go_simp; try (first | (with_reducible rfl) | rw [if_pos (by omega)] | rw [if_neg (by omega)]))
    try simp only [Act.put, List.getElem_toArray, List.getElem_cons_succ, List.getElem_cons_zero, List.setIfInBounds_toArray, List.set_cons_zero, List.set_cons_succ]
    refine wpAnyH_take (i := 8) (v := ?_) rfl (by kernel_rfl) (by kernel_rfl) (by kernel_rfl) (fun _ _ _ h => h) (Or.inl ⟨by kernel_rfl, ?_⟩) (by assumption) ?_
    rotate_left
    · (intro wS hwS; (try dsimp only at hwS); go_simp; try (first | (with_reducible rfl) | rw [if_pos (by omega)] | rw [if_neg (by omega)]))
    try simp only [Act.put, List.getElem_toArray, List.getElem_cons_succ, List.getElem_cons_zero, List.setIfInBounds_toArray, List.set_cons_zero, List.set_cons_succ]
    refine wpAnyH_take (i := 11) (v := ?_) rfl (by kernel_rfl) (by kernel_rfl) (by kernel_rfl) (fun _ _ _ h => h) (Or.inl ⟨by kernel_rfl, ?_⟩) (by assumption) ?_
    rotate_left
    · (intro wS hwS; (try dsimp only at hwS); go_simp; try (first | (with_reducible rfl) | rw [if_pos (by omega)] | rw [if_neg (by omega)]))
    try simp only [Act.put, List.getElem_toArray, List.getElem_cons_succ, List.getElem_cons_zero, List.setIfInBounds_toArray, List.set_cons_zero, List.set_cons_succ]
    refine wpAnyH_take (i := 12) (v := ?_) rfl (by kernel_rfl) (by kernel_rfl) (by kernel_rfl) (fun _ _ _ h => h) (Or.inl ⟨by kernel_rfl, ?_⟩) (by assumption) ?_
    rotate_left
    · (intro wS hwS; (try dsimp only at hwS); go_simp; try (first | (with_reducible rfl) | rw [if_pos (by omega)] | rw [if_neg (by omega)]))
    try simp only [Act.put, List.getElem_toArray, List.getElem_cons_succ, List.getElem_cons_zero, List.setIfInBounds_toArray, List.set_cons_zero, List.set_cons_succ]
    refine region_one 4 (by kernel_rfl) rfl (fun K hK => ?_)
    go_simp
    refine (HP.out _).mono ?_
    rintro x w2 ⟨A2, rfl, hown2, hb2⟩
    have hb12 := chain hHeld hb2
    refine hK.out _ _ (fun w' => Below w2.heap.size w2 w') (Below.refl _ _) (fun w' h => chain hb12 h) (fun hHeld => ?_)
    clear hK K
    try simp only [Act.put, List.getElem_toArray, List.getElem_cons_succ, List.getElem_cons_zero, List.setIfInBounds_toArray, List.set_cons_zero, List.set_cons_succ]
    have k2 : ∀ w', Below w2.heap.size w2 w' → _ := fun w' h => conv_str (hown2.rd.below h)
    refine wpAnyH_take (i := 5) (v := ?_) rfl (by kernel_rfl) (by kernel_rfl) (by kernel_rfl) (fun _ _ _ h => h) (Or.inl ⟨by kernel_rfl, ?_⟩) (by assumption) ?_
    rotate_left
    · (intro wS hwS; (try dsimp only at hwS); go_simp; try (first | (with_reducible rfl) | rw [if_pos (by omega)] | rw [if_neg (by omega)]))
    try simp only [Act.put, List.getElem_toArray, List.getElem_cons_succ, List.getElem_cons_zero, List.setIfInBounds_toArray, List.set_cons_zero, List.set_cons_succ]
    refine wpAnyH_take (i := 6) (v := ?_) rfl (by kernel_rfl) (by kernel_rfl) (by kernel_rfl) (fun _ _ _ h => h) (Or.inl ⟨by kernel_rfl, ?_⟩) (by assumption) ?_
    rotate_left
    · (intro wS hwS; (try dsimp only at hwS); go_simp; try (first | (with_reducible rfl) | rw [if_pos (by omega)] | rw [if_neg (by omega)]))
    try simp only [Act.put, List.getElem_toArray, List.getElem_cons_succ, List.getElem_cons_zero, List.setIfInBounds_toArray, List.set_cons_zero, List.set_cons_succ]
    clear k2
    refine region_one 9 (by kernel_rfl) rfl (fun K hK => ?_)
    go_simp
    refine (HLK.out _).mono ?_
    rintro x w3 ⟨rfl, hb3⟩
    have hc3 := chain hHeld hb3
    refine hK.out _ _ (fun w' => Below w2.heap.size w2 w') (hc3) (fun _ h => h) (fun hHeld => ?_)
    clear hK K
    try simp only [Act.put, List.getElem_toArray, List.getElem_cons_succ, List.getElem_cons_zero, List.setIfInBounds_toArray, List.set_cons_zero, List.set_cons_succ]
    refine wpAnyH_take (i := 10) (v := ?_) rfl (by kernel_rfl) (by kernel_rfl) (by kernel_rfl) (fun _ _ _ h => h) (Or.inl ⟨by kernel_rfl, ?_⟩) (by assumption) ?_
    rotate_left
    · (intro wS hwS; (try dsimp only at hwS); go_simp; try (first | (with_reducible rfl) | rw [if_pos (by omega)] | rw [if_neg (by omega)]))
    try simp only [Act.put, List.getElem_toArray, List.getElem_cons_succ, List.getElem_cons_zero, List.setIfInBounds_toArray, List.set_cons_zero, List.set_cons_succ]
    refine region_one 13 (by kernel_rfl) rfl (fun K hK => ?_)
    go_simp
    refine (HLV.out _).mono ?_
    rintro x w4 ⟨rfl, hb4⟩
    have hc4 := chain hHeld hb4
    refine hK.out _ _ (fun w' => Below w2.heap.size w2 w') (hc4) (fun _ h => h) (fun hHeld => ?_)
    clear hK K
    try simp only [Act.put, List.getElem_toArray, List.getElem_cons_succ, List.getElem_cons_zero, List.setIfInBounds_toArray, List.set_cons_zero, List.set_cons_succ]
    refine wpAnyH_take (i := 14) (v := ?_) rfl (by kernel_rfl) (by kernel_rfl) (by kernel_rfl) (fun _ _ _ h => h) (Or.inl ⟨by kernel_rfl, ?_⟩) (by assumption) ?_
    rotate_left
    · (intro wS hwS; (try dsimp only at hwS); go_simp; try (first | (with_reducible rfl) | rw [if_pos (by omega)] | rw [if_neg (by omega)]))
    try simp only [Act.put, List.getElem_toArray, List.getElem_cons_succ, List.getElem_cons_zero, List.setIfInBounds_toArray, List.set_cons_zero, List.set_cons_succ]
    refine wpAnyH_take (i := 15) (v := ?_) rfl (by kernel_rfl) (by kernel_rfl) (by kernel_rfl) (fun _ _ _ h => h) (Or.inl ⟨by kernel_rfl, ?_⟩) (by assumption) ?_
    rotate_left
    · (intro wS hwS; (try dsimp only at hwS); go_simp; try (first | (with_reducible rfl) | rw [if_pos (by omega)] | rw [if_neg (by omega)]))
    try simp only [Act.put, List.getElem_toArray, List.getElem_cons_succ, List.getElem_cons_zero, List.setIfInBounds_toArray, List.set_cons_zero, List.set_cons_succ]
    refine wpAnyH_done (by kernel_rfl) ?_ _
    clear hc0 hc1 hc2 hc3 e1 e2 e3 s1 s2 s3 HP HLK HLV hown2
    have hbz := chain (chain hb0 hb12) hHeld
    clear hHeld hc3 hc4 hb3 hb4 hb12 hb2 hb0
    clear hmm hq hlk hlv h1 h2 h3 hr h4
    have HB := Lib.hid hbz
    clear hbz
    go_wp2_with fail
    go_ret
    refine ⟨?_, HB.out⟩
    show Ending.returned (.string ⟨j3.toArray⟩) = _
    rw [HJ.out]
  · have e1 : (⟨#[2]⟩ ++ ⟨q.toArray⟩ : ByteArray) = ⟨([2] ++ q).toArray⟩ := cat_str [2] q
    have e2 : (⟨([2] ++ q).toArray⟩ ++ ⟨lk.toArray⟩ : ByteArray) = ⟨([2] ++ q ++ lk).toArray⟩ := cat_str _ _
    have e3 : (⟨([2] ++ q ++ lk).toArray⟩ ++ ⟨lv.toArray⟩ : ByteArray) = ⟨([2] ++ q ++ lk ++ lv).toArray⟩ := cat_str _ _
    have s1 : ¬ 9223372036854775807 < 1 + q.length := by omega
    have s2 : ¬ 9223372036854775807 < ([2] ++ q).length + lk.length := by simp; omega
    have s3 : ¬ 9223372036854775807 < ([2] ++ q ++ lk).length + lv.length := by simp; omega
    have hjA : [2] ++ q ++ lk ++ lv = putN 2 1 ++ (q ++ (lk ++ lv)) := by simp [putN]
    generalize hj3 : [2] ++ q ++ lk ++ lv = j3 at *
    generalize hj2 : [2] ++ q ++ lk = j2 at *
    generalize hj1 : [2] ++ q = j1 at *
    have HJ := Lib.hid hjA
    clear hjA
    clear hj3 hj2 hj1
    go_enter Try.func35, Try.ntmps35
    go_wp2_with fail
    generalize w.alloc _ = w1 at *
    go_wp2_with fail
    refine region_begin (fun w' => Below w1.heap.size w1 w') (by kernel_rfl) (Below.drew (Below.refl _ _)) (fun hHeld => ?_)
    refine wpAnyH_take (i := 0) (v := ?_) rfl (by kernel_rfl) (by kernel_rfl) (by kernel_rfl) (fun _ _ _ h => h) (Or.inl ⟨by kernel_rfl, ?_⟩) (by assumption) ?_
    rotate_left
    · (intro wS hwS; (try dsimp only at hwS); go_simp; try (first | (with_reducible rfl) | rw [if_pos (by omega)] | rw [if_neg (by omega)]))
    try simp only [Act.put, List.getElem_toArray, List.getElem_cons_succ, List.getElem_cons_zero, List.setIfInBounds_toArray, List.set_cons_zero, List.set_cons_succ]
    refine wpAnyH_take (i := 1) (v := ?_) rfl (by kernel_rfl) (by kernel_rfl) (by kernel_rfl) (fun _ _ _ h => h) (Or.inl ⟨by kernel_rfl, ?_⟩) (by assumption) ?_
    rotate_left
    · (intro wS hwS; (try dsimp only at hwS); go_simp; try (first | (with_reducible rfl) | rw [if_pos (by omega)] | rw [if_neg (by omega)]))
    try simp only [Act.put, List.getElem_toArray, List.getElem_cons_succ, List.getElem_cons_zero, List.setIfInBounds_toArray, List.set_cons_zero, List.set_cons_succ]
    refine wpAnyH_take (i := 2) (v := ?_) rfl (by kernel_rfl) (by kernel_rfl) (by kernel_rfl) (fun _ _ _ h => h) (Or.inl ⟨by kernel_rfl, ?_⟩) (by assumption) ?_
    rotate_left
    · (intro wS hwS; (try dsimp only at hwS); go_simp; try (first | (with_reducible rfl) | rw [if_pos (by omega)] | rw [if_neg (by omega)]))
    try simp only [Act.put, List.getElem_toArray, List.getElem_cons_succ, List.getElem_cons_zero, List.setIfInBounds_toArray, List.set_cons_zero, List.set_cons_succ]
    refine wpAnyH_take (i := 3) (v := ?_) rfl (by kernel_rfl) (by kernel_rfl) (by kernel_rfl) (fun _ _ _ h => h) (Or.inl ⟨by kernel_rfl, ?_⟩) (by assumption) ?_
    rotate_left
    · (intro wS hwS; (try dsimp only at hwS); go_simp; try (first | (with_reducible rfl) | rw [if_pos (by omega)] | rw [if_neg (by omega)]))
    try simp only [Act.put, List.getElem_toArray, List.getElem_cons_succ, List.getElem_cons_zero, List.setIfInBounds_toArray, List.set_cons_zero, List.set_cons_succ]
    refine wpAnyH_take (i := 7) (v := ?_) rfl (by kernel_rfl) (by kernel_rfl) (by kernel_rfl) (fun _ _ _ h => h) (Or.inl ⟨by kernel_rfl, ?_⟩) (by assumption) ?_
    rotate_left
    · (intro wS hwS; (try dsimp only at hwS); go_simp; try (first | (with_reducible rfl) | rw [if_pos (by omega)] | rw [if_neg (by omega)]))
    try simp only [Act.put, List.getElem_toArray, List.getElem_cons_succ, List.getElem_cons_zero, List.setIfInBounds_toArray, List.set_cons_zero, List.set_cons_succ]
    refine wpAnyH_take (i := 8) (v := ?_) rfl (by kernel_rfl) (by kernel_rfl) (by kernel_rfl) (fun _ _ _ h => h) (Or.inl ⟨by kernel_rfl, ?_⟩) (by assumption) ?_
    rotate_left
    · (intro wS hwS; (try dsimp only at hwS); go_simp; try (first | (with_reducible rfl) | rw [if_pos (by omega)] | rw [if_neg (by omega)]))
    try simp only [Act.put, List.getElem_toArray, List.getElem_cons_succ, List.getElem_cons_zero, List.setIfInBounds_toArray, List.set_cons_zero, List.set_cons_succ]
    refine wpAnyH_take (i := 11) (v := ?_) rfl (by kernel_rfl) (by kernel_rfl) (by kernel_rfl) (fun _ _ _ h => h) (Or.inl ⟨by kernel_rfl, ?_⟩) (by assumption) ?_
    rotate_left
    · (intro wS hwS; (try dsimp only at hwS); go_simp; try (first | (with_reducible rfl) | rw [if_pos (by omega)] | rw [if_neg (by omega)]))
    try simp only [Act.put, List.getElem_toArray, List.getElem_cons_succ, List.getElem_cons_zero, List.setIfInBounds_toArray, List.set_cons_zero, List.set_cons_succ]
    refine wpAnyH_take (i := 12) (v := ?_) rfl (by kernel_rfl) (by kernel_rfl) (by kernel_rfl) (fun _ _ _ h => h) (Or.inl ⟨by kernel_rfl, ?_⟩) (by assumption) ?_
    rotate_left
    · (intro wS hwS; (try dsimp only at hwS); go_simp; try (first | (with_reducible rfl) | rw [if_pos (by omega)] | rw [if_neg (by omega)]))
    try simp only [Act.put, List.getElem_toArray, List.getElem_cons_succ, List.getElem_cons_zero, List.setIfInBounds_toArray, List.set_cons_zero, List.set_cons_succ]
    refine region_one 4 (by kernel_rfl) rfl (fun K hK => ?_)
    go_simp
    refine (HP.out _).mono ?_
    rintro x w2 ⟨A2, rfl, hown2, hb2⟩
    have hb12 := chain hHeld hb2
    refine hK.out _ _ (fun w' => Below w2.heap.size w2 w') (Below.refl _ _) (fun w' h => chain hb12 h) (fun hHeld => ?_)
    clear hK K
    try simp only [Act.put, List.getElem_toArray, List.getElem_cons_succ, List.getElem_cons_zero, List.setIfInBounds_toArray, List.set_cons_zero, List.set_cons_succ]
    have k2 : ∀ w', Below w2.heap.size w2 w' → _ := fun w' h => conv_str (hown2.rd.below h)
    refine wpAnyH_take (i := 5) (v := ?_) rfl (by kernel_rfl) (by kernel_rfl) (by kernel_rfl) (fun _ _ _ h => h) (Or.inl ⟨by kernel_rfl, ?_⟩) (by assumption) ?_
    rotate_left
    · (intro wS hwS; (try dsimp only at hwS); go_simp; try (first | (with_reducible rfl) | rw [if_pos (by omega)] | rw [if_neg (by omega)]))
    try simp only [Act.put, List.getElem_toArray, List.getElem_cons_succ, List.getElem_cons_zero, List.setIfInBounds_toArray, List.set_cons_zero, List.set_cons_succ]
    refine wpAnyH_take (i := 6) (v := ?_) rfl (by kernel_rfl) (by kernel_rfl) (by kernel_rfl) (fun _ _ _ h => h) (Or.inl ⟨by kernel_rfl, ?_⟩) (by assumption) ?_
    rotate_left
    · (intro wS hwS; (try dsimp only at hwS); go_simp; try (first | (with_reducible rfl) | rw [if_pos (by omega)] | rw [if_neg (by omega)]))
    try simp only [Act.put, List.getElem_toArray, List.getElem_cons_succ, List.getElem_cons_zero, List.setIfInBounds_toArray, List.set_cons_zero, List.set_cons_succ]
    clear k2
    refine region_one 9 (by kernel_rfl) rfl (fun K hK => ?_)
    go_simp
    refine (HLK.out _).mono ?_
    rintro x w3 ⟨rfl, hb3⟩
    have hc3 := chain hHeld hb3
    refine hK.out _ _ (fun w' => Below w2.heap.size w2 w') (hc3) (fun _ h => h) (fun hHeld => ?_)
    clear hK K
    try simp only [Act.put, List.getElem_toArray, List.getElem_cons_succ, List.getElem_cons_zero, List.setIfInBounds_toArray, List.set_cons_zero, List.set_cons_succ]
    refine wpAnyH_take (i := 10) (v := ?_) rfl (by kernel_rfl) (by kernel_rfl) (by kernel_rfl) (fun _ _ _ h => h) (Or.inl ⟨by kernel_rfl, ?_⟩) (by assumption) ?_
    rotate_left
    · (intro wS hwS; (try dsimp only at hwS); go_simp; try (first | (with_reducible rfl) | rw [if_pos (by omega)] | rw [if_neg (by omega)]))
    try simp only [Act.put, List.getElem_toArray, List.getElem_cons_succ, List.getElem_cons_zero, List.setIfInBounds_toArray, List.set_cons_zero, List.set_cons_succ]
    refine region_one 13 (by kernel_rfl) rfl (fun K hK => ?_)
    go_simp
    refine (HLV.out _).mono ?_
    rintro x w4 ⟨rfl, hb4⟩
    have hc4 := chain hHeld hb4
    refine hK.out _ _ (fun w' => Below w2.heap.size w2 w') (hc4) (fun _ h => h) (fun hHeld => ?_)
    clear hK K
    try simp only [Act.put, List.getElem_toArray, List.getElem_cons_succ, List.getElem_cons_zero, List.setIfInBounds_toArray, List.set_cons_zero, List.set_cons_succ]
    refine wpAnyH_take (i := 14) (v := ?_) rfl (by kernel_rfl) (by kernel_rfl) (by kernel_rfl) (fun _ _ _ h => h) (Or.inl ⟨by kernel_rfl, ?_⟩) (by assumption) ?_
    rotate_left
    · (intro wS hwS; (try dsimp only at hwS); go_simp; try (first | (with_reducible rfl) | rw [if_pos (by omega)] | rw [if_neg (by omega)]))
    try simp only [Act.put, List.getElem_toArray, List.getElem_cons_succ, List.getElem_cons_zero, List.setIfInBounds_toArray, List.set_cons_zero, List.set_cons_succ]
    refine wpAnyH_take (i := 15) (v := ?_) rfl (by kernel_rfl) (by kernel_rfl) (by kernel_rfl) (fun _ _ _ h => h) (Or.inl ⟨by kernel_rfl, ?_⟩) (by assumption) ?_
    rotate_left
    · (intro wS hwS; (try dsimp only at hwS); go_simp; try (first | (with_reducible rfl) | rw [if_pos (by omega)] | rw [if_neg (by omega)]))
    try simp only [Act.put, List.getElem_toArray, List.getElem_cons_succ, List.getElem_cons_zero, List.setIfInBounds_toArray, List.set_cons_zero, List.set_cons_succ]
    refine wpAnyH_done (by kernel_rfl) ?_ _
    clear hc0 hc1 hc2 hc3 e1 e2 e3 s1 s2 s3 HP HLK HLV hown2
    have hbz := chain (chain hb0 hb12) hHeld
    clear hHeld hc3 hc4 hb3 hb4 hb12 hb2 hb0
    clear hmm hq hlk hlv h1 h2 h3 hr h4
    have HB := Lib.hid hbz
    clear hbz
    go_wp2_with fail
    go_ret
    refine ⟨?_, HB.out⟩
    show Ending.returned (.string ⟨j3.toArray⟩) = _
    rw [HJ.out]
end Go.Proofs.Ytcpkaolfafeojaa
