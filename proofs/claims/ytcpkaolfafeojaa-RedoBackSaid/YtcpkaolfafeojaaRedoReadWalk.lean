
/- Chapter 10: the walk of RedoRead. -/
import Derived.Test.YtcpkaolfafeojaaRedoPutWalk
namespace Go.Proofs.Ytcpkaolfafeojaa
set_option linter.unusedVariables false
set_option linter.unusedSimpArgs false
open Go.RowKit
theorem RdB.take10 {w : World} {B n c : Nat} {A : Option Addr} {l : List UInt8} (h : RdB w B A n c l) (k : Nat) : RdB w B A (l.take k).length c (l.take k) := by
  have hl := h.length
  have hle := h.le
  have := RdB.take h (k := (l.take k).length) (c' := c) (by simp; omega) (by simp; omega) (Nat.le_refl _)
  rwa [List.length_take, show l.take (min k l.length) = l.take k from by rw [List.take_eq_take_iff]; omega, ← List.length_take] at this
theorem few10 (A : Option Addr) (n c : Nat) (B : Nat) (l : List UInt8) (w : World) (hr : RdB w B A n c l) :
    Calls Try.prog 36 #[.slice A n c] w fun e w' => e = .returned (.slice A (l.take 300).length c) ∧ w = w' := by
  obtain rfl : l.length = n := hr.length
  have hle := hr.le
  by_cases h : l.length ≤ 300
  · have e1 : (l.take 300).length = l.length := by simp; omega
    rw [e1]
    clear e1
    go_enter Try.func36, Try.ntmps36
    go_wp2
    go_ret
    exact ⟨rfl, rfl⟩
  · have e1 : (l.take 300).length = 300 := by simp; omega
    rw [e1]
    clear e1
    go_enter Try.func36, Try.ntmps36
    go_wp2
    go_ret
    exact ⟨rfl, rfl⟩
theorem rdE_size (b : List UInt8) : (rdE b).e.r < 9223372036854775808 := by
  unfold rdE
  simp only
  unfold sgn
  have := St.u_lt ((⟨b, false⟩ : St).u 1).2 8
  split <;> omega
set_option maxRecDepth 100000 in
set_option maxHeartbeats 4000000 in
theorem redoRead_walk {A : Option Addr} {n c : Nat} {l : List UInt8} (w : World) (hr : RdB w w.heap.size A n c l) :
    Calls Try.prog 7 #[.slice A n c] w fun e w' => e = .returned (.bool true) ∧ Below w.heap.size w w' := by
  have hr2 := hr.take10 300
  have hl2 : (l.take 300).length ≤ 300 := by simp; omega
  have hfew := few10 A n c _ l w hr
  generalize l.take 300 = b at *
  have HF := Lib.hid hfew
  clear hfew
  by_cases hok : okE b
  · have hrd := eread_ok A _ c b w hr2 (by omega) hok
    have hpo := put_okE b hok
    have hrt := hok.2.2
    have hsz := rdE_size b
    generalize rdE b = R at *
    obtain ⟨kd, ⟨fk, fv, fr, fg⟩, st⟩ := R
    simp only at hrd hpo hrt hsz
    have hright := rright_any ⟨fk, fv, fr, fg⟩
    have hrp := fun w => rput_any ⟨fk, fv, fr, fg⟩ w hrt hsz
    rw [hpo] at hrp
    rw [decide_eq_true hrt] at hright
    unfold Eff.val Eff.cells at *
    simp only at hrd hright hrp
    have HRD := Lib.hid hrd
    have HR := Lib.hid hright
    have HRP := Lib.hid hrp
    clear hrd hright hrp hpo hrt hsz hok
    go_enter Try.func7, Try.ntmps7
    go_wp2_with fail
    refine HF.out.mono ?_
    rintro e w1 ⟨rfl, rfl⟩
    go_wp2_with fail
    refine HRD.out.mono ?_
    rintro e w1 ⟨rfl, hb1⟩
    have hrb1 := (hr2.below hb1).more hb1.size
    clear HF HRD
    go_wp2_with fail
    have hb7 := (hb1.alloc hb1.size (.cells #[.string fk, .string fv, .int .i64 fr, .bool fg] 60)).alloc (by have := hb1.size; simp; omega) (.cells #[.string fk, .string fv, .int .i64 fr, .bool fg] 54)
    have hat7 := heap_alloc_new (w1.alloc (.cells #[.string fk, .string fv, .int .i64 fr, .bool fg] 60)) (.cells #[.string fk, .string fv, .int .i64 fr, .bool fg] 54)
    have hrb7 := (hr2.below hb7).more hb7.size
    simp only [show (w1.alloc (.cells #[.string fk, .string fv, .int .i64 fr, .bool fg] 60)).heap.size = w1.heap.size + 1 from by simp] at hat7
    generalize w1.heap.size + 1 = g5 at *
    generalize World.alloc (World.alloc _ _) _ = w7 at *
    have k0 : ∀ w', Below w7.heap.size w7 w' → _ := fun w' hb => (cells4 (at_below hat7 hb)).1
    have k1 : ∀ w', Below w7.heap.size w7 w' → _ := fun w' hb => (cells4 (at_below hat7 hb)).2.1
    have k2 : ∀ w', Below w7.heap.size w7 w' → _ := fun w' hb => (cells4 (at_below hat7 hb)).2.2.1
    have k3 : ∀ w', Below w7.heap.size w7 w' → _ := fun w' hb => (cells4 (at_below hat7 hb)).2.2.2
    have kv : ∀ w', Below w7.heap.size w7 w' → _ := fun w' hb => conv_str (hrb7.below hb)
    clear hat7 hrb7 hrb1
    go_wp2_with fail
    refine region_begin (fun w' => Below w7.heap.size w7 w') (by kernel_rfl) (Below.drew (Below.refl _ _)) (fun hHeld => ?_)
    refine wpAnyH_take (i := 0) (v := ?_) rfl (by kernel_rfl) (by kernel_rfl) (by kernel_rfl) (fun _ _ _ h => h) (Or.inl ⟨by kernel_rfl, ?_⟩) (by assumption) ?_
    rotate_left
    · (intro wS hwS; (try dsimp only at hwS); go_simp; try (first | (with_reducible rfl) | rw [if_pos (by omega)] | rw [if_neg (by omega)]))
    try simp only [Act.put, List.getElem_toArray, List.getElem_cons_succ, List.getElem_cons_zero, List.setIfInBounds_toArray, List.set_cons_zero, List.set_cons_succ]
    refine region_one 1 (by kernel_rfl) rfl (fun K hK => ?_)
    go_simp
    refine (HR.out _).mono ?_
    rintro x w8 ⟨rfl, hb8⟩
    have hc8 := chain hHeld hb8
    refine hK.out _ _ (fun w' => Below w7.heap.size w7 w') (hc8) (fun _ h => h) (fun hHeld => ?_)
    clear hK K
    try simp only [Act.put, List.getElem_toArray, List.getElem_cons_succ, List.getElem_cons_zero, List.setIfInBounds_toArray, List.set_cons_zero, List.set_cons_succ]
    refine wpAnyH_take (i := 2) (v := ?_) rfl (by kernel_rfl) (by kernel_rfl) (by kernel_rfl) (fun _ _ _ h => h) (Or.inl ⟨by kernel_rfl, ?_⟩) (by assumption) ?_
    rotate_left
    · (intro wS hwS; (try dsimp only at hwS); go_simp; try (first | (with_reducible rfl) | rw [if_pos (by omega)] | rw [if_neg (by omega)]))
    try simp only [Act.put, List.getElem_toArray, List.getElem_cons_succ, List.getElem_cons_zero, List.setIfInBounds_toArray, List.set_cons_zero, List.set_cons_succ]
    refine wpAnyH_take (i := 3) (v := ?_) rfl (by kernel_rfl) (by kernel_rfl) (by kernel_rfl) (fun _ _ _ h => h) (Or.inl ⟨by kernel_rfl, ?_⟩) (by assumption) ?_
    rotate_left
    · (intro wS hwS; (try dsimp only at hwS); go_simp; try (first | (with_reducible rfl) | rw [if_pos (by omega)] | rw [if_neg (by omega)]))
    try simp only [Act.put, List.getElem_toArray, List.getElem_cons_succ, List.getElem_cons_zero, List.setIfInBounds_toArray, List.set_cons_zero, List.set_cons_succ]
    refine wpAnyH_take (i := 5) (v := ?_) rfl (by kernel_rfl) (by kernel_rfl) (by kernel_rfl) (fun _ _ _ h => h) (Or.inl ⟨by kernel_rfl, ?_⟩) (by assumption) ?_
    rotate_left
    · (intro wS hwS; (try dsimp only at hwS); go_simp; try (first | (with_reducible rfl) | rw [if_pos (by omega)] | rw [if_neg (by omega)]))
    try simp only [Act.put, List.getElem_toArray, List.getElem_cons_succ, List.getElem_cons_zero, List.setIfInBounds_toArray, List.set_cons_zero, List.set_cons_succ]
    refine wpAnyH_take (i := 6) (v := ?_) rfl (by kernel_rfl) (by kernel_rfl) (by kernel_rfl) (fun _ _ _ h => h) (Or.inl ⟨by kernel_rfl, ?_⟩) (by assumption) ?_
    rotate_left
    · (intro wS hwS; (try dsimp only at hwS); go_simp; try (first | (with_reducible rfl) | rw [if_pos (by omega)] | rw [if_neg (by omega)]))
    try simp only [Act.put, List.getElem_toArray, List.getElem_cons_succ, List.getElem_cons_zero, List.setIfInBounds_toArray, List.set_cons_zero, List.set_cons_succ]
    refine region_one 4 (by kernel_rfl) rfl (fun K hK => ?_)
    go_simp
    refine (HRP.out _).mono ?_
    rintro x w9 ⟨rfl, hb9⟩
    have hc9 := chain hHeld hb9
    refine hK.out _ _ (fun w' => Below w7.heap.size w7 w') (hc9) (fun _ h => h) (fun hHeld => ?_)
    clear hK K
    try simp only [Act.put, List.getElem_toArray, List.getElem_cons_succ, List.getElem_cons_zero, List.setIfInBounds_toArray, List.set_cons_zero, List.set_cons_succ]
    refine wpAnyH_take (i := 7) (v := ?_) rfl (by kernel_rfl) (by kernel_rfl) (by kernel_rfl) (fun _ _ _ h => h) (Or.inl ⟨by kernel_rfl, ?_⟩) (by assumption) ?_
    rotate_left
    · (intro wS hwS; (try dsimp only at hwS); go_simp; try (first | (with_reducible rfl) | rw [if_pos (by omega)] | rw [if_neg (by omega)]))
    try simp only [Act.put, List.getElem_toArray, List.getElem_cons_succ, List.getElem_cons_zero, List.setIfInBounds_toArray, List.set_cons_zero, List.set_cons_succ]
    refine wpAnyH_take (i := 8) (v := ?_) rfl (by kernel_rfl) (by kernel_rfl) (by kernel_rfl) (fun _ _ _ h => h) (Or.inl ⟨by kernel_rfl, ?_⟩) (by assumption) ?_
    rotate_left
    · (intro wS hwS; (try dsimp only at hwS); go_simp; try (first | (with_reducible rfl) | rw [if_pos (by omega)] | rw [if_neg (by omega)]))
    try simp only [Act.put, List.getElem_toArray, List.getElem_cons_succ, List.getElem_cons_zero, List.setIfInBounds_toArray, List.set_cons_zero, List.set_cons_succ]
    refine wpAnyH_take (i := 9) (v := ?_) rfl (by kernel_rfl) (by kernel_rfl) (by kernel_rfl) (fun _ _ _ h => h) (Or.inl ⟨by kernel_rfl, ?_⟩) (by assumption) ?_
    rotate_left
    · (intro wS hwS; (try dsimp only at hwS); go_simp; try (first | (with_reducible rfl) | rw [if_pos (by omega)] | rw [if_neg (by omega)]))
    try simp only [Act.put, List.getElem_toArray, List.getElem_cons_succ, List.getElem_cons_zero, List.setIfInBounds_toArray, List.set_cons_zero, List.set_cons_succ]
    refine region_one 10 (by kernel_rfl) rfl (fun K hK => ?_)
    go_simp
    refine (awake10 _).mono ?_
    rintro x w10 ⟨rfl, hb10⟩
    have hc10 := chain hHeld hb10
    refine hK.out _ _ (fun w' => Below w7.heap.size w7 w') (hc10) (fun _ h => h) (fun hHeld => ?_)
    clear hK K
    try simp only [Act.put, List.getElem_toArray, List.getElem_cons_succ, List.getElem_cons_zero, List.setIfInBounds_toArray, List.set_cons_zero, List.set_cons_succ]
    refine wpAnyH_take (i := 11) (v := ?_) rfl (by kernel_rfl) (by kernel_rfl) (by kernel_rfl) (fun _ _ _ h => h) (Or.inl ⟨by kernel_rfl, ?_⟩) (by assumption) ?_
    rotate_left
    · (intro wS hwS; (try dsimp only at hwS); go_simp; try (first | (with_reducible rfl) | rw [if_pos (by omega)] | rw [if_neg (by omega)]))
    try simp only [Act.put, List.getElem_toArray, List.getElem_cons_succ, List.getElem_cons_zero, List.setIfInBounds_toArray, List.set_cons_zero, List.set_cons_succ]
    refine wpAnyH_take (i := 12) (v := ?_) rfl (by kernel_rfl) (by kernel_rfl) (by kernel_rfl) (fun _ _ _ h => h) (Or.inl ⟨by kernel_rfl, ?_⟩) (by assumption) ?_
    rotate_left
    · (intro wS hwS; (try dsimp only at hwS); go_simp; try (first | (with_reducible rfl) | rw [if_pos (by omega)] | rw [if_neg (by omega)]))
    try simp only [Act.put, List.getElem_toArray, List.getElem_cons_succ, List.getElem_cons_zero, List.setIfInBounds_toArray, List.set_cons_zero, List.set_cons_succ]
    refine wpAnyH_done (by kernel_rfl) ?_ _
    have hbz := chain hb7 hHeld
    clear k0 k1 k2 k3 kv hHeld hc8 hc9 hc10 HR HRP hb7 hb8 hb9 hb10
    go_wp2_with fail
    go_ret
    exact ⟨rfl, hbz⟩
  · have hrd := eread_bad A _ c b w hr2 (by omega) hok
    unfold Eff.val Eff.cells Eff.zero at hrd
    simp only at hrd
    have HRD := Lib.hid hrd
    clear hrd hok
    go_enter Try.func7, Try.ntmps7
    go_wp2_with fail
    refine HF.out.mono ?_
    rintro e w1 ⟨rfl, rfl⟩
    go_wp2_with fail
    refine HRD.out.mono ?_
    rintro e w1 ⟨rfl, hb1⟩
    have hb2 := hb1.alloc hb1.size (.cells #[.string ⟨#[]⟩, .string ⟨#[]⟩, .int .i64 0, .bool false] 60)
    go_wp2_with fail
    refine (awake10 _).mono ?_
    rintro x w6 ⟨rfl, hb6⟩
    have hb6' := chain hb2 hb6
    clear hb2 hb6 hb1
    go_wp2_with fail
    go_ret
    exact ⟨rfl, hb6'⟩
end Go.Proofs.Ytcpkaolfafeojaa
