
/- Chapter 6: Sync, Remove, Cut, Rename. -/
import Derived.Test.YtmoijbknjadeeaaDkApp
namespace Go.Proofs.Ytmoijbknjadeeaa
set_option linter.unusedVariables false
set_option linter.unusedSimpArgs false
open Go.RowKit
section
variable {g b N : Nat} {l : List Fi} {lost armed : Bool} {left : Int}
theorem wr_cases (lost armed : Bool) (left : Int) : (wrP lost armed left).code = 0 ∨ (wrP lost armed left).code = 12 := by
  unfold wrP
  cases lost
  · cases armed
    · exact .inl rfl
    · by_cases h0 : left = 0
      · exact .inr (by simp [h0])
      · exact .inl (by simp [h0])
  · exact .inr rfl
/-- a write to a file that is there -/
def GoR (w w' : World) (g b N : Nat) (l : List Fi) (armed : Bool) (q : Wr) (NL : List Fi → Prop) (x : Ending) : Prop :=
  x = .returned (.int .i64 q.code) ∧ Mod (fun i _ => i = g ∨ i = b) w w' ∧
  (q.code ≠ 0 → IsDk w' g b N l q.lost armed q.left) ∧
  (q.code = 0 → ∃ l', NL l' ∧ IsDk w' g b (N + 1) l' q.lost armed q.left)
theorem sync_no (k : ByteArray) (hkm : k.size ≤ maxLen) (w : World) (h : IsDk w g b N l lost armed left) (hf : (findF l k).isSome = false) :
    Calls Try.prog 18 #[.pointer (some ⟨g, 0, none⟩), .string k] w fun x w' => x = .returned (.int .i64 6) ∧ IsDk w' g b N l lost armed left ∧ Below w.heap.size w w' := by
  have HT := there_any k hkm w h
  rw [hf] at HT
  simp only [Bool.false_eq_true, if_false] at HT
  go_enter Try.func18, Try.ntmps18
  go_wp2_with (((with_reducible refine (HT).mono ?_); rintro z w1 ⟨rfl, hb1⟩))
  go_ret
  exact ⟨rfl, h.step hb1, hb1⟩
theorem remove_no (k : ByteArray) (hkm : k.size ≤ maxLen) (w : World) (h : IsDk w g b N l lost armed left) (hf : (findF l k).isSome = false) :
    Calls Try.prog 29 #[.pointer (some ⟨g, 0, none⟩), .string k] w fun x w' => x = .returned (.int .i64 6) ∧ IsDk w' g b N l lost armed left ∧ Below w.heap.size w w' := by
  have HT := there_any k hkm w h
  rw [hf] at HT
  simp only [Bool.false_eq_true, if_false] at HT
  go_enter Try.func29, Try.ntmps29
  go_wp2_with (((with_reducible refine (HT).mono ?_); rintro z w1 ⟨rfl, hb1⟩))
  go_ret
  exact ⟨rfl, h.step hb1, hb1⟩
theorem cut_no (k : ByteArray) (m : Int) (hkm : k.size ≤ maxLen) (w : World) (h : IsDk w g b N l lost armed left) (hf : (findF l k).isSome = false) :
    Calls Try.prog 30 #[.pointer (some ⟨g, 0, none⟩), .string k, .int .i64 m] w fun x w' => x = .returned (.int .i64 6) ∧ IsDk w' g b N l lost armed left ∧ Below w.heap.size w w' := by
  have HT := there_any k hkm w h
  rw [hf] at HT
  simp only [Bool.false_eq_true, if_false] at HT
  go_enter Try.func30, Try.ntmps30
  go_wp2_with (((with_reducible refine (HT).mono ?_); rintro z w1 ⟨rfl, hb1⟩))
  go_ret
  exact ⟨rfl, h.step hb1, hb1⟩
theorem rename_no (k to : ByteArray) (hkm : k.size ≤ maxLen) (w : World) (h : IsDk w g b N l lost armed left) (hf : (findF l k).isSome = false) :
    Calls Try.prog 28 #[.pointer (some ⟨g, 0, none⟩), .string k, .string to] w fun x w' => x = .returned (.int .i64 6) ∧ IsDk w' g b N l lost armed left ∧ Below w.heap.size w w' := by
  have HT := there_any k hkm w h
  rw [hf] at HT
  simp only [Bool.false_eq_true, if_false] at HT
  go_enter Try.func28, Try.ntmps28
  go_wp2_with (((with_reducible refine (HT).mono ?_); rintro z w1 ⟨rfl, hb1⟩))
  go_ret
  exact ⟨rfl, h.step hb1, hb1⟩
theorem sync_nil (k : ByteArray) (w : World) : Calls Try.prog 18 #[.pointer none, .string k] w fun x w' => x = .returned (.int .i64 2) ∧ w = w' := by
  have HT := there_nil k w
  go_enter Try.func18, Try.ntmps18
  go_wp2_with (((with_reducible refine (HT).mono ?_); rintro z v ⟨rfl, rfl⟩))
  go_ret
  exact ⟨rfl, rfl⟩
theorem remove_nil (k : ByteArray) (w : World) : Calls Try.prog 29 #[.pointer none, .string k] w fun x w' => x = .returned (.int .i64 2) ∧ w = w' := by
  have HT := there_nil k w
  go_enter Try.func29, Try.ntmps29
  go_wp2_with (((with_reducible refine (HT).mono ?_); rintro z v ⟨rfl, rfl⟩))
  go_ret
  exact ⟨rfl, rfl⟩
theorem cut_nil (k : ByteArray) (m : Int) (w : World) : Calls Try.prog 30 #[.pointer none, .string k, .int .i64 m] w fun x w' => x = .returned (.int .i64 2) ∧ w = w' := by
  have HT := there_nil k w
  go_enter Try.func30, Try.ntmps30
  go_wp2_with (((with_reducible refine (HT).mono ?_); rintro z v ⟨rfl, rfl⟩))
  go_ret
  exact ⟨rfl, rfl⟩
theorem rename_nil (k to : ByteArray) (w : World) : Calls Try.prog 28 #[.pointer none, .string k, .string to] w fun x w' => x = .returned (.int .i64 2) ∧ w = w' := by
  have HT := there_nil k w
  go_enter Try.func28, Try.ntmps28
  go_wp2_with (((with_reducible refine (HT).mono ?_); rintro z v ⟨rfl, rfl⟩))
  go_ret
  exact ⟨rfl, rfl⟩
set_option maxRecDepth 100000 in
set_option maxHeartbeats 2000000 in
theorem remove_go (k : ByteArray) (hkm : k.size ≤ maxLen) (w : World) (h : IsDk w g b N l lost armed left) (hf : (findF l k).isSome = true) :
    Calls Try.prog 29 #[.pointer (some ⟨g, 0, none⟩), .string k] w fun x w' => GoR w w' g b N l armed (wrP lost armed left) (fun l' => ∃ e : Fi, e.k = k ∧ l' = applyF e true l) x := by
  have HT := there_any k hkm w h
  rw [hf] at HT
  simp only [if_true] at HT
  have hwc := wr_cases lost armed left
  have hgt := h.get k
  have hgk := (h.find hf).2
  have HWF := fun v (h : IsDk v g b N l lost armed left) => write_any v h
  obtain ⟨q, hq⟩ : ∃ q, wrP lost armed left = q := ⟨_, rfl⟩
  rw [hq] at HWF hwc ⊢
  clear hq
  obtain ⟨code, now, lost', left'⟩ := q
  simp only at HWF hwc ⊢
  obtain ⟨f, hfe⟩ : ∃ f, getF l k = f := ⟨_, rfl⟩
  rw [hfe] at hgt hgk
  try rw [hfe]
  have HF := Lib.hid hfe
  clear hfe
  obtain ⟨fk, fb, fA, fn, fc, fs⟩ := f
  simp only at hgt hgk
  try simp only
  have hln := hgt.1.length
  have HGT := Lib.hid hgt
  have HW0 := Lib.hid HWF
  have H := Lib.hid h
  clear h hgt HWF
  rcases hwc with rfl | rfl
  ·
    go_enter Try.func29, Try.ntmps29
    go_upto_region 6 with (first | (((with_reducible refine (HT).mono ?_); rintro z w1 ⟨rfl, hb1⟩); (have HW := HW0.out w1 (H.out.step hb1))) | (((with_reducible refine (HW).mono ?_); rintro z w2 ⟨rfl, h2, hG2⟩)))
    have hm2 := ((Mod.refl (fun i _ => i = g ∨ i = b) w).below hb1).trans (grown_mod' (b := b) hG2)
    obtain ⟨⟨x0, x1, x2, x3⟩, xf⟩ := at4 h2.at_
    obtain ⟨w3, hrun, hd3, hG3⟩ := h2.drop ⟨fk, fb, fA, fn, fc, fs⟩ (by rw [hgk]; exact hkm) 0
    have hm3 := hm2.grown hG3 (fun i o _ _ e => .inr (Option.some.inj e).symm)
    rw [hgk] at hrun
    have HD := Lib.hid hd3
    have HM := Lib.hid hm3
    clear hd3 hm3 hm2 hG3 h2 HT
    go_wp2_with fail
    go_ret
    exact ⟨rfl, HM.out, fun e => absurd rfl e, fun _ => ⟨_, ⟨_, hgk, rfl⟩, HD.out.more (Nat.le_succ _)⟩⟩
  ·
    go_enter Try.func29, Try.ntmps29
    go_wp2_with (first | (((with_reducible refine (HT).mono ?_); rintro z w1 ⟨rfl, hb1⟩); (have HW := HW0.out w1 (H.out.step hb1))) | (((with_reducible refine (HW).mono ?_); rintro z w2 ⟨rfl, h2, hG2⟩)))
    have HM := Lib.hid (((Mod.refl (fun i _ => i = g ∨ i = b) w).below hb1).trans (grown_mod' (b := b) hG2))
    have HD := Lib.hid h2
    go_ret
    exact ⟨rfl, HM.out, fun _ => HD.out, fun e => absurd e (show ¬ (12 : Int) = 0 by decide)⟩
set_option maxRecDepth 100000 in
set_option maxHeartbeats 2000000 in
theorem sync_go (k : ByteArray) (hkm : k.size ≤ maxLen) (w : World) (h : IsDk w g b N l lost armed left) (hf : (findF l k).isSome = true) (hN : N < 1000000) :
    Calls Try.prog 18 #[.pointer (some ⟨g, 0, none⟩), .string k] w fun x w' => GoR w w' g b N l armed (wrP lost armed left) (fun l' => ∃ P n c, l' = applyF ⟨k, (getF l k).b, P, n, c, ((getF l k).b.length : Int)⟩ false l) x := by
  have HT := there_any k hkm w h
  rw [hf] at HT
  simp only [if_true] at HT
  have hwc := wr_cases lost armed left
  have hgt := h.get k
  have hgk := (h.find hf).2
  have HWF := fun v (h : IsDk v g b N l lost armed left) => write_any v h
  obtain ⟨q, hq⟩ : ∃ q, wrP lost armed left = q := ⟨_, rfl⟩
  rw [hq] at HWF hwc ⊢
  clear hq
  obtain ⟨code, now, lost', left'⟩ := q
  simp only at HWF hwc ⊢
  obtain ⟨f, hfe⟩ : ∃ f, getF l k = f := ⟨_, rfl⟩
  rw [hfe] at hgt hgk
  try rw [hfe]
  have HF := Lib.hid hfe
  clear hfe
  obtain ⟨fk, fb, fA, fn, fc, fs⟩ := f
  simp only at hgt hgk
  try simp only
  have hln := hgt.1.length
  have HGT := Lib.hid hgt
  have HW0 := Lib.hid HWF
  have H := Lib.hid h
  clear h hgt HWF
  rcases hwc with rfl | rfl
  rotate_left
  ·
    go_enter Try.func18, Try.ntmps18
    skip
    go_wp2_with (first | (((with_reducible refine (HT).mono ?_); rintro z w1 ⟨rfl, hb1⟩); (have HW := HW0.out w1 (H.out.step hb1))) | (((with_reducible refine (HW).mono ?_); rintro z w2 ⟨rfl, h2, hG2⟩)))
    have HM := Lib.hid (((Mod.refl (fun i _ => i = g ∨ i = b) w).below hb1).trans (grown_mod' (b := b) hG2))
    have HD := Lib.hid h2
    go_ret
    exact ⟨rfl, HM.out, fun _ => HD.out, fun e => absurd e (show ¬ (12 : Int) = 0 by decide)⟩
  ·
    go_enter Try.func18, Try.ntmps18
    go_upto_region 6 with (first | (((with_reducible refine (HT).mono ?_); rintro z w1 ⟨rfl, hb1⟩); (have HW := HW0.out w1 (H.out.step hb1))) | (((with_reducible refine (HW).mono ?_); rintro z w2 ⟨rfl, h2, hG2⟩)))
    have hm2 := ((Mod.refl (fun i _ => i = g ∨ i = b) w).below hb1).trans (grown_mod' (b := b) hG2)
    have hlk := h2.mp.look1 hkm
    have hfo := (h2.get k).1
    rw [HF.out] at hlk hfo
    unfold Fi.val Fi.addr at hlk
    unfold Fi.addr at hfo
    simp only at hlk hfo
    obtain ⟨fA', hfA⟩ : ∃ fA' : Option Addr, Option.map (fun p : Nat × Nat => (⟨p.1, p.2, none⟩ : Addr)) fA = fA' := ⟨_, rfl⟩
    rw [hfA] at hlk hfo
    have HFA := Lib.hid hfA
    obtain ⟨⟨x0, x1, x2, x3⟩, xf⟩ := at4 h2.at_
    clear HT hG2 hfA
    go_upto_region 7 with fail
    obtain ⟨h9, hb3⟩ := one_at w2 94 [.slice fA' fn fc, .int .i64 fs]
    have H3 := Lib.hid (h2.step hb3)
    have hm3 := hm2.below hb3
    have hfo3 := own_below (show World.ownsRow _ _ _ _ _ _ _ from hfo) hb3
    clear h2 hm2 hfo hb3 x0 x1 x2 x3 xf hlk
    generalize World.alloc w2 _ = w3 at *
    generalize w2.heap.size = g9 at *
    refine region_any (by kernel_rfl) ?_
    change wpAny _ _ _ _ _ _ _ (World.drew _)
    replace h9 := h9.drew
    have h1 := H3.out.drew
    have HM := Lib.hid hm3.drew
    have hfo4 : OwnB w3.drew 0 fA' fn fc fb := hfo3
    clear hm3 hfo3 H3
    generalize World.drew _ = w4 at *
    obtain ⟨⟨x0, x1, x2, x3⟩, xf⟩ := at4 h1.at_
    obtain ⟨⟨y0, y1⟩, yf⟩ := at2 h9
    have l1 := h1.lt.1
    have l9 := h9.lt
    obtain ⟨w6, hrun, hd6, hG6⟩ := h1.store ⟨k, fb, fA, fn, fc, (fb.length : Int)⟩ hkm (lt_maxN hN) ⟨(by show OwnB w4 0 (Fi.addr ⟨k, fb, fA, fn, fc, _⟩) fn fc fb; unfold Fi.addr; rw [HFA.out]; exact hfo4), by show (0 : Int) ≤ (fb.length : Int); omega, Int.le_refl _⟩
    unfold Fi.val Fi.addr at hrun
    dsimp only at hrun
    rw [HFA.out, hln] at hrun
    have HR := Lib.hid hrun
    clear hrun
    refine stage 11 ?_
    refine stage_read (i := 0) (v := ?_) rfl (by kernel_rfl) (by kernel_rfl) (by kernel_rfl) (by kernel_rfl) (by kernel_rfl) (by kernel_rfl) (fun _ _ _ h => h) (Or.inl ⟨by kernel_rfl, ?_⟩) ?_
    rotate_left
    · (intro wS hwS; obtain ⟨hcS, hfS, hhS⟩ := bcell hwS; go_simp; try (first | (with_reducible rfl) | rw [if_pos (by omega)] | rw [if_neg (by omega)]))
    try simp only [Act.put, List.getElem_toArray, List.getElem_cons_succ, List.getElem_cons_zero, List.setIfInBounds_toArray, List.set_cons_zero, List.set_cons_succ]
    refine stage_read (i := 1) (v := ?_) rfl (by kernel_rfl) (by kernel_rfl) (by kernel_rfl) (by kernel_rfl) (by kernel_rfl) (by kernel_rfl) (fun _ _ _ h => h) (Or.inl ⟨by kernel_rfl, ?_⟩) ?_
    rotate_left
    · (intro wS hwS; obtain ⟨hcS, hfS, hhS⟩ := bcell hwS; go_simp; try (first | (with_reducible rfl) | rw [if_pos (by omega)] | rw [if_neg (by omega)]))
    try simp only [Act.put, List.getElem_toArray, List.getElem_cons_succ, List.getElem_cons_zero, List.setIfInBounds_toArray, List.set_cons_zero, List.set_cons_succ]
    refine stage_read (i := 2) (v := ?_) rfl (by kernel_rfl) (by kernel_rfl) (by kernel_rfl) (by kernel_rfl) (by kernel_rfl) (by kernel_rfl) (fun _ _ _ h => h) (Or.inl ⟨by kernel_rfl, ?_⟩) ?_
    rotate_left
    · (intro wS hwS; obtain ⟨hcS, hfS, hhS⟩ := bcell hwS; go_simp; try (first | (with_reducible rfl) | rw [if_pos (by omega)] | rw [if_neg (by omega)]))
    try simp only [Act.put, List.getElem_toArray, List.getElem_cons_succ, List.getElem_cons_zero, List.setIfInBounds_toArray, List.set_cons_zero, List.set_cons_succ]
    refine stage_read (i := 3) (v := ?_) rfl (by kernel_rfl) (by kernel_rfl) (by kernel_rfl) (by kernel_rfl) (by kernel_rfl) (by kernel_rfl) (fun _ _ _ h => h) (Or.inl ⟨by kernel_rfl, ?_⟩) ?_
    rotate_left
    · (intro wS hwS; obtain ⟨hcS, hfS, hhS⟩ := bcell hwS; go_simp; try (first | (with_reducible rfl) | rw [if_pos (by omega)] | rw [if_neg (by omega)]))
    try simp only [Act.put, List.getElem_toArray, List.getElem_cons_succ, List.getElem_cons_zero, List.setIfInBounds_toArray, List.set_cons_zero, List.set_cons_succ]
    refine stage_read (i := 4) (v := ?_) rfl (by kernel_rfl) (by kernel_rfl) (by kernel_rfl) (by kernel_rfl) (by kernel_rfl) (by kernel_rfl) (fun _ _ _ h => h) (Or.inl ⟨by kernel_rfl, ?_⟩) ?_
    rotate_left
    · (intro wS hwS; obtain ⟨hcS, hfS, hhS⟩ := bcell hwS; go_simp; try (first | (with_reducible rfl) | rw [if_pos (by omega)] | rw [if_neg (by omega)]))
    try simp only [Act.put, List.getElem_toArray, List.getElem_cons_succ, List.getElem_cons_zero, List.setIfInBounds_toArray, List.set_cons_zero, List.set_cons_succ]
    refine stage_read (i := 5) (v := ?_) rfl (by kernel_rfl) (by kernel_rfl) (by kernel_rfl) (by kernel_rfl) (by kernel_rfl) (by kernel_rfl) (fun _ _ _ h => h) (Or.inl ⟨by kernel_rfl, ?_⟩) ?_
    rotate_left
    · (intro wS hwS; obtain ⟨hcS, hfS, hhS⟩ := bcell hwS; go_simp; try (first | (with_reducible rfl) | rw [if_pos (by omega)] | rw [if_neg (by omega)]))
    try simp only [Act.put, List.getElem_toArray, List.getElem_cons_succ, List.getElem_cons_zero, List.setIfInBounds_toArray, List.set_cons_zero, List.set_cons_succ]
    refine stage_read (i := 6) (v := ?_) rfl (by kernel_rfl) (by kernel_rfl) (by kernel_rfl) (by kernel_rfl) (by kernel_rfl) (by kernel_rfl) (fun _ _ _ h => h) (Or.inl ⟨by kernel_rfl, ?_⟩) ?_
    rotate_left
    · (intro wS hwS; obtain ⟨hcS, hfS, hhS⟩ := bcell hwS; go_simp; try (first | (with_reducible rfl) | rw [if_pos (by omega)] | rw [if_neg (by omega)]))
    try simp only [Act.put, List.getElem_toArray, List.getElem_cons_succ, List.getElem_cons_zero, List.setIfInBounds_toArray, List.set_cons_zero, List.set_cons_succ]
    refine stage_read (i := 7) (v := ?_) rfl (by kernel_rfl) (by kernel_rfl) (by kernel_rfl) (by kernel_rfl) (by kernel_rfl) (by kernel_rfl) (fun _ _ _ h => h) (Or.inl ⟨by kernel_rfl, ?_⟩) ?_
    rotate_left
    · (intro wS hwS; obtain ⟨hcS, hfS, hhS⟩ := bcell hwS; go_simp; try (first | (with_reducible rfl) | rw [if_pos (by omega)] | rw [if_neg (by omega)]))
    try simp only [Act.put, List.getElem_toArray, List.getElem_cons_succ, List.getElem_cons_zero, List.setIfInBounds_toArray, List.set_cons_zero, List.set_cons_succ]
    refine stage_read (i := 8) (v := ?_) rfl (by kernel_rfl) (by kernel_rfl) (by kernel_rfl) (by kernel_rfl) (by kernel_rfl) (by kernel_rfl) (fun _ _ _ h => h) (Or.inl ⟨by kernel_rfl, ?_⟩) ?_
    rotate_left
    · (intro wS hwS; obtain ⟨hcS, hfS, hhS⟩ := bcell hwS; go_simp; try (first | (with_reducible rfl) | rw [if_pos (by omega)] | rw [if_neg (by omega)]))
    try simp only [Act.put, List.getElem_toArray, List.getElem_cons_succ, List.getElem_cons_zero, List.setIfInBounds_toArray, List.set_cons_zero, List.set_cons_succ]
    refine stage_read (i := 9) (v := ?_) rfl (by kernel_rfl) (by kernel_rfl) (by kernel_rfl) (by kernel_rfl) (by kernel_rfl) (by kernel_rfl) (fun _ _ _ h => h) (Or.inl ⟨by kernel_rfl, ?_⟩) ?_
    rotate_left
    · (intro wS hwS; obtain ⟨hcS, hfS, hhS⟩ := bcell hwS; go_simp; try (first | (with_reducible rfl) | rw [if_pos (by omega)] | rw [if_neg (by omega)]))
    try simp only [Act.put, List.getElem_toArray, List.getElem_cons_succ, List.getElem_cons_zero, List.setIfInBounds_toArray, List.set_cons_zero, List.set_cons_succ]
    refine stage_read (i := 10) (v := ?_) rfl (by kernel_rfl) (by kernel_rfl) (by kernel_rfl) (by kernel_rfl) (by kernel_rfl) (by kernel_rfl) (fun _ _ _ h => h) (Or.inl ⟨by kernel_rfl, ?_⟩) ?_
    rotate_left
    · (intro wS hwS; obtain ⟨hcS, hfS, hhS⟩ := bcell hwS; go_simp; try (first | (with_reducible rfl) | rw [if_pos (by omega)] | rw [if_neg (by omega)]))
    try simp only [Act.put, List.getElem_toArray, List.getElem_cons_succ, List.getElem_cons_zero, List.setIfInBounds_toArray, List.set_cons_zero, List.set_cons_succ]
    have hrun := HR.out
    refine stage_end (by kernel_rfl) rfl (fun K hK => ?_)
    go_simp
    refine hK.out _ _ ?_
    clear hK K
    try simp only [Act.put, List.getElem_toArray, List.getElem_cons_succ, List.getElem_cons_zero, List.setIfInBounds_toArray, List.set_cons_zero, List.set_cons_succ]
    first | refine wpAnyT_done (by kernel_rfl) ?_ _ | refine wpAny_done (by kernel_rfl) ?_ _
    have hm6 := HM.out.grown hG6 (fun i o _ _ e => .inr (Option.some.inj e).symm)
    have HD := Lib.hid hd6
    have HM6 := Lib.hid hm6
    clear x0 x1 x2 x3 xf y0 y1 yf l1 l9 h1 h9 hfo4 hrun hG6 HM hd6 hm6
    go_wp2_with fail
    go_ret
    exact ⟨rfl, HM6.out, fun e => absurd rfl e, fun _ => ⟨_, ⟨_, _, _, rfl⟩, HD.out⟩⟩
set_option maxRecDepth 100000 in
set_option maxHeartbeats 2000000 in
theorem cut_arg (k : ByteArray) (m : Int) (hkm : k.size ≤ maxLen) (w : World) (h : IsDk w g b N l lost armed left) (hf : (findF l k).isSome = true) (hm : m < 0 ∨ ((getF l k).b.length : Int) < m) :
    Calls Try.prog 30 #[.pointer (some ⟨g, 0, none⟩), .string k, .int .i64 m] w fun x w' => x = .returned (.int .i64 1) ∧ IsDk w' g b N l lost armed left ∧ Below w.heap.size w w' := by
  have HT := there_any k hkm w h
  rw [hf] at HT
  simp only [if_true] at HT
  obtain ⟨f, hfe⟩ : ∃ f, getF l k = f := ⟨_, rfl⟩
  have hln := (h.get k).1.length
  rw [hfe] at hm hln
  have HF := Lib.hid hfe
  clear hfe
  obtain ⟨fk, fb, fA, fn, fc, fs⟩ := f
  simp only at hm hln
  rw [hln] at hm
  have H := Lib.hid h
  clear h
  go_enter Try.func30, Try.ntmps30
  go_upto_region 4 with (((with_reducible refine (HT).mono ?_); rintro z w1 ⟨rfl, hb1⟩))
  have h1 := H.out.step hb1
  have hlk := h1.mp.look1 hkm
  have hfo := (h1.get k).1
  rw [HF.out] at hlk hfo
  unfold Fi.val at hlk
  simp only at hlk hfo
  have hf0 := fun w => field0 (Fi.addr ⟨fk, fb, fA, fn, fc, fs⟩) fn fc fs w
  obtain ⟨fA', hfA⟩ : ∃ fA' : Option Addr, Fi.addr ⟨fk, fb, fA, fn, fc, fs⟩ = fA' := ⟨_, rfl⟩
  rw [hfA] at hlk hfo
  simp only [hfA] at hf0
  clear hfA
  obtain ⟨⟨x0, x1, x2, x3⟩, xf⟩ := at4 h1.at_
  clear hfo HT
  by_cases hm0 : m < 0
  ·
    have hd0 : decide (m < 0) = true := decide_eq_true hm0
    have H1 := Lib.hid h1
    clear hm h1
    go_wp2_with fail
    go_ret
    exact ⟨rfl, H1.out, hb1⟩
  ·
    have hd0 : decide (m < 0) = false := decide_eq_false hm0
    have hm1 : (fn : Int) < m := by omega
    have hd1 : decide ((fn : Int) < m) = true := decide_eq_true hm1
    have H1 := Lib.hid h1
    clear hm h1
    go_wp2_with fail
    go_ret
    exact ⟨rfl, H1.out, hb1⟩
set_option maxRecDepth 100000 in
set_option maxHeartbeats 2000000 in
theorem cut_go (k : ByteArray) (m : Nat) (hkm : k.size ≤ maxLen) (w : World) (h : IsDk w g b N l lost armed left) (hf : (findF l k).isSome = true) (hN : N < 1000000) (hm : m ≤ (getF l k).b.length) (hsz : (getF l k).b.length ≤ 100000000) :
    Calls Try.prog 30 #[.pointer (some ⟨g, 0, none⟩), .string k, .int .i64 (m : Int)] w fun x w' => GoR w w' g b N l armed (wrP lost armed left) (fun l' => ∃ P n c, l' = applyF ⟨k, (getF l k).b.take m, P, n, c, (m : Int)⟩ false l) x := by
  have HT := there_any k hkm w h
  rw [hf] at HT
  simp only [if_true] at HT
  have hwc := wr_cases lost armed left
  have hgt := h.get k
  have hgk := (h.find hf).2
  have HWF := fun v (h : IsDk v g b N l lost armed left) => write_any v h
  obtain ⟨q, hq⟩ : ∃ q, wrP lost armed left = q := ⟨_, rfl⟩
  rw [hq] at HWF hwc ⊢
  clear hq
  obtain ⟨code, now, lost', left'⟩ := q
  simp only at HWF hwc ⊢
  obtain ⟨f, hfe⟩ : ∃ f, getF l k = f := ⟨_, rfl⟩
  rw [hfe] at hgt hgk
  try rw [hfe]
  have HF := Lib.hid hfe
  clear hfe
  obtain ⟨fk, fb, fA, fn, fc, fs⟩ := f
  simp only at hgt hgk
  try simp only
  have hln := hgt.1.length
  have HGT := Lib.hid hgt
  have HW0 := Lib.hid HWF
  have H := Lib.hid h
  clear h hgt HWF
  rw [HF.out] at hm hsz
  simp only at hm hsz
  rw [hln] at hm hsz
  have hd0 : decide ((m : Int) < 0) = false := decide_eq_false (by omega)
  have hd1 : decide ((fn : Int) < (m : Int)) = false := decide_eq_false (by omega)
  have hd2 : decide (fn < m) = false := decide_eq_false (by omega)
  rcases hwc with rfl | rfl
  rotate_left
  ·
    go_enter Try.func30, Try.ntmps30
    go_upto_region 4 with (((with_reducible refine (HT).mono ?_); rintro z w1 ⟨rfl, hb1⟩))
    have h1 := H.out.step hb1
    have hlk := h1.mp.look1 hkm
    have hfo := (h1.get k).1
    rw [HF.out] at hlk hfo
    unfold Fi.val at hlk
    simp only at hlk hfo
    have hf0 := fun w => field0 (Fi.addr ⟨fk, fb, fA, fn, fc, fs⟩) fn fc fs w
    obtain ⟨fA', hfA⟩ : ∃ fA' : Option Addr, Fi.addr ⟨fk, fb, fA, fn, fc, fs⟩ = fA' := ⟨_, rfl⟩
    rw [hfA] at hlk hfo
    simp only [hfA] at hf0
    clear hfA
    obtain ⟨⟨x0, x1, x2, x3⟩, xf⟩ := at4 h1.at_
    have HW := HW0.out w1 h1
    clear h1 hfo HT
    go_wp2_with (((with_reducible refine (HW).mono ?_); rintro z w2 ⟨rfl, h2, hG2⟩))
    have HM := Lib.hid (((Mod.refl (fun i _ => i = g ∨ i = b) w).below hb1).trans (grown_mod' (b := b) hG2))
    have HD := Lib.hid h2
    go_ret
    exact ⟨rfl, HM.out, fun _ => HD.out, fun e => absurd e (show ¬ (12 : Int) = 0 by decide)⟩
  ·
    go_enter Try.func30, Try.ntmps30
    go_upto_region 4 with (((with_reducible refine (HT).mono ?_); rintro z w1 ⟨rfl, hb1⟩))
    have h1 := H.out.step hb1
    have hlk := h1.mp.look1 hkm
    have hfo := (h1.get k).1
    rw [HF.out] at hlk hfo
    unfold Fi.val at hlk
    simp only at hlk hfo
    have hf0 := fun w => field0 (Fi.addr ⟨fk, fb, fA, fn, fc, fs⟩) fn fc fs w
    obtain ⟨fA', hfA⟩ : ∃ fA' : Option Addr, Fi.addr ⟨fk, fb, fA, fn, fc, fs⟩ = fA' := ⟨_, rfl⟩
    rw [hfA] at hlk hfo
    simp only [hfA] at hf0
    clear hfA
    obtain ⟨⟨x0, x1, x2, x3⟩, xf⟩ := at4 h1.at_
    have HW := HW0.out w1 h1
    have H1 := Lib.hid h1
    clear h1 HT
    go_upto_region 9 with (((with_reducible refine (HW).mono ?_); rintro z w2 ⟨rfl, h2, hG2⟩))
    have hm2 := ((Mod.refl (fun i _ => i = g ∨ i = b) w).below hb1).trans (grown_mod' (b := b) hG2)
    have hfo2 : OwnB w2 0 fA' fn fc fb := own_mod (show World.ownsRow _ _ _ _ _ _ _ from hfo) (grown_mod hG2) (fun i o ho _ hit e => isT_at H1.out.at_ ho hit (by decide) (Option.some.inj e).symm)
    clear x0 x1 x2 x3 xf hlk hf0 hfo H1 HW hG2 hb1
    refine region_any (by kernel_rfl) ?_
    change wpAny _ _ _ _ _ _ _ (World.drew _)
    have h1 := h2.drew
    have HM := Lib.hid hm2.drew
    have hfo3 : OwnB w2.drew 0 fA' fn fc fb := hfo2
    clear hm2 hfo2 h2
    generalize World.drew _ = w4 at *
    have hrt := RdB.take (OwnB.rd hfo3) (k := m) (c' := fc) hm (by have := (OwnB.rd hfo3).le; omega) (Nat.le_refl _)
    have hle := (OwnB.rd hfo3).le
    have hmx := (OwnB.rd hfo3).max
    unfold maxLen at hmx
    have hmc : m ≤ fc := by omega
    obtain ⟨⟨x0, x1, x2, x3⟩, xf⟩ := at4 h1.at_
    have l1 := h1.lt.1
    refine stage 11 ?_
    refine stage_read (i := 0) (v := ?_) rfl (by kernel_rfl) (by kernel_rfl) (by kernel_rfl) (by kernel_rfl) (by kernel_rfl) (by kernel_rfl) (fun _ _ _ h => h) (Or.inl ⟨by kernel_rfl, ?_⟩) ?_
    rotate_left
    · (intro wS hwS; obtain ⟨hcS, hfS, hhS⟩ := bcell hwS; go_simp; try (first | (with_reducible rfl) | rw [if_pos (by omega)] | rw [if_neg (by omega)]))
    try simp only [Act.put, List.getElem_toArray, List.getElem_cons_succ, List.getElem_cons_zero, List.setIfInBounds_toArray, List.set_cons_zero, List.set_cons_succ]
    refine stage_read (i := 1) (v := ?_) rfl (by kernel_rfl) (by kernel_rfl) (by kernel_rfl) (by kernel_rfl) (by kernel_rfl) (by kernel_rfl) (fun _ _ _ h => h) (Or.inl ⟨by kernel_rfl, ?_⟩) ?_
    rotate_left
    · (intro wS hwS; obtain ⟨hcS, hfS, hhS⟩ := bcell hwS; go_simp; try (first | (with_reducible rfl) | rw [if_pos (by omega)] | rw [if_neg (by omega)]))
    try simp only [Act.put, List.getElem_toArray, List.getElem_cons_succ, List.getElem_cons_zero, List.setIfInBounds_toArray, List.set_cons_zero, List.set_cons_succ]
    refine stage_read (i := 2) (v := ?_) rfl (by kernel_rfl) (by kernel_rfl) (by kernel_rfl) (by kernel_rfl) (by kernel_rfl) (by kernel_rfl) (fun _ _ _ h => h) (Or.inl ⟨by kernel_rfl, ?_⟩) ?_
    rotate_left
    · (intro wS hwS; obtain ⟨hcS, hfS, hhS⟩ := bcell hwS; go_simp; try (first | (with_reducible rfl) | rw [if_pos (by omega)] | rw [if_neg (by omega)]))
    try simp only [Act.put, List.getElem_toArray, List.getElem_cons_succ, List.getElem_cons_zero, List.setIfInBounds_toArray, List.set_cons_zero, List.set_cons_succ]
    refine stage_read (i := 3) (v := ?_) rfl (by kernel_rfl) (by kernel_rfl) (by kernel_rfl) (by kernel_rfl) (by kernel_rfl) (by kernel_rfl) (fun _ _ _ h => h) (Or.inl ⟨by kernel_rfl, ?_⟩) ?_
    rotate_left
    · (intro wS hwS; obtain ⟨hcS, hfS, hhS⟩ := bcell hwS; go_simp; try (first | (with_reducible rfl) | rw [if_pos (by omega)] | rw [if_neg (by omega)]))
    try simp only [Act.put, List.getElem_toArray, List.getElem_cons_succ, List.getElem_cons_zero, List.setIfInBounds_toArray, List.set_cons_zero, List.set_cons_succ]
    refine stage_read (i := 4) (v := ?_) rfl (by kernel_rfl) (by kernel_rfl) (by kernel_rfl) (by kernel_rfl) (by kernel_rfl) (by kernel_rfl) (fun _ _ _ h => h) (Or.inl ⟨by kernel_rfl, ?_⟩) ?_
    rotate_left
    · (intro wS hwS; obtain ⟨hcS, hfS, hhS⟩ := bcell hwS; go_simp; try (first | (with_reducible rfl) | rw [if_pos (by omega)] | rw [if_neg (by omega)]))
    try simp only [Act.put, List.getElem_toArray, List.getElem_cons_succ, List.getElem_cons_zero, List.setIfInBounds_toArray, List.set_cons_zero, List.set_cons_succ]
    refine stage_read (i := 5) (v := ?_) rfl (by kernel_rfl) (by kernel_rfl) (by kernel_rfl) (by kernel_rfl) (by kernel_rfl) (by kernel_rfl) (fun _ _ _ h => h) (Or.inl ⟨by kernel_rfl, ?_⟩) ?_
    rotate_left
    · (intro wS hwS; obtain ⟨hcS, hfS, hhS⟩ := bcell hwS; go_simp; try (first | (with_reducible rfl) | rw [if_pos (by omega)] | rw [if_neg (by omega)]))
    try simp only [Act.put, List.getElem_toArray, List.getElem_cons_succ, List.getElem_cons_zero, List.setIfInBounds_toArray, List.set_cons_zero, List.set_cons_succ]
    refine stage_read (i := 6) (v := ?_) rfl (by kernel_rfl) (by kernel_rfl) (by kernel_rfl) (by kernel_rfl) (by kernel_rfl) (by kernel_rfl) (fun _ _ _ h => h) (Or.inl ⟨by kernel_rfl, ?_⟩) ?_
    rotate_left
    · (intro wS hwS; obtain ⟨hcS, hfS, hhS⟩ := bcell hwS; go_simp; try (first | (with_reducible rfl) | rw [if_pos (by omega)] | rw [if_neg (by omega)]))
    try simp only [Act.put, List.getElem_toArray, List.getElem_cons_succ, List.getElem_cons_zero, List.setIfInBounds_toArray, List.set_cons_zero, List.set_cons_succ]
    refine stage_read (i := 7) (v := ?_) rfl (by kernel_rfl) (by kernel_rfl) (by kernel_rfl) (by kernel_rfl) (by kernel_rfl) (by kernel_rfl) (fun _ _ _ h => h) (Or.inl ⟨by kernel_rfl, ?_⟩) ?_
    rotate_left
    · (intro wS hwS; obtain ⟨hcS, hfS, hhS⟩ := bcell hwS; go_simp; try (first | (with_reducible rfl) | rw [if_pos (by omega)] | rw [if_neg (by omega)]))
    try simp only [Act.put, List.getElem_toArray, List.getElem_cons_succ, List.getElem_cons_zero, List.setIfInBounds_toArray, List.set_cons_zero, List.set_cons_succ]
    refine stage_read (i := 9) (v := ?_) rfl (by kernel_rfl) (by kernel_rfl) (by kernel_rfl) (by kernel_rfl) (by kernel_rfl) (by kernel_rfl) (fun _ _ _ h => h) (Or.inl ⟨by kernel_rfl, ?_⟩) ?_
    rotate_left
    · (intro wS hwS; obtain ⟨hcS, hfS, hhS⟩ := bcell hwS; go_simp; try (first | (with_reducible rfl) | rw [if_pos (by omega)] | rw [if_neg (by omega)]))
    try simp only [Act.put, List.getElem_toArray, List.getElem_cons_succ, List.getElem_cons_zero, List.setIfInBounds_toArray, List.set_cons_zero, List.set_cons_succ]
    refine stage_one 8 (by kernel_rfl) rfl (by kernel_rfl) (fun K hK => ?_)
    go_simp
    refine (clone_any fA' m fc (fb.take m) w4 hrt (by omega)).mono ?_
    rintro z w5 ⟨A5, c5, rfl, hown5, hb5⟩
    refine hK.out _ _ (hb5) ?_
    clear hK K
    try simp only [Act.put, List.getElem_toArray, List.getElem_cons_succ, List.getElem_cons_zero, List.setIfInBounds_toArray, List.set_cons_zero, List.set_cons_succ]
    replace h1 := h1.step hb5
    have HM := Lib.hid (HM.out.below hb5)
    obtain ⟨P, hP⟩ := own_pair hown5
    subst hP
    clear hb5 x0 x1 x2 x3 xf l1 hfo3 hrt
    obtain ⟨⟨x0, x1, x2, x3⟩, xf⟩ := at4 h1.at_
    have l1 := h1.lt.1
    obtain ⟨w6, hrun, hd6, hG6⟩ := h1.store ⟨k, fb.take m, P, m, c5, (m : Int)⟩ hkm (lt_maxN hN) ⟨own_lower (show World.ownsRow _ _ _ _ _ _ _ from hown5) (Nat.zero_le _), by show (0 : Int) ≤ (m : Int); omega, by show (m : Int) ≤ (((fb.take m).length : Nat) : Int); rw [List.length_take]; omega⟩
    unfold Fi.val Fi.addr at hrun
    dsimp only at hrun
    have HR := Lib.hid hrun
    clear hrun
    refine stage_read (i := 10) (v := ?_) rfl (by kernel_rfl) (by kernel_rfl) (by kernel_rfl) (by kernel_rfl) (by kernel_rfl) (by kernel_rfl) (fun _ _ _ h => h) (Or.inl ⟨by kernel_rfl, ?_⟩) ?_
    rotate_left
    · (intro wS hwS; obtain ⟨hcS, hfS, hhS⟩ := bcell hwS; go_simp; try (first | (with_reducible rfl) | rw [if_pos (by omega)] | rw [if_neg (by omega)]))
    try simp only [Act.put, List.getElem_toArray, List.getElem_cons_succ, List.getElem_cons_zero, List.setIfInBounds_toArray, List.set_cons_zero, List.set_cons_succ]
    have hrun := HR.out
    refine stage_end (by kernel_rfl) rfl (fun K hK => ?_)
    go_simp
    refine hK.out _ _ ?_
    clear hK K
    try simp only [Act.put, List.getElem_toArray, List.getElem_cons_succ, List.getElem_cons_zero, List.setIfInBounds_toArray, List.set_cons_zero, List.set_cons_succ]
    first | refine wpAnyT_done (by kernel_rfl) ?_ _ | refine wpAny_done (by kernel_rfl) ?_ _
    have hm6 := HM.out.grown hG6 (fun i o _ _ e => .inr (Option.some.inj e).symm)
    have HD := Lib.hid hd6
    have HM6 := Lib.hid hm6
    clear x0 x1 x2 x3 xf l1 h1 hown5 hrun hG6 HM hd6 hm6
    go_wp2_with fail
    go_ret
    exact ⟨rfl, HM6.out, fun e => absurd rfl e, fun _ => ⟨_, ⟨_, _, _, rfl⟩, HD.out⟩⟩
set_option maxRecDepth 100000 in
set_option maxHeartbeats 2000000 in
theorem rename_arg (k to : ByteArray) (hkm : k.size ≤ maxLen) (w : World) (h : IsDk w g b N l lost armed left) (hf : (findF l k).isSome = true) (ht : to.size = 0 ∨ to = k) :
    Calls Try.prog 28 #[.pointer (some ⟨g, 0, none⟩), .string k, .string to] w fun x w' => x = .returned (.int .i64 1) ∧ IsDk w' g b N l lost armed left ∧ Below w.heap.size w w' := by
  have HT := there_any k hkm w h
  rw [hf] at HT
  simp only [if_true] at HT
  have H := Lib.hid h
  clear h
  have he := emptyS_iff to
  have hte : (to.toList == k.toList) = decide (to = k) := ba_beq to k
  by_cases h0 : to.size = 0
  ·
    rw [decide_eq_false (by omega)] at he
    clear ht hte
    go_enter Try.func28, Try.ntmps28
    go_wp2_with (((with_reducible refine (HT).mono ?_); rintro z w1 ⟨rfl, hb1⟩))
    go_ret
    exact ⟨rfl, H.out.step hb1, hb1⟩
  ·
    rw [decide_eq_true (by omega)] at he
    obtain rfl : to = k := ht.resolve_left h0
    clear ht hte
    go_enter Try.func28, Try.ntmps28
    go_wp2_with (((with_reducible refine (HT).mono ?_); rintro z w1 ⟨rfl, hb1⟩))
    go_ret
    exact ⟨rfl, H.out.step hb1, hb1⟩
set_option maxRecDepth 100000 in
set_option maxHeartbeats 2000000 in
theorem rename_go (k to : ByteArray) (hkm : k.size ≤ maxLen) (htm : to.size ≤ maxLen) (w : World) (h : IsDk w g b N l lost armed left) (hf : (findF l k).isSome = true) (hN : N < 1000000) (ht : 1 ≤ to.size) (htk : to ≠ k) :
    Calls Try.prog 28 #[.pointer (some ⟨g, 0, none⟩), .string k, .string to] w fun x w' => GoR w w' g b N l armed (wrP lost armed left) (fun l' => ∃ (e : Fi), e.k = k ∧ ∃ (P : Option (Nat × Nat)) (n c : Nat), l' = applyF e true (applyF ⟨to, (getF l k).b, P, n, c, (getF l k).s⟩ false l)) x := by
  have HT := there_any k hkm w h
  rw [hf] at HT
  simp only [if_true] at HT
  have hwc := wr_cases lost armed left
  have hgt := h.get k
  have hgk := (h.find hf).2
  have HWF := fun v (h : IsDk v g b N l lost armed left) => write_any v h
  obtain ⟨q, hq⟩ : ∃ q, wrP lost armed left = q := ⟨_, rfl⟩
  rw [hq] at HWF hwc ⊢
  clear hq
  obtain ⟨code, now, lost', left'⟩ := q
  simp only at HWF hwc ⊢
  obtain ⟨f, hfe⟩ : ∃ f, getF l k = f := ⟨_, rfl⟩
  rw [hfe] at hgt hgk
  try rw [hfe]
  have HF := Lib.hid hfe
  clear hfe
  obtain ⟨fk, fb, fA, fn, fc, fs⟩ := f
  simp only at hgt hgk
  try simp only
  have hln := hgt.1.length
  have HGT := Lib.hid hgt
  have HW0 := Lib.hid HWF
  have H := Lib.hid h
  clear h hgt HWF
  have he := emptyS_iff to
  have hte : (to.toList == k.toList) = decide (to = k) := ba_beq to k
  rw [decide_eq_true ht] at he
  rw [decide_eq_false htk] at hte
  rcases hwc with rfl | rfl
  rotate_left
  ·
    go_enter Try.func28, Try.ntmps28
    go_wp2_with (first | (((with_reducible refine (HT).mono ?_); rintro z w1 ⟨rfl, hb1⟩); (have HW := HW0.out w1 (H.out.step hb1))) | (((with_reducible refine (HW).mono ?_); rintro z w2 ⟨rfl, h2, hG2⟩)))
    have HM := Lib.hid (((Mod.refl (fun i _ => i = g ∨ i = b) w).below hb1).trans (grown_mod' (b := b) hG2))
    have HD := Lib.hid h2
    go_ret
    exact ⟨rfl, HM.out, fun _ => HD.out, fun e => absurd e (show ¬ (12 : Int) = 0 by decide)⟩
  ·
    go_enter Try.func28, Try.ntmps28
    go_upto_region 8 with (first | (((with_reducible refine (HT).mono ?_); rintro z w1 ⟨rfl, hb1⟩); (have HW := HW0.out w1 (H.out.step hb1))) | (((with_reducible refine (HW).mono ?_); rintro z w2 ⟨rfl, h2, hG2⟩)))
    have hm2 := ((Mod.refl (fun i _ => i = g ∨ i = b) w).below hb1).trans (grown_mod' (b := b) hG2)
    clear HT hG2 hb1 HW
    refine region_any (by kernel_rfl) ?_
    change wpAny _ _ _ _ _ _ _ (World.drew _)
    have h1 := h2.drew
    have HM := Lib.hid hm2.drew
    clear hm2 h2
    generalize World.drew _ = w4 at *
    have hlk : ∀ w', Below w4.heap.size w4 w' → _ := fun w' hb => (h1.step hb).mp.look1 hkm
    have hfo := h1.get k
    rw [HF.out] at hlk hfo
    unfold Fi.val Fi.addr at hlk
    simp only at hlk hfo
    obtain ⟨⟨x0, x1, x2, x3⟩, xf⟩ := at4 h1.at_
    have l1 := h1.lt.1
    obtain ⟨w6, hrun, hd6, hG6⟩ := h1.store ⟨to, fb, fA, fn, fc, fs⟩ htm (lt_maxN hN) hfo
    unfold Fi.val Fi.addr at hrun
    dsimp only at hrun
    have HR := Lib.hid hrun
    clear hrun
    refine stage 11 ?_
    refine stage_read (i := 0) (v := ?_) rfl (by kernel_rfl) (by kernel_rfl) (by kernel_rfl) (by kernel_rfl) (by kernel_rfl) (by kernel_rfl) (fun _ _ _ h => h) (Or.inl ⟨by kernel_rfl, ?_⟩) ?_
    rotate_left
    · (intro wS hwS; obtain ⟨hcS, hfS, hhS⟩ := bcell hwS; go_simp; try (first | (with_reducible rfl) | rw [if_pos (by omega)] | rw [if_neg (by omega)]))
    try simp only [Act.put, List.getElem_toArray, List.getElem_cons_succ, List.getElem_cons_zero, List.setIfInBounds_toArray, List.set_cons_zero, List.set_cons_succ]
    refine stage_read (i := 1) (v := ?_) rfl (by kernel_rfl) (by kernel_rfl) (by kernel_rfl) (by kernel_rfl) (by kernel_rfl) (by kernel_rfl) (fun _ _ _ h => h) (Or.inl ⟨by kernel_rfl, ?_⟩) ?_
    rotate_left
    · (intro wS hwS; obtain ⟨hcS, hfS, hhS⟩ := bcell hwS; go_simp; try (first | (with_reducible rfl) | rw [if_pos (by omega)] | rw [if_neg (by omega)]))
    try simp only [Act.put, List.getElem_toArray, List.getElem_cons_succ, List.getElem_cons_zero, List.setIfInBounds_toArray, List.set_cons_zero, List.set_cons_succ]
    refine stage_read (i := 2) (v := ?_) rfl (by kernel_rfl) (by kernel_rfl) (by kernel_rfl) (by kernel_rfl) (by kernel_rfl) (by kernel_rfl) (fun _ _ _ h => h) (Or.inl ⟨by kernel_rfl, ?_⟩) ?_
    rotate_left
    · (intro wS hwS; obtain ⟨hcS, hfS, hhS⟩ := bcell hwS; go_simp; try (first | (with_reducible rfl) | rw [if_pos (by omega)] | rw [if_neg (by omega)]))
    try simp only [Act.put, List.getElem_toArray, List.getElem_cons_succ, List.getElem_cons_zero, List.setIfInBounds_toArray, List.set_cons_zero, List.set_cons_succ]
    refine stage_read (i := 3) (v := ?_) rfl (by kernel_rfl) (by kernel_rfl) (by kernel_rfl) (by kernel_rfl) (by kernel_rfl) (by kernel_rfl) (fun _ _ _ h => h) (Or.inl ⟨by kernel_rfl, ?_⟩) ?_
    rotate_left
    · (intro wS hwS; obtain ⟨hcS, hfS, hhS⟩ := bcell hwS; go_simp; try (first | (with_reducible rfl) | rw [if_pos (by omega)] | rw [if_neg (by omega)]))
    try simp only [Act.put, List.getElem_toArray, List.getElem_cons_succ, List.getElem_cons_zero, List.setIfInBounds_toArray, List.set_cons_zero, List.set_cons_succ]
    refine stage_read (i := 4) (v := ?_) rfl (by kernel_rfl) (by kernel_rfl) (by kernel_rfl) (by kernel_rfl) (by kernel_rfl) (by kernel_rfl) (fun _ _ _ h => h) (Or.inl ⟨by kernel_rfl, ?_⟩) ?_
    rotate_left
    · (intro wS hwS; obtain ⟨hcS, hfS, hhS⟩ := bcell hwS; go_simp; try (first | (with_reducible rfl) | rw [if_pos (by omega)] | rw [if_neg (by omega)]))
    try simp only [Act.put, List.getElem_toArray, List.getElem_cons_succ, List.getElem_cons_zero, List.setIfInBounds_toArray, List.set_cons_zero, List.set_cons_succ]
    refine stage_read (i := 5) (v := ?_) rfl (by kernel_rfl) (by kernel_rfl) (by kernel_rfl) (by kernel_rfl) (by kernel_rfl) (by kernel_rfl) (fun _ _ _ h => h) (Or.inl ⟨by kernel_rfl, ?_⟩) ?_
    rotate_left
    · (intro wS hwS; obtain ⟨hcS, hfS, hhS⟩ := bcell hwS; go_simp; try (first | (with_reducible rfl) | rw [if_pos (by omega)] | rw [if_neg (by omega)]))
    try simp only [Act.put, List.getElem_toArray, List.getElem_cons_succ, List.getElem_cons_zero, List.setIfInBounds_toArray, List.set_cons_zero, List.set_cons_succ]
    refine stage_read (i := 6) (v := ?_) rfl (by kernel_rfl) (by kernel_rfl) (by kernel_rfl) (by kernel_rfl) (by kernel_rfl) (by kernel_rfl) (fun _ _ _ h => h) (Or.inl ⟨by kernel_rfl, ?_⟩) ?_
    rotate_left
    · (intro wS hwS; obtain ⟨hcS, hfS, hhS⟩ := bcell hwS; go_simp; try (first | (with_reducible rfl) | rw [if_pos (by omega)] | rw [if_neg (by omega)]))
    try simp only [Act.put, List.getElem_toArray, List.getElem_cons_succ, List.getElem_cons_zero, List.setIfInBounds_toArray, List.set_cons_zero, List.set_cons_succ]
    refine stage_read (i := 7) (v := ?_) rfl (by kernel_rfl) (by kernel_rfl) (by kernel_rfl) (by kernel_rfl) (by kernel_rfl) (by kernel_rfl) (fun _ _ _ h => h) (Or.inl ⟨by kernel_rfl, ?_⟩) ?_
    rotate_left
    · (intro wS hwS; obtain ⟨hcS, hfS, hhS⟩ := bcell hwS; go_simp; try (first | (with_reducible rfl) | rw [if_pos (by omega)] | rw [if_neg (by omega)]))
    try simp only [Act.put, List.getElem_toArray, List.getElem_cons_succ, List.getElem_cons_zero, List.setIfInBounds_toArray, List.set_cons_zero, List.set_cons_succ]
    refine stage_read (i := 8) (v := ?_) rfl (by kernel_rfl) (by kernel_rfl) (by kernel_rfl) (by kernel_rfl) (by kernel_rfl) (by kernel_rfl) (fun _ _ _ h => h) (Or.inl ⟨by kernel_rfl, ?_⟩) ?_
    rotate_left
    · (intro wS hwS; obtain ⟨hcS, hfS, hhS⟩ := bcell hwS; go_simp; try (first | (with_reducible rfl) | rw [if_pos (by omega)] | rw [if_neg (by omega)]))
    try simp only [Act.put, List.getElem_toArray, List.getElem_cons_succ, List.getElem_cons_zero, List.setIfInBounds_toArray, List.set_cons_zero, List.set_cons_succ]
    refine stage_read (i := 9) (v := ?_) rfl (by kernel_rfl) (by kernel_rfl) (by kernel_rfl) (by kernel_rfl) (by kernel_rfl) (by kernel_rfl) (fun _ _ _ h => h) (Or.inl ⟨by kernel_rfl, ?_⟩) ?_
    rotate_left
    · (intro wS hwS; obtain ⟨hcS, hfS, hhS⟩ := bcell hwS; go_simp; try (first | (with_reducible rfl) | rw [if_pos (by omega)] | rw [if_neg (by omega)]))
    try simp only [Act.put, List.getElem_toArray, List.getElem_cons_succ, List.getElem_cons_zero, List.setIfInBounds_toArray, List.set_cons_zero, List.set_cons_succ]
    refine stage_read (i := 10) (v := ?_) rfl (by kernel_rfl) (by kernel_rfl) (by kernel_rfl) (by kernel_rfl) (by kernel_rfl) (by kernel_rfl) (fun _ _ _ h => h) (Or.inl ⟨by kernel_rfl, ?_⟩) ?_
    rotate_left
    · (intro wS hwS; obtain ⟨hcS, hfS, hhS⟩ := bcell hwS; go_simp; try (first | (with_reducible rfl) | rw [if_pos (by omega)] | rw [if_neg (by omega)]))
    try simp only [Act.put, List.getElem_toArray, List.getElem_cons_succ, List.getElem_cons_zero, List.setIfInBounds_toArray, List.set_cons_zero, List.set_cons_succ]
    have hrun := HR.out
    refine stage_end (by kernel_rfl) rfl (fun K hK => ?_)
    go_simp
    refine hK.out _ _ ?_
    clear hK K
    try simp only [Act.put, List.getElem_toArray, List.getElem_cons_succ, List.getElem_cons_zero, List.setIfInBounds_toArray, List.set_cons_zero, List.set_cons_succ]
    first | refine wpAnyT_done (by kernel_rfl) ?_ _ | refine wpAny_done (by kernel_rfl) ?_ _
    have hm6 := HM.out.grown hG6 (fun i o _ _ e => .inr (Option.some.inj e).symm)
    clear x0 x1 x2 x3 xf l1 h1 hrun hG6 HM hlk HR
    obtain ⟨⟨x0, x1, x2, x3⟩, xf⟩ := at4 hd6.at_
    obtain ⟨w7, hrun, hd7, hG7⟩ := hd6.drop ⟨fk, fb, fA, fn, fc, fs⟩ (by rw [hgk]; exact hkm) 0
    have hm7 := hm6.grown hG7 (fun i o _ _ e => .inr (Option.some.inj e).symm)
    rw [hgk] at hrun
    have HD := Lib.hid hd7
    have HM := Lib.hid hm7
    clear hd6 hd7 hm6 hm7 hG7
    go_wp2_with fail
    go_ret
    exact ⟨rfl, HM.out, fun e => absurd rfl e, fun _ => ⟨_, ⟨_, hgk, _, _, _, rfl⟩, HD.out⟩⟩
end
end Go.Proofs.Ytmoijbknjadeeaa
