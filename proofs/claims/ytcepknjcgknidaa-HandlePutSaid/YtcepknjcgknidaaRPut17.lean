
/- Chapter 17: the document's Put. -/
import Derived.Test.YtcepknjcgknidaaRSet17
import Derived.Test.YtcepknjcgknidaaRef03b
import Derived.Test.YtcepknjcgknidaaStage
namespace Go.Proofs.Ytcepknjcgknidaa
set_option linter.unusedVariables false
set_option linter.unusedSimpArgs false
open Go.RowKit
set_option maxRecDepth 100000 in
set_option maxHeartbeats 4000000 in
theorem rput17_any (A : Option Addr) (n c : Nat) (l : List Ct) (w : World) (hr : RdC w w.heap.size A n c l) (hq : right17 l = true) (hf : ∀ y ∈ l, y.b < 4294967296) :
    Calls Try.prog 45 #[.slice A n c] w fun r w' => r = .returned (.string ⟨(putH l).toArray⟩) ∧ Below w.heap.size w w' := by
  have hl := RdC.len hr
  have hl4 := (of_decide_eq_true hq).2
  have hle := hr.le
  have hmax := hr.max
  unfold maxLen at hmax
  subst hl
  have HR := Lib.hid hr
  have HQ := Lib.hid hq
  have HF := Lib.hid hf
  clear hr hq hf
  have hp := ref_put l.length 2 w (by omega) (by omega) (by omega)
  simp only [Int.cast_ofNat_Int] at hp
  have HP := Lib.hid hp
  clear hp
  have hcat : (⟨#[72]⟩ : ByteArray) ++ ⟨(putN l.length 2).toArray⟩ = ⟨((72 :: putN l.length 2) ++ (l.take 0).flatMap ctB).toArray⟩ := by
    rw [show (⟨#[72]⟩ : ByteArray) = ⟨[72].toArray⟩ from rfl, cat_str]; simp
  go_enter Try.func45, Try.ntmps45
  go_upto_region 2 with (((with_reducible refine calls_id ?_); refine HP.out.mono ?_; rintro r w2 ⟨A2, rfl, hown, hb2⟩); have hcv := conv_str hown.rd)
  have HB := Lib.hid hb2
  clear hcv hown hb2 HP
  try rw [hcat]
  clear hcat
  go_wp2_with fail
  go_loopw [3, 14] (fun v i wr => ∃ k : Nat, i = .int .i64 (k : Int) ∧ v = .string ⟨((72 :: putN l.length 2) ++ (l.take k).flatMap ctB).toArray⟩ ∧ k ≤ l.length ∧ Below w.heap.size w wr) (fun _ i _ => l.length - (intOf i).toNat)
  case atStart => exact ⟨0, rfl, rfl, Nat.zero_le _, HB.out⟩
  case round =>
    clear HB
    obtain ⟨k, rfl, rfl, hk, hb⟩ := hrel
    have hsz := hb.size
    by_cases hlt : k < l.length
    · obtain ⟨g, off, e, hg, he⟩ := HR.out.elem Ct.row_length (by omega) (k := k) hlt
      subst e
      have hbc := bcell (Below.mono (B := w.heap.size) hb (Nat.le_refl _))
      have e0 := (hbc.1 _ _ hg).trans (he 0 _ rfl)
      have e1 := (hbc.1 _ _ hg).trans (he 1 _ rfl)
      rw [Nat.add_zero] at e0
      have hfy := HF.out _ (List.getElem_mem hlt)
      have hr3 := (right_at HQ.out hlt).2
      have hsn : (l.take (k + 1)).flatMap ctB = (l.take k).flatMap ctB ++ ctB l[k] := by rw [← take_snoc hlt, List.flatMap_append, List.flatMap_cons, List.flatMap_nil, List.append_nil]
      clear he hbc
      generalize l[k] = y at *
      obtain ⟨yb, yn⟩ := y
      obtain ⟨z, rfl⟩ := Int.eq_ofNat_of_zero_le (show 0 ≤ yn by simp at hr3; omega)
      simp only at hfy hr3
      have hctb : ctB ⟨yb, (z : Int)⟩ = putN yb 4 ++ putN z 2 := by simp [ctB]
      rw [hctb, ← List.append_assoc] at hsn
      have hcat : (⟨(72 :: putN l.length 2 ++ (l.take k).flatMap ctB).toArray⟩ ++ ⟨(putN yb 4).toArray⟩) ++ ⟨(putN z 2).toArray⟩ = (⟨(72 :: putN l.length 2 ++ (l.take (k + 1)).flatMap ctB).toArray⟩ : ByteArray) := by
        rw [cat_str, cat_str, hsn]
        simp
      have hS0 : ByteArray.size ⟨(72 :: putN l.length 2 ++ (l.take k).flatMap ctB).toArray⟩ ≤ 30000 := by
        show (72 :: putN l.length 2 ++ (l.take k).flatMap ctB).toArray.size ≤ 30000
        simp only [List.size_toArray, List.length_append, List.length_cons, putN_length, ctsB_length, List.length_take]
        omega
      have hq4 := putN_length yb 4
      have hq2 := putN_length z 2
      generalize (⟨(72 :: putN l.length 2 ++ (l.take k).flatMap ctB).toArray⟩ : ByteArray) = S0 at *
      obtain ⟨S1, hS1⟩ : ∃ S1, S1 = (⟨(72 :: putN l.length 2 ++ (l.take (k + 1)).flatMap ctB).toArray⟩ : ByteArray) := ⟨_, rfl⟩
      rw [← hS1] at hcat
      have HS1 := Lib.hid hS1
      clear hS1
      have h4 := fun w => ref_put yb 4 w (by omega) (by omega) (by omega)
      have h2 := fun w => ref_put z 2 w (by omega) (by omega) (by omega)
      simp only [Int.cast_ofNat_Int] at h4 h2
      generalize putN yb 4 = q4 at *
      generalize putN z 2 = q2 at *
      have H4 := Lib.hid h4
      have H2 := Lib.hid h2
      have HC := Lib.hid hcat
      have HB := Lib.hid hb
      clear hb hsn hctb h4 h2 hcat
      go_upto_region 5 with fail
      obtain ⟨hy, hb2⟩ := one_at wr 95 [.int .u32 (yb : Int), .int .i64 (z : Int)]
      have hb := chain HB.out hb2
      have hsz' := Nat.le_trans hsz hb2.size
      clear hb2 e0 e1 HB
      generalize World.alloc _ _ = w2 at *
      generalize wr.heap.size = gy at *
      refine region_any (by kernel_rfl) ?_
      change wpAny _ _ _ _ _ _ _ (World.drew _)
      replace hy := hy.drew
      replace hb := hb.drew
      generalize World.drew _ = w3 at *
      obtain ⟨⟨y0, y1⟩, _⟩ := at2 hy
      have l0 := hy.lt
      have hwy : IntKind.u64.wrap (yb : Int) = (yb : Int) := by rw [IntKind.wrap_u64]; omega
      have hwz : IntKind.u64.wrap (z : Int) = (z : Int) := by rw [IntKind.wrap_u64]; omega
      refine stage 100000 ?_
      refine stage_read (i := 0) (v := ?_) rfl (by kernel_rfl) (by kernel_rfl) (by kernel_rfl) (by kernel_rfl) (by kernel_rfl) (by kernel_rfl) (fun _ _ _ h => h) (Or.inl ⟨by kernel_rfl, ?_⟩) ?_
      rotate_left
      · (intro wS hwS; obtain ⟨hcS, hfS, hhS⟩ := bcell hwS; go_simp; try (first | (with_reducible rfl) | rw [if_pos (by omega)] | rw [if_neg (by omega)]))
      try simp only [Act.put, List.getElem_toArray, List.getElem_cons_succ, List.getElem_cons_zero, List.setIfInBounds_toArray, List.set_cons_zero, List.set_cons_succ]
      refine stage_read (i := 1) (v := ?_) rfl (by kernel_rfl) (by kernel_rfl) (by kernel_rfl) (by kernel_rfl) (by kernel_rfl) (by kernel_rfl) (fun _ _ _ h => h) (Or.inl ⟨by kernel_rfl, ?_⟩) ?_
      rotate_left
      · (intro wS hwS; obtain ⟨hcS, hfS, hhS⟩ := bcell hwS; go_simp; try (first | (with_reducible rfl) | rw [if_pos (by omega)] | rw [if_neg (by omega)]))
      try simp only [Act.put, List.getElem_toArray, List.getElem_cons_succ, List.getElem_cons_zero, List.setIfInBounds_toArray, List.set_cons_zero, List.set_cons_succ]
      refine stage_read (i := 2) (v := ?_) rfl (by kernel_rfl) (by kernel_rfl) (by kernel_rfl) (by kernel_rfl) (by kernel_rfl) (by kernel_rfl) (fun _ _ _ h => h) (Or.inl ⟨by kernel_rfl, ?_⟩) ?_
      rotate_left
      · (intro wS hwS; obtain ⟨hcS, hfS, hhS⟩ := bcell hwS; go_simp; try (first | (with_reducible rfl) | rw [if_pos (by omega)] | rw [if_neg (by omega)]))
      try simp only [Act.put, List.getElem_toArray, List.getElem_cons_succ, List.getElem_cons_zero, List.setIfInBounds_toArray, List.set_cons_zero, List.set_cons_succ]
      refine stage_read (i := 3) (v := ?_) rfl (by kernel_rfl) (by kernel_rfl) (by kernel_rfl) (by kernel_rfl) (by kernel_rfl) (by kernel_rfl) (fun _ _ _ h => h) (Or.inl ⟨by kernel_rfl, ?_⟩) ?_
      rotate_left
      · (intro wS hwS; obtain ⟨hcS, hfS, hhS⟩ := bcell hwS; go_simp; try (first | (with_reducible rfl) | rw [if_pos (by omega)] | rw [if_neg (by omega)]))
      try simp only [Act.put, List.getElem_toArray, List.getElem_cons_succ, List.getElem_cons_zero, List.setIfInBounds_toArray, List.set_cons_zero, List.set_cons_succ]
      refine stage_read (i := 7) (v := ?_) rfl (by kernel_rfl) (by kernel_rfl) (by kernel_rfl) (by kernel_rfl) (by kernel_rfl) (by kernel_rfl) (fun _ _ _ h => h) (Or.inl ⟨by kernel_rfl, ?_⟩) ?_
      rotate_left
      · (intro wS hwS; obtain ⟨hcS, hfS, hhS⟩ := bcell hwS; go_simp; try (first | (with_reducible rfl) | rw [if_pos (by omega)] | rw [if_neg (by omega)]))
      try simp only [Act.put, List.getElem_toArray, List.getElem_cons_succ, List.getElem_cons_zero, List.setIfInBounds_toArray, List.set_cons_zero, List.set_cons_succ]
      refine stage_read (i := 8) (v := ?_) rfl (by kernel_rfl) (by kernel_rfl) (by kernel_rfl) (by kernel_rfl) (by kernel_rfl) (by kernel_rfl) (fun _ _ _ h => h) (Or.inl ⟨by kernel_rfl, ?_⟩) ?_
      rotate_left
      · (intro wS hwS; obtain ⟨hcS, hfS, hhS⟩ := bcell hwS; go_simp; try (first | (with_reducible rfl) | rw [if_pos (by omega)] | rw [if_neg (by omega)]))
      try simp only [Act.put, List.getElem_toArray, List.getElem_cons_succ, List.getElem_cons_zero, List.setIfInBounds_toArray, List.set_cons_zero, List.set_cons_succ]
      refine stage_read (i := 9) (v := ?_) rfl (by kernel_rfl) (by kernel_rfl) (by kernel_rfl) (by kernel_rfl) (by kernel_rfl) (by kernel_rfl) (fun _ _ _ h => h) (Or.inl ⟨by kernel_rfl, ?_⟩) ?_
      rotate_left
      · (intro wS hwS; obtain ⟨hcS, hfS, hhS⟩ := bcell hwS; go_simp; try (first | (with_reducible rfl) | rw [if_pos (by omega)] | rw [if_neg (by omega)]))
      try simp only [Act.put, List.getElem_toArray, List.getElem_cons_succ, List.getElem_cons_zero, List.setIfInBounds_toArray, List.set_cons_zero, List.set_cons_succ]
      refine stage_one 4 (by kernel_rfl) rfl (by kernel_rfl) (fun K hK => ?_)
      go_simp
      ((with_reducible refine (H4.out _).mono ?_); rintro x w4 ⟨A4, rfl, ho4, hb4⟩)
      refine hK.out _ _ (hb4) ?_
      clear hK K
      try simp only [Act.put, List.getElem_toArray, List.getElem_cons_succ, List.getElem_cons_zero, List.setIfInBounds_toArray, List.set_cons_zero, List.set_cons_succ]
      replace hb := chain hb hb4
      replace hy := hy.below hb4
      have hcv : ∀ w', Below w4.heap.size w4 w' → _ := fun w' hb => conv_str (ho4.rd.below hb)
      clear hb4 y0 y1 l0
      obtain ⟨⟨y0, y1⟩, _⟩ := at2 hy
      have l0 := hy.lt
      refine stage_read (i := 5) (v := ?_) rfl (by kernel_rfl) (by kernel_rfl) (by kernel_rfl) (by kernel_rfl) (by kernel_rfl) (by kernel_rfl) (fun _ _ _ h => h) (Or.inl ⟨by kernel_rfl, ?_⟩) ?_
      rotate_left
      · (intro wS hwS; obtain ⟨hcS, hfS, hhS⟩ := bcell hwS; go_simp; try (first | (with_reducible rfl) | rw [if_pos (by omega)] | rw [if_neg (by omega)]))
      try simp only [Act.put, List.getElem_toArray, List.getElem_cons_succ, List.getElem_cons_zero, List.setIfInBounds_toArray, List.set_cons_zero, List.set_cons_succ]
      refine stage_read (i := 6) (v := ?_) rfl (by kernel_rfl) (by kernel_rfl) (by kernel_rfl) (by kernel_rfl) (by kernel_rfl) (by kernel_rfl) (fun _ _ _ h => h) (Or.inl ⟨by kernel_rfl, ?_⟩) ?_
      rotate_left
      · (intro wS hwS; obtain ⟨hcS, hfS, hhS⟩ := bcell hwS; go_simp; try (first | (with_reducible rfl) | rw [if_pos (by omega)] | rw [if_neg (by omega)]))
      try simp only [Act.put, List.getElem_toArray, List.getElem_cons_succ, List.getElem_cons_zero, List.setIfInBounds_toArray, List.set_cons_zero, List.set_cons_succ]
      refine stage_one 10 (by kernel_rfl) rfl (by kernel_rfl) (fun K hK => ?_)
      go_simp
      ((with_reducible refine (H2.out _).mono ?_); rintro x w5 ⟨A5, rfl, ho5, hb5⟩)
      refine hK.out _ _ (hb5) ?_
      clear hK K
      try simp only [Act.put, List.getElem_toArray, List.getElem_cons_succ, List.getElem_cons_zero, List.setIfInBounds_toArray, List.set_cons_zero, List.set_cons_succ]
      replace hb := chain hb hb5
      clear hcv
      have hcv2 : ∀ w', Below w5.heap.size w5 w' → _ := fun w' hb => conv_str (ho5.rd.below hb)
      refine stage_read (i := 11) (v := ?_) rfl (by kernel_rfl) (by kernel_rfl) (by kernel_rfl) (by kernel_rfl) (by kernel_rfl) (by kernel_rfl) (fun _ _ _ h => h) (Or.inl ⟨by kernel_rfl, ?_⟩) ?_
      rotate_left
      · (intro wS hwS; obtain ⟨hcS, hfS, hhS⟩ := bcell hwS; go_simp; try (first | (with_reducible rfl) | rw [if_pos (by omega)] | rw [if_neg (by omega)]))
      try simp only [Act.put, List.getElem_toArray, List.getElem_cons_succ, List.getElem_cons_zero, List.setIfInBounds_toArray, List.set_cons_zero, List.set_cons_succ]
      refine stage_read (i := 12) (v := ?_) rfl (by kernel_rfl) (by kernel_rfl) (by kernel_rfl) (by kernel_rfl) (by kernel_rfl) (by kernel_rfl) (fun _ _ _ h => h) (Or.inl ⟨by kernel_rfl, ?_⟩) ?_
      rotate_left
      · (intro wS hwS; obtain ⟨hcS, hfS, hhS⟩ := bcell hwS; go_simp; try (first | (with_reducible rfl) | rw [if_pos (by omega)] | rw [if_neg (by omega)]))
      try simp only [Act.put, List.getElem_toArray, List.getElem_cons_succ, List.getElem_cons_zero, List.setIfInBounds_toArray, List.set_cons_zero, List.set_cons_succ]
      refine stage_read (i := 13) (v := ?_) rfl (by kernel_rfl) (by kernel_rfl) (by kernel_rfl) (by kernel_rfl) (by kernel_rfl) (by kernel_rfl) (fun _ _ _ h => h) (Or.inl ⟨by kernel_rfl, ?_⟩) ?_
      rotate_left
      · (intro wS hwS; obtain ⟨hcS, hfS, hhS⟩ := bcell hwS; go_simp; try (first | (with_reducible rfl) | rw [if_pos (by omega)] | rw [if_neg (by omega)]))
      try simp only [Act.put, List.getElem_toArray, List.getElem_cons_succ, List.getElem_cons_zero, List.setIfInBounds_toArray, List.set_cons_zero, List.set_cons_succ]
      first | refine wpAnyT_done (by kernel_rfl) ?_ _ | refine wpAny_done (by kernel_rfl) ?_ _
      clear hcv2 y0 y1 l0 hy
      have HB := Lib.hid hb
      clear hb
      go_wp2_with fail
      go_roundw
      case rel => exact ⟨k + 1, by go_num, by rw [HC.out, HS1.out], by omega, HB.out⟩
      case measure => simp [intOf]; omega
    · obtain rfl : k = l.length := by omega
      rw [List.take_length]
      have HB := Lib.hid hb
      clear hb
      go_wp2_with fail
      go_ret
      exact ⟨rfl, HB.out⟩
end Go.Proofs.Ytcepknjcgknidaa
