
/- The law HandleBack: the Go function returns true, whatever it is given. -/
import Derived.Test.YtcepknjcgknidaaBack17
import Derived.Test.YtcepknjcgknidaaPut17
namespace Go.Proofs.Ytcepknjcgknidaa
set_option linter.unusedVariables false
set_option linter.unusedSimpArgs false
open Go.RowKit
theorem HRes.fst {w w' : World} {l : List Ct} {e : Int} {r : Ending} (h : HRes w w' (l, e) r) : ∃ A2 n2 c2, r = .returned (.tuple #[.agg #[.slice A2 n2 c2], .int .i64 e]) ∧ OwnC w' w.heap.size A2 n2 c2 l ∧ Below w.heap.size w w' := h
set_option maxRecDepth 100000 in
set_option maxHeartbeats 4000000 in
theorem handleBack_walk {A : Option Addr} {n c : Nat} {l0 : List Ct} {a : Nat} {m : Int} (w : World) (hr : RdC w w.heap.size A n c l0) (hf0 : ∀ y ∈ l0, y.fits) (hal : a < 4294967296) (hm : -9223372036854775808 ≤ m ∧ m ≤ 9223372036854775807) :
    Calls Try.prog 8 #[.slice A n c, .int .u32 (a : Int), .int .i64 m] w fun r w' => r = .returned (.bool true) ∧ Below w.heap.size w w' := by
  have hours := ours17_any A n c l0 w hr
  obtain ⟨l, hl⟩ : ∃ l, l = l0.take 40 := ⟨_, rfl⟩
  have hf : ∀ y ∈ l, y.b < 4294967296 := fun y hy => (hf0 y (by rw [hl] at hy; exact List.mem_of_mem_take hy)).1
  rw [← hl] at hours
  have hl40 : l.length ≤ 40 := by rw [hl, List.length_take]; omega
  have HOU := Lib.hid hours
  generalize min n 40 = k at *
  clear hours hl hr hf0
  have HF := Lib.hid hf
  clear hf
  obtain ⟨x, hx⟩ : ∃ x, x = a - a % 64 := ⟨_, rfl⟩
  have hx64 : x % 64 = 0 := by omega
  have hxl : x < 4294967296 := by omega
  have HX := Lib.hid hx
  clear hx
  go_enter Try.func8, Try.ntmps8
  go_upto_region 2 with ((with_reducible refine calls_id ?_); refine HOU.out.mono ?_; rintro r w1 ⟨A1, c1, rfl, hown, hb1⟩)
  have HLK := Lib.hid hown.len
  have hk40 : k ≤ 40 := by have := HLK.out; omega
  have hrdh := hown.rd
  obtain ⟨h7, hb2⟩ := one_at w1 62 [.slice A1 k c1]
  replace hrdh := hrdh.step hb2
  have HB := Lib.hid (chain hb1 hb2)
  generalize World.alloc _ _ = w2 at *
  generalize w1.heap.size = g7 at *
  obtain ⟨x0, x1⟩ := at1 h7
  clear hb1 hb2 hown HOU
  have hadd := hadd_any A1 k c1 l a x m w2 hrdh HF.out (by omega) HX.out hal
  by_cases he : (add17p l x m).2 = 0
  · obtain ⟨hr17, l2, hadd2, hr2, hl2, hsub, htot, hmem⟩ := back17 hx64 (by omega) he
    rw [hadd2] at hadd
    have HADD := Lib.hid hadd
    have HQ := Lib.hid hr17
    have HQ2 := Lib.hid hr2
    have HSU := Lib.hid hsub
    have HTO := Lib.hid htot
    clear hadd he hadd2 hsub htot hr17 hr2
    go_upto_region 3 with (((with_reducible refine calls_id ?_); refine HADD.out.mono ?_; rintro r w3 ⟨A3, n3, c3, rfl, hown, hb3⟩))
    have HLK3 := Lib.hid hown.len
    have hk3 : n3 < 4096 := by have := HLK3.out; (try simp only at this); omega
    have hrdx : RdC w3 w3.heap.size A3 n3 c3 l2 := hown.rd
    (replace hrdh := hrdh.step hb3); (replace h7 := h7.step hb3); (replace HB := Lib.hid (chain HB.out hb3))
    clear hown hb3 x0 x1 HADD
    obtain ⟨h8, hb4⟩ := one_at w3 62 [.slice A3 n3 c3]
    (replace hrdh := hrdh.step hb4); (replace h7 := h7.step hb4); (replace hrdx := hrdx.step hb4); (replace HB := Lib.hid (chain HB.out hb4))
    clear hb4
    generalize World.alloc _ _ = w4 at *
    generalize w3.heap.size = g8 at *
    obtain ⟨y0, y1⟩ := at1 h8
    have hfl2 : ∀ y ∈ l2, y.b < 4294967296 := fun y hy => by
      rcases hmem y hy with h | h
      · exact HF.out y h
      · omega
    have HF2 := Lib.hid hfl2
    have hsub := hsub_any A3 n3 c3 l2 a x m w4 hrdx HF2.out (by omega) HX.out hal
    rw [HSU.out] at hsub
    have HSUB := Lib.hid hsub
    clear hsub hfl2
    go_upto_region 6 with (((with_reducible refine calls_id ?_); refine HSUB.out.mono ?_; rintro r w5 ⟨A5, n5, c5, rfl, hown, hb5⟩))
    have hrdy : RdC w5 w5.heap.size A5 n5 c5 l := hown.rd
    have HLK5 := Lib.hid hown.len
    have hk5 : n5 ≤ 4096 := by have := HLK5.out; (try simp only at this); omega
    (replace hrdh := hrdh.step hb5); (replace h7 := h7.step hb5); (replace hrdx := hrdx.step hb5); (replace h8 := h8.step hb5); (replace HB := Lib.hid (chain HB.out hb5))
    clear hown hb5 y0 y1 HSUB
    obtain ⟨h10, hb6⟩ := one_at w5 62 [.slice A5 n5 c5]
    (replace hrdh := hrdh.step hb6); (replace h7 := h7.step hb6); (replace hrdx := hrdx.step hb6); (replace h8 := h8.step hb6); (replace hrdy := hrdy.step hb6); (replace HB := Lib.hid (chain HB.out hb6))
    clear hb6
    generalize World.alloc _ _ = w6 at *
    generalize w5.heap.size = g10 at *
    refine region_any (by kernel_rfl) ?_
    change wpAny _ _ _ _ _ _ _ (World.drew _)
    replace h7 := h7.drew
    replace h8 := h8.drew
    replace h10 := h10.drew
    have hrdh : RdC w6.drew w6.drew.heap.size A1 k c1 l := hrdh.drewN 1
    have hrdx : RdC w6.drew w6.drew.heap.size A3 n3 c3 l2 := hrdx.drewN 1
    have hrdy : RdC w6.drew w6.drew.heap.size A5 n5 c5 l := hrdy.drewN 1
    have HB := Lib.hid HB.out.drew
    generalize World.drew _ = w7 at *
    obtain ⟨x0, x1⟩ := at1 h7
    obtain ⟨y0, y1⟩ := at1 h8
    obtain ⟨z0, z1⟩ := at1 h10
    have l7 := h7.lt
    have l8 := h8.lt
    have l10 := h10.lt
    have htb := tot_bounds HQ.out l.length (Nat.le_refl _)
    have htb2 := tot_bounds HQ2.out l2.length (Nat.le_refl _)
    rw [List.take_length] at htb htb2
    have hwt : IntKind.i64.wrap (tot17 l + m) = tot17 l + m := IntWalk.i64_in _ (by have := HTO.out; omega)
    have htt : (tot17 l2 == tot17 l + m) = true := by rw [HTO.out]; simp
    refine stage 100000 ?_
    refine stage_read (i := 0) (v := ?_) rfl (by kernel_rfl) (by kernel_rfl) (by kernel_rfl) (by kernel_rfl) (by kernel_rfl) (by kernel_rfl) (fun _ _ _ h => h) (Or.inl ⟨by kernel_rfl, ?_⟩) ?_
    rotate_left
    · (intro wS hwS; obtain ⟨hcS, hfS, hhS⟩ := bcell hwS; go_simp; try (first | (with_reducible rfl) | rw [if_pos (by omega)] | rw [if_neg (by omega)]))
    try simp only [Act.put, List.getElem_toArray, List.getElem_cons_succ, List.getElem_cons_zero, List.setIfInBounds_toArray, List.set_cons_zero, List.set_cons_succ]
    refine stage_read (i := 1) (v := ?_) rfl (by kernel_rfl) (by kernel_rfl) (by kernel_rfl) (by kernel_rfl) (by kernel_rfl) (by kernel_rfl) (fun _ _ _ h => h) (Or.inl ⟨by kernel_rfl, ?_⟩) ?_
    rotate_left
    · (intro wS hwS; obtain ⟨hcS, hfS, hhS⟩ := bcell hwS; go_simp; try (first | (with_reducible rfl) | rw [if_pos (by omega)] | rw [if_neg (by omega)]))
    try simp only [Act.put, List.getElem_toArray, List.getElem_cons_succ, List.getElem_cons_zero, List.setIfInBounds_toArray, List.set_cons_zero, List.set_cons_succ]
    refine stage_read (i := 2) (v := ?_) rfl (by kernel_rfl) (by kernel_rfl) (by kernel_rfl) (by kernel_rfl) (by kernel_rfl) (by kernel_rfl) (fun _ _ _ h => h) (Or.inl ⟨by kernel_rfl, ?_⟩) ?_
    rotate_left
    · (intro wS hwS; obtain ⟨hcS, hfS, hhS⟩ := bcell hwS; go_simp; try (first | (with_reducible rfl) | rw [if_pos (by omega)] | rw [if_neg (by omega)]))
    try simp only [Act.put, List.getElem_toArray, List.getElem_cons_succ, List.getElem_cons_zero, List.setIfInBounds_toArray, List.set_cons_zero, List.set_cons_succ]
    refine stage_read (i := 3) (v := ?_) rfl (by kernel_rfl) (by kernel_rfl) (by kernel_rfl) (by kernel_rfl) (by kernel_rfl) (by kernel_rfl) (fun _ _ _ h => h) (Or.inl ⟨by kernel_rfl, ?_⟩) ?_
    rotate_left
    · (intro wS hwS; obtain ⟨hcS, hfS, hhS⟩ := bcell hwS; go_simp; try (first | (with_reducible rfl) | rw [if_pos (by omega)] | rw [if_neg (by omega)]))
    try simp only [Act.put, List.getElem_toArray, List.getElem_cons_succ, List.getElem_cons_zero, List.setIfInBounds_toArray, List.set_cons_zero, List.set_cons_succ]
    refine stage_read (i := 5) (v := ?_) rfl (by kernel_rfl) (by kernel_rfl) (by kernel_rfl) (by kernel_rfl) (by kernel_rfl) (by kernel_rfl) (fun _ _ _ h => h) (Or.inl ⟨by kernel_rfl, ?_⟩) ?_
    rotate_left
    · (intro wS hwS; obtain ⟨hcS, hfS, hhS⟩ := bcell hwS; go_simp; try (first | (with_reducible rfl) | rw [if_pos (by omega)] | rw [if_neg (by omega)]))
    try simp only [Act.put, List.getElem_toArray, List.getElem_cons_succ, List.getElem_cons_zero, List.setIfInBounds_toArray, List.set_cons_zero, List.set_cons_succ]
    refine stage_one 4 (by kernel_rfl) rfl (by kernel_rfl) (fun K hK => ?_)
    go_simp
    refine (plain17_any A5 n5 c5 l _ hrdy (by omega)).mono ?_
    rintro r w8 ⟨A8, c8, rfl, ho8, hb8⟩
    refine hK.out _ _ (hb8) ?_
    clear hK K
    try simp only [Act.put, List.getElem_toArray, List.getElem_cons_succ, List.getElem_cons_zero, List.setIfInBounds_toArray, List.set_cons_zero, List.set_cons_succ]
    have hrd8 := ho8.rd
    (replace hrdh := hrdh.step hb8); (replace hrdx := hrdx.step hb8); (replace hrdy := hrdy.step hb8); (replace h7 := h7.step hb8); (replace h8 := h8.step hb8); (replace h10 := h10.step hb8); (replace HB := Lib.hid (chain HB.out hb8))
    obtain ⟨x0, x1⟩ := at1 h7
    obtain ⟨y0, y1⟩ := at1 h8
    obtain ⟨z0, z1⟩ := at1 h10
    have l7 := h7.lt
    have l8 := h8.lt
    have l10 := h10.lt

    refine stage_one 6 (by kernel_rfl) rfl (by kernel_rfl) (fun K hK => ?_)
    go_simp
    refine (plain17_any A1 k c1 l _ hrdh (by omega)).mono ?_
    rintro r w9 ⟨A9, c9, rfl, ho9, hb9⟩
    refine hK.out _ _ (hb9) ?_
    clear hK K
    try simp only [Act.put, List.getElem_toArray, List.getElem_cons_succ, List.getElem_cons_zero, List.setIfInBounds_toArray, List.set_cons_zero, List.set_cons_succ]
    have hrd9 := ho9.rd
    (replace hrdh := hrdh.step hb9); (replace hrdx := hrdx.step hb9); (replace hrdy := hrdy.step hb9); (replace h7 := h7.step hb9); (replace h8 := h8.step hb9); (replace h10 := h10.step hb9); (replace hrd8 := hrd8.step hb9); (replace HB := Lib.hid (chain HB.out hb9))
    obtain ⟨x0, x1⟩ := at1 h7
    obtain ⟨y0, y1⟩ := at1 h8
    obtain ⟨z0, z1⟩ := at1 h10
    have l7 := h7.lt
    have l8 := h8.lt
    have l10 := h10.lt

    refine stage_one 7 (by kernel_rfl) rfl (by kernel_rfl) (fun K hK => ?_)
    go_simp
    refine (same17_any _ _ _ l _ _ _ l _ hrd8 hrd9).mono ?_
    rintro r w10 ⟨rfl, hb10⟩
    rw [decide_eq_true (show l = l from rfl)]
    refine hK.out _ _ (hb10) ?_
    clear hK K
    try simp only [Act.put, List.getElem_toArray, List.getElem_cons_succ, List.getElem_cons_zero, List.setIfInBounds_toArray, List.set_cons_zero, List.set_cons_succ]
    (replace hrdh := hrdh.step hb10); (replace hrdx := hrdx.step hb10); (replace h7 := h7.step hb10); (replace h8 := h8.step hb10); (replace h10 := h10.step hb10); (replace HB := Lib.hid (chain HB.out hb10))
    obtain ⟨x0, x1⟩ := at1 h7
    obtain ⟨y0, y1⟩ := at1 h8
    obtain ⟨z0, z1⟩ := at1 h10
    have l7 := h7.lt
    have l8 := h8.lt
    have l10 := h10.lt
    refine stage_read (i := 8) (v := ?_) rfl (by kernel_rfl) (by kernel_rfl) (by kernel_rfl) (by kernel_rfl) (by kernel_rfl) (by kernel_rfl) (fun _ _ _ h => h) (Or.inl ⟨by kernel_rfl, ?_⟩) ?_
    rotate_left
    · (intro wS hwS; obtain ⟨hcS, hfS, hhS⟩ := bcell hwS; go_simp; try (first | (with_reducible rfl) | rw [if_pos (by omega)] | rw [if_neg (by omega)]))
    try simp only [Act.put, List.getElem_toArray, List.getElem_cons_succ, List.getElem_cons_zero, List.setIfInBounds_toArray, List.set_cons_zero, List.set_cons_succ]
    refine stage_read (i := 9) (v := ?_) rfl (by kernel_rfl) (by kernel_rfl) (by kernel_rfl) (by kernel_rfl) (by kernel_rfl) (by kernel_rfl) (fun _ _ _ h => h) (Or.inl ⟨by kernel_rfl, ?_⟩) ?_
    rotate_left
    · (intro wS hwS; obtain ⟨hcS, hfS, hhS⟩ := bcell hwS; go_simp; try (first | (with_reducible rfl) | rw [if_pos (by omega)] | rw [if_neg (by omega)]))
    try simp only [Act.put, List.getElem_toArray, List.getElem_cons_succ, List.getElem_cons_zero, List.setIfInBounds_toArray, List.set_cons_zero, List.set_cons_succ]
    refine stage_read (i := 10) (v := ?_) rfl (by kernel_rfl) (by kernel_rfl) (by kernel_rfl) (by kernel_rfl) (by kernel_rfl) (by kernel_rfl) (fun _ _ _ h => h) (Or.inl ⟨by kernel_rfl, ?_⟩) ?_
    rotate_left
    · (intro wS hwS; obtain ⟨hcS, hfS, hhS⟩ := bcell hwS; go_simp; try (first | (with_reducible rfl) | rw [if_pos (by omega)] | rw [if_neg (by omega)]))
    try simp only [Act.put, List.getElem_toArray, List.getElem_cons_succ, List.getElem_cons_zero, List.setIfInBounds_toArray, List.set_cons_zero, List.set_cons_succ]
    refine stage_read (i := 12) (v := ?_) rfl (by kernel_rfl) (by kernel_rfl) (by kernel_rfl) (by kernel_rfl) (by kernel_rfl) (by kernel_rfl) (fun _ _ _ h => h) (Or.inl ⟨by kernel_rfl, ?_⟩) ?_
    rotate_left
    · (intro wS hwS; obtain ⟨hcS, hfS, hhS⟩ := bcell hwS; go_simp; try (first | (with_reducible rfl) | rw [if_pos (by omega)] | rw [if_neg (by omega)]))
    try simp only [Act.put, List.getElem_toArray, List.getElem_cons_succ, List.getElem_cons_zero, List.setIfInBounds_toArray, List.set_cons_zero, List.set_cons_succ]
    refine stage_read (i := 14) (v := ?_) rfl (by kernel_rfl) (by kernel_rfl) (by kernel_rfl) (by kernel_rfl) (by kernel_rfl) (by kernel_rfl) (fun _ _ _ h => h) (Or.inl ⟨by kernel_rfl, ?_⟩) ?_
    rotate_left
    · (intro wS hwS; obtain ⟨hcS, hfS, hhS⟩ := bcell hwS; go_simp; try (first | (with_reducible rfl) | rw [if_pos (by omega)] | rw [if_neg (by omega)]))
    try simp only [Act.put, List.getElem_toArray, List.getElem_cons_succ, List.getElem_cons_zero, List.setIfInBounds_toArray, List.set_cons_zero, List.set_cons_succ]
    refine stage_one 11 (by kernel_rfl) rfl (by kernel_rfl) (fun K hK => ?_)
    go_simp
    refine (tot17_any _ _ _ l2 _ hrdx HQ2.out).mono ?_
    rintro r w11 ⟨rfl, hb11⟩
    refine hK.out _ _ (hb11) ?_
    clear hK K
    try simp only [Act.put, List.getElem_toArray, List.getElem_cons_succ, List.getElem_cons_zero, List.setIfInBounds_toArray, List.set_cons_zero, List.set_cons_succ]
    (replace hrdh := hrdh.step hb11); (replace h7 := h7.step hb11); (replace h8 := h8.step hb11); (replace h10 := h10.step hb11); (replace HB := Lib.hid (chain HB.out hb11))
    obtain ⟨x0, x1⟩ := at1 h7
    obtain ⟨y0, y1⟩ := at1 h8
    obtain ⟨z0, z1⟩ := at1 h10
    have l7 := h7.lt
    have l8 := h8.lt
    have l10 := h10.lt

    refine stage_one 13 (by kernel_rfl) rfl (by kernel_rfl) (fun K hK => ?_)
    go_simp
    refine (tot17_any _ _ _ l _ hrdh HQ.out).mono ?_
    rintro r w12 ⟨rfl, hb12⟩
    refine hK.out _ _ (hb12) ?_
    clear hK K
    try simp only [Act.put, List.getElem_toArray, List.getElem_cons_succ, List.getElem_cons_zero, List.setIfInBounds_toArray, List.set_cons_zero, List.set_cons_succ]
    (replace h7 := h7.step hb12); (replace h8 := h8.step hb12); (replace h10 := h10.step hb12); (replace HB := Lib.hid (chain HB.out hb12))
    obtain ⟨x0, x1⟩ := at1 h7
    obtain ⟨y0, y1⟩ := at1 h8
    obtain ⟨z0, z1⟩ := at1 h10
    have l7 := h7.lt
    have l8 := h8.lt
    have l10 := h10.lt
    refine stage_read (i := 15) (v := ?_) rfl (by kernel_rfl) (by kernel_rfl) (by kernel_rfl) (by kernel_rfl) (by kernel_rfl) (by kernel_rfl) (fun _ _ _ h => h) (Or.inl ⟨by kernel_rfl, ?_⟩) ?_
    rotate_left
    · (intro wS hwS; obtain ⟨hcS, hfS, hhS⟩ := bcell hwS; go_simp; try (first | (with_reducible rfl) | rw [if_pos (by omega)] | rw [if_neg (by omega)]))
    try simp only [Act.put, List.getElem_toArray, List.getElem_cons_succ, List.getElem_cons_zero, List.setIfInBounds_toArray, List.set_cons_zero, List.set_cons_succ]
    refine stage_read (i := 16) (v := ?_) rfl (by kernel_rfl) (by kernel_rfl) (by kernel_rfl) (by kernel_rfl) (by kernel_rfl) (by kernel_rfl) (fun _ _ _ h => h) (Or.inl ⟨by kernel_rfl, ?_⟩) ?_
    rotate_left
    · (intro wS hwS; obtain ⟨hcS, hfS, hhS⟩ := bcell hwS; go_simp; try (first | (with_reducible rfl) | rw [if_pos (by omega)] | rw [if_neg (by omega)]))
    try simp only [Act.put, List.getElem_toArray, List.getElem_cons_succ, List.getElem_cons_zero, List.setIfInBounds_toArray, List.set_cons_zero, List.set_cons_succ]
    refine stage_read (i := 17) (v := ?_) rfl (by kernel_rfl) (by kernel_rfl) (by kernel_rfl) (by kernel_rfl) (by kernel_rfl) (by kernel_rfl) (fun _ _ _ h => h) (Or.inl ⟨by kernel_rfl, ?_⟩) ?_
    rotate_left
    · (intro wS hwS; obtain ⟨hcS, hfS, hhS⟩ := bcell hwS; go_simp; try (first | (with_reducible rfl) | rw [if_pos (by omega)] | rw [if_neg (by omega)]))
    try simp only [Act.put, List.getElem_toArray, List.getElem_cons_succ, List.getElem_cons_zero, List.setIfInBounds_toArray, List.set_cons_zero, List.set_cons_succ]
    refine stage_read (i := 18) (v := ?_) rfl (by kernel_rfl) (by kernel_rfl) (by kernel_rfl) (by kernel_rfl) (by kernel_rfl) (by kernel_rfl) (fun _ _ _ h => h) (Or.inl ⟨by kernel_rfl, ?_⟩) ?_
    rotate_left
    · (intro wS hwS; obtain ⟨hcS, hfS, hhS⟩ := bcell hwS; go_simp; try (first | (with_reducible rfl) | rw [if_pos (by omega)] | rw [if_neg (by omega)]))
    try simp only [Act.put, List.getElem_toArray, List.getElem_cons_succ, List.getElem_cons_zero, List.setIfInBounds_toArray, List.set_cons_zero, List.set_cons_succ]
    refine stage_one 19 (by kernel_rfl) rfl (by kernel_rfl) (fun K hK => ?_)
    go_simp
    refine (awake17_any _).mono ?_
    rintro r w13 ⟨rfl, hb13⟩
    refine hK.out _ _ (hb13) ?_
    clear hK K
    try simp only [Act.put, List.getElem_toArray, List.getElem_cons_succ, List.getElem_cons_zero, List.setIfInBounds_toArray, List.set_cons_zero, List.set_cons_succ]
    replace HB := Lib.hid (chain HB.out hb13)
    refine stage_read (i := 20) (v := ?_) rfl (by kernel_rfl) (by kernel_rfl) (by kernel_rfl) (by kernel_rfl) (by kernel_rfl) (by kernel_rfl) (fun _ _ _ h => h) (Or.inl ⟨by kernel_rfl, ?_⟩) ?_
    rotate_left
    · (intro wS hwS; obtain ⟨hcS, hfS, hhS⟩ := bcell hwS; go_simp; try (first | (with_reducible rfl) | rw [if_pos (by omega)] | rw [if_neg (by omega)]))
    try simp only [Act.put, List.getElem_toArray, List.getElem_cons_succ, List.getElem_cons_zero, List.setIfInBounds_toArray, List.set_cons_zero, List.set_cons_succ]
    refine stage_read (i := 21) (v := ?_) rfl (by kernel_rfl) (by kernel_rfl) (by kernel_rfl) (by kernel_rfl) (by kernel_rfl) (by kernel_rfl) (fun _ _ _ h => h) (Or.inl ⟨by kernel_rfl, ?_⟩) ?_
    rotate_left
    · (intro wS hwS; obtain ⟨hcS, hfS, hhS⟩ := bcell hwS; go_simp; try (first | (with_reducible rfl) | rw [if_pos (by omega)] | rw [if_neg (by omega)]))
    try simp only [Act.put, List.getElem_toArray, List.getElem_cons_succ, List.getElem_cons_zero, List.setIfInBounds_toArray, List.set_cons_zero, List.set_cons_succ]
    first | refine wpAnyT_done (by kernel_rfl) ?_ _ | refine wpAny_done (by kernel_rfl) ?_ _
    clear htb htb2 hwt htt
    go_wp2_with fail
    go_ret
    exact ⟨rfl, HB.out⟩
  · have hfst := add17_bad he
    obtain ⟨e, hee⟩ : ∃ e, (add17p l x m).2 = e := ⟨_, rfl⟩
    rw [hee] at he
    have hpe : add17p l x m = ([], e) := Prod.ext hfst hee
    rw [hpe] at hadd
    have HADD := Lib.hid hadd
    have heb : (e == 0) = false := beq_eq_false_iff_ne.mpr he
    clear hadd hfst hee hpe
    go_upto_region 3 with (((with_reducible refine calls_id ?_); refine HADD.out.mono ?_; rintro r w3 ⟨A3, n3, c3, rfl, hown, hb3⟩))
    have hl0 := hown.len
    obtain rfl : n3 = 0 := hl0
    (replace h7 := h7.step hb3); (replace HB := Lib.hid (chain HB.out hb3))
    clear hown hb3 x0 x1 HADD hrdh
    obtain ⟨h8, hb4⟩ := one_at w3 62 [.slice A3 0 c3]
    (replace h7 := h7.step hb4); (replace HB := Lib.hid (chain HB.out hb4))
    clear hb4
    generalize World.alloc _ _ = w4 at *
    generalize w3.heap.size = g8 at *
    obtain ⟨y0, y1⟩ := at1 h8
    go_wp2_with (((with_reducible refine calls_id ?_); refine (awake17_any _).mono ?_; rintro r w5 ⟨rfl, hb5⟩); replace HB := Lib.hid (chain HB.out hb5))
    go_ret
    exact ⟨rfl, HB.out⟩
end Go.Proofs.Ytcepknjcgknidaa
