
/- Chapter 19: the reference.s list. -/
import Derived.Test.YtcpkaolfafeojaaOurs19
namespace Go.Proofs.Ytcpkaolfafeojaa
set_option linter.unusedVariables false
set_option linter.unusedSimpArgs false
open Go.RowKit
def ListC (A : Option Addr) (n c k : Nat) : List Value := [.slice A n c, .int .i64 (k : Int)]
def rowP (o : Ask) : List (Nat × Value) := [(0, .int .i64 o.kind), (1, .string o.key), (2, .string o.val), (3, .int .i64 o.rev), (4, .string o.iff), (5, .int .i64 o.ifrev)]
set_option maxRecDepth 100000 in
set_option maxHeartbeats 1000000 in
theorem rop_no (g : Nat) (A : Option Addr) (n c k : Nat) (w : World) (h : At w g 35 (ListC A n c k)) (hk : n ≤ k) :
    Calls Try.prog 22 #[.pointer (some ⟨g, 0, none⟩)] w fun x w' => x = .returned (.tuple #[Ask.zero.v, .bool false]) ∧ Below w.heap.size w w' := by
  unfold ListC at h
  have h1 := h.alloc (.cells Ask.zero.row.toArray 40)
  obtain ⟨hx, hb⟩ := one_at w 40 Ask.zero.row
  have hd : decide (n ≤ k) = true := by simpa using hk
  have hi : (n : Int) ≤ (k : Int) := by omega
  unfold Ask.v Ask.cells
  unfold Ask.row at *
  unfold Ask.zero at *
  have H1 := Lib.hid h1
  have HB := Lib.hid hb
  have HX := Lib.hid hx
  clear h h1 hb hx
  go_enter Try.func22, Try.ntmps22
  go_upto_region 1 with fail
  have h1 := H1.out
  have hb := HB.out
  have hx := HX.out
  clear H1 HB HX
  generalize World.alloc _ _ = w1 at *
  obtain ⟨⟨c0, c1⟩, _⟩ := at2 h1
  go_quiet (fail)
  replace hb := hb.trans (Below.mono (below_drewN (Below.refl w1.heap.size w1) nq) hb.size)
  replace hx := hx.drewN nq
  clear h1 c0 c1
  generalize World.drewN _ _ = w2 at *
  obtain ⟨⟨x0, x1, x2, x3, x4, x5⟩, f0, f1, f2, f3, f4, f5⟩ := at6 hx
  have hgr := (hx.many (rowP Ask.zero)).2
  have hmm := (hx.many (rowP Ask.zero)).1
  replace hb := chainG hb hgr (Nat.le_refl _)
  simp only [rowP, Ask.zero, setMany, setL, List.set_cons_zero, List.set_cons_succ] at hb hmm
  obtain ⟨⟨y0, y1, y2, y3, y4, y5⟩, _⟩ := at6 hmm
  have HB := Lib.hid hb
  clear hb hgr hmm hx
  go_wp2_with fail
  exact bodyPost_ret (v := .tuple #[.agg #[.int .i64 0, .string ⟨#[]⟩, .string ⟨#[]⟩, .int .i64 0, .string ⟨#[]⟩, .int .i64 0], .bool false]) (by simp [results, Try.results22, go_sem, y0, y1, y2, y3, y4, y5]) rfl ⟨rfl, HB.out⟩
set_option maxRecDepth 100000 in
set_option maxHeartbeats 1000000 in
theorem rop_yes (g : Nat) (B : Nat) (A : Option Addr) (n c k : Nat) (L : List Ask) (w : World) (h : At w g 35 (ListC A n c k)) (hl : OwnR9 w B A n c L) (hk : k < L.length) (hL : L.length ≤ 20) :
    Calls Try.prog 22 #[.pointer (some ⟨g, 0, none⟩)] w fun x w' => x = .returned (.tuple #[L[k].v, .bool true]) ∧ Below w.heap.size w w' := by
  unfold ListC at h
  have h1 := h.alloc (.cells Ask.zero.row.toArray 40)
  obtain ⟨hx, hb⟩ := one_at w 40 Ask.zero.row
  have hl1 := hl.below hb
  have hn := hl.len
  have hd : decide (n ≤ k) = false := by simp; omega
  have hi : ¬ (n : Int) ≤ (k : Int) := by omega
  have hi2 : (k : Int) < (n : Int) := by omega
  have hkn : k < n := by omega
  generalize hy : L[k] = y at *
  have HY := Lib.hid hy
  clear hy
  unfold Ask.v Ask.cells
  have H1 := Lib.hid h1
  have HB := Lib.hid hb
  have HX := Lib.hid hx
  have HL := Lib.hid hl1
  clear h h1 hb hx hl hl1 hn
  unfold Ask.row at H1 HB HX HL
  unfold Ask.zero at H1 HB HX HL
  go_enter Try.func22, Try.ntmps22
  go_upto_region 1 with fail
  have h1 := H1.out
  have hb := HB.out
  have hx := HX.out
  have hl := HL.out
  clear H1 HB HX HL
  generalize World.alloc _ _ = w1 at *
  obtain ⟨⟨c0, c1⟩, _⟩ := at2 h1
  go_quiet (fail)
  replace hb := hb.trans (Below.mono (below_drewN (Below.refl w1.heap.size w1) nq) hb.size)
  replace hx := hx.drewN nq
  replace h1 := h1.drewN nq
  replace hl : OwnR9 (w1.drewN nq) B A n c L := hl
  clear c0 c1
  generalize World.drewN _ _ = w2 at *
  go_wp2_with fail
  refine region_any (by kernel_rfl) ?_
  change wpAny _ _ _ _ _ _ _ (World.drew _)
  replace hb := hb.drew
  replace hx := hx.drew
  replace h1 := h1.drew
  replace hl : OwnR9 w2.drew B A n c L := hl
  generalize World.drew _ = w3 at *
  obtain ⟨⟨c0, c1⟩, _⟩ := at2 h1
  obtain ⟨⟨x0, x1, x2, x3, x4, x5⟩, f0, f1, f2, f3, f4, f5⟩ := at6 hx
  obtain ⟨ge, off, e, hge, he⟩ := (Rd.of_own hl).elem Ask.row_length (by omega) (k := k) hk
  subst e
  rw [HY.out] at he
  have l1 := h1.lt
  have e0 := he 0 _ rfl
  have e1 := he 1 _ rfl
  have e2 := he 2 _ rfl
  have e3 := he 3 _ rfl
  have e4 := he 4 _ rfl
  have e5 := he 5 _ rfl
  rw [Nat.add_zero] at e0
  clear he
  have hgr := (hx.many (rowP y)).2
  have hmm := (hx.many (rowP y)).1
  replace hb := chainG hb hgr (Nat.le_refl _)
  simp only [rowP, setMany, setL, List.set_cons_zero, List.set_cons_succ] at hb hmm
  have HB := Lib.hid hb
  have HM := Lib.hid hmm
  clear hb hgr hmm hx hl h1
  refine stage 10 ?_
  refine stage_read (i := 0) (v := ?_) rfl (by kernel_rfl) (by kernel_rfl) (by kernel_rfl) (by kernel_rfl) (by kernel_rfl) (by kernel_rfl) (fun _ _ _ h => h) (Or.inl ⟨by kernel_rfl, ?_⟩) ?_
  rotate_left
  · (intro wS hwS; obtain ⟨hcS, hfS, hhS⟩ := bcell hwS; go_simp; try (first | (with_reducible rfl) | rw [if_pos (by omega)] | rw [if_neg (by omega)]))
  try simp only [Act.put, List.getElem_toArray, List.getElem_cons_succ, List.getElem_cons_zero, List.setIfInBounds_toArray, List.set_cons_zero, List.set_cons_succ]
  refine stage_read (i := 1) (v := ?_) rfl (by kernel_rfl) (by kernel_rfl) (by kernel_rfl) (by kernel_rfl) (by kernel_rfl) (by kernel_rfl) (fun _ _ _ h => h) (Or.inl ⟨by kernel_rfl, ?_⟩) ?_
  rotate_left
  · (intro wS hwS; obtain ⟨hcS, hfS, hhS⟩ := bcell hwS; go_simp; try (first | (with_reducible rfl) | rw [if_pos (by omega)] | rw [if_neg (by omega)]))
  try simp only [Act.put, List.getElem_toArray, List.getElem_cons_succ, List.getElem_cons_zero, List.setIfInBounds_toArray, List.set_cons_zero, List.set_cons_succ]
  refine stage_read (i := 2) (v := ?_) rfl (by kernel_rfl) (by kernel_rfl) (by kernel_rfl) (by kernel_rfl) (by kernel_rfl) (by kernel_rfl) (fun _ _ _ h => h) (Or.inl ⟨by kernel_rfl, ?_⟩) ?_
  rotate_left
  · (intro wS hwS; obtain ⟨hcS, hfS, hhS⟩ := bcell hwS; go_simp; try (first | (with_reducible rfl) | rw [if_pos (by omega)] | rw [if_neg (by omega)]))
  try simp only [Act.put, List.getElem_toArray, List.getElem_cons_succ, List.getElem_cons_zero, List.setIfInBounds_toArray, List.set_cons_zero, List.set_cons_succ]
  refine stage_read (i := 3) (v := ?_) rfl (by kernel_rfl) (by kernel_rfl) (by kernel_rfl) (by kernel_rfl) (by kernel_rfl) (by kernel_rfl) (fun _ _ _ h => h) (Or.inl ⟨by kernel_rfl, ?_⟩) ?_
  rotate_left
  · (intro wS hwS; obtain ⟨hcS, hfS, hhS⟩ := bcell hwS; go_simp; try (first | (with_reducible rfl) | rw [if_pos (by omega)] | rw [if_neg (by omega)]))
  try simp only [Act.put, List.getElem_toArray, List.getElem_cons_succ, List.getElem_cons_zero, List.setIfInBounds_toArray, List.set_cons_zero, List.set_cons_succ]
  refine stage_read (i := 4) (v := ?_) rfl (by kernel_rfl) (by kernel_rfl) (by kernel_rfl) (by kernel_rfl) (by kernel_rfl) (by kernel_rfl) (fun _ _ _ h => h) (Or.inl ⟨by kernel_rfl, ?_⟩) ?_
  rotate_left
  · (intro wS hwS; obtain ⟨hcS, hfS, hhS⟩ := bcell hwS; go_simp; try (first | (with_reducible rfl) | rw [if_pos (by omega)] | rw [if_neg (by omega)]))
  try simp only [Act.put, List.getElem_toArray, List.getElem_cons_succ, List.getElem_cons_zero, List.setIfInBounds_toArray, List.set_cons_zero, List.set_cons_succ]
  refine stage_read (i := 5) (v := ?_) rfl (by kernel_rfl) (by kernel_rfl) (by kernel_rfl) (by kernel_rfl) (by kernel_rfl) (by kernel_rfl) (fun _ _ _ h => h) (Or.inl ⟨by kernel_rfl, ?_⟩) ?_
  rotate_left
  · (intro wS hwS; obtain ⟨hcS, hfS, hhS⟩ := bcell hwS; go_simp; try (first | (with_reducible rfl) | rw [if_pos (by omega)] | rw [if_neg (by omega)]))
  try simp only [Act.put, List.getElem_toArray, List.getElem_cons_succ, List.getElem_cons_zero, List.setIfInBounds_toArray, List.set_cons_zero, List.set_cons_succ]
  refine stage_read (i := 6) (v := ?_) rfl (by kernel_rfl) (by kernel_rfl) (by kernel_rfl) (by kernel_rfl) (by kernel_rfl) (by kernel_rfl) (fun _ _ _ h => h) (Or.inl ⟨by kernel_rfl, ?_⟩) ?_
  rotate_left
  · (intro wS hwS; obtain ⟨hcS, hfS, hhS⟩ := bcell hwS; go_simp; try (first | (with_reducible rfl) | rw [if_pos (by omega)] | rw [if_neg (by omega)]))
  try simp only [Act.put, List.getElem_toArray, List.getElem_cons_succ, List.getElem_cons_zero, List.setIfInBounds_toArray, List.set_cons_zero, List.set_cons_succ]
  refine stage_read (i := 7) (v := ?_) rfl (by kernel_rfl) (by kernel_rfl) (by kernel_rfl) (by kernel_rfl) (by kernel_rfl) (by kernel_rfl) (fun _ _ _ h => h) (Or.inl ⟨by kernel_rfl, ?_⟩) ?_
  rotate_left
  · (intro wS hwS; obtain ⟨hcS, hfS, hhS⟩ := bcell hwS; go_simp; try (first | (with_reducible rfl) | rw [if_pos (by omega)] | rw [if_neg (by omega)]))
  try simp only [Act.put, List.getElem_toArray, List.getElem_cons_succ, List.getElem_cons_zero, List.setIfInBounds_toArray, List.set_cons_zero, List.set_cons_succ]
  refine stage_read (i := 8) (v := ?_) rfl (by kernel_rfl) (by kernel_rfl) (by kernel_rfl) (by kernel_rfl) (by kernel_rfl) (by kernel_rfl) (fun _ _ _ h => h) (Or.inl ⟨by kernel_rfl, ?_⟩) ?_
  rotate_left
  · (intro wS hwS; obtain ⟨hcS, hfS, hhS⟩ := bcell hwS; go_simp; try (first | (with_reducible rfl) | rw [if_pos (by omega)] | rw [if_neg (by omega)]))
  try simp only [Act.put, List.getElem_toArray, List.getElem_cons_succ, List.getElem_cons_zero, List.setIfInBounds_toArray, List.set_cons_zero, List.set_cons_succ]
  refine stage_read (i := 9) (v := ?_) rfl (by kernel_rfl) (by kernel_rfl) (by kernel_rfl) (by kernel_rfl) (by kernel_rfl) (by kernel_rfl) (fun _ _ _ h => h) (Or.inl ⟨by kernel_rfl, ?_⟩) ?_
  rotate_left
  · (intro wS hwS; obtain ⟨hcS, hfS, hhS⟩ := bcell hwS; go_simp; try (first | (with_reducible rfl) | rw [if_pos (by omega)] | rw [if_neg (by omega)]))
  try simp only [Act.put, List.getElem_toArray, List.getElem_cons_succ, List.getElem_cons_zero, List.setIfInBounds_toArray, List.set_cons_zero, List.set_cons_succ]
  refine stage_end (by kernel_rfl) rfl (fun K hK => ?_)
  go_simp
  refine hK.out _ _ ?_
  clear hK K
  try simp only [Act.put, List.getElem_toArray, List.getElem_cons_succ, List.getElem_cons_zero, List.setIfInBounds_toArray, List.set_cons_zero, List.set_cons_succ]
  first | refine stage 1000000 ?_ | skip
  refine stage_read (i := 11) (v := ?_) rfl (by kernel_rfl) (by kernel_rfl) (by kernel_rfl) (by kernel_rfl) (by kernel_rfl) (by kernel_rfl) (fun _ _ _ h => h) (Or.inl ⟨by kernel_rfl, ?_⟩) ?_
  rotate_left
  · (intro wS hwS; obtain ⟨hcS, hfS, hhS⟩ := bcell hwS; go_simp; try (first | (with_reducible rfl) | rw [if_pos (by omega)] | rw [if_neg (by omega)]))
  try simp only [Act.put, List.getElem_toArray, List.getElem_cons_succ, List.getElem_cons_zero, List.setIfInBounds_toArray, List.set_cons_zero, List.set_cons_succ]
  first | refine wpAnyT_done (by kernel_rfl) ?_ _ | refine wpAny_done (by kernel_rfl) ?_ _
  have hmm := HM.out
  have hb := HB.out
  clear HM HB x0 x1 x2 x3 x4 x5 f0 f1 f2 f3 f4 f5 e0 e1 e2 e3 e4 e5 c0 c1
  generalize World.setCell _ _ _ = w4 at *
  obtain ⟨⟨y0, y1, y2, y3, y4, y5⟩, _⟩ := at6 hmm
  go_wp2_with fail
  exact bodyPost_ret (v := .tuple #[.agg #[.int .i64 y.kind, .string y.key, .string y.val, .int .i64 y.rev, .string y.iff, .int .i64 y.ifrev], .bool true]) (by simp [results, Try.results22, go_sem, y0, y1, y2, y3, y4, y5]) rfl ⟨rfl, hb⟩
end Go.Proofs.Ytcpkaolfafeojaa
