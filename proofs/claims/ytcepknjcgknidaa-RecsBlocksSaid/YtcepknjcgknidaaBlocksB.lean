
/- Chapter 13: one block of a pool; blocks from a seed's place on; the reference's blocks. -/
import Derived.Test.YtcepknjcgknidaaBlocks
namespace Go.Proofs.Ytcepknjcgknidaa
set_option linter.unusedVariables false
set_option linter.unusedSimpArgs false
open Go.RowKit
def Pool.cnt (p : Pool) : Nat := if p.right = true then cntN p.b.toNat else 0
theorem cnt_blocks (p : Pool) (hp : p.a < 4294967296) (w : World) : Calls Try.prog 23 #[p.v] w fun x w' => x = .returned (.int .i64 (p.cnt : Int)) ∧ Below w.heap.size w w' := by
  refine blocks_any p p.cnt hp ?_ w
  unfold Pool.cnt
  split <;> simp
theorem cnt_bound (p : Pool) : p.cnt ≤ 1024 := by
  unfold Pool.cnt
  split
  · rename_i h
    obtain ⟨m, hm, h16, h26⟩ := right_in h
    rw [hm]
    exact cnt_le h16
  · omega
theorem block_no (p : Pool) (k : Int) (hp : p.a < 4294967296) (hk : k < 0 ∨ (p.cnt : Int) ≤ k) (w : World) : Calls Try.prog 21 #[p.v, .int .i64 k] w fun x w' => x = .returned (.tuple #[.int .u32 0, .bool false]) ∧ Below w.heap.size w w' := by
  obtain ⟨hx, hb⟩ := one_at w 42 p.row
  have hc := cnt_blocks p hp (w.alloc (.cells p.row.toArray 42))
  have hbd := cnt_bound p
  generalize p.cnt = n at *
  unfold Pool.v at *
  unfold Pool.row at *
  have HB := Lib.hid hb
  have HC := Lib.hid hc
  clear hx hb hc
  rcases (show k < 0 ∨ (¬ k < 0 ∧ (n : Int) ≤ k) by omega) with h0 | ⟨h0, h1⟩
  · clear hk
    go_enter Try.func21, Try.ntmps21
    go_wp2_with fail
    go_ret2
    exact ⟨rfl, HB.out⟩
  · clear hk
    have hd : decide ((n : Int) ≤ k) = true := decide_eq_true h1
    go_enter Try.func21, Try.ntmps21
    go_wp2_with fail
    refine HC.out.mono ?_
    rintro x w1 ⟨rfl, hb1⟩
    go_wp2_with fail
    go_ret2
    exact ⟨rfl, chain HB.out hb1⟩
theorem block_yes (p : Pool) (k : Nat) (hp : p.a < 4294967296) (hk : k < p.cnt) (w : World) : Calls Try.prog 21 #[p.v, .int .i64 (k : Int)] w fun x w' => x = .returned (.tuple #[.int .u32 ((p.a : Int) + (k : Int) * 64), .bool true]) ∧ Below w.heap.size w w' := by
  have hright : p.right = true := by
    unfold Pool.cnt at hk
    split at hk
    · assumption
    · omega
  obtain ⟨m, hm, h16, h26⟩ := right_in hright
  have hrn : rightN p.a (m : Int) = true := by rw [← hm]; exact hright
  have hk2 : k < cntN m := by
    unfold Pool.cnt at hk
    rw [if_pos hright, hm] at hk
    exact hk
  obtain ⟨hx, hb⟩ := one_at w 42 p.row
  have hc := cnt_blocks p hp (w.alloc (.cells p.row.toArray 42))
  have hn := fun w => nth_ok p.a m k hp hrn hk2 w
  have hbd := cnt_bound p
  generalize p.cnt = n at *
  have hd : decide ((n : Int) ≤ (k : Int)) = false := decide_eq_false (by omega)
  have hd2 : decide (n ≤ k) = false := decide_eq_false (by omega)
  have hd3 : ¬ ((n : Int) ≤ (k : Int)) := by omega
  obtain ⟨a, b, o⟩ := p
  simp only at hm hn hp ⊢
  subst hm
  unfold Pool.v at *
  unfold Pool.row at *
  simp only at *
  have HX := Lib.hid hx
  have HB := Lib.hid hb
  have HC := Lib.hid hc
  have HN := Lib.hid hn
  clear hx hb hc hn hright hrn hk2
  go_enter Try.func21, Try.ntmps21
  go_wp2_with fail
  refine HC.out.mono ?_
  rintro x w1 ⟨rfl, hb1⟩
  have hb := chain HB.out hb1
  obtain ⟨⟨c0, c1, c2⟩, _⟩ := at3 (HX.out.below hb1)
  clear hb1 HX HB HC
  go_wp2_with fail
  refine (HN.out _).mono ?_
  rintro x w2 ⟨rfl, hb2⟩
  replace hb := chain hb hb2
  clear hb2 c0 c1 c2
  go_upto_region 4 with fail
  obtain ⟨hy, hb3⟩ := one_at w2 40 [.int .u32 ((a : Int) + (k : Int) * 64), .int .i64 26]
  replace hb := chain hb hb3
  clear hb3
  generalize World.alloc _ _ = w3 at *
  obtain ⟨⟨c0, c1⟩, _⟩ := at2 hy
  go_wp2_with fail
  go_ret2
  exact ⟨rfl, hb⟩
theorem from_no (p : Pool) (seed : Nat) (k : Int) (hp : p.a < 4294967296) (hk : k < 0 ∨ (p.cnt : Int) ≤ k) (w : World) : Calls Try.prog 22 #[p.v, .int .u64 (seed : Int), .int .i64 k] w fun x w' => x = .returned (.tuple #[.int .u32 0, .bool false]) ∧ Below w.heap.size w w' := by
  obtain ⟨hx, hb⟩ := one_at w 42 p.row
  have hc := cnt_blocks p hp (w.alloc (.cells p.row.toArray 42))
  have hbd := cnt_bound p
  generalize p.cnt = n at *
  unfold Pool.v at *
  unfold Pool.row at *
  have HB := Lib.hid hb
  have HC := Lib.hid hc
  clear hx hb hc
  rcases (show k < 0 ∨ (¬ k < 0 ∧ (n : Int) ≤ k) by omega) with h0 | ⟨h0, h1⟩
  · clear hk
    go_enter Try.func22, Try.ntmps22
    go_wp2_with fail
    refine HC.out.mono ?_
    rintro x w1 ⟨rfl, hb1⟩
    go_wp2_with fail
    go_ret2
    exact ⟨rfl, chain HB.out hb1⟩
  · clear hk
    have hd : decide ((n : Int) ≤ k) = true := decide_eq_true h1
    go_enter Try.func22, Try.ntmps22
    go_wp2_with fail
    refine HC.out.mono ?_
    rintro x w1 ⟨rfl, hb1⟩
    go_wp2_with fail
    go_ret2
    exact ⟨rfl, chain HB.out hb1⟩
def placeN (seed n k : Nat) : Nat := (seed % n + k) % n
set_option maxRecDepth 100000 in
set_option maxHeartbeats 1000000 in
theorem from_yes (p : Pool) (seed k : Nat) (hp : p.a < 4294967296) (hs : seed < 18446744073709551616) (hk : k < p.cnt) (w : World) : Calls Try.prog 22 #[p.v, .int .u64 (seed : Int), .int .i64 (k : Int)] w fun x w' => x = .returned (.tuple #[.int .u32 ((p.a : Int) + (placeN seed p.cnt k : Int) * 64), .bool true]) ∧ Below w.heap.size w w' := by
  obtain ⟨hx, hb⟩ := one_at w 42 p.row
  have hc := cnt_blocks p hp (w.alloc (.cells p.row.toArray 42))
  have hbd := cnt_bound p
  have hpl : placeN seed p.cnt k < p.cnt := Nat.mod_lt _ (by omega)
  have hblk := fun w => block_yes p (placeN seed p.cnt k) hp hpl w
  unfold placeN at *
  generalize p.cnt = n at *
  have hr : seed % n < n := Nat.mod_lt _ (by omega)
  have h2 : (seed : Int).tmod (n : Int) = ((seed % n : Nat) : Int) := by rw [Int.tmod_eq_emod_of_nonneg (by omega)]; omega
  generalize seed % n = r at *
  have h5 : ((r : Int) + (k : Int)).tmod (n : Int) = (((r + k) % n : Nat) : Int) := by rw [Int.tmod_eq_emod_of_nonneg (by omega), ← Int.natCast_add, ← Int.natCast_emod]
  have h4 : IntKind.i64.wrap ((r : Int) + (k : Int)) = (r : Int) + (k : Int) := IntWalk.i64_in _ (by omega)
  generalize (r + k) % n = t at *
  have h6 : IntKind.i64.wrap (t : Int) = (t : Int) := IntWalk.i64_in _ (by omega)
  have h1 : IntKind.u64.wrap (n : Int) = (n : Int) := by rw [IntKind.wrap_u64]; omega
  have h3 : IntKind.i64.wrap (r : Int) = (r : Int) := IntWalk.i64_in _ (by omega)
  have h3' : IntKind.u64.wrap (r : Int) = (r : Int) := by rw [IntKind.wrap_u64]; omega
  have hn0 : ¬ (n : Int) = 0 := by omega
  have hd : decide ((n : Int) ≤ (k : Int)) = false := decide_eq_false (by omega)
  have hd2 : decide (n ≤ k) = false := decide_eq_false (by omega)
  have hd3 : ¬ ((n : Int) ≤ (k : Int)) := by omega
  unfold Pool.v at *
  unfold Pool.row at *
  have HX := Lib.hid hx
  have HB := Lib.hid hb
  have HC := Lib.hid hc
  have HK := Lib.hid hblk
  clear hx hb hc hblk
  go_enter Try.func22, Try.ntmps22
  go_wp2_with fail
  refine HC.out.mono ?_
  rintro x w1 ⟨rfl, hb1⟩
  have hb := chain HB.out hb1
  have hx := HX.out.below hb1
  clear hb1 HX HB HC
  go_wp2_with fail
  refine region_any (by kernel_rfl) ?_
  change wpAny _ _ _ _ _ _ _ (World.drew _)
  replace hx := hx.drew
  replace hb := hb.drew
  generalize World.drew _ = w2 at *
  obtain ⟨⟨c0, c1, c2⟩, _⟩ := at3 hx
  have l0 := hx.lt
  refine stage 100000 ?_
  refine stage_read (i := 0) (v := ?_) rfl (by kernel_rfl) (by kernel_rfl) (by kernel_rfl) (by kernel_rfl) (by kernel_rfl) (by kernel_rfl) (fun _ _ _ h => h) (Or.inl ⟨by kernel_rfl, ?_⟩) ?_
  rotate_left
  · (intro wS hwS; obtain ⟨hcS, hfS, hhS⟩ := bcell hwS; go_simp; try (first | (with_reducible rfl) | rw [if_pos (by omega)] | rw [if_neg (by omega)]))
  try simp only [Act.put, List.getElem_toArray, List.getElem_cons_succ, List.getElem_cons_zero, List.setIfInBounds_toArray, List.set_cons_zero, List.set_cons_succ]
  refine stage_read (i := 1) (v := ?_) rfl (by kernel_rfl) (by kernel_rfl) (by kernel_rfl) (by kernel_rfl) (by kernel_rfl) (by kernel_rfl) (fun _ _ _ h => h) (Or.inl ⟨by kernel_rfl, ?_⟩) ?_
  rotate_left
  · (intro wS hwS; obtain ⟨hcS, hfS, hhS⟩ := bcell hwS; go_simp; try (first | (with_reducible rfl) | rw [if_pos (by omega)] | rw [if_neg (by omega)]))
  try simp only [Act.put, List.getElem_toArray, List.getElem_cons_succ, List.getElem_cons_zero, List.setIfInBounds_toArray, List.set_cons_zero, List.set_cons_succ]
  refine stage_read (i := 2) (v := ?_) rfl (by kernel_rfl) (by kernel_rfl) (by kernel_rfl) (by kernel_rfl) (by kernel_rfl) (by kernel_rfl) (fun _ _ _ h => h) (Or.inl ⟨by kernel_rfl, ?_⟩) ?_
  rotate_left
  · (intro wS hwS; obtain ⟨hcS, hfS, hhS⟩ := bcell hwS; go_simp; try (first | (with_reducible rfl) | rw [if_pos (by omega)] | rw [if_neg (by omega)]))
  try simp only [Act.put, List.getElem_toArray, List.getElem_cons_succ, List.getElem_cons_zero, List.setIfInBounds_toArray, List.set_cons_zero, List.set_cons_succ]
  refine stage_read (i := 3) (v := ?_) rfl (by kernel_rfl) (by kernel_rfl) (by kernel_rfl) (by kernel_rfl) (by kernel_rfl) (by kernel_rfl) (fun _ _ _ h => h) (Or.inl ⟨by kernel_rfl, ?_⟩) ?_
  rotate_left
  · (intro wS hwS; obtain ⟨hcS, hfS, hhS⟩ := bcell hwS; go_simp; try (first | (with_reducible rfl) | rw [if_pos (by omega)] | rw [if_neg (by omega)]))
  try simp only [Act.put, List.getElem_toArray, List.getElem_cons_succ, List.getElem_cons_zero, List.setIfInBounds_toArray, List.set_cons_zero, List.set_cons_succ]
  refine stage_read (i := 4) (v := ?_) rfl (by kernel_rfl) (by kernel_rfl) (by kernel_rfl) (by kernel_rfl) (by kernel_rfl) (by kernel_rfl) (fun _ _ _ h => h) (Or.inl ⟨by kernel_rfl, ?_⟩) ?_
  rotate_left
  · (intro wS hwS; obtain ⟨hcS, hfS, hhS⟩ := bcell hwS; go_simp; try (first | (with_reducible rfl) | rw [if_pos (by omega)] | rw [if_neg (by omega)]))
  try simp only [Act.put, List.getElem_toArray, List.getElem_cons_succ, List.getElem_cons_zero, List.setIfInBounds_toArray, List.set_cons_zero, List.set_cons_succ]
  refine stage_read (i := 5) (v := ?_) rfl (by kernel_rfl) (by kernel_rfl) (by kernel_rfl) (by kernel_rfl) (by kernel_rfl) (by kernel_rfl) (fun _ _ _ h => h) (Or.inl ⟨by kernel_rfl, ?_⟩) ?_
  rotate_left
  · (intro wS hwS; obtain ⟨hcS, hfS, hhS⟩ := bcell hwS; go_simp; try (first | (with_reducible rfl) | rw [if_pos (by omega)] | rw [if_neg (by omega)]))
  try simp only [Act.put, List.getElem_toArray, List.getElem_cons_succ, List.getElem_cons_zero, List.setIfInBounds_toArray, List.set_cons_zero, List.set_cons_succ]
  refine stage_read (i := 6) (v := ?_) rfl (by kernel_rfl) (by kernel_rfl) (by kernel_rfl) (by kernel_rfl) (by kernel_rfl) (by kernel_rfl) (fun _ _ _ h => h) (Or.inl ⟨by kernel_rfl, ?_⟩) ?_
  rotate_left
  · (intro wS hwS; obtain ⟨hcS, hfS, hhS⟩ := bcell hwS; go_simp; try (first | (with_reducible rfl) | rw [if_pos (by omega)] | rw [if_neg (by omega)]))
  try simp only [Act.put, List.getElem_toArray, List.getElem_cons_succ, List.getElem_cons_zero, List.setIfInBounds_toArray, List.set_cons_zero, List.set_cons_succ]
  refine stage_read (i := 7) (v := ?_) rfl (by kernel_rfl) (by kernel_rfl) (by kernel_rfl) (by kernel_rfl) (by kernel_rfl) (by kernel_rfl) (fun _ _ _ h => h) (Or.inl ⟨by kernel_rfl, ?_⟩) ?_
  rotate_left
  · (intro wS hwS; obtain ⟨hcS, hfS, hhS⟩ := bcell hwS; go_simp; try (first | (with_reducible rfl) | rw [if_pos (by omega)] | rw [if_neg (by omega)]))
  try simp only [Act.put, List.getElem_toArray, List.getElem_cons_succ, List.getElem_cons_zero, List.setIfInBounds_toArray, List.set_cons_zero, List.set_cons_succ]
  refine stage_read (i := 8) (v := ?_) rfl (by kernel_rfl) (by kernel_rfl) (by kernel_rfl) (by kernel_rfl) (by kernel_rfl) (by kernel_rfl) (fun _ _ _ h => h) (Or.inl ⟨by kernel_rfl, ?_⟩) ?_
  rotate_left
  · (intro wS hwS; obtain ⟨hcS, hfS, hhS⟩ := bcell hwS; go_simp; try (first | (with_reducible rfl) | rw [if_pos (by omega)] | rw [if_neg (by omega)]))
  try simp only [Act.put, List.getElem_toArray, List.getElem_cons_succ, List.getElem_cons_zero, List.setIfInBounds_toArray, List.set_cons_zero, List.set_cons_succ]
  refine stage_read (i := 9) (v := ?_) rfl (by kernel_rfl) (by kernel_rfl) (by kernel_rfl) (by kernel_rfl) (by kernel_rfl) (by kernel_rfl) (fun _ _ _ h => h) (Or.inl ⟨by kernel_rfl, ?_⟩) ?_
  rotate_left
  · (intro wS hwS; obtain ⟨hcS, hfS, hhS⟩ := bcell hwS; go_simp; try (first | (with_reducible rfl) | rw [if_pos (by omega)] | rw [if_neg (by omega)]))
  try simp only [Act.put, List.getElem_toArray, List.getElem_cons_succ, List.getElem_cons_zero, List.setIfInBounds_toArray, List.set_cons_zero, List.set_cons_succ]
  refine stage_one 10 (by kernel_rfl) rfl (by kernel_rfl) (fun K hK => ?_)
  go_simp
  refine (HK.out _).mono ?_
  rintro x w3 ⟨rfl, hb3⟩
  refine hK.out _ _ (hb3) ?_
  clear hK K
  try simp only [Act.put, List.getElem_toArray, List.getElem_cons_succ, List.getElem_cons_zero, List.setIfInBounds_toArray, List.set_cons_zero, List.set_cons_succ]
  replace hb := chain hb hb3
  clear hb3 c0 c1 c2 l0 hx h1 h2 h3 h3' h4 h5 h6 hn0
  refine stage_read (i := 11) (v := ?_) rfl (by kernel_rfl) (by kernel_rfl) (by kernel_rfl) (by kernel_rfl) (by kernel_rfl) (by kernel_rfl) (fun _ _ _ h => h) (Or.inl ⟨by kernel_rfl, ?_⟩) ?_
  rotate_left
  · (intro wS hwS; obtain ⟨hcS, hfS, hhS⟩ := bcell hwS; go_simp; try (first | (with_reducible rfl) | rw [if_pos (by omega)] | rw [if_neg (by omega)]))
  try simp only [Act.put, List.getElem_toArray, List.getElem_cons_succ, List.getElem_cons_zero, List.setIfInBounds_toArray, List.set_cons_zero, List.set_cons_succ]
  refine stage_read (i := 12) (v := ?_) rfl (by kernel_rfl) (by kernel_rfl) (by kernel_rfl) (by kernel_rfl) (by kernel_rfl) (by kernel_rfl) (fun _ _ _ h => h) (Or.inl ⟨by kernel_rfl, ?_⟩) ?_
  rotate_left
  · (intro wS hwS; obtain ⟨hcS, hfS, hhS⟩ := bcell hwS; go_simp; try (first | (with_reducible rfl) | rw [if_pos (by omega)] | rw [if_neg (by omega)]))
  try simp only [Act.put, List.getElem_toArray, List.getElem_cons_succ, List.getElem_cons_zero, List.setIfInBounds_toArray, List.set_cons_zero, List.set_cons_succ]
  refine stage_read (i := 13) (v := ?_) rfl (by kernel_rfl) (by kernel_rfl) (by kernel_rfl) (by kernel_rfl) (by kernel_rfl) (by kernel_rfl) (fun _ _ _ h => h) (Or.inl ⟨by kernel_rfl, ?_⟩) ?_
  rotate_left
  · (intro wS hwS; obtain ⟨hcS, hfS, hhS⟩ := bcell hwS; go_simp; try (first | (with_reducible rfl) | rw [if_pos (by omega)] | rw [if_neg (by omega)]))
  try simp only [Act.put, List.getElem_toArray, List.getElem_cons_succ, List.getElem_cons_zero, List.setIfInBounds_toArray, List.set_cons_zero, List.set_cons_succ]
  refine stage_read (i := 14) (v := ?_) rfl (by kernel_rfl) (by kernel_rfl) (by kernel_rfl) (by kernel_rfl) (by kernel_rfl) (by kernel_rfl) (fun _ _ _ h => h) (Or.inl ⟨by kernel_rfl, ?_⟩) ?_
  rotate_left
  · (intro wS hwS; obtain ⟨hcS, hfS, hhS⟩ := bcell hwS; go_simp; try (first | (with_reducible rfl) | rw [if_pos (by omega)] | rw [if_neg (by omega)]))
  try simp only [Act.put, List.getElem_toArray, List.getElem_cons_succ, List.getElem_cons_zero, List.setIfInBounds_toArray, List.set_cons_zero, List.set_cons_succ]
  first | refine wpAnyT_done (by kernel_rfl) ?_ _ | refine wpAny_done (by kernel_rfl) ?_ _
  go_wp2_with fail
  go_ret2
  exact ⟨rfl, hb⟩
theorem size_ok (a b n : Nat) (ha : a < 4294967296) (h : rightN a (b : Int) = true) (hn : n = 64 * cntN b) (w : World) : Calls Try.prog 51 #[.agg #[.int .u32 (a : Int), .int .i64 (b : Int)]] w fun x w' => x = .returned (.int .i64 (n : Int)) ∧ Below w.heap.size w w' := by
  obtain ⟨hx, hb⟩ := one_at w 35 [.int .u32 (a : Int), .int .i64 (b : Int)]
  obtain ⟨_, h16, h26, hmay⟩ := right_parts h
  have hm := rmay_any a (b : Int) ha (w.alloc (.cells #[.int .u32 (a : Int), .int .i64 (b : Int)] 35))
  rw [hmay] at hm
  have hpw := fun w => pow_any (32 - b) n (by omega) (by rw [hn, cnt_size h26]) w
  rw [show ((32 - b : Nat) : Int) = 32 - (b : Int) by omega] at hpw
  have HX := Lib.hid hx
  have HB := Lib.hid hb
  have HM := Lib.hid hm
  have HP := Lib.hid hpw
  clear hx hb hm hmay h hn hpw
  go_enter Try.func51, Try.ntmps51
  go_wp2_with fail
  refine HM.out.mono ?_
  rintro x w1 ⟨rfl, hb1⟩
  obtain ⟨⟨c0, c1⟩, _⟩ := at2 (HX.out.below hb1)
  go_wp2_with fail
  refine (HP.out _).mono ?_
  rintro x w2 ⟨rfl, rfl⟩
  go_wp2_with fail
  go_ret
  exact ⟨rfl, chain HB.out hb1⟩
end Go.Proofs.Ytcepknjcgknidaa
