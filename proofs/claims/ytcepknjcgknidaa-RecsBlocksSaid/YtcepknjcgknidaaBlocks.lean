
/- Chapter 13: a pool's blocks. -/
import Derived.Test.YtcepknjcgknidaaPool
namespace Go.Proofs.Ytcepknjcgknidaa
set_option linter.unusedVariables false
set_option linter.unusedSimpArgs false
open Go.RowKit
/-- how many blocks -/
def cntN (b : Nat) : Nat := 2 ^ (26 - b)
theorem cnt_le {b : Nat} (h : 16 ≤ b) : cntN b ≤ 1024 := Nat.pow_le_pow_right (n := 2) (by omega) (show 26 - b ≤ 10 by omega)
theorem cnt_pos (b : Nat) : 0 < cntN b := Nat.pow_pos (by omega)
theorem cnt_size {b : Nat} (h : b ≤ 26) : 2 ^ (32 - b) = 64 * cntN b := by
  unfold cntN
  rw [show 32 - b = 6 + (26 - b) by omega, Nat.pow_add]
theorem right_parts {a b : Nat} (h : rightN a (b : Int) = true) : a % (64 * cntN b) = 0 ∧ 16 ≤ b ∧ b ≤ 26 ∧ mayN a (b : Int) = true := by
  unfold rightN at h
  rw [Bool.and_eq_true] at h
  have h2 := of_decide_eq_true h.2
  have h1 := of_decide_eq_true h.1
  refine ⟨?_, by omega, by omega, h.1⟩
  rw [← cnt_size (by omega)]
  exact h1.2.2
theorem no_over {a b : Nat} (ha : a < 4294967296) (h : rightN a (b : Int) = true) {k : Nat} (hk : k < cntN b) : a + 64 * k < 4294967296 := by
  obtain ⟨h1, h2, h3, _⟩ := right_parts h
  have hd : 4294967296 = (64 * cntN b) * 2 ^ b := by
    rw [← cnt_size h3, ← Nat.pow_add, show 32 - b + b = 32 by omega]
  have hq := Nat.div_add_mod a (64 * cntN b)
  rw [h1] at hq
  generalize a / (64 * cntN b) = q at *
  generalize 2 ^ b = c at *
  generalize hm : 64 * cntN b = m at *
  have hlt : q < c := by
    apply Nat.lt_of_mul_lt_mul_left (a := m)
    omega
  have hle : m * (q + 1) ≤ m * c := Nat.mul_le_mul_left m hlt
  rw [Nat.mul_add] at hle
  omega
set_option maxHeartbeats 1000000 in
theorem count_ok (a b n : Nat) (ha : a < 4294967296) (h : rightN a (b : Int) = true) (hn : n = cntN b) (w : World) :
    Calls Try.prog 53 #[.agg #[.int .u32 (a : Int), .int .i64 (b : Int)], .int .i64 26] w fun x w' => x = .returned (.int .i64 (n : Int)) ∧ Below w.heap.size w w' := by
  obtain ⟨hx, hb⟩ := one_at w 40 [.int .u32 (a : Int), .int .i64 (b : Int)]
  obtain ⟨_, h16, h26, hmay⟩ := right_parts h
  have hm := may_any a (b : Int) ha (w.alloc (.cells #[.int .u32 (a : Int), .int .i64 (b : Int)] 40))
  rw [hmay] at hm
  have hle := cnt_le h16
  have hd1 : decide ((26 : Int) < (b : Int)) = false := decide_eq_false (by omega)
  have hd2 : ¬ ((26 : Int) < (b : Int)) := by omega
  have hval : wrap64 ((2 : Int) ^ (26 - b)) = (n : Int) := by
    have e : (2 : Int) ^ (26 - b) = (n : Int) := by rw [hn]; unfold cntN; rw [Int.natCast_pow]; rfl
    rw [e]
    exact IntWalk.wrap64_in _ ⟨by omega, by omega⟩
  have HV := Lib.hid hval
  have HX := Lib.hid hx
  have HB := Lib.hid hb
  have HM := Lib.hid hm
  clear hx hb hm hmay h hn hval hle
  go_enter Try.func53, Try.ntmps53
  go_wp2_with fail
  refine HM.out.mono ?_
  rintro x w1 ⟨rfl, hb1⟩
  obtain ⟨⟨c0, c1⟩, _⟩ := at2 (HX.out.below hb1)
  go_wp2_with fail
  rw [HV.out]
  go_ret
  exact ⟨rfl, chain HB.out hb1⟩
set_option maxRecDepth 100000 in
set_option maxHeartbeats 1000000 in
theorem nth_ok (a b k : Nat) (ha : a < 4294967296) (h : rightN a (b : Int) = true) (hk : k < cntN b) (w : World) :
    Calls Try.prog 52 #[.agg #[.int .u32 (a : Int), .int .i64 (b : Int)], .int .i64 26, .int .i64 (k : Int)] w fun x w' => x = .returned (.tuple #[.agg #[.int .u32 ((a : Int) + (k : Int) * 64), .int .i64 26], .int .i64 0]) ∧ Below w.heap.size w w' := by
  obtain ⟨hx, hy, hb⟩ := two_at w 40 [.int .u32 (a : Int), .int .i64 (b : Int)] 40 [.int .u32 0, .int .i64 0]
  obtain ⟨_, h16, h26, _⟩ := right_parts h
  have hov := no_over ha h hk
  have hle := cnt_le h16
  have hc := fun w => count_ok a b (cntN b) ha h rfl w
  generalize cntN b = n at *
  have hd1 : decide ((n : Int) ≤ (k : Int)) = false := decide_eq_false (by omega)
  have hd3 : decide (n ≤ k) = false := decide_eq_false (by omega)
  have hd2 : ¬ ((n : Int) ≤ (k : Int)) := by omega
  have HX := Lib.hid hx
  have HY := Lib.hid hy
  have HB := Lib.hid hb
  have HC := Lib.hid hc
  clear hx hy hb hc h
  go_enter Try.func52, Try.ntmps52
  go_upto_region 1 with fail
  have hx := HX.out
  have hy := HY.out
  have hb := HB.out
  clear HX HY HB
  generalize World.alloc (World.alloc _ _) _ = w1 at *
  obtain ⟨⟨c0, c1⟩, _⟩ := at2 hx
  go_wp2_with fail
  refine (HC.out _).mono ?_
  rintro x w2 ⟨rfl, hb2⟩
  replace hx := hx.below hb2
  replace hy := hy.below hb2
  replace hb := chain hb hb2
  clear hb2 c0 c1 HC
  go_wp2_with fail
  refine region_any (by kernel_rfl) ?_
  change wpAny _ _ _ _ _ _ _ (World.drew _)
  replace hx := hx.drew
  replace hy := hy.drew
  replace hb := hb.drew
  generalize World.drew _ = w3 at *
  obtain ⟨⟨c0, c1⟩, _⟩ := at2 hx
  obtain ⟨⟨y0, y1⟩, k0, k1⟩ := at2 hy
  have l0 := hx.lt
  have hw0 : IntKind.i64.wrap 6 = 6 := by decide
  have hw1 : IntKind.u64.wrap (k : Int) = (k : Int) := by rw [IntKind.wrap_u64]; omega
  have hw2 : IntKind.u64.wrap ((k : Int) * 64) = (k : Int) * 64 := by rw [IntKind.wrap_u64]; omega
  have hw3 : IntKind.u32.wrap ((k : Int) * 64) = (k : Int) * 64 := by rw [IntKind.wrap_u32]; omega
  have hw4 : IntKind.u32.wrap ((a : Int) + (k : Int) * 64) = (a : Int) + (k : Int) * 64 := by rw [IntKind.wrap_u32]; omega
  have hmm := hy.many [(0, .int .u32 ((a : Int) + (k : Int) * 64)), (1, .int .i64 26)]
  have hb4 := chainG hb hmm.2 (by omega)
  obtain ⟨⟨q0, q1⟩, _⟩ := at2 hmm.1
  simp only [setMany] at hb4 q0 q1
  have HB := Lib.hid hb4
  have HQ0 := Lib.hid q0
  have HQ1 := Lib.hid q1
  clear hmm hb4 q0 q1 hx hy hb
  refine stage 11 ?_
  refine stage_read (i := 0) (v := ?_) rfl (by kernel_rfl) (by kernel_rfl) (by kernel_rfl) (by kernel_rfl) (by kernel_rfl) (by kernel_rfl) (fun _ _ _ h => h) (Or.inl ⟨by kernel_rfl, ?_⟩) ?_
  rotate_left
  · (intro wS hwS; obtain ⟨hcS, hfS, hhS⟩ := bcell hwS; go_simp; try (first | (with_reducible rfl) | rw [if_pos (by omega)] | rw [if_neg (by omega)]))
  try simp only [Act.put, List.getElem_toArray, List.getElem_cons_succ, List.getElem_cons_zero, List.setIfInBounds_toArray, List.set_cons_zero, List.set_cons_succ]
  refine stage_read (i := 1) (v := ?_) rfl (by kernel_rfl) (by kernel_rfl) (by kernel_rfl) (by kernel_rfl) (by kernel_rfl) (by kernel_rfl) (fun _ _ _ h => h) (Or.inl ⟨by kernel_rfl, ?_⟩) ?_
  rotate_left
  · (intro wS hwS; obtain ⟨hcS, hfS, hhS⟩ := bcell hwS; go_simp; try (first | (with_reducible rfl) | rw [if_pos (by omega)] | rw [if_neg (by omega)]))
  try simp only [Act.put, List.getElem_toArray, List.getElem_cons_succ, List.getElem_cons_zero, List.setIfInBounds_toArray, List.set_cons_zero, List.set_cons_succ]
  refine stage_read (i := 2) (v := ?_) rfl (by kernel_rfl) (by kernel_rfl) (by kernel_rfl) (by kernel_rfl) (by kernel_rfl) (by kernel_rfl) (fun _ _ _ h => h) (Or.inl ⟨by kernel_rfl, ?_⟩) ?_
  rotate_left
  · (intro wS hwS; obtain ⟨hcS, hfS, hhS⟩ := bcell hwS; go_simp; try (first | (with_reducible rfl) | rw [if_pos (by omega)] | rw [if_neg (by omega)]))
  try simp only [Act.put, List.getElem_toArray, List.getElem_cons_succ, List.getElem_cons_zero, List.setIfInBounds_toArray, List.set_cons_zero, List.set_cons_succ]
  refine stage_read (i := 3) (v := ?_) rfl (by kernel_rfl) (by kernel_rfl) (by kernel_rfl) (by kernel_rfl) (by kernel_rfl) (by kernel_rfl) (fun _ _ _ h => h) (Or.inl ⟨by kernel_rfl, ?_⟩) ?_
  rotate_left
  · (intro wS hwS; obtain ⟨hcS, hfS, hhS⟩ := bcell hwS; go_simp; try (first | (with_reducible rfl) | rw [if_pos (by omega)] | rw [if_neg (by omega)]))
  try simp only [Act.put, List.getElem_toArray, List.getElem_cons_succ, List.getElem_cons_zero, List.setIfInBounds_toArray, List.set_cons_zero, List.set_cons_succ]
  refine stage_read (i := 4) (v := ?_) rfl (by kernel_rfl) (by kernel_rfl) (by kernel_rfl) (by kernel_rfl) (by kernel_rfl) (by kernel_rfl) (fun _ _ _ h => h) (Or.inl ⟨by kernel_rfl, ?_⟩) ?_
  rotate_left
  · (intro wS hwS; obtain ⟨hcS, hfS, hhS⟩ := bcell hwS; go_simp; try (first | (with_reducible rfl) | rw [if_pos (by omega)] | rw [if_neg (by omega)]))
  try simp only [Act.put, List.getElem_toArray, List.getElem_cons_succ, List.getElem_cons_zero, List.setIfInBounds_toArray, List.set_cons_zero, List.set_cons_succ]
  refine stage_read (i := 5) (v := ?_) rfl (by kernel_rfl) (by kernel_rfl) (by kernel_rfl) (by kernel_rfl) (by kernel_rfl) (by kernel_rfl) (fun _ _ _ h => h) (Or.inl ⟨by kernel_rfl, ?_⟩) ?_
  rotate_left
  · (intro wS hwS; obtain ⟨hcS, hfS, hhS⟩ := bcell hwS; go_simp; try (first | (with_reducible rfl) | rw [if_pos (by omega)] | rw [if_neg (by omega)]))
  try simp only [Act.put, List.getElem_toArray, List.getElem_cons_succ, List.getElem_cons_zero, List.setIfInBounds_toArray, List.set_cons_zero, List.set_cons_succ]
  refine stage_read (i := 6) (v := ?_) rfl (by kernel_rfl) (by kernel_rfl) (by kernel_rfl) (by kernel_rfl) (by kernel_rfl) (by kernel_rfl) (fun _ _ _ h => h) (Or.inl ⟨by kernel_rfl, ?_⟩) ?_
  rotate_left
  · (intro wS hwS; obtain ⟨hcS, hfS, hhS⟩ := bcell hwS; go_simp; try (first | (with_reducible rfl) | rw [if_pos (by omega)] | rw [if_neg (by omega)]))
  try simp only [Act.put, List.getElem_toArray, List.getElem_cons_succ, List.getElem_cons_zero, List.setIfInBounds_toArray, List.set_cons_zero, List.set_cons_succ]
  refine stage_read (i := 7) (v := ?_) rfl (by kernel_rfl) (by kernel_rfl) (by kernel_rfl) (by kernel_rfl) (by kernel_rfl) (by kernel_rfl) (fun _ _ _ h => h) (Or.inl ⟨by kernel_rfl, ?_⟩) ?_
  rotate_left
  · (intro wS hwS; obtain ⟨hcS, hfS, hhS⟩ := bcell hwS; go_simp; try (first | (with_reducible rfl) | rw [if_pos (by omega)] | rw [if_neg (by omega)]))
  try simp only [Act.put, List.getElem_toArray, List.getElem_cons_succ, List.getElem_cons_zero, List.setIfInBounds_toArray, List.set_cons_zero, List.set_cons_succ]
  refine stage_read (i := 8) (v := ?_) rfl (by kernel_rfl) (by kernel_rfl) (by kernel_rfl) (by kernel_rfl) (by kernel_rfl) (by kernel_rfl) (fun _ _ _ h => h) (Or.inl ⟨by kernel_rfl, ?_⟩) ?_
  rotate_left
  · (intro wS hwS; obtain ⟨hcS, hfS, hhS⟩ := bcell hwS; go_simp; try (first | (with_reducible rfl) | rw [if_pos (by omega)] | rw [if_neg (by omega)]))
  try simp only [Act.put, List.getElem_toArray, List.getElem_cons_succ, List.getElem_cons_zero, List.setIfInBounds_toArray, List.set_cons_zero, List.set_cons_succ]
  refine stage_read (i := 9) (v := ?_) rfl (by kernel_rfl) (by kernel_rfl) (by kernel_rfl) (by kernel_rfl) (by kernel_rfl) (by kernel_rfl) (fun _ _ _ h => h) (Or.inl ⟨by kernel_rfl, ?_⟩) ?_
  rotate_left
  · (intro wS hwS; obtain ⟨hcS, hfS, hhS⟩ := bcell hwS; go_simp; try (first | (with_reducible rfl) | rw [if_pos (by omega)] | rw [if_neg (by omega)]))
  try simp only [Act.put, List.getElem_toArray, List.getElem_cons_succ, List.getElem_cons_zero, List.setIfInBounds_toArray, List.set_cons_zero, List.set_cons_succ]
  refine stage_read (i := 10) (v := ?_) rfl (by kernel_rfl) (by kernel_rfl) (by kernel_rfl) (by kernel_rfl) (by kernel_rfl) (by kernel_rfl) (fun _ _ _ h => h) (Or.inl ⟨by kernel_rfl, ?_⟩) ?_
  rotate_left
  · (intro wS hwS; obtain ⟨hcS, hfS, hhS⟩ := bcell hwS; go_simp; try (first | (with_reducible rfl) | rw [if_pos (by omega)] | rw [if_neg (by omega)]))
  try simp only [Act.put, List.getElem_toArray, List.getElem_cons_succ, List.getElem_cons_zero, List.setIfInBounds_toArray, List.set_cons_zero, List.set_cons_succ]
  refine stage_end (by kernel_rfl) rfl (fun K hK => ?_)
  go_simp
  refine hK.out _ _ ?_
  clear hK K
  try simp only [Act.put, List.getElem_toArray, List.getElem_cons_succ, List.getElem_cons_zero, List.setIfInBounds_toArray, List.set_cons_zero, List.set_cons_succ]
  first | refine stage 1000000 ?_ | skip
  refine stage_read (i := 12) (v := ?_) rfl (by kernel_rfl) (by kernel_rfl) (by kernel_rfl) (by kernel_rfl) (by kernel_rfl) (by kernel_rfl) (fun _ _ _ h => h) (Or.inl ⟨by kernel_rfl, ?_⟩) ?_
  rotate_left
  · (intro wS hwS; obtain ⟨hcS, hfS, hhS⟩ := bcell hwS; go_simp; try (first | (with_reducible rfl) | rw [if_pos (by omega)] | rw [if_neg (by omega)]))
  try simp only [Act.put, List.getElem_toArray, List.getElem_cons_succ, List.getElem_cons_zero, List.setIfInBounds_toArray, List.set_cons_zero, List.set_cons_succ]
  first | refine wpAnyT_done (by kernel_rfl) ?_ _ | refine wpAny_done (by kernel_rfl) ?_ _
  have q0 := HQ0.out
  have q1 := HQ1.out
  clear hw0 hw1 hw2 hw3 hw4 c0 c1 y0 y1 k0 k1 l0
  generalize World.setCell _ _ _ = w4 at *
  go_wp2_with fail
  exact bodyPost_ret (v := .tuple #[.agg #[.int .u32 ((a : Int) + (k : Int) * 64), .int .i64 26], .int .i64 0]) (by simp [results, Try.results52, go_sem, q0, q1]) rfl ⟨rfl, HB.out⟩
set_option maxHeartbeats 1000000 in
theorem blocks_any (p : Pool) (n : Nat) (hp : p.a < 4294967296) (hn : (n : Int) = if p.right = true then ((cntN p.b.toNat : Nat) : Int) else 0) (w : World) : Calls Try.prog 23 #[p.v] w fun x w' => x = .returned (.int .i64 (n : Int)) ∧ Below w.heap.size w w' := by
  obtain ⟨hx, hb⟩ := one_at w 42 p.row
  have hr := rightpool_any p hp (w.alloc (.cells p.row.toArray 42))
  cases hv : p.right with
  | false =>
    rw [hv, if_neg (by simp)] at hn
    rw [hv] at hr
    rw [hn]
    unfold Pool.v at *
    unfold Pool.row at *
    have HR := Lib.hid hr
    have HB := Lib.hid hb
    clear hr hb hx hv hn
    go_enter Try.func23, Try.ntmps23
    go_wp2_with fail
    refine HR.out.mono ?_
    rintro x w1 ⟨rfl, hb1⟩
    go_wp2_with fail
    go_ret
    exact ⟨rfl, chain HB.out hb1⟩
  | true =>
    rw [hv, if_pos rfl] at hn
    rw [hv] at hr
    obtain ⟨m, hm, h16, h26⟩ := right_in hv
    have hrn : rightN p.a (m : Int) = true := by rw [← hm]; exact hv
    have hc := fun w => count_ok p.a m (cntN m) hp hrn rfl w
    obtain ⟨a, b, o⟩ := p
    simp only at hm hp hn hc
    subst hm
    rw [Int.toNat_natCast] at hn
    rw [← hn] at hc
    unfold Pool.v at *
    unfold Pool.row at *
    simp only at *
    have HR := Lib.hid hr
    have HB := Lib.hid hb
    have HX := Lib.hid hx
    have HC := Lib.hid hc
    clear hr hb hx hv hn hc hrn
    go_enter Try.func23, Try.ntmps23
    go_wp2_with fail
    refine HR.out.mono ?_
    rintro x w1 ⟨rfl, hb1⟩
    have hb := chain HB.out hb1
    obtain ⟨⟨c0, c1, c2⟩, _⟩ := at3 (HX.out.below hb1)
    clear hb1
    go_wp2_with fail
    refine (HC.out _).mono ?_
    rintro x w2 ⟨rfl, hb2⟩
    go_wp2_with fail
    go_ret
    exact ⟨rfl, chain hb hb2⟩
end Go.Proofs.Ytcepknjcgknidaa
