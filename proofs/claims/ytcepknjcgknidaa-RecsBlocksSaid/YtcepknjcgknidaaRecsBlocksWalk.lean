
/- Chapter 13: the walk of RecsBlocks. -/
import Derived.Test.YtcepknjcgknidaaRBlocks
namespace Go.Proofs.Ytcepknjcgknidaa
set_option linter.unusedVariables false
set_option linter.unusedSimpArgs false
open Go.RowKit
/-- how many of the first i places from the seed's on are place k -/
def seenN (seed n k i : Nat) : Nat := ((List.range i).filter fun j => placeN seed n j = k).length
theorem seenN_succ (seed n k i : Nat) : seenN seed n k (i + 1) = seenN seed n k i + if placeN seed n i = k then 1 else 0 := by
  unfold seenN
  rw [List.range_succ, List.filter_append, List.length_append]
  by_cases h : placeN seed n i = k <;> simp [h]
theorem seenN_zero (seed n k : Nat) : seenN seed n k 0 = 0 := rfl
theorem seenN_le (seed n k i : Nat) : seenN seed n k i ≤ i := by
  induction i with
  | zero => simp [seenN_zero]
  | succ i ih => rw [seenN_succ]; split <;> omega
/-- just one of the n places is place k -/
theorem seenN_all (seed n k : Nat) (hk : k < n) : seenN seed n k n = 1 := by
  have hr : seed % n < n := Nat.mod_lt _ (by omega)
  generalize hrr : seed % n = r at *
  have hpl : ∀ j, j < n → (placeN seed n j = k ↔ j = if r ≤ k then k - r else k + n - r) := by
    intro j hj
    unfold placeN
    rw [hrr]
    by_cases hlt : r + j < n
    · rw [Nat.mod_eq_of_lt hlt]
      split <;> omega
    · rw [Nat.mod_eq_sub_mod (by omega), Nat.mod_eq_of_lt (by omega)]
      split <;> omega
  obtain ⟨t, ht, htn⟩ : ∃ t, (t = if r ≤ k then k - r else k + n - r) ∧ t < n := ⟨_, rfl, by split <;> omega⟩
  have key : ∀ i, i ≤ n → seenN seed n k i = if t < i then 1 else 0 := by
    intro i
    induction i with
    | zero => intro _; simp [seenN_zero]
    | succ i ih =>
      intro hi
      rw [seenN_succ, ih (by omega)]
      have := hpl i (by omega)
      rw [← ht] at this
      by_cases h : i = t
      · rw [if_pos (this.2 h)]
        subst h
        simp
      · rw [if_neg fun e => h (this.1 e)]
        by_cases h2 : t < i
        · rw [if_pos h2, if_pos (by omega)]
        · rw [if_neg h2, if_neg (by omega)]
  rw [key n (Nat.le_refl _), if_pos htn]
def cutP (p : Pool) : Pool := if p.b < 20 then ⟨p.a, 20, p.o⟩ else p
theorem cutP_cnt (p : Pool) : (cutP p).cnt ≤ 64 := by
  unfold Pool.cnt
  split
  · rename_i h
    obtain ⟨m, hm, h16, h26⟩ := right_in h
    have h20 : 20 ≤ m := by
      unfold cutP at hm
      split at hm
      · simp only at hm; omega
      · omega
    rw [hm]
    exact Nat.pow_le_pow_right (n := 2) (by omega) (show 26 - m ≤ 6 by omega)
  · omega
theorem rblocks_any (p : Pool) (hp : p.a < 4294967296) (w : World) : Calls Try.prog 19 #[p.v] w fun x w' => ∃ A c, x = .returned (.slice A p.cnt c) ∧ OwnU w' w.heap.size A p.cnt c p.a ∧ Below w.heap.size w w' := by
  cases h : p.right with
  | true => exact rblocks_yes p hp h w
  | false =>
    have hc : p.cnt = 0 := by unfold Pool.cnt; rw [h, if_neg (by simp)]
    rw [hc]
    refine (rblocks_no p hp h w).mono ?_
    rintro x w' ⟨rfl, hb⟩
    exact ⟨none, 0, rfl, World.ownsRow_nil _ _ _ _, hb⟩
set_option maxRecDepth 100000 in
set_option maxHeartbeats 4000000 in
theorem recsBlocks_no (a : Nat) (b : Int) (o : Bool) (ha : a < 4294967296) (k : Int) (seed : Nat) (w : World) (hk64 : (cutP ⟨a, b, o⟩).cnt ≤ 64) (hk : k < 0 ∨ ((cutP ⟨a, b, o⟩).cnt : Int) ≤ k) :
    Calls Try.prog 4 #[(⟨a, b, o⟩ : Pool).v, .int .i64 k, .int .u64 (seed : Int)] w fun x w' => x = .returned (.bool true) ∧ Below w.heap.size w w' := by
  by_cases h20 : b < 20
  · rw [show cutP ⟨a, b, o⟩ = ⟨a, 20, o⟩ from if_pos h20] at hk64 hk
    have hrb := fun w => rblocks_any ⟨a, 20, o⟩ ha w
    have hou := fun w => ours13 ⟨a, 20, o⟩ w
    have hcn := fun w => cnt_blocks ⟨a, 20, o⟩ ha w
    have hbk := fun w => block_no ⟨a, 20, o⟩ k ha hk w
    have hfr := fun w => from_no ⟨a, 20, o⟩ seed k ha hk w
    generalize (⟨a, 20, o⟩ : Pool).cnt = n at *
    rcases (show (k < 0) ∨ (¬ k < 0 ∧ (n : Int) ≤ k) by omega) with hk0 | ⟨hk0, hk1⟩
    · clear hk
      unfold Pool.v at hrb hou hcn hbk hfr ⊢
      unfold Pool.row at hrb hou hcn hbk hfr ⊢
      simp only at hrb hou hcn hbk hfr ⊢
      have HRB := Lib.hid hrb
      have HOU := Lib.hid hou
      have HCN := Lib.hid hcn
      have HBK := Lib.hid hbk
      have HFR := Lib.hid hfr
      clear hrb hou hcn hbk hfr
      go_enter Try.func4, Try.ntmps4
      go_upto_region 1 with fail
      obtain ⟨hx, hb⟩ := one_at w 37 [.int .u32 (a : Int), .int .i64 b, .bool o]
      generalize World.alloc _ _ = w1 at *
      obtain ⟨⟨c0, c1, c2⟩, f0, f1, f2⟩ := at3 hx
      go_upto_region 3 with fail
      have hst := grown_set w1 w.heap.size 1 (.int .i64 20)
      replace hx := hx.set 1 (.int .i64 20)
      replace hb := chainG hb hst (Nat.le_refl _)
      simp only [List.set_cons_zero, List.set_cons_succ] at hx
      clear hst
      generalize World.setCell _ _ _ = w1' at *
      clear c0 c1 c2 f0 f1 f2
      obtain ⟨⟨c0, c1, c2⟩, _⟩ := at3 hx
      go_wp2_with fail
      refine (HRB.out _).mono ?_
      rintro x w2 ⟨A, c, rfl, hown, hb2⟩
      replace hx := hx.below hb2
      replace hb := chain hb hb2
      clear hb2 c0 c1 c2
      obtain ⟨⟨c0, c1, c2⟩, _⟩ := at3 hx
      go_wp2_with fail
      refine (HOU.out _).mono ?_
      rintro x w3 ⟨rfl, hb3⟩
      replace hown := hown.below hb3
      replace hb := chain hb hb3
      clear hb3 c0 c1 c2 hx
      go_upto_region 5 with fail
      obtain ⟨hz, hb4⟩ := one_at w3 42 [.int .u32 (a : Int), .int .i64 20, .bool o]
      replace hown := hown.below hb4
      replace hb := chain hb hb4
      clear hb4
      generalize World.alloc _ _ = w4 at *
      generalize w3.heap.size = go at *
      obtain ⟨⟨z0, z1, z2⟩, _⟩ := at3 hz
      go_wp2_with fail
      refine (HBK.out _).mono ?_
      rintro x w5 ⟨rfl, hb5⟩
      replace hown := hown.below hb5
      replace hb := chain hb hb5
      replace hz := hz.below hb5
      clear hb5 z0 z1 z2
      obtain ⟨⟨z0, z1, z2⟩, _⟩ := at3 hz
      go_wp2_with fail
      refine (HFR.out _).mono ?_
      rintro x w6 ⟨rfl, hb6⟩
      replace hown := hown.below hb6
      replace hb := chain hb hb6
      replace hz := hz.below hb6
      clear hb6 z0 z1 z2
      obtain ⟨⟨z0, z1, z2⟩, _⟩ := at3 hz
      go_wp2_with fail
      refine (HCN.out _).mono ?_
      rintro x w7 ⟨rfl, hb7⟩
      replace hown := hown.below hb7
      replace hb := chain hb hb7
      replace hz := hz.below hb7
      clear hb7 z0 z1 z2
      go_wp2_with fail
      refine (awake13 _).mono ?_
      rintro x w8 ⟨rfl, hb8⟩
      replace hb := chain hb hb8
      clear hb8
      go_wp2_with fail
      go_ret
      exact ⟨rfl, hb⟩
    · clear hk
      have hd : decide ((n : Int) ≤ k) = true := decide_eq_true hk1
      unfold Pool.v at hrb hou hcn hbk hfr ⊢
      unfold Pool.row at hrb hou hcn hbk hfr ⊢
      simp only at hrb hou hcn hbk hfr ⊢
      have HRB := Lib.hid hrb
      have HOU := Lib.hid hou
      have HCN := Lib.hid hcn
      have HBK := Lib.hid hbk
      have HFR := Lib.hid hfr
      clear hrb hou hcn hbk hfr
      go_enter Try.func4, Try.ntmps4
      go_upto_region 1 with fail
      obtain ⟨hx, hb⟩ := one_at w 37 [.int .u32 (a : Int), .int .i64 b, .bool o]
      generalize World.alloc _ _ = w1 at *
      obtain ⟨⟨c0, c1, c2⟩, f0, f1, f2⟩ := at3 hx
      go_upto_region 3 with fail
      have hst := grown_set w1 w.heap.size 1 (.int .i64 20)
      replace hx := hx.set 1 (.int .i64 20)
      replace hb := chainG hb hst (Nat.le_refl _)
      simp only [List.set_cons_zero, List.set_cons_succ] at hx
      clear hst
      generalize World.setCell _ _ _ = w1' at *
      clear c0 c1 c2 f0 f1 f2
      obtain ⟨⟨c0, c1, c2⟩, _⟩ := at3 hx
      go_wp2_with fail
      refine (HRB.out _).mono ?_
      rintro x w2 ⟨A, c, rfl, hown, hb2⟩
      replace hx := hx.below hb2
      replace hb := chain hb hb2
      clear hb2 c0 c1 c2
      obtain ⟨⟨c0, c1, c2⟩, _⟩ := at3 hx
      go_wp2_with fail
      refine (HOU.out _).mono ?_
      rintro x w3 ⟨rfl, hb3⟩
      replace hown := hown.below hb3
      replace hb := chain hb hb3
      clear hb3 c0 c1 c2 hx
      go_upto_region 5 with fail
      obtain ⟨hz, hb4⟩ := one_at w3 42 [.int .u32 (a : Int), .int .i64 20, .bool o]
      replace hown := hown.below hb4
      replace hb := chain hb hb4
      clear hb4
      generalize World.alloc _ _ = w4 at *
      generalize w3.heap.size = go at *
      obtain ⟨⟨z0, z1, z2⟩, _⟩ := at3 hz
      go_wp2_with fail
      refine (HBK.out _).mono ?_
      rintro x w5 ⟨rfl, hb5⟩
      replace hown := hown.below hb5
      replace hb := chain hb hb5
      replace hz := hz.below hb5
      clear hb5 z0 z1 z2
      obtain ⟨⟨z0, z1, z2⟩, _⟩ := at3 hz
      go_wp2_with fail
      refine (HFR.out _).mono ?_
      rintro x w6 ⟨rfl, hb6⟩
      replace hown := hown.below hb6
      replace hb := chain hb hb6
      replace hz := hz.below hb6
      clear hb6 z0 z1 z2
      obtain ⟨⟨z0, z1, z2⟩, _⟩ := at3 hz
      go_wp2_with fail
      refine (HCN.out _).mono ?_
      rintro x w7 ⟨rfl, hb7⟩
      replace hown := hown.below hb7
      replace hb := chain hb hb7
      replace hz := hz.below hb7
      clear hb7 z0 z1 z2
      go_wp2_with fail
      refine (awake13 _).mono ?_
      rintro x w8 ⟨rfl, hb8⟩
      replace hb := chain hb hb8
      clear hb8
      go_wp2_with fail
      go_ret
      exact ⟨rfl, hb⟩
  · rw [show cutP ⟨a, b, o⟩ = ⟨a, b, o⟩ from if_neg h20] at hk64 hk
    have hrb := fun w => rblocks_any ⟨a, b, o⟩ ha w
    have hou := fun w => ours13 ⟨a, b, o⟩ w
    have hcn := fun w => cnt_blocks ⟨a, b, o⟩ ha w
    have hbk := fun w => block_no ⟨a, b, o⟩ k ha hk w
    have hfr := fun w => from_no ⟨a, b, o⟩ seed k ha hk w
    generalize (⟨a, b, o⟩ : Pool).cnt = n at *
    rcases (show (k < 0) ∨ (¬ k < 0 ∧ (n : Int) ≤ k) by omega) with hk0 | ⟨hk0, hk1⟩
    · clear hk
      unfold Pool.v at hrb hou hcn hbk hfr ⊢
      unfold Pool.row at hrb hou hcn hbk hfr ⊢
      simp only at hrb hou hcn hbk hfr ⊢
      have HRB := Lib.hid hrb
      have HOU := Lib.hid hou
      have HCN := Lib.hid hcn
      have HBK := Lib.hid hbk
      have HFR := Lib.hid hfr
      clear hrb hou hcn hbk hfr
      go_enter Try.func4, Try.ntmps4
      go_upto_region 1 with fail
      obtain ⟨hx, hb⟩ := one_at w 37 [.int .u32 (a : Int), .int .i64 b, .bool o]
      generalize World.alloc _ _ = w1 at *
      obtain ⟨⟨c0, c1, c2⟩, f0, f1, f2⟩ := at3 hx
      go_upto_region 3 with fail
      clear c0 c1 c2 f0 f1 f2
      obtain ⟨⟨c0, c1, c2⟩, _⟩ := at3 hx
      go_wp2_with fail
      refine (HRB.out _).mono ?_
      rintro x w2 ⟨A, c, rfl, hown, hb2⟩
      replace hx := hx.below hb2
      replace hb := chain hb hb2
      clear hb2 c0 c1 c2
      obtain ⟨⟨c0, c1, c2⟩, _⟩ := at3 hx
      go_wp2_with fail
      refine (HOU.out _).mono ?_
      rintro x w3 ⟨rfl, hb3⟩
      replace hown := hown.below hb3
      replace hb := chain hb hb3
      clear hb3 c0 c1 c2 hx
      go_upto_region 5 with fail
      obtain ⟨hz, hb4⟩ := one_at w3 42 [.int .u32 (a : Int), .int .i64 b, .bool o]
      replace hown := hown.below hb4
      replace hb := chain hb hb4
      clear hb4
      generalize World.alloc _ _ = w4 at *
      generalize w3.heap.size = go at *
      obtain ⟨⟨z0, z1, z2⟩, _⟩ := at3 hz
      go_wp2_with fail
      refine (HBK.out _).mono ?_
      rintro x w5 ⟨rfl, hb5⟩
      replace hown := hown.below hb5
      replace hb := chain hb hb5
      replace hz := hz.below hb5
      clear hb5 z0 z1 z2
      obtain ⟨⟨z0, z1, z2⟩, _⟩ := at3 hz
      go_wp2_with fail
      refine (HFR.out _).mono ?_
      rintro x w6 ⟨rfl, hb6⟩
      replace hown := hown.below hb6
      replace hb := chain hb hb6
      replace hz := hz.below hb6
      clear hb6 z0 z1 z2
      obtain ⟨⟨z0, z1, z2⟩, _⟩ := at3 hz
      go_wp2_with fail
      refine (HCN.out _).mono ?_
      rintro x w7 ⟨rfl, hb7⟩
      replace hown := hown.below hb7
      replace hb := chain hb hb7
      replace hz := hz.below hb7
      clear hb7 z0 z1 z2
      go_wp2_with fail
      refine (awake13 _).mono ?_
      rintro x w8 ⟨rfl, hb8⟩
      replace hb := chain hb hb8
      clear hb8
      go_wp2_with fail
      go_ret
      exact ⟨rfl, hb⟩
    · clear hk
      have hd : decide ((n : Int) ≤ k) = true := decide_eq_true hk1
      unfold Pool.v at hrb hou hcn hbk hfr ⊢
      unfold Pool.row at hrb hou hcn hbk hfr ⊢
      simp only at hrb hou hcn hbk hfr ⊢
      have HRB := Lib.hid hrb
      have HOU := Lib.hid hou
      have HCN := Lib.hid hcn
      have HBK := Lib.hid hbk
      have HFR := Lib.hid hfr
      clear hrb hou hcn hbk hfr
      go_enter Try.func4, Try.ntmps4
      go_upto_region 1 with fail
      obtain ⟨hx, hb⟩ := one_at w 37 [.int .u32 (a : Int), .int .i64 b, .bool o]
      generalize World.alloc _ _ = w1 at *
      obtain ⟨⟨c0, c1, c2⟩, f0, f1, f2⟩ := at3 hx
      go_upto_region 3 with fail
      clear c0 c1 c2 f0 f1 f2
      obtain ⟨⟨c0, c1, c2⟩, _⟩ := at3 hx
      go_wp2_with fail
      refine (HRB.out _).mono ?_
      rintro x w2 ⟨A, c, rfl, hown, hb2⟩
      replace hx := hx.below hb2
      replace hb := chain hb hb2
      clear hb2 c0 c1 c2
      obtain ⟨⟨c0, c1, c2⟩, _⟩ := at3 hx
      go_wp2_with fail
      refine (HOU.out _).mono ?_
      rintro x w3 ⟨rfl, hb3⟩
      replace hown := hown.below hb3
      replace hb := chain hb hb3
      clear hb3 c0 c1 c2 hx
      go_upto_region 5 with fail
      obtain ⟨hz, hb4⟩ := one_at w3 42 [.int .u32 (a : Int), .int .i64 b, .bool o]
      replace hown := hown.below hb4
      replace hb := chain hb hb4
      clear hb4
      generalize World.alloc _ _ = w4 at *
      generalize w3.heap.size = go at *
      obtain ⟨⟨z0, z1, z2⟩, _⟩ := at3 hz
      go_wp2_with fail
      refine (HBK.out _).mono ?_
      rintro x w5 ⟨rfl, hb5⟩
      replace hown := hown.below hb5
      replace hb := chain hb hb5
      replace hz := hz.below hb5
      clear hb5 z0 z1 z2
      obtain ⟨⟨z0, z1, z2⟩, _⟩ := at3 hz
      go_wp2_with fail
      refine (HFR.out _).mono ?_
      rintro x w6 ⟨rfl, hb6⟩
      replace hown := hown.below hb6
      replace hb := chain hb hb6
      replace hz := hz.below hb6
      clear hb6 z0 z1 z2
      obtain ⟨⟨z0, z1, z2⟩, _⟩ := at3 hz
      go_wp2_with fail
      refine (HCN.out _).mono ?_
      rintro x w7 ⟨rfl, hb7⟩
      replace hown := hown.below hb7
      replace hb := chain hb hb7
      replace hz := hz.below hb7
      clear hb7 z0 z1 z2
      go_wp2_with fail
      refine (awake13 _).mono ?_
      rintro x w8 ⟨rfl, hb8⟩
      replace hb := chain hb hb8
      clear hb8
      go_wp2_with fail
      go_ret
      exact ⟨rfl, hb⟩
set_option maxRecDepth 100000 in
set_option maxHeartbeats 4000000 in
theorem recsBlocks_yes (a : Nat) (b : Int) (o : Bool) (ha : a < 4294967296) (k : Nat) (seed : Nat) (hs : seed < 18446744073709551616) (w : World) (hk64 : (cutP ⟨a, b, o⟩).cnt ≤ 64) (hk : k < (cutP ⟨a, b, o⟩).cnt) :
    Calls Try.prog 4 #[(⟨a, b, o⟩ : Pool).v, .int .i64 (k : Int), .int .u64 (seed : Int)] w fun x w' => x = .returned (.bool true) ∧ Below w.heap.size w w' := by
  have hall := seenN_all seed (cutP ⟨a, b, o⟩).cnt k hk
  by_cases h20 : b < 20
  · rw [show cutP ⟨a, b, o⟩ = ⟨a, 20, o⟩ from if_pos h20] at hk64 hk hall
    have hrb := fun w => rblocks_any ⟨a, 20, o⟩ ha w
    have hou := fun w => ours13 ⟨a, 20, o⟩ w
    have hcn := fun w => cnt_blocks ⟨a, 20, o⟩ ha w
    have hbk := fun w => block_yes ⟨a, 20, o⟩ k ha hk w
    have hfr := fun w => from_yes ⟨a, 20, o⟩ seed k ha hs hk w
    have hf2 := fun i (hi : i < (⟨a, 20, o⟩ : Pool).cnt) w => from_yes ⟨a, 20, o⟩ seed i ha hs hi w
    generalize (⟨a, 20, o⟩ : Pool).cnt = n at *
    have hr : seed % n < n := Nat.mod_lt _ (by omega)
    have hplt : placeN seed n k < n := Nat.mod_lt _ (by omega)
    have hm1 : (seed : Int) % (n : Int) = ((seed % n : Nat) : Int) := (Int.natCast_emod _ _).symm
    have hm2 : (((seed % n : Nat) : Int) + (k : Int)) % (n : Int) = ((placeN seed n k : Nat) : Int) := by
      unfold placeN
      rw [Int.natCast_emod (seed % n + k) n, Int.natCast_add]
    generalize seed % n = r at *
    have hr2 : (r : Int) + (k : Int) < 200 := by omega
    have hn0 : (1 : Int) ≤ (n : Int) := by omega
    have HM1 := Lib.hid hm1
    have HM2 := Lib.hid hm2
    have HPLT := Lib.hid hplt
    have HALL := Lib.hid hall
    clear hm1 hm2 hplt hall
    unfold Pool.v at hf2
    unfold Pool.row at hf2
    simp only at hf2
    have HF2 := Lib.hid hf2
    clear hf2
    have hd : decide ((n : Int) ≤ (k : Int)) = false := decide_eq_false (by omega)
    have hd2 : decide (n ≤ k) = false := decide_eq_false (by omega)
    have hd3 : ¬ ((n : Int) ≤ (k : Int)) := by omega
    unfold Pool.v at hrb hou hcn hbk hfr ⊢
    unfold Pool.row at hrb hou hcn hbk hfr ⊢
    simp only at hrb hou hcn hbk hfr ⊢
    have HRB := Lib.hid hrb
    have HOU := Lib.hid hou
    have HCN := Lib.hid hcn
    have HBK := Lib.hid hbk
    have HFR := Lib.hid hfr
    clear hrb hou hcn hbk hfr
    go_enter Try.func4, Try.ntmps4
    go_upto_region 1 with fail
    obtain ⟨hx, hb⟩ := one_at w 37 [.int .u32 (a : Int), .int .i64 b, .bool o]
    generalize World.alloc _ _ = w1 at *
    obtain ⟨⟨c0, c1, c2⟩, f0, f1, f2⟩ := at3 hx
    go_upto_region 3 with fail
    have hst := grown_set w1 w.heap.size 1 (.int .i64 20)
    replace hx := hx.set 1 (.int .i64 20)
    replace hb := chainG hb hst (Nat.le_refl _)
    simp only [List.set_cons_zero, List.set_cons_succ] at hx
    clear hst
    generalize World.setCell _ _ _ = w1' at *
    clear c0 c1 c2 f0 f1 f2
    obtain ⟨⟨c0, c1, c2⟩, _⟩ := at3 hx
    go_wp2_with fail
    refine (HRB.out _).mono ?_
    rintro x w2 ⟨A, c, rfl, hown, hb2⟩
    replace hx := hx.below hb2
    replace hb := chain hb hb2
    clear hb2 c0 c1 c2
    obtain ⟨⟨c0, c1, c2⟩, _⟩ := at3 hx
    go_wp2_with fail
    refine (HOU.out _).mono ?_
    rintro x w3 ⟨rfl, hb3⟩
    replace hown := hown.below hb3
    replace hb := chain hb hb3
    clear hb3 c0 c1 c2 hx
    go_upto_region 5 with fail
    obtain ⟨hz, hb4⟩ := one_at w3 42 [.int .u32 (a : Int), .int .i64 20, .bool o]
    replace hown := hown.below hb4
    replace hb := chain hb hb4
    clear hb4
    generalize World.alloc _ _ = w4 at *
    generalize w3.heap.size = go at *
    obtain ⟨⟨z0, z1, z2⟩, _⟩ := at3 hz
    go_wp2_with fail
    refine (HBK.out _).mono ?_
    rintro x w5 ⟨rfl, hb5⟩
    replace hown := hown.below hb5
    replace hb := chain hb hb5
    replace hz := hz.below hb5
    clear hb5 z0 z1 z2
    obtain ⟨⟨z0, z1, z2⟩, _⟩ := at3 hz
    go_wp2_with fail
    refine (HFR.out _).mono ?_
    rintro x w6 ⟨rfl, hb6⟩
    replace hown := hown.below hb6
    replace hb := chain hb hb6
    replace hz := hz.below hb6
    clear hb6 z0 z1 z2
    obtain ⟨⟨z0, z1, z2⟩, _⟩ := at3 hz
    go_wp2_with fail
    refine (HCN.out _).mono ?_
    rintro x w7 ⟨rfl, hb7⟩
    replace hown := hown.below hb7
    replace hb := chain hb hb7
    replace hz := hz.below hb7
    clear hb7 z0 z1 z2
    have hrd := Rd.of_own hown
    obtain ⟨g1, o1, u1, e1, hg1, hu1, hc1⟩ := hrd.get hk
    obtain ⟨g2, o2, u2, e2, hg2, hu2, hc2⟩ := hrd.get HPLT.out
    subst e1
    injection e2 with e2
    injection e2 with e2 e3
    subst e2
    subst e3
    rw [adds_get hk] at hu1
    rw [adds_get HPLT.out] at hu2
    injection hu1 with hu1
    injection hu2 with hu2
    subst hu1
    subst hu2
    rw [Int.mul_comm 64] at hc1 hc2
    have hle := hrd.le
    clear hrd hg1 hg2
    have h1 := HM1.out
    have h2 := HM2.out
    go_upto_region 13 with fail
    have HZ := Lib.hid hz
    have HB := Lib.hid hb
    clear hz hb hown hc1 hc2 hle h1 h2 HM1 HM2 HPLT HRB HOU HCN HBK HFR hd hd2 hd3 hr2
    generalize w1.heap.size = g3 at *
    go_loopw [14, 15] (fun v i wr => ∃ j : Nat, i = .int .i64 (j : Int) ∧ j ≤ n ∧ v = .int .i64 ((seenN seed n k j : Nat) : Int) ∧ At wr go 42 [.int .u32 (a : Int), .int .i64 20, .bool o] ∧ Below w.heap.size w wr) (fun _ i _ => n - (intOf i).toNat)
    case atStart => exact ⟨0, rfl, Nat.zero_le _, rfl, HZ.out, HB.out⟩
    case round =>
      clear HZ HB
      obtain ⟨i, rfl, hi, rfl, hz, hb⟩ := hrel
      obtain ⟨⟨z0, z1, z2⟩, _⟩ := at3 hz
      have HZ := Lib.hid hz
      have HB := Lib.hid hb
      clear hz hb
      by_cases hlt : i < n
      · have hf := HF2.out i hlt
        have hle1 := seenN_le seed n k i
        have hsc := seenN_succ seed n k i
        generalize seenN seed n k i = sc at *
        by_cases hpk : placeN seed n i = k
        · rw [if_pos hpk] at hsc
          rw [hpk] at hf
          have HS := Lib.hid hsc
          have HF := Lib.hid hf
          clear hsc hf
          go_wp2_with fail
          refine (HF.out _).mono ?_
          rintro x w8 ⟨rfl, hb8⟩
          have hz8 := HZ.out.below hb8
          have hB8 := chain HB.out hb8
          have HZ8 := Lib.hid hz8
          have HB8 := Lib.hid hB8
          clear hz8 hB8 HZ HB hb8 z0 z1 z2
          go_wp2_with fail
          go_roundw
          case rel => exact ⟨i + 1, by go_num, by omega, by rw [HS.out]; go_num, HZ8.out, HB8.out⟩
          case measure => simp [intOf]; omega
        · rw [if_neg hpk] at hsc
          have hbe : ((a : Int) + ((placeN seed n i : Nat) : Int) * 64 == (a : Int) + (k : Int) * 64) = false := beq_eq_false_iff_ne.mpr (by omega)
          have HS := Lib.hid hsc
          have HF := Lib.hid hf
          clear hsc hf
          go_wp2_with fail
          refine (HF.out _).mono ?_
          rintro x w8 ⟨rfl, hb8⟩
          have hz8 := HZ.out.below hb8
          have hB8 := chain HB.out hb8
          have HZ8 := Lib.hid hz8
          have HB8 := Lib.hid hB8
          clear hz8 hB8 HZ HB hb8 z0 z1 z2
          go_wp2_with fail
          go_roundw
          case rel => exact ⟨i + 1, by go_num, by omega, by rw [HS.out]; go_num, HZ8.out, HB8.out⟩
          case measure => simp [intOf]; omega
      · obtain rfl : i = n := by omega
        have h1 := HALL.out
        simp only [h1]
        go_wp2_with fail
        refine (awake13 _).mono ?_
        rintro x w8 ⟨rfl, hb8⟩
        have hB8 := chain HB.out hb8
        clear hb8
        go_wp2_with fail
        go_ret
        exact ⟨rfl, hB8⟩
  · rw [show cutP ⟨a, b, o⟩ = ⟨a, b, o⟩ from if_neg h20] at hk64 hk hall
    have hrb := fun w => rblocks_any ⟨a, b, o⟩ ha w
    have hou := fun w => ours13 ⟨a, b, o⟩ w
    have hcn := fun w => cnt_blocks ⟨a, b, o⟩ ha w
    have hbk := fun w => block_yes ⟨a, b, o⟩ k ha hk w
    have hfr := fun w => from_yes ⟨a, b, o⟩ seed k ha hs hk w
    have hf2 := fun i (hi : i < (⟨a, b, o⟩ : Pool).cnt) w => from_yes ⟨a, b, o⟩ seed i ha hs hi w
    generalize (⟨a, b, o⟩ : Pool).cnt = n at *
    have hr : seed % n < n := Nat.mod_lt _ (by omega)
    have hplt : placeN seed n k < n := Nat.mod_lt _ (by omega)
    have hm1 : (seed : Int) % (n : Int) = ((seed % n : Nat) : Int) := (Int.natCast_emod _ _).symm
    have hm2 : (((seed % n : Nat) : Int) + (k : Int)) % (n : Int) = ((placeN seed n k : Nat) : Int) := by
      unfold placeN
      rw [Int.natCast_emod (seed % n + k) n, Int.natCast_add]
    generalize seed % n = r at *
    have hr2 : (r : Int) + (k : Int) < 200 := by omega
    have hn0 : (1 : Int) ≤ (n : Int) := by omega
    have HM1 := Lib.hid hm1
    have HM2 := Lib.hid hm2
    have HPLT := Lib.hid hplt
    have HALL := Lib.hid hall
    clear hm1 hm2 hplt hall
    unfold Pool.v at hf2
    unfold Pool.row at hf2
    simp only at hf2
    have HF2 := Lib.hid hf2
    clear hf2
    have hd : decide ((n : Int) ≤ (k : Int)) = false := decide_eq_false (by omega)
    have hd2 : decide (n ≤ k) = false := decide_eq_false (by omega)
    have hd3 : ¬ ((n : Int) ≤ (k : Int)) := by omega
    unfold Pool.v at hrb hou hcn hbk hfr ⊢
    unfold Pool.row at hrb hou hcn hbk hfr ⊢
    simp only at hrb hou hcn hbk hfr ⊢
    have HRB := Lib.hid hrb
    have HOU := Lib.hid hou
    have HCN := Lib.hid hcn
    have HBK := Lib.hid hbk
    have HFR := Lib.hid hfr
    clear hrb hou hcn hbk hfr
    go_enter Try.func4, Try.ntmps4
    go_upto_region 1 with fail
    obtain ⟨hx, hb⟩ := one_at w 37 [.int .u32 (a : Int), .int .i64 b, .bool o]
    generalize World.alloc _ _ = w1 at *
    obtain ⟨⟨c0, c1, c2⟩, f0, f1, f2⟩ := at3 hx
    go_upto_region 3 with fail
    clear c0 c1 c2 f0 f1 f2
    obtain ⟨⟨c0, c1, c2⟩, _⟩ := at3 hx
    go_wp2_with fail
    refine (HRB.out _).mono ?_
    rintro x w2 ⟨A, c, rfl, hown, hb2⟩
    replace hx := hx.below hb2
    replace hb := chain hb hb2
    clear hb2 c0 c1 c2
    obtain ⟨⟨c0, c1, c2⟩, _⟩ := at3 hx
    go_wp2_with fail
    refine (HOU.out _).mono ?_
    rintro x w3 ⟨rfl, hb3⟩
    replace hown := hown.below hb3
    replace hb := chain hb hb3
    clear hb3 c0 c1 c2 hx
    go_upto_region 5 with fail
    obtain ⟨hz, hb4⟩ := one_at w3 42 [.int .u32 (a : Int), .int .i64 b, .bool o]
    replace hown := hown.below hb4
    replace hb := chain hb hb4
    clear hb4
    generalize World.alloc _ _ = w4 at *
    generalize w3.heap.size = go at *
    obtain ⟨⟨z0, z1, z2⟩, _⟩ := at3 hz
    go_wp2_with fail
    refine (HBK.out _).mono ?_
    rintro x w5 ⟨rfl, hb5⟩
    replace hown := hown.below hb5
    replace hb := chain hb hb5
    replace hz := hz.below hb5
    clear hb5 z0 z1 z2
    obtain ⟨⟨z0, z1, z2⟩, _⟩ := at3 hz
    go_wp2_with fail
    refine (HFR.out _).mono ?_
    rintro x w6 ⟨rfl, hb6⟩
    replace hown := hown.below hb6
    replace hb := chain hb hb6
    replace hz := hz.below hb6
    clear hb6 z0 z1 z2
    obtain ⟨⟨z0, z1, z2⟩, _⟩ := at3 hz
    go_wp2_with fail
    refine (HCN.out _).mono ?_
    rintro x w7 ⟨rfl, hb7⟩
    replace hown := hown.below hb7
    replace hb := chain hb hb7
    replace hz := hz.below hb7
    clear hb7 z0 z1 z2
    have hrd := Rd.of_own hown
    obtain ⟨g1, o1, u1, e1, hg1, hu1, hc1⟩ := hrd.get hk
    obtain ⟨g2, o2, u2, e2, hg2, hu2, hc2⟩ := hrd.get HPLT.out
    subst e1
    injection e2 with e2
    injection e2 with e2 e3
    subst e2
    subst e3
    rw [adds_get hk] at hu1
    rw [adds_get HPLT.out] at hu2
    injection hu1 with hu1
    injection hu2 with hu2
    subst hu1
    subst hu2
    rw [Int.mul_comm 64] at hc1 hc2
    have hle := hrd.le
    clear hrd hg1 hg2
    have h1 := HM1.out
    have h2 := HM2.out
    go_upto_region 13 with fail
    have HZ := Lib.hid hz
    have HB := Lib.hid hb
    clear hz hb hown hc1 hc2 hle h1 h2 HM1 HM2 HPLT HRB HOU HCN HBK HFR hd hd2 hd3 hr2
    generalize w1.heap.size = g3 at *
    go_loopw [14, 15] (fun v i wr => ∃ j : Nat, i = .int .i64 (j : Int) ∧ j ≤ n ∧ v = .int .i64 ((seenN seed n k j : Nat) : Int) ∧ At wr go 42 [.int .u32 (a : Int), .int .i64 b, .bool o] ∧ Below w.heap.size w wr) (fun _ i _ => n - (intOf i).toNat)
    case atStart => exact ⟨0, rfl, Nat.zero_le _, rfl, HZ.out, HB.out⟩
    case round =>
      clear HZ HB
      obtain ⟨i, rfl, hi, rfl, hz, hb⟩ := hrel
      obtain ⟨⟨z0, z1, z2⟩, _⟩ := at3 hz
      have HZ := Lib.hid hz
      have HB := Lib.hid hb
      clear hz hb
      by_cases hlt : i < n
      · have hf := HF2.out i hlt
        have hle1 := seenN_le seed n k i
        have hsc := seenN_succ seed n k i
        generalize seenN seed n k i = sc at *
        by_cases hpk : placeN seed n i = k
        · rw [if_pos hpk] at hsc
          rw [hpk] at hf
          have HS := Lib.hid hsc
          have HF := Lib.hid hf
          clear hsc hf
          go_wp2_with fail
          refine (HF.out _).mono ?_
          rintro x w8 ⟨rfl, hb8⟩
          have hz8 := HZ.out.below hb8
          have hB8 := chain HB.out hb8
          have HZ8 := Lib.hid hz8
          have HB8 := Lib.hid hB8
          clear hz8 hB8 HZ HB hb8 z0 z1 z2
          go_wp2_with fail
          go_roundw
          case rel => exact ⟨i + 1, by go_num, by omega, by rw [HS.out]; go_num, HZ8.out, HB8.out⟩
          case measure => simp [intOf]; omega
        · rw [if_neg hpk] at hsc
          have hbe : ((a : Int) + ((placeN seed n i : Nat) : Int) * 64 == (a : Int) + (k : Int) * 64) = false := beq_eq_false_iff_ne.mpr (by omega)
          have HS := Lib.hid hsc
          have HF := Lib.hid hf
          clear hsc hf
          go_wp2_with fail
          refine (HF.out _).mono ?_
          rintro x w8 ⟨rfl, hb8⟩
          have hz8 := HZ.out.below hb8
          have hB8 := chain HB.out hb8
          have HZ8 := Lib.hid hz8
          have HB8 := Lib.hid hB8
          clear hz8 hB8 HZ HB hb8 z0 z1 z2
          go_wp2_with fail
          go_roundw
          case rel => exact ⟨i + 1, by go_num, by omega, by rw [HS.out]; go_num, HZ8.out, HB8.out⟩
          case measure => simp [intOf]; omega
      · obtain rfl : i = n := by omega
        have h1 := HALL.out
        simp only [h1]
        go_wp2_with fail
        refine (awake13 _).mono ?_
        rintro x w8 ⟨rfl, hb8⟩
        have hB8 := chain HB.out hb8
        clear hb8
        go_wp2_with fail
        go_ret
        exact ⟨rfl, hB8⟩
theorem recsBlocks_walk {p : Pool} {k : Int} {seed : Nat} (w : World) (hp : p.a < 4294967296) (hs : seed < 18446744073709551616) :
    Calls Try.prog 4 #[p.v, .int .i64 k, .int .u64 (seed : Int)] w fun x w' => x = .returned (.bool true) ∧ Below w.heap.size w w' := by
  obtain ⟨a, b, o⟩ := p
  have h64 := cutP_cnt ⟨a, b, o⟩
  by_cases hk : k < 0 ∨ ((cutP ⟨a, b, o⟩).cnt : Int) ≤ k
  · exact recsBlocks_no a b o hp k seed w h64 hk
  · obtain ⟨j, rfl⟩ : ∃ j : Nat, k = (j : Int) := ⟨k.toNat, by omega⟩
    exact recsBlocks_yes a b o hp j seed hs w h64 (by omega)
end Go.Proofs.Ytcepknjcgknidaa
