
/- Chapter 13: the walk of RecsRead. -/
import Derived.Test.YtcepknjcgknidaaRPool
namespace Go.Proofs.Ytcepknjcgknidaa
set_option linter.unusedVariables false
set_option linter.unusedSimpArgs false
open Go.RowKit
theorem poolL_length (p : Pool) : (poolL p).length = 7 := by simp [poolL, putN_length]
theorem okP_length {l : List UInt8} (h : okP l) : l.length = 7 := by
  have := (put_okP l h).1
  rw [← this, poolL_length]
theorem twoV_list {s : ByteArray} {a b : UInt8} (h : s.toList = [a, b]) (t m : UInt8) : twoV s t m = if a = t ∧ b ≤ m then some b.toNat else none := by
  rw [ByteArray.toList_eq] at h
  unfold twoV
  rw [h]
def Isnt (s : ByteArray) (l : List UInt8) : Prop := (s.toList == l) = false ∧ ¬ s.toList = l
theorem isnt {s : ByteArray} {l : List UInt8} (h : ¬ s.toList = l) : Isnt s l := ⟨by simpa using h, h⟩
theorem isnt_node {s : ByteArray} (h : twoV s 78 1 = none) : Isnt s [78, 0] ∧ Isnt s [78, 1] := by
  refine ⟨isnt fun e => ?_, isnt fun e => ?_⟩ <;> (rw [twoV_list e] at h; exact absurd h (by decide))
theorem isnt_aff {s : ByteArray} (h : affV s = none) : Isnt s [65, 1] ∧ Isnt s [65, 2] ∧ Isnt s [65, 3] := by
  unfold affV at h
  refine ⟨isnt fun e => ?_, isnt fun e => ?_, isnt fun e => ?_⟩ <;> (rw [twoV_list e] at h; exact absurd h (by decide))
theorem recsRead_none (s : ByteArray) (hs : s.size ≤ 40) (h1 : ¬ okP s.data.toList) (h2 : twoV s 78 1 = none) (h3 : affV s = none) (name : ByteArray) (w : World) (hn : (40 < name.size ∧ name.extract 0 40 = s) ∨ (¬ 40 < name.size ∧ name = s)) :
    Calls Try.prog 6 #[.string name] w fun x w' => x = .returned (.bool true) ∧ Below w.heap.size w w' := by
  have hrp := fun w => readpool_bad s (by omega) h1 w
  have hrn := fun w => readnode_any s w
  have hra := fun w => readaff_any s w
  obtain ⟨⟨e1, n1⟩, ⟨e2, n2⟩⟩ := isnt_node h2
  obtain ⟨⟨e3, n3⟩, ⟨e4, n4⟩, ⟨e5, n5⟩⟩ := isnt_aff h3
  rw [h2] at hrn
  rw [h3] at hra
  unfold Pool.v Pool.row Pool.zero at hrp
  have HRP := Lib.hid hrp
  have HRN := Lib.hid hrn
  have HRA := Lib.hid hra
  clear hrp hrn hra h1 h2 h3
  rcases hn with ⟨h40, hcut⟩ | ⟨h40, hcut⟩
  all_goals
    have HC := Lib.hid hcut
    clear hcut
    go_enter Try.func6, Try.ntmps6
    go_upto_region 3 with fail
    rw [HC.out]
    go_wp2_with fail
    refine (HRP.out _).mono ?_
    rintro x w1 ⟨rfl, hb⟩
    go_upto_region 4 with fail
    obtain ⟨hz, hb2⟩ := one_at w1 42 [.int .u32 0, .int .i64 0, .bool false]
    replace hb := chain hb hb2
    clear hb2
    generalize World.alloc _ _ = w2 at *
    obtain ⟨⟨z0, z1, z2⟩, _⟩ := at3 hz
    go_upto_region 6 with fail
    clear z0 z1 z2 hz
    go_wp2_with fail
    refine (HRN.out _).mono ?_
    rintro x w3 ⟨rfl, rfl⟩
    go_upto_region 9 with fail
    go_wp2_with fail
    refine (HRA.out _).mono ?_
    rintro x w4 ⟨rfl, rfl⟩
    go_wp2_with fail
    refine (awake13 _).mono ?_
    rintro x w5 ⟨rfl, hb5⟩
    replace hb := chain hb hb5
    clear hb5
    go_wp2_with fail
    go_ret
    exact ⟨rfl, hb⟩
set_option maxHeartbeats 1000000 in
theorem recsRead_pool (s : ByteArray) (hs : s.size ≤ 40) (h1 : okP s.data.toList) (name : ByteArray) (w : World) (hn : (40 < name.size ∧ name.extract 0 40 = s) ∨ (¬ 40 < name.size ∧ name = s)) :
    Calls Try.prog 6 #[.string name] w fun x w' => x = .returned (.bool true) ∧ Below w.heap.size w w' := by
  have hlen : s.size = 7 := by have := okP_length h1; rw [Array.length_toList] at this; exact this
  have h2 : twoV s 78 1 = none := twoV_other (by omega) _ _
  have h3 : affV s = none := by unfold affV; rw [twoV_other (by omega)]
  have hrp := fun w => readpool_ok s (by omega) h1 w
  have hrn := fun w => readnode_any s w
  have hra := fun w => readaff_any s w
  obtain ⟨⟨e1, n1⟩, ⟨e2, n2⟩⟩ := isnt_node h2
  obtain ⟨⟨e3, n3⟩, ⟨e4, n4⟩, ⟨e5, n5⟩⟩ := isnt_aff h3
  rw [h2] at hrn
  rw [h3] at hra
  obtain ⟨hback, ha⟩ := put_okP _ h1
  have hright : (rdP s.data.toList).p.right = true := h1.2.2.2
  obtain ⟨p, hp⟩ : ∃ p, p = (rdP s.data.toList).p := ⟨_, rfl⟩
  rw [← hp] at hrp hback hright
  have hpa : p.a < 4294967296 := by rw [hp]; exact ha
  have hpl := plain13 p
  have hrr := rright_pool p hpa
  have hput := rputpool p hpa hright
  rw [hback, show (⟨s.data.toList.toArray⟩ : ByteArray) = s from rfl] at hput
  rw [hright] at hrr
  clear hp ha h1 h2 h3 hback hright
  obtain ⟨a, b, o⟩ := p
  unfold Pool.v at *
  unfold Pool.row at *
  simp only at hrp hpl hrr hput
  have HRP := Lib.hid hrp
  have HRN := Lib.hid hrn
  have HRA := Lib.hid hra
  have HPL := Lib.hid hpl
  have HRR := Lib.hid hrr
  have HPU := Lib.hid hput
  clear hrp hrn hra hpl hrr hput
  rcases hn with ⟨h40, hcut⟩ | ⟨h40, hcut⟩
  all_goals
    have HC := Lib.hid hcut
    clear hcut
    go_enter Try.func6, Try.ntmps6
    go_upto_region 3 with fail
    rw [HC.out]
    go_wp2_with fail
    refine (HRP.out _).mono ?_
    rintro x w1 ⟨rfl, hb⟩
    go_upto_region 4 with fail
    obtain ⟨hz, hb2⟩ := one_at w1 42 [.int .u32 (a : Int), .int .i64 b, .bool o]
    replace hb := chain hb hb2
    clear hb2
    generalize World.alloc _ _ = w2 at *
    obtain ⟨⟨z0, z1, z2⟩, _⟩ := at3 hz
    go_wp2_with fail
    refine (HPL.out _).mono ?_
    rintro x w3 ⟨rfl, hb3⟩
    replace hz := hz.below hb3
    replace hb := chain hb hb3
    clear hb3 z0 z1 z2
    go_wp2_with fail
    refine (HRR.out _).mono ?_
    rintro x w4 ⟨rfl, hb4⟩
    replace hz := hz.below hb4
    replace hb := chain hb hb4
    clear hb4
    obtain ⟨⟨z0, z1, z2⟩, _⟩ := at3 hz
    go_wp2_with fail
    refine (HPL.out _).mono ?_
    rintro x w5 ⟨rfl, hb5⟩
    replace hz := hz.below hb5
    replace hb := chain hb hb5
    clear hb5 z0 z1 z2
    go_wp2_with fail
    refine (HPU.out _).mono ?_
    rintro x w6 ⟨rfl, hb6⟩
    replace hz := hz.below hb6
    replace hb := chain hb hb6
    clear hb6
    obtain ⟨⟨z0, z1, z2⟩, _⟩ := at3 hz
    go_upto_region 6 with fail
    clear z0 z1 z2 hz
    go_wp2_with fail
    refine (HRN.out _).mono ?_
    rintro x w3 ⟨rfl, rfl⟩
    go_upto_region 9 with fail
    go_wp2_with fail
    refine (HRA.out _).mono ?_
    rintro x w4 ⟨rfl, rfl⟩
    go_wp2_with fail
    refine (awake13 _).mono ?_
    rintro x w5 ⟨rfl, hb5⟩
    replace hb := chain hb hb5
    clear hb5
    go_wp2_with fail
    go_ret
    exact ⟨rfl, hb⟩
theorem not_okP_two (a b : UInt8) : ¬ okP [a, b] := fun h => absurd (okP_length h) (by simp)
theorem recsRead_node0 (name : ByteArray) (w : World) (hn : (40 < name.size ∧ name.extract 0 40 = ⟨#[78, 0]⟩) ∨ (¬ 40 < name.size ∧ name = ⟨#[78, 0]⟩)) :
    Calls Try.prog 6 #[.string name] w fun x w' => x = .returned (.bool true) ∧ Below w.heap.size w w' := by
  have hrp := fun w => readpool_bad ⟨#[78, 0]⟩ (by decide) (not_okP_two _ _) w
  have hrn := fun w => readnode_any ⟨#[78, 0]⟩ w
  have hra := fun w => readaff_any ⟨#[78, 0]⟩ w
  rw [show twoV ⟨#[78, 0]⟩ 78 1 = some 0 from rfl] at hrn
  rw [show affV ⟨#[78, 0]⟩ = none from rfl] at hra
  unfold Pool.v Pool.row Pool.zero at hrp
  have HRP := Lib.hid hrp
  have HRN := Lib.hid hrn
  have HRA := Lib.hid hra
  clear hrp hrn hra
  rcases hn with ⟨h40, hcut⟩ | ⟨h40, hcut⟩
  all_goals
    have HC := Lib.hid hcut
    clear hcut
    go_enter Try.func6, Try.ntmps6
    go_upto_region 3 with fail
    rw [HC.out]
    go_wp2_with fail
    refine (HRP.out _).mono ?_
    rintro x w1 ⟨rfl, hb⟩
    go_upto_region 4 with fail
    obtain ⟨hz, hb2⟩ := one_at w1 42 [.int .u32 0, .int .i64 0, .bool false]
    replace hb := chain hb hb2
    clear hb2
    generalize World.alloc _ _ = w2 at *
    obtain ⟨⟨z0, z1, z2⟩, _⟩ := at3 hz
    go_upto_region 6 with fail
    clear z0 z1 z2 hz
    go_wp2_with fail
    refine (HRN.out _).mono ?_
    rintro x w3 ⟨rfl, rfl⟩
    go_wp2_with fail
    refine (putnode_any _ _).mono ?_
    rintro x w4 ⟨rfl, hb4⟩
    replace hb := chain hb hb4
    clear hb4
    go_upto_region 9 with fail
    go_wp2_with fail
    refine (HRA.out _).mono ?_
    rintro x w4 ⟨rfl, rfl⟩
    go_wp2_with fail
    refine (awake13 _).mono ?_
    rintro x w5 ⟨rfl, hb5⟩
    replace hb := chain hb hb5
    clear hb5
    go_wp2_with fail
    go_ret
    exact ⟨rfl, hb⟩
theorem recsRead_node1 (name : ByteArray) (w : World) (hn : (40 < name.size ∧ name.extract 0 40 = ⟨#[78, 1]⟩) ∨ (¬ 40 < name.size ∧ name = ⟨#[78, 1]⟩)) :
    Calls Try.prog 6 #[.string name] w fun x w' => x = .returned (.bool true) ∧ Below w.heap.size w w' := by
  have hrp := fun w => readpool_bad ⟨#[78, 1]⟩ (by decide) (not_okP_two _ _) w
  have hrn := fun w => readnode_any ⟨#[78, 1]⟩ w
  have hra := fun w => readaff_any ⟨#[78, 1]⟩ w
  rw [show twoV ⟨#[78, 1]⟩ 78 1 = some 1 from rfl] at hrn
  rw [show affV ⟨#[78, 1]⟩ = none from rfl] at hra
  unfold Pool.v Pool.row Pool.zero at hrp
  have HRP := Lib.hid hrp
  have HRN := Lib.hid hrn
  have HRA := Lib.hid hra
  clear hrp hrn hra
  rcases hn with ⟨h40, hcut⟩ | ⟨h40, hcut⟩
  all_goals
    have HC := Lib.hid hcut
    clear hcut
    go_enter Try.func6, Try.ntmps6
    go_upto_region 3 with fail
    rw [HC.out]
    go_wp2_with fail
    refine (HRP.out _).mono ?_
    rintro x w1 ⟨rfl, hb⟩
    go_upto_region 4 with fail
    obtain ⟨hz, hb2⟩ := one_at w1 42 [.int .u32 0, .int .i64 0, .bool false]
    replace hb := chain hb hb2
    clear hb2
    generalize World.alloc _ _ = w2 at *
    obtain ⟨⟨z0, z1, z2⟩, _⟩ := at3 hz
    go_upto_region 6 with fail
    clear z0 z1 z2 hz
    go_wp2_with fail
    refine (HRN.out _).mono ?_
    rintro x w3 ⟨rfl, rfl⟩
    go_wp2_with fail
    refine (putnode_any _ _).mono ?_
    rintro x w4 ⟨rfl, hb4⟩
    replace hb := chain hb hb4
    clear hb4
    go_upto_region 9 with fail
    go_wp2_with fail
    refine (HRA.out _).mono ?_
    rintro x w4 ⟨rfl, rfl⟩
    go_wp2_with fail
    refine (awake13 _).mono ?_
    rintro x w5 ⟨rfl, hb5⟩
    replace hb := chain hb hb5
    clear hb5
    go_wp2_with fail
    go_ret
    exact ⟨rfl, hb⟩
theorem recsRead_aff1 (name : ByteArray) (w : World) (hn : (40 < name.size ∧ name.extract 0 40 = ⟨#[65, 1]⟩) ∨ (¬ 40 < name.size ∧ name = ⟨#[65, 1]⟩)) :
    Calls Try.prog 6 #[.string name] w fun x w' => x = .returned (.bool true) ∧ Below w.heap.size w w' := by
  have hrp := fun w => readpool_bad ⟨#[65, 1]⟩ (by decide) (not_okP_two _ _) w
  have hrn := fun w => readnode_any ⟨#[65, 1]⟩ w
  have hra := fun w => readaff_any ⟨#[65, 1]⟩ w
  rw [show twoV ⟨#[65, 1]⟩ 78 1 = none from rfl] at hrn
  rw [show affV ⟨#[65, 1]⟩ = some 1 from rfl] at hra
  have hpa := fun w => putaff_ok 1 w (by omega)
  rw [show UInt8.ofNat 1 = 1 from rfl] at hpa
  unfold Pool.v Pool.row Pool.zero at hrp
  have HRP := Lib.hid hrp
  have HRN := Lib.hid hrn
  have HRA := Lib.hid hra
  have HPA := Lib.hid hpa
  clear hrp hrn hra hpa
  rcases hn with ⟨h40, hcut⟩ | ⟨h40, hcut⟩
  all_goals
    have HC := Lib.hid hcut
    clear hcut
    go_enter Try.func6, Try.ntmps6
    go_upto_region 3 with fail
    rw [HC.out]
    go_wp2_with fail
    refine (HRP.out _).mono ?_
    rintro x w1 ⟨rfl, hb⟩
    go_upto_region 4 with fail
    obtain ⟨hz, hb2⟩ := one_at w1 42 [.int .u32 0, .int .i64 0, .bool false]
    replace hb := chain hb hb2
    clear hb2
    generalize World.alloc _ _ = w2 at *
    obtain ⟨⟨z0, z1, z2⟩, _⟩ := at3 hz
    go_upto_region 6 with fail
    clear z0 z1 z2 hz
    go_wp2_with fail
    refine (HRN.out _).mono ?_
    rintro x w3 ⟨rfl, rfl⟩
    go_upto_region 9 with fail
    go_wp2_with fail
    refine (HRA.out _).mono ?_
    rintro x w4 ⟨rfl, rfl⟩
    go_wp2_with fail
    refine (HPA.out _).mono ?_
    rintro x w5 ⟨rfl, hb5⟩
    replace hb := chain hb hb5
    clear hb5
    go_wp2_with fail
    refine (awake13 _).mono ?_
    rintro x w6 ⟨rfl, hb6⟩
    replace hb := chain hb hb6
    clear hb6
    go_wp2_with fail
    go_ret
    exact ⟨rfl, hb⟩
theorem recsRead_aff2 (name : ByteArray) (w : World) (hn : (40 < name.size ∧ name.extract 0 40 = ⟨#[65, 2]⟩) ∨ (¬ 40 < name.size ∧ name = ⟨#[65, 2]⟩)) :
    Calls Try.prog 6 #[.string name] w fun x w' => x = .returned (.bool true) ∧ Below w.heap.size w w' := by
  have hrp := fun w => readpool_bad ⟨#[65, 2]⟩ (by decide) (not_okP_two _ _) w
  have hrn := fun w => readnode_any ⟨#[65, 2]⟩ w
  have hra := fun w => readaff_any ⟨#[65, 2]⟩ w
  rw [show twoV ⟨#[65, 2]⟩ 78 1 = none from rfl] at hrn
  rw [show affV ⟨#[65, 2]⟩ = some 2 from rfl] at hra
  have hpa := fun w => putaff_ok 2 w (by omega)
  rw [show UInt8.ofNat 2 = 2 from rfl] at hpa
  unfold Pool.v Pool.row Pool.zero at hrp
  have HRP := Lib.hid hrp
  have HRN := Lib.hid hrn
  have HRA := Lib.hid hra
  have HPA := Lib.hid hpa
  clear hrp hrn hra hpa
  rcases hn with ⟨h40, hcut⟩ | ⟨h40, hcut⟩
  all_goals
    have HC := Lib.hid hcut
    clear hcut
    go_enter Try.func6, Try.ntmps6
    go_upto_region 3 with fail
    rw [HC.out]
    go_wp2_with fail
    refine (HRP.out _).mono ?_
    rintro x w1 ⟨rfl, hb⟩
    go_upto_region 4 with fail
    obtain ⟨hz, hb2⟩ := one_at w1 42 [.int .u32 0, .int .i64 0, .bool false]
    replace hb := chain hb hb2
    clear hb2
    generalize World.alloc _ _ = w2 at *
    obtain ⟨⟨z0, z1, z2⟩, _⟩ := at3 hz
    go_upto_region 6 with fail
    clear z0 z1 z2 hz
    go_wp2_with fail
    refine (HRN.out _).mono ?_
    rintro x w3 ⟨rfl, rfl⟩
    go_upto_region 9 with fail
    go_wp2_with fail
    refine (HRA.out _).mono ?_
    rintro x w4 ⟨rfl, rfl⟩
    go_wp2_with fail
    refine (HPA.out _).mono ?_
    rintro x w5 ⟨rfl, hb5⟩
    replace hb := chain hb hb5
    clear hb5
    go_wp2_with fail
    refine (awake13 _).mono ?_
    rintro x w6 ⟨rfl, hb6⟩
    replace hb := chain hb hb6
    clear hb6
    go_wp2_with fail
    go_ret
    exact ⟨rfl, hb⟩
theorem recsRead_aff3 (name : ByteArray) (w : World) (hn : (40 < name.size ∧ name.extract 0 40 = ⟨#[65, 3]⟩) ∨ (¬ 40 < name.size ∧ name = ⟨#[65, 3]⟩)) :
    Calls Try.prog 6 #[.string name] w fun x w' => x = .returned (.bool true) ∧ Below w.heap.size w w' := by
  have hrp := fun w => readpool_bad ⟨#[65, 3]⟩ (by decide) (not_okP_two _ _) w
  have hrn := fun w => readnode_any ⟨#[65, 3]⟩ w
  have hra := fun w => readaff_any ⟨#[65, 3]⟩ w
  rw [show twoV ⟨#[65, 3]⟩ 78 1 = none from rfl] at hrn
  rw [show affV ⟨#[65, 3]⟩ = some 3 from rfl] at hra
  have hpa := fun w => putaff_ok 3 w (by omega)
  rw [show UInt8.ofNat 3 = 3 from rfl] at hpa
  unfold Pool.v Pool.row Pool.zero at hrp
  have HRP := Lib.hid hrp
  have HRN := Lib.hid hrn
  have HRA := Lib.hid hra
  have HPA := Lib.hid hpa
  clear hrp hrn hra hpa
  rcases hn with ⟨h40, hcut⟩ | ⟨h40, hcut⟩
  all_goals
    have HC := Lib.hid hcut
    clear hcut
    go_enter Try.func6, Try.ntmps6
    go_upto_region 3 with fail
    rw [HC.out]
    go_wp2_with fail
    refine (HRP.out _).mono ?_
    rintro x w1 ⟨rfl, hb⟩
    go_upto_region 4 with fail
    obtain ⟨hz, hb2⟩ := one_at w1 42 [.int .u32 0, .int .i64 0, .bool false]
    replace hb := chain hb hb2
    clear hb2
    generalize World.alloc _ _ = w2 at *
    obtain ⟨⟨z0, z1, z2⟩, _⟩ := at3 hz
    go_upto_region 6 with fail
    clear z0 z1 z2 hz
    go_wp2_with fail
    refine (HRN.out _).mono ?_
    rintro x w3 ⟨rfl, rfl⟩
    go_upto_region 9 with fail
    go_wp2_with fail
    refine (HRA.out _).mono ?_
    rintro x w4 ⟨rfl, rfl⟩
    go_wp2_with fail
    refine (HPA.out _).mono ?_
    rintro x w5 ⟨rfl, hb5⟩
    replace hb := chain hb hb5
    clear hb5
    go_wp2_with fail
    refine (awake13 _).mono ?_
    rintro x w6 ⟨rfl, hb6⟩
    replace hb := chain hb hb6
    clear hb6
    go_wp2_with fail
    go_ret
    exact ⟨rfl, hb⟩
theorem twoV_some {s : ByteArray} {t m : UInt8} {k : Nat} (h : twoV s t m = some k) : ∃ b : UInt8, s = ⟨#[t, b]⟩ ∧ b ≤ m ∧ b.toNat = k := by
  obtain ⟨⟨l⟩⟩ := s
  unfold twoV at h
  match l, h with
  | [a, b], h' =>
    simp only at h'
    split at h'
    · rename_i hh
      exact ⟨b, by rw [hh.1], hh.2, Option.some.inj h'⟩
    · cases h'
theorem recsRead_walk {name : ByteArray} (w : World) (hn : name.size ≤ maxLen) :
    Calls Try.prog 6 #[.string name] w fun x w' => x = .returned (.bool true) ∧ Below w.heap.size w w' := by
  obtain ⟨s, hs, hc⟩ : ∃ s : ByteArray, s.size ≤ 40 ∧ ((40 < name.size ∧ name.extract 0 40 = s) ∨ (¬ 40 < name.size ∧ name = s)) := by
    by_cases h : 40 < name.size
    · exact ⟨name.extract 0 40, by simp [ByteArray.size_extract]; omega, .inl ⟨h, rfl⟩⟩
    · exact ⟨name, by omega, .inr ⟨h, rfl⟩⟩
  by_cases h1 : okP s.data.toList
  · exact recsRead_pool s hs h1 name w hc
  · cases h2 : twoV s 78 1 with
    | some k =>
      obtain ⟨b, rfl, hb, _⟩ := twoV_some h2
      have hb' : b = 0 ∨ b = 1 := by
        have := UInt8.le_iff_toNat_le.1 hb
        simp at this
        rcases (show b.toNat = 0 ∨ b.toNat = 1 by omega) with h | h
        · exact .inl (UInt8.toNat_inj.1 h)
        · exact .inr (UInt8.toNat_inj.1 h)
      rcases hb' with rfl | rfl
      · exact recsRead_node0 name w hc
      · exact recsRead_node1 name w hc
    | none =>
      cases h3 : affV s with
      | none => exact recsRead_none s hs h1 h2 h3 name w hc
      | some k =>
        unfold affV at h3
        cases h4 : twoV s 65 3 with
        | none => rw [h4] at h3; cases h3
        | some j =>
          obtain ⟨b, rfl, hb, hj⟩ := twoV_some h4
          rw [h4] at h3
          simp only at h3
          split at h3
          · rename_i h1j
            have := UInt8.le_iff_toNat_le.1 hb
            simp at this
            have hb' : b = 1 ∨ b = 2 ∨ b = 3 := by
              rcases (show b.toNat = 1 ∨ b.toNat = 2 ∨ b.toNat = 3 by omega) with h | h | h
              · exact .inl (UInt8.toNat_inj.1 h)
              · exact .inr (.inl (UInt8.toNat_inj.1 h))
              · exact .inr (.inr (UInt8.toNat_inj.1 h))
            rcases hb' with rfl | rfl | rfl
            · exact recsRead_aff1 name w hc
            · exact recsRead_aff2 name w hc
            · exact recsRead_aff3 name w hc
          · cases h3
end Go.Proofs.Ytcepknjcgknidaa
