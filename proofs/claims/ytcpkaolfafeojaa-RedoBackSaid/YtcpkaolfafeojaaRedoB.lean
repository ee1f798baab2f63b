
/- Chapter 10: the chapter's helpers; the reference's Put. -/
import Derived.Test.YtcpkaolfafeojaaRedo
namespace Go.Proofs.Ytcpkaolfafeojaa
set_option linter.unusedVariables false
set_option linter.unusedSimpArgs false
open Go.RowKit

/-- the chapter's example -/
theorem awake10 (w : World) : Calls Try.prog 29 #[] w fun e w' => e = .returned (.bool true) ∧ Below w.heap.size w w' := by
  have hput := eput_ok ⟨⟨#[97]⟩, ⟨#[]⟩, 1, false⟩ w (by decide) (by decide)
  unfold Eff.val Eff.cells at hput
  simp only [show (⟨#[97]⟩ : ByteArray).size = 1 from rfl, show (⟨#[]⟩ : ByteArray).size = 0 from rfl, Nat.add_zero, Nat.reduceAdd] at hput
  have HP := Lib.hid hput
  clear hput
  go_enter Try.func29, Try.ntmps29
  go_wp2_with fail
  refine HP.out.mono ?_
  rintro x w1 ⟨A, c, rfl, hown, hb⟩
  have hr := hown.rd
  obtain ⟨g, off, rfl, hg, hc0⟩ := hr.get (k := 0) (by decide)
  obtain ⟨g', off', e, hg', hc8⟩ := hr.get (k := 8) (by decide)
  injection e with e
  injection e with e1 e2
  subst e1
  subst e2
  rw [show (effL ⟨⟨#[97]⟩, ⟨#[]⟩, 1, false⟩)[0]'(by decide) = 1 from by decide] at hc0
  rw [show (effL ⟨⟨#[97]⟩, ⟨#[]⟩, 1, false⟩)[8]'(by decide) = 1 from by decide] at hc8
  rw [Nat.add_zero] at hc0
  have hle := hown.rd.le
  go_wp2_with fail
  go_ret
  exact ⟨rfl, hb⟩
theorem ours_any (e : Eff) (w : World) : Calls Try.prog 31 #[e.val] w fun x w' => x = .returned e.val ∧ Below w.heap.size w w' := by
  unfold Eff.val Eff.cells
  go_enter Try.func31, Try.ntmps31
  go_wp2_with fail
  exact bodyPost_ret (v := .agg #[.string e.k, .string e.v, .int .i64 e.r, .bool e.g]) (by simp [results, Try.results31, go_sem]) rfl ⟨rfl, ((Below.refl _ _).alloc (Nat.le_refl _) _).alloc (by simp) _⟩

/-- cut -/
def cutS (s : ByteArray) (n : Nat) : ByteArray := if n < s.size then s.extract 0 n else s
theorem cutS_size (s : ByteArray) (n : Nat) : (cutS s n).size ≤ n := by
  unfold cutS
  split
  · simp [ByteArray.size_extract]; omega
  · omega
def cutE (e : Eff) : Eff := ⟨cutS e.k 140, cutS e.v 100, e.r, e.g⟩
theorem cut_any (e : Eff) (w : World) : Calls Try.prog 27 #[e.val] w fun x w' => x = .returned (cutE e).val ∧ Below w.heap.size w w' := by
  obtain ⟨k, v, r, g⟩ := e
  unfold cutE Eff.val Eff.cells cutS
  simp only
  by_cases h1 : 140 < k.size
  · rw [if_pos h1]
    by_cases h2 : 100 < v.size
    · rw [if_pos h2]
      go_enter Try.func27, Try.ntmps27
      go_wp2_with fail
      exact bodyPost_ret (v := .agg #[.string ((k).extract 0 140), .string ((v).extract 0 100), .int .i64 r, .bool g]) (by simp [results, Try.results27, go_sem]) rfl ⟨rfl, ((Below.refl _ _).alloc (Nat.le_refl _) _).alloc (by simp) _⟩
    · rw [if_neg h2]
      go_enter Try.func27, Try.ntmps27
      go_wp2_with fail
      exact bodyPost_ret (v := .agg #[.string ((k).extract 0 140), .string v, .int .i64 r, .bool g]) (by simp [results, Try.results27, go_sem]) rfl ⟨rfl, ((Below.refl _ _).alloc (Nat.le_refl _) _).alloc (by simp) _⟩
  · rw [if_neg h1]
    by_cases h2 : 100 < v.size
    · rw [if_pos h2]
      go_enter Try.func27, Try.ntmps27
      go_wp2_with fail
      exact bodyPost_ret (v := .agg #[.string k, .string ((v).extract 0 100), .int .i64 r, .bool g]) (by simp [results, Try.results27, go_sem]) rfl ⟨rfl, ((Below.refl _ _).alloc (Nat.le_refl _) _).alloc (by simp) _⟩
    · rw [if_neg h2]
      go_enter Try.func27, Try.ntmps27
      go_wp2_with fail
      exact bodyPost_ret (v := .agg #[.string k, .string v, .int .i64 r, .bool g]) (by simp [results, Try.results27, go_sem]) rfl ⟨rfl, ((Below.refl _ _).alloc (Nat.le_refl _) _).alloc (by simp) _⟩

/-- the reference's Right -/
theorem rright_any (e : Eff) (w : World) :
    Calls Try.prog 28 #[e.val] w fun x w' => x = .returned (.bool (decide e.right)) ∧ Below w.heap.size w w' := by
  obtain ⟨k, v, r, g⟩ := e
  have hb : Below w.heap.size w (w.alloc (.cells (Eff.cells ⟨k, v, r, g⟩) 54)) := (Below.refl _ _).alloc (Nat.le_refl _) _
  unfold Eff.val Eff.cells at *
  simp only at *
  by_cases h1 : k.size < 1
  · rw [decide_eq_false (by rintro ⟨a, _⟩; simp only at a; omega)]
    go_enter Try.func28, Try.ntmps28
    go_wp2
    go_ret
    exact ⟨rfl, hb⟩
  by_cases h2 : 128 < k.size
  · rw [decide_eq_false (by unfold Eff.right; rintro ⟨_, a, _⟩; simp at a; omega)]
    go_enter Try.func28, Try.ntmps28
    go_wp2
    go_ret
    exact ⟨rfl, hb⟩
  by_cases h3 : 65536 < v.size
  · rw [decide_eq_false (by unfold Eff.right; rintro ⟨_, _, a, _⟩; simp at a; omega)]
    go_enter Try.func28, Try.ntmps28
    go_wp2
    go_ret
    exact ⟨rfl, hb⟩
  by_cases h4 : r < 1
  · rw [decide_eq_false (by unfold Eff.right; rintro ⟨_, _, _, a, _⟩; simp at a; omega)]
    go_enter Try.func28, Try.ntmps28
    go_wp2
    go_ret
    exact ⟨rfl, hb⟩
  cases g
  · rw [decide_eq_true (by unfold Eff.right; simp; omega)]
    go_enter Try.func28, Try.ntmps28
    go_wp2
    go_ret
    exact ⟨rfl, hb⟩
  · by_cases h5 : v.size = 0
    · obtain rfl := str_nil h5
      rw [decide_eq_true (by refine ⟨by simp only; omega, by simp only; omega, Nat.zero_le _, by simp only; omega, fun _ => rfl⟩)]
      go_enter Try.func28, Try.ntmps28
      go_wp2
      go_ret
      exact ⟨rfl, hb⟩
    · have hv := str_some h5
      rw [decide_eq_false (by rintro ⟨_, _, _, _, a⟩; exact h5 (a rfl))]
      go_enter Try.func28, Try.ntmps28
      go_wp2
      go_ret
      exact ⟨rfl, hb⟩
end Go.Proofs.Ytcpkaolfafeojaa
