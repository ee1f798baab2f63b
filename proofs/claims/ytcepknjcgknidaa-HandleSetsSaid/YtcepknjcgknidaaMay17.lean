
/- Chapter 17: may so many be asked? How many in all. -/
import Derived.Test.YtcepknjcgknidaaRight17B
namespace Go.Proofs.Ytcepknjcgknidaa
set_option linter.unusedVariables false
set_option linter.unusedSimpArgs false
open Go.RowKit
def may17 (l : List Ct) (m : Int) : Bool := right17 l && decide (0 ≤ m ∧ m ≤ 65535)
set_option maxRecDepth 100000 in
set_option maxHeartbeats 4000000 in
theorem may17_any (A : Option Addr) (n c : Nat) (l : List Ct) (m : Int) (w : World) (hr : RdC w w.heap.size A n c l) (hf : ∀ x ∈ l, x.b < 4294967296) :
    Calls Try.prog 61 #[.agg #[.slice A n c], .int .i64 m] w fun x w' => x = .returned (.bool (may17 l m)) ∧ Below w.heap.size w w' := by
  obtain ⟨h0, hb⟩ := one_at w 62 [.slice A n c]
  have hri := right17_any A n c l _ ((hr.below hb).more hb.size) hf
  have HRI := Lib.hid hri
  clear hri
  unfold may17
  cases hq : right17 l with
  | false =>
    rw [hq] at HRI
    go_enter Try.func61, Try.ntmps61
    go_upto_region 1 with fail
    obtain ⟨x0, x1⟩ := at1 h0
    go_wp2_with fail
    refine HRI.out.mono ?_
    rintro x w2 ⟨rfl, hb2⟩
    have hB := chain hb hb2
    clear hb hb2 h0 x0 x1
    go_wp2_with fail
    go_ret
    exact ⟨by simp, hB⟩
  | true =>
    rw [hq] at HRI
    by_cases h1 : 0 ≤ m
    · by_cases h2 : m ≤ 65535
      · rw [decide_eq_true (show 0 ≤ m ∧ m ≤ 65535 from ⟨h1, h2⟩)]
        go_enter Try.func61, Try.ntmps61
        go_upto_region 1 with fail
        obtain ⟨x0, x1⟩ := at1 h0
        go_wp2_with fail
        refine HRI.out.mono ?_
        rintro x w2 ⟨rfl, hb2⟩
        have hB := chain hb hb2
        clear hb hb2 h0 x0 x1
        go_wp2_with fail
        go_ret
        exact ⟨by simp, hB⟩
      · rw [decide_eq_false (show ¬ (0 ≤ m ∧ m ≤ 65535) from fun e => h2 e.2)]
        go_enter Try.func61, Try.ntmps61
        go_upto_region 1 with fail
        obtain ⟨x0, x1⟩ := at1 h0
        go_wp2_with fail
        refine HRI.out.mono ?_
        rintro x w2 ⟨rfl, hb2⟩
        have hB := chain hb hb2
        clear hb hb2 h0 x0 x1
        go_wp2_with fail
        go_ret
        exact ⟨by simp; omega, hB⟩
    · rw [decide_eq_false (show ¬ (0 ≤ m ∧ m ≤ 65535) from fun e => h1 e.1)]
      go_enter Try.func61, Try.ntmps61
      go_upto_region 1 with fail
      obtain ⟨x0, x1⟩ := at1 h0
      go_wp2_with fail
      refine HRI.out.mono ?_
      rintro x w2 ⟨rfl, hb2⟩
      have hB := chain hb hb2
      clear hb hb2 h0 x0 x1
      go_wp2_with fail
      go_ret
      exact ⟨by simp, hB⟩
end Go.Proofs.Ytcepknjcgknidaa
