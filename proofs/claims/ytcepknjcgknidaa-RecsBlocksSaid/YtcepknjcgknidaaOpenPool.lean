
/- A pool that came in. -/
import Derived.Test.YtcepknjcgknidaaOpen
import Derived.Test.YtcepknjcgknidaaPool
namespace Go.Proofs.Ytcepknjcgknidaa
set_option linter.unusedVariables false
set_option linter.unusedSimpArgs false
open Go.ChangeShapes Go.WideShapes Go.ChangeAt Go.RowKit
section
variable {H : Type} {enc : TypeId × Value → H} {W : World}
set_option maxRecDepth 100000 in
theorem pool_cells {fuel : Nat} {cs : List Value} {x : DataW H × List MemPlace} (h : DataW.trod enc Try.prog W 0 (fun _ => true) true fuel 37 cs = some x) : ∃ p : Pool, cs = p.row ∧ p.a < 4294967296 ∧ -9223372036854775808 ≤ p.b ∧ p.b < 9223372036854775808 := by
  obtain ⟨xs, n, _, _, hl, hx, hfld⟩ := DataW.trod_struct Try.underlying37 h
  have hl2 : cs.length = 3 := hl.trans (by kernel_rfl)
  have hx2 : xs.length = 2 := hx
  have h0 := hfld 0 _ rfl
  have h1 := hfld 1 _ rfl
  rw [List.getElem?_eq_getElem (by omega)] at h0 h1
  obtain ⟨ys, m, _, _, hl', hy, hfld'⟩ := DataW.trod_struct Try.underlying35 h0
  have hy2 : ys.length = 2 := hy
  have g0 := hfld' 0 _ rfl
  have g1 := hfld' 1 _ rfl
  rw [List.getElem?_eq_getElem (by omega)] at g0 g1
  obtain ⟨n0, e0, _, w0⟩ := DataW.trod_int Try.underlying33 g0
  obtain ⟨n1, e1, _, w1⟩ := DataW.trod_int Try.underlying3 g1
  obtain ⟨n2, e2, _⟩ := DataW.trod_bool Try.underlying4 h1
  obtain ⟨k, rfl, hk⟩ := nat_u32 w0
  have b1 := bounds_i64 w1
  match cs, hl2 with
  | [x, y, z], _ =>
    have q0 : Try.prog.cellsOf 33 = 1 := by kernel_rfl
    have q1 : Try.prog.cellsOf 35 = 2 := by kernel_rfl
    have q2 : Try.prog.cellsOf 3 = 1 := by kernel_rfl
    have q3 : Try.prog.cellsOf 4 = 1 := by kernel_rfl
    have f0 : x = Value.int .u32 (k : Int) := by
      have := congrArg (fun l => l[0]?) e0
      simpa [q0, q1, q2, q3] using this
    have f1 : y = Value.int .i64 n1 := by
      have := congrArg (fun l => l[0]?) e1
      simpa [q0, q1, q2, q3] using this
    have f2 : z = Value.bool n2 := by
      have := congrArg (fun l => l[0]?) e2
      simpa [q0, q1, q2, q3] using this
    exact ⟨⟨k, n1, n2⟩, by rw [f0, f1, f2]; rfl, hk, by simp only; omega, by simp only; omega⟩
set_option maxRecDepth 100000 in
theorem open_pool {r : Reach} {b0 : Nat} {v : Value} {d : DataW H} {p : List MemPlace} (hv : Value.okWide Try.prog W r b0 37 v) (h : DataW.Trod enc Try.prog W 0 (fun _ => true) true 37 v d p) : ∃ p : Pool, v = p.v ∧ p.a < 4294967296 ∧ -9223372036854775808 ≤ p.b ∧ p.b < 9223372036854775808 := by
  obtain ⟨cs, rfl, hsz⟩ := okWide_struct Try.underlying37 hv
  obtain ⟨fuel, hf⟩ := h
  obtain ⟨o, ho, hfit⟩ := pool_cells hf
  refine ⟨o, ?_, hfit⟩
  have h1 : cs.toList = o.row := ho
  have h2 : cs = o.row.toArray := by rw [← h1]
  rw [h2]
  rfl
end
end Go.Proofs.Ytcepknjcgknidaa
