
/- From an effect that came in as the row reads it. -/
import Derived.Test.YtcpkaolfafeojaaOpen
import Derived.Test.YtcpkaolfafeojaaRedo
import Derived.Lib.SmallJoins
namespace Go.Proofs.Ytcpkaolfafeojaa
set_option linter.unusedSimpArgs false
set_option linter.unusedVariables false
open Go.ChangeShapes Go.WideShapes Go.ChangeAt Go.RowKit
section
variable {H : Type} {enc : TypeId × Value → H} {W : World}
set_option maxRecDepth 100000 in
theorem open_eff {r : Reach} {b0 : Nat} {v : Value} {d : DataW H} {p : List MemPlace} (hv : Value.okWide Try.prog W r b0 54 v) (h : DataW.Trod enc Try.prog W 0 (fun _ => true) true 54 v d p) :
    ∃ e : Eff, v = e.val ∧ e.fits := by
  obtain ⟨v0, v1, v2, v3, y0, y1, y2, y3, n, rfl, _, _, h0, h1, h2, h3⟩ := Go.Joins.open_agg4 Try.underlying54 (by kernel_rfl) (by kernel_rfl) hv h
  obtain ⟨k, e0, _, b0⟩ := DataW.trod_string Try.underlying9 h0
  obtain ⟨x, e1, _, b1⟩ := DataW.trod_string Try.underlying9 h1
  obtain ⟨m, e2, _, b2⟩ := DataW.trod_int Try.underlying2 h2
  obtain ⟨g, e3, _⟩ := DataW.trod_bool Try.underlying4 h3
  simp at e0 e1 e2 e3
  subst e0 e1 e2 e3
  have := bounds_i64 b2
  exact ⟨⟨k, x, m, g⟩, rfl, b0, b1, by simp only; omega, by simp only; omega⟩
end
end Go.Proofs.Ytcpkaolfafeojaa
