
/- A region that draws its order: where two operations may come up. No program is named here. -/
import Derived.Test.YtcpkaolfafeojaaRegion
namespace Go.Proofs.Ytcpkaolfafeojaa
set_option linter.unusedSimpArgs false
set_option linter.unusedVariables false
open Go.RowKit
section
variable {P : Program} {ops : Array Oper} {Q : Exit → Act → World → Prop} {md : Region.Mode} {S S' : World → Prop}
/-- two may come up -/
theorem region_two {fuel : Nat} {listed : Array Bool} {a : Act} {w : World} (i j : Nat) {oi oj : Oper} (hr : Region.ready md ops listed = [i, j]) (hoi : ops[i]? = some oi) (hoj : ops[j]? = some oj)
    (h1 : ∀ K' : Act → World → Prop, Shut (∀ a w (S' : World → Prop), S' w → (∀ w, S' w → S w) → (S' w → wpAnyH P md ops Q S' fuel (listed.setIfInBounds i true) a w) → K' a w) → if Region.wanted oi (yielded ops a.tmps) = true then Oper.wp P oi a w K' Q else K' (a.put oi.dst undef) w)
    (h2 : ∀ K' : Act → World → Prop, Shut (∀ a w (S' : World → Prop), S' w → (∀ w, S' w → S w) → (S' w → wpAnyH P md ops Q S' fuel (listed.setIfInBounds j true) a w) → K' a w) → if Region.wanted oj (yielded ops a.tmps) = true then Oper.wp P oj a w K' Q else K' (a.put oj.dst undef) w) :
    wpAnyH P md ops Q S (fuel + 1) listed a w := by
  refine wpAnyH_all hr (by simp) fun k hk => ?_
  simp only [List.mem_cons, List.not_mem_nil, or_false] at hk
  rcases hk with rfl | rfl
  · exact wpOp_step hoi fun K' hK => h1 K' fun a w S' hS' hm hW => hK a w ⟨hm w hS', wpAnyH_mono hm _ _ _ _ (hW hS')⟩
  · exact wpOp_step hoj fun K' hK => h2 K' fun a w S' hS' hm hW => hK a w ⟨hm w hS', wpAnyH_mono hm _ _ _ _ (hW hS')⟩
end
end Go.Proofs.Ytcpkaolfafeojaa
