
/- Chapter 9, in plain words: a list that is right for a state. -/
import Derived.Test.YtcpkaolfafeojaaKvInv
namespace Go.Proofs.Ytcpkaolfafeojaa
set_option linter.unusedVariables false
set_option linter.unusedSimpArgs false
/-- one item, right at this revision -/
def itOk (rev : Int) (x : It) : Bool := keyB x.k && decide (x.v.size ≤ 65536) && decide (1 ≤ x.r) && decide (x.r ≤ rev)
/-- the item ahead has a lesser key (none ahead: nothing is asked) -/
def aheadOk (p : Option It) (x : It) : Bool := match p with | none => true | some y => kless y.k x.k
/-- right from here on, behind p -/
def rightF (rev : Int) : Option It → List It → Bool
  | _, [] => true
  | p, x :: l => itOk rev x && aheadOk p x && rightF rev (some x) l
def rightL (rev : Int) (l : List It) : Bool := rightF rev none l && decide (0 ≤ rev)
theorem rightF_ok {rev : Int} : ∀ {l : List It} {p : Option It}, rightF rev p l = true → ∀ x ∈ l, itOk rev x = true
  | [], _, _, _, hx => by cases hx
  | y :: l, p, h, x, hx => by
    simp only [rightF, Bool.and_eq_true] at h
    rcases List.mem_cons.1 hx with rfl | hx
    · exact h.1.1
    · exact rightF_ok h.2 x hx
theorem rightF_asc {rev : Int} : ∀ {l : List It} {p : Option It}, rightF rev p l = true → Asc l ∧ ∀ y, p = some y → ∀ x ∈ l, kless y.k x.k = true
  | [], _, _ => ⟨List.Pairwise.nil, fun _ _ _ hx => by cases hx⟩
  | z :: l, p, h => by
    simp only [rightF, Bool.and_eq_true] at h
    obtain ⟨h1, h2⟩ := rightF_asc h.2
    have hz := h2 z rfl
    refine ⟨List.Pairwise.cons hz h1, fun y hy x hx => ?_⟩
    subst hy
    have hyz : kless y.k z.k = true := h.1.2
    rcases List.mem_cons.1 hx with rfl | hx
    · exact hyz
    · exact kless_trans hyz (hz x hx)
/-- an item with a greater key goes to the end -/
theorem applyL_end {l : List It} {x : It} (h : ∀ c ∈ l, kless c.k x.k = true) : applyL x false l = l ++ [x] := by
  have := applyL_less x false [] l h
  rw [List.append_nil] at this
  rw [this]
  rfl
end Go.Proofs.Ytcpkaolfafeojaa
