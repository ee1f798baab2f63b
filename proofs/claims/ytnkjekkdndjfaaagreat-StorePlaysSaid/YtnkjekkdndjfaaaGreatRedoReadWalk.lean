
/- Chapter 10: the walk of RedoPut. -/
import Derived.Test.YtnkjekkdndjfaaaGreatRedoB
namespace Go.Proofs.YtnkjekkdndjfaaaGreat
set_option linter.unusedVariables false
set_option linter.unusedSimpArgs false
open Go.RowKit
theorem cutE_r (e : Eff) : (cutE e).r = e.r := rfl
/-- an effect is stored over another one -/
theorem put4 {w : World} {g : Nat} {T : TypeId} {a b c d : Value} (h : w.heap[g]? = some (.cells #[a, b, c, d] T)) (a' b' c' d' : Value) :
    ((((w.setCell ⟨g, 0, none⟩ a').setCell ⟨g, 1, none⟩ b').setCell ⟨g, 2, none⟩ c').setCell ⟨g, 3, none⟩ d').heap[g]? = some (.cells #[a', b', c', d'] T) ∧ w.grownBy ((((w.setCell ⟨g, 0, none⟩ a').setCell ⟨g, 1, none⟩ b').setCell ⟨g, 2, none⟩ c').setCell ⟨g, 3, none⟩ d') (some g) :=
  ⟨heap_setCell_at (heap_setCell_at (heap_setCell_at (heap_setCell_at h 0 a') 1 b') 2 c') 3 d', only_trans (only_trans (only_trans (only_setCell w g 0 a') (only_setCell _ g 1 b')) (only_setCell _ g 2 c')) (only_setCell _ g 3 d')⟩

end Go.Proofs.YtnkjekkdndjfaaaGreat
namespace Go.Proofs.YtnkjekkdndjfaaaGreat
set_option linter.unusedVariables false
set_option linter.unusedSimpArgs false
open Go.RowKit
theorem RdB.take10 {w : World} {B n c : Nat} {A : Option Addr} {l : List UInt8} (h : RdB w B A n c l) (k : Nat) : RdB w B A (l.take k).length c (l.take k) := by
  have hl := h.length
  have hle := h.le
  have := RdB.take h (k := (l.take k).length) (c' := c) (by simp; omega) (by simp; omega) (Nat.le_refl _)
  rwa [List.length_take, show l.take (min k l.length) = l.take k from by rw [List.take_eq_take_iff]; omega, ← List.length_take] at this
theorem rdE_size (b : List UInt8) : (rdE b).e.r < 9223372036854775808 := by
  unfold rdE
  simp only
  unfold sgn
  have := St.u_lt ((⟨b, false⟩ : St).u 1).2 8
  split <;> omega
end Go.Proofs.YtnkjekkdndjfaaaGreat
