
/- Small words for walks: what is known is carried over a call that makes memory of its own alone. No program is named here. -/
import Derived.Test.YtmoijbknjadeeaaKnow
namespace Go.Proofs.Ytmoijbknjadeeaa
set_option linter.unusedVariables false
set_option linter.unusedSimpArgs false
open Go.RowKit
theorem calls_id {P : Program} {f : FuncId} {args : Array Value} {w : World} {Q : Ending → World → Prop} (h : Calls P f args w Q) : Calls P f args w Q := h
theorem Rd.step {w w' : World} {s n c : Nat} {A : Option Addr} {xs : List Value} (h : Rd w w.heap.size s A n c xs) (hb : Below w.heap.size w w') : Rd w' w'.heap.size s A n c xs := (Rd.below h hb).more hb.size
theorem At.step {w w' : World} {g : Nat} {t : TypeId} {cs : List Value} (h : At w g t cs) (hb : Below w.heap.size w w') : At w' g t cs := h.below hb
theorem own_below {w w' : World} {base s n : Nat} {e : TypeId} {v : Value} {xs : List Value} (h : w.ownsRow base e s v n xs) (hb : Below w.heap.size w w') : w'.ownsRow base e s v n xs := own_mod h ((Mod.refl (fun _ _ => False) w).below hb) (by simp)
theorem own_lower {w : World} {base base' s n : Nat} {e : TypeId} {v : Value} {xs : List Value} (h : w.ownsRow base e s v n xs) (hb : base' ≤ base) : w.ownsRow base' e s v n xs := by
  obtain ⟨h1, h2⟩ := h
  refine ⟨h1, ?_⟩
  rcases h2 with h0 | ⟨g, cap, cur, k1, k2, k3, k4⟩
  · exact .inl h0
  · exact .inr ⟨g, cap, cur, k1, Nat.le_trans hb k2, k3, k4⟩
theorem below_mod {B : Nat} {w w' : World} {M : Nat → Obj → Prop} (h : Mod M w w') (hM : ∀ i o, i < B → ¬ M i o) (hB : B ≤ w.heap.size) : Below B w w' := h.toBelow hM hB
end Go.Proofs.Ytmoijbknjadeeaa
