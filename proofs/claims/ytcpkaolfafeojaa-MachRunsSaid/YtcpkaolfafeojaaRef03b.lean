
/- The reference's reader: Bytes, U, Text whatever is asked. -/
import Derived.Test.YtcpkaolfafeojaaRef03
namespace Go.Proofs.Ytcpkaolfafeojaa
set_option linter.unusedSimpArgs false
set_option linter.unusedVariables false
open Go.RowKit

theorem IsRdr.other {w w' : World} {g g2 : Nat} {s : St} (h : IsRdr w g s) (hG : w.grownBy w' (some g2)) (hne : g < g2) : IsRdr w' g s := by
  obtain ⟨A, n, c, hblk, hr⟩ := h
  have hg := (Array.getElem?_eq_some_iff.1 hblk).1
  exact ⟨A, n, c, (hG.block g hg (by intro e; injection e with e; omega)).trans hblk, hr.below (only_below hG (Nat.le_of_lt hne) (Nat.le_of_lt hg))⟩
theorem IsRdr.drew {w : World} {g : Nat} {s : St} (h : IsRdr w g s) : IsRdr w.drew g s := h.below ⟨rfl, rfl, rfl, Nat.le_refl _, fun _ _ => rfl⟩
theorem IsRdr.drewN {w : World} {g : Nat} {s : St} (h : IsRdr w g s) (k : Nat) : IsRdr (w.drewN k) g s := h.below ⟨rfl, rfl, rfl, Nat.le_refl _, fun _ _ => rfl⟩
theorem cell_other {w w' : World} {g b i : Nat} {v : Value} (hG : w.grownBy w' (some g)) (h : w.cell? ⟨b, i, none⟩ = some v) (hne : b ≠ g) : w'.cell? ⟨b, i, none⟩ = some v :=
  hG.cell h (by intro e; injection e with e; exact hne e)

theorem quiet_same {P : Program} {f : FuncId} {args : Array Value} {w : World} {n : Nat} {v : Value}
    (h : Calls P f args (w.drewN n) fun e w' => e = .returned v ∧ w.drewN n = w') : Calls P f args (w.drewN n) fun e w'' => e = .returned v ∧ ∃ m, w'' = w.drewN m :=
  h.mono fun _ _ ⟨he, hm⟩ => ⟨he, n, hm.symm⟩
theorem quiet_drew {P : Program} {f : FuncId} {args : Array Value} {w : World} {n : Nat} {v : Value}
    (h : Calls P f args (w.drewN n) fun e w' => e = .returned v ∧ ∃ m, w' = (w.drewN n).drewN m) : Calls P f args (w.drewN n) fun e w'' => e = .returned v ∧ ∃ m, w'' = w.drewN m :=
  h.mono fun _ _ ⟨he, m, hm⟩ => ⟨he, n + m, by rw [hm, World.drewN_drewN]⟩
end Go.Proofs.Ytcpkaolfafeojaa
