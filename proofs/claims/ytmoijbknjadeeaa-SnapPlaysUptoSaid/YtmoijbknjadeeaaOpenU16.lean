
/- Numbers of 16 bits, as they came in. -/
import Derived.Test.YtmoijbknjadeeaaOpen
import Derived.Test.YtmoijbknjadeeaaDkCrash
namespace Go.Proofs.Ytmoijbknjadeeaa
set_option linter.unusedVariables false
set_option linter.unusedSimpArgs false
open Go.ChangeShapes Go.WideShapes Go.ChangeAt Go.RowKit
section
variable {H : Type} {enc : TypeId × Value → H} {W : World}
theorem open_u16s {a : Option Addr} {len cap fuel : Nat} {x : DataW H × List MemPlace}
    (hf : DataW.trod enc Try.prog W 0 (fun _ => true) true fuel 23 [.slice a len cap] = some x) :
    ∃ ks : List Nat, RdK W W.heap.size a len cap ks ∧ ∀ k ∈ ks, k < 65536 := by
  obtain ⟨l, h1, h2⟩ := open_rows (fun x : Nat => [Value.int .u16 (x : Int)]) (fun k => k < 65536) (F := 1) (fun _ => rfl) (by omega) Try.underlying23 (by kernel_rfl) (fun fuel cs x h => by
    obtain ⟨n0, e0, _, hw⟩ := DataW.trod_int Try.underlying96 h
    obtain ⟨k, rfl, hk⟩ := nat_u16 hw
    exact ⟨k, e0, hk⟩) hf
  refine ⟨l, ?_, h2⟩
  have : l.flatMap (fun x : Nat => [Value.int .u16 (x : Int)]) = l.map fun x : Nat => Value.int .u16 (x : Int) := List.map_eq_flatMap.symm
  rw [this] at h1
  exact h1
end
end Go.Proofs.Ytmoijbknjadeeaa
