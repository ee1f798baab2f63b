
/- Numbers of 16 bits, as they came in. -/
import Derived.Test.YtnkjekkdndjfaaaGreatOpen
import Derived.Test.YtnkjekkdndjfaaaGreatDkB
namespace Go.Proofs.YtnkjekkdndjfaaaGreat
set_option linter.unusedVariables false
set_option linter.unusedSimpArgs false
open Go.ChangeShapes Go.WideShapes Go.ChangeAt Go.RowKit
section
variable {H : Type} {enc : TypeId × Value → H} {W : World}
theorem open_u16s {a : Option Addr} {len cap fuel : Nat} {x : DataW H × List MemPlace}
    (hf : DataW.trod enc Tryz.prog W 0 (fun _ => true) true fuel 42 [.slice a len cap] = some x) :
    ∃ ks : List Nat, RdK W W.heap.size a len cap ks ∧ ∀ k ∈ ks, k < 65536 := by
  obtain ⟨l, h1, h2⟩ := open_rows (fun x : Nat => [Value.int .u16 (x : Int)]) (fun k => k < 65536) (F := 1) (fun _ => rfl) (by omega) Tryz.underlying42 (by kernel_rfl) (fun fuel cs x h => by
    obtain ⟨n0, e0, _, hw⟩ := DataW.trod_int Tryz.underlying119 h
    obtain ⟨k, rfl, hk⟩ := nat_u16 hw
    exact ⟨k, e0, hk⟩) hf
  refine ⟨l, ?_, h2⟩
  have : l.flatMap (fun x : Nat => [Value.int .u16 (x : Int)]) = l.map fun x : Nat => Value.int .u16 (x : Int) := List.map_eq_flatMap.symm
  rw [this] at h1
  exact h1
theorem open_u16_cell {fuel : Nat} {cs : List Value} {x : DataW H × List MemPlace} (hf : DataW.trod enc Tryz.prog W 0 (fun _ => true) true fuel 42 cs = some x) :
    ∃ (A : Option Addr) (n c : Nat) (ks : List Nat), cs = [.slice A n c] ∧ RdK W W.heap.size A n c ks ∧ ∀ k ∈ ks, k < 65536 := by
  have hcs0 : ∃ a len cap, cs = [.slice a len cap] := by
    rcases Go.Deep.open_slice Tryz.underlying42 hf with ⟨hcs, _⟩ | ⟨ad, len', cap', m, n, D, Pl, hcs, _⟩
    · exact ⟨none, 0, 0, hcs⟩
    · exact ⟨some ad, len', cap', hcs⟩
  obtain ⟨a, len, cap, rfl⟩ := hcs0
  obtain ⟨l, h1, h2⟩ := open_u16s hf
  exact ⟨a, len, cap, l, rfl, h1, h2⟩
end
end Go.Proofs.YtnkjekkdndjfaaaGreat
