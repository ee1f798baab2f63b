
/- From an argument [][]byte, as the row reads it, to what the walks ask. -/
import Derived.Test.YtmoijbknjadeeaaOpen
import Derived.Test.YtmoijbknjadeeaaRowsB
namespace Go.Proofs.Ytmoijbknjadeeaa
set_option linter.unusedSimpArgs false
set_option linter.unusedVariables false
open Go.ChangeShapes Go.WideShapes Go.ChangeAt Go.RowKit
section
variable {H : Type} {enc : TypeId × Value → H} {W : World}
instance : Inhabited Bsl := ⟨⟨none, 0, 0, []⟩⟩
theorem open_bytes_cell {cs : List Value} {fuel : Nat} {x : DataW H × List MemPlace} (hf : DataW.trod enc Try.prog W 0 (fun _ => true) true fuel 27 cs = some x) :
    ∃ y : Bsl, cs = [y.val] ∧ RdB W W.heap.size y.A y.n y.c y.l := by
  have hcs0 : ∃ a len cap, cs = [.slice a len cap] := by
    rcases open_ints Try.underlying27 Try.underlying5 (by kernel_rfl) hf with ⟨hcs, _⟩ | ⟨x, l, c, zs, hcs, _⟩
    · exact ⟨_, _, _, hcs⟩
    · exact ⟨_, _, _, hcs⟩
  obtain ⟨a, len, cap, rfl⟩ := hcs0
  obtain ⟨l, hl⟩ := open_bytes hf
  exact ⟨⟨a, len, cap, l⟩, rfl, hl⟩
theorem open_slices {a : Option Addr} {len cap fuel : Nat} {x : DataW H × List MemPlace} (hf : DataW.trod enc Try.prog W 0 (fun _ => true) true fuel 22 [.slice a len cap] = some x) :
    ∃ ys, RdS W W.heap.size a len cap ys := by
  obtain ⟨ys, h1, h2⟩ := open_rows (fun y : Bsl => [y.val]) (fun y => RdB W W.heap.size y.A y.n y.c y.l) (F := 1) (fun _ => rfl) (by omega) Try.underlying22 (by kernel_rfl) (fun fuel cs x h => open_bytes_cell h) hf
  rw [← List.map_eq_flatMap] at h1
  exact ⟨ys, h1, h2⟩
end
end Go.Proofs.Ytmoijbknjadeeaa
