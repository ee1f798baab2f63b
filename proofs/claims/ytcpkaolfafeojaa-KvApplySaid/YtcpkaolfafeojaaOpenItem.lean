
/- Items, as they came in. -/
import Derived.Test.YtcpkaolfafeojaaOpen
import Derived.Test.YtcpkaolfafeojaaKvItems
namespace Go.Proofs.Ytcpkaolfafeojaa
set_option linter.unusedVariables false
set_option linter.unusedSimpArgs false
open Go.ChangeShapes Go.WideShapes Go.ChangeAt Go.RowKit
def It.fits (o : It) : Prop := o.k.size ≤ maxLen ∧ o.v.size ≤ maxLen ∧ (-9223372036854775808 ≤ o.r ∧ o.r < 9223372036854775808)
theorem cutI3 {cs : List Value} {a b c : Value} (hl : cs.length = 3) (h0 : (cs.drop 0).take 1 = [a]) (h1 : (cs.drop 1).take 1 = [b]) (h2 : (cs.drop 2).take 1 = [c]) : cs = [a, b, c] := by
  match cs, hl with
  | [x, y, z], _ => simp at h0 h1 h2; rw [h0, h1, h2]
section
variable {H : Type} {enc : TypeId × Value → H} {W : World}
set_option maxRecDepth 100000 in
theorem item_cells {fuel : Nat} {cs : List Value} {x : DataW H × List MemPlace} (h : DataW.trod enc Try.prog W 0 (fun _ => true) true fuel 108 cs = some x) : ∃ o : It, cs = o.row ∧ o.fits := by
  obtain ⟨xs, n, _, _, hl, hx, hfld⟩ := DataW.trod_struct Try.underlying108 h
  have hl2 : cs.length = 3 := hl.trans (by kernel_rfl)
  have hx2 : xs.length = 3 := hx
  have h0 := hfld 0 _ rfl
  have h1 := hfld 1 _ rfl
  have h2 := hfld 2 _ rfl
  rw [List.getElem?_eq_getElem (by omega)] at h0 h1 h2
  obtain ⟨n0, e0, _, w0⟩ := DataW.trod_string Try.underlying9 h0
  obtain ⟨n1, e1, _, w1⟩ := DataW.trod_string Try.underlying9 h1
  obtain ⟨n2, e2, _, w2⟩ := DataW.trod_int Try.underlying2 h2
  have b2 := bounds_i64 w2
  exact ⟨⟨n0, n1, n2⟩, cutI3 hl2 e0 e1 e2, w0, w1, by constructor <;> (simp only; omega)⟩
theorem open_items {a : Option Addr} {len cap fuel : Nat} {x : DataW H × List MemPlace}
    (hf : DataW.trod enc Try.prog W 0 (fun _ => true) true fuel 79 [.slice a len cap] = some x) :
    ∃ l : List It, RdI W W.heap.size a len cap l ∧ ∀ o ∈ l, o.fits :=
  open_rows It.row It.fits It.row_length (by omega) Try.underlying79 (by kernel_rfl) (fun fuel cs x h => item_cells h) hf
end
end Go.Proofs.Ytcpkaolfafeojaa
