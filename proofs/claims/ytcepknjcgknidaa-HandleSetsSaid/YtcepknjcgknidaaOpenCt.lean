
/- Chapter 17: counts, as they came in. -/
import Derived.Test.YtcepknjcgknidaaOpen
import Derived.Test.YtcepknjcgknidaaCts
namespace Go.Proofs.Ytcepknjcgknidaa
set_option linter.unusedVariables false
set_option linter.unusedSimpArgs false
open Go.ChangeShapes Go.WideShapes Go.ChangeAt Go.RowKit
section
variable {H : Type} {enc : TypeId × Value → H} {W : World}
theorem ct_cut {cs : List Value} {a b : Value} (hl : cs.length = 2) (h0 : (cs.drop 0).take 1 = [a]) (h1 : (cs.drop 1).take 1 = [b]) : cs = [a, b] := by
  match cs, hl with
  | [x, y], _ => simp at h0 h1; rw [h0, h1]
set_option maxRecDepth 100000 in
theorem ct_cells {fuel : Nat} {cs : List Value} {x : DataW H × List MemPlace} (h : DataW.trod enc Try.prog W 0 (fun _ => true) true fuel 95 cs = some x) : ∃ o : Ct, cs = o.row ∧ o.fits := by
  obtain ⟨xs, n, _, _, hl, hx, hfld⟩ := DataW.trod_struct Try.underlying95 h
  have hl2 : cs.length = 2 := hl.trans (by kernel_rfl)
  have hx2 : xs.length = 2 := hx
  have h0 := hfld 0 _ rfl
  have h1 := hfld 1 _ rfl
  rw [List.getElem?_eq_getElem (by omega)] at h0 h1
  obtain ⟨n0, e0, _, w0⟩ := DataW.trod_int Try.underlying33 h0
  obtain ⟨n1, e1, _, w1⟩ := DataW.trod_int Try.underlying3 h1
  have b1 := bounds_i64 w1
  obtain ⟨a0, rfl, w0⟩ := nat_u32 w0
  exact ⟨⟨a0, n1⟩, ct_cut hl2 e0 e1, by simp only; omega, by simp only; omega, by simp only; omega⟩
theorem open_cts {a : Option Addr} {len cap fuel : Nat} {x : DataW H × List MemPlace}
    (hf : DataW.trod enc Try.prog W 0 (fun _ => true) true fuel 59 [.slice a len cap] = some x) :
    ∃ l : List Ct, RdC W W.heap.size a len cap l ∧ ∀ o ∈ l, o.fits :=
  open_rows Ct.row Ct.fits (fun _ => rfl) (by omega) Try.underlying59 (by kernel_rfl) (fun fuel cs x h => ct_cells h) hf
end
end Go.Proofs.Ytcepknjcgknidaa
