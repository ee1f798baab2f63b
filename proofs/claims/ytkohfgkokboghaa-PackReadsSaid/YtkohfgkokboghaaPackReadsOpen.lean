/- What is read, as a law's argument. -/
import Derived.Test.YtkohfgkokboghaaPackReadsWalk
namespace Go.Proofs.Ytkohfgkokboghaa
set_option linter.unusedVariables false
set_option linter.unusedSimpArgs false
open Go.ChangeShapes Go.WideShapes Go.ChangeAt Go.RowKit

theorem cut2 {cs : List Value} {a b : Value} (hl : cs.length = 2) (h0 : (cs.drop 0).take 1 = [a]) (h1 : (cs.drop 1).take 1 = [b]) : cs = [a, b] := by
  match cs, hl with
  | [x, y], _ => simp at h0 h1; rw [h0, h1]

theorem open_ops03 {H : Type} {enc : TypeId × Value → H} {W : World} {a : Option Addr} {len cap fuel : Nat} {x : DataW H × List MemPlace}
    (hf : DataW.trod enc Try.prog W 0 (fun _ => true) true fuel 42 [.slice a len cap] = some x) :
    ∃ l : List (Int × Int), Rd W W.heap.size 2 a len cap (l.flatMap opRow) ∧ ∀ o ∈ l, opOk o := by
  refine open_rows opRow opOk (fun _ => rfl) (by omega) Try.underlying42 (by kernel_rfl) (fun fuel cs x h => ?_) hf
  obtain ⟨xs, n, _, _, hl, hx, hfld⟩ := DataW.trod_struct Try.underlying47 h
  have hl2 : cs.length = 2 := hl.trans (by kernel_rfl)
  have hx2 : xs.length = 2 := hx
  have h0 := hfld 0 _ rfl
  have h1 := hfld 1 _ rfl
  rw [List.getElem?_eq_getElem (by omega)] at h0 h1
  obtain ⟨n0, e0, _, w0⟩ := DataW.trod_int Try.underlying3 h0
  obtain ⟨n1, e1, _, w1⟩ := DataW.trod_int Try.underlying3 h1
  exact ⟨(n0, n1), cut2 hl2 e0 e1, bounds_i64 w0, bounds_i64 w1⟩
end Go.Proofs.Ytkohfgkokboghaa
