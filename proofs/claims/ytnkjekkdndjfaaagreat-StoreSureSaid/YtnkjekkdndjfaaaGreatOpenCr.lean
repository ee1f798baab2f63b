
/- Chapter 11's crashes, as they came in. -/
import Derived.Test.YtnkjekkdndjfaaaGreatOpenU16
import Derived.Test.YtnkjekkdndjfaaaGreatStoreSureWalk
namespace Go.Proofs.YtnkjekkdndjfaaaGreat
set_option linter.unusedVariables false
set_option linter.unusedSimpArgs false
open Go.ChangeShapes Go.WideShapes Go.ChangeAt Go.RowKit
instance : Inhabited Cr := ⟨⟨none, 0, 0, 0⟩⟩
theorem cut2cr {cs : List Value} {a b : Value} (hl : cs.length = 2) (h0 : (cs.drop 0).take 1 = [a]) (h1 : (cs.drop 1).take 1 = [b]) : cs = [a, b] := by
  match cs, hl with
  | [x, y], _ => simp at h0 h1; rw [h0, h1]
section
variable {H : Type} {enc : TypeId × Value → H} {W : World}
set_option maxRecDepth 100000 in
theorem cr_cells {fuel : Nat} {cs : List Value} {x : DataW H × List MemPlace} (h : DataW.trod enc Tryz.prog W 0 (fun _ => true) true fuel 44 cs = some x) : ∃ o : Cr, cs = o.row ∧ o.keeps W := by
  obtain ⟨xs, n, _, _, hl, hx, hfld⟩ := DataW.trod_struct Tryz.underlying44 h
  have hl2 : cs.length = 2 := hl.trans (by kernel_rfl)
  have hx2 : xs.length = 2 := hx
  have h0 := hfld 0 _ rfl
  have h1 := hfld 1 _ rfl
  rw [List.getElem?_eq_getElem (by omega)] at h0 h1
  obtain ⟨A, kn, kc, ks, e0, hk, hks⟩ := open_u16_cell h0
  obtain ⟨n1, e1, _, w1⟩ := DataW.trod_int Tryz.underlying5 h1
  obtain ⟨a, rfl, ha⟩ := nat_u8 w1
  exact ⟨⟨A, kn, kc, a⟩, cut2cr hl2 e0 e1, ha, ks, hk, hks⟩
theorem open_crs {a : Option Addr} {len cap fuel : Nat} {x : DataW H × List MemPlace}
    (hf : DataW.trod enc Tryz.prog W 0 (fun _ => true) true fuel 38 [.slice a len cap] = some x) :
    ∃ l : List Cr, Rd W W.heap.size 2 a len cap (l.flatMap Cr.row) ∧ ∀ o ∈ l, o.keeps W :=
  open_rows Cr.row (Cr.keeps W) (fun _ => rfl) (by omega) Tryz.underlying38 (by kernel_rfl) (fun fuel cs x h => cr_cells h) hf
end
end Go.Proofs.YtnkjekkdndjfaaaGreat
