
/- Chapter 7's calls, as they came in. -/
import Derived.Test.YtmoijbknjadeeaaOpenOp
import Derived.Test.YtmoijbknjadeeaaOpen
import Derived.Test.YtmoijbknjadeeaaWalStep
namespace Go.Proofs.Ytmoijbknjadeeaa
set_option linter.unusedVariables false
set_option linter.unusedSimpArgs false
open Go.ChangeShapes Go.WideShapes Go.ChangeAt Go.RowKit
instance : Inhabited Op7 := ⟨⟨0, none, 0, 0, 0, none, 0, 0⟩⟩
theorem cut4o {cs : List Value} {a b c d : Value} (hl : cs.length = 4) (h0 : (cs.drop 0).take 1 = [a]) (h1 : (cs.drop 1).take 1 = [b]) (h2 : (cs.drop 2).take 1 = [c]) (h3 : (cs.drop 3).take 1 = [d]) : cs = [a, b, c, d] := by
  match cs, hl with
  | [x, y, z, u], _ => simp at h0 h1 h2 h3; rw [h0, h1, h2, h3]
section
variable {H : Type} {enc : TypeId × Value → H} {W : World}
theorem open_bytes_cell {fuel : Nat} {cs : List Value} {x : DataW H × List MemPlace} (hf : DataW.trod enc Try.prog W 0 (fun _ => true) true fuel 27 cs = some x) :
    ∃ (A : Option Addr) (n c : Nat), cs = [.slice A n c] ∧ ∃ pl, RdB W W.heap.size A n c pl := by
  have hcs0 : ∃ a len cap, cs = [.slice a len cap] := by
    rcases Go.Deep.open_slice Try.underlying27 hf with ⟨hcs, _⟩ | ⟨ad, len', cap', m, n, D, Pl, hcs, _⟩
    · exact ⟨none, 0, 0, hcs⟩
    · exact ⟨some ad, len', cap', hcs⟩
  obtain ⟨a, len, cap, rfl⟩ := hcs0
  obtain ⟨l, h1⟩ := open_bytes hf
  exact ⟨a, len, cap, rfl, l, h1⟩
set_option maxRecDepth 100000 in
theorem op7_cells {fuel : Nat} {cs : List Value} {x : DataW H × List MemPlace} (h : DataW.trod enc Try.prog W 0 (fun _ => true) true fuel 74 cs = some x) : ∃ o : Op7, cs = o.row ∧ o.keeps W W.heap.size := by
  obtain ⟨xs, n, _, _, hl, hx, hfld⟩ := DataW.trod_struct Try.underlying74 h
  have hl2 : cs.length = 4 := hl.trans (by kernel_rfl)
  have hx2 : xs.length = 4 := hx
  have h0 := hfld 0 _ rfl
  have h1 := hfld 1 _ rfl
  have h2 := hfld 2 _ rfl
  have h3 := hfld 3 _ rfl
  rw [List.getElem?_eq_getElem (by omega)] at h0 h1 h2 h3
  obtain ⟨n0, e0, _, w0⟩ := DataW.trod_int Try.underlying3 h0
  obtain ⟨P, pn, pc, e1, hp⟩ := open_bytes_cell h1
  obtain ⟨n2, e2, _, w2⟩ := DataW.trod_int Try.underlying3 h2
  obtain ⟨A, kn, kc, ks, e3, hk, hks⟩ := open_u16_cell h3
  have b0 := bounds_i64 w0
  have b2 := bounds_i64 w2
  exact ⟨⟨n0, P, pn, pc, n2, A, kn, kc⟩, cut4o hl2 e0 e1 e2 e3, ⟨by constructor <;> (simp only; omega), by constructor <;> (simp only; omega)⟩, hp, ks, hk, hks⟩
theorem open_op7s {a : Option Addr} {len cap fuel : Nat} {x : DataW H × List MemPlace}
    (hf : DataW.trod enc Try.prog W 0 (fun _ => true) true fuel 69 [.slice a len cap] = some x) :
    ∃ l : List Op7, Rd W W.heap.size 4 a len cap (l.flatMap Op7.row) ∧ ∀ o ∈ l, o.keeps W W.heap.size :=
  open_rows Op7.row (fun o => o.keeps W W.heap.size) (fun _ => rfl) (by omega) Try.underlying69 (by kernel_rfl) (fun fuel cs x h => op7_cells h) hf
end
end Go.Proofs.Ytmoijbknjadeeaa
