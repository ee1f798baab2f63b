
/- Chapter 6's calls, as they came in. -/
import Derived.Test.YtmoijbknjadeeaaOpenU16
import Derived.Test.YtmoijbknjadeeaaDkBo
namespace Go.Proofs.Ytmoijbknjadeeaa
set_option linter.unusedVariables false
set_option linter.unusedSimpArgs false
open Go.ChangeShapes Go.WideShapes Go.ChangeAt Go.RowKit
instance : Inhabited Opr := ⟨⟨0, ⟨#[]⟩, ⟨#[]⟩, ⟨#[]⟩, 0, none, 0, 0⟩⟩
/-- what a call's numbers are -/
def Opr.keeps (W : World) (o : Opr) : Prop := o.fits ∧ ∃ ks : List Nat, RdK W W.heap.size o.A o.kn o.kc ks ∧ ∀ x ∈ ks, x < 65536
theorem cut6o {cs : List Value} {a b c d e f : Value} (hl : cs.length = 6) (h0 : (cs.drop 0).take 1 = [a]) (h1 : (cs.drop 1).take 1 = [b]) (h2 : (cs.drop 2).take 1 = [c]) (h3 : (cs.drop 3).take 1 = [d]) (h4 : (cs.drop 4).take 1 = [e]) (h5 : (cs.drop 5).take 1 = [f]) : cs = [a, b, c, d, e, f] := by
  match cs, hl with
  | [x, y, z, u, v, w], _ => simp at h0 h1 h2 h3 h4 h5; rw [h0, h1, h2, h3, h4, h5]
section
variable {H : Type} {enc : TypeId × Value → H} {W : World}
theorem open_u16_cell {fuel : Nat} {cs : List Value} {x : DataW H × List MemPlace} (hf : DataW.trod enc Try.prog W 0 (fun _ => true) true fuel 23 cs = some x) :
    ∃ (A : Option Addr) (n c : Nat) (ks : List Nat), cs = [.slice A n c] ∧ RdK W W.heap.size A n c ks ∧ ∀ k ∈ ks, k < 65536 := by
  have hcs0 : ∃ a len cap, cs = [.slice a len cap] := by
    rcases Go.Deep.open_slice Try.underlying23 hf with ⟨hcs, _⟩ | ⟨ad, len', cap', m, n, D, Pl, hcs, _⟩
    · exact ⟨none, 0, 0, hcs⟩
    · exact ⟨some ad, len', cap', hcs⟩
  obtain ⟨a, len, cap, rfl⟩ := hcs0
  obtain ⟨l, h1, h2⟩ := open_u16s hf
  exact ⟨a, len, cap, l, rfl, h1, h2⟩
set_option maxRecDepth 100000 in
theorem opr_cells {fuel : Nat} {cs : List Value} {x : DataW H × List MemPlace} (h : DataW.trod enc Try.prog W 0 (fun _ => true) true fuel 40 cs = some x) : ∃ o : Opr, cs = o.row ∧ o.keeps W := by
  obtain ⟨xs, n, _, _, hl, hx, hfld⟩ := DataW.trod_struct Try.underlying40 h
  have hl2 : cs.length = 6 := hl.trans (by kernel_rfl)
  have hx2 : xs.length = 6 := hx
  have h0 := hfld 0 _ rfl
  have h1 := hfld 1 _ rfl
  have h2 := hfld 2 _ rfl
  have h3 := hfld 3 _ rfl
  have h4 := hfld 4 _ rfl
  have h5 := hfld 5 _ rfl
  rw [List.getElem?_eq_getElem (by omega)] at h0 h1 h2 h3 h4 h5
  obtain ⟨n0, e0, _, w0⟩ := DataW.trod_int Try.underlying3 h0
  obtain ⟨n1, e1, _, w1⟩ := DataW.trod_string Try.underlying9 h1
  obtain ⟨n2, e2, _, w2⟩ := DataW.trod_string Try.underlying9 h2
  obtain ⟨n3, e3, _, w3⟩ := DataW.trod_string Try.underlying9 h3
  obtain ⟨n4, e4, _, w4⟩ := DataW.trod_int Try.underlying3 h4
  obtain ⟨A, kn, kc, ks, e5, hk, hks⟩ := open_u16_cell h5
  have b0 := bounds_i64 w0
  have b4 := bounds_i64 w4
  exact ⟨⟨n0, n1, n2, n3, n4, A, kn, kc⟩, cut6o hl2 e0 e1 e2 e3 e4 e5, ⟨by constructor <;> (simp only; omega), w1, w2, by constructor <;> (simp only; omega)⟩, ks, hk, hks⟩
theorem open_oprs {a : Option Addr} {len cap fuel : Nat} {x : DataW H × List MemPlace}
    (hf : DataW.trod enc Try.prog W 0 (fun _ => true) true fuel 36 [.slice a len cap] = some x) :
    ∃ l : List Opr, Rd W W.heap.size 6 a len cap (l.flatMap Opr.row) ∧ ∀ o ∈ l, o.keeps W :=
  open_rows Opr.row (Opr.keeps W) (fun _ => rfl) (by omega) Try.underlying36 (by kernel_rfl) (fun fuel cs x h => opr_cells h) hf
end
end Go.Proofs.Ytmoijbknjadeeaa
