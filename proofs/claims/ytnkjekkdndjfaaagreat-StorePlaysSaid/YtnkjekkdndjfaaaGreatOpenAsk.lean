
/- What is asked, as it came in. -/
import Derived.Test.YtnkjekkdndjfaaaGreatOpen
import Derived.Test.YtnkjekkdndjfaaaGreatMach
namespace Go.Proofs.YtnkjekkdndjfaaaGreat
set_option linter.unusedVariables false
set_option linter.unusedSimpArgs false
open Go.ChangeShapes Go.WideShapes Go.ChangeAt Go.RowKit
def Ask.fits (o : Ask) : Prop := (-9223372036854775808 ≤ o.kind ∧ o.kind < 9223372036854775808) ∧ o.key.size ≤ maxLen ∧ o.val.size ≤ maxLen ∧ (-9223372036854775808 ≤ o.rev ∧ o.rev < 9223372036854775808) ∧ o.iff.size ≤ maxLen ∧ (-9223372036854775808 ≤ o.ifrev ∧ o.ifrev < 9223372036854775808)
theorem cut6 {cs : List Value} {a b c d e f : Value} (hl : cs.length = 6) (h0 : (cs.drop 0).take 1 = [a]) (h1 : (cs.drop 1).take 1 = [b]) (h2 : (cs.drop 2).take 1 = [c]) (h3 : (cs.drop 3).take 1 = [d]) (h4 : (cs.drop 4).take 1 = [e]) (h5 : (cs.drop 5).take 1 = [f]) : cs = [a, b, c, d, e, f] := by
  match cs, hl with
  | [x, y, z, u, v, w], _ => simp at h0 h1 h2 h3 h4 h5; rw [h0, h1, h2, h3, h4, h5]
section
variable {H : Type} {enc : TypeId × Value → H} {W : World}
set_option maxRecDepth 100000 in
theorem ask_cells {fuel : Nat} {cs : List Value} {x : DataW H × List MemPlace} (h : DataW.trod enc Tryz.prog W 0 (fun _ => true) true fuel 50 cs = some x) : ∃ o : Ask, cs = o.row ∧ o.fits := by
  obtain ⟨xs, n, _, _, hl, hx, hfld⟩ := DataW.trod_struct Tryz.underlying50 h
  have hl2 : cs.length = 6 := hl.trans (by kernel_rfl)
  have hx2 : xs.length = 6 := hx
  have h0 := hfld 0 _ rfl
  have h1 := hfld 1 _ rfl
  have h2 := hfld 2 _ rfl
  have h3 := hfld 3 _ rfl
  have h4 := hfld 4 _ rfl
  have h5 := hfld 5 _ rfl
  rw [List.getElem?_eq_getElem (by omega)] at h0 h1 h2 h3 h4 h5
  obtain ⟨n0, e0, _, w0⟩ := DataW.trod_int Tryz.underlying3 h0
  obtain ⟨n1, e1, _, w1⟩ := DataW.trod_string Tryz.underlying9 h1
  obtain ⟨n2, e2, _, w2⟩ := DataW.trod_string Tryz.underlying9 h2
  obtain ⟨n3, e3, _, w3⟩ := DataW.trod_int Tryz.underlying2 h3
  obtain ⟨n4, e4, _, w4⟩ := DataW.trod_string Tryz.underlying9 h4
  obtain ⟨n5, e5, _, w5⟩ := DataW.trod_int Tryz.underlying2 h5
  have b0 := bounds_i64 w0
  have b3 := bounds_i64 w3
  have b5 := bounds_i64 w5
  exact ⟨⟨n0, n1, n2, n3, n4, n5⟩, cut6 hl2 e0 e1 e2 e3 e4 e5, by constructor <;> (simp only; omega), w1, w2, by constructor <;> (simp only; omega), w4, by constructor <;> (simp only; omega)⟩
set_option maxRecDepth 100000 in
theorem open_ask {r : Reach} {b0 : Nat} {v : Value} {d : DataW H} {p : List MemPlace} (hv : Value.okWide Tryz.prog W r b0 50 v) (h : DataW.Trod enc Tryz.prog W 0 (fun _ => true) true 50 v d p) : ∃ o : Ask, v = o.v ∧ o.fits := by
  obtain ⟨cs, rfl, hsz⟩ := okWide_struct Tryz.underlying50 hv
  obtain ⟨fuel, hf⟩ := h
  obtain ⟨o, ho, hfit⟩ := ask_cells hf
  refine ⟨o, ?_, hfit⟩
  have h1 : cs.toList = o.row := ho
  have h2 : cs = o.row.toArray := by rw [← h1]
  rw [h2]
  rfl
theorem open_asks {a : Option Addr} {len cap fuel : Nat} {x : DataW H × List MemPlace}
    (hf : DataW.trod enc Tryz.prog W 0 (fun _ => true) true fuel 37 [.slice a len cap] = some x) :
    ∃ l : List Ask, Rd W W.heap.size 6 a len cap (l.flatMap Ask.row) ∧ ∀ o ∈ l, o.fits :=
  haveI : Inhabited Ask := ⟨Ask.zero⟩
  open_rows Ask.row Ask.fits (fun _ => rfl) (by omega) Tryz.underlying37 (by kernel_rfl) (fun fuel cs x h => ask_cells h) hf
end
end Go.Proofs.YtnkjekkdndjfaaaGreat
