
/- Chapter 11's calls, as they came in. -/
import Derived.Test.YtnkjekkdndjfaaaGreatOpenAsk
namespace Go.Proofs.YtnkjekkdndjfaaaGreat
set_option linter.unusedVariables false
set_option linter.unusedSimpArgs false
open Go.ChangeShapes Go.WideShapes Go.ChangeAt Go.RowKit
structure Op11 where
  kind : Int
  o : Ask
  nn : Int
def Op11.row (x : Op11) : List Value := [.int .i64 x.kind, .int .i64 x.o.kind, .string x.o.key, .string x.o.val, .int .i64 x.o.rev, .string x.o.iff, .int .i64 x.o.ifrev, .int .i64 x.nn]
theorem Op11.row_length (x : Op11) : x.row.length = 8 := rfl
def Op11.fits (x : Op11) : Prop := x.o.fits ∧ -9223372036854775808 ≤ x.nn ∧ x.nn < 9223372036854775808
theorem cut8o {cs : List Value} {a b : Value} {o : Ask} (hl : cs.length = 8) (h0 : (cs.drop 0).take 1 = [a]) (h1 : (cs.drop 1).take 6 = o.row) (h2 : (cs.drop 7).take 1 = [b]) : cs = [a, .int .i64 o.kind, .string o.key, .string o.val, .int .i64 o.rev, .string o.iff, .int .i64 o.ifrev, b] := by
  match cs, hl with
  | [x0, x1, x2, x3, x4, x5, x6, x7], _ =>
    have e : [x1, x2, x3, x4, x5, x6] = [.int .i64 o.kind, .string o.key, .string o.val, .int .i64 o.rev, .string o.iff, .int .i64 o.ifrev] := h1
    simp at h0 h2 e
    obtain ⟨rfl, rfl, rfl, rfl, rfl, rfl⟩ := e
    rw [h0, h2]
section
variable {H : Type} {enc : TypeId × Value → H} {W : World}
set_option maxRecDepth 100000 in
theorem op11_cells {fuel : Nat} {cs : List Value} {x : DataW H × List MemPlace} (h : DataW.trod enc Tryz.prog W 0 (fun _ => true) true fuel 76 cs = some x) : ∃ o : Op11, cs = o.row ∧ o.fits := by
  obtain ⟨xs, n, _, _, hl, hx, hfld⟩ := DataW.trod_struct Tryz.underlying76 h
  have hl2 : cs.length = 8 := hl.trans (by kernel_rfl)
  have hx2 : xs.length = 3 := hx
  have h0 := hfld 0 _ rfl
  have h1 := hfld 1 _ rfl
  have h2 := hfld 2 _ rfl
  rw [List.getElem?_eq_getElem (by omega)] at h0 h1 h2
  obtain ⟨n0, e0, _, w0⟩ := DataW.trod_int Tryz.underlying3 h0
  obtain ⟨o, e1, ho⟩ := ask_cells h1
  obtain ⟨n2, e2, _, w2⟩ := DataW.trod_int Tryz.underlying3 h2
  have b2 := bounds_i64 w2
  exact ⟨⟨n0, o, n2⟩, cut8o hl2 e0 e1 e2, ho, by constructor <;> (simp only; omega)⟩
instance : Inhabited Op11 := ⟨⟨0, Ask.zero, 0⟩⟩
theorem open_ops11 {a : Option Addr} {len cap fuel : Nat} {x : DataW H × List MemPlace}
    (hf : DataW.trod enc Tryz.prog W 0 (fun _ => true) true fuel 70 [.slice a len cap] = some x) :
    ∃ l : List Op11, Rd W W.heap.size 8 a len cap (l.flatMap Op11.row) ∧ ∀ o ∈ l, o.fits :=
  open_rows Op11.row Op11.fits (fun _ => rfl) (by omega) Tryz.underlying70 (by kernel_rfl) (fun fuel cs x h => op11_cells h) hf
end
end Go.Proofs.YtnkjekkdndjfaaaGreat
