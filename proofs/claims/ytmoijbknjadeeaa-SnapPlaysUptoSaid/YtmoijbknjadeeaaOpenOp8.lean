
/- Chapter 8's calls, as they came in, where what is read is of a bulk. -/
import Derived.Test.YtmoijbknjadeeaaRows
import Derived.Test.YtmoijbknjadeeaaOpenU16
import Derived.Test.YtmoijbknjadeeaaOpen
import Derived.Test.YtmoijbknjadeeaaSnapBoth
namespace Go.Proofs.Ytmoijbknjadeeaa
set_option linter.unusedVariables false
set_option linter.unusedSimpArgs false
open Go.ChangeShapes Go.WideShapes Go.ChangeAt Go.RowKit
instance : Inhabited Op8 := ⟨⟨0, ⟨#[]⟩, none, 0, 0, 0, none, 0, 0⟩⟩
theorem bulk_mem {H : Type} : ∀ {l : List (DataW H)} {x : DataW H}, x ∈ l → Rows.uptoBulk x ≤ Rows.uptoBulkAll l
  | [], x, h => by cases h
  | y :: l, x, h => by
    rw [Rows.uptoBulkAll]
    rcases List.mem_cons.1 h with rfl | h
    · omega
    · have := bulk_mem h
      omega
section
variable {H : Type} {enc : TypeId × Value → H} {W : World}
theorem open_rows_in {α : Type} [Inhabited α] (row : α → List Value) (ok : α → DataW H → Prop) {t e : TypeId} {F : Nat} (hF : ∀ y, (row y).length = F) (hpos : 0 < F) (ht : Try.prog.underlying t = some (.slice e)) (hC : Try.prog.cellsOf e = F)
    (hrow : ∀ fuel cs (x : DataW H × List MemPlace), DataW.trod enc Try.prog W 0 (fun _ => true) true fuel e cs = some x → ∃ y, cs = row y ∧ ok y x.1)
    {a : Option Addr} {len cap fuel : Nat} {x : DataW H × List MemPlace} (hf : DataW.trod enc Try.prog W 0 (fun _ => true) true fuel t [.slice a len cap] = some x) :
    ∃ l : List α, Rd W W.heap.size F a len cap (l.flatMap row) ∧ ∀ y ∈ l, ∃ dy els sp, ok y dy ∧ x.1 = .slice els sp ∧ dy ∈ els := by
  rcases Go.Deep.open_slice ht hf with ⟨hcs, _⟩ | ⟨ad, len', cap', m, n, D, Pl, hcs, _, hl, hm, hmm, hx, hi⟩
  · simp at hcs
    obtain ⟨rfl, rfl, rfl⟩ := hcs
    exact ⟨[], by simpa using Rd.nil, by simp⟩
  · simp at hcs
    obtain ⟨rfl, rfl, rfl⟩ := hcs
    simp only [if_true] at hmm
    subst hmm
    rw [hC] at hi
    have hy : ∀ i, ∃ y, i < m → (∀ r u, (row y)[r]? = some u → W.cell? ((ad.add (i * F)).add r) = some u) ∧ ok y (D i) := by
      intro i
      by_cases him : i < m
      · obtain ⟨cs', hc, htr⟩ := hi i him
        obtain ⟨y, rfl, hok⟩ := hrow _ _ _ htr
        obtain ⟨_, hcl, hat⟩ := World.cells?_some hc
        refine ⟨y, fun _ => ⟨fun r u hu => ?_, hok⟩⟩
        have hr : r < F := by have := (List.getElem?_eq_some_iff.1 hu).1; rw [hF] at this; exact this
        rw [hat r hr, hu]
      · exact ⟨default, fun h => absurd h him⟩
    refine ⟨(List.range len).map fun i => Classical.choose (hy i), ⟨by rw [flat_length hF]; simp, hl, hm, fun h0 => ?_⟩, fun y hy' => ?_⟩
    · have e0 := (Classical.choose_spec (hy 0) h0).1
      have hx : ∃ u, (row (Classical.choose (hy 0)))[0]? = some u := ⟨_, List.getElem?_eq_getElem (by rw [hF]; exact hpos)⟩
      obtain ⟨u0, hu0⟩ := hx
      have hc0 := e0 0 u0 hu0
      obtain ⟨g, off, spot⟩ := ad
      have hspot : spot = none := by simpa [Addr.add] using World.cell?_spot hc0
      subst hspot
      refine ⟨g, off, rfl, World.block_lt_of_cell? W _ (by simpa [Addr.add] using hc0), fun j u hu => ?_⟩
      obtain ⟨i, r, y, h1, rfl, h3, h4⟩ := flat_some hF _ j u hu
      simp only [List.getElem?_map, Option.map_eq_some_iff] at h1
      obtain ⟨i', hi', rfl⟩ := h1
      have hil := (List.getElem?_eq_some_iff.1 hi')
      obtain ⟨h5, h6⟩ := hil
      simp at h5 h6
      subst h6
      have := (Classical.choose_spec (hy i) (by omega)).1 r u h4
      rw [add_flat, add_flat, Nat.add_assoc] at this
      exact this
    · obtain ⟨i, hi2, rfl⟩ := List.mem_map.1 hy'
      rw [List.mem_range] at hi2
      exact ⟨D i, _, _, (Classical.choose_spec (hy i) (by omega)).2, by rw [hx], List.mem_map.2 ⟨i, List.mem_range.2 hi2, rfl⟩⟩
theorem cut5o {cs : List Value} {a b c d e : Value} (hl : cs.length = 5) (h0 : (cs.drop 0).take 1 = [a]) (h1 : (cs.drop 1).take 1 = [b]) (h2 : (cs.drop 2).take 1 = [c]) (h3 : (cs.drop 3).take 1 = [d]) (h4 : (cs.drop 4).take 1 = [e]) : cs = [a, b, c, d, e] := by
  match cs, hl with
  | [x, y, z, u, v], _ => simp at h0 h1 h2 h3 h4; rw [h0, h1, h2, h3, h4]
theorem cell_bytes {fuel : Nat} {cs : List Value} {x : DataW H × List MemPlace} (hf : DataW.trod enc Try.prog W 0 (fun _ => true) true fuel 27 cs = some x) :
    ∃ (A : Option Addr) (n c : Nat), cs = [.slice A n c] ∧ ∃ pl, RdB W W.heap.size A n c pl := by
  have hcs0 : ∃ a len cap, cs = [.slice a len cap] := by
    rcases Go.Deep.open_slice Try.underlying27 hf with ⟨hcs, _⟩ | ⟨ad, len', cap', m, n, D, Pl, hcs, _⟩
    · exact ⟨none, 0, 0, hcs⟩
    · exact ⟨some ad, len', cap', hcs⟩
  obtain ⟨a, len, cap, rfl⟩ := hcs0
  obtain ⟨l, h1⟩ := open_bytes hf
  exact ⟨a, len, cap, rfl, l, h1⟩
theorem cell_u16s {fuel : Nat} {cs : List Value} {x : DataW H × List MemPlace} (hf : DataW.trod enc Try.prog W 0 (fun _ => true) true fuel 23 cs = some x) :
    ∃ (A : Option Addr) (n c : Nat), cs = [.slice A n c] ∧ ∃ ks : List Nat, RdK W W.heap.size A n c ks ∧ ∀ k ∈ ks, k < 65536 := by
  have hcs0 : ∃ a len cap, cs = [.slice a len cap] := by
    rcases Go.Deep.open_slice Try.underlying23 hf with ⟨hcs, _⟩ | ⟨ad, len', cap', m, n, D, Pl, hcs, _⟩
    · exact ⟨none, 0, 0, hcs⟩
    · exact ⟨some ad, len', cap', hcs⟩
  obtain ⟨a, len, cap, rfl⟩ := hcs0
  obtain ⟨l, h1, h2⟩ := open_u16s hf
  exact ⟨a, len, cap, rfl, l, h1, h2⟩
set_option maxRecDepth 100000 in
theorem op8_cells {fuel : Nat} {cs : List Value} {x : DataW H × List MemPlace} (h : DataW.trod enc Try.prog W 0 (fun _ => true) true fuel 81 cs = some x) : ∃ o : Op8, cs = o.row ∧ (Rows.uptoBulk x.1 ≤ 1048576 → o.keeps W W.heap.size) := by
  obtain ⟨xs, n, _, hxx, hl, hx, hfld⟩ := DataW.trod_struct Try.underlying81 h
  have hl2 : cs.length = 5 := hl.trans (by kernel_rfl)
  have hx2 : xs.length = 5 := hx
  have h0 := hfld 0 _ rfl
  have h1 := hfld 1 _ rfl
  have h2 := hfld 2 _ rfl
  have h3 := hfld 3 _ rfl
  have h4 := hfld 4 _ rfl
  have hm : xs[1] ∈ xs := List.getElem_mem _
  rw [List.getElem?_eq_getElem (by omega)] at h0 h1 h2 h3 h4
  obtain ⟨n0, e0, _, w0⟩ := DataW.trod_int Try.underlying3 h0
  obtain ⟨n1, e1, ex1, w1⟩ := DataW.trod_string Try.underlying9 h1
  obtain ⟨P, pn, pc, e2, hp⟩ := cell_bytes h2
  obtain ⟨n3, e3, _, w3⟩ := DataW.trod_int Try.underlying3 h3
  obtain ⟨A, kn, kc, e4, hk⟩ := cell_u16s h4
  have b0 := bounds_i64 w0
  have b3 := bounds_i64 w3
  refine ⟨⟨n0, n1, P, pn, pc, n3, A, kn, kc⟩, cut5o hl2 e0 e1 e2 e3 e4, fun hbk => ⟨⟨by constructor <;> (simp only; omega), by constructor <;> (simp only; omega)⟩, ?_, hp, hk⟩⟩
  have hsz : n1.data.toList.length = n1.size := by rw [Array.length_toList]; rfl
  rw [hxx] at hbk
  simp only at hbk
  rw [Rows.uptoBulk] at hbk
  have hq : Rows.uptoBulk xs[1].1 ≤ Rows.uptoBulkAll (xs.map fun y => y.1) := bulk_mem (List.mem_map.2 ⟨_, hm, rfl⟩)
  have ex2 : xs[1] = (DataW.lit (.string n1.data.toList), []) := ex1
  rw [ex2] at hq
  simp only at hq
  rw [Rows.uptoBulk] at hq
  simp only [maxLen]
  show n1.size + 1 ≤ _
  omega
theorem open_op8s {a : Option Addr} {len cap fuel : Nat} {x : DataW H × List MemPlace}
    (hf : DataW.trod enc Try.prog W 0 (fun _ => true) true fuel 79 [.slice a len cap] = some x) (hb : Rows.uptoBulk x.1 ≤ 1048576) :
    ∃ l : List Op8, Rd W W.heap.size 5 a len cap (l.flatMap Op8.row) ∧ ∀ o ∈ l, o.keeps W W.heap.size := by
  obtain ⟨l, h1, h2⟩ := open_rows_in Op8.row (fun o d => Rows.uptoBulk d ≤ 1048576 → o.keeps W W.heap.size) (F := 5) (fun _ => rfl) (by omega) Try.underlying79 (by kernel_rfl) (fun fuel cs x h => op8_cells h) hf
  refine ⟨l, h1, fun o ho => ?_⟩
  obtain ⟨dy, els, sp, hok, hx, hm⟩ := h2 o ho
  refine hok ?_
  rw [hx, Rows.uptoBulk] at hb
  have := bulk_mem hm
  omega
end
end Go.Proofs.Ytmoijbknjadeeaa
