
/- From a law's arguments, as the row reads them, to what the walks ask. -/
import Derived.Test.YtnkjekkdndjfaaaGreatBytes
import Derived.ProofKit
import Derived.Deep.Slices
import Derived.OpenShut
import Derived.ShutString
import Derived.ChangeOld
namespace Go.Proofs.YtnkjekkdndjfaaaGreat
set_option linter.unusedSimpArgs false
set_option linter.unusedVariables false
open Go.ChangeShapes Go.WideShapes Go.ChangeAt Go.RowKit

theorem nat_u8 {n : Int} (h : (Lit.int .u8 n).wf = true) : ∃ x : Nat, n = (x : Int) ∧ x < 256 := by
  have := bounds_u8 h
  exact ⟨n.toNat, by omega, by omega⟩
theorem nat_u16 {n : Int} (h : (Lit.int .u16 n).wf = true) : ∃ x : Nat, n = (x : Int) ∧ x < 65536 := by
  have := bounds_u16 h
  exact ⟨n.toNat, by omega, by omega⟩
theorem nat_u32 {n : Int} (h : (Lit.int .u32 n).wf = true) : ∃ x : Nat, n = (x : Int) ∧ x < 4294967296 := by
  have := bounds_u32 h
  exact ⟨n.toNat, by omega, by omega⟩
theorem nat_u64 {n : Int} (h : (Lit.int .u64 n).wf = true) : ∃ x : Nat, n = (x : Int) ∧ x < 18446744073709551616 := by
  have := bounds_u64 h
  exact ⟨n.toNat, by omega, by omega⟩

section
variable {H : Type} {enc : TypeId × Value → H} {W : World}
theorem open_bytes {a : Option Addr} {len cap fuel : Nat} {x : DataW H × List MemPlace} (hf : DataW.trod enc Tryz.prog W 0 (fun _ => true) true fuel 22 [.slice a len cap] = some x) :
    ∃ l, RdB W W.heap.size a len cap l := by
  rcases open_ints Tryz.underlying22 Tryz.underlying5 (by kernel_rfl) hf with ⟨hcs, _⟩ | ⟨x, l, c, zs, hcs, _, hl, hm, hz, _, hcell, hwz⟩
  · simp at hcs
    obtain ⟨rfl, rfl, rfl⟩ := hcs
    exact ⟨[], RdB.nil⟩
  · simp at hcs
    obtain ⟨rfl, rfl, rfl⟩ := hcs
    simp only [if_true] at hz
    refine ⟨(zs.take len).map fun z => UInt8.ofNat z.toNat, ?_⟩
    refine ⟨by simp [bys]; omega, hl, hm, fun h0 => ?_⟩
    have hc0 := hcell 0 (by omega)
    obtain ⟨g, off, spot⟩ := x
    have hspot : spot = none := by simpa [Addr.add] using World.cell?_spot hc0
    subst hspot
    refine ⟨g, off, rfl, World.block_lt_of_cell? W _ (by simpa [Addr.add] using hc0), fun j u hu => ?_⟩
    obtain ⟨b, hb, rfl⟩ := bys_get hu
    rw [List.getElem?_map, List.getElem?_take] at hb
    split at hb
    · rename_i hj
      simp only [Option.map_eq_some_iff] at hb
      obtain ⟨z, hz1, rfl⟩ := hb
      have hjl : j < zs.length := (List.getElem?_eq_some_iff.1 hz1).1
      have hcj := hcell j hjl
      have hw := bounds_u8 (hwz z (List.mem_of_getElem? hz1))
      have e1 : zs.getD j 0 = z := by rw [List.getD_eq_getElem?_getD, hz1]; rfl
      have e2 : ((UInt8.ofNat z.toNat).toNat : Int) = z := by rw [UInt8.toNat_ofNat']; omega
      rw [e1] at hcj
      rw [e2]
      have e3 : (⟨g, off, none⟩ : Addr).add j = ⟨g, off + j, none⟩ := by
        unfold Addr.add
        by_cases h0 : j = 0 <;> simp [h0]
      rw [← e3]
      exact hcj
    · cases hb

theorem add_flat (g off j : Nat) : (⟨g, off, none⟩ : Addr).add j = ⟨g, off + j, none⟩ := by
  unfold Addr.add
  by_cases h0 : j = 0 <;> simp [h0]

/-- a slice of structs (or other rows of F cells) that came in -/
theorem open_rows {α : Type} [Inhabited α] (row : α → List Value) (ok : α → Prop) {t e : TypeId} {F : Nat} (hF : ∀ y, (row y).length = F) (hpos : 0 < F) (ht : Tryz.prog.underlying t = some (.slice e)) (hC : Tryz.prog.cellsOf e = F)
    (hrow : ∀ fuel cs (x : DataW H × List MemPlace), DataW.trod enc Tryz.prog W 0 (fun _ => true) true fuel e cs = some x → ∃ y, cs = row y ∧ ok y)
    {a : Option Addr} {len cap fuel : Nat} {x : DataW H × List MemPlace} (hf : DataW.trod enc Tryz.prog W 0 (fun _ => true) true fuel t [.slice a len cap] = some x) :
    ∃ l : List α, Rd W W.heap.size F a len cap (l.flatMap row) ∧ ∀ y ∈ l, ok y := by
  rcases Go.Deep.open_slice ht hf with ⟨hcs, _⟩ | ⟨ad, len', cap', m, n, D, Pl, hcs, _, hl, hm, hmm, _, hi⟩
  · simp at hcs
    obtain ⟨rfl, rfl, rfl⟩ := hcs
    exact ⟨[], by simpa using Rd.nil, by simp⟩
  · simp at hcs
    obtain ⟨rfl, rfl, rfl⟩ := hcs
    simp only [if_true] at hmm
    subst hmm
    rw [hC] at hi
    have hy : ∀ i, ∃ y, i < m → (∀ r u, (row y)[r]? = some u → W.cell? ((ad.add (i * F)).add r) = some u) ∧ ok y := by
      intro i
      by_cases him : i < m
      · obtain ⟨cs', hc, htr⟩ := hi i him
        obtain ⟨y, rfl, hok⟩ := hrow _ _ _ htr
        obtain ⟨_, hcl, hat⟩ := World.cells?_some hc
        refine ⟨y, fun _ => ⟨fun r u hu => ?_, hok⟩⟩
        have hr : r < F := by have := (List.getElem?_eq_some_iff.1 hu).1; rw [hF] at this; exact this
        rw [hat r hr, hu]
      · exact ⟨default, fun h => absurd h him⟩
    refine ⟨(List.range len).map fun i => Classical.choose (hy i), ⟨by rw [flat_length hF]; simp, hl, hm, fun h0 => ?_⟩, fun y hy' => ?_⟩
    · have e0 := (Classical.choose_spec (hy 0) h0).1
      have hx : ∃ u, (row (Classical.choose (hy 0)))[0]? = some u := ⟨_, List.getElem?_eq_getElem (by rw [hF]; exact hpos)⟩
      obtain ⟨u0, hu0⟩ := hx
      have hc0 := e0 0 u0 hu0
      obtain ⟨g, off, spot⟩ := ad
      have hspot : spot = none := by simpa [Addr.add] using World.cell?_spot hc0
      subst hspot
      refine ⟨g, off, rfl, World.block_lt_of_cell? W _ (by simpa [Addr.add] using hc0), fun j u hu => ?_⟩
      obtain ⟨i, r, y, h1, rfl, h3, h4⟩ := flat_some hF _ j u hu
      simp only [List.getElem?_map, Option.map_eq_some_iff] at h1
      obtain ⟨i', hi', rfl⟩ := h1
      have hil := (List.getElem?_eq_some_iff.1 hi')
      obtain ⟨h5, h6⟩ := hil
      simp at h5 h6
      subst h6
      have := (Classical.choose_spec (hy i) (by omega)).1 r u h4
      rw [add_flat, add_flat, Nat.add_assoc] at this
      exact this
    · simp only [List.mem_map, List.mem_range] at hy'
      obtain ⟨i, hi', rfl⟩ := hy'
      exact (Classical.choose_spec (hy i) (by omega)).2
end
end Go.Proofs.YtnkjekkdndjfaaaGreat
