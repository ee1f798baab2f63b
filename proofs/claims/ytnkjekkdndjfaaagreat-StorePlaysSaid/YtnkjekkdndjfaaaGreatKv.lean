
/- Chapter 9: a state in memory: a block with the revision and the map, and the map's block. -/
import Derived.Test.YtnkjekkdndjfaaaGreatRgA
import Derived.Test.YtnkjekkdndjfaaaGreatKvPure
import Derived.StringKeys
import Derived.Test.YtnkjekkdndjfaaaGreatBytes
namespace Go.Proofs.YtnkjekkdndjfaaaGreat
set_option linter.unusedVariables false
set_option linter.unusedSimpArgs false
open Go.RowKit Go.Maps Go.WideMaps Go.ChangeMaps
theorem info_item : (Tryz.prog.info? 35).map (fun i => (i.zero, i.size, i.bytes)) = some (some (Value.agg #[.string ⟨#[]⟩, .string ⟨#[]⟩, .int .i64 0]), 3, 40) := by kernel_rfl
theorem zero_item (w : World) : (zeroValue 35).run Tryz.prog w = .ok It.zero.val w := Tryz.zeroValue35 w
theorem keyed9 : Maps.Keyed Tryz.prog 9 := string_keyed Tryz.underlying9
theorem key9 {k : ByteArray} (hk : k.size ≤ maxLen) : keyOf Tryz.prog 9 (.string k) = some (.string k.toList) := by
  rw [keyOf_string_mk Tryz.underlying9 hk, Lib.toList_data]
/-- the map alone -/
def IsMp (w : World) (b N : Nat) (l : List It) : Prop := ∃ D, w.ownsMap Tryz.prog 9 itR b N D ∧ RepD D l
/-- a state: its block g, the map's block b -/
structure IsSt (w : World) (g b N : Nat) (rev : Int) (l : List It) : Prop where
  at_ : At w g 146 [.int .i64 rev, .map (some b)]
  mp : IsMp w b N l
  ne : g ≠ b
section
variable {w w' : World} {g b N : Nat} {rev : Int} {l : List It}
theorem IsMp.lt (h : IsMp w b N l) : b < w.heap.size := by obtain ⟨D, h1, _⟩ := h; exact h1.lt
theorem IsMp.asc (h : IsMp w b N l) : Asc l := by obtain ⟨D, _, h2⟩ := h; exact h2.asc
theorem IsMp.len_le (h : IsMp w b N l) : l.length ≤ N := by obtain ⟨D, h1, h2⟩ := h; rw [← h2.size]; exact h1.size_le
theorem IsMp.kept {row : Option Nat} (h : IsMp w b N l) (hg : w.grownBy w' row) (hne : row ≠ some b) : IsMp w' b N l := by obtain ⟨D, h1, h2⟩ := h; exact ⟨D, h1.kept hg (Ne.symm hne), h2⟩
theorem IsMp.mod {M : Nat → Obj → Prop} (h : IsMp w b N l) (hm : Mod M w w') (hM : ∀ o, ¬ M b o) : IsMp w' b N l := by
  obtain ⟨D, ⟨es, clock, hb, r⟩, h2⟩ := h
  exact ⟨D, ⟨es, clock, hm.block b _ hb (hM _), r⟩, h2⟩
theorem IsMp.step (h : IsMp w b N l) (hb : Below w.heap.size w w') : IsMp w' b N l := h.mod ((Mod.refl (fun _ _ => False) w).below hb) (by simp)
theorem IsMp.drew (h : IsMp w b N l) : IsMp w.drew b N l := h
theorem IsSt.lt (h : IsSt w g b N rev l) : g < w.heap.size ∧ b < w.heap.size := ⟨h.at_.lt, h.mp.lt⟩
theorem IsSt.step (h : IsSt w g b N rev l) (hb : Below w.heap.size w w') : IsSt w' g b N rev l := ⟨h.at_.below hb, h.mp.step hb, h.ne⟩
theorem IsSt.drew (h : IsSt w g b N rev l) : IsSt w.drew g b N rev l := ⟨h.at_.drew, h.mp.drew, h.ne⟩
theorem IsSt.mod {M : Nat → Obj → Prop} (h : IsSt w g b N rev l) (hm : Mod M w w') (hg : ∀ o, ¬ M g o) (hb : ∀ o, ¬ M b o) : IsSt w' g b N rev l := ⟨hm.at h.at_ (hg _), h.mp.mod hm hb, h.ne⟩
theorem IsSt.only {q : Nat} (h : IsSt w g b N rev l) (hG : w.grownBy w' (some q)) (h1 : g ≠ q) (h2 : b ≠ q) : IsSt w' g b N rev l := h.mod (grown_mod hG) (fun _ e => by injection e with e; exact h1 e.symm) (fun _ e => by injection e with e; exact h2 e.symm)
/-- the item of a key, or the zero item -/
def getI (l : List It) (k : ByteArray) : It := (findI l k).getD It.zero
theorem IsMp.look (h : IsMp w b N l) {k : ByteArray} (hk : k.size ≤ maxLen) : (Instr.lookup 144 (.map (some b)) (.string k) true).run Tryz.prog w = .ok (.tuple #[(getI l k).val, .bool (findI l k).isSome]) w := by
  obtain ⟨D, h1, h2⟩ := h
  obtain ⟨v, ps, hrun, hv⟩ := h1.look_ok keyed9 Tryz.underlying144 (zero_item w) (itR_val It.zero) (key9 hk)
  rw [hrun, h2.has]
  cases hf : findI l k with
  | none =>
    rw [Maps.atKey_of_not_has (by rw [h2.has, hf]; rfl)] at hv
    rw [itR_inv hv]
    simp [getI, hf]
  | some x =>
    rw [h2.at_ k x hf] at hv
    rw [itR_inv hv]
    simp [getI, hf]
theorem IsMp.look1 (h : IsMp w b N l) {k : ByteArray} (hk : k.size ≤ maxLen) : (Instr.lookup 144 (.map (some b)) (.string k) false).run Tryz.prog w = .ok (getI l k).val w := by
  obtain ⟨D, h1, h2⟩ := h
  obtain ⟨v, ps, hrun, hv⟩ := h1.lookup keyed9 Tryz.underlying144 (zero_item w) (itR_val It.zero) (key9 hk)
  rw [hrun]
  cases hf : findI l k with
  | none =>
    rw [Maps.atKey_of_not_has (by rw [h2.has, hf]; rfl)] at hv
    rw [itR_inv hv]
    simp [getI, hf]
  | some x =>
    rw [h2.at_ k x hf] at hv
    rw [itR_inv hv]
    simp [getI, hf]
theorem IsMp.len (h : IsMp w b N l) (ty : TypeId) : (Builtin.len_ #[144] ty #[.map (some b)]).run Tryz.prog w = .ok (.int .i64 (l.length : Int)) w := by
  obtain ⟨D, h1, h2⟩ := h
  rw [← h2.size]
  exact h1.len Tryz.underlying144 ty
theorem IsMp.store (h : IsMp w b N l) (e : It) (hk : e.k.size ≤ maxLen) (hN : N < maxLen) : ∃ w', (Instr.mapUpdate 144 (.map (some b)) (.string e.k) e.val).run Tryz.prog w = .ok () w' ∧ IsMp w' b (N + 1) (applyL e false l) ∧ w.grownBy w' (some b) := by
  obtain ⟨D, h1, h2⟩ := h
  obtain ⟨w', hrun, h3, h4⟩ := h1.update keyed9 Tryz.underlying144 hN (key9 hk) (itR_val e)
  exact ⟨w', hrun, ⟨_, h3, h2.put e⟩, h4⟩
theorem IsMp.drop (h : IsMp w b N l) (e : It) (hk : e.k.size ≤ maxLen) (ty : TypeId) : ∃ w', (Builtin.delete_ #[144, 9] ty #[.map (some b), .string e.k]).run Tryz.prog w = .ok (.tuple #[]) w' ∧ IsMp w' b N (applyL e true l) ∧ w.grownBy w' (some b) := by
  obtain ⟨D, h1, h2⟩ := h
  obtain ⟨w', hrun, h3, h4⟩ := h1.drop keyed9 Tryz.underlying144 (key9 hk) ty
  exact ⟨w', hrun, ⟨_, h3, h2.del e⟩, h4.grown⟩
theorem IsMp.made (w : World) : IsMp (w.alloc (.map #[] 0)) w.heap.size 0 [] := ⟨_, World.ownsMap_made w Tryz.prog 9 itR, RepD.nil⟩
end
end Go.Proofs.YtnkjekkdndjfaaaGreat
