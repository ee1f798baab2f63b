
/- Chapter 11: a disk, a state, a log and a store do not touch one another. -/
import Derived.Test.YtnkjekkdndjfaaaGreatStorePure
namespace Go.Proofs.YtnkjekkdndjfaaaGreat
set_option linter.unusedVariables false
set_option linter.unusedSimpArgs false
open Go.RowKit
section
variable {w w' : World} {gd bd N gst bst Ns g : Nat} {d : PD} {rev : Int} {l : List It}
theorem IsMp.block (h : IsMp w bst Ns l) : ∃ es clock, w.heap[bst]? = some (.map es clock) := by
  obtain ⟨D, ⟨es, clock, hb, r⟩, h2⟩ := h
  exact ⟨es, clock, hb⟩
theorem IsMp.ne_at (h : IsMp w bst Ns l) {t : TypeId} {cs : List Value} (hx : At w g t cs) : ¬ bst = g := by
  rintro rfl
  obtain ⟨es, clock, hb⟩ := h.block
  have := hb.symm.trans hx
  cases this
theorem IsMp.no_t (h : IsMp w bst Ns l) {i : Nat} {o : Obj} {t : TypeId} (ho : w.heap[i]? = some o) (hit : IsT t o) : ¬ i = bst := by
  rintro rfl
  obtain ⟨es, clock, hb⟩ := h.block
  obtain rfl := Option.some.inj (ho.symm.trans hb)
  exact hit
/-- the disk is turned: the state stays -/
theorem IsSt.dk (h : IsSt w gst bst Ns rev l) (hd : IsD w gd bd N d) (hm : Mod (fun i _ => i = gd ∨ i = bd) w w') (hne : bst ≠ bd) : IsSt w' gst bst Ns rev l := by
  obtain ⟨l0, h1, h2⟩ := id hd
  refine h.mod hm (fun o => hd.freeAt h.at_ (by decide)) (fun o e => ?_)
  rcases e with e | e
  · exact h.mp.ne_at h2.at_ e
  · exact hne e
/-- the state is turned: the disk stays -/
theorem IsD.st (hd : IsD w gd bd N d) (h : IsSt w gst bst Ns rev l) (hm : Mod (fun i _ => i = gst ∨ i = bst) w w') (hne : bst ≠ bd) : IsD w' gd bd N d := by
  obtain ⟨l0, h1, h2⟩ := id hd
  have n1 := hd.freeAt h.at_ (by decide)
  refine hd.mods hm (fun o e => ?_) (fun o e => ?_) ?_
  · rcases e with e | e
    · exact n1 (.inl e.symm)
    · exact h.mp.ne_at h2.at_ e.symm
  · rcases e with e | e
    · exact n1 (.inr e.symm)
    · exact hne e.symm
  · rintro i o ho hit (rfl | e)
    · exact isT_at h.at_ ho hit (by decide) rfl
    · exact h.mp.no_t ho hit e
/-- a block of cells is turned: the state stays -/
theorem IsSt.cell (h : IsSt w gst bst Ns rev l) {t : TypeId} {cs : List Value} (hx : At w g t cs) (ht : t ≠ 146) (hm : Mod (fun i _ => i = g) w w') : IsSt w' gst bst Ns rev l :=
  h.mod hm (fun o e => At.ne hx h.at_ ht e.symm) (fun o e => h.mp.ne_at hx e)
/-- the state is turned: a block of cells stays -/
theorem At.st {t : TypeId} {cs : List Value} (hx : At w g t cs) (h : IsSt w gst bst Ns rev l) (hm : Mod (fun i _ => i = gst ∨ i = bst) w w') (ht : t ≠ 146) : At w' g t cs :=
  hm.at hx (fun e => by rcases e with e | e; exact At.ne hx h.at_ ht e; exact h.mp.ne_at hx e.symm)
end
end Go.Proofs.YtnkjekkdndjfaaaGreat
