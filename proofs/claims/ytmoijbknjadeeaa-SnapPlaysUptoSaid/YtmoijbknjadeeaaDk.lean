
/- Chapter 6: a disk in memory: its block, the map's block, the files' bytes. -/
import Derived.Deep.Cut
import Derived.BigQuiet
import Derived.Deep.QuietTactic
import Derived.Lib.MinMax
import Derived.Test.YtmoijbknjadeeaaStep
import Derived.Test.YtmoijbknjadeeaaStage
import Derived.Test.YtmoijbknjadeeaaDkPure
import Derived.StringKeys
import Derived.Test.YtmoijbknjadeeaaBytes
namespace Go.Proofs.Ytmoijbknjadeeaa
set_option linter.unusedVariables false
set_option linter.unusedSimpArgs false
open Go.RowKit Go.Maps Go.WideMaps Go.ChangeMaps
theorem info_file : (Try.prog.info? 94).map (fun i => (i.zero, i.size, i.bytes)) = some (some (Value.agg #[.slice none 0 0, .int .i64 0]), 2, 32) := by kernel_rfl
theorem zero_file (w : World) : (zeroValue 94).run Try.prog w = .ok Fi.zero.val w := Try.zeroValue94 w
theorem field0 (A : Option Addr) (n c : Nat) (s : Int) (w : World) : (Instr.field 94 (.agg #[.slice A n c, .int .i64 s]) 0).run Try.prog w = .ok (.slice A n c) w := by kernel_rfl
theorem field1 (A : Option Addr) (n c : Nat) (s : Int) (w : World) : (Instr.field 94 (.agg #[.slice A n c, .int .i64 s]) 1).run Try.prog w = .ok (.int .i64 s) w := by kernel_rfl
theorem keyed6 : Maps.Keyed Try.prog 9 := string_keyed Try.underlying9
theorem key6 {k : ByteArray} (hk : k.size ≤ maxLen) : keyOf Try.prog 9 (.string k) = some (.string k.toList) := by
  rw [keyOf_string_mk Try.underlying9 hk, Lib.toList_data]
def IsMf (w : World) (b N : Nat) (l : List Fi) : Prop := ∃ D, w.ownsMap Try.prog 9 fiR b N D ∧ RepF D l
def getF (l : List Fi) (k : ByteArray) : Fi := (findF l k).getD Fi.zero
/-- a disk: its block g, the map's block b -/
structure IsDk (w : World) (g b N : Nat) (l : List Fi) (lost armed : Bool) (left : Int) : Prop where
  at_ : At w g 90 [.map (some b), .bool lost, .bool armed, .int .i64 left]
  mp : IsMf w b N l
  own : ∀ x ∈ l, OwnB w 0 x.addr x.n x.c x.b ∧ 0 ≤ x.s ∧ x.s ≤ x.b.length
  ne : g ≠ b
  left0 : 0 ≤ left ∧ left < 9223372036854775808
section
variable {w w' : World} {g b N : Nat} {l : List Fi} {lost armed : Bool} {left : Int}
theorem IsMf.lt (h : IsMf w b N l) : b < w.heap.size := by obtain ⟨D, h1, _⟩ := h; exact h1.lt
theorem IsMf.asc (h : IsMf w b N l) : AscF l := by obtain ⟨D, _, h2⟩ := h; exact h2.asc
theorem IsMf.len_le (h : IsMf w b N l) : l.length ≤ N := by obtain ⟨D, h1, h2⟩ := h; rw [← h2.size]; exact h1.size_le
theorem IsMf.mod {M : Nat → Obj → Prop} (h : IsMf w b N l) (hm : Mod M w w') (hM : ∀ es clock, ¬ M b (.map es clock)) : IsMf w' b N l := by
  obtain ⟨D, ⟨es, clock, hb, r⟩, h2⟩ := h
  exact ⟨D, ⟨es, clock, hm.block b _ hb (hM _ _), r⟩, h2⟩
theorem IsMf.more {N' : Nat} (h : IsMf w b N l) (hN : N ≤ N') : IsMf w b N' l := by obtain ⟨D, h1, h2⟩ := h; exact ⟨D, h1.mono hN, h2⟩
theorem IsMf.not_cells (h : IsMf w b N l) {t : TypeId} {cs : List Value} {i : Nat} (hx : At w i t cs) : i ≠ b := by
  obtain ⟨D, ⟨es, clock, hb, r⟩, h2⟩ := h
  rintro rfl
  unfold At at hx
  rw [hb] at hx
  injection hx with hx
  cases hx
theorem IsMf.free (h : IsMf w b N l) {i : Nat} {o : Obj} {t : TypeId} (ho : w.heap[i]? = some o) (hit : IsT t o) : i ≠ b := by
  obtain ⟨D, ⟨es, clock, hb, r⟩, h2⟩ := h
  rintro rfl
  rw [ho] at hb
  injection hb with hb
  subst hb
  exact hit
theorem IsDk.lt (h : IsDk w g b N l lost armed left) : g < w.heap.size ∧ b < w.heap.size := ⟨h.at_.lt, h.mp.lt⟩
theorem IsDk.free (h : IsDk w g b N l lost armed left) {i : Nat} {o : Obj} {t : TypeId} (ho : w.heap[i]? = some o) (hit : IsT t o) (ht : t ≠ 90) : ¬ (i = g ∨ i = b) := by
  rintro (e | e)
  · exact isT_at h.at_ ho hit ht e
  · exact h.mp.free ho hit e
theorem IsDk.freeAt (h : IsDk w g b N l lost armed left) {i : Nat} {cs : List Value} {t : TypeId} (hx : At w i t cs) (ht : t ≠ 90) : ¬ (i = g ∨ i = b) := h.free hx (by rfl) ht
theorem IsDk.step (h : IsDk w g b N l lost armed left) (hb : Below w.heap.size w w') : IsDk w' g b N l lost armed left :=
  ⟨h.at_.below hb, h.mp.mod ((Mod.refl (fun _ _ => False) w).below hb) (by simp), fun x hx => ⟨own_below (show World.ownsRow _ _ _ _ _ _ _ from (h.own x hx).1) hb, (h.own x hx).2⟩, h.ne, h.left0⟩
theorem IsDk.drew (h : IsDk w g b N l lost armed left) : IsDk w.drew g b N l lost armed left := h.step (Below.drew (Below.refl _ _))
theorem IsDk.drewN (h : IsDk w g b N l lost armed left) (n : Nat) : IsDk (w.drewN n) g b N l lost armed left := h.step (below_drewN (Below.refl _ _) n)
theorem IsDk.more {N' : Nat} (h : IsDk w g b N l lost armed left) (hN : N ≤ N') : IsDk w g b N' l lost armed left := ⟨h.at_, h.mp.more hN, h.own, h.ne, h.left0⟩
/-- the disk's block is turned alone -/
theorem IsDk.turn {lost' armed' : Bool} {left' : Int} (h : IsDk w g b N l lost armed left) (hG : w.grownBy w' (some g)) (ha : At w' g 90 [.map (some b), .bool lost', .bool armed', .int .i64 left']) (hl : 0 ≤ left' ∧ left' < 9223372036854775808) : IsDk w' g b N l lost' armed' left' :=
  ⟨ha, h.mp.mod (grown_mod hG) (fun _ _ e => h.ne (by injection e)), fun x hx => ⟨own_mod (show World.ownsRow _ _ _ _ _ _ _ from (h.own x hx).1) (grown_mod hG) (fun i o ho _ hit e => isT_at h.at_ ho hit (by decide) (Option.some.inj e).symm), (h.own x hx).2⟩, h.ne, hl⟩
theorem own_map (h : IsDk w g b N l lost armed left) (hG : w.grownBy w' (some b)) {base s m : Nat} {e : TypeId} {v : Value} {xs : List Value} (hx : w.ownsRow base e s v m xs) : w'.ownsRow base e s v m xs :=
  own_mod hx (grown_mod hG) (fun i o ho _ hit e => h.mp.free ho hit (Option.some.inj e).symm)
theorem IsDk.find (h : IsDk w g b N l lost armed left) {k : ByteArray} (hf : (findF l k).isSome = true) : getF l k ∈ l ∧ (getF l k).k = k := by
  unfold getF
  cases hx : findF l k with
  | none => rw [hx] at hf; cases hf
  | some x =>
    unfold findF at hx
    exact ⟨List.mem_of_find?_eq_some hx, by have := List.find?_some hx; simpa using this⟩
/-- the bytes of a file, or none -/
theorem IsDk.get (h : IsDk w g b N l lost armed left) (k : ByteArray) : OwnB w 0 (getF l k).addr (getF l k).n (getF l k).c (getF l k).b ∧ 0 ≤ (getF l k).s ∧ (getF l k).s ≤ (getF l k).b.length := by
  cases hf : (findF l k).isSome with
  | true => exact h.own _ (h.find hf).1
  | false =>
    have e : getF l k = Fi.zero := by unfold getF; cases hx : findF l k with
      | none => rfl
      | some x => rw [hx] at hf; cases hf
    rw [e]
    exact ⟨OwnB.nil, by simp [Fi.zero], by simp [Fi.zero]⟩
theorem IsMf.look (h : IsMf w b N l) {k : ByteArray} (hk : k.size ≤ maxLen) : (Instr.lookup 88 (.map (some b)) (.string k) true).run Try.prog w = .ok (.tuple #[(getF l k).val, .bool (findF l k).isSome]) w := by
  obtain ⟨D, h1, h2⟩ := h
  obtain ⟨v, ps, hrun, hv⟩ := h1.look_ok keyed6 Try.underlying88 (zero_file w) (fiR_val Fi.zero) (key6 hk)
  rw [hrun, h2.has]
  cases hf : findF l k with
  | none =>
    rw [Maps.atKey_of_not_has (by rw [h2.has, hf]; rfl)] at hv
    rw [fiR_inv hv]
    simp [getF, hf]
  | some x =>
    rw [h2.at_ k x hf] at hv
    rw [fiR_inv hv]
    simp [getF, hf]
theorem IsMf.look1 (h : IsMf w b N l) {k : ByteArray} (hk : k.size ≤ maxLen) : (Instr.lookup 88 (.map (some b)) (.string k) false).run Try.prog w = .ok (getF l k).val w := by
  obtain ⟨D, h1, h2⟩ := h
  obtain ⟨v, ps, hrun, hv⟩ := h1.lookup keyed6 Try.underlying88 (zero_file w) (fiR_val Fi.zero) (key6 hk)
  rw [hrun]
  cases hf : findF l k with
  | none =>
    rw [Maps.atKey_of_not_has (by rw [h2.has, hf]; rfl)] at hv
    rw [fiR_inv hv]
    simp [getF, hf]
  | some x =>
    rw [h2.at_ k x hf] at hv
    rw [fiR_inv hv]
    simp [getF, hf]
theorem applyF_mem {e : Fi} {d : Bool} {l : List Fi} {x : Fi} (ha : AscF l) (h : x ∈ applyF e d l) : x = e ∨ x ∈ l := by
  obtain ⟨p, m, q, hc⟩ := cutF e.k l ha
  rw [hc.apply d] at h
  rw [hc.eq]
  simp only [List.mem_append] at h ⊢
  rcases h with h | h | h
  · exact .inr (.inl h)
  · cases d
    · simp at h; exact .inl h
    · simp at h
  · exact .inr (.inr (.inr h))
theorem IsDk.store (h : IsDk w g b N l lost armed left) (e : Fi) (hk : e.k.size ≤ maxLen) (hN : N < maxLen) (ho : OwnB w 0 e.addr e.n e.c e.b ∧ 0 ≤ e.s ∧ e.s ≤ e.b.length) :
    ∃ w', (Instr.mapUpdate 88 (.map (some b)) (.string e.k) e.val).run Try.prog w = .ok () w' ∧ IsDk w' g b (N + 1) (applyF e false l) lost armed left ∧ w.grownBy w' (some b) := by
  obtain ⟨D, h1, h2⟩ := h.mp
  obtain ⟨w', hrun, h3, h4⟩ := h1.update keyed6 Try.underlying88 hN (key6 hk) (fiR_val e)
  refine ⟨w', hrun, ⟨h.at_.only h4 h.ne, ⟨_, h3, h2.put e⟩, fun x hx => ?_, h.ne, h.left0⟩, h4⟩
  rcases applyF_mem h.mp.asc hx with rfl | hx
  · exact ⟨own_map h h4 (show World.ownsRow _ _ _ _ _ _ _ from ho.1), ho.2⟩
  · exact ⟨own_map h h4 (show World.ownsRow _ _ _ _ _ _ _ from (h.own x hx).1), (h.own x hx).2⟩
theorem IsDk.drop (h : IsDk w g b N l lost armed left) (e : Fi) (hk : e.k.size ≤ maxLen) (ty : TypeId) :
    ∃ w', (Builtin.delete_ #[88, 9] ty #[.map (some b), .string e.k]).run Try.prog w = .ok (.tuple #[]) w' ∧ IsDk w' g b N (applyF e true l) lost armed left ∧ w.grownBy w' (some b) := by
  obtain ⟨D, h1, h2⟩ := h.mp
  obtain ⟨w', hrun, h3, h4⟩ := h1.drop keyed6 Try.underlying88 (key6 hk) ty
  refine ⟨w', hrun, ⟨h.at_.only h4.grown h.ne, ⟨_, h3, h2.del e⟩, fun x hx => ?_, h.ne, h.left0⟩, h4.grown⟩
  have hx2 : x ∈ l := by
    obtain ⟨p, m, q, hc⟩ := cutF e.k l h.mp.asc
    rw [hc.apply true] at hx
    rw [hc.eq]
    simp only [List.mem_append] at hx ⊢
    rcases hx with hx | hx | hx
    · exact .inl hx
    · simp at hx
    · exact .inr (.inr hx)
  exact ⟨own_map h h4.grown (show World.ownsRow _ _ _ _ _ _ _ from (h.own x hx2).1), (h.own x hx2).2⟩
theorem IsMf.made (w : World) : IsMf (w.alloc (.map #[] 0)) w.heap.size 0 [] := ⟨_, World.ownsMap_made w Try.prog 9 fiR, RepF.nil⟩
end
theorem new_dk (w : World) : Calls Try.prog 14 #[] w fun r w' => ∃ g b, r = .returned (.pointer (some ⟨g, 0, none⟩)) ∧ IsDk w' g b 0 [] false false 0 ∧ w.heap.size ≤ b ∧ b < g ∧ Below w.heap.size w w' := by
  have hmm := run_makeMap (P := Try.prog) 88 w
  go_enter Try.func14, Try.ntmps14
  go_wp2_with fail
  go_ret
  have hb1 : Below w.heap.size w (w.alloc (.map #[] 0)) := (Below.refl _ _).alloc (Nat.le_refl _) _
  obtain ⟨h2, hb2⟩ := one_at (w.alloc (.map #[] 0)) 90 [.map (some w.heap.size), .bool false, .bool false, .int .i64 0]
  refine ⟨(w.alloc (.map #[] 0)).heap.size, w.heap.size, by simp, ⟨?_, ?_, by simp, by simp, by omega⟩, Nat.le_refl _, by simp, chain hb1 hb2⟩
  · simpa using h2
  · exact (IsMf.made w).mod ((Mod.refl (fun _ _ => False) _).below hb2) (by simp)
end Go.Proofs.Ytmoijbknjadeeaa
