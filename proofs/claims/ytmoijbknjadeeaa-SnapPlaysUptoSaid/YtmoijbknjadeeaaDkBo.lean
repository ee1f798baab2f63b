
/- Chapter 6: the program's disk and the document's, side by side. -/
import Derived.Test.YtmoijbknjadeeaaDkBoth
import Derived.Test.YtmoijbknjadeeaaDkAwake
namespace Go.Proofs.Ytmoijbknjadeeaa
set_option linter.unusedVariables false
set_option linter.unusedSimpArgs false
open Go.RowKit
structure Opr where
  kind : Int
  name : ByteArray
  to : ByteArray
  b : ByteArray
  n : Int
  A : Option Addr
  kn : Nat
  kc : Nat
def Opr.row (o : Opr) : List Value := [.int .i64 o.kind, .string o.name, .string o.to, .string o.b, .int .i64 o.n, .slice o.A o.kn o.kc]
def Opr.v (o : Opr) : Value := .agg #[.int .i64 o.kind, .string o.name, .string o.to, .string o.b, .int .i64 o.n, .slice o.A o.kn o.kc]
theorem Opr.row_length (o : Opr) : o.row.length = 6 := rfl
def Opr.fits (o : Opr) : Prop := (-9223372036854775808 ≤ o.kind ∧ o.kind < 9223372036854775808) ∧ o.name.size ≤ maxLen ∧ o.to.size ≤ maxLen ∧ (-9223372036854775808 ≤ o.n ∧ o.n < 9223372036854775808)
/-- each file's bytes and name are short -/
def Bd (M : Nat) (l : List Fi) : Prop := ∀ x ∈ l, x.b.length ≤ M ∧ x.k.size ≤ maxLen
theorem Bd.mono {M M' : Nat} {l : List Fi} (h : Bd M l) (hM : M ≤ M') : Bd M' l := fun x hx => ⟨Nat.le_trans (h x hx).1 hM, (h x hx).2⟩
theorem rows_core : ∀ {a b : List Fi}, a.flatMap Fi.row = b.flatMap Fi.row → a.map Fi.core = b.map Fi.core
  | [], [], _ => rfl
  | x :: a, [], h => by simp [Fi.row] at h
  | [], y :: b, h => by simp [Fi.row] at h
  | x :: a, y :: b, h => by
    simp only [List.flatMap_cons, Fi.row, List.cons_append, List.nil_append, List.cons.injEq, Value.string.injEq, Value.int.injEq, ByteArray.mk.injEq, true_and] at h
    obtain ⟨h1, h2, h3, h4⟩ := h
    have h5 : x.b = y.b := by have := congrArg Array.toList h2; simpa using this
    rw [List.map_cons, List.map_cons, rows_core h4]
    unfold Fi.core
    rw [h1, h3, h5]
theorem core_rows : ∀ {a b : List Fi}, a.map Fi.core = b.map Fi.core → a.flatMap Fi.row = b.flatMap Fi.row
  | [], [], _ => rfl
  | x :: a, [], h => by simp at h
  | [], y :: b, h => by simp at h
  | x :: a, y :: b, h => by
    rw [List.map_cons, List.map_cons, List.cons.injEq] at h
    rw [List.flatMap_cons, List.flatMap_cons, core_rows h.2]
    have e : x.row = y.row := by
      have h1 := congrArg Fi.row h.1
      exact h1
    rw [e]
theorem bd_core {M : Nat} {a b : List Fi} (h : a.map Fi.core = b.map Fi.core) (hb : Bd M b) : Bd M a := by
  intro x hx
  have h1 : x.core ∈ b.map Fi.core := h ▸ List.mem_map_of_mem hx
  obtain ⟨y, hy, e⟩ := List.mem_map.1 h1
  have e1 : y.b = x.b := (congrArg Fi.b e : y.core.b = x.core.b)
  have e2 : y.k = x.k := (congrArg Fi.k e : y.core.k = x.core.k)
  rw [← e1, ← e2]
  exact hb y hy
theorem get_bd {M : Nat} {l : List Fi} (hb : Bd M l) (k : ByteArray) : (getF l k).b.length ≤ M := by
  unfold getF
  cases hf : findF l k with
  | none => exact Nat.zero_le _
  | some x =>
    unfold findF at hf
    exact (hb x (List.mem_of_find?_eq_some hf)).1
theorem put_len {l : List Fi} (e : Fi) (d : Bool) (h : AscF l) : (applyF e d l).length ≤ l.length + 1 := by
  have := applyF_length e d h
  cases d <;> split at this <;> simp at this <;> omega
theorem bd_put {M : Nat} {l : List Fi} (ha : AscF l) (hb : Bd M l) (e : Fi) (he : e.b.length ≤ M ∧ e.k.size ≤ maxLen) (d : Bool) : Bd M (applyF e d l) := by
  intro x hx
  rcases applyF_mem ha hx with rfl | hx
  · exact he
  · exact hb x hx
theorem without_len (l : List Fi) (k : ByteArray) : (withoutF l k).length ≤ l.length := List.length_filter_le _ _
theorem bd_without {M : Nat} {l : List Fi} (hb : Bd M l) (k : ByteArray) : Bd M (withoutF l k) := fun x hx => hb x (List.mem_filter.1 hx).1
theorem asc_without {l : List Fi} (h : AscF l) (k : ByteArray) : AscF (withoutF l k) := List.Pairwise.filter _ h
def OB (M : Nat) (l : List Fi) (o : Out) : Prop := o.core.length ≤ l.length + 1 ∧ Bd (M + 50) o.core
section
variable {l : List Fi} {lost armed : Bool} {left : Int} {M : Nat}
theorem ob_go (hb : Bd M l) (k : ByteArray) (bad : Bool) {new : List Fi} (hl : new.length ≤ l.length + 1) (hn : Bd (M + 50) new) : OB M l (goO l k lost armed left bad new) := by
  have h0 : OB M l ⟨0, l, false, 0⟩ := ⟨Nat.le_succ _, hb.mono (by omega)⟩
  unfold goO
  split
  · exact h0
  · split
    · exact h0
    · unfold OB
      simp only
      split
      · exact ⟨hl, hn⟩
      · exact h0
theorem ob_ap (ha : AscF l) (hb : Bd M l) (k : ByteArray) (hk : k.size ≤ maxLen) {y : List UInt8} (hy : y.length ≤ 50) : OB M l (apO k y l lost armed left) := by
  have h0 : OB M l ⟨0, l, false, 0⟩ := ⟨Nat.le_succ _, hb.mono (by omega)⟩
  have hg := get_bd hb k
  unfold apO
  split
  · exact h0
  · unfold OB
    simp only
    split
    · exact h0
    · exact ⟨put_len _ _ ha, bd_put ha (hb.mono (by omega)) _ ⟨by simp only [List.length_append]; omega, hk⟩ _⟩
theorem ob_sy (ha : AscF l) (hb : Bd M l) (k : ByteArray) (hk : k.size ≤ maxLen) : OB M l (syO k l lost armed left) :=
  ob_go hb k _ (put_len _ _ ha) (by refine bd_put ha (hb.mono (by omega)) _ ?_ _; exact ⟨Nat.le_trans (get_bd hb k) (Nat.le_add_right _ _), hk⟩)
theorem ob_rm (ha : AscF l) (hb : Bd M l) (k : ByteArray) : OB M l (rmO k l lost armed left) :=
  ob_go hb k _ (Nat.le_trans (without_len l k) (by omega)) (bd_without (hb.mono (by omega)) k)
theorem ob_cu (ha : AscF l) (hb : Bd M l) (k : ByteArray) (m : Int) (hk : k.size ≤ maxLen) : OB M l (cuO k m l lost armed left) :=
  ob_go hb k _ (put_len _ _ ha) (bd_put ha (hb.mono (by omega)) _ ⟨by have := get_bd hb k; simp only [List.length_take]; omega, hk⟩ _)
theorem ob_re (ha : AscF l) (hb : Bd M l) (k to : ByteArray) (hk : to.size ≤ maxLen) : OB M l (reO k to l lost armed left) :=
  ob_go hb k _ (Nat.le_trans (put_len _ _ (asc_without ha k)) (by have := without_len l k; omega)) (by refine bd_put (asc_without ha k) (bd_without (hb.mono (by omega)) k) _ ?_ _; exact ⟨Nat.le_trans (get_bd hb k) (Nat.le_add_right _ _), hk⟩)
end
structure Both (w : World) (gd bd gr N : Nat) (l : List Fi) (lost armed : Bool) (left : Int) (M : Nat) : Prop where
  dk : IsDk w gd bd N l lost armed left
  rf : IsRf w gr l lost (rl armed left)
  sm : Bd M l
section
variable {w w' : World} {gd bd gr N : Nat} {l L : List Fi} {lost armed gone : Bool} {left left2 : Int} {M : Nat}
theorem IsRf.freeAt (h : IsRf w gr L gone left) {i : Nat} {cs : List Value} {t : TypeId} (hx : At w i t cs) (ht : t ≠ 48) : ¬ i = gr := by
  obtain ⟨A, c, h1, h2⟩ := h.ex
  exact isT_at h1 hx (by rfl) ht
theorem IsRf.keep (h : IsRf w gr L gone left) (hd : IsDk w gd bd N l lost armed left2) (hm : Mod (fun i _ => i = gd ∨ i = bd) w w') : IsRf w' gr L gone left := by
  obtain ⟨A, c, h1, h2⟩ := h.ex
  exact ⟨A, c, hm.at h1 (hd.freeAt h1 (by decide)), own_mod h2 hm (fun i o ho _ hit e => hd.free ho hit (by decide) e)⟩
theorem IsDk.keep (h : IsDk w gd bd N l lost armed left2) (hr : IsRf w gr L gone left) (hm : Mod (fun i _ => i = gr) w w') : IsDk w' gd bd N l lost armed left2 := by
  obtain ⟨A, c, h1, h2⟩ := hr.ex
  have hf := h.freeAt h1 (by decide)
  exact ⟨hm.at h.at_ (fun e => hf (.inl e.symm)), h.mp.mod hm (fun _ _ e => hf (.inr e.symm)), fun x hx => ⟨own_mod (show World.ownsRow _ _ _ _ _ _ _ from (h.own x hx).1) hm (fun i o ho _ hit e => isT_at h1 ho hit (by decide) e), (h.own x hx).2⟩, h.ne, h.left0⟩
theorem Both.step (h : Both w gd bd gr N l lost armed left M) (hb : Below w.heap.size w w') : Both w' gd bd gr N l lost armed left M := ⟨h.dk.step hb, h.rf.step hb, h.sm⟩
theorem Both.drew (h : Both w gd bd gr N l lost armed left M) : Both w.drew gd bd gr N l lost armed left M := ⟨h.dk.drew, h.rf.drew, h.sm⟩
def StP (w w' : World) (gd bd gr N : Nat) (l : List Fi) (M : Nat) (x : Ending) : Prop :=
  x = .returned (.bool true) ∧ Mod (fun i _ => i = gd ∨ i = bd ∨ i = gr) w w' ∧ ∃ N' l' lost' armed' left', Both w' gd bd gr N' l' lost' armed' left' (M + 50) ∧ N' ≤ N + 1 + l.length ∧ l'.length ≤ l.length + 1
theorem mod_dk (hm : Mod (fun i _ => i = gd ∨ i = bd) w w') : Mod (fun i _ => i = gd ∨ i = bd ∨ i = gr) w w' := hm.mono fun i o _ _ h => by rcases h with h | h; exact .inl h; exact .inr (.inl h)
theorem mod_rf (hm : Mod (fun i _ => i = gr) w w') : Mod (fun i _ => i = gd ∨ i = bd ∨ i = gr) w w' := hm.mono fun i o _ _ h => .inr (.inr h)
/-- both have done the same -/
theorem both_two {w1 w2 : World} {o : Out} (ho : OB M l o) (hrf : IsRf w1 gr L gone left2) (hm1 : Mod (fun i _ => i = gd ∨ i = bd) w w1) {l' : List Fi} (hl' : l'.flatMap Fi.row = o.core.flatMap Fi.row) (hd : IsDk w1 gd bd (N + 1) l' o.lost armed o.left)
    (hm2 : Mod (fun i _ => i = gr) w1 w2) (hr2 : IsRf w2 gr o.core o.lost (rl armed o.left)) : StP w w2 gd bd gr N l M (.returned (.bool true)) := by
  have hc := rows_core hl'
  refine ⟨rfl, (mod_dk hm1).trans (mod_rf hm2), N + 1, l', o.lost, armed, o.left, ⟨hd.keep hrf hm2, hr2.same hl', bd_core hc ho.2⟩, by omega, ?_⟩
  have := congrArg List.length hc
  rw [List.length_map, List.length_map] at this
  rw [this]
  exact ho.1
end
end Go.Proofs.Ytmoijbknjadeeaa
