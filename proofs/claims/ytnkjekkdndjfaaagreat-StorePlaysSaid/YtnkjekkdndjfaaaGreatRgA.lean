
/- A region that draws its order, taken operation by operation; what is known of the world may grow on the way. No program is named here. -/
import Derived.Deep.RegionHeld3
import Derived.Laws.EntriesVeiled
import Derived.Test.YtnkjekkdndjfaaaGreatBase
namespace Go.Proofs.YtnkjekkdndjfaaaGreat
set_option linter.unusedSimpArgs false
set_option linter.unusedVariables false
open Go.RowKit

section
variable {P : Program} {ops : Array Oper} {Q : Exit → Act → World → Prop} {md : Region.Mode} {S S' : World → Prop}

/-- more may be known of the world from here on -/
theorem wpAnyH_mono (hm : ∀ w, S' w → S w) : ∀ (fuel : Nat) (listed : Array Bool) (a : Act) (w : World), wpAnyH P md ops Q S' fuel listed a w → wpAnyH P md ops Q S fuel listed a w
  | 0, _, _, _, h => h
  | fuel + 1, listed, a, w, h => ⟨h.1, fun i hi => wpOp_mono (fun a' w' h' => ⟨hm w' h'.1, wpAnyH_mono hm fuel _ a' w' h'.2⟩) (h.2 i hi)⟩

theorem region_begin (S : World → Prop) {id : Nat} {a : Act} {w : World} (hm : P.follows .mixedOrders = true) (hS : S w.drew)
    (h : S w.drew → wpAnyH P .any ops Q S ops.size (Array.replicate ops.size false) a w.drew) : (Code.region id ops true).wp P Q a w :=
  wp_region_held hm (h hS)

/-- one operation alone may come up: it is run, and behind it more may be known -/
theorem region_one {fuel : Nat} {listed : Array Bool} {a : Act} {w : World} (i : Nat) {o : Oper} (hr : Region.ready md ops listed = [i]) (ho : ops[i]? = some o)
    (h : ∀ K' : Act → World → Prop, Shut (∀ a w (S' : World → Prop), S' w → (∀ w, S' w → S w) → (S' w → wpAnyH P md ops Q S' fuel (listed.setIfInBounds i true) a w) → K' a w) → if Region.wanted o (yielded ops a.tmps) = true then Oper.wp P o a w K' Q else K' (a.put o.dst undef) w) :
    wpAnyH P md ops Q S (fuel + 1) listed a w := by
  refine wpAnyH_all hr (by simp) fun j hj => ?_
  obtain rfl : j = i := by simpa using hj
  exact wpOp_step ho fun K' hK => h K' fun a w S' hS' hm hW => hK a w ⟨hm w hS', wpAnyH_mono hm _ _ _ _ (hW hS')⟩
end
end Go.Proofs.YtnkjekkdndjfaaaGreat
namespace Go.Proofs.YtnkjekkdndjfaaaGreat
set_option linter.unusedSimpArgs false
set_option linter.unusedVariables false
open Go.RowKit
section
variable {P : Program} {ops : Array Oper} {Q : Exit → Act → World → Prop} {md : Region.Mode} {S : World → Prop} {b : Nat}
def wpAnyT (P : Program) (md : Region.Mode) (ops : Array Oper) (Q : Exit → Act → World → Prop) (S : World → Prop) (b : Nat) : Nat → Array Bool → Act → World → Prop
  | 0, listed, a, w => Region.ready md ops listed = [] ∧ Q .normal a w
  | fuel + 1, listed, a, w =>
    (Region.ready md ops listed = [] → Q .normal a w) ∧
    ∀ i ∈ Region.ready md ops listed, wpOp P ops Q i (fun a' w' => if i = b then wpAny P md ops Q fuel (listed.setIfInBounds i true) a' w' else S w' ∧ wpAnyT P md ops Q S b fuel (listed.setIfInBounds i true) a' w') a w
theorem wpAny_of_T : ∀ (fuel : Nat) (listed : Array Bool) (a : Act) (w : World), wpAnyT P md ops Q S b fuel listed a w → wpAny P md ops Q fuel listed a w
  | 0, _, _, _, h => h
  | fuel + 1, _, _, _, h => ⟨h.1, fun i hi => wpOp_mono (fun a' w' h' => by
      by_cases e : i = b
      · rw [if_pos e] at h'; exact h'
      · rw [if_neg e] at h'; exact wpAny_of_T fuel _ a' w' h'.2) (h.2 i hi)⟩
/-- what has been listed has behind it all that it waited for -/
def closedB (md : Region.Mode) (ops : Array Oper) (listed : Array Bool) : Bool :=
  (List.range ops.size).all fun j => !listed.getD j false || ((ops[j]?).map (·.after.all fun e => !Region.binds md e || listed.getD e.on false)).getD true
def reachB (md : Region.Mode) (ops : Array Oper) : Nat → Nat → Nat → Bool
  | 0, _, _ => false
  | n + 1, j, i => ((ops[j]?).map (·.after.any fun e => Region.binds md e && (e.on == i || reachB md ops n e.on i))).getD false
theorem closed_spec {listed : Array Bool} (h : closedB md ops listed = true) {j : Nat} {o : Oper} (ho : ops[j]? = some o) (hl : listed.getD j false = true) : ∀ e ∈ o.after, Region.binds md e = true → listed.getD e.on false = true := by
  intro e he hb
  have h1 := List.all_eq_true.1 h j (List.mem_range.2 (Array.getElem?_eq_some_iff.1 ho).1)
  rw [hl, ho] at h1
  simp only [Bool.not_true, Bool.false_or, Option.map_some, Option.getD_some] at h1
  have h2 := Array.all_eq_true_iff_forall_mem.1 h1 e he
  rw [hb] at h2
  simpa using h2
theorem reach_listed {listed : Array Bool} (hc : ∀ j o, ops[j]? = some o → listed.getD j false = true → ∀ e ∈ o.after, Region.binds md e = true → listed.getD e.on false = true) :
    ∀ (n j i : Nat) (o : Oper), ops[j]? = some o → (∀ e ∈ o.after, Region.binds md e = true → listed.getD e.on false = true) → reachB md ops n j i = true → listed.getD i false = true
  | 0, j, i, o, ho, ha, h => by simp [reachB] at h
  | n + 1, j, i, o, ho, ha, h => by
    simp only [reachB, ho, Option.map_some, Option.getD_some] at h
    obtain ⟨e, he, hb⟩ := Array.any_eq_true'.1 h
    simp only [Bool.and_eq_true, Bool.or_eq_true, beq_iff_eq] at hb
    have hl := ha e he hb.1
    rcases hb.2 with h1 | h1
    · rw [← h1]; exact hl
    · cases ho2 : ops[e.on]? with
      | none =>
        exfalso
        cases n <;> simp [reachB, ho2] at h1
      | some o2 => exact reach_listed hc n e.on i o2 ho2 (hc _ _ ho2 hl) h1
/-- invariant form -/
def Closed (md : Region.Mode) (ops : Array Oper) (listed : Array Bool) : Prop := ∀ j o, ops[j]? = some o → listed.getD j false = true → ∀ e ∈ o.after, Region.binds md e = true → listed.getD e.on false = true
theorem Closed.set {listed : Array Bool} (h : Closed md ops listed) {i : Nat} (hi : i ∈ Region.ready md ops listed) : Closed md ops (listed.setIfInBounds i true) := by
  intro j o ho hl e he hb
  by_cases hij : i = j
  · subst hij
    obtain ⟨_, o', ho', hall⟩ := mem_ready.1 hi
    have : o' = o := Option.some.inj (ho'.symm.trans ho)
    subst this
    exact getD_set_true (hall e he hb)
  · rw [getD_set_ne false hij] at hl
    exact getD_set_true (h j o ho hl e he hb)
/-- an operation that reads, for which the stage's last one waits, may be taken first -/
theorem wpAnyT_first {i : Nat} {oi : Oper} {v : Value} (hi : ops[i]? = some oi) (hsel : ∀ (j : Nat) (o : Oper) cs b, ops[j]? = some o → o.op ≠ .select cs b)
    (hQ : ∀ c a w, Q (.panic c) (a.put oi.dst v) w → Q (.panic c) a w) {S' : World → Prop} (hSS : ∀ w, S w → S' w) (n : Nat) (hib : i ≠ b) (hor : reachB md ops n b i = true ∨ ops[b]? = none ∨ ∀ w, S' w) :
    ∀ (fuel : Nat) (listed : Array Bool) (a : Act) (w : World), Closed md ops listed →
      (∀ j oj, ops[j]? = some oj → j ≠ i → listed.getD j true = false → (∀ e ∈ oj.after, Region.binds md e = true → e.on ≠ i) → oi.apart ops oj = true) →
      i ∈ Region.ready md ops listed → YieldsIf P ops S' oi v a → S w →
      wpAnyT P md ops Q S b fuel (listed.setIfInBounds i true) (a.put oi.dst v) w → wpAnyT P md ops Q S b (fuel + 1) listed a w := by
  intro fuel
  induction fuel with
  | zero =>
    intro listed a w _ _ hr hy hS H
    refine ⟨fun h => (by rw [h] at hr; cases hr), fun j hj => ?_⟩
    by_cases hji : j = i
    · subst hji; exact hy.wpOp hi (hSS _ hS) (by rw [if_neg hib]; exact ⟨hS, H⟩)
    · have := ready_mono hj hji
      rw [H.1] at this
      cases this
  | succ fuel ih =>
    intro listed a w hcl hfree hr hy hS H
    refine ⟨fun h => (by rw [h] at hr; cases hr), fun j hj => ?_⟩
    by_cases hji : j = i
    · subst hji; exact hy.wpOp hi (hSS _ hS) (by rw [if_neg hib]; exact ⟨hS, H⟩)
    · have h1 := H.2 j (ready_mono hj hji)
      obtain ⟨hjun, oj, hoj, hall⟩ := mem_ready.1 hj
      have hiun := (mem_ready.1 hr).1
      have hnot : ∀ e ∈ oj.after, Region.binds md e = true → e.on ≠ i := fun e he hb heq => by
        have h1 := hall e he hb
        rw [heq] at h1
        rcases Nat.lt_or_ge i listed.size with h' | h'
        · simp [h'] at hiun h1; rw [hiun] at h1; cases h1
        · simp [Array.getElem?_eq_none h'] at h1
      have h2 := wpOp_putIf hoj (hfree j oj hoj hji hjun hnot) (fun cs b => hsel i oi cs b hi) (fun cs b => hsel j oj cs b hoj) hQ hy h1
      have hfree' : ∀ k ok, ops[k]? = some ok → k ≠ i → (listed.setIfInBounds j true).getD k true = false →
          (∀ e ∈ ok.after, Region.binds md e = true → e.on ≠ i) → oi.apart ops ok = true := fun k ok hk hki hun hno => by
        refine hfree k ok hk hki ?_ hno
        by_cases hjk : j = k
        · subst hjk; exact hjun
        · rw [getD_set_ne true hjk] at hun; exact hun
      refine wpOp_mono (fun a' w' h3 => ?_) h2
      by_cases e : j = b
      · rw [if_pos e] at h3 ⊢
        rcases hor with hre | hno | hall'
        · exfalso
          subst e
          have hl := reach_listed hcl n j i oj hoj hall hre
          rcases Nat.lt_or_ge i listed.size with h' | h'
          · simp [h'] at hiun hl; rw [hiun] at hl; cases hl
          · simp [Array.getElem?_eq_none h'] at hl
        · exfalso
          subst e
          rw [hno] at hoj
          cases hoj
        · refine wpAny_first hi hsel hQ (fuel + 0) (listed.setIfInBounds j true) a' w' hfree' (ready_mono hr (Ne.symm hji)) ?_ ?_
          · have hy3 := h3.1
            unfold YieldsIf at hy3
            unfold Yields
            exact hy3.imp (fun ⟨x, y⟩ => ⟨x, fun w => y w (hall' w)⟩) id
          · rw [Array.setIfInBounds_comm _ _ hji]
            exact h3.2
      · rw [if_neg e] at h3 ⊢
        refine ⟨h3.2.1, ih (listed.setIfInBounds j true) a' w' (hcl.set hj) hfree' (ready_mono hr (Ne.symm hji)) h3.1 h3.2.1 ?_⟩
        rw [Array.setIfInBounds_comm _ _ hji]
        exact h3.2.2
theorem closed_of_B {listed : Array Bool} (h : closedB md ops listed = true) : Closed md ops listed := fun j o ho hl => closed_spec h ho hl
/-- the beginning of a region -/
theorem region_any {id : Nat} {a : Act} {w : World} (hm : P.follows .mixedOrders = true)
    (h : wpAny P .any ops Q ops.size (Array.replicate ops.size false) a w.drew) : (Code.region id ops true).wp P Q a w := wp_region_any hm h
theorem bcell {W w1 : World} (hb : Below W.heap.size W w1) : (∀ b o, b < W.heap.size → w1.cell? ⟨b, o, none⟩ = W.cell? ⟨b, o, none⟩) ∧ (∀ b o, b < W.heap.size → w1.frozen? ⟨b, o, none⟩ = W.frozen? ⟨b, o, none⟩) ∧ (∀ b, b < W.heap.size → w1.heap[b]? = W.heap[b]?) :=
  ⟨fun b o h => hb.cell (p := ⟨b, o, none⟩) h, fun b o h => hb.frozen (p := ⟨b, o, none⟩) h, fun b h => hb.block b h⟩
abbrev Till (w : World) : World → Prop := fun w' => Below w.heap.size w w'
/-- a stage begins: till operation b all that is in the world now stays as it is -/
theorem stage (b : Nat) {fuel : Nat} {listed : Array Bool} {a : Act} {w : World} (h : wpAnyT P md ops Q (Till w) b fuel listed a w) : wpAny P md ops Q fuel listed a w := wpAny_of_T _ _ _ _ h
theorem stage_read {w : World} {i : Nat} {oi : Oper} {v : Value} {fuel : Nat} {listed : Array Bool} {a : Act} (hi : ops[i]? = some oi)
    (hs : Region.noSelect ops = true) (hf : Region.free md ops listed i = true) (hr : (Region.ready md ops listed).contains i = true) (hc : closedB md ops listed = true)
    (hib : (i == b) = false) (hre : (reachB md ops ops.size b i || decide (ops.size ≤ b)) = true)
    (hQ : ∀ c a w, Q (.panic c) (a.put oi.dst v) w → Q (.panic c) a w)
    (hy : (Region.wanted oi (yielded ops a.tmps) = true ∧ ∀ w', Below w.heap.size w w' → (execOp a.eval oi).run P w' = .ok (.value v) w') ∨ (Region.wanted oi (yielded ops a.tmps) = false ∧ v = undef))
    (h : wpAnyT P md ops Q (Till w) b fuel (listed.setIfInBounds i true) (a.put oi.dst v) w) : wpAnyT P md ops Q (Till w) b (fuel + 1) listed a w :=
  wpAnyT_first hi (Region.noSelect_spec hs) hQ (S' := Till w) (fun _ h => h) ops.size (by simpa using hib)
    (by
      rw [Bool.or_eq_true] at hre
      rcases hre with h | h
      · exact .inl h
      · exact .inr (.inl (Array.getElem?_eq_none (by simpa using h)))) fuel listed a w (closed_of_B hc) (Region.free_spec hi hf) (by simpa using hr)
    (hy.imp (fun ⟨x, y⟩ => ⟨x, fun w' e => y w' e⟩) id) (Below.refl _ _) h
theorem stage_pure {w : World} {i : Nat} {oi : Oper} {v : Value} {fuel : Nat} {listed : Array Bool} {a : Act} (hi : ops[i]? = some oi)
    (hs : Region.noSelect ops = true) (hf : Region.free md ops listed i = true) (hr : (Region.ready md ops listed).contains i = true) (hc : closedB md ops listed = true)
    (hib : (i == b) = false)
    (hQ : ∀ c a w, Q (.panic c) (a.put oi.dst v) w → Q (.panic c) a w)
    (hy : (Region.wanted oi (yielded ops a.tmps) = true ∧ ∀ w, (execOp a.eval oi).run P w = .ok (.value v) w) ∨ (Region.wanted oi (yielded ops a.tmps) = false ∧ v = undef))
    (h : wpAnyT P md ops Q (Till w) b fuel (listed.setIfInBounds i true) (a.put oi.dst v) w) : wpAnyT P md ops Q (Till w) b (fuel + 1) listed a w :=
  wpAnyT_first hi (Region.noSelect_spec hs) hQ (S' := fun _ => True) (fun _ _ => trivial) ops.size (by simpa using hib) (.inr (.inr fun _ => trivial)) fuel listed a w (closed_of_B hc) (Region.free_spec hi hf) (by simpa using hr)
    (hy.imp (fun ⟨x, y⟩ => ⟨x, fun w' _ => y w'⟩) id) (Below.refl _ _) h
/-- steps that are taken one behind the other: the list says which -/
def Tag (_ : List Nat) (p : Prop) : Prop := p
theorem tag (is : List Nat) {p : Prop} (h : Tag is p) : p := h
theorem tagN {p : Prop} (h : p) : Tag [] p := h
def okG (md : Region.Mode) (ops : Array Oper) (listed : Array Bool) (i b : Nat) : Bool :=
  Region.noSelect ops && Region.free md ops listed i && (Region.ready md ops listed).contains i && closedB md ops listed && !(i == b)
def okGR (md : Region.Mode) (ops : Array Oper) (listed : Array Bool) (i b : Nat) : Bool := okG md ops listed i b && (reachB md ops ops.size b i || decide (ops.size ≤ b))
def okGH (md : Region.Mode) (ops : Array Oper) (listed : Array Bool) (i : Nat) : Bool :=
  Region.noSelect ops && Region.free md ops listed i && (Region.ready md ops listed).contains i
theorem okG_spec {listed : Array Bool} {i b : Nat} (h : okG md ops listed i b = true) : Region.noSelect ops = true ∧ Region.free md ops listed i = true ∧ (Region.ready md ops listed).contains i = true ∧ closedB md ops listed = true ∧ (i == b) = false := by
  unfold okG at h
  simp only [Bool.and_eq_true, Bool.not_eq_true'] at h
  obtain ⟨⟨⟨⟨h1, h2⟩, h3⟩, h4⟩, h5⟩ := h
  exact ⟨h1, h2, h3, h4, h5⟩
theorem sR {is : List Nat} {w : World} {i : Nat} {oi : Oper} {v : Value} {fuel : Nat} {listed : Array Bool} {a : Act} (hi : ops[i]? = some oi) (hok : okGR md ops listed i b = true)
    (hQ : ∀ c a w, Q (.panic c) (a.put oi.dst v) w → Q (.panic c) a w)
    (hy : (Region.wanted oi (yielded ops a.tmps) = true ∧ ∀ w', Below w.heap.size w w' → (execOp a.eval oi).run P w' = .ok (.value v) w') ∨ (Region.wanted oi (yielded ops a.tmps) = false ∧ v = undef))
    (h : Tag is (wpAnyT P md ops Q (Till w) b fuel (listed.setIfInBounds i true) (a.put oi.dst v) w)) : Tag (i :: is) (wpAnyT P md ops Q (Till w) b (fuel + 1) listed a w) := by
  unfold okGR at hok
  rw [Bool.and_eq_true] at hok
  obtain ⟨h1, h2, h3, h4, h5⟩ := okG_spec hok.1
  exact stage_read hi h1 h2 h3 h4 h5 hok.2 hQ hy h
theorem sP {is : List Nat} {w : World} {i : Nat} {oi : Oper} {v : Value} {fuel : Nat} {listed : Array Bool} {a : Act} (hi : ops[i]? = some oi) (hok : okG md ops listed i b = true)
    (hQ : ∀ c a w, Q (.panic c) (a.put oi.dst v) w → Q (.panic c) a w)
    (hy : (Region.wanted oi (yielded ops a.tmps) = true ∧ ∀ w, (execOp a.eval oi).run P w = .ok (.value v) w) ∨ (Region.wanted oi (yielded ops a.tmps) = false ∧ v = undef))
    (h : Tag is (wpAnyT P md ops Q (Till w) b fuel (listed.setIfInBounds i true) (a.put oi.dst v) w)) : Tag (i :: is) (wpAnyT P md ops Q (Till w) b (fuel + 1) listed a w) := by
  obtain ⟨h1, h2, h3, h4, h5⟩ := okG_spec hok
  exact stage_pure hi h1 h2 h3 h4 h5 hQ hy h
theorem sH {is : List Nat} {w : World} {i : Nat} {oi : Oper} {v : Value} {fuel : Nat} {listed : Array Bool} {a : Act} (hi : ops[i]? = some oi) (hok : okGH md ops listed i = true)
    (hQ : ∀ c a w, Q (.panic c) (a.put oi.dst v) w → Q (.panic c) a w) (hy : YieldsIf P ops S oi v a) (hS : S w)
    (h : Tag is (wpAnyH P md ops Q S fuel (listed.setIfInBounds i true) (a.put oi.dst v) w)) : Tag (i :: is) (wpAnyH P md ops Q S (fuel + 1) listed a w) := by
  unfold okGH at hok
  simp only [Bool.and_eq_true] at hok
  obtain ⟨⟨h1, h2⟩, h3⟩ := hok
  exact wpAnyH_take hi h1 h2 h3 hQ hy hS h
theorem PT : (∀ (a : Act) (d : Tmp) (v : Value), a.put (some d) v = { a with tmps := a.tmps.setIfInBounds d v }) ∧ (∀ (a : Act) (v : Value), a.put none v = a) ∧
    (∀ (l : List Oper) (i : Nat) (h : i < l.toArray.size), l.toArray[i] = l[i]'h) ∧ (∀ (o : Oper) (l : List Oper) (i : Nat) (h : i + 1 < (o :: l).length), (o :: l)[i + 1]'h = l[i]'(Nat.lt_of_succ_lt_succ h)) ∧ (∀ (o : Oper) (l : List Oper) (h : 0 < (o :: l).length), (o :: l)[0]'h = o) ∧
    (∀ (α : Type) (l : List α) (i : Nat) (v : α), l.toArray.setIfInBounds i v = (l.set i v).toArray) ∧ (∀ (α : Type) (x : α) (l : List α) (v : α), (x :: l).set 0 v = v :: l) ∧ (∀ (α : Type) (x : α) (l : List α) (i : Nat) (v : α), (x :: l).set (i + 1) v = x :: l.set i v) :=
  ⟨fun _ _ _ => rfl, fun _ _ => rfl, fun _ _ _ => rfl, fun _ _ _ _ => rfl, fun _ _ _ => rfl, fun _ _ _ _ => List.setIfInBounds_toArray .., fun _ _ _ _ => rfl, fun _ _ _ _ _ => rfl⟩
theorem wpAnyT_mono {S' : World → Prop} (hm : ∀ w, S' w → S w) : ∀ (fuel : Nat) (listed : Array Bool) (a : Act) (w : World), wpAnyT P md ops Q S' b fuel listed a w → wpAnyT P md ops Q S b fuel listed a w
  | 0, _, _, _, h => h
  | fuel + 1, listed, a, w, h => ⟨h.1, fun i hi => wpOp_mono (fun a' w' h' => by
      by_cases e : i = b
      · rw [if_pos e] at h' ⊢; exact h'
      · rw [if_neg e] at h' ⊢; exact ⟨hm w' h'.1, wpAnyT_mono hm fuel _ a' w' h'.2⟩) (h.2 i hi)⟩
/-- the stage's last operation is run -/
theorem stage_end {w : World} {fuel : Nat} {listed : Array Bool} {a : Act} {o : Oper} (hr : Region.ready md ops listed = [b]) (ho : ops[b]? = some o)
    (h : ∀ K' : Act → World → Prop, Shut (∀ a w, wpAny P md ops Q fuel (listed.setIfInBounds b true) a w → K' a w) → if Region.wanted o (yielded ops a.tmps) = true then Oper.wp P o a w K' Q else K' (a.put o.dst undef) w) :
    wpAnyT P md ops Q S b (fuel + 1) listed a w := by
  refine ⟨fun h0 => (by rw [h0] at hr; cases hr), fun j hj => ?_⟩
  rw [hr] at hj
  obtain rfl : j = b := by simpa using hj
  exact wpOp_step ho fun K' hK => h K' fun a w hw => hK a w (by rw [if_pos rfl]; exact hw)
/-- an operation that makes memory of its own alone, the only one that may come up, is run -/
theorem stage_one (i : Nat) {w : World} {fuel : Nat} {listed : Array Bool} {a : Act} {o : Oper} (hr : Region.ready md ops listed = [i]) (ho : ops[i]? = some o) (hib : (i == b) = false)
    (h : ∀ K' : Act → World → Prop, Shut (∀ a w', Below w.heap.size w w' → wpAnyT P md ops Q (Till w') b fuel (listed.setIfInBounds i true) a w' → K' a w') → if Region.wanted o (yielded ops a.tmps) = true then Oper.wp P o a w K' Q else K' (a.put o.dst undef) w) :
    wpAnyT P md ops Q (Till w) b (fuel + 1) listed a w := by
  refine ⟨fun h0 => (by rw [h0] at hr; cases hr), fun j hj => ?_⟩
  rw [hr] at hj
  obtain rfl : j = i := by simpa using hj
  have hne : ¬ j = b := by simpa using hib
  exact wpOp_step ho fun K' hK => h K' fun a w' hb hw => hK a w' (by
    rw [if_neg hne]
    exact ⟨hb, wpAnyT_mono (fun w2 h2 => hb.trans (Below.mono h2 hb.size)) _ _ _ _ hw⟩)
/-- two operations that make memory of their own alone may come up -/
theorem stage_two (i j : Nat) {w : World} {fuel : Nat} {listed : Array Bool} {a : Act} {oi oj : Oper} (hr : Region.ready md ops listed = [i, j]) (hoi : ops[i]? = some oi) (hoj : ops[j]? = some oj) (hib : (i == b) = false) (hjb : (j == b) = false)
    (h1 : ∀ K' : Act → World → Prop, Shut (∀ a w', Below w.heap.size w w' → wpAnyT P md ops Q (Till w') b fuel (listed.setIfInBounds i true) a w' → K' a w') → if Region.wanted oi (yielded ops a.tmps) = true then Oper.wp P oi a w K' Q else K' (a.put oi.dst undef) w)
    (h2 : ∀ K' : Act → World → Prop, Shut (∀ a w', Below w.heap.size w w' → wpAnyT P md ops Q (Till w') b fuel (listed.setIfInBounds j true) a w' → K' a w') → if Region.wanted oj (yielded ops a.tmps) = true then Oper.wp P oj a w K' Q else K' (a.put oj.dst undef) w) :
    wpAnyT P md ops Q (Till w) b (fuel + 1) listed a w := by
  refine ⟨fun h0 => (by rw [h0] at hr; cases hr), fun k hk => ?_⟩
  rw [hr] at hk
  simp only [List.mem_cons, List.not_mem_nil, or_false] at hk
  have hi : ¬ i = b := by simpa using hib
  have hj : ¬ j = b := by simpa using hjb
  rcases hk with rfl | rfl
  · exact wpOp_step hoi fun K' hK => h1 K' fun a w' hb hw => hK a w' (by
      rw [if_neg hi]
      exact ⟨hb, wpAnyT_mono (fun w2 h2 => hb.trans (Below.mono h2 hb.size)) _ _ _ _ hw⟩)
  · exact wpOp_step hoj fun K' hK => h2 K' fun a w' hb hw => hK a w' (by
      rw [if_neg hj]
      exact ⟨hb, wpAnyT_mono (fun w2 h2 => hb.trans (Below.mono h2 hb.size)) _ _ _ _ hw⟩)
theorem wpAnyT_done {listed : Array Bool} {a : Act} {w : World} (hr : Region.ready md ops listed = []) (h : Q .normal a w) :
    ∀ fuel, wpAnyT P md ops Q S b fuel listed a w
  | 0 => ⟨hr, h⟩
  | _ + 1 => ⟨fun _ => h, by rw [hr]; simp⟩
end
end Go.Proofs.YtnkjekkdndjfaaaGreat
namespace Go.Proofs.YtnkjekkdndjfaaaGreat
set_option linter.unusedSimpArgs false
set_option linter.unusedVariables false
open Go.RowKit
/-- block g holds just these cells -/
def At (w : World) (g : Nat) (t : TypeId) (cs : List Value) : Prop := w.heap[g]? = some (.cells cs.toArray t)
section
variable {w w' : World} {g g' i B : Nat} {t t' : TypeId} {cs cs' : List Value}
theorem At.lt (h : At w g t cs) : g < w.heap.size := (Array.getElem?_eq_some_iff.1 h).1
theorem At.below (h : At w g t cs) (hb : Below w.heap.size w w') : At w' g t cs := (hb.block g h.lt).trans h
theorem At.under (h : At w g t cs) (hb : Below B w w') (hg : g < B) : At w' g t cs := (hb.block g hg).trans h
theorem At.drew (h : At w g t cs) : At w.drew g t cs := h
theorem At.drewN (h : At w g t cs) (k : Nat) : At (w.drewN k) g t cs := h
theorem At.alloc (h : At w g t cs) (o : Obj) : At (w.alloc o) g t cs := h.below ((Below.refl _ _).alloc (Nat.le_refl _) o)
theorem At.new (w : World) (t : TypeId) (cs : List Value) : At (w.alloc (.cells cs.toArray t)) w.heap.size t cs := heap_alloc_new w _
theorem At.ne (h : At w g t cs) (h' : At w g' t' cs') (hne : t ≠ t') : g ≠ g' := by
  intro e
  subst e
  unfold At at h h'
  rw [h] at h'
  injection h' with h'
  injection h' with _ e
  exact hne e
theorem At.only (h : At w g t cs) (hG : w.grownBy w' (some g')) (hne : g ≠ g') : At w' g t cs := (hG.block g h.lt (fun e => hne (by injection e))).trans h
theorem At.row (h : At w g t cs) {row : Option Nat} (hG : w.grownBy w' row) (hne : row ≠ some g) : At w' g t cs := (hG.block g h.lt (fun e => hne e.symm)).trans h
theorem At.set (h : At w g t cs) (i : Nat) (v : Value) : At (w.setCell ⟨g, i, none⟩ v) g t (cs.set i v) := by
  unfold At at *
  simp [World.setCell, Array.getElem?_modify, h]
theorem grown_set (w : World) (g i : Nat) (v : Value) : w.grownBy (w.setCell ⟨g, i, none⟩ v) (some g) :=
  ⟨rfl, rfl, rfl, by simp [World.setCell], fun k _ hne => Below.heap_setCell w ⟨g, i, none⟩ v k (fun e => hne (by rw [e]))⟩
theorem At.cell (h : At w g t cs) (i : Nat) : w.cell? ⟨g, i, none⟩ = cs[i]? := by
  unfold At at h
  simp [World.cell?, h]
theorem At.frozen (h : At w g t cs) (i : Nat) : w.frozen? ⟨g, i, none⟩ = false := by
  unfold At at h
  simp [World.frozen?, h]
theorem grown_trans {a b c : World} {row : Option Nat} (h : a.grownBy b row) (k : b.grownBy c row) : a.grownBy c row :=
  ⟨k.os.trans h.os, k.tape.trans h.tape, k.output.trans h.output, Nat.le_trans h.size k.size, fun i hi hne => (k.block i (Nat.lt_of_lt_of_le hi h.size) hne).trans (h.block i hi hne)⟩
theorem grown_alloc' (w : World) (o : Obj) (g : Option Nat) : w.grownBy (w.alloc o) g := by
  have hb := (Below.refl w.heap.size w).alloc (Nat.le_refl _) o
  exact ⟨hb.os, hb.tape, hb.output, hb.size, fun k hk _ => hb.block k hk⟩
theorem grown_below {w w' : World} (hb : Below w.heap.size w w') (g : Option Nat) : w.grownBy w' g := ⟨hb.os, hb.tape, hb.output, hb.size, fun k hk _ => hb.block k hk⟩
end
theorem one_at (w : World) (t : TypeId) (cs : List Value) : At (w.alloc (.cells cs.toArray t)) w.heap.size t cs ∧ Below w.heap.size w (w.alloc (.cells cs.toArray t)) := ⟨At.new w t cs, (Below.refl _ _).alloc (Nat.le_refl _) _⟩
theorem two_at (w : World) (t : TypeId) (cs : List Value) (t' : TypeId) (cs' : List Value) : At ((w.alloc (.cells cs.toArray t)).alloc (.cells cs'.toArray t')) w.heap.size t cs ∧ At ((w.alloc (.cells cs.toArray t)).alloc (.cells cs'.toArray t')) (w.heap.size + 1) t' cs' ∧ Below w.heap.size w ((w.alloc (.cells cs.toArray t)).alloc (.cells cs'.toArray t')) := by
  refine ⟨(At.new w t cs).alloc _, ?_, ((Below.refl _ _).alloc (Nat.le_refl _) _).alloc (by simp) _⟩
  have := At.new (w.alloc (.cells cs.toArray t)) t' cs'
  simpa using this
theorem three_at (w : World) (t : TypeId) (cs : List Value) (t' : TypeId) (cs' : List Value) (t2 : TypeId) (cs2 : List Value) : At (((w.alloc (.cells cs.toArray t)).alloc (.cells cs'.toArray t')).alloc (.cells cs2.toArray t2)) w.heap.size t cs ∧ At (((w.alloc (.cells cs.toArray t)).alloc (.cells cs'.toArray t')).alloc (.cells cs2.toArray t2)) (w.heap.size + 1) t' cs' ∧ At (((w.alloc (.cells cs.toArray t)).alloc (.cells cs'.toArray t')).alloc (.cells cs2.toArray t2)) (w.heap.size + 1 + 1) t2 cs2 ∧ Below w.heap.size w (((w.alloc (.cells cs.toArray t)).alloc (.cells cs'.toArray t')).alloc (.cells cs2.toArray t2)) := by
  obtain ⟨h1, h2, h3⟩ := two_at w t cs t' cs'
  refine ⟨h1.alloc _, h2.alloc _, ?_, h3.alloc h3.size _⟩
  have := At.new ((w.alloc (.cells cs.toArray t)).alloc (.cells cs'.toArray t')) t2 cs2
  simpa using this
def setMany (w : World) (g : Nat) : List (Nat × Value) → World
  | [] => w
  | (i, v) :: l => setMany (w.setCell ⟨g, i, none⟩ v) g l
def setL (cs : List Value) : List (Nat × Value) → List Value
  | [] => cs
  | (i, v) :: l => setL (cs.set i v) l
theorem At.many {g : Nat} {t : TypeId} : ∀ (l : List (Nat × Value)) {w : World} {cs : List Value}, At w g t cs → At (setMany w g l) g t (setL cs l) ∧ w.grownBy (setMany w g l) (some g)
  | [], w, _, h => ⟨h, World.grownBy.refl w _⟩
  | (i, v) :: l, w, _, h => ⟨(At.many l (h.set i v)).1, grown_trans (grown_set w g i v) (At.many l (h.set i v)).2⟩
theorem at1 {w : World} {g : Nat} {t : TypeId} {x0 : Value} (h : At w g t [x0]) :
    (w.cell? ⟨g, 0, none⟩ = some x0) ∧ (w.frozen? ⟨g, 0, none⟩ = false) := by
  exact ⟨h.cell 0, h.frozen 0⟩
theorem at2 {w : World} {g : Nat} {t : TypeId} {x0 x1 : Value} (h : At w g t [x0, x1]) :
    (w.cell? ⟨g, 0, none⟩ = some x0 ∧ w.cell? ⟨g, 1, none⟩ = some x1) ∧ (w.frozen? ⟨g, 0, none⟩ = false ∧ w.frozen? ⟨g, 1, none⟩ = false) := by
  exact ⟨⟨h.cell 0, h.cell 1⟩, ⟨h.frozen 0, h.frozen 1⟩⟩
theorem at3 {w : World} {g : Nat} {t : TypeId} {x0 x1 x2 : Value} (h : At w g t [x0, x1, x2]) :
    (w.cell? ⟨g, 0, none⟩ = some x0 ∧ w.cell? ⟨g, 1, none⟩ = some x1 ∧ w.cell? ⟨g, 2, none⟩ = some x2) ∧ (w.frozen? ⟨g, 0, none⟩ = false ∧ w.frozen? ⟨g, 1, none⟩ = false ∧ w.frozen? ⟨g, 2, none⟩ = false) := by
  exact ⟨⟨h.cell 0, h.cell 1, h.cell 2⟩, ⟨h.frozen 0, h.frozen 1, h.frozen 2⟩⟩
theorem at4 {w : World} {g : Nat} {t : TypeId} {x0 x1 x2 x3 : Value} (h : At w g t [x0, x1, x2, x3]) :
    (w.cell? ⟨g, 0, none⟩ = some x0 ∧ w.cell? ⟨g, 1, none⟩ = some x1 ∧ w.cell? ⟨g, 2, none⟩ = some x2 ∧ w.cell? ⟨g, 3, none⟩ = some x3) ∧ (w.frozen? ⟨g, 0, none⟩ = false ∧ w.frozen? ⟨g, 1, none⟩ = false ∧ w.frozen? ⟨g, 2, none⟩ = false ∧ w.frozen? ⟨g, 3, none⟩ = false) := by
  exact ⟨⟨h.cell 0, h.cell 1, h.cell 2, h.cell 3⟩, ⟨h.frozen 0, h.frozen 1, h.frozen 2, h.frozen 3⟩⟩
theorem at5 {w : World} {g : Nat} {t : TypeId} {x0 x1 x2 x3 x4 : Value} (h : At w g t [x0, x1, x2, x3, x4]) :
    (w.cell? ⟨g, 0, none⟩ = some x0 ∧ w.cell? ⟨g, 1, none⟩ = some x1 ∧ w.cell? ⟨g, 2, none⟩ = some x2 ∧ w.cell? ⟨g, 3, none⟩ = some x3 ∧ w.cell? ⟨g, 4, none⟩ = some x4) ∧ (w.frozen? ⟨g, 0, none⟩ = false ∧ w.frozen? ⟨g, 1, none⟩ = false ∧ w.frozen? ⟨g, 2, none⟩ = false ∧ w.frozen? ⟨g, 3, none⟩ = false ∧ w.frozen? ⟨g, 4, none⟩ = false) := by
  exact ⟨⟨h.cell 0, h.cell 1, h.cell 2, h.cell 3, h.cell 4⟩, ⟨h.frozen 0, h.frozen 1, h.frozen 2, h.frozen 3, h.frozen 4⟩⟩
theorem at6 {w : World} {g : Nat} {t : TypeId} {x0 x1 x2 x3 x4 x5 : Value} (h : At w g t [x0, x1, x2, x3, x4, x5]) :
    (w.cell? ⟨g, 0, none⟩ = some x0 ∧ w.cell? ⟨g, 1, none⟩ = some x1 ∧ w.cell? ⟨g, 2, none⟩ = some x2 ∧ w.cell? ⟨g, 3, none⟩ = some x3 ∧ w.cell? ⟨g, 4, none⟩ = some x4 ∧ w.cell? ⟨g, 5, none⟩ = some x5) ∧ (w.frozen? ⟨g, 0, none⟩ = false ∧ w.frozen? ⟨g, 1, none⟩ = false ∧ w.frozen? ⟨g, 2, none⟩ = false ∧ w.frozen? ⟨g, 3, none⟩ = false ∧ w.frozen? ⟨g, 4, none⟩ = false ∧ w.frozen? ⟨g, 5, none⟩ = false) := by
  exact ⟨⟨h.cell 0, h.cell 1, h.cell 2, h.cell 3, h.cell 4, h.cell 5⟩, ⟨h.frozen 0, h.frozen 1, h.frozen 2, h.frozen 3, h.frozen 4, h.frozen 5⟩⟩
theorem at7 {w : World} {g : Nat} {t : TypeId} {x0 x1 x2 x3 x4 x5 x6 : Value} (h : At w g t [x0, x1, x2, x3, x4, x5, x6]) :
    (w.cell? ⟨g, 0, none⟩ = some x0 ∧ w.cell? ⟨g, 1, none⟩ = some x1 ∧ w.cell? ⟨g, 2, none⟩ = some x2 ∧ w.cell? ⟨g, 3, none⟩ = some x3 ∧ w.cell? ⟨g, 4, none⟩ = some x4 ∧ w.cell? ⟨g, 5, none⟩ = some x5 ∧ w.cell? ⟨g, 6, none⟩ = some x6) ∧ (w.frozen? ⟨g, 0, none⟩ = false ∧ w.frozen? ⟨g, 1, none⟩ = false ∧ w.frozen? ⟨g, 2, none⟩ = false ∧ w.frozen? ⟨g, 3, none⟩ = false ∧ w.frozen? ⟨g, 4, none⟩ = false ∧ w.frozen? ⟨g, 5, none⟩ = false ∧ w.frozen? ⟨g, 6, none⟩ = false) := by
  exact ⟨⟨h.cell 0, h.cell 1, h.cell 2, h.cell 3, h.cell 4, h.cell 5, h.cell 6⟩, ⟨h.frozen 0, h.frozen 1, h.frozen 2, h.frozen 3, h.frozen 4, h.frozen 5, h.frozen 6⟩⟩
theorem at8 {w : World} {g : Nat} {t : TypeId} {x0 x1 x2 x3 x4 x5 x6 x7 : Value} (h : At w g t [x0, x1, x2, x3, x4, x5, x6, x7]) :
    (w.cell? ⟨g, 0, none⟩ = some x0 ∧ w.cell? ⟨g, 1, none⟩ = some x1 ∧ w.cell? ⟨g, 2, none⟩ = some x2 ∧ w.cell? ⟨g, 3, none⟩ = some x3 ∧ w.cell? ⟨g, 4, none⟩ = some x4 ∧ w.cell? ⟨g, 5, none⟩ = some x5 ∧ w.cell? ⟨g, 6, none⟩ = some x6 ∧ w.cell? ⟨g, 7, none⟩ = some x7) ∧ (w.frozen? ⟨g, 0, none⟩ = false ∧ w.frozen? ⟨g, 1, none⟩ = false ∧ w.frozen? ⟨g, 2, none⟩ = false ∧ w.frozen? ⟨g, 3, none⟩ = false ∧ w.frozen? ⟨g, 4, none⟩ = false ∧ w.frozen? ⟨g, 5, none⟩ = false ∧ w.frozen? ⟨g, 6, none⟩ = false ∧ w.frozen? ⟨g, 7, none⟩ = false) := by
  exact ⟨⟨h.cell 0, h.cell 1, h.cell 2, h.cell 3, h.cell 4, h.cell 5, h.cell 6, h.cell 7⟩, ⟨h.frozen 0, h.frozen 1, h.frozen 2, h.frozen 3, h.frozen 4, h.frozen 5, h.frozen 6, h.frozen 7⟩⟩
theorem at9 {w : World} {g : Nat} {t : TypeId} {x0 x1 x2 x3 x4 x5 x6 x7 x8 : Value} (h : At w g t [x0, x1, x2, x3, x4, x5, x6, x7, x8]) :
    (w.cell? ⟨g, 0, none⟩ = some x0 ∧ w.cell? ⟨g, 1, none⟩ = some x1 ∧ w.cell? ⟨g, 2, none⟩ = some x2 ∧ w.cell? ⟨g, 3, none⟩ = some x3 ∧ w.cell? ⟨g, 4, none⟩ = some x4 ∧ w.cell? ⟨g, 5, none⟩ = some x5 ∧ w.cell? ⟨g, 6, none⟩ = some x6 ∧ w.cell? ⟨g, 7, none⟩ = some x7 ∧ w.cell? ⟨g, 8, none⟩ = some x8) ∧ (w.frozen? ⟨g, 0, none⟩ = false ∧ w.frozen? ⟨g, 1, none⟩ = false ∧ w.frozen? ⟨g, 2, none⟩ = false ∧ w.frozen? ⟨g, 3, none⟩ = false ∧ w.frozen? ⟨g, 4, none⟩ = false ∧ w.frozen? ⟨g, 5, none⟩ = false ∧ w.frozen? ⟨g, 6, none⟩ = false ∧ w.frozen? ⟨g, 7, none⟩ = false ∧ w.frozen? ⟨g, 8, none⟩ = false) := by
  exact ⟨⟨h.cell 0, h.cell 1, h.cell 2, h.cell 3, h.cell 4, h.cell 5, h.cell 6, h.cell 7, h.cell 8⟩, ⟨h.frozen 0, h.frozen 1, h.frozen 2, h.frozen 3, h.frozen 4, h.frozen 5, h.frozen 6, h.frozen 7, h.frozen 8⟩⟩
theorem at10 {w : World} {g : Nat} {t : TypeId} {x0 x1 x2 x3 x4 x5 x6 x7 x8 x9 : Value} (h : At w g t [x0, x1, x2, x3, x4, x5, x6, x7, x8, x9]) :
    (w.cell? ⟨g, 0, none⟩ = some x0 ∧ w.cell? ⟨g, 1, none⟩ = some x1 ∧ w.cell? ⟨g, 2, none⟩ = some x2 ∧ w.cell? ⟨g, 3, none⟩ = some x3 ∧ w.cell? ⟨g, 4, none⟩ = some x4 ∧ w.cell? ⟨g, 5, none⟩ = some x5 ∧ w.cell? ⟨g, 6, none⟩ = some x6 ∧ w.cell? ⟨g, 7, none⟩ = some x7 ∧ w.cell? ⟨g, 8, none⟩ = some x8 ∧ w.cell? ⟨g, 9, none⟩ = some x9) ∧ (w.frozen? ⟨g, 0, none⟩ = false ∧ w.frozen? ⟨g, 1, none⟩ = false ∧ w.frozen? ⟨g, 2, none⟩ = false ∧ w.frozen? ⟨g, 3, none⟩ = false ∧ w.frozen? ⟨g, 4, none⟩ = false ∧ w.frozen? ⟨g, 5, none⟩ = false ∧ w.frozen? ⟨g, 6, none⟩ = false ∧ w.frozen? ⟨g, 7, none⟩ = false ∧ w.frozen? ⟨g, 8, none⟩ = false ∧ w.frozen? ⟨g, 9, none⟩ = false) := by
  exact ⟨⟨h.cell 0, h.cell 1, h.cell 2, h.cell 3, h.cell 4, h.cell 5, h.cell 6, h.cell 7, h.cell 8, h.cell 9⟩, ⟨h.frozen 0, h.frozen 1, h.frozen 2, h.frozen 3, h.frozen 4, h.frozen 5, h.frozen 6, h.frozen 7, h.frozen 8, h.frozen 9⟩⟩
/-- append, as one operation -/
theorem oper_app {P : Program} (w : World) {o : Oper} {a : Act} {K : Act → World → Prop} {Q : Exit → Act → World → Prop} (s x : Operand) (t : TypeId)
    (ho : o.op = .call { callee := .builtin .append, args := #[s, x], argTypes := #[t, t] })
    (base : Nat) (e : TypeId) (i : TypeInfo) (z : Value) (size bytes : Nat) (ht : P.underlying t = some (.slice e)) (hi : P.info? e = some i) (hz : i.zero = some z)
    (hsize : i.size = size) (hby : i.bytes = bytes) (hzs : z.cells.size = size) (hsz : 0 < size)
    (A' : Option Addr) (n c' : Nat) (xs : List Value) (hs : a.eval s = .slice A' n c') (hown : w.ownsRow base e size (.slice A' n c') n xs)
    (B : Nat) (A : Option Addr) (m c : Nat) (news : List Value) (hx : a.eval x = .slice A m c) (hr : Rd w B size A m c news) (h1 : ∀ u ∈ news, u.oneCell' = true)
    (hbytes : (n + m) * bytes ≤ 140737488355328) (h63 : n + m ≤ maxLen) (hbase : base ≤ w.heap.size)
    (h : ∀ A2 c2 w', w'.ownsRow base e size (.slice A2 (n + m) c2) (n + m) (xs ++ news) → w.grownBy w' (Value.slice A' n c').ownBlock →
      ((Value.slice A2 (n + m) c2).ownBlock = (Value.slice A' n c').ownBlock ∨ (Value.slice A2 (n + m) c2).ownBlock = some w.heap.size) →
      (Value.slice A2 (n + m) c2 = .slice none 0 0 ↔ Value.slice A' n c' = .slice none 0 0 ∧ m = 0) → K (a.put o.dst (.slice A2 (n + m) c2)) w') : Oper.wp P o a w K Q := by
  obtain ⟨A2, c2, w', hrun, h2, h3, h4, h5⟩ := run_app (P := P) w base t o.type e i z size bytes ht hi hz hsize hby hzs hsz A' n c' xs hown B A m c news hr h1 hbytes h63 hbase
  unfold Oper.wp execOp
  simp only [ho, resolve, invoke, builtin, Sem.run_bind, Sem.run_pure, Result.andThen_ok, List.map_toArray, List.map_cons, List.map_nil, hs, hx, hrun]
  exact h A2 c2 w' h2 h3 h4 h5
/-- a block just made reads as its cells -/
theorem Rd.lit {w : World} {t : TypeId} {s n : Nat} {cs : List Value} (hl : cs.length = n * s) (hn : n ≤ maxLen) (hs : 0 < s) : Rd (w.alloc (.cells cs.toArray t)) (w.heap.size + 1) s (some ⟨w.heap.size, 0, none⟩) n n cs := by
  refine ⟨hl, Nat.le_refl _, hn, fun h0 => ⟨_, 0, rfl, by omega, fun j u hu => ?_⟩⟩
  rw [Nat.zero_add, (At.new w t cs).cell j]
  exact hu
/-- only what M says may have been turned; new blocks may be there -/
structure Mod (M : Nat → Obj → Prop) (w w' : World) : Prop where
  os : w'.os = w.os
  tape : w'.tape = w.tape
  output : w'.output = w.output
  size : w.heap.size ≤ w'.heap.size
  block : ∀ k o, w.heap[k]? = some o → ¬ M k o → w'.heap[k]? = some o
section
variable {M N : Nat → Obj → Prop} {w w' w'' : World} {B g : Nat} {t : TypeId} {cs : List Value}
theorem Mod.refl (M) (w : World) : Mod M w w := ⟨rfl, rfl, rfl, Nat.le_refl _, fun _ _ h _ => h⟩
theorem Mod.drew (h : Mod M w w') : Mod M w w'.drew := ⟨h.os, h.tape, h.output, h.size, h.block⟩
theorem Mod.drewN (h : Mod M w w') (n : Nat) : Mod M w (w'.drewN n) := ⟨h.os, h.tape, h.output, h.size, h.block⟩
/-- a step more -/
theorem Mod.step (h : Mod M w w') (k : Mod N w' w'') (hN : ∀ i o, i < w.heap.size → w.heap[i]? = some o → N i o → M i o) : Mod M w w'' :=
  ⟨k.os.trans h.os, k.tape.trans h.tape, k.output.trans h.output, Nat.le_trans h.size k.size, fun i o ho hM => k.block i o (h.block i o ho hM) fun hn => hM (hN i o (Array.getElem?_eq_some_iff.1 ho).1 ho hn)⟩
theorem Mod.mono (h : Mod N w w') (hN : ∀ i o, i < w.heap.size → w.heap[i]? = some o → N i o → M i o) : Mod M w w' := (Mod.refl M w).step h hN
theorem Mod.trans (h : Mod M w w') (k : Mod M w' w'') : Mod M w w'' := h.step k fun _ _ _ _ h => h
theorem Mod.below (h : Mod M w w') (k : Below w'.heap.size w' w'') : Mod M w w'' :=
  h.step (N := fun i _ => w'.heap.size ≤ i) ⟨k.os, k.tape, k.output, k.size, fun i o ho hN => (k.block i (by omega)).trans ho⟩ fun i o hi ho hN => absurd hN (by have := h.size; omega)
theorem Mod.grown (h : Mod M w w') {row : Option Nat} (k : w'.grownBy w'' row) (hr : ∀ i o, i < w.heap.size → w.heap[i]? = some o → row = some i → M i o) : Mod M w w'' :=
  h.step (N := fun i _ => row = some i) ⟨k.os, k.tape, k.output, k.size, fun i o ho hN => (k.block i (Array.getElem?_eq_some_iff.1 ho).1 fun e => hN e.symm).trans ho⟩ hr
theorem Mod.alloc (h : Mod M w w') (o : Obj) : Mod M w (w'.alloc o) := h.below ((Below.refl _ _).alloc (Nat.le_refl _) o)
theorem Mod.at (h : Mod M w w') (k : At w g t cs) (hM : ¬ M g (.cells cs.toArray t)) : At w' g t cs := h.block g _ k hM
theorem Mod.toBelow (h : Mod M w w') (hM : ∀ i o, i < B → ¬ M i o) (hB : B ≤ w.heap.size) : Below B w w' :=
  ⟨h.os, h.tape, h.output, h.size, fun i hi => by
    have hl : i < w.heap.size := by omega
    rw [Array.getElem?_eq_getElem hl]
    exact h.block i _ (Array.getElem?_eq_getElem hl) (hM i _ hi)⟩
theorem Mod.of_below (h : Below B w w') (hB : B ≤ w.heap.size) : Mod (fun i _ => B ≤ i) w w' :=
  ⟨h.os, h.tape, h.output, h.size, fun i o ho hN => (h.block i (by omega)).trans ho⟩
end
theorem grown_mod {w w' : World} {row : Option Nat} (k : w.grownBy w' row) : Mod (fun i _ => row = some i) w w' :=
  ⟨k.os, k.tape, k.output, k.size, fun i o ho hN => (k.block i (Array.getElem?_eq_some_iff.1 ho).1 fun e => hN e.symm).trans ho⟩
/-- is a block a row of such elements? -/
def IsT (t : TypeId) : Obj → Prop
  | .cells _ t' _ => t' = t
  | _ => False
/-- the block in which a row of the call's own lies has its elements' type -/
theorem own_isT {w : World} {base s n : Nat} {e : TypeId} {v : Value} {xs : List Value} (h : w.ownsRow base e s v n xs) {i : Nat} {o : Obj} (hi : v.ownBlock = some i) (ho : w.heap[i]? = some o) : base ≤ i ∧ IsT e o := by
  rcases h.2 with ⟨hv, h0⟩ | ⟨g, cap, cur, hv, hb, hg, _⟩
  · rw [hv] at hi
    simp [Value.ownBlock] at hi
  · rw [hv] at hi
    simp [Value.ownBlock] at hi
    subst hi
    rw [hg] at ho
    injection ho with ho
    subst ho
    exact ⟨hb, rfl⟩
theorem own_ge {w : World} {base s n : Nat} {e : TypeId} {v : Value} {xs : List Value} (h : w.ownsRow base e s v n xs) {i : Nat} (hi : v.ownBlock = some i) : base ≤ i := by
  rcases h.2 with ⟨hv, h0⟩ | ⟨g, cap, cur, hv, hb, hg, _⟩
  · rw [hv] at hi
    simp [Value.ownBlock] at hi
  · rw [hv] at hi
    simp [Value.ownBlock] at hi
    omega
theorem own_mod {w w' : World} {M : Nat → Obj → Prop} {base s n : Nat} {e : TypeId} {v : Value} {xs : List Value} (h : w.ownsRow base e s v n xs) (hm : Mod M w w') (hM : ∀ i o, w.heap[i]? = some o → base ≤ i → IsT e o → ¬ M i o) : w'.ownsRow base e s v n xs := by
  refine ⟨h.1, ?_⟩
  rcases h.2 with h2 | ⟨g, cap, cur, e1, e2, e3, e4⟩
  · exact .inl h2
  · exact .inr ⟨g, cap, cur, e1, e2, hm.block _ _ e3 (hM _ _ e3 e2 rfl), e4⟩
theorem Rd.mod {w w' : World} {M : Nat → Obj → Prop} {B s n c : Nat} {A : Option Addr} {xs : List Value} (h : Rd w B s A n c xs) (hm : Mod M w w') (hM : ∀ i o, i < B → ¬ M i o) : Rd w' B s A n c xs := by
  refine ⟨h.len, h.le, h.max, fun hc => ?_⟩
  obtain ⟨g, off, e, hg, hcell⟩ := h.cells hc
  refine ⟨g, off, e, hg, fun j u hu => ?_⟩
  have h1 := hcell j u hu
  have hlt := World.block_lt_of_cell? w _ h1
  have h2 := hm.block g _ (Array.getElem?_eq_getElem hlt) (hM _ _ hg)
  rw [World.cell?_of_block (h2.trans (Array.getElem?_eq_getElem hlt).symm)]
  exact h1
theorem At.own {w w' : World} {g b s n : Nat} {t e : TypeId} {cs xs : List Value} {v : Value} (h : At w g t cs) (hown : w.ownsRow b e s v n xs) (hG : w.grownBy w' v.ownBlock) (hne : t ≠ e) : At w' g t cs :=
  h.row hG fun hi => hne ((own_isT hown hi h).2)
theorem isT_uniq {t t' : TypeId} {o : Obj} (h : IsT t o) (k : IsT t' o) : t = t' := by
  cases o <;> first | exact h.symm.trans k | exact h.elim
theorem isT_at {w : World} {t t' : TypeId} {g : Nat} {cs : List Value} (h : At w g t cs) {i : Nat} {o : Obj} (ho : w.heap[i]? = some o) (hit : IsT t' o) (hne : t' ≠ t) : ¬ i = g := by
  intro e
  subst e
  unfold At at h
  rw [h] at ho
  injection ho with ho
  subst ho
  exact hne hit.symm
end Go.Proofs.YtnkjekkdndjfaaaGreat
namespace Go.Proofs.YtnkjekkdndjfaaaGreat
set_option linter.unusedVariables false
set_option linter.unusedSimpArgs false
open Go.RowKit
theorem calls_id {P : Program} {f : FuncId} {args : Array Value} {w : World} {Q : Ending → World → Prop} (h : Calls P f args w Q) : Calls P f args w Q := h
theorem Rd.step {w w' : World} {s n c : Nat} {A : Option Addr} {xs : List Value} (h : Rd w w.heap.size s A n c xs) (hb : Below w.heap.size w w') : Rd w' w'.heap.size s A n c xs := (Rd.below h hb).more hb.size
theorem At.step {w w' : World} {g : Nat} {t : TypeId} {cs : List Value} (h : At w g t cs) (hb : Below w.heap.size w w') : At w' g t cs := h.below hb
theorem own_below {w w' : World} {base s n : Nat} {e : TypeId} {v : Value} {xs : List Value} (h : w.ownsRow base e s v n xs) (hb : Below w.heap.size w w') : w'.ownsRow base e s v n xs := own_mod h ((Mod.refl (fun _ _ => False) w).below hb) (by simp)
theorem own_lower {w : World} {base base' s n : Nat} {e : TypeId} {v : Value} {xs : List Value} (h : w.ownsRow base e s v n xs) (hb : base' ≤ base) : w.ownsRow base' e s v n xs := by
  obtain ⟨h1, h2⟩ := h
  refine ⟨h1, ?_⟩
  rcases h2 with h0 | ⟨g, cap, cur, k1, k2, k3, k4⟩
  · exact .inl h0
  · exact .inr ⟨g, cap, cur, k1, Nat.le_trans hb k2, k3, k4⟩
theorem below_mod {B : Nat} {w w' : World} {M : Nat → Obj → Prop} (h : Mod M w w') (hM : ∀ i o, i < B → ¬ M i o) (hB : B ≤ w.heap.size) : Below B w w' := h.toBelow hM hB
end Go.Proofs.YtnkjekkdndjfaaaGreat
