
/- A region that draws its order, stage by stage: what is known of the world holds till one operation, the stage's last. No program is named here. -/
import Derived.Test.YtmoijbknjadeeaaRegion
namespace Go.Proofs.Ytmoijbknjadeeaa
set_option linter.unusedSimpArgs false
set_option linter.unusedVariables false
open Go.RowKit
section
variable {P : Program} {ops : Array Oper} {Q : Exit → Act → World → Prop} {md : Region.Mode} {S : World → Prop} {b : Nat}
def wpAnyT (P : Program) (md : Region.Mode) (ops : Array Oper) (Q : Exit → Act → World → Prop) (S : World → Prop) (b : Nat) : Nat → Array Bool → Act → World → Prop
  | 0, listed, a, w => Region.ready md ops listed = [] ∧ Q .normal a w
  | fuel + 1, listed, a, w =>
    (Region.ready md ops listed = [] → Q .normal a w) ∧
    ∀ i ∈ Region.ready md ops listed, wpOp P ops Q i (fun a' w' => if i = b then wpAny P md ops Q fuel (listed.setIfInBounds i true) a' w' else S w' ∧ wpAnyT P md ops Q S b fuel (listed.setIfInBounds i true) a' w') a w
theorem wpAny_of_T : ∀ (fuel : Nat) (listed : Array Bool) (a : Act) (w : World), wpAnyT P md ops Q S b fuel listed a w → wpAny P md ops Q fuel listed a w
  | 0, _, _, _, h => h
  | fuel + 1, _, _, _, h => ⟨h.1, fun i hi => wpOp_mono (fun a' w' h' => by
      by_cases e : i = b
      · rw [if_pos e] at h'; exact h'
      · rw [if_neg e] at h'; exact wpAny_of_T fuel _ a' w' h'.2) (h.2 i hi)⟩
/-- what has been listed has behind it all that it waited for -/
def closedB (md : Region.Mode) (ops : Array Oper) (listed : Array Bool) : Bool :=
  (List.range ops.size).all fun j => !listed.getD j false || ((ops[j]?).map (·.after.all fun e => !Region.binds md e || listed.getD e.on false)).getD true
def reachB (md : Region.Mode) (ops : Array Oper) : Nat → Nat → Nat → Bool
  | 0, _, _ => false
  | n + 1, j, i => ((ops[j]?).map (·.after.any fun e => Region.binds md e && (e.on == i || reachB md ops n e.on i))).getD false
theorem closed_spec {listed : Array Bool} (h : closedB md ops listed = true) {j : Nat} {o : Oper} (ho : ops[j]? = some o) (hl : listed.getD j false = true) : ∀ e ∈ o.after, Region.binds md e = true → listed.getD e.on false = true := by
  intro e he hb
  have h1 := List.all_eq_true.1 h j (List.mem_range.2 (Array.getElem?_eq_some_iff.1 ho).1)
  rw [hl, ho] at h1
  simp only [Bool.not_true, Bool.false_or, Option.map_some, Option.getD_some] at h1
  have h2 := Array.all_eq_true_iff_forall_mem.1 h1 e he
  rw [hb] at h2
  simpa using h2
theorem reach_listed {listed : Array Bool} (hc : ∀ j o, ops[j]? = some o → listed.getD j false = true → ∀ e ∈ o.after, Region.binds md e = true → listed.getD e.on false = true) :
    ∀ (n j i : Nat) (o : Oper), ops[j]? = some o → (∀ e ∈ o.after, Region.binds md e = true → listed.getD e.on false = true) → reachB md ops n j i = true → listed.getD i false = true
  | 0, j, i, o, ho, ha, h => by simp [reachB] at h
  | n + 1, j, i, o, ho, ha, h => by
    simp only [reachB, ho, Option.map_some, Option.getD_some] at h
    obtain ⟨e, he, hb⟩ := Array.any_eq_true'.1 h
    simp only [Bool.and_eq_true, Bool.or_eq_true, beq_iff_eq] at hb
    have hl := ha e he hb.1
    rcases hb.2 with h1 | h1
    · rw [← h1]; exact hl
    · cases ho2 : ops[e.on]? with
      | none =>
        exfalso
        cases n <;> simp [reachB, ho2] at h1
      | some o2 => exact reach_listed hc n e.on i o2 ho2 (hc _ _ ho2 hl) h1
/-- invariant form -/
def Closed (md : Region.Mode) (ops : Array Oper) (listed : Array Bool) : Prop := ∀ j o, ops[j]? = some o → listed.getD j false = true → ∀ e ∈ o.after, Region.binds md e = true → listed.getD e.on false = true
theorem Closed.set {listed : Array Bool} (h : Closed md ops listed) {i : Nat} (hi : i ∈ Region.ready md ops listed) : Closed md ops (listed.setIfInBounds i true) := by
  intro j o ho hl e he hb
  by_cases hij : i = j
  · subst hij
    obtain ⟨_, o', ho', hall⟩ := mem_ready.1 hi
    have : o' = o := Option.some.inj (ho'.symm.trans ho)
    subst this
    exact getD_set_true (hall e he hb)
  · rw [getD_set_ne false hij] at hl
    exact getD_set_true (h j o ho hl e he hb)
/-- an operation that reads, for which the stage's last one waits, may be taken first -/
theorem wpAnyT_first {i : Nat} {oi : Oper} {v : Value} (hi : ops[i]? = some oi) (hsel : ∀ (j : Nat) (o : Oper) cs b, ops[j]? = some o → o.op ≠ .select cs b)
    (hQ : ∀ c a w, Q (.panic c) (a.put oi.dst v) w → Q (.panic c) a w) {S' : World → Prop} (hSS : ∀ w, S w → S' w) (n : Nat) (hib : i ≠ b) (hor : reachB md ops n b i = true ∨ ops[b]? = none ∨ ∀ w, S' w) :
    ∀ (fuel : Nat) (listed : Array Bool) (a : Act) (w : World), Closed md ops listed →
      (∀ j oj, ops[j]? = some oj → j ≠ i → listed.getD j true = false → (∀ e ∈ oj.after, Region.binds md e = true → e.on ≠ i) → oi.apart ops oj = true) →
      i ∈ Region.ready md ops listed → YieldsIf P ops S' oi v a → S w →
      wpAnyT P md ops Q S b fuel (listed.setIfInBounds i true) (a.put oi.dst v) w → wpAnyT P md ops Q S b (fuel + 1) listed a w := by
  intro fuel
  induction fuel with
  | zero =>
    intro listed a w _ _ hr hy hS H
    refine ⟨fun h => (by rw [h] at hr; cases hr), fun j hj => ?_⟩
    by_cases hji : j = i
    · subst hji; exact hy.wpOp hi (hSS _ hS) (by rw [if_neg hib]; exact ⟨hS, H⟩)
    · have := ready_mono hj hji
      rw [H.1] at this
      cases this
  | succ fuel ih =>
    intro listed a w hcl hfree hr hy hS H
    refine ⟨fun h => (by rw [h] at hr; cases hr), fun j hj => ?_⟩
    by_cases hji : j = i
    · subst hji; exact hy.wpOp hi (hSS _ hS) (by rw [if_neg hib]; exact ⟨hS, H⟩)
    · have h1 := H.2 j (ready_mono hj hji)
      obtain ⟨hjun, oj, hoj, hall⟩ := mem_ready.1 hj
      have hiun := (mem_ready.1 hr).1
      have hnot : ∀ e ∈ oj.after, Region.binds md e = true → e.on ≠ i := fun e he hb heq => by
        have h1 := hall e he hb
        rw [heq] at h1
        rcases Nat.lt_or_ge i listed.size with h' | h'
        · simp [h'] at hiun h1; rw [hiun] at h1; cases h1
        · simp [Array.getElem?_eq_none h'] at h1
      have h2 := wpOp_putIf hoj (hfree j oj hoj hji hjun hnot) (fun cs b => hsel i oi cs b hi) (fun cs b => hsel j oj cs b hoj) hQ hy h1
      have hfree' : ∀ k ok, ops[k]? = some ok → k ≠ i → (listed.setIfInBounds j true).getD k true = false →
          (∀ e ∈ ok.after, Region.binds md e = true → e.on ≠ i) → oi.apart ops ok = true := fun k ok hk hki hun hno => by
        refine hfree k ok hk hki ?_ hno
        by_cases hjk : j = k
        · subst hjk; exact hjun
        · rw [getD_set_ne true hjk] at hun; exact hun
      refine wpOp_mono (fun a' w' h3 => ?_) h2
      by_cases e : j = b
      · rw [if_pos e] at h3 ⊢
        rcases hor with hre | hno | hall'
        · exfalso
          subst e
          have hl := reach_listed hcl n j i oj hoj hall hre
          rcases Nat.lt_or_ge i listed.size with h' | h'
          · simp [h'] at hiun hl; rw [hiun] at hl; cases hl
          · simp [Array.getElem?_eq_none h'] at hl
        · exfalso
          subst e
          rw [hno] at hoj
          cases hoj
        · refine wpAny_first hi hsel hQ (fuel + 0) (listed.setIfInBounds j true) a' w' hfree' (ready_mono hr (Ne.symm hji)) ?_ ?_
          · have hy3 := h3.1
            unfold YieldsIf at hy3
            unfold Yields
            exact hy3.imp (fun ⟨x, y⟩ => ⟨x, fun w => y w (hall' w)⟩) id
          · rw [Array.setIfInBounds_comm _ _ hji]
            exact h3.2
      · rw [if_neg e] at h3 ⊢
        refine ⟨h3.2.1, ih (listed.setIfInBounds j true) a' w' (hcl.set hj) hfree' (ready_mono hr (Ne.symm hji)) h3.1 h3.2.1 ?_⟩
        rw [Array.setIfInBounds_comm _ _ hji]
        exact h3.2.2
theorem closed_of_B {listed : Array Bool} (h : closedB md ops listed = true) : Closed md ops listed := fun j o ho hl => closed_spec h ho hl
/-- the beginning of a region -/
theorem region_any {id : Nat} {a : Act} {w : World} (hm : P.follows .mixedOrders = true)
    (h : wpAny P .any ops Q ops.size (Array.replicate ops.size false) a w.drew) : (Code.region id ops true).wp P Q a w := wp_region_any hm h
theorem bcell {W w1 : World} (hb : Below W.heap.size W w1) : (∀ b o, b < W.heap.size → w1.cell? ⟨b, o, none⟩ = W.cell? ⟨b, o, none⟩) ∧ (∀ b o, b < W.heap.size → w1.frozen? ⟨b, o, none⟩ = W.frozen? ⟨b, o, none⟩) ∧ (∀ b, b < W.heap.size → w1.heap[b]? = W.heap[b]?) :=
  ⟨fun b o h => hb.cell (p := ⟨b, o, none⟩) h, fun b o h => hb.frozen (p := ⟨b, o, none⟩) h, fun b h => hb.block b h⟩
abbrev Till (w : World) : World → Prop := fun w' => Below w.heap.size w w'
/-- a stage begins: till operation b all that is in the world now stays as it is -/
theorem stage (b : Nat) {fuel : Nat} {listed : Array Bool} {a : Act} {w : World} (h : wpAnyT P md ops Q (Till w) b fuel listed a w) : wpAny P md ops Q fuel listed a w := wpAny_of_T _ _ _ _ h
theorem stage_read {w : World} {i : Nat} {oi : Oper} {v : Value} {fuel : Nat} {listed : Array Bool} {a : Act} (hi : ops[i]? = some oi)
    (hs : Region.noSelect ops = true) (hf : Region.free md ops listed i = true) (hr : (Region.ready md ops listed).contains i = true) (hc : closedB md ops listed = true)
    (hib : (i == b) = false) (hre : (reachB md ops ops.size b i || decide (ops.size ≤ b)) = true)
    (hQ : ∀ c a w, Q (.panic c) (a.put oi.dst v) w → Q (.panic c) a w)
    (hy : (Region.wanted oi (yielded ops a.tmps) = true ∧ ∀ w', Below w.heap.size w w' → (execOp a.eval oi).run P w' = .ok (.value v) w') ∨ (Region.wanted oi (yielded ops a.tmps) = false ∧ v = undef))
    (h : wpAnyT P md ops Q (Till w) b fuel (listed.setIfInBounds i true) (a.put oi.dst v) w) : wpAnyT P md ops Q (Till w) b (fuel + 1) listed a w :=
  wpAnyT_first hi (Region.noSelect_spec hs) hQ (S' := Till w) (fun _ h => h) ops.size (by simpa using hib)
    (by
      rw [Bool.or_eq_true] at hre
      rcases hre with h | h
      · exact .inl h
      · exact .inr (.inl (Array.getElem?_eq_none (by simpa using h)))) fuel listed a w (closed_of_B hc) (Region.free_spec hi hf) (by simpa using hr)
    (hy.imp (fun ⟨x, y⟩ => ⟨x, fun w' e => y w' e⟩) id) (Below.refl _ _) h
theorem stage_pure {w : World} {i : Nat} {oi : Oper} {v : Value} {fuel : Nat} {listed : Array Bool} {a : Act} (hi : ops[i]? = some oi)
    (hs : Region.noSelect ops = true) (hf : Region.free md ops listed i = true) (hr : (Region.ready md ops listed).contains i = true) (hc : closedB md ops listed = true)
    (hib : (i == b) = false)
    (hQ : ∀ c a w, Q (.panic c) (a.put oi.dst v) w → Q (.panic c) a w)
    (hy : (Region.wanted oi (yielded ops a.tmps) = true ∧ ∀ w, (execOp a.eval oi).run P w = .ok (.value v) w) ∨ (Region.wanted oi (yielded ops a.tmps) = false ∧ v = undef))
    (h : wpAnyT P md ops Q (Till w) b fuel (listed.setIfInBounds i true) (a.put oi.dst v) w) : wpAnyT P md ops Q (Till w) b (fuel + 1) listed a w :=
  wpAnyT_first hi (Region.noSelect_spec hs) hQ (S' := fun _ => True) (fun _ _ => trivial) ops.size (by simpa using hib) (.inr (.inr fun _ => trivial)) fuel listed a w (closed_of_B hc) (Region.free_spec hi hf) (by simpa using hr)
    (hy.imp (fun ⟨x, y⟩ => ⟨x, fun w' _ => y w'⟩) id) (Below.refl _ _) h
theorem wpAnyT_mono {S' : World → Prop} (hm : ∀ w, S' w → S w) : ∀ (fuel : Nat) (listed : Array Bool) (a : Act) (w : World), wpAnyT P md ops Q S' b fuel listed a w → wpAnyT P md ops Q S b fuel listed a w
  | 0, _, _, _, h => h
  | fuel + 1, listed, a, w, h => ⟨h.1, fun i hi => wpOp_mono (fun a' w' h' => by
      by_cases e : i = b
      · rw [if_pos e] at h' ⊢; exact h'
      · rw [if_neg e] at h' ⊢; exact ⟨hm w' h'.1, wpAnyT_mono hm fuel _ a' w' h'.2⟩) (h.2 i hi)⟩
/-- the stage's last operation is run -/
theorem stage_end {w : World} {fuel : Nat} {listed : Array Bool} {a : Act} {o : Oper} (hr : Region.ready md ops listed = [b]) (ho : ops[b]? = some o)
    (h : ∀ K' : Act → World → Prop, Shut (∀ a w, wpAny P md ops Q fuel (listed.setIfInBounds b true) a w → K' a w) → if Region.wanted o (yielded ops a.tmps) = true then Oper.wp P o a w K' Q else K' (a.put o.dst undef) w) :
    wpAnyT P md ops Q S b (fuel + 1) listed a w := by
  refine ⟨fun h0 => (by rw [h0] at hr; cases hr), fun j hj => ?_⟩
  rw [hr] at hj
  obtain rfl : j = b := by simpa using hj
  exact wpOp_step ho fun K' hK => h K' fun a w hw => hK a w (by rw [if_pos rfl]; exact hw)
/-- an operation that makes memory of its own alone, the only one that may come up, is run -/
theorem stage_one (i : Nat) {w : World} {fuel : Nat} {listed : Array Bool} {a : Act} {o : Oper} (hr : Region.ready md ops listed = [i]) (ho : ops[i]? = some o) (hib : (i == b) = false)
    (h : ∀ K' : Act → World → Prop, Shut (∀ a w', Below w.heap.size w w' → wpAnyT P md ops Q (Till w') b fuel (listed.setIfInBounds i true) a w' → K' a w') → if Region.wanted o (yielded ops a.tmps) = true then Oper.wp P o a w K' Q else K' (a.put o.dst undef) w) :
    wpAnyT P md ops Q (Till w) b (fuel + 1) listed a w := by
  refine ⟨fun h0 => (by rw [h0] at hr; cases hr), fun j hj => ?_⟩
  rw [hr] at hj
  obtain rfl : j = i := by simpa using hj
  have hne : ¬ j = b := by simpa using hib
  exact wpOp_step ho fun K' hK => h K' fun a w' hb hw => hK a w' (by
    rw [if_neg hne]
    exact ⟨hb, wpAnyT_mono (fun w2 h2 => hb.trans (Below.mono h2 hb.size)) _ _ _ _ hw⟩)
/-- two operations that make memory of their own alone may come up -/
theorem stage_two (i j : Nat) {w : World} {fuel : Nat} {listed : Array Bool} {a : Act} {oi oj : Oper} (hr : Region.ready md ops listed = [i, j]) (hoi : ops[i]? = some oi) (hoj : ops[j]? = some oj) (hib : (i == b) = false) (hjb : (j == b) = false)
    (h1 : ∀ K' : Act → World → Prop, Shut (∀ a w', Below w.heap.size w w' → wpAnyT P md ops Q (Till w') b fuel (listed.setIfInBounds i true) a w' → K' a w') → if Region.wanted oi (yielded ops a.tmps) = true then Oper.wp P oi a w K' Q else K' (a.put oi.dst undef) w)
    (h2 : ∀ K' : Act → World → Prop, Shut (∀ a w', Below w.heap.size w w' → wpAnyT P md ops Q (Till w') b fuel (listed.setIfInBounds j true) a w' → K' a w') → if Region.wanted oj (yielded ops a.tmps) = true then Oper.wp P oj a w K' Q else K' (a.put oj.dst undef) w) :
    wpAnyT P md ops Q (Till w) b (fuel + 1) listed a w := by
  refine ⟨fun h0 => (by rw [h0] at hr; cases hr), fun k hk => ?_⟩
  rw [hr] at hk
  simp only [List.mem_cons, List.not_mem_nil, or_false] at hk
  have hi : ¬ i = b := by simpa using hib
  have hj : ¬ j = b := by simpa using hjb
  rcases hk with rfl | rfl
  · exact wpOp_step hoi fun K' hK => h1 K' fun a w' hb hw => hK a w' (by
      rw [if_neg hi]
      exact ⟨hb, wpAnyT_mono (fun w2 h2 => hb.trans (Below.mono h2 hb.size)) _ _ _ _ hw⟩)
  · exact wpOp_step hoj fun K' hK => h2 K' fun a w' hb hw => hK a w' (by
      rw [if_neg hj]
      exact ⟨hb, wpAnyT_mono (fun w2 h2 => hb.trans (Below.mono h2 hb.size)) _ _ _ _ hw⟩)
theorem wpAnyT_done {listed : Array Bool} {a : Act} {w : World} (hr : Region.ready md ops listed = []) (h : Q .normal a w) :
    ∀ fuel, wpAnyT P md ops Q S b fuel listed a w
  | 0 => ⟨hr, h⟩
  | _ + 1 => ⟨fun _ => h, by rw [hr]; simp⟩
end
end Go.Proofs.Ytmoijbknjadeeaa
