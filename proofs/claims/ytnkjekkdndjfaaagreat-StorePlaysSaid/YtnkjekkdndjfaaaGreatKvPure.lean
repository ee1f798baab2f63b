
/- Chapter 9, in plain words: items by rising keys; what is put in, taken out; a map's reading that stands for such a list. No program is named here. -/
import Derived.Maps.OwnSet
import Derived.Maps.Views
import Derived.Sort.KeysCollected
import Derived.Sort.Walk0
namespace Go.Proofs.YtnkjekkdndjfaaaGreat
set_option linter.unusedSimpArgs false
set_option linter.unusedVariables false
structure It where
  k : ByteArray
  v : ByteArray
  r : Int
instance : Inhabited It := ⟨⟨⟨#[]⟩, ⟨#[]⟩, 0⟩⟩
theorem ba_ext {a b : ByteArray} (h : a.toList = b.toList) : a = b := by
  apply ByteArray.ext
  apply Array.toList_inj.1
  rw [← Lib.toList_data, ← Lib.toList_data, h]
theorem ba_iff {a b : ByteArray} : a.toList = b.toList ↔ a = b := ⟨ba_ext, fun h => by rw [h]⟩
theorem ba_beq (a b : ByteArray) : (a.toList == b.toList) = decide (a = b) := by
  rw [Bool.eq_iff_iff, beq_iff_eq, decide_eq_true_iff, ba_iff]
instance : DecidableEq It := fun x y => decidable_of_iff (x.k = y.k ∧ x.v = y.v ∧ x.r = y.r) (by cases x; cases y; simp)
def It.row (x : It) : List Value := [.string x.k, .string x.v, .int .i64 x.r]
def It.val (x : It) : Value := .agg #[.string x.k, .string x.v, .int .i64 x.r]
def It.zero : It := ⟨⟨#[]⟩, ⟨#[]⟩, 0⟩
theorem It.row_length (x : It) : x.row.length = 3 := rfl
/-- keys by their bytes -/
def kless (a b : ByteArray) : Bool := Op.bytesLess a.toList b.toList
theorem kless_iff (a b : ByteArray) : kless a b = true ↔ a.toList < b.toList := by unfold kless; rw [bytesLess_eq, decide_eq_true_iff]
theorem kless_irrefl (a : ByteArray) : kless a a = false := by
  cases h : kless a a with
  | false => rfl
  | true => exact absurd ((kless_iff a a).1 h) (List.lt_irrefl _)
theorem kless_trans {a b c : ByteArray} (h1 : kless a b = true) (h2 : kless b c = true) : kless a c = true := by
  rw [kless_iff] at *
  exact List.lt_trans h1 h2
theorem kless_ne {a b : ByteArray} (h : kless a b = true) : a ≠ b := by
  rintro rfl
  rw [kless_irrefl] at h
  cases h
theorem kless_asymm {a b : ByteArray} (h : kless a b = true) : kless b a = false := by
  cases h2 : kless b a with
  | false => rfl
  | true => have := kless_trans h h2; rw [kless_irrefl] at this; cases this
theorem kless_tri (a b : ByteArray) : kless a b = true ∨ a = b ∨ kless b a = true := by
  by_cases h : a.toList < b.toList
  · exact .inl ((kless_iff a b).2 h)
  · rcases List.le_iff_lt_or_eq.1 (List.not_lt.1 h) with h1 | h1
    · exact .inr (.inr ((kless_iff b a).2 h1))
    · exact .inr (.inl (ba_ext h1.symm))
def Asc (l : List It) : Prop := l.Pairwise fun a b => kless a.k b.k = true
def findI (l : List It) (k : ByteArray) : Option It := l.find? fun x => decide (x.k = k)
/-- the document's loop behind a write -/
def applyL (e : It) : Bool → List It → List It
  | d, [] => if d then [] else [e]
  | d, c :: l => ((if !d && kless e.k c.k then [e] else []) ++ (if c.k = e.k then [] else [c])) ++ applyL e (d || kless e.k c.k) l
structure CutI (l : List It) (k : ByteArray) (p m q : List It) : Prop where
  eq : l = p ++ (m ++ q)
  less : ∀ c ∈ p, kless c.k k = true
  more : ∀ c ∈ q, kless k c.k = true
  mid : m = [] ∨ ∃ c, m = [c] ∧ c.k = k
theorem cutI (k : ByteArray) : ∀ l : List It, Asc l → ∃ p m q, CutI l k p m q
  | [], _ => ⟨[], [], [], rfl, by simp, by simp, .inl rfl⟩
  | c :: l, h => by
    unfold Asc at h
    rw [List.pairwise_cons] at h
    rcases kless_tri c.k k with h1 | h1 | h1
    · obtain ⟨p, m, q, hc⟩ := cutI k l h.2
      exact ⟨c :: p, m, q, by rw [hc.eq]; rfl, by intro d hd; rcases List.mem_cons.1 hd with rfl | hd; exact h1; exact hc.less d hd, hc.more, hc.mid⟩
    · exact ⟨[], [c], l, rfl, by simp, fun d hd => by rw [← h1]; exact h.1 d hd, .inr ⟨c, rfl, h1⟩⟩
    · exact ⟨[], [], c :: l, rfl, by simp, by intro d hd; rcases List.mem_cons.1 hd with rfl | hd; exact h1; exact kless_trans h1 (h.1 d hd), .inl rfl⟩
theorem find_ne {l : List It} {k : ByteArray} (h : ∀ c ∈ l, c.k ≠ k) : findI l k = none := by
  unfold findI
  rw [List.find?_eq_none]
  intro c hc
  simp only [decide_eq_true_eq]
  exact h c hc
theorem findI_append (a b : List It) (k : ByteArray) : findI (a ++ b) k = (findI a k).or (findI b k) := by unfold findI; rw [List.find?_append]
theorem CutI.find {l p m q : List It} {k : ByteArray} (h : CutI l k p m q) : findI l k = m.head? := by
  rw [h.eq, findI_append, findI_append, find_ne (fun c hc => kless_ne (h.less c hc)), find_ne (l := q) (fun c hc => (kless_ne (h.more c hc)).symm)]
  rcases h.mid with rfl | ⟨c, rfl, hc⟩
  · rfl
  · simp [findI, hc]
theorem applyL_less (e : It) (d : Bool) (r : List It) : ∀ l : List It, (∀ c ∈ l, kless c.k e.k = true) → applyL e d (l ++ r) = l ++ applyL e d r
  | [], _ => rfl
  | c :: l, h => by
    have hc := h c (by simp)
    rw [List.cons_append, applyL, kless_asymm hc, if_neg (kless_ne hc), applyL_less e _ r l fun c hc => h c (by simp [hc])]
    cases d <;> simp
theorem applyL_more (e : It) (d : Bool) : ∀ l : List It, (∀ c ∈ l, kless e.k c.k = true) → applyL e d l = (if d then [] else [e]) ++ l
  | [], _ => by cases d <;> rfl
  | c :: l, h => by
    have hc := h c (by simp)
    rw [applyL, hc, if_neg (kless_ne hc).symm, Bool.or_true, applyL_more e true l fun c hc => h c (by simp [hc])]
    cases d <;> simp
theorem applyL_mid (e c : It) (hc : c.k = e.k) (d : Bool) (q : List It) : applyL e d (c :: q) = applyL e d q := by
  rw [applyL, if_pos hc, hc, kless_irrefl]
  cases d <;> simp
theorem CutI.apply {l p m q : List It} {e : It} (h : CutI l e.k p m q) (d : Bool) : applyL e d l = p ++ ((if d then [] else [e]) ++ q) := by
  rw [h.eq, applyL_less e d _ p h.less]
  rcases h.mid with rfl | ⟨c, rfl, hc⟩
  · rw [List.nil_append, applyL_more e d q h.more]
  · rw [List.cons_append, List.nil_append, applyL_mid e c hc, applyL_more e d q h.more]
theorem asc_parts {p m q : List It} (h : Asc (p ++ (m ++ q))) : Asc p ∧ Asc q ∧ ∀ a ∈ p, ∀ b ∈ q, kless a.k b.k = true := by
  unfold Asc at *
  rw [List.pairwise_append, List.pairwise_append] at h
  exact ⟨h.1, h.2.1.2.1, fun a ha b hb => h.2.2 a ha b (by simp [hb])⟩
theorem applyL_asc {l : List It} (e : It) (d : Bool) (h : Asc l) : Asc (applyL e d l) := by
  obtain ⟨p, m, q, hc⟩ := cutI e.k l h
  rw [hc.apply d]
  rw [hc.eq] at h
  obtain ⟨h1, h2, h3⟩ := asc_parts h
  unfold Asc at *
  cases d
  · simp only [Bool.false_eq_true, if_false]
    rw [List.pairwise_append, List.cons_append, List.nil_append, List.pairwise_cons]
    refine ⟨h1, ⟨hc.more, h2⟩, fun a ha b hb => ?_⟩
    rcases List.mem_cons.1 hb with rfl | hb
    · exact hc.less a ha
    · exact h3 a ha b hb
  · simp only [if_true, List.nil_append]
    rw [List.pairwise_append]
    exact ⟨h1, h2, h3⟩
theorem find_apply {l : List It} (e : It) (d : Bool) (h : Asc l) (k : ByteArray) : findI (applyL e d l) k = if k = e.k then (if d then none else some e) else findI l k := by
  obtain ⟨p, m, q, hc⟩ := cutI e.k l h
  rw [hc.apply d]
  by_cases hk : k = e.k
  · subst hk
    rw [if_pos rfl, findI_append, findI_append, find_ne (fun c hx => kless_ne (hc.less c hx)), find_ne (l := q) (fun c hx => (kless_ne (hc.more c hx)).symm)]
    cases d <;> simp [findI]
  · rw [if_neg hk, hc.eq, findI_append, findI_append, findI_append, findI_append]
    have h1 : findI m k = none := by
      rcases hc.mid with rfl | ⟨c, rfl, hm⟩
      · rfl
      · exact find_ne fun c' hc' => by simp at hc'; subst hc'; rw [hm]; exact Ne.symm hk
    have h2 : findI (if d then [] else [e]) k = none := by
      cases d
      · exact find_ne fun c' hc' => by simp at hc'; subst hc'; exact Ne.symm hk
      · rfl
    rw [h1, h2]
theorem applyL_length {l : List It} (e : It) (d : Bool) (h : Asc l) : (applyL e d l).length + (if (findI l e.k).isSome then 1 else 0) = l.length + (if d then 0 else 1) := by
  obtain ⟨p, m, q, hc⟩ := cutI e.k l h
  rw [hc.apply d, hc.find]
  have e1 := congrArg List.length hc.eq
  simp only [List.length_append] at e1 ⊢
  rcases hc.mid with rfl | ⟨c, rfl, _⟩ <;> cases d <;> simp at e1 ⊢ <;> omega
/-- how an item reads -/
def itD (x : It) : DataW Unit := .agg [.lit (.string x.k.toList), .lit (.string x.v.toList), .lit (.int .i64 x.r)]
def itR : Value → Option (DataW Unit × List MemPlace)
  | .agg cs => match cs.toList with
    | [.string a, .string b, .int .i64 r] => some (.agg [.lit (.string a.toList), .lit (.string b.toList), .lit (.int .i64 r)], [])
    | _ => none
  | _ => none
theorem itR_val (x : It) : itR x.val = some (itD x, []) := rfl
theorem itR_inv {v : Value} {x : It} {ps : List MemPlace} (h : itR v = some (itD x, ps)) : v = x.val := by
  unfold itR at h
  split at h
  · rename_i cs
    split at h
    · rename_i a b r hcs
      simp only [itD, Option.some.injEq, Prod.mk.injEq, DataW.agg.injEq, List.cons.injEq, DataW.lit.injEq, Lit.string.injEq, Lit.int.injEq, true_and, and_true] at h
      obtain ⟨⟨h1, h2, h3⟩, _⟩ := h
      rw [ba_ext h1, ba_ext h2, h3] at hcs
      unfold It.val
      rw [← Array.toList_inj.1 (by rw [hcs] : cs.toList = #[Value.string x.k, .string x.v, .int .i64 x.r].toList)]
    · cases h
  · cases h
/-- a map's reading stands for a rising list -/
structure RepD (D : DataW Unit) (l : List It) : Prop where
  tidy : Maps.Tidy D
  asc : Asc l
  size : Maps.size D = l.length
  has : ∀ k : ByteArray, Maps.has D (.string k.toList) = (findI l k).isSome
  at_ : ∀ (k : ByteArray) x, findI l k = some x → ∀ z, D.atKey (.string k.toList) z = itD x
theorem RepD.nil : RepD (.map []) [] := ⟨Maps.tidy_empty, List.Pairwise.nil, rfl, fun _ => rfl, fun _ _ h => by cases h⟩
theorem str_key (b : List UInt8) : WideAt.IsKeyLit (.string b) := trivial
theorem key_ne {a b : ByteArray} (h : a ≠ b) : (Lit.string a.toList) ≠ .string b.toList := fun e => h (ba_ext (by injection e))
theorem RepD.put {D : DataW Unit} {l : List It} (h : RepD D l) (e : It) : RepD (D.put (.string e.k.toList) (itD e)) (applyL e false l) := by
  refine ⟨h.tidy.put (str_key _) _, applyL_asc e false h.asc, ?_, fun k => ?_, fun k x hx z => ?_⟩
  · rw [Maps.size_put h.tidy, h.has, h.size]
    have := applyL_length e false h.asc
    split <;> rename_i hh <;> simp [hh] at this ⊢ <;> omega
  · rw [find_apply e false h.asc]
    by_cases hk : k = e.k
    · subst hk; rw [if_pos rfl, Maps.has_put_same h.tidy.isMap (str_key _)]; rfl
    · rw [if_neg hk, Maps.has_put_other (key_ne hk), h.has]
  · rw [find_apply e false h.asc] at hx
    by_cases hk : k = e.k
    · subst hk
      rw [if_pos rfl] at hx
      simp at hx
      subst hx
      exact Maps.atKey_put_same h.tidy.isMap (str_key _) _ _
    · rw [if_neg hk] at hx
      rw [Maps.atKey_put_other (key_ne hk)]
      exact h.at_ k x hx z
theorem RepD.del {D : DataW Unit} {l : List It} (h : RepD D l) (e : It) : RepD (D.del (.string e.k.toList)) (applyL e true l) := by
  refine ⟨h.tidy.del _, applyL_asc e true h.asc, ?_, fun k => ?_, fun k x hx z => ?_⟩
  · have h1 := Maps.size_del (k := .string e.k.toList) h.tidy
    rw [h.has, h.size] at h1
    have := applyL_length e true h.asc
    split at h1 <;> rename_i hh <;> simp [hh] at this h1 ⊢ <;> omega
  · rw [find_apply e true h.asc]
    by_cases hk : k = e.k
    · subst hk; rw [if_pos rfl, Maps.has_del_same]; rfl
    · rw [if_neg hk, Maps.has_del_other (key_ne hk), h.has]
  · rw [find_apply e true h.asc] at hx
    by_cases hk : k = e.k
    · subst hk
      rw [if_pos rfl] at hx
      simp at hx
    · rw [if_neg hk] at hx
      rw [Maps.atKey_del_other (key_ne hk)]
      exact h.at_ k x hx z
end Go.Proofs.YtnkjekkdndjfaaaGreat
