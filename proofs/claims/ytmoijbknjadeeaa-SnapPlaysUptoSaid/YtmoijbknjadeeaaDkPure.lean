
/- Chapter 6, in plain words: files by rising names; what is put in, taken out; a map's reading that stands for such a list. No program is named here. -/
import Derived.Test.YtmoijbknjadeeaaKvPure
namespace Go.Proofs.Ytmoijbknjadeeaa
set_option linter.unusedSimpArgs false
set_option linter.unusedVariables false
/-- a file: its name, its bytes, where they lie, how many are sure -/
structure Fi where
  k : ByteArray
  b : List UInt8
  A : Option (Nat × Nat)
  n : Nat
  c : Nat
  s : Int
instance : Inhabited Fi := ⟨⟨⟨#[]⟩, [], none, 0, 0, 0⟩⟩
def Fi.addr (x : Fi) : Option Addr := x.A.map fun p => ⟨p.1, p.2, none⟩
def Fi.val (x : Fi) : Value := .agg #[.slice x.addr x.n x.c, .int .i64 x.s]
def Fi.zero : Fi := ⟨⟨#[]⟩, [], none, 0, 0, 0⟩
/-- as the document has it -/
def Fi.row (x : Fi) : List Value := [.string x.k, .string ⟨x.b.toArray⟩, .int .i64 x.s]
theorem Fi.row_length (x : Fi) : x.row.length = 3 := rfl
def AscF (l : List Fi) : Prop := l.Pairwise fun a b => kless a.k b.k = true
def findF (l : List Fi) (k : ByteArray) : Option Fi := l.find? fun x => decide (x.k = k)
/-- the document's loop behind a write -/
def applyF (e : Fi) : Bool → List Fi → List Fi
  | d, [] => if d then [] else [e]
  | d, c :: l => ((if !d && kless e.k c.k then [e] else []) ++ (if c.k = e.k then [] else [c])) ++ applyF e (d || kless e.k c.k) l
structure CutF (l : List Fi) (k : ByteArray) (p m q : List Fi) : Prop where
  eq : l = p ++ (m ++ q)
  less : ∀ c ∈ p, kless c.k k = true
  more : ∀ c ∈ q, kless k c.k = true
  mid : m = [] ∨ ∃ c, m = [c] ∧ c.k = k
theorem cutF (k : ByteArray) : ∀ l : List Fi, AscF l → ∃ p m q, CutF l k p m q
  | [], _ => ⟨[], [], [], rfl, by simp, by simp, .inl rfl⟩
  | c :: l, h => by
    unfold AscF at h
    rw [List.pairwise_cons] at h
    rcases kless_tri c.k k with h1 | h1 | h1
    · obtain ⟨p, m, q, hc⟩ := cutF k l h.2
      exact ⟨c :: p, m, q, by rw [hc.eq]; rfl, by intro d hd; rcases List.mem_cons.1 hd with rfl | hd; exact h1; exact hc.less d hd, hc.more, hc.mid⟩
    · exact ⟨[], [c], l, rfl, by simp, fun d hd => by rw [← h1]; exact h.1 d hd, .inr ⟨c, rfl, h1⟩⟩
    · exact ⟨[], [], c :: l, rfl, by simp, by intro d hd; rcases List.mem_cons.1 hd with rfl | hd; exact h1; exact kless_trans h1 (h.1 d hd), .inl rfl⟩
theorem findF_ne {l : List Fi} {k : ByteArray} (h : ∀ c ∈ l, c.k ≠ k) : findF l k = none := by
  unfold findF
  rw [List.find?_eq_none]
  intro c hc
  simp only [decide_eq_true_eq]
  exact h c hc
theorem findF_append (a b : List Fi) (k : ByteArray) : findF (a ++ b) k = (findF a k).or (findF b k) := by unfold findF; rw [List.find?_append]
theorem CutF.find {l p m q : List Fi} {k : ByteArray} (h : CutF l k p m q) : findF l k = m.head? := by
  rw [h.eq, findF_append, findF_append, findF_ne (fun c hc => kless_ne (h.less c hc)), findF_ne (l := q) (fun c hc => (kless_ne (h.more c hc)).symm)]
  rcases h.mid with rfl | ⟨c, rfl, hc⟩
  · rfl
  · simp [findF, hc]
theorem applyF_less (e : Fi) (d : Bool) (r : List Fi) : ∀ l : List Fi, (∀ c ∈ l, kless c.k e.k = true) → applyF e d (l ++ r) = l ++ applyF e d r
  | [], _ => rfl
  | c :: l, h => by
    have hc := h c (by simp)
    rw [List.cons_append, applyF, kless_asymm hc, if_neg (kless_ne hc), applyF_less e _ r l fun c hc => h c (by simp [hc])]
    cases d <;> simp
theorem applyF_more (e : Fi) (d : Bool) : ∀ l : List Fi, (∀ c ∈ l, kless e.k c.k = true) → applyF e d l = (if d then [] else [e]) ++ l
  | [], _ => by cases d <;> rfl
  | c :: l, h => by
    have hc := h c (by simp)
    rw [applyF, hc, if_neg (kless_ne hc).symm, Bool.or_true, applyF_more e true l fun c hc => h c (by simp [hc])]
    cases d <;> simp
theorem applyF_mid (e c : Fi) (hc : c.k = e.k) (d : Bool) (q : List Fi) : applyF e d (c :: q) = applyF e d q := by
  rw [applyF, if_pos hc, hc, kless_irrefl]
  cases d <;> simp
theorem CutF.apply {l p m q : List Fi} {e : Fi} (h : CutF l e.k p m q) (d : Bool) : applyF e d l = p ++ ((if d then [] else [e]) ++ q) := by
  rw [h.eq, applyF_less e d _ p h.less]
  rcases h.mid with rfl | ⟨c, rfl, hc⟩
  · rw [List.nil_append, applyF_more e d q h.more]
  · rw [List.cons_append, List.nil_append, applyF_mid e c hc, applyF_more e d q h.more]
theorem ascF_parts {p m q : List Fi} (h : AscF (p ++ (m ++ q))) : AscF p ∧ AscF q ∧ ∀ a ∈ p, ∀ b ∈ q, kless a.k b.k = true := by
  unfold AscF at *
  rw [List.pairwise_append, List.pairwise_append] at h
  exact ⟨h.1, h.2.1.2.1, fun a ha b hb => h.2.2 a ha b (by simp [hb])⟩
theorem applyF_asc {l : List Fi} (e : Fi) (d : Bool) (h : AscF l) : AscF (applyF e d l) := by
  obtain ⟨p, m, q, hc⟩ := cutF e.k l h
  rw [hc.apply d]
  rw [hc.eq] at h
  obtain ⟨h1, h2, h3⟩ := ascF_parts h
  unfold AscF at *
  cases d
  · simp only [Bool.false_eq_true, if_false]
    rw [List.pairwise_append, List.cons_append, List.nil_append, List.pairwise_cons]
    refine ⟨h1, ⟨hc.more, h2⟩, fun a ha b hb => ?_⟩
    rcases List.mem_cons.1 hb with rfl | hb
    · exact hc.less a ha
    · exact h3 a ha b hb
  · simp only [if_true, List.nil_append]
    rw [List.pairwise_append]
    exact ⟨h1, h2, h3⟩
theorem findF_apply {l : List Fi} (e : Fi) (d : Bool) (h : AscF l) (k : ByteArray) : findF (applyF e d l) k = if k = e.k then (if d then none else some e) else findF l k := by
  obtain ⟨p, m, q, hc⟩ := cutF e.k l h
  rw [hc.apply d]
  by_cases hk : k = e.k
  · subst hk
    rw [if_pos rfl, findF_append, findF_append, findF_ne (fun c hx => kless_ne (hc.less c hx)), findF_ne (l := q) (fun c hx => (kless_ne (hc.more c hx)).symm)]
    cases d <;> simp [findF]
  · rw [if_neg hk, hc.eq, findF_append, findF_append, findF_append, findF_append]
    have h1 : findF m k = none := by
      rcases hc.mid with rfl | ⟨c, rfl, hm⟩
      · rfl
      · exact findF_ne fun c' hc' => by simp at hc'; subst hc'; rw [hm]; exact Ne.symm hk
    have h2 : findF (if d then [] else [e]) k = none := by
      cases d
      · exact findF_ne fun c' hc' => by simp at hc'; subst hc'; exact Ne.symm hk
      · rfl
    rw [h1, h2]
theorem applyF_length {l : List Fi} (e : Fi) (d : Bool) (h : AscF l) : (applyF e d l).length + (if (findF l e.k).isSome then 1 else 0) = l.length + (if d then 0 else 1) := by
  obtain ⟨p, m, q, hc⟩ := cutF e.k l h
  rw [hc.apply d, hc.find]
  have e1 := congrArg List.length hc.eq
  simp only [List.length_append] at e1 ⊢
  rcases hc.mid with rfl | ⟨c, rfl, _⟩ <;> cases d <;> simp at e1 ⊢ <;> omega
/-- how a file reads -/
def fiD (x : Fi) : DataW Unit := match x.A with
  | none => .agg [.lit (.int .i64 x.n), .lit (.int .i64 x.c), .lit (.int .i64 x.s)]
  | some p => .agg [.lit (.int .i64 p.1), .lit (.int .i64 p.2), .lit (.int .i64 x.n), .lit (.int .i64 x.c), .lit (.int .i64 x.s)]
def fiR : Value → Option (DataW Unit × List MemPlace)
  | .agg cs => match cs.toList with
    | [.slice none n c, .int .i64 s] => some (.agg [.lit (.int .i64 n), .lit (.int .i64 c), .lit (.int .i64 s)], [])
    | [.slice (some ⟨g, off, none⟩) n c, .int .i64 s] => some (.agg [.lit (.int .i64 g), .lit (.int .i64 off), .lit (.int .i64 n), .lit (.int .i64 c), .lit (.int .i64 s)], [])
    | _ => none
  | _ => none
theorem fiR_val (x : Fi) : fiR x.val = some (fiD x, []) := by
  obtain ⟨k, b, A, n, c, s⟩ := x
  cases A <;> rfl
theorem fiR_inv {v : Value} {x : Fi} {ps : List MemPlace} (h : fiR v = some (fiD x, ps)) : v = x.val := by
  obtain ⟨k, b, A, n, c, s⟩ := x
  unfold fiR at h
  split at h
  · rename_i cs
    split at h
    · rename_i n' c' s' hcs
      cases A with
      | none =>
        simp only [fiD, Option.some.injEq, Prod.mk.injEq, DataW.agg.injEq, List.cons.injEq, DataW.lit.injEq, Lit.int.injEq, true_and, and_true] at h
        obtain ⟨⟨h1, h2, h3⟩, _⟩ := h
        have h1' : n' = n := by omega
        have h2' : c' = c := by omega
        rw [h1', h2', h3] at hcs
        have e : cs = #[Value.slice none n c, .int .i64 s] := Array.toList_inj.1 (by rw [hcs])
        rw [e]
        rfl
      | some p => simp [fiD] at h
    · rename_i g off n' c' s' hcs
      cases A with
      | none => simp [fiD] at h
      | some p =>
        simp only [fiD, Option.some.injEq, Prod.mk.injEq, DataW.agg.injEq, List.cons.injEq, DataW.lit.injEq, Lit.int.injEq, true_and, and_true] at h
        obtain ⟨⟨h1, h2, h3, h4, h5⟩, _⟩ := h
        have h1' : g = p.1 := by omega
        have h2' : off = p.2 := by omega
        have h3' : n' = n := by omega
        have h4' : c' = c := by omega
        rw [h1', h2', h3', h4', h5] at hcs
        have e : cs = #[Value.slice (some ⟨p.1, p.2, none⟩) n c, .int .i64 s] := Array.toList_inj.1 (by rw [hcs])
        rw [e]
        rfl
    · cases h
  · cases h
/-- the document's rows hang on names, bytes and sure numbers alone -/
theorem rows_same {e e' : Fi} (hk : e.k = e'.k) (hb : e.b = e'.b) (hs : e.s = e'.s) : ∀ (d : Bool) (l : List Fi), (applyF e d l).flatMap Fi.row = (applyF e' d l).flatMap Fi.row
  | d, [] => by cases d <;> simp [applyF, Fi.row, hk, hb, hs]
  | d, c :: l => by
    have hr : e.row = e'.row := by simp [Fi.row, hk, hb, hs]
    rw [applyF, applyF, List.flatMap_append, List.flatMap_append, rows_same hk hb hs, hk, List.flatMap_append, List.flatMap_append]
    congr 2
    split <;> simp [hr]
/-- a map's reading stands for a rising list -/
structure RepF (D : DataW Unit) (l : List Fi) : Prop where
  tidy : Maps.Tidy D
  asc : AscF l
  size : Maps.size D = l.length
  has : ∀ k : ByteArray, Maps.has D (.string k.toList) = (findF l k).isSome
  at_ : ∀ (k : ByteArray) x, findF l k = some x → ∀ z, D.atKey (.string k.toList) z = fiD x
theorem RepF.nil : RepF (.map []) [] := ⟨Maps.tidy_empty, List.Pairwise.nil, rfl, fun _ => rfl, fun _ _ h => by cases h⟩
theorem RepF.put {D : DataW Unit} {l : List Fi} (h : RepF D l) (e : Fi) : RepF (D.put (.string e.k.toList) (fiD e)) (applyF e false l) := by
  refine ⟨h.tidy.put (str_key _) _, applyF_asc e false h.asc, ?_, fun k => ?_, fun k x hx z => ?_⟩
  · rw [Maps.size_put h.tidy, h.has, h.size]
    have := applyF_length e false h.asc
    split <;> rename_i hh <;> simp [hh] at this ⊢ <;> omega
  · rw [findF_apply e false h.asc]
    by_cases hk : k = e.k
    · subst hk; rw [if_pos rfl, Maps.has_put_same h.tidy.isMap (str_key _)]; rfl
    · rw [if_neg hk, Maps.has_put_other (key_ne hk), h.has]
  · rw [findF_apply e false h.asc] at hx
    by_cases hk : k = e.k
    · subst hk
      rw [if_pos rfl] at hx
      simp at hx
      subst hx
      exact Maps.atKey_put_same h.tidy.isMap (str_key _) _ _
    · rw [if_neg hk] at hx
      rw [Maps.atKey_put_other (key_ne hk)]
      exact h.at_ k x hx z
theorem RepF.del {D : DataW Unit} {l : List Fi} (h : RepF D l) (e : Fi) : RepF (D.del (.string e.k.toList)) (applyF e true l) := by
  refine ⟨h.tidy.del _, applyF_asc e true h.asc, ?_, fun k => ?_, fun k x hx z => ?_⟩
  · have h1 := Maps.size_del (k := .string e.k.toList) h.tidy
    rw [h.has, h.size] at h1
    have := applyF_length e true h.asc
    split at h1 <;> rename_i hh <;> simp [hh] at this h1 ⊢ <;> omega
  · rw [findF_apply e true h.asc]
    by_cases hk : k = e.k
    · subst hk; rw [if_pos rfl, Maps.has_del_same]; rfl
    · rw [if_neg hk, Maps.has_del_other (key_ne hk), h.has]
  · rw [findF_apply e true h.asc] at hx
    by_cases hk : k = e.k
    · subst hk
      rw [if_pos rfl] at hx
      simp at hx
    · rw [if_neg hk] at hx
      rw [Maps.atKey_del_other (key_ne hk)]
      exact h.at_ k x hx z
end Go.Proofs.Ytmoijbknjadeeaa
