
/- Chapter 6, in plain words: files by rising names; what is put in, taken out; a map's reading that stands for such a list. No program is named here. -/
import Derived.Deep.Cut
import Derived.BigQuiet
import Derived.Deep.QuietTactic
import Derived.Lib.MinMax
import Derived.StringKeys
import Derived.Test.YtnkjekkdndjfaaaGreatKvPure
import Derived.Test.YtnkjekkdndjfaaaGreatRgA
import Derived.Test.YtnkjekkdndjfaaaGreatBytes
namespace Go.Proofs.YtnkjekkdndjfaaaGreat
set_option linter.unusedSimpArgs false
set_option linter.unusedVariables false
/-- a file: its name, its bytes, where they lie, how many are sure -/
structure Fi where
  k : ByteArray
  b : List UInt8
  A : Option (Nat × Nat)
  n : Nat
  c : Nat
  s : Int
instance : Inhabited Fi := ⟨⟨⟨#[]⟩, [], none, 0, 0, 0⟩⟩
def Fi.addr (x : Fi) : Option Addr := x.A.map fun p => ⟨p.1, p.2, none⟩
def Fi.val (x : Fi) : Value := .agg #[.slice x.addr x.n x.c, .int .i64 x.s]
def Fi.zero : Fi := ⟨⟨#[]⟩, [], none, 0, 0, 0⟩
/-- as the document has it -/
def Fi.row (x : Fi) : List Value := [.string x.k, .string ⟨x.b.toArray⟩, .int .i64 x.s]
theorem Fi.row_length (x : Fi) : x.row.length = 3 := rfl
def AscF (l : List Fi) : Prop := l.Pairwise fun a b => kless a.k b.k = true
def findF (l : List Fi) (k : ByteArray) : Option Fi := l.find? fun x => decide (x.k = k)
/-- the document's loop behind a write -/
def applyF (e : Fi) : Bool → List Fi → List Fi
  | d, [] => if d then [] else [e]
  | d, c :: l => ((if !d && kless e.k c.k then [e] else []) ++ (if c.k = e.k then [] else [c])) ++ applyF e (d || kless e.k c.k) l
structure CutF (l : List Fi) (k : ByteArray) (p m q : List Fi) : Prop where
  eq : l = p ++ (m ++ q)
  less : ∀ c ∈ p, kless c.k k = true
  more : ∀ c ∈ q, kless k c.k = true
  mid : m = [] ∨ ∃ c, m = [c] ∧ c.k = k
theorem cutF (k : ByteArray) : ∀ l : List Fi, AscF l → ∃ p m q, CutF l k p m q
  | [], _ => ⟨[], [], [], rfl, by simp, by simp, .inl rfl⟩
  | c :: l, h => by
    unfold AscF at h
    rw [List.pairwise_cons] at h
    rcases kless_tri c.k k with h1 | h1 | h1
    · obtain ⟨p, m, q, hc⟩ := cutF k l h.2
      exact ⟨c :: p, m, q, by rw [hc.eq]; rfl, by intro d hd; rcases List.mem_cons.1 hd with rfl | hd; exact h1; exact hc.less d hd, hc.more, hc.mid⟩
    · exact ⟨[], [c], l, rfl, by simp, fun d hd => by rw [← h1]; exact h.1 d hd, .inr ⟨c, rfl, h1⟩⟩
    · exact ⟨[], [], c :: l, rfl, by simp, by intro d hd; rcases List.mem_cons.1 hd with rfl | hd; exact h1; exact kless_trans h1 (h.1 d hd), .inl rfl⟩
theorem findF_ne {l : List Fi} {k : ByteArray} (h : ∀ c ∈ l, c.k ≠ k) : findF l k = none := by
  unfold findF
  rw [List.find?_eq_none]
  intro c hc
  simp only [decide_eq_true_eq]
  exact h c hc
theorem findF_append (a b : List Fi) (k : ByteArray) : findF (a ++ b) k = (findF a k).or (findF b k) := by unfold findF; rw [List.find?_append]
theorem CutF.find {l p m q : List Fi} {k : ByteArray} (h : CutF l k p m q) : findF l k = m.head? := by
  rw [h.eq, findF_append, findF_append, findF_ne (fun c hc => kless_ne (h.less c hc)), findF_ne (l := q) (fun c hc => (kless_ne (h.more c hc)).symm)]
  rcases h.mid with rfl | ⟨c, rfl, hc⟩
  · rfl
  · simp [findF, hc]
theorem applyF_less (e : Fi) (d : Bool) (r : List Fi) : ∀ l : List Fi, (∀ c ∈ l, kless c.k e.k = true) → applyF e d (l ++ r) = l ++ applyF e d r
  | [], _ => rfl
  | c :: l, h => by
    have hc := h c (by simp)
    rw [List.cons_append, applyF, kless_asymm hc, if_neg (kless_ne hc), applyF_less e _ r l fun c hc => h c (by simp [hc])]
    cases d <;> simp
theorem applyF_more (e : Fi) (d : Bool) : ∀ l : List Fi, (∀ c ∈ l, kless e.k c.k = true) → applyF e d l = (if d then [] else [e]) ++ l
  | [], _ => by cases d <;> rfl
  | c :: l, h => by
    have hc := h c (by simp)
    rw [applyF, hc, if_neg (kless_ne hc).symm, Bool.or_true, applyF_more e true l fun c hc => h c (by simp [hc])]
    cases d <;> simp
theorem applyF_mid (e c : Fi) (hc : c.k = e.k) (d : Bool) (q : List Fi) : applyF e d (c :: q) = applyF e d q := by
  rw [applyF, if_pos hc, hc, kless_irrefl]
  cases d <;> simp
theorem CutF.apply {l p m q : List Fi} {e : Fi} (h : CutF l e.k p m q) (d : Bool) : applyF e d l = p ++ ((if d then [] else [e]) ++ q) := by
  rw [h.eq, applyF_less e d _ p h.less]
  rcases h.mid with rfl | ⟨c, rfl, hc⟩
  · rw [List.nil_append, applyF_more e d q h.more]
  · rw [List.cons_append, List.nil_append, applyF_mid e c hc, applyF_more e d q h.more]
theorem ascF_parts {p m q : List Fi} (h : AscF (p ++ (m ++ q))) : AscF p ∧ AscF q ∧ ∀ a ∈ p, ∀ b ∈ q, kless a.k b.k = true := by
  unfold AscF at *
  rw [List.pairwise_append, List.pairwise_append] at h
  exact ⟨h.1, h.2.1.2.1, fun a ha b hb => h.2.2 a ha b (by simp [hb])⟩
theorem applyF_asc {l : List Fi} (e : Fi) (d : Bool) (h : AscF l) : AscF (applyF e d l) := by
  obtain ⟨p, m, q, hc⟩ := cutF e.k l h
  rw [hc.apply d]
  rw [hc.eq] at h
  obtain ⟨h1, h2, h3⟩ := ascF_parts h
  unfold AscF at *
  cases d
  · simp only [Bool.false_eq_true, if_false]
    rw [List.pairwise_append, List.cons_append, List.nil_append, List.pairwise_cons]
    refine ⟨h1, ⟨hc.more, h2⟩, fun a ha b hb => ?_⟩
    rcases List.mem_cons.1 hb with rfl | hb
    · exact hc.less a ha
    · exact h3 a ha b hb
  · simp only [if_true, List.nil_append]
    rw [List.pairwise_append]
    exact ⟨h1, h2, h3⟩
theorem findF_apply {l : List Fi} (e : Fi) (d : Bool) (h : AscF l) (k : ByteArray) : findF (applyF e d l) k = if k = e.k then (if d then none else some e) else findF l k := by
  obtain ⟨p, m, q, hc⟩ := cutF e.k l h
  rw [hc.apply d]
  by_cases hk : k = e.k
  · subst hk
    rw [if_pos rfl, findF_append, findF_append, findF_ne (fun c hx => kless_ne (hc.less c hx)), findF_ne (l := q) (fun c hx => (kless_ne (hc.more c hx)).symm)]
    cases d <;> simp [findF]
  · rw [if_neg hk, hc.eq, findF_append, findF_append, findF_append, findF_append]
    have h1 : findF m k = none := by
      rcases hc.mid with rfl | ⟨c, rfl, hm⟩
      · rfl
      · exact findF_ne fun c' hc' => by simp at hc'; subst hc'; rw [hm]; exact Ne.symm hk
    have h2 : findF (if d then [] else [e]) k = none := by
      cases d
      · exact findF_ne fun c' hc' => by simp at hc'; subst hc'; exact Ne.symm hk
      · rfl
    rw [h1, h2]
theorem applyF_length {l : List Fi} (e : Fi) (d : Bool) (h : AscF l) : (applyF e d l).length + (if (findF l e.k).isSome then 1 else 0) = l.length + (if d then 0 else 1) := by
  obtain ⟨p, m, q, hc⟩ := cutF e.k l h
  rw [hc.apply d, hc.find]
  have e1 := congrArg List.length hc.eq
  simp only [List.length_append] at e1 ⊢
  rcases hc.mid with rfl | ⟨c, rfl, _⟩ <;> cases d <;> simp at e1 ⊢ <;> omega
/-- how a file reads -/
def fiD (x : Fi) : DataW Unit := match x.A with
  | none => .agg [.lit (.int .i64 x.n), .lit (.int .i64 x.c), .lit (.int .i64 x.s)]
  | some p => .agg [.lit (.int .i64 p.1), .lit (.int .i64 p.2), .lit (.int .i64 x.n), .lit (.int .i64 x.c), .lit (.int .i64 x.s)]
def fiR : Value → Option (DataW Unit × List MemPlace)
  | .agg cs => match cs.toList with
    | [.slice none n c, .int .i64 s] => some (.agg [.lit (.int .i64 n), .lit (.int .i64 c), .lit (.int .i64 s)], [])
    | [.slice (some ⟨g, off, none⟩) n c, .int .i64 s] => some (.agg [.lit (.int .i64 g), .lit (.int .i64 off), .lit (.int .i64 n), .lit (.int .i64 c), .lit (.int .i64 s)], [])
    | _ => none
  | _ => none
theorem fiR_val (x : Fi) : fiR x.val = some (fiD x, []) := by
  obtain ⟨k, b, A, n, c, s⟩ := x
  cases A <;> rfl
theorem fiR_inv {v : Value} {x : Fi} {ps : List MemPlace} (h : fiR v = some (fiD x, ps)) : v = x.val := by
  obtain ⟨k, b, A, n, c, s⟩ := x
  unfold fiR at h
  split at h
  · rename_i cs
    split at h
    · rename_i n' c' s' hcs
      cases A with
      | none =>
        simp only [fiD, Option.some.injEq, Prod.mk.injEq, DataW.agg.injEq, List.cons.injEq, DataW.lit.injEq, Lit.int.injEq, true_and, and_true] at h
        obtain ⟨⟨h1, h2, h3⟩, _⟩ := h
        have h1' : n' = n := by omega
        have h2' : c' = c := by omega
        rw [h1', h2', h3] at hcs
        have e : cs = #[Value.slice none n c, .int .i64 s] := Array.toList_inj.1 (by rw [hcs])
        rw [e]
        rfl
      | some p => simp [fiD] at h
    · rename_i g off n' c' s' hcs
      cases A with
      | none => simp [fiD] at h
      | some p =>
        simp only [fiD, Option.some.injEq, Prod.mk.injEq, DataW.agg.injEq, List.cons.injEq, DataW.lit.injEq, Lit.int.injEq, true_and, and_true] at h
        obtain ⟨⟨h1, h2, h3, h4, h5⟩, _⟩ := h
        have h1' : g = p.1 := by omega
        have h2' : off = p.2 := by omega
        have h3' : n' = n := by omega
        have h4' : c' = c := by omega
        rw [h1', h2', h3', h4', h5] at hcs
        have e : cs = #[Value.slice (some ⟨p.1, p.2, none⟩) n c, .int .i64 s] := Array.toList_inj.1 (by rw [hcs])
        rw [e]
        rfl
    · cases h
  · cases h
/-- the document's rows hang on names, bytes and sure numbers alone -/
theorem rows_same {e e' : Fi} (hk : e.k = e'.k) (hb : e.b = e'.b) (hs : e.s = e'.s) : ∀ (d : Bool) (l : List Fi), (applyF e d l).flatMap Fi.row = (applyF e' d l).flatMap Fi.row
  | d, [] => by cases d <;> simp [applyF, Fi.row, hk, hb, hs]
  | d, c :: l => by
    have hr : e.row = e'.row := by simp [Fi.row, hk, hb, hs]
    rw [applyF, applyF, List.flatMap_append, List.flatMap_append, rows_same hk hb hs, hk, List.flatMap_append, List.flatMap_append]
    congr 2
    split <;> simp [hr]
/-- a map's reading stands for a rising list -/
structure RepF (D : DataW Unit) (l : List Fi) : Prop where
  tidy : Maps.Tidy D
  asc : AscF l
  size : Maps.size D = l.length
  has : ∀ k : ByteArray, Maps.has D (.string k.toList) = (findF l k).isSome
  at_ : ∀ (k : ByteArray) x, findF l k = some x → ∀ z, D.atKey (.string k.toList) z = fiD x
theorem RepF.nil : RepF (.map []) [] := ⟨Maps.tidy_empty, List.Pairwise.nil, rfl, fun _ => rfl, fun _ _ h => by cases h⟩
theorem RepF.put {D : DataW Unit} {l : List Fi} (h : RepF D l) (e : Fi) : RepF (D.put (.string e.k.toList) (fiD e)) (applyF e false l) := by
  refine ⟨h.tidy.put (str_key _) _, applyF_asc e false h.asc, ?_, fun k => ?_, fun k x hx z => ?_⟩
  · rw [Maps.size_put h.tidy, h.has, h.size]
    have := applyF_length e false h.asc
    split <;> rename_i hh <;> simp [hh] at this ⊢ <;> omega
  · rw [findF_apply e false h.asc]
    by_cases hk : k = e.k
    · subst hk; rw [if_pos rfl, Maps.has_put_same h.tidy.isMap (str_key _)]; rfl
    · rw [if_neg hk, Maps.has_put_other (key_ne hk), h.has]
  · rw [findF_apply e false h.asc] at hx
    by_cases hk : k = e.k
    · subst hk
      rw [if_pos rfl] at hx
      simp at hx
      subst hx
      exact Maps.atKey_put_same h.tidy.isMap (str_key _) _ _
    · rw [if_neg hk] at hx
      rw [Maps.atKey_put_other (key_ne hk)]
      exact h.at_ k x hx z
theorem RepF.del {D : DataW Unit} {l : List Fi} (h : RepF D l) (e : Fi) : RepF (D.del (.string e.k.toList)) (applyF e true l) := by
  refine ⟨h.tidy.del _, applyF_asc e true h.asc, ?_, fun k => ?_, fun k x hx z => ?_⟩
  · have h1 := Maps.size_del (k := .string e.k.toList) h.tidy
    rw [h.has, h.size] at h1
    have := applyF_length e true h.asc
    split at h1 <;> rename_i hh <;> simp [hh] at this h1 ⊢ <;> omega
  · rw [findF_apply e true h.asc]
    by_cases hk : k = e.k
    · subst hk; rw [if_pos rfl, Maps.has_del_same]; rfl
    · rw [if_neg hk, Maps.has_del_other (key_ne hk), h.has]
  · rw [findF_apply e true h.asc] at hx
    by_cases hk : k = e.k
    · subst hk
      rw [if_pos rfl] at hx
      simp at hx
    · rw [if_neg hk] at hx
      rw [Maps.atKey_del_other (key_ne hk)]
      exact h.at_ k x hx z
end Go.Proofs.YtnkjekkdndjfaaaGreat
namespace Go.Proofs.YtnkjekkdndjfaaaGreat
set_option linter.unusedVariables false
set_option linter.unusedSimpArgs false
open Go.RowKit Go.Maps Go.WideMaps Go.ChangeMaps
theorem info_file : (Tryz.prog.info? 96).map (fun i => (i.zero, i.size, i.bytes)) = some (some (Value.agg #[.slice none 0 0, .int .i64 0]), 2, 32) := by kernel_rfl
theorem zero_file (w : World) : (zeroValue 96).run Tryz.prog w = .ok Fi.zero.val w := Tryz.zeroValue96 w
theorem field0 (A : Option Addr) (n c : Nat) (s : Int) (w : World) : (Instr.field 96 (.agg #[.slice A n c, .int .i64 s]) 0).run Tryz.prog w = .ok (.slice A n c) w := by kernel_rfl
theorem field1 (A : Option Addr) (n c : Nat) (s : Int) (w : World) : (Instr.field 96 (.agg #[.slice A n c, .int .i64 s]) 1).run Tryz.prog w = .ok (.int .i64 s) w := by kernel_rfl
theorem keyed6 : Maps.Keyed Tryz.prog 9 := string_keyed Tryz.underlying9
theorem key6 {k : ByteArray} (hk : k.size ≤ maxLen) : keyOf Tryz.prog 9 (.string k) = some (.string k.toList) := by
  rw [keyOf_string_mk Tryz.underlying9 hk, Lib.toList_data]
def IsMf (w : World) (b N : Nat) (l : List Fi) : Prop := ∃ D, w.ownsMap Tryz.prog 9 fiR b N D ∧ RepF D l
def getF (l : List Fi) (k : ByteArray) : Fi := (findF l k).getD Fi.zero
/-- a disk: its block g, the map's block b -/
structure IsDk (w : World) (g b N : Nat) (l : List Fi) (lost armed : Bool) (left : Int) : Prop where
  at_ : At w g 92 [.map (some b), .bool lost, .bool armed, .int .i64 left]
  mp : IsMf w b N l
  own : ∀ x ∈ l, OwnB w 0 x.addr x.n x.c x.b ∧ 0 ≤ x.s ∧ x.s ≤ x.b.length
  ne : g ≠ b
  left0 : 0 ≤ left ∧ left < 9223372036854775808
section
variable {w w' : World} {g b N : Nat} {l : List Fi} {lost armed : Bool} {left : Int}
theorem IsMf.lt (h : IsMf w b N l) : b < w.heap.size := by obtain ⟨D, h1, _⟩ := h; exact h1.lt
theorem IsMf.asc (h : IsMf w b N l) : AscF l := by obtain ⟨D, _, h2⟩ := h; exact h2.asc
theorem IsMf.len_le (h : IsMf w b N l) : l.length ≤ N := by obtain ⟨D, h1, h2⟩ := h; rw [← h2.size]; exact h1.size_le
theorem IsMf.mod {M : Nat → Obj → Prop} (h : IsMf w b N l) (hm : Mod M w w') (hM : ∀ es clock, ¬ M b (.map es clock)) : IsMf w' b N l := by
  obtain ⟨D, ⟨es, clock, hb, r⟩, h2⟩ := h
  exact ⟨D, ⟨es, clock, hm.block b _ hb (hM _ _), r⟩, h2⟩
theorem IsMf.more {N' : Nat} (h : IsMf w b N l) (hN : N ≤ N') : IsMf w b N' l := by obtain ⟨D, h1, h2⟩ := h; exact ⟨D, h1.mono hN, h2⟩
theorem IsMf.not_cells (h : IsMf w b N l) {t : TypeId} {cs : List Value} {i : Nat} (hx : At w i t cs) : i ≠ b := by
  obtain ⟨D, ⟨es, clock, hb, r⟩, h2⟩ := h
  rintro rfl
  unfold At at hx
  rw [hb] at hx
  injection hx with hx
  cases hx
theorem IsMf.free (h : IsMf w b N l) {i : Nat} {o : Obj} {t : TypeId} (ho : w.heap[i]? = some o) (hit : IsT t o) : i ≠ b := by
  obtain ⟨D, ⟨es, clock, hb, r⟩, h2⟩ := h
  rintro rfl
  rw [ho] at hb
  injection hb with hb
  subst hb
  exact hit
theorem IsDk.lt (h : IsDk w g b N l lost armed left) : g < w.heap.size ∧ b < w.heap.size := ⟨h.at_.lt, h.mp.lt⟩
theorem IsDk.free (h : IsDk w g b N l lost armed left) {i : Nat} {o : Obj} {t : TypeId} (ho : w.heap[i]? = some o) (hit : IsT t o) (ht : t ≠ 92) : ¬ (i = g ∨ i = b) := by
  rintro (e | e)
  · exact isT_at h.at_ ho hit ht e
  · exact h.mp.free ho hit e
theorem IsDk.freeAt (h : IsDk w g b N l lost armed left) {i : Nat} {cs : List Value} {t : TypeId} (hx : At w i t cs) (ht : t ≠ 92) : ¬ (i = g ∨ i = b) := h.free hx (by rfl) ht
theorem IsDk.step (h : IsDk w g b N l lost armed left) (hb : Below w.heap.size w w') : IsDk w' g b N l lost armed left :=
  ⟨h.at_.below hb, h.mp.mod ((Mod.refl (fun _ _ => False) w).below hb) (by simp), fun x hx => ⟨own_below (show World.ownsRow _ _ _ _ _ _ _ from (h.own x hx).1) hb, (h.own x hx).2⟩, h.ne, h.left0⟩
theorem IsDk.drew (h : IsDk w g b N l lost armed left) : IsDk w.drew g b N l lost armed left := h.step (Below.drew (Below.refl _ _))
theorem IsDk.drewN (h : IsDk w g b N l lost armed left) (n : Nat) : IsDk (w.drewN n) g b N l lost armed left := h.step (below_drewN (Below.refl _ _) n)
theorem IsDk.more {N' : Nat} (h : IsDk w g b N l lost armed left) (hN : N ≤ N') : IsDk w g b N' l lost armed left := ⟨h.at_, h.mp.more hN, h.own, h.ne, h.left0⟩
/-- the disk's block is turned alone -/
theorem IsDk.turn {lost' armed' : Bool} {left' : Int} (h : IsDk w g b N l lost armed left) (hG : w.grownBy w' (some g)) (ha : At w' g 92 [.map (some b), .bool lost', .bool armed', .int .i64 left']) (hl : 0 ≤ left' ∧ left' < 9223372036854775808) : IsDk w' g b N l lost' armed' left' :=
  ⟨ha, h.mp.mod (grown_mod hG) (fun _ _ e => h.ne (by injection e)), fun x hx => ⟨own_mod (show World.ownsRow _ _ _ _ _ _ _ from (h.own x hx).1) (grown_mod hG) (fun i o ho _ hit e => isT_at h.at_ ho hit (by decide) (Option.some.inj e).symm), (h.own x hx).2⟩, h.ne, hl⟩
theorem own_map (h : IsDk w g b N l lost armed left) (hG : w.grownBy w' (some b)) {base s m : Nat} {e : TypeId} {v : Value} {xs : List Value} (hx : w.ownsRow base e s v m xs) : w'.ownsRow base e s v m xs :=
  own_mod hx (grown_mod hG) (fun i o ho _ hit e => h.mp.free ho hit (Option.some.inj e).symm)
theorem IsDk.find (h : IsDk w g b N l lost armed left) {k : ByteArray} (hf : (findF l k).isSome = true) : getF l k ∈ l ∧ (getF l k).k = k := by
  unfold getF
  cases hx : findF l k with
  | none => rw [hx] at hf; cases hf
  | some x =>
    unfold findF at hx
    exact ⟨List.mem_of_find?_eq_some hx, by have := List.find?_some hx; simpa using this⟩
/-- the bytes of a file, or none -/
theorem IsDk.get (h : IsDk w g b N l lost armed left) (k : ByteArray) : OwnB w 0 (getF l k).addr (getF l k).n (getF l k).c (getF l k).b ∧ 0 ≤ (getF l k).s ∧ (getF l k).s ≤ (getF l k).b.length := by
  cases hf : (findF l k).isSome with
  | true => exact h.own _ (h.find hf).1
  | false =>
    have e : getF l k = Fi.zero := by unfold getF; cases hx : findF l k with
      | none => rfl
      | some x => rw [hx] at hf; cases hf
    rw [e]
    exact ⟨OwnB.nil, by simp [Fi.zero], by simp [Fi.zero]⟩
theorem IsMf.look (h : IsMf w b N l) {k : ByteArray} (hk : k.size ≤ maxLen) : (Instr.lookup 90 (.map (some b)) (.string k) true).run Tryz.prog w = .ok (.tuple #[(getF l k).val, .bool (findF l k).isSome]) w := by
  obtain ⟨D, h1, h2⟩ := h
  obtain ⟨v, ps, hrun, hv⟩ := h1.look_ok keyed6 Tryz.underlying90 (zero_file w) (fiR_val Fi.zero) (key6 hk)
  rw [hrun, h2.has]
  cases hf : findF l k with
  | none =>
    rw [Maps.atKey_of_not_has (by rw [h2.has, hf]; rfl)] at hv
    rw [fiR_inv hv]
    simp [getF, hf]
  | some x =>
    rw [h2.at_ k x hf] at hv
    rw [fiR_inv hv]
    simp [getF, hf]
theorem IsMf.look1 (h : IsMf w b N l) {k : ByteArray} (hk : k.size ≤ maxLen) : (Instr.lookup 90 (.map (some b)) (.string k) false).run Tryz.prog w = .ok (getF l k).val w := by
  obtain ⟨D, h1, h2⟩ := h
  obtain ⟨v, ps, hrun, hv⟩ := h1.lookup keyed6 Tryz.underlying90 (zero_file w) (fiR_val Fi.zero) (key6 hk)
  rw [hrun]
  cases hf : findF l k with
  | none =>
    rw [Maps.atKey_of_not_has (by rw [h2.has, hf]; rfl)] at hv
    rw [fiR_inv hv]
    simp [getF, hf]
  | some x =>
    rw [h2.at_ k x hf] at hv
    rw [fiR_inv hv]
    simp [getF, hf]
theorem applyF_mem {e : Fi} {d : Bool} {l : List Fi} {x : Fi} (ha : AscF l) (h : x ∈ applyF e d l) : x = e ∨ x ∈ l := by
  obtain ⟨p, m, q, hc⟩ := cutF e.k l ha
  rw [hc.apply d] at h
  rw [hc.eq]
  simp only [List.mem_append] at h ⊢
  rcases h with h | h | h
  · exact .inr (.inl h)
  · cases d
    · simp at h; exact .inl h
    · simp at h
  · exact .inr (.inr (.inr h))
theorem IsDk.store (h : IsDk w g b N l lost armed left) (e : Fi) (hk : e.k.size ≤ maxLen) (hN : N < maxLen) (ho : OwnB w 0 e.addr e.n e.c e.b ∧ 0 ≤ e.s ∧ e.s ≤ e.b.length) :
    ∃ w', (Instr.mapUpdate 90 (.map (some b)) (.string e.k) e.val).run Tryz.prog w = .ok () w' ∧ IsDk w' g b (N + 1) (applyF e false l) lost armed left ∧ w.grownBy w' (some b) := by
  obtain ⟨D, h1, h2⟩ := h.mp
  obtain ⟨w', hrun, h3, h4⟩ := h1.update keyed6 Tryz.underlying90 hN (key6 hk) (fiR_val e)
  refine ⟨w', hrun, ⟨h.at_.only h4 h.ne, ⟨_, h3, h2.put e⟩, fun x hx => ?_, h.ne, h.left0⟩, h4⟩
  rcases applyF_mem h.mp.asc hx with rfl | hx
  · exact ⟨own_map h h4 (show World.ownsRow _ _ _ _ _ _ _ from ho.1), ho.2⟩
  · exact ⟨own_map h h4 (show World.ownsRow _ _ _ _ _ _ _ from (h.own x hx).1), (h.own x hx).2⟩
theorem IsDk.drop (h : IsDk w g b N l lost armed left) (e : Fi) (hk : e.k.size ≤ maxLen) (ty : TypeId) :
    ∃ w', (Builtin.delete_ #[90, 9] ty #[.map (some b), .string e.k]).run Tryz.prog w = .ok (.tuple #[]) w' ∧ IsDk w' g b N (applyF e true l) lost armed left ∧ w.grownBy w' (some b) := by
  obtain ⟨D, h1, h2⟩ := h.mp
  obtain ⟨w', hrun, h3, h4⟩ := h1.drop keyed6 Tryz.underlying90 (key6 hk) ty
  refine ⟨w', hrun, ⟨h.at_.only h4.grown h.ne, ⟨_, h3, h2.del e⟩, fun x hx => ?_, h.ne, h.left0⟩, h4.grown⟩
  have hx2 : x ∈ l := by
    obtain ⟨p, m, q, hc⟩ := cutF e.k l h.mp.asc
    rw [hc.apply true] at hx
    rw [hc.eq]
    simp only [List.mem_append] at hx ⊢
    rcases hx with hx | hx | hx
    · exact .inl hx
    · simp at hx
    · exact .inr (.inr hx)
  exact ⟨own_map h h4.grown (show World.ownsRow _ _ _ _ _ _ _ from (h.own x hx2).1), (h.own x hx2).2⟩
theorem IsMf.made (w : World) : IsMf (w.alloc (.map #[] 0)) w.heap.size 0 [] := ⟨_, World.ownsMap_made w Tryz.prog 9 fiR, RepF.nil⟩
end
theorem new_dk (w : World) : Calls Tryz.prog 8 #[] w fun r w' => ∃ g b, r = .returned (.pointer (some ⟨g, 0, none⟩)) ∧ IsDk w' g b 0 [] false false 0 ∧ w.heap.size ≤ b ∧ b < g ∧ Below w.heap.size w w' := by
  have hmm := run_makeMap (P := Tryz.prog) 90 w
  go_enter Tryz.func8, Tryz.ntmps8
  go_wp2_with fail
  go_ret
  have hb1 : Below w.heap.size w (w.alloc (.map #[] 0)) := (Below.refl _ _).alloc (Nat.le_refl _) _
  obtain ⟨h2, hb2⟩ := one_at (w.alloc (.map #[] 0)) 92 [.map (some w.heap.size), .bool false, .bool false, .int .i64 0]
  refine ⟨(w.alloc (.map #[] 0)).heap.size, w.heap.size, by simp, ⟨?_, ?_, by simp, by simp, by omega⟩, Nat.le_refl _, by simp, chain hb1 hb2⟩
  · simpa using h2
  · exact (IsMf.made w).mod ((Mod.refl (fun _ _ => False) _).below hb2) (by simp)
end Go.Proofs.YtnkjekkdndjfaaaGreat
namespace Go.Proofs.YtnkjekkdndjfaaaGreat
set_option linter.unusedVariables false
set_option linter.unusedSimpArgs false
open Go.RowKit
structure Wr where
  code : Int
  now : Bool
  lost : Bool
  left : Int
/-- is a write done? -/
def wrP (lost armed : Bool) (left : Int) : Wr :=
  if lost then ⟨12, false, true, left⟩
  else if armed && decide (left = 0) then ⟨12, true, true, left⟩
  else if armed then ⟨0, false, false, left - 1⟩
  else ⟨0, false, false, left⟩
section
variable {g b N : Nat} {l : List Fi} {lost armed : Bool} {left : Int}
set_option maxRecDepth 100000 in
set_option maxHeartbeats 1000000 in
theorem write_any (w : World) (h : IsDk w g b N l lost armed left) :
    Calls Tryz.prog 33 #[.pointer (some ⟨g, 0, none⟩)] w fun x w' => x = .returned (.tuple #[.int .i64 (wrP lost armed left).code, .bool (wrP lost armed left).now]) ∧ IsDk w' g b N l (wrP lost armed left).lost armed (wrP lost armed left).left ∧ w.grownBy w' (some g) := by
  obtain ⟨⟨x0, x1, x2, x3⟩, xf0, xf1, xf2, xf3⟩ := at4 h.at_
  have hl := h.left0
  have H := Lib.hid h
  clear h
  unfold wrP
  cases lost with
  | true =>
    go_enter Tryz.func33, Tryz.ntmps33
    go_wp2_with fail
    exact bodyPost_ret (v := .tuple #[.int .i64 12, .bool false]) (by simp [results, Tryz.results33, go_sem]) rfl ⟨rfl, H.out, World.grownBy.refl _ _⟩
  | false =>
    cases armed with
    | false =>
      go_enter Tryz.func33, Tryz.ntmps33
      go_wp2_with fail
      exact bodyPost_ret (v := .tuple #[.int .i64 0, .bool false]) (by simp [results, Tryz.results33, go_sem]) rfl ⟨rfl, H.out, World.grownBy.refl _ _⟩
    | true =>
      by_cases h0 : left = 0
      · subst h0
        have hS := grown_set w g 1 (.bool true)
        have ha := H.out.at_.set 1 (.bool true)
        dsimp only [List.set] at ha
        have ht := H.out.turn hS ha (by omega)
        have HT := Lib.hid ht
        have HS := Lib.hid hS
        clear ht hS ha
        go_enter Tryz.func33, Tryz.ntmps33
        go_wp2_with fail
        exact bodyPost_ret (v := .tuple #[.int .i64 12, .bool true]) (by simp [results, Tryz.results33, go_sem]) rfl ⟨rfl, HT.out, HS.out⟩
      · have hb0 : (left == 0) = false := beq_eq_false_iff_ne.mpr h0
        have hw : IntKind.i64.wrap (left - 1) = left - 1 := IntWalk.i64_in _ (by omega)
        have hS := grown_set w g 3 (.int .i64 (left - 1))
        have ha := H.out.at_.set 3 (.int .i64 (left - 1))
        dsimp only [List.set] at ha
        have ht := H.out.turn hS ha (by omega)
        have HT := Lib.hid ht
        have HS := Lib.hid hS
        clear ht hS ha
        go_enter Tryz.func33, Tryz.ntmps33
        go_wp2_with fail
        exact bodyPost_ret (v := .tuple #[.int .i64 0, .bool false]) (by simp [results, Tryz.results33, go_sem]) rfl ⟨by simp [h0], by simpa [h0] using HT.out, HS.out⟩
theorem there_nil (k : ByteArray) (w : World) : Calls Tryz.prog 49 #[.pointer none, .string k] w fun x w' => x = .returned (.int .i64 2) ∧ w = w' := by
  go_enter Tryz.func49, Tryz.ntmps49
  go_wp2_with fail
  go_ret
  exact ⟨rfl, rfl⟩
set_option maxRecDepth 100000 in
set_option maxHeartbeats 1000000 in
theorem there_any (k : ByteArray) (hk : k.size ≤ maxLen) (w : World) (h : IsDk w g b N l lost armed left) :
    Calls Tryz.prog 49 #[.pointer (some ⟨g, 0, none⟩), .string k] w fun x w' => x = .returned (.int .i64 (if (findF l k).isSome then 0 else 6)) ∧ Below w.heap.size w w' := by
  obtain ⟨⟨x0, x1, x2, x3⟩, xf⟩ := at4 h.at_
  have hlk := h.mp.look hk
  generalize getF l k = y at *
  generalize (findF l k).isSome = yo at *
  clear h
  obtain ⟨yk, yb, yA, yn, yc, ys⟩ := y
  unfold Fi.val at hlk
  simp only at hlk
  generalize Fi.addr _ = A at *
  have hb := (one_at w 96 [.slice A yn yc, .int .i64 ys]).2
  cases yo with
  | true =>
    go_enter Tryz.func49, Tryz.ntmps49
    go_wp2_with fail
    go_ret
    exact ⟨rfl, hb⟩
  | false =>
    go_enter Tryz.func49, Tryz.ntmps49
    go_wp2_with fail
    go_ret
    exact ⟨rfl, hb⟩
set_option maxRecDepth 100000 in
theorem sure_any (k : ByteArray) (hk : k.size ≤ maxLen) (w : World) (h : IsDk w g b N l lost armed left) : Calls Tryz.prog 112 #[.pointer (some ⟨g, 0, none⟩), .string k] w fun x w' => x = .returned (.int .i64 (getF l k).s) ∧ w = w' := by
  obtain ⟨⟨x0, x1, x2, x3⟩, xf⟩ := at4 h.at_
  have hlk := h.mp.look1 hk
  generalize getF l k = y at *
  obtain ⟨yk, yb, yA, yn, yc, ys⟩ := y
  unfold Fi.val at hlk
  simp only at hlk ⊢
  clear h
  generalize Fi.addr _ = A at *
  have hf1 := fun w => field1 A yn yc ys w
  go_enter Tryz.func112, Tryz.ntmps112
  go_wp2_with fail
  go_ret
  exact ⟨rfl, rfl⟩
theorem sure_nil (k : ByteArray) (w : World) : Calls Tryz.prog 112 #[.pointer none, .string k] w fun x w' => x = .returned (.int .i64 0) ∧ w = w' := by
  go_enter Tryz.func112, Tryz.ntmps112
  go_wp2_with fail
  go_ret
  exact ⟨rfl, rfl⟩
theorem arm_nil (n : Int) (w : World) : Calls Tryz.prog 15 #[.pointer none, .int .i64 n] w fun x w' => x = .returned (.tuple #[]) ∧ w = w' := by
  go_enter Tryz.func15, Tryz.ntmps15
  go_wp2_with fail
  go_end0
  exact ⟨rfl, rfl⟩
set_option maxRecDepth 100000 in
set_option maxHeartbeats 1000000 in
theorem arm_any (n : Int) (hn : n < 9223372036854775808) (w : World) (h : IsDk w g b N l lost armed left) :
    Calls Tryz.prog 15 #[.pointer (some ⟨g, 0, none⟩), .int .i64 n] w fun x w' => x = .returned (.tuple #[]) ∧ IsDk w' g b N l lost true (if n < 0 then 0 else n) ∧ w.grownBy w' (some g) := by
  obtain ⟨⟨x0, x1, x2, x3⟩, xf0, xf1, xf2, xf3⟩ := at4 h.at_
  obtain ⟨m, hm⟩ : ∃ m, (if n < 0 then 0 else n) = m := ⟨_, rfl⟩
  have hm0 : 0 ≤ m ∧ m < 9223372036854775808 := by split at hm <;> omega
  have hmax : max n 0 = m := by rw [← hm]; split <;> omega
  rw [hm]
  obtain ⟨hat, hG⟩ := At.many [(2, .bool true), (3, .int .i64 m)] h.at_
  dsimp only [setMany, setL, List.set] at hat hG
  have ht := h.turn hG hat hm0
  have HT := Lib.hid ht
  have HG := Lib.hid hG
  clear ht hG hat h hm
  go_enter Tryz.func15, Tryz.ntmps15
  go_wp2_with fail
  go_end0
  exact ⟨rfl, HT.out, HG.out⟩
/-- what is read -/
def rdCode (l : List Fi) (lost : Bool) (k : ByteArray) : Int := if (findF l k).isSome then (if lost then 12 else 0) else 6
def rdBytes (l : List Fi) (lost : Bool) (k : ByteArray) : List UInt8 := if (findF l k).isSome && !lost then (getF l k).b else []
theorem dread_nil (k : ByteArray) (w : World) : Calls Tryz.prog 23 #[.pointer none, .string k] w fun x w' => x = .returned (.tuple #[.slice none 0 0, .int .i64 2]) ∧ w = w' := by
  have HT := there_nil k w
  go_enter Tryz.func23, Tryz.ntmps23
  go_wp2_with (((with_reducible refine (HT).mono ?_); rintro z v ⟨rfl, rfl⟩))
  exact bodyPost_ret (v := .tuple #[.slice none 0 0, .int .i64 2]) (by simp [results, Tryz.results23, go_sem]) rfl ⟨rfl, rfl⟩
set_option maxRecDepth 100000 in
set_option maxHeartbeats 1000000 in
theorem dread_any (k : ByteArray) (hk : k.size ≤ maxLen) (w : World) (h : IsDk w g b N l lost armed left) (hsz : ∀ x ∈ l, x.b.length ≤ 1099511627776) :
    Calls Tryz.prog 23 #[.pointer (some ⟨g, 0, none⟩), .string k] w fun x w' => ∃ A n c, x = .returned (.tuple #[.slice A n c, .int .i64 (rdCode l lost k)]) ∧ OwnB w' w.heap.size A n c (rdBytes l lost k) ∧ Below w.heap.size w w' := by
  have HT := there_any k hk w h
  unfold rdCode rdBytes
  cases hf : (findF l k).isSome with
  | false =>
    rw [hf] at HT
    simp only [Bool.false_eq_true, if_false] at HT
    clear h
    go_enter Tryz.func23, Tryz.ntmps23
    go_wp2_with (((with_reducible refine (HT).mono ?_); rintro z w1 ⟨rfl, hb1⟩))
    exact bodyPost_ret (v := .tuple #[.slice none 0 0, .int .i64 6]) (by simp [results, Tryz.results23, go_sem]) rfl ⟨none, 0, 0, rfl, OwnB.nil, hb1⟩
  | true =>
    rw [hf] at HT
    simp only [if_true] at HT
    have hmem := h.find hf
    have hs2 := hsz _ hmem.1
    clear hsz hmem
    obtain ⟨y, hY⟩ : ∃ y, getF l k = y := ⟨_, rfl⟩
    rw [hY] at hs2 ⊢
    have HY := Lib.hid hY
    clear hY
    obtain ⟨yk, yb, yA, yn, yc, ys⟩ := y
    simp only at hs2 ⊢
    go_enter Tryz.func23, Tryz.ntmps23
    go_upto_region 4 with (((with_reducible refine (HT).mono ?_); rintro z w1 ⟨rfl, hb1⟩))
    replace h := h.step hb1
    obtain ⟨⟨x0, x1, x2, x3⟩, xf⟩ := at4 h.at_
    have hg := (h.get k).1
    have hlk := h.mp.look1 hk
    rw [HY.out] at hg hlk
    unfold Fi.val at hlk
    simp only at hlk hg
    generalize Fi.addr _ = A at *
    have hyn := hg.length
    have hf0 := fun w => field0 A yn yc ys w
    have HCL := clone_any A yn yc yb w1 hg.rd (by omega)
    clear h HT
    cases lost with
    | true =>
      go_wp2_with fail
      exact bodyPost_ret (v := .tuple #[.slice none 0 0, .int .i64 12]) (by simp [results, Tryz.results23, go_sem]) rfl ⟨none, 0, 0, rfl, OwnB.nil, hb1⟩
    | false =>
      go_wp2_with (((with_reducible refine (HCL).mono ?_); rintro z w2 ⟨A2, c2, rfl, hown, hb2⟩))
      exact bodyPost_ret (v := .tuple #[.slice A2 yn c2, .int .i64 0]) (by simp [results, Tryz.results23, go_sem]) rfl ⟨A2, yn, c2, rfl, own_lower (show World.ownsRow _ _ _ _ _ _ _ from hown) hb1.size, chain hb1 hb2⟩
end
end Go.Proofs.YtnkjekkdndjfaaaGreat
