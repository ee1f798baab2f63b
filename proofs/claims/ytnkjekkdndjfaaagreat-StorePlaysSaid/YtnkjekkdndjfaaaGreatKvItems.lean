
/- Chapter 9: rows of items; what begins so; the keys, sorted. -/
import Derived.Test.YtnkjekkdndjfaaaGreatKv
namespace Go.Proofs.YtnkjekkdndjfaaaGreat
set_option linter.unusedVariables false
set_option linter.unusedSimpArgs false
open Go.RowKit Go.Maps Go.WideMaps Go.ChangeMaps
theorem it_one (x : It) : ∀ u ∈ x.row, u.oneCell' = true := by intro u hu; simp [It.row] at hu; rcases hu with rfl | rfl | rfl <;> rfl
theorem its_one (l : List It) : ∀ u ∈ l.flatMap It.row, u.oneCell' = true := by
  intro u hu
  obtain ⟨x, _, h⟩ := List.mem_flatMap.1 hu
  exact it_one x u h
theorem its_len (l : List It) : (l.flatMap It.row).length = l.length * 3 := flat_length It.row_length l
theorem its_append (l m : List It) : (l ++ m).flatMap It.row = l.flatMap It.row ++ m.flatMap It.row := by rw [List.flatMap_append]
theorem info_ritem : (Tryz.prog.info? 108).map (fun i => (i.zero, i.size, i.bytes)) = some (some (Value.agg #[.string ⟨#[]⟩, .string ⟨#[]⟩, .int .i64 0]), 3, 40) := by kernel_rfl
abbrev RdI (w : World) (B : Nat) (A : Option Addr) (n c : Nat) (l : List It) : Prop := Rd w B 3 A n c (l.flatMap It.row)
def OwnI (w : World) (B : Nat) (A : Option Addr) (n c : Nat) (l : List It) : Prop := w.ownsRow B 35 3 (.slice A n c) n (l.flatMap It.row)
def OwnRI (w : World) (B : Nat) (A : Option Addr) (n c : Nat) (l : List It) : Prop := w.ownsRow B 108 3 (.slice A n c) n (l.flatMap It.row)
section
variable {w w' : World} {B B' n c : Nat} {A : Option Addr} {l : List It}
theorem OwnI.step (h : OwnI w B A n c l) (hb : Below w.heap.size w w') : OwnI w' B A n c l := own_below h hb
theorem OwnRI.step (h : OwnRI w B A n c l) (hb : Below w.heap.size w w') : OwnRI w' B A n c l := own_below h hb
theorem OwnI.lower (h : OwnI w B A n c l) (hb : B' ≤ B) : OwnI w B' A n c l := own_lower h hb
theorem OwnRI.lower (h : OwnRI w B A n c l) (hb : B' ≤ B) : OwnRI w B' A n c l := own_lower h hb
theorem OwnI.len (h : OwnI w B A n c l) : n = l.length := by have := h.1; rw [its_len] at this; omega
theorem OwnRI.len (h : OwnRI w B A n c l) : n = l.length := by have := h.1; rw [its_len] at this; omega
theorem OwnI.rd (h : OwnI w B A n c l) : RdI w w.heap.size A n c l := Rd.of_own h
theorem OwnRI.rd (h : OwnRI w B A n c l) : RdI w w.heap.size A n c l := Rd.of_own h
theorem RdI.len (h : RdI w B A n c l) : l.length = n := Rd.count It.row_length (by omega) h
theorem OwnI.nil : OwnI w B none 0 0 [] := World.ownsRow_nil _ _ _ _
theorem OwnRI.nil : OwnRI w B none 0 0 [] := World.ownsRow_nil _ _ _ _
end
/-- append(s, x...) of the program's items -/
theorem app_i {ops : Array Oper} {rest : List Oper} {o : Oper} {a : Act} {w : World} {Q : Exit → Act → World → Prop} (hgd : o.guard = none) (s x : Operand)
    (ho : o.op = .call { callee := .builtin .append, args := #[s, x], argTypes := #[31, 31] })
    {base : Nat} {A' : Option Addr} {n c' : Nat} {l : List It} (hs : a.eval s = .slice A' n c') (hown : OwnI w base A' n c' l)
    {B : Nat} {A : Option Addr} {m c : Nat} (y : List It) (hx : a.eval x = .slice A m c) (hr : RdI w B A m c y) (hbase : base ≤ w.heap.size) (hsz : n + m ≤ 1099511627776)
    (h : ∀ A2 c2 w', OwnI w' base A2 (n + m) c2 (l ++ y) → w.grownBy w' (Value.slice A' n c').ownBlock → Below base w w' → wpList Tryz.prog ops Q rest (a.put o.dst (.slice A2 (n + m) c2)) w') : wpList Tryz.prog ops Q (o :: rest) a w := by
  obtain ⟨i0, hi0, hz0, hz1, hz2⟩ := info_parts info_item
  refine wpList_app w hgd s x _ ho base 35 i0 _ 3 40 Tryz.underlying31 hi0 hz0 hz1 hz2 rfl (by omega) A' n c' _ hs hown B A m c _ hx hr (its_one y) ?_ (by omega) (by simp only [maxLen]; omega) hbase
  intro A2 c2 w' h1 h2 _ _
  exact h A2 c2 w' (by unfold OwnI; rw [its_append]; exact h1) h2 (below_of_app hown h2 hbase)
/-- .. and of the reference's -/
theorem app_ri {ops : Array Oper} {rest : List Oper} {o : Oper} {a : Act} {w : World} {Q : Exit → Act → World → Prop} (hgd : o.guard = none) (s x : Operand)
    (ho : o.op = .call { callee := .builtin .append, args := #[s, x], argTypes := #[39, 39] })
    {base : Nat} {A' : Option Addr} {n c' : Nat} {l : List It} (hs : a.eval s = .slice A' n c') (hown : OwnRI w base A' n c' l)
    {B : Nat} {A : Option Addr} {m c : Nat} (y : List It) (hx : a.eval x = .slice A m c) (hr : RdI w B A m c y) (hbase : base ≤ w.heap.size) (hsz : n + m ≤ 1099511627776)
    (h : ∀ A2 c2 w', OwnRI w' base A2 (n + m) c2 (l ++ y) → w.grownBy w' (Value.slice A' n c').ownBlock → Below base w w' → wpList Tryz.prog ops Q rest (a.put o.dst (.slice A2 (n + m) c2)) w') : wpList Tryz.prog ops Q (o :: rest) a w := by
  obtain ⟨i0, hi0, hz0, hz1, hz2⟩ := info_parts info_ritem
  refine wpList_app w hgd s x _ ho base 108 i0 _ 3 40 Tryz.underlying39 hi0 hz0 hz1 hz2 rfl (by omega) A' n c' _ hs hown B A m c _ hx hr (its_one y) ?_ (by omega) (by simp only [maxLen]; omega) hbase
  intro A2 c2 w' h1 h2 _ _
  exact h A2 c2 w' (by unfold OwnRI; rw [its_append]; exact h1) h2 (below_of_app hown h2 hbase)
/-- does a key begin so? -/
def begB (a k : ByteArray) : Bool := decide (a.size ≤ k.size) && decide (k.extract 0 a.size = a)
theorem asc_keys {l : List It} (h : Asc l) : (l.map fun x => x.k.toList).Pairwise fun a b => a < b := by
  rw [List.pairwise_map]
  exact h.imp fun hab => (kless_iff _ _).1 hab
/-- the keys of what stands for a rising list, sorted -/
theorem RepD.sorted {w : World} {b N : Nat} {D : DataW Unit} {l : List It} (h : RepD D l) (ho : w.ownsMap Tryz.prog 9 itR b N D) {ss : List (List UInt8)} (hs : ss.Perm (strKeys D)) : ss.mergeSort leB = l.map fun x => x.k.toList := by
  have hasc := asc_keys h.asc
  have hp : (l.map fun x => x.k.toList).Perm (strKeys D) := by
    obtain ⟨es, he, hp⟩ := h.tidy
    have hks := ho.keysOf
    obtain ⟨es', he', hk⟩ := hks
    rw [he] at he'
    injection he' with he'
    subst he'
    rw [he]
    refine perm_strKeys hp (fun p hp' => ?_) (hasc.imp fun hab e => by rw [e] at hab; exact List.lt_irrefl _ hab) fun x => ?_
    · obtain ⟨key, hkey⟩ := hk p hp'
      obtain ⟨x, _, hx, _⟩ := Maps.keyOf_str Tryz.underlying9 hkey
      exact ⟨x, hx⟩
    · have hh := h.has ⟨x.toArray⟩
      rw [Lib.toList_data] at hh
      simp only at hh
      rw [he] at hh
      rw [hh]
      unfold findI
      rw [List.find?_isSome, List.mem_map]
      constructor
      · rintro ⟨y, hy, e⟩
        refine ⟨y, hy, ?_⟩
        rw [decide_eq_true_iff]
        apply ba_ext
        rw [e, Lib.toList_data]
      · rintro ⟨y, hy, e⟩
        rw [decide_eq_true_iff] at e
        exact ⟨y, hy, by rw [e, Lib.toList_data]⟩
  rw [mergeSort_of_perm (hs.trans hp.symm)]
  refine List.mergeSort_of_pairwise (hasc.imp fun hab => ?_)
  simp only [leB, decide_eq_true_eq]
  exact List.le_of_lt hab
end Go.Proofs.YtnkjekkdndjfaaaGreat
