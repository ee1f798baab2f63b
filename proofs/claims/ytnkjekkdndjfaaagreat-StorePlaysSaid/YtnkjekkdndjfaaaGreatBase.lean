
/- Words for the walks of this seat: a slice that reads as a list of cells; a row of the call's own; an append whose source is any readable slice. No program is named here. -/
import Derived.WalkKit
import Derived.WalkSpells
import Derived.WalkLawsBesides
import Derived.Below
import Derived.Outline
import Derived.OwnWalk
import Derived.Maps.AppendAt
import Derived.Laws.OwnMore
import Derived.Deep.Draws
import Derived.Lib.Hide
import Derived.Laws.BitsAllLaws
import Derived.Laws.Bits64
import Derived.Laws.BitsLemmas
namespace Go.Proofs.YtnkjekkdndjfaaaGreat
set_option linter.unusedSimpArgs false
set_option linter.unusedVariables false
open Go.RowKit

/-- The slice value '.slice A n c' reads in w as the cells xs (s cells an element); all of them lie below block B. -/
structure Rd (w : World) (B s : Nat) (A : Option Addr) (n c : Nat) (xs : List Value) : Prop where
  len : xs.length = n * s
  le : n ≤ c
  max : c ≤ maxLen
  cells : 0 < c → ∃ g off, A = some ⟨g, off, none⟩ ∧ g < B ∧ ∀ j u, xs[j]? = some u → w.cell? ⟨g, off + j, none⟩ = some u

section
variable {w w' : World} {B B' s n c : Nat} {A : Option Addr} {xs : List Value}

theorem Rd.nil : Rd w B s none 0 0 [] := ⟨by simp, Nat.le_refl _, by simp [maxLen], fun h => absurd h (by omega)⟩

theorem Rd.keep (h : Rd w B s A n c xs) (hk : ∀ p : Addr, p.block < B → w'.cell? p = w.cell? p) : Rd w' B s A n c xs :=
  ⟨h.len, h.le, h.max, fun hc => by
    obtain ⟨g, off, e, hg, hcell⟩ := h.cells hc
    exact ⟨g, off, e, hg, fun j u hu => (hk _ hg).trans (hcell j u hu)⟩⟩

theorem Rd.more (h : Rd w B s A n c xs) (hB : B ≤ B') : Rd w B' s A n c xs :=
  ⟨h.len, h.le, h.max, fun hc => by
    obtain ⟨g, off, e, hg, hcell⟩ := h.cells hc
    exact ⟨g, off, e, Nat.lt_of_lt_of_le hg hB, hcell⟩⟩

theorem Rd.below (h : Rd w B s A n c xs) (hb : Below B w w') : Rd w' B s A n c xs := h.keep fun _ hp => hb.cell hp
theorem Rd.drewN (h : Rd w B s A n c xs) (k : Nat) : Rd (w.drewN k) B s A n c xs := h.keep fun _ _ => rfl
theorem Rd.alloc (h : Rd w B s A n c xs) (hB : B ≤ w.heap.size) (o : Obj) : Rd (w.alloc o) B s A n c xs := h.keep fun p hp => World.cell?_alloc_lt w o p (by omega)
theorem Rd.setCell (h : Rd w B s A n c xs) {p : Addr} (hB : B ≤ p.block) (u : Value) : Rd (w.setCell p u) B s A n c xs :=
  h.keep fun q hq => World.cell?_setCell_other w p q u (fun e => by subst e; omega)
theorem Rd.grown (h : Rd w B s A n c xs) {row : Option Nat} (hg : w.grownBy w' row) (hB : B ≤ w.heap.size) (hr : ∀ g, row = some g → B ≤ g) : Rd w' B s A n c xs :=
  h.keep fun p hp => World.cell?_of_block (hg.block p.block (by omega) (fun e => by have := hr _ e.symm; omega))

/-- one element of one cell -/
theorem Rd.get (h : Rd w B 1 A n c xs) {k : Nat} (hk : k < n) : ∃ g off u, A = some ⟨g, off, none⟩ ∧ g < B ∧ xs[k]? = some u ∧ w.cell? ⟨g, off + k, none⟩ = some u := by
  obtain ⟨g, off, e, hg, hcell⟩ := h.cells (Nat.lt_of_lt_of_le (Nat.lt_of_le_of_lt (Nat.zero_le _) hk) h.le)
  have hl : k < xs.length := by have := h.len; omega
  exact ⟨g, off, xs[k], e, hg, List.getElem?_eq_getElem hl, hcell k _ (List.getElem?_eq_getElem hl)⟩

/-- s[:k], k at most the length -/
theorem Rd.take (h : Rd w B s A n c xs) {k c' : Nat} (hk : k ≤ n) (hkc : k ≤ c') (hc : c' ≤ c) : Rd w B s A k c' (xs.take (k * s)) := by
  refine ⟨?_, hkc, Nat.le_trans hc h.max, fun h0 => ?_⟩
  · rw [List.length_take, h.len]; exact Nat.min_eq_left (Nat.mul_le_mul_right s hk)
  · obtain ⟨g, off, e, hg, hcell⟩ := h.cells (by omega)
    refine ⟨g, off, e, hg, fun j u hu => hcell j u ?_⟩
    rw [List.getElem?_take] at hu
    split at hu
    · exact hu
    · cases hu

/-- s[k:] -/
theorem Rd.drop (h : Rd w B s A n c xs) {k : Nat} (hk : k ≤ n) : Rd w B s (if c = k then A else A.map (·.add (k * s))) (n - k) (c - k) (xs.drop (k * s)) := by
  refine ⟨by rw [List.length_drop, h.len, Nat.sub_mul], by have := h.le; omega, by have := h.max; omega, fun h0 => ?_⟩
  obtain ⟨g, off, e, hg, hcell⟩ := h.cells (by omega)
  rw [if_neg (by omega), e]
  refine ⟨g, off + k * s, ?_, hg, fun j u hu => ?_⟩
  · simp only [Option.map_some, Addr.add]
    by_cases h1 : k * s = 0 <;> simp [h1]
  · rw [Nat.add_assoc]
    exact hcell _ u (by rw [← hu, List.getElem?_drop])

theorem Rd.of_own {base : Nat} {e : TypeId} (h : w.ownsRow base e s (.slice A n c) n xs) : Rd w w.heap.size s A n c xs := by
  obtain ⟨h1, h2⟩ := h
  rcases h2 with ⟨hv, hn⟩ | ⟨g, cap, cur, hv, hb, hg, hn, hm, hs, ht⟩
  · injection hv with e1 e2 e3
    subst e1; subst e2; subst e3
    have : xs = [] := List.eq_nil_of_length_eq_zero (by rw [h1]; simp)
    subst this
    exact Rd.nil
  · injection hv with e1 e2 e3
    subst e1; subst e3
    refine ⟨h1, hn, hm, fun _ => ⟨g, 0, rfl, (Array.getElem?_eq_some_iff.1 hg).1, fun j u hu => ?_⟩⟩
    subst ht
    rw [List.getElem?_take] at hu
    split at hu
    · simp only [World.cell?, hg]
      simpa using hu
    · cases hu
end

/-! rows of structs: each element the cells 'row y', F of them -/
section
variable {α : Type} {row : α → List Value} {F : Nat}
theorem flat_length (hF : ∀ y, (row y).length = F) (l : List α) : (l.flatMap row).length = l.length * F := by
  induction l with
  | nil => simp
  | cons y l ih => simp [ih, hF, Nat.succ_mul, Nat.add_comm]

theorem flat_some (hF : ∀ y, (row y).length = F) : ∀ (l : List α) (j : Nat) (u : Value), (l.flatMap row)[j]? = some u → ∃ i r y, l[i]? = some y ∧ j = i * F + r ∧ r < F ∧ (row y)[r]? = some u
  | [], j, u, h => by simp at h
  | y :: l, j, u, h => by
    rw [List.flatMap_cons] at h
    by_cases hj : j < F
    · rw [List.getElem?_append_left (by rw [hF]; exact hj)] at h
      exact ⟨0, j, y, rfl, by simp, hj, h⟩
    · rw [List.getElem?_append_right (by rw [hF]; omega), hF] at h
      obtain ⟨i, r, y', h1, h2, h3, h4⟩ := flat_some hF l (j - F) u h
      exact ⟨i + 1, r, y', h1, by rw [Nat.succ_mul]; omega, h3, h4⟩

theorem flat_get (hF : ∀ y, (row y).length = F) : ∀ (l : List α) (i : Nat) (y : α) (r : Nat), l[i]? = some y → r < F → (l.flatMap row)[i * F + r]? = (row y)[r]?
  | [], i, y, r, h, _ => by simp at h
  | z :: l, 0, y, r, h, hr => by
    simp at h
    subst h
    rw [List.flatMap_cons, List.getElem?_append_left (by rw [hF]; omega)]
    simp
  | z :: l, i + 1, y, r, h, hr => by
    rw [List.flatMap_cons, List.getElem?_append_right (by rw [hF, Nat.succ_mul]; omega), hF]
    rw [show (i + 1) * F + r - F = i * F + r from by rw [Nat.succ_mul]; omega]
    exact flat_get hF l i y r (by simpa using h) hr

/-- element k, all its cells -/
theorem Rd.elem {w : World} {B n c : Nat} {A : Option Addr} {l : List α} (hF : ∀ y, (row y).length = F) (hpos : 0 < F) (h : Rd w B F A n c (l.flatMap row)) {k : Nat} (hk : k < l.length) :
    ∃ g off, A = some ⟨g, off, none⟩ ∧ g < B ∧ ∀ r u, (row l[k])[r]? = some u → w.cell? ⟨g, off + k * F + r, none⟩ = some u := by
  have hlen := h.len
  rw [flat_length hF] at hlen
  have hn : n = l.length := (Nat.eq_of_mul_eq_mul_right hpos hlen).symm
  obtain ⟨g, off, e, hg, hcell⟩ := h.cells (by have := h.le; omega)
  refine ⟨g, off, e, hg, fun r u hu => ?_⟩
  rw [Nat.add_assoc]
  refine hcell _ _ ?_
  have hr : r < F := by have := (List.getElem?_eq_some_iff.1 hu).1; rw [hF] at this; exact this
  rw [flat_get hF l k l[k] r (List.getElem?_eq_getElem hk) hr]
  exact hu

theorem Rd.count {w : World} {B n c : Nat} {A : Option Addr} {l : List α} (hF : ∀ y, (row y).length = F) (hpos : 0 < F) (h : Rd w B F A n c (l.flatMap row)) : l.length = n := by
  have hlen := h.len
  rw [flat_length hF] at hlen
  exact Nat.eq_of_mul_eq_mul_right hpos hlen
end

/-- bytes as cells -/
def bys (l : List UInt8) : List Value := l.map fun c => .int .u8 (c.toNat : Int)
theorem bys_length (l : List UInt8) : (bys l).length = l.length := by simp [bys]
theorem bys_append (l m : List UInt8) : bys (l ++ m) = bys l ++ bys m := by simp [bys]
theorem bys_get {l : List UInt8} {k : Nat} {u : Value} (h : (bys l)[k]? = some u) : ∃ c, l[k]? = some c ∧ u = .int .u8 (c.toNat : Int) := by
  simp only [bys, List.getElem?_map, Option.map_eq_some_iff] at h
  obtain ⟨c, h1, h2⟩ := h
  exact ⟨c, h1, h2.symm⟩
theorem bys_one (l : List UInt8) : ∀ u ∈ bys l, u.oneCell' = true := by
  intro u hu
  simp only [bys, List.mem_map] at hu
  obtain ⟨c, _, rfl⟩ := hu
  rfl

section
variable {P : Program} (w : World)

theorem append_nil_src (base : Nat) (t ty e : TypeId) (i : TypeInfo) (size : Nat) (ht : P.underlying t = some (.slice e)) (hi : P.info? e = some i)
    (v : Value) (n : Nat) (xs : List Value) (hown : w.ownsRow base e size v n xs) (c : Nat) : (Builtin.append_ #[t, t] ty #[v, .slice none 0 c]).run P w = .ok v w := by
  rcases hown.2 with ⟨rfl, rfl⟩ | ⟨g, cap, cur, rfl, _, _, hnc, _⟩
  · simp [Builtin.append_, run_underlying ht, sizeOf, typeInfo, hi, Builtin.lenOf, Builtin.firstCells]
  · simp [Builtin.append_, run_underlying ht, sizeOf, typeInfo, hi, Builtin.lenOf, Builtin.firstCells, hnc, storeCells]

theorem run_app (base : Nat) (t ty e : TypeId) (i : TypeInfo) (z : Value) (size bytes : Nat) (ht : P.underlying t = some (.slice e)) (hi : P.info? e = some i) (hz : i.zero = some z)
    (hsize : i.size = size) (hby : i.bytes = bytes) (hzs : z.cells.size = size) (hsz : 0 < size)
    (A' : Option Addr) (n c' : Nat) (xs : List Value) (hown : w.ownsRow base e size (.slice A' n c') n xs)
    (B : Nat) (A : Option Addr) (m c : Nat) (news : List Value) (hr : Rd w B size A m c news) (h1 : ∀ u ∈ news, u.oneCell' = true)
    (hbytes : (n + m) * bytes ≤ 140737488355328) (h63 : n + m ≤ maxLen) (hbase : base ≤ w.heap.size) :
    ∃ A2 c2 w', (Builtin.append_ #[t, t] ty #[.slice A' n c', .slice A m c]).run P w = .ok (.slice A2 (n + m) c2) w' ∧ w'.ownsRow base e size (.slice A2 (n + m) c2) (n + m) (xs ++ news) ∧
      w.grownBy w' (Value.slice A' n c').ownBlock ∧ ((Value.slice A2 (n + m) c2).ownBlock = (Value.slice A' n c').ownBlock ∨ (Value.slice A2 (n + m) c2).ownBlock = some w.heap.size) ∧
      (Value.slice A2 (n + m) c2 = .slice none 0 0 ↔ Value.slice A' n c' = .slice none 0 0 ∧ m = 0) := by
  rcases A with _ | ad
  · have hc : c = 0 := by
      rcases Nat.eq_zero_or_pos c with h0 | h0
      · exact h0
      · obtain ⟨g, off, e, _⟩ := hr.cells h0
        cases e
    have hm : m = 0 := by have := hr.le; omega
    subst hm
    have hn : news = [] := List.eq_nil_of_length_eq_zero (by rw [hr.len]; simp)
    subst hn
    exact ⟨A', c', w, append_nil_src w base t ty e i size ht hi _ n xs hown c, by simpa using hown, World.grownBy.refl w _, .inl rfl, by simp⟩
  · have hcells : ∀ j u, news[j]? = some u → w.cell? (ad.add j) = some u := by
      intro j u hu
      have hj : j < news.length := (List.getElem?_eq_some_iff.1 hu).1
      have hm : 0 < m := by
        rcases Nat.eq_zero_or_pos m with h0 | h0
        · subst h0
          rw [hr.len] at hj
          omega
        · exact h0
      obtain ⟨g, off, e, _, hcell⟩ := hr.cells (by have := hr.le; omega)
      injection e with e
      subst e
      have := hcell j u hu
      unfold Addr.add
      by_cases h0 : j = 0
      · subst h0; simpa using this
      · simpa [h0] using this
    obtain ⟨v', w', hrun, h2, h3, h4, h5⟩ := run_append_own_at (P := P) w base t ty e i z size bytes ht hi hz hsize hby hzs hsz _ n xs hown ad m c news hr.len hcells h1 h63 hbytes hbase
    have hform : ∃ A2 c2, v' = .slice A2 (n + m) c2 := by
      rcases h2.2 with ⟨rfl, h0⟩ | ⟨g, cap, cur, rfl, _⟩
      · exact ⟨none, 0, by rw [h0]⟩
      · exact ⟨_, _, rfl⟩
    obtain ⟨A2, c2, rfl⟩ := hform
    exact ⟨A2, c2, w', hrun, h2, h3, h5, h4⟩

/-- the operation 'append(s, x...)' in a walk: s a row of the call's own (or nil), x any readable slice -/
theorem wpList_app {ops : Array Oper} {rest : List Oper} {o : Oper} {a : Act} {Q : Exit → Act → World → Prop} (hgd : o.guard = none) (s x : Operand) (t : TypeId)
    (ho : o.op = .call { callee := .builtin .append, args := #[s, x], argTypes := #[t, t] })
    (base : Nat) (e : TypeId) (i : TypeInfo) (z : Value) (size bytes : Nat) (ht : P.underlying t = some (.slice e)) (hi : P.info? e = some i) (hz : i.zero = some z)
    (hsize : i.size = size) (hby : i.bytes = bytes) (hzs : z.cells.size = size) (hsz : 0 < size)
    (A' : Option Addr) (n c' : Nat) (xs : List Value) (hs : a.eval s = .slice A' n c') (hown : w.ownsRow base e size (.slice A' n c') n xs)
    (B : Nat) (A : Option Addr) (m c : Nat) (news : List Value) (hx : a.eval x = .slice A m c) (hr : Rd w B size A m c news) (h1 : ∀ u ∈ news, u.oneCell' = true)
    (h : ∀ A2 c2 w', w'.ownsRow base e size (.slice A2 (n + m) c2) (n + m) (xs ++ news) → w.grownBy w' (Value.slice A' n c').ownBlock →
      ((Value.slice A2 (n + m) c2).ownBlock = (Value.slice A' n c').ownBlock ∨ (Value.slice A2 (n + m) c2).ownBlock = some w.heap.size) →
      (Value.slice A2 (n + m) c2 = .slice none 0 0 ↔ Value.slice A' n c' = .slice none 0 0 ∧ m = 0) → wpList P ops Q rest (a.put o.dst (.slice A2 (n + m) c2)) w')
    (hbytes : (n + m) * bytes ≤ 140737488355328) (h63 : n + m ≤ maxLen) (hbase : base ≤ w.heap.size) : wpList P ops Q (o :: rest) a w :=
  wpList_plain hgd fun K hK => by
    obtain ⟨A2, c2, w', hrun, h2, h3, h4, h5⟩ := run_app (P := P) w base t o.type e i z size bytes ht hi hz hsize hby hzs hsz A' n c' xs hown B A m c news hr h1 hbytes h63 hbase
    unfold Oper.wp execOp
    simp only [ho, resolve, invoke, builtin, Sem.run_bind, Sem.run_pure, Result.andThen_ok, List.map_toArray, List.map_cons, List.map_nil, hs, hx, hrun]
    exact hK _ _ (h A2 c2 w' h2 h3 h4 h5)

/-- what lies below the call's own memory stands -/
theorem below_of_app {w w' : World} {base : Nat} {e : TypeId} {size : Nat} {v : Value} {n : Nat} {xs : List Value} (hown : w.ownsRow base e size v n xs) (hg : w.grownBy w' v.ownBlock) (hb : base ≤ w.heap.size) : Below base w w' :=
  (Below.refl _ _).grown hg hb fun k hk => (hown.lt k hk).1
end

theorem below_drewN {B : Nat} {a w : World} (h : Below B a w) (n : Nat) : Below B a (w.drewN n) := ⟨h.os, h.tape, h.output, h.size, h.block⟩
theorem chain {w a b : World} (h : Below w.heap.size w a) (k : Below a.heap.size a b) : Below w.heap.size w b := h.trans (k.mono h.size)
theorem chainG {w a b : World} {g : Nat} (h : Below w.heap.size w a) (k : a.grownBy b (some g)) (hg : w.heap.size ≤ g) : Below w.heap.size w b :=
  h.trans ((Below.refl _ _).grown k h.size (by intro j hj; injection hj with hj; omega))

/-- a row of the call's own behind a write to another one of another element type -/
theorem own_kept {w w' : World} {b1 b2 : Nat} {e1 e2 : TypeId} {s1 s2 : Nat} {v1 v2 : Value} {n1 n2 : Nat} {xs1 xs2 : List Value} (h1 : w.ownsRow b1 e1 s1 v1 n1 xs1) (h2 : w.ownsRow b2 e2 s2 v2 n2 xs2) (hne : e1 ≠ e2) (hg : w.grownBy w' v2.ownBlock) : w'.ownsRow b1 e1 s1 v1 n1 xs1 := by
  refine World.ownsRow.kept h1 hg ?_
  rcases h1.2 with ⟨e, _⟩ | ⟨g, cap, cur, f1, f2, f3, _⟩
  · rw [e]; exact .inl rfl
  · rw [f1]
    refine .inr ?_
    rcases h2.2 with ⟨e, _⟩ | ⟨g', cap', cur', k1, k2, k3, _⟩
    · rw [e]; simp [Value.ownBlock]
    · rw [k1]
      simp only [Value.ownBlock]
      intro e
      injection e with e
      subst e
      rw [f3] at k3
      injection k3 with k3
      injection k3 with _ kt
      exact hne kt

def Held (p : Prop) : Prop := p
theorem hold {p : Prop} (h : Held p) : p := h
theorem Held.out {p : Prop} (h : Held p) : p := h
theorem to_held {p : Prop} (h : p) : Held p := h
end Go.Proofs.YtnkjekkdndjfaaaGreat
namespace Go.Proofs.YtnkjekkdndjfaaaGreat
set_option linter.unusedSimpArgs false
set_option linter.unusedVariables false

theorem or_low (y c : Nat) (hc : c < 256) : y * 256 ||| c = y * 256 + c := by
  have := Nat.shiftLeft_add_eq_or_of_lt (show c < 2 ^ 8 from hc) y
  rw [Nat.shiftLeft_eq] at this
  exact this.symm

theorem or_step (x c : Nat) (hc : c < 256) : bits .or .u64 (IntKind.u64.wrap ((x : Int) * 256)) (IntKind.u64.wrap (c : Int)) = (((x * 256 + c) % 18446744073709551616 : Nat) : Int) := by
  have e1 : IntKind.u64.wrap ((x : Int) * 256) = ((x % 72057594037927936 * 256 : Nat) : Int) := by rw [IntKind.wrap_u64]; omega
  have e2 : IntKind.u64.wrap (c : Int) = (c : Int) := by rw [IntKind.wrap_u64]; omega
  rw [e1, e2, u64_or_nat _ _ (by omega) (by omega), or_low _ _ hc]
  omega
end Go.Proofs.YtnkjekkdndjfaaaGreat
namespace Go.Proofs.YtnkjekkdndjfaaaGreat
set_option linter.unusedSimpArgs false
set_option linter.unusedVariables false

/-- a number as so many bytes, the highest first -/
def putN (x : Nat) : Nat → List UInt8
  | 0 => []
  | k + 1 => putN (x / 256) k ++ [UInt8.ofNat x]
theorem putN_length (x k : Nat) : (putN x k).length = k := by
  induction k generalizing x with
  | zero => rfl
  | succ k ih => simp [putN, ih]

theorem putN_cons (x j : Nat) : putN x (j + 1) = UInt8.ofNat (x / 256 ^ j) :: putN x j := by
  induction j generalizing x with
  | zero => simp [putN]
  | succ j ih =>
    rw [putN, ih, putN, Nat.div_div_eq_div_mul, ← Nat.pow_succ']
    rfl

/-- the same at any width: nothing outside of 1 to 8 -/
def putW (x : Nat) (width : Int) : List UInt8 := if 1 ≤ width ∧ width ≤ 8 then putN x width.toNat else []

theorem putW_length (x : Nat) (width : Int) : (putW x width).length ≤ 8 := by
  unfold putW
  split
  · rw [putN_length]; omega
  · simp

theorem cat_str (a b : List UInt8) : (⟨a.toArray⟩ ++ ⟨b.toArray⟩ : ByteArray) = ⟨(a ++ b).toArray⟩ := by
  apply ByteArray.ext
  rw [ByteArray.data_append]
  simp

/-- the number of bytes -/
def num (l : List UInt8) : Nat := l.foldl (fun n c => (n * 256 + c.toNat) % 18446744073709551616) 0
theorem num_snoc (l : List UInt8) (c : UInt8) : num (l ++ [c]) = (num l * 256 + c.toNat) % 18446744073709551616 := by simp [num]
theorem num_lt (l : List UInt8) : num l < 18446744073709551616 := by
  rcases List.eq_nil_or_concat l with rfl | ⟨l', c, rfl⟩
  · simp [num]
  · rw [List.concat_eq_append, num_snoc]; omega

/-- what is still to be read, and whether the reader is bad -/
structure St where
  l : List UInt8
  bad : Bool

def St.bytes (s : St) (n : Int) : List UInt8 × St :=
  if s.bad = true ∨ n < 0 ∨ (s.l.length : Int) < n then ([], ⟨s.l, true⟩) else (s.l.take n.toNat, ⟨s.l.drop n.toNat, false⟩)
def St.u (s : St) (width : Int) : Nat × St :=
  if width < 1 ∨ 8 < width then (0, ⟨s.l, true⟩) else (num (s.bytes width).1, (s.bytes width).2)
def St.spoilt (s : St) (n : Nat) : St := if 64 < n then ⟨s.l, true⟩ else s
def St.text (s : St) : List UInt8 × St := ((s.u 1).2.spoilt (s.u 1).1).bytes (s.u 1).1
def St.left (s : St) : Nat := if s.bad = true then 0 else s.l.length

theorem St.bytes_bad {s : St} {n : Int} (h : s.bad = true ∨ n < 0 ∨ (s.l.length : Int) < n) : s.bytes n = ([], ⟨s.l, true⟩) := if_pos h
theorem St.bytes_ok {s : St} {n : Nat} (h : s.bad = false) (hn : n ≤ s.l.length) : s.bytes n = (s.l.take n, ⟨s.l.drop n, false⟩) := by
  unfold St.bytes
  rw [if_neg (by rw [h]; simp; omega)]
  simp
theorem St.bytes_length (s : St) (n : Int) : ((s.bytes n).1.length : Int) ≤ n ∨ (s.bytes n).1 = [] := by
  unfold St.bytes
  split
  · exact .inr rfl
  · simp; omega
theorem St.u_lt (s : St) (width : Int) : (s.u width).1 < 18446744073709551616 := by
  unfold St.u
  split
  · simp
  · exact num_lt _
theorem num_one_lt (l : List UInt8) (h : l.length ≤ 1) : num l < 256 := by
  match l, h with
  | [], _ => simp [num]
  | [c], _ => have := c.toNat_lt; simp [num]; omega
theorem St.u_one_lt (s : St) : (s.u 1).1 < 256 := by
  unfold St.u
  rw [if_neg (by omega)]
  refine num_one_lt _ ?_
  rcases s.bytes_length 1 with h | h
  · omega
  · rw [h]; simp

/-- a text behind its length, one byte -/
def textL (s : ByteArray) : List UInt8 := UInt8.ofNat s.size :: s.data.toList
theorem textL_length (s : ByteArray) : (textL s).length = s.size + 1 := by
  simp only [textL, List.length_cons, Array.length_toList]
  rfl

theorem St.bytes_front (a r : List UInt8) : (⟨a ++ r, false⟩ : St).bytes (a.length : Int) = (a, ⟨r, false⟩) := by
  rw [St.bytes_ok rfl (by simp)]
  simp
theorem St.u_put (x : Nat) (width : Int) (h1 : 1 ≤ width) (h8 : width ≤ 8) (r : List UInt8) : (⟨putW x width ++ r, false⟩ : St).u width = (num (putW x width), ⟨r, false⟩) := by
  have e : ((putW x width).length : Int) = width := by
    unfold putW
    rw [if_pos ⟨h1, h8⟩, putN_length]
    omega
  unfold St.u
  rw [if_neg (by omega)]
  have := St.bytes_front (putW x width) r
  rw [e] at this
  rw [this]
theorem St.text_front (s : ByteArray) (hs : s.size ≤ 64) (r : List UInt8) : (⟨textL s ++ r, false⟩ : St).text = (s.data.toList, ⟨r, false⟩) := by
  have e1 : (⟨textL s ++ r, false⟩ : St).u 1 = (s.size, ⟨s.data.toList ++ r, false⟩) := by
    unfold St.u
    rw [if_neg (by omega)]
    have := St.bytes_front [UInt8.ofNat s.size] (s.data.toList ++ r)
    simp only [List.length_cons, List.length_nil] at this
    rw [show textL s ++ r = [UInt8.ofNat s.size] ++ (s.data.toList ++ r) from rfl, show ((1 : Int)) = ((0 + 1 : Nat) : Int) from rfl, this]
    simp [num]
    omega
  unfold St.text
  rw [e1]
  simp only [St.spoilt]
  rw [if_neg (by omega)]
  have := St.bytes_front s.data.toList r
  rw [Array.length_toList] at this
  exact this
end Go.Proofs.YtnkjekkdndjfaaaGreat
