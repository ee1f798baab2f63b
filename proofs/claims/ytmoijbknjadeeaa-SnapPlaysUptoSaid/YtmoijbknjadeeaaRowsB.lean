
/- Slices of slices of bytes: what a call's own such row holds, and append of one to it. -/
import Derived.Test.YtmoijbknjadeeaaBytes
namespace Go.Proofs.Ytmoijbknjadeeaa
set_option linter.unusedVariables false
set_option linter.unusedSimpArgs false
open Go.RowKit

/-- a slice of bytes as an element -/
structure Bsl where
  A : Option Addr
  n : Nat
  c : Nat
  l : List UInt8
deriving Inhabited
def Bsl.val (y : Bsl) : Value := .slice y.A y.n y.c

/-- an element: bytes that were there when the call began, or bytes of the call's own -/
def EltB (w : World) (base : Nat) (y : Bsl) : Prop := RdB w base y.A y.n y.c y.l ∨ OwnB w base y.A y.n y.c y.l
theorem EltB.rd {w : World} {base : Nat} {y : Bsl} (h : EltB w base y) (hb : base ≤ w.heap.size) : RdB w w.heap.size y.A y.n y.c y.l := by
  rcases h with h | h
  · exact h.more hb
  · exact h.rd
theorem EltB.below {w w' : World} {base : Nat} {y : Bsl} (h : EltB w base y) (hb : Below w.heap.size w w') (hbw : base ≤ w.heap.size) : EltB w' base y := by
  rcases h with h | h
  · exact .inl (RdB.below h (hb.mono hbw))
  · exact .inr (h.below hb)
theorem EltB.lower {w : World} {base base' : Nat} {y : Bsl} (h : OwnB w base y.A y.n y.c y.l) (hb : base' ≤ base) : EltB w base' y := .inr (h.lower hb)

def OwnS (w : World) (base : Nat) (A : Option Addr) (n c : Nat) (ys : List Bsl) : Prop :=
  w.ownsRow base 27 1 (.slice A n c) n (ys.map Bsl.val) ∧ ∀ y ∈ ys, EltB w base y
/-- a readable one -/
def RdS (w : World) (B : Nat) (A : Option Addr) (n c : Nat) (ys : List Bsl) : Prop := Rd w B 1 A n c (ys.map Bsl.val) ∧ ∀ y ∈ ys, RdB w B y.A y.n y.c y.l

theorem OwnS.nil {w : World} {base : Nat} : OwnS w base none 0 0 [] := ⟨World.ownsRow_nil _ _ _ _, by simp⟩
theorem OwnS.length {w : World} {base n c : Nat} {A : Option Addr} {ys : List Bsl} (h : OwnS w base A n c ys) : ys.length = n := by
  have := h.1.1
  simp at this
  exact this
theorem OwnS.rd {w : World} {base n c : Nat} {A : Option Addr} {ys : List Bsl} (h : OwnS w base A n c ys) (hb : base ≤ w.heap.size) : RdS w w.heap.size A n c ys :=
  ⟨Rd.of_own h.1, fun y hy => (h.2 y hy).rd hb⟩
theorem OwnS.below {w w' : World} {base n c : Nat} {A : Option Addr} {ys : List Bsl} (h : OwnS w base A n c ys) (hb : Below w.heap.size w w') (hbw : base ≤ w.heap.size) : OwnS w' base A n c ys := by
  obtain ⟨⟨h1, h2⟩, h3⟩ := h
  refine ⟨⟨h1, ?_⟩, fun y hy => (h3 y hy).below hb hbw⟩
  rcases h2 with h2 | ⟨g, cap, cur, e1, e2, e3, e4⟩
  · exact .inl h2
  · exact .inr ⟨g, cap, cur, e1, e2, (hb.block g (Array.getElem?_eq_some_iff.1 e3).1).trans e3, e4⟩
theorem OwnS.lower {w : World} {base base' n c : Nat} {A : Option Addr} {ys : List Bsl} (h : OwnS w base A n c ys) (hb : base' ≤ base) (hy : ∀ y ∈ ys, EltB w base' y) : OwnS w base' A n c ys := by
  obtain ⟨⟨h1, h2⟩, h3⟩ := h
  refine ⟨⟨h1, ?_⟩, hy⟩
  rcases h2 with h2 | ⟨g, cap, cur, e1, e2, e3⟩
  · exact .inl h2
  · exact .inr ⟨g, cap, cur, e1, Nat.le_trans hb e2, e3⟩
theorem RdS.length {w : World} {B n c : Nat} {A : Option Addr} {ys : List Bsl} (h : RdS w B A n c ys) : ys.length = n := by
  have := h.1.len
  simp at this
  exact this
theorem RdS.below {w w' : World} {B n c : Nat} {A : Option Addr} {ys : List Bsl} (h : RdS w B A n c ys) (hb : Below B w w') : RdS w' B A n c ys := ⟨h.1.below hb, fun y hy => RdB.below (h.2 y hy) hb⟩
theorem RdS.more {w : World} {B B' n c : Nat} {A : Option Addr} {ys : List Bsl} (h : RdS w B A n c ys) (hB : B ≤ B') : RdS w B' A n c ys := ⟨h.1.more hB, fun y hy => RdB.more (h.2 y hy) hB⟩
theorem RdS.get {w : World} {B n c : Nat} {A : Option Addr} {ys : List Bsl} (h : RdS w B A n c ys) {k : Nat} (hk : k < ys.length) :
    ∃ g off, A = some ⟨g, off, none⟩ ∧ g < B ∧ w.cell? ⟨g, off + k, none⟩ = some (.slice ys[k].A ys[k].n ys[k].c) ∧ RdB w B ys[k].A ys[k].n ys[k].c ys[k].l := by
  obtain ⟨g, off, u, e, hg, hu, hcell⟩ := h.1.get (k := k) (by rw [← h.length]; exact hk)
  rw [List.getElem?_map, List.getElem?_eq_getElem hk] at hu
  simp only [Option.map_some] at hu
  injection hu with hu
  subst hu
  exact ⟨g, off, e, hg, hcell, h.2 _ (List.getElem_mem hk)⟩

theorem Rd.one {w : World} {t : TypeId} {v : Value} : Rd (w.alloc (.cells #[v] t)) (w.heap.size + 1) 1 (some ⟨w.heap.size, 0, none⟩) 1 1 [v] := by
  refine ⟨rfl, Nat.le_refl _, by simp [maxLen], fun _ => ⟨_, 0, rfl, by omega, fun j u hu => ?_⟩⟩
  rcases j with _ | j
  · simp at hu
    subst hu
    unfold World.cell?
    rw [heap_alloc_new]
    rfl
  · simp at hu

theorem info_sl : (Try.prog.info? 27).map (fun i => (i.zero, i.size, i.bytes)) = some (some (.slice none 0 0), 1, 24) := by kernel_rfl

/-- append of one slice of bytes -/
theorem app_s {ops : Array Oper} {rest : List Oper} {o : Oper} {a : Act} {w : World} {Q : Exit → Act → World → Prop} (hgd : o.guard = none) (s x : Operand)
    (ho : o.op = .call { callee := .builtin .append, args := #[s, x], argTypes := #[22, 22] })
    {base : Nat} {A' : Option Addr} {n c' : Nat} {ys : List Bsl} (hs : a.eval s = .slice A' n c') (hown : OwnS w base A' n c' ys)
    {B : Nat} {A : Option Addr} {c : Nat} (y : Bsl) (hx : a.eval x = .slice A 1 c) (hr : Rd w B 1 A 1 c [y.val]) (hy : EltB w base y)
    (h : ∀ A2 c2 w', OwnS w' base A2 (n + 1) c2 (ys ++ [y]) → Below base w w' → w.grownBy w' (Value.slice A' n c').ownBlock → wpList Try.prog ops Q rest (a.put o.dst (.slice A2 (n + 1) c2)) w')
    (hsz : n + 1 ≤ 1099511627776) (hbase : base ≤ w.heap.size) : wpList Try.prog ops Q (o :: rest) a w := by
  obtain ⟨i0, hi0, hz0, hz1, hz2⟩ := info_parts info_sl
  refine wpList_app w hgd s x _ ho base 27 i0 _ 1 24 Try.underlying22 hi0 hz0 hz1 hz2 rfl (by omega) A' n c' (ys.map Bsl.val) hs hown.1 B A 1 c [y.val] hx hr (by intro u hu; simp at hu; subst hu; rfl) ?_ (by omega) (by simp only [maxLen]; omega) hbase
  intro A2 c2 w' h1 h2 h3 _
  have hb := below_of_app hown.1 h2 hbase
  have hel : ∀ z, EltB w base z → EltB w' base z := by
    intro z hz
    rcases hz with hz | hz
    · exact .inl (RdB.below hz hb)
    · refine .inr (World.ownsRow.kept hz h2 ?_)
      rcases hz.2 with ⟨e, _⟩ | ⟨g, cap, cur, e1, e2, e3, _⟩
      · rw [e]; exact .inl rfl
      · rw [e1]
        refine .inr ?_
        rcases hown.1.2 with ⟨e, _⟩ | ⟨g', cap', cur', f1, f2, f3, _⟩
        · rw [e]; simp [Value.ownBlock]
        · rw [f1]
          simp only [Value.ownBlock]
          intro e
          injection e with e
          subst e
          rw [e3] at f3
          injection f3 with f3
          injection f3 with _ ft
          exact absurd ft (by decide)
  refine h A2 c2 w' ⟨by simpa using h1, fun z hz => ?_⟩ hb h2
  rw [List.mem_append] at hz
  rcases hz with hz | hz
  · exact hel z (hown.2 z hz)
  · simp at hz
    subst hz
    exact hel z hy
end Go.Proofs.Ytmoijbknjadeeaa
