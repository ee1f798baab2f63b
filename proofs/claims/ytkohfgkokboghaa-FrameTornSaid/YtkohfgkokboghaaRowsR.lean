/- Rows of slices of bytes that are read only; rows of numbers. -/
import Derived.Test.YtkohfgkokboghaaRowsB
namespace Go.Proofs.Ytkohfgkokboghaa
set_option linter.unusedVariables false
set_option linter.unusedSimpArgs false
open Go.RowKit

/-- a row of the call's own, of slices that lie below -/
def OwnR (w : World) (base : Nat) (A : Option Addr) (n c : Nat) (ys : List Bsl) : Prop :=
  w.ownsRow base 29 1 (.slice A n c) n (ys.map Bsl.val) ∧ ∀ y ∈ ys, RdB w base y.A y.n y.c y.l
theorem OwnR.nil {w : World} {base : Nat} : OwnR w base none 0 0 [] := ⟨World.ownsRow_nil _ _ _ _, by simp⟩
theorem OwnR.own {w : World} {base n c : Nat} {A : Option Addr} {ys : List Bsl} (h : OwnR w base A n c ys) : OwnS w base A n c ys := ⟨h.1, fun y hy => .inl (h.2 y hy)⟩
theorem OwnR.length {w : World} {base n c : Nat} {A : Option Addr} {ys : List Bsl} (h : OwnR w base A n c ys) : ys.length = n := h.own.length
theorem OwnR.below {w w' : World} {base n c : Nat} {A : Option Addr} {ys : List Bsl} (h : OwnR w base A n c ys) (hb : Below w.heap.size w w') (hbw : base ≤ w.heap.size) : OwnR w' base A n c ys :=
  ⟨(h.own.below hb hbw).1, fun y hy => RdB.below (h.2 y hy) (hb.mono hbw)⟩

def ins (l : List Nat) : List Value := l.map fun (k : Nat) => .int .i64 (k : Int)
theorem ins_length (l : List Nat) : (ins l).length = l.length := by simp [ins]
def OwnI (w : World) (base : Nat) (A : Option Addr) (n c : Nat) (l : List Nat) : Prop := w.ownsRow base 3 1 (.slice A n c) n (ins l)
theorem OwnI.nil {w : World} {base : Nat} : OwnI w base none 0 0 [] := World.ownsRow_nil _ _ _ _
theorem OwnI.length {w : World} {base n c : Nat} {A : Option Addr} {l : List Nat} (h : OwnI w base A n c l) : l.length = n := by have := h.1; rw [ins_length] at this; omega
theorem own_below {w w' : World} {base : Nat} {e : TypeId} {s : Nat} {v : Value} {n : Nat} {xs : List Value} (h : w.ownsRow base e s v n xs) (hb : Below w.heap.size w w') : w'.ownsRow base e s v n xs := by
  obtain ⟨h1, h2⟩ := h
  refine ⟨h1, ?_⟩
  rcases h2 with h2 | ⟨g, cap, cur, e1, e2, e3, e4⟩
  · exact .inl h2
  · exact .inr ⟨g, cap, cur, e1, e2, (hb.block g (Array.getElem?_eq_some_iff.1 e3).1).trans e3, e4⟩
theorem OwnI.below {w w' : World} {base n c : Nat} {A : Option Addr} {l : List Nat} (h : OwnI w base A n c l) (hb : Below w.heap.size w w') : OwnI w' base A n c l := own_below h hb

theorem info_int : (Try.prog.info? 3).map (fun i => (i.zero, i.size, i.bytes)) = some (some (.int .i64 0), 1, 8) := by kernel_rfl
/-- append of one number -/
theorem app_i {ops : Array Oper} {rest : List Oper} {o : Oper} {a : Act} {w : World} {Q : Exit → Act → World → Prop} (hgd : o.guard = none) (s x : Operand)
    (ho : o.op = .call { callee := .builtin .append, args := #[s, x], argTypes := #[67, 67] })
    {base : Nat} {A' : Option Addr} {n c' : Nat} {l : List Nat} (hs : a.eval s = .slice A' n c') (hown : OwnI w base A' n c' l)
    {B : Nat} {A : Option Addr} {c : Nat} (k : Nat) (hx : a.eval x = .slice A 1 c) (hr : Rd w B 1 A 1 c [.int .i64 (k : Int)])
    (h : ∀ A2 c2 w', OwnI w' base A2 (n + 1) c2 (l ++ [k]) → Below base w w' → w.grownBy w' (Value.slice A' n c').ownBlock → wpList Try.prog ops Q rest (a.put o.dst (.slice A2 (n + 1) c2)) w')
    (hsz : n + 1 ≤ 1099511627776) (hbase : base ≤ w.heap.size) : wpList Try.prog ops Q (o :: rest) a w := by
  obtain ⟨i0, hi0, hz0, hz1, hz2⟩ := info_parts info_int
  refine wpList_app w hgd s x _ ho base 3 i0 _ 1 8 Try.underlying67 hi0 hz0 hz1 hz2 rfl (by omega) A' n c' (ins l) hs hown B A 1 c [.int .i64 (k : Int)] hx hr (by intro u hu; simp at hu; subst hu; rfl) ?_ (by omega) (by simp only [maxLen]; omega) hbase
  intro A2 c2 w' h1 h2 h3 _
  exact h A2 c2 w' (by simpa [OwnI, ins] using h1) (below_of_app hown h2 hbase) h2

/-- append of one slice that lies below -/
theorem app_r {ops : Array Oper} {rest : List Oper} {o : Oper} {a : Act} {w : World} {Q : Exit → Act → World → Prop} (hgd : o.guard = none) (s x : Operand)
    (ho : o.op = .call { callee := .builtin .append, args := #[s, x], argTypes := #[63, 63] })
    {base : Nat} {A' : Option Addr} {n c' : Nat} {ys : List Bsl} (hs : a.eval s = .slice A' n c') (hown : OwnR w base A' n c' ys)
    {B : Nat} {A : Option Addr} {c : Nat} (y : Bsl) (hx : a.eval x = .slice A 1 c) (hr : Rd w B 1 A 1 c [y.val]) (hy : RdB w base y.A y.n y.c y.l)
    (h : ∀ A2 c2 w', OwnR w' base A2 (n + 1) c2 (ys ++ [y]) → Below base w w' → w.grownBy w' (Value.slice A' n c').ownBlock → wpList Try.prog ops Q rest (a.put o.dst (.slice A2 (n + 1) c2)) w')
    (hsz : n + 1 ≤ 1099511627776) (hbase : base ≤ w.heap.size) : wpList Try.prog ops Q (o :: rest) a w := by
  refine app_s hgd s x ho hs hown.own y hx hr (.inl hy) ?_ hsz hbase
  intro A2 c2 w' h1 h2 h3
  refine h A2 c2 w' ⟨h1.1, fun z hz => ?_⟩ h2 h3
  rw [List.mem_append] at hz
  rcases hz with hz | hz
  · exact RdB.below (hown.2 z hz) h2
  · simp at hz
    subst hz
    exact RdB.below hy h2
theorem types_ne1 : (29 : TypeId) ≠ 5 := by decide
theorem types_ne2 : (29 : TypeId) ≠ 3 := by decide
theorem types_ne3 : (5 : TypeId) ≠ 3 := by decide
/-- the three rows behind a write to one of them -/
theorem OwnR.kept_u8 {w w' : World} {b1 b2 n1 c1 n2 c2 : Nat} {A1 A2 : Option Addr} {ys : List Bsl} {l : List UInt8} (h1 : OwnR w b1 A1 n1 c1 ys) (h2 : OwnB w b2 A2 n2 c2 l) (hg : w.grownBy w' (Value.slice A2 n2 c2).ownBlock) (hb : Below b1 w w') : OwnR w' b1 A1 n1 c1 ys :=
  ⟨own_kept h1.1 h2 types_ne1 hg, fun y hy => RdB.below (h1.2 y hy) hb⟩
theorem OwnR.kept_i {w w' : World} {b1 b2 n1 c1 n2 c2 : Nat} {A1 A2 : Option Addr} {ys : List Bsl} {l : List Nat} (h1 : OwnR w b1 A1 n1 c1 ys) (h2 : OwnI w b2 A2 n2 c2 l) (hg : w.grownBy w' (Value.slice A2 n2 c2).ownBlock) (hb : Below b1 w w') : OwnR w' b1 A1 n1 c1 ys :=
  ⟨own_kept h1.1 h2 types_ne2 hg, fun y hy => RdB.below (h1.2 y hy) hb⟩
theorem OwnB.kept_r {w w' : World} {b1 b2 n1 c1 n2 c2 : Nat} {A1 A2 : Option Addr} {ys : List Bsl} {l : List UInt8} (h1 : OwnB w b1 A1 n1 c1 l) (h2 : OwnR w b2 A2 n2 c2 ys) (hg : w.grownBy w' (Value.slice A2 n2 c2).ownBlock) : OwnB w' b1 A1 n1 c1 l :=
  own_kept h1 h2.1 (Ne.symm types_ne1) hg
theorem OwnB.kept_i {w w' : World} {b1 b2 n1 c1 n2 c2 : Nat} {A1 A2 : Option Addr} {k : List Nat} {l : List UInt8} (h1 : OwnB w b1 A1 n1 c1 l) (h2 : OwnI w b2 A2 n2 c2 k) (hg : w.grownBy w' (Value.slice A2 n2 c2).ownBlock) : OwnB w' b1 A1 n1 c1 l :=
  own_kept h1 h2 types_ne3 hg
theorem OwnI.kept_u8 {w w' : World} {b1 b2 n1 c1 n2 c2 : Nat} {A1 A2 : Option Addr} {k : List Nat} {l : List UInt8} (h1 : OwnI w b1 A1 n1 c1 k) (h2 : OwnB w b2 A2 n2 c2 l) (hg : w.grownBy w' (Value.slice A2 n2 c2).ownBlock) : OwnI w' b1 A1 n1 c1 k :=
  own_kept h1 h2 (Ne.symm types_ne3) hg
theorem OwnI.kept_r {w w' : World} {b1 b2 n1 c1 n2 c2 : Nat} {A1 A2 : Option Addr} {k : List Nat} {ys : List Bsl} (h1 : OwnI w b1 A1 n1 c1 k) (h2 : OwnR w b2 A2 n2 c2 ys) (hg : w.grownBy w' (Value.slice A2 n2 c2).ownBlock) : OwnI w' b1 A1 n1 c1 k :=
  own_kept h1 h2.1 (Ne.symm types_ne2) hg
end Go.Proofs.Ytkohfgkokboghaa
