
/- Blocks of cells that are known: kept, stored into, made. No program is named here. -/
import Derived.Test.YtmoijbknjadeeaaBase
import Derived.Laws.EntriesVeiled
namespace Go.Proofs.Ytmoijbknjadeeaa
set_option linter.unusedSimpArgs false
set_option linter.unusedVariables false
open Go.RowKit
/-- block g holds just these cells -/
def At (w : World) (g : Nat) (t : TypeId) (cs : List Value) : Prop := w.heap[g]? = some (.cells cs.toArray t)
section
variable {w w' : World} {g g' i B : Nat} {t t' : TypeId} {cs cs' : List Value}
theorem At.lt (h : At w g t cs) : g < w.heap.size := (Array.getElem?_eq_some_iff.1 h).1
theorem At.below (h : At w g t cs) (hb : Below w.heap.size w w') : At w' g t cs := (hb.block g h.lt).trans h
theorem At.under (h : At w g t cs) (hb : Below B w w') (hg : g < B) : At w' g t cs := (hb.block g hg).trans h
theorem At.drew (h : At w g t cs) : At w.drew g t cs := h
theorem At.drewN (h : At w g t cs) (k : Nat) : At (w.drewN k) g t cs := h
theorem At.alloc (h : At w g t cs) (o : Obj) : At (w.alloc o) g t cs := h.below ((Below.refl _ _).alloc (Nat.le_refl _) o)
theorem At.new (w : World) (t : TypeId) (cs : List Value) : At (w.alloc (.cells cs.toArray t)) w.heap.size t cs := heap_alloc_new w _
theorem At.ne (h : At w g t cs) (h' : At w g' t' cs') (hne : t ≠ t') : g ≠ g' := by
  intro e
  subst e
  unfold At at h h'
  rw [h] at h'
  injection h' with h'
  injection h' with _ e
  exact hne e
theorem At.only (h : At w g t cs) (hG : w.grownBy w' (some g')) (hne : g ≠ g') : At w' g t cs := (hG.block g h.lt (fun e => hne (by injection e))).trans h
theorem At.row (h : At w g t cs) {row : Option Nat} (hG : w.grownBy w' row) (hne : row ≠ some g) : At w' g t cs := (hG.block g h.lt (fun e => hne e.symm)).trans h
theorem At.set (h : At w g t cs) (i : Nat) (v : Value) : At (w.setCell ⟨g, i, none⟩ v) g t (cs.set i v) := by
  unfold At at *
  simp [World.setCell, Array.getElem?_modify, h]
theorem grown_set (w : World) (g i : Nat) (v : Value) : w.grownBy (w.setCell ⟨g, i, none⟩ v) (some g) :=
  ⟨rfl, rfl, rfl, by simp [World.setCell], fun k _ hne => Below.heap_setCell w ⟨g, i, none⟩ v k (fun e => hne (by rw [e]))⟩
theorem At.cell (h : At w g t cs) (i : Nat) : w.cell? ⟨g, i, none⟩ = cs[i]? := by
  unfold At at h
  simp [World.cell?, h]
theorem At.frozen (h : At w g t cs) (i : Nat) : w.frozen? ⟨g, i, none⟩ = false := by
  unfold At at h
  simp [World.frozen?, h]
theorem grown_trans {a b c : World} {row : Option Nat} (h : a.grownBy b row) (k : b.grownBy c row) : a.grownBy c row :=
  ⟨k.os.trans h.os, k.tape.trans h.tape, k.output.trans h.output, Nat.le_trans h.size k.size, fun i hi hne => (k.block i (Nat.lt_of_lt_of_le hi h.size) hne).trans (h.block i hi hne)⟩
theorem grown_alloc' (w : World) (o : Obj) (g : Option Nat) : w.grownBy (w.alloc o) g := by
  have hb := (Below.refl w.heap.size w).alloc (Nat.le_refl _) o
  exact ⟨hb.os, hb.tape, hb.output, hb.size, fun k hk _ => hb.block k hk⟩
theorem grown_below {w w' : World} (hb : Below w.heap.size w w') (g : Option Nat) : w.grownBy w' g := ⟨hb.os, hb.tape, hb.output, hb.size, fun k hk _ => hb.block k hk⟩
end
theorem one_at (w : World) (t : TypeId) (cs : List Value) : At (w.alloc (.cells cs.toArray t)) w.heap.size t cs ∧ Below w.heap.size w (w.alloc (.cells cs.toArray t)) := ⟨At.new w t cs, (Below.refl _ _).alloc (Nat.le_refl _) _⟩
theorem two_at (w : World) (t : TypeId) (cs : List Value) (t' : TypeId) (cs' : List Value) : At ((w.alloc (.cells cs.toArray t)).alloc (.cells cs'.toArray t')) w.heap.size t cs ∧ At ((w.alloc (.cells cs.toArray t)).alloc (.cells cs'.toArray t')) (w.heap.size + 1) t' cs' ∧ Below w.heap.size w ((w.alloc (.cells cs.toArray t)).alloc (.cells cs'.toArray t')) := by
  refine ⟨(At.new w t cs).alloc _, ?_, ((Below.refl _ _).alloc (Nat.le_refl _) _).alloc (by simp) _⟩
  have := At.new (w.alloc (.cells cs.toArray t)) t' cs'
  simpa using this
theorem three_at (w : World) (t : TypeId) (cs : List Value) (t' : TypeId) (cs' : List Value) (t2 : TypeId) (cs2 : List Value) : At (((w.alloc (.cells cs.toArray t)).alloc (.cells cs'.toArray t')).alloc (.cells cs2.toArray t2)) w.heap.size t cs ∧ At (((w.alloc (.cells cs.toArray t)).alloc (.cells cs'.toArray t')).alloc (.cells cs2.toArray t2)) (w.heap.size + 1) t' cs' ∧ At (((w.alloc (.cells cs.toArray t)).alloc (.cells cs'.toArray t')).alloc (.cells cs2.toArray t2)) (w.heap.size + 1 + 1) t2 cs2 ∧ Below w.heap.size w (((w.alloc (.cells cs.toArray t)).alloc (.cells cs'.toArray t')).alloc (.cells cs2.toArray t2)) := by
  obtain ⟨h1, h2, h3⟩ := two_at w t cs t' cs'
  refine ⟨h1.alloc _, h2.alloc _, ?_, h3.alloc h3.size _⟩
  have := At.new ((w.alloc (.cells cs.toArray t)).alloc (.cells cs'.toArray t')) t2 cs2
  simpa using this
def setMany (w : World) (g : Nat) : List (Nat × Value) → World
  | [] => w
  | (i, v) :: l => setMany (w.setCell ⟨g, i, none⟩ v) g l
def setL (cs : List Value) : List (Nat × Value) → List Value
  | [] => cs
  | (i, v) :: l => setL (cs.set i v) l
theorem At.many {g : Nat} {t : TypeId} : ∀ (l : List (Nat × Value)) {w : World} {cs : List Value}, At w g t cs → At (setMany w g l) g t (setL cs l) ∧ w.grownBy (setMany w g l) (some g)
  | [], w, _, h => ⟨h, World.grownBy.refl w _⟩
  | (i, v) :: l, w, _, h => ⟨(At.many l (h.set i v)).1, grown_trans (grown_set w g i v) (At.many l (h.set i v)).2⟩
theorem at1 {w : World} {g : Nat} {t : TypeId} {x0 : Value} (h : At w g t [x0]) :
    (w.cell? ⟨g, 0, none⟩ = some x0) ∧ (w.frozen? ⟨g, 0, none⟩ = false) := by
  exact ⟨h.cell 0, h.frozen 0⟩
theorem at2 {w : World} {g : Nat} {t : TypeId} {x0 x1 : Value} (h : At w g t [x0, x1]) :
    (w.cell? ⟨g, 0, none⟩ = some x0 ∧ w.cell? ⟨g, 1, none⟩ = some x1) ∧ (w.frozen? ⟨g, 0, none⟩ = false ∧ w.frozen? ⟨g, 1, none⟩ = false) := by
  exact ⟨⟨h.cell 0, h.cell 1⟩, ⟨h.frozen 0, h.frozen 1⟩⟩
theorem at3 {w : World} {g : Nat} {t : TypeId} {x0 x1 x2 : Value} (h : At w g t [x0, x1, x2]) :
    (w.cell? ⟨g, 0, none⟩ = some x0 ∧ w.cell? ⟨g, 1, none⟩ = some x1 ∧ w.cell? ⟨g, 2, none⟩ = some x2) ∧ (w.frozen? ⟨g, 0, none⟩ = false ∧ w.frozen? ⟨g, 1, none⟩ = false ∧ w.frozen? ⟨g, 2, none⟩ = false) := by
  exact ⟨⟨h.cell 0, h.cell 1, h.cell 2⟩, ⟨h.frozen 0, h.frozen 1, h.frozen 2⟩⟩
theorem at4 {w : World} {g : Nat} {t : TypeId} {x0 x1 x2 x3 : Value} (h : At w g t [x0, x1, x2, x3]) :
    (w.cell? ⟨g, 0, none⟩ = some x0 ∧ w.cell? ⟨g, 1, none⟩ = some x1 ∧ w.cell? ⟨g, 2, none⟩ = some x2 ∧ w.cell? ⟨g, 3, none⟩ = some x3) ∧ (w.frozen? ⟨g, 0, none⟩ = false ∧ w.frozen? ⟨g, 1, none⟩ = false ∧ w.frozen? ⟨g, 2, none⟩ = false ∧ w.frozen? ⟨g, 3, none⟩ = false) := by
  exact ⟨⟨h.cell 0, h.cell 1, h.cell 2, h.cell 3⟩, ⟨h.frozen 0, h.frozen 1, h.frozen 2, h.frozen 3⟩⟩
theorem at5 {w : World} {g : Nat} {t : TypeId} {x0 x1 x2 x3 x4 : Value} (h : At w g t [x0, x1, x2, x3, x4]) :
    (w.cell? ⟨g, 0, none⟩ = some x0 ∧ w.cell? ⟨g, 1, none⟩ = some x1 ∧ w.cell? ⟨g, 2, none⟩ = some x2 ∧ w.cell? ⟨g, 3, none⟩ = some x3 ∧ w.cell? ⟨g, 4, none⟩ = some x4) ∧ (w.frozen? ⟨g, 0, none⟩ = false ∧ w.frozen? ⟨g, 1, none⟩ = false ∧ w.frozen? ⟨g, 2, none⟩ = false ∧ w.frozen? ⟨g, 3, none⟩ = false ∧ w.frozen? ⟨g, 4, none⟩ = false) := by
  exact ⟨⟨h.cell 0, h.cell 1, h.cell 2, h.cell 3, h.cell 4⟩, ⟨h.frozen 0, h.frozen 1, h.frozen 2, h.frozen 3, h.frozen 4⟩⟩
theorem at6 {w : World} {g : Nat} {t : TypeId} {x0 x1 x2 x3 x4 x5 : Value} (h : At w g t [x0, x1, x2, x3, x4, x5]) :
    (w.cell? ⟨g, 0, none⟩ = some x0 ∧ w.cell? ⟨g, 1, none⟩ = some x1 ∧ w.cell? ⟨g, 2, none⟩ = some x2 ∧ w.cell? ⟨g, 3, none⟩ = some x3 ∧ w.cell? ⟨g, 4, none⟩ = some x4 ∧ w.cell? ⟨g, 5, none⟩ = some x5) ∧ (w.frozen? ⟨g, 0, none⟩ = false ∧ w.frozen? ⟨g, 1, none⟩ = false ∧ w.frozen? ⟨g, 2, none⟩ = false ∧ w.frozen? ⟨g, 3, none⟩ = false ∧ w.frozen? ⟨g, 4, none⟩ = false ∧ w.frozen? ⟨g, 5, none⟩ = false) := by
  exact ⟨⟨h.cell 0, h.cell 1, h.cell 2, h.cell 3, h.cell 4, h.cell 5⟩, ⟨h.frozen 0, h.frozen 1, h.frozen 2, h.frozen 3, h.frozen 4, h.frozen 5⟩⟩
theorem at7 {w : World} {g : Nat} {t : TypeId} {x0 x1 x2 x3 x4 x5 x6 : Value} (h : At w g t [x0, x1, x2, x3, x4, x5, x6]) :
    (w.cell? ⟨g, 0, none⟩ = some x0 ∧ w.cell? ⟨g, 1, none⟩ = some x1 ∧ w.cell? ⟨g, 2, none⟩ = some x2 ∧ w.cell? ⟨g, 3, none⟩ = some x3 ∧ w.cell? ⟨g, 4, none⟩ = some x4 ∧ w.cell? ⟨g, 5, none⟩ = some x5 ∧ w.cell? ⟨g, 6, none⟩ = some x6) ∧ (w.frozen? ⟨g, 0, none⟩ = false ∧ w.frozen? ⟨g, 1, none⟩ = false ∧ w.frozen? ⟨g, 2, none⟩ = false ∧ w.frozen? ⟨g, 3, none⟩ = false ∧ w.frozen? ⟨g, 4, none⟩ = false ∧ w.frozen? ⟨g, 5, none⟩ = false ∧ w.frozen? ⟨g, 6, none⟩ = false) := by
  exact ⟨⟨h.cell 0, h.cell 1, h.cell 2, h.cell 3, h.cell 4, h.cell 5, h.cell 6⟩, ⟨h.frozen 0, h.frozen 1, h.frozen 2, h.frozen 3, h.frozen 4, h.frozen 5, h.frozen 6⟩⟩
theorem at8 {w : World} {g : Nat} {t : TypeId} {x0 x1 x2 x3 x4 x5 x6 x7 : Value} (h : At w g t [x0, x1, x2, x3, x4, x5, x6, x7]) :
    (w.cell? ⟨g, 0, none⟩ = some x0 ∧ w.cell? ⟨g, 1, none⟩ = some x1 ∧ w.cell? ⟨g, 2, none⟩ = some x2 ∧ w.cell? ⟨g, 3, none⟩ = some x3 ∧ w.cell? ⟨g, 4, none⟩ = some x4 ∧ w.cell? ⟨g, 5, none⟩ = some x5 ∧ w.cell? ⟨g, 6, none⟩ = some x6 ∧ w.cell? ⟨g, 7, none⟩ = some x7) ∧ (w.frozen? ⟨g, 0, none⟩ = false ∧ w.frozen? ⟨g, 1, none⟩ = false ∧ w.frozen? ⟨g, 2, none⟩ = false ∧ w.frozen? ⟨g, 3, none⟩ = false ∧ w.frozen? ⟨g, 4, none⟩ = false ∧ w.frozen? ⟨g, 5, none⟩ = false ∧ w.frozen? ⟨g, 6, none⟩ = false ∧ w.frozen? ⟨g, 7, none⟩ = false) := by
  exact ⟨⟨h.cell 0, h.cell 1, h.cell 2, h.cell 3, h.cell 4, h.cell 5, h.cell 6, h.cell 7⟩, ⟨h.frozen 0, h.frozen 1, h.frozen 2, h.frozen 3, h.frozen 4, h.frozen 5, h.frozen 6, h.frozen 7⟩⟩
theorem at9 {w : World} {g : Nat} {t : TypeId} {x0 x1 x2 x3 x4 x5 x6 x7 x8 : Value} (h : At w g t [x0, x1, x2, x3, x4, x5, x6, x7, x8]) :
    (w.cell? ⟨g, 0, none⟩ = some x0 ∧ w.cell? ⟨g, 1, none⟩ = some x1 ∧ w.cell? ⟨g, 2, none⟩ = some x2 ∧ w.cell? ⟨g, 3, none⟩ = some x3 ∧ w.cell? ⟨g, 4, none⟩ = some x4 ∧ w.cell? ⟨g, 5, none⟩ = some x5 ∧ w.cell? ⟨g, 6, none⟩ = some x6 ∧ w.cell? ⟨g, 7, none⟩ = some x7 ∧ w.cell? ⟨g, 8, none⟩ = some x8) ∧ (w.frozen? ⟨g, 0, none⟩ = false ∧ w.frozen? ⟨g, 1, none⟩ = false ∧ w.frozen? ⟨g, 2, none⟩ = false ∧ w.frozen? ⟨g, 3, none⟩ = false ∧ w.frozen? ⟨g, 4, none⟩ = false ∧ w.frozen? ⟨g, 5, none⟩ = false ∧ w.frozen? ⟨g, 6, none⟩ = false ∧ w.frozen? ⟨g, 7, none⟩ = false ∧ w.frozen? ⟨g, 8, none⟩ = false) := by
  exact ⟨⟨h.cell 0, h.cell 1, h.cell 2, h.cell 3, h.cell 4, h.cell 5, h.cell 6, h.cell 7, h.cell 8⟩, ⟨h.frozen 0, h.frozen 1, h.frozen 2, h.frozen 3, h.frozen 4, h.frozen 5, h.frozen 6, h.frozen 7, h.frozen 8⟩⟩
theorem at10 {w : World} {g : Nat} {t : TypeId} {x0 x1 x2 x3 x4 x5 x6 x7 x8 x9 : Value} (h : At w g t [x0, x1, x2, x3, x4, x5, x6, x7, x8, x9]) :
    (w.cell? ⟨g, 0, none⟩ = some x0 ∧ w.cell? ⟨g, 1, none⟩ = some x1 ∧ w.cell? ⟨g, 2, none⟩ = some x2 ∧ w.cell? ⟨g, 3, none⟩ = some x3 ∧ w.cell? ⟨g, 4, none⟩ = some x4 ∧ w.cell? ⟨g, 5, none⟩ = some x5 ∧ w.cell? ⟨g, 6, none⟩ = some x6 ∧ w.cell? ⟨g, 7, none⟩ = some x7 ∧ w.cell? ⟨g, 8, none⟩ = some x8 ∧ w.cell? ⟨g, 9, none⟩ = some x9) ∧ (w.frozen? ⟨g, 0, none⟩ = false ∧ w.frozen? ⟨g, 1, none⟩ = false ∧ w.frozen? ⟨g, 2, none⟩ = false ∧ w.frozen? ⟨g, 3, none⟩ = false ∧ w.frozen? ⟨g, 4, none⟩ = false ∧ w.frozen? ⟨g, 5, none⟩ = false ∧ w.frozen? ⟨g, 6, none⟩ = false ∧ w.frozen? ⟨g, 7, none⟩ = false ∧ w.frozen? ⟨g, 8, none⟩ = false ∧ w.frozen? ⟨g, 9, none⟩ = false) := by
  exact ⟨⟨h.cell 0, h.cell 1, h.cell 2, h.cell 3, h.cell 4, h.cell 5, h.cell 6, h.cell 7, h.cell 8, h.cell 9⟩, ⟨h.frozen 0, h.frozen 1, h.frozen 2, h.frozen 3, h.frozen 4, h.frozen 5, h.frozen 6, h.frozen 7, h.frozen 8, h.frozen 9⟩⟩
/-- append, as one operation -/
theorem oper_app {P : Program} (w : World) {o : Oper} {a : Act} {K : Act → World → Prop} {Q : Exit → Act → World → Prop} (s x : Operand) (t : TypeId)
    (ho : o.op = .call { callee := .builtin .append, args := #[s, x], argTypes := #[t, t] })
    (base : Nat) (e : TypeId) (i : TypeInfo) (z : Value) (size bytes : Nat) (ht : P.underlying t = some (.slice e)) (hi : P.info? e = some i) (hz : i.zero = some z)
    (hsize : i.size = size) (hby : i.bytes = bytes) (hzs : z.cells.size = size) (hsz : 0 < size)
    (A' : Option Addr) (n c' : Nat) (xs : List Value) (hs : a.eval s = .slice A' n c') (hown : w.ownsRow base e size (.slice A' n c') n xs)
    (B : Nat) (A : Option Addr) (m c : Nat) (news : List Value) (hx : a.eval x = .slice A m c) (hr : Rd w B size A m c news) (h1 : ∀ u ∈ news, u.oneCell' = true)
    (hbytes : (n + m) * bytes ≤ 140737488355328) (h63 : n + m ≤ maxLen) (hbase : base ≤ w.heap.size)
    (h : ∀ A2 c2 w', w'.ownsRow base e size (.slice A2 (n + m) c2) (n + m) (xs ++ news) → w.grownBy w' (Value.slice A' n c').ownBlock →
      ((Value.slice A2 (n + m) c2).ownBlock = (Value.slice A' n c').ownBlock ∨ (Value.slice A2 (n + m) c2).ownBlock = some w.heap.size) →
      (Value.slice A2 (n + m) c2 = .slice none 0 0 ↔ Value.slice A' n c' = .slice none 0 0 ∧ m = 0) → K (a.put o.dst (.slice A2 (n + m) c2)) w') : Oper.wp P o a w K Q := by
  obtain ⟨A2, c2, w', hrun, h2, h3, h4, h5⟩ := run_app (P := P) w base t o.type e i z size bytes ht hi hz hsize hby hzs hsz A' n c' xs hown B A m c news hr h1 hbytes h63 hbase
  unfold Oper.wp execOp
  simp only [ho, resolve, invoke, builtin, Sem.run_bind, Sem.run_pure, Result.andThen_ok, List.map_toArray, List.map_cons, List.map_nil, hs, hx, hrun]
  exact h A2 c2 w' h2 h3 h4 h5
/-- a block just made reads as its cells -/
theorem Rd.lit {w : World} {t : TypeId} {s n : Nat} {cs : List Value} (hl : cs.length = n * s) (hn : n ≤ maxLen) (hs : 0 < s) : Rd (w.alloc (.cells cs.toArray t)) (w.heap.size + 1) s (some ⟨w.heap.size, 0, none⟩) n n cs := by
  refine ⟨hl, Nat.le_refl _, hn, fun h0 => ⟨_, 0, rfl, by omega, fun j u hu => ?_⟩⟩
  rw [Nat.zero_add, (At.new w t cs).cell j]
  exact hu
/-- only what M says may have been turned; new blocks may be there -/
structure Mod (M : Nat → Obj → Prop) (w w' : World) : Prop where
  os : w'.os = w.os
  tape : w'.tape = w.tape
  output : w'.output = w.output
  size : w.heap.size ≤ w'.heap.size
  block : ∀ k o, w.heap[k]? = some o → ¬ M k o → w'.heap[k]? = some o
section
variable {M N : Nat → Obj → Prop} {w w' w'' : World} {B g : Nat} {t : TypeId} {cs : List Value}
theorem Mod.refl (M) (w : World) : Mod M w w := ⟨rfl, rfl, rfl, Nat.le_refl _, fun _ _ h _ => h⟩
theorem Mod.drew (h : Mod M w w') : Mod M w w'.drew := ⟨h.os, h.tape, h.output, h.size, h.block⟩
theorem Mod.drewN (h : Mod M w w') (n : Nat) : Mod M w (w'.drewN n) := ⟨h.os, h.tape, h.output, h.size, h.block⟩
/-- a step more -/
theorem Mod.step (h : Mod M w w') (k : Mod N w' w'') (hN : ∀ i o, i < w.heap.size → w.heap[i]? = some o → N i o → M i o) : Mod M w w'' :=
  ⟨k.os.trans h.os, k.tape.trans h.tape, k.output.trans h.output, Nat.le_trans h.size k.size, fun i o ho hM => k.block i o (h.block i o ho hM) fun hn => hM (hN i o (Array.getElem?_eq_some_iff.1 ho).1 ho hn)⟩
theorem Mod.mono (h : Mod N w w') (hN : ∀ i o, i < w.heap.size → w.heap[i]? = some o → N i o → M i o) : Mod M w w' := (Mod.refl M w).step h hN
theorem Mod.trans (h : Mod M w w') (k : Mod M w' w'') : Mod M w w'' := h.step k fun _ _ _ _ h => h
theorem Mod.below (h : Mod M w w') (k : Below w'.heap.size w' w'') : Mod M w w'' :=
  h.step (N := fun i _ => w'.heap.size ≤ i) ⟨k.os, k.tape, k.output, k.size, fun i o ho hN => (k.block i (by omega)).trans ho⟩ fun i o hi ho hN => absurd hN (by have := h.size; omega)
theorem Mod.grown (h : Mod M w w') {row : Option Nat} (k : w'.grownBy w'' row) (hr : ∀ i o, i < w.heap.size → w.heap[i]? = some o → row = some i → M i o) : Mod M w w'' :=
  h.step (N := fun i _ => row = some i) ⟨k.os, k.tape, k.output, k.size, fun i o ho hN => (k.block i (Array.getElem?_eq_some_iff.1 ho).1 fun e => hN e.symm).trans ho⟩ hr
theorem Mod.alloc (h : Mod M w w') (o : Obj) : Mod M w (w'.alloc o) := h.below ((Below.refl _ _).alloc (Nat.le_refl _) o)
theorem Mod.at (h : Mod M w w') (k : At w g t cs) (hM : ¬ M g (.cells cs.toArray t)) : At w' g t cs := h.block g _ k hM
theorem Mod.toBelow (h : Mod M w w') (hM : ∀ i o, i < B → ¬ M i o) (hB : B ≤ w.heap.size) : Below B w w' :=
  ⟨h.os, h.tape, h.output, h.size, fun i hi => by
    have hl : i < w.heap.size := by omega
    rw [Array.getElem?_eq_getElem hl]
    exact h.block i _ (Array.getElem?_eq_getElem hl) (hM i _ hi)⟩
theorem Mod.of_below (h : Below B w w') (hB : B ≤ w.heap.size) : Mod (fun i _ => B ≤ i) w w' :=
  ⟨h.os, h.tape, h.output, h.size, fun i o ho hN => (h.block i (by omega)).trans ho⟩
end
theorem grown_mod {w w' : World} {row : Option Nat} (k : w.grownBy w' row) : Mod (fun i _ => row = some i) w w' :=
  ⟨k.os, k.tape, k.output, k.size, fun i o ho hN => (k.block i (Array.getElem?_eq_some_iff.1 ho).1 fun e => hN e.symm).trans ho⟩
/-- is a block a row of such elements? -/
def IsT (t : TypeId) : Obj → Prop
  | .cells _ t' _ => t' = t
  | _ => False
/-- the block in which a row of the call's own lies has its elements' type -/
theorem own_isT {w : World} {base s n : Nat} {e : TypeId} {v : Value} {xs : List Value} (h : w.ownsRow base e s v n xs) {i : Nat} {o : Obj} (hi : v.ownBlock = some i) (ho : w.heap[i]? = some o) : base ≤ i ∧ IsT e o := by
  rcases h.2 with ⟨hv, h0⟩ | ⟨g, cap, cur, hv, hb, hg, _⟩
  · rw [hv] at hi
    simp [Value.ownBlock] at hi
  · rw [hv] at hi
    simp [Value.ownBlock] at hi
    subst hi
    rw [hg] at ho
    injection ho with ho
    subst ho
    exact ⟨hb, rfl⟩
theorem own_ge {w : World} {base s n : Nat} {e : TypeId} {v : Value} {xs : List Value} (h : w.ownsRow base e s v n xs) {i : Nat} (hi : v.ownBlock = some i) : base ≤ i := by
  rcases h.2 with ⟨hv, h0⟩ | ⟨g, cap, cur, hv, hb, hg, _⟩
  · rw [hv] at hi
    simp [Value.ownBlock] at hi
  · rw [hv] at hi
    simp [Value.ownBlock] at hi
    omega
theorem own_mod {w w' : World} {M : Nat → Obj → Prop} {base s n : Nat} {e : TypeId} {v : Value} {xs : List Value} (h : w.ownsRow base e s v n xs) (hm : Mod M w w') (hM : ∀ i o, w.heap[i]? = some o → base ≤ i → IsT e o → ¬ M i o) : w'.ownsRow base e s v n xs := by
  refine ⟨h.1, ?_⟩
  rcases h.2 with h2 | ⟨g, cap, cur, e1, e2, e3, e4⟩
  · exact .inl h2
  · exact .inr ⟨g, cap, cur, e1, e2, hm.block _ _ e3 (hM _ _ e3 e2 rfl), e4⟩
theorem Rd.mod {w w' : World} {M : Nat → Obj → Prop} {B s n c : Nat} {A : Option Addr} {xs : List Value} (h : Rd w B s A n c xs) (hm : Mod M w w') (hM : ∀ i o, i < B → ¬ M i o) : Rd w' B s A n c xs := by
  refine ⟨h.len, h.le, h.max, fun hc => ?_⟩
  obtain ⟨g, off, e, hg, hcell⟩ := h.cells hc
  refine ⟨g, off, e, hg, fun j u hu => ?_⟩
  have h1 := hcell j u hu
  have hlt := World.block_lt_of_cell? w _ h1
  have h2 := hm.block g _ (Array.getElem?_eq_getElem hlt) (hM _ _ hg)
  rw [World.cell?_of_block (h2.trans (Array.getElem?_eq_getElem hlt).symm)]
  exact h1
theorem At.own {w w' : World} {g b s n : Nat} {t e : TypeId} {cs xs : List Value} {v : Value} (h : At w g t cs) (hown : w.ownsRow b e s v n xs) (hG : w.grownBy w' v.ownBlock) (hne : t ≠ e) : At w' g t cs :=
  h.row hG fun hi => hne ((own_isT hown hi h).2)
theorem isT_uniq {t t' : TypeId} {o : Obj} (h : IsT t o) (k : IsT t' o) : t = t' := by
  cases o <;> first | exact h.symm.trans k | exact h.elim
theorem isT_at {w : World} {t t' : TypeId} {g : Nat} {cs : List Value} (h : At w g t cs) {i : Nat} {o : Obj} (ho : w.heap[i]? = some o) (hit : IsT t' o) (hne : t' ≠ t) : ¬ i = g := by
  intro e
  subst e
  unfold At at h
  rw [h] at ho
  injection ho with ho
  subst ho
  exact hne hit.symm
end Go.Proofs.Ytmoijbknjadeeaa
