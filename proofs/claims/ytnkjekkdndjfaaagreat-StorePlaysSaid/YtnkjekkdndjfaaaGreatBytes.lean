
/- Rows of bytes in this program: append and slices.Clone. -/
import Derived.Test.YtnkjekkdndjfaaaGreatProg
import Derived.Test.YtnkjekkdndjfaaaGreatBase
import Derived.Lib.AppendStr
import Derived.Lib.BufferRead
import Derived.Laws.IdiomStrings
namespace Go.Proofs.YtnkjekkdndjfaaaGreat
set_option linter.unusedSimpArgs false
set_option linter.unusedVariables false
open Go.RowKit

theorem info_u8 : (Tryz.prog.info? 5).map (fun i => (i.zero, i.size, i.bytes)) = some (some (.int .u8 0), 1, 1) := by kernel_rfl

/-- bytes of the call's own, from block 'base' on -/
def OwnB (w : World) (base : Nat) (A : Option Addr) (n c : Nat) (l : List UInt8) : Prop := w.ownsRow base 5 1 (.slice A n c) n (bys l)
/-- bytes that can be read -/
def RdB (w : World) (B : Nat) (A : Option Addr) (n c : Nat) (l : List UInt8) : Prop := Rd w B 1 A n c (bys l)

section
variable {w w' : World} {base B B' n c : Nat} {A : Option Addr} {l : List UInt8}
theorem OwnB.nil : OwnB w base none 0 0 [] := World.ownsRow_nil _ _ _ _
theorem OwnB.made (h : base ≤ w.heap.size) : OwnB (w.alloc (.cells #[] 5)) base (some ⟨w.heap.size, 0, none⟩) 0 0 [] := World.ownsRow_made w #[] 0 h (by simp [maxLen]) rfl
theorem OwnB.rd (h : OwnB w base A n c l) : RdB w w.heap.size A n c l := Rd.of_own h
theorem OwnB.length (h : OwnB w base A n c l) : l.length = n := by have := h.1; rw [bys_length] at this; omega
theorem RdB.length (h : RdB w B A n c l) : l.length = n := by have := h.len; rw [bys_length] at this; omega
theorem RdB.nil : RdB w B none 0 0 [] := Rd.nil
theorem RdB.below (h : RdB w B A n c l) (hb : Below B w w') : RdB w' B A n c l := Rd.below h hb
theorem RdB.more (h : RdB w B A n c l) (hB : B ≤ B') : RdB w B' A n c l := Rd.more h hB
theorem RdB.drewN (h : RdB w B A n c l) (k : Nat) : RdB (w.drewN k) B A n c l := Rd.drewN h k
theorem RdB.drew (h : RdB w B A n c l) : RdB w.drew B A n c l := Rd.keep h fun _ _ => rfl
theorem RdB.alloc (h : RdB w B A n c l) (hB : B ≤ w.heap.size) (o : Obj) : RdB (w.alloc o) B A n c l := Rd.alloc h hB o
theorem RdB.setCell (h : RdB w B A n c l) {p : Addr} (hB : B ≤ p.block) (u : Value) : RdB (w.setCell p u) B A n c l := Rd.setCell h hB u
theorem RdB.take (h : RdB w B A n c l) {k c' : Nat} (hk : k ≤ n) (hkc : k ≤ c') (hc : c' ≤ c) : RdB w B A k c' (l.take k) := by
  have := Rd.take h hk hkc hc
  unfold RdB bys
  rw [List.map_take]
  simpa [bys] using this
theorem RdB.drop (h : RdB w B A n c l) {k : Nat} (hk : k ≤ n) : RdB w B (if c = k then A else A.map (·.add k)) (n - k) (c - k) (l.drop k) := by
  have := Rd.drop h hk
  unfold RdB bys
  rw [List.map_drop]
  simpa [bys] using this
theorem RdB.get (h : RdB w B A n c l) {k : Nat} (hk : k < l.length) : ∃ g off, A = some ⟨g, off, none⟩ ∧ g < B ∧ w.cell? ⟨g, off + k, none⟩ = some (.int .u8 (l[k].toNat : Int)) := by
  obtain ⟨g, off, u, e, hg, hu, hcell⟩ := Rd.get h (k := k) (by rw [← h.length]; exact hk)
  obtain ⟨b, hb, rfl⟩ := bys_get hu
  rw [List.getElem?_eq_getElem hk] at hb
  injection hb with hb
  subst hb
  exact ⟨g, off, e, hg, hcell⟩
theorem OwnB.alloc (h : OwnB w base A n c l) (o : Obj) : OwnB (w.alloc o) base A n c l := World.ownsRow.alloc h o
theorem OwnB.drewN (h : OwnB w base A n c l) (k : Nat) : OwnB (w.drewN k) base A n c l := h
theorem RdB.one {t : TypeId} {b : UInt8} {v : Int} (hv : v = (b.toNat : Int)) : RdB (w.alloc (.cells #[.int .u8 v] t)) (w.heap.size + 1) (some ⟨w.heap.size, 0, none⟩) 1 1 [b] := by
  refine ⟨rfl, Nat.le_refl _, by simp [maxLen], fun _ => ⟨_, 0, rfl, by omega, fun j u hu => ?_⟩⟩
  rcases j with _ | j
  · simp [bys] at hu
    subst hu
    subst hv
    unfold World.cell?
    rw [heap_alloc_new]
    rfl
  · simp [bys] at hu
end

/-- a literal of bytes -/
theorem OwnB.lit {w : World} {base : Nat} {cs : Array Value} {l : List UInt8} (h : cs.toList = bys l) (hb : base ≤ w.heap.size) (hl : l.length ≤ maxLen) :
    OwnB (w.alloc (.cells cs 5)) base (some ⟨w.heap.size, 0, none⟩) l.length l.length l := by
  have h2 : cs.size = l.length := by rw [← Array.length_toList, h, bys_length]
  refine ⟨by rw [bys_length, Nat.mul_one], .inr ⟨w.heap.size, l.length, cs, rfl, hb, heap_alloc_new w _, Nat.le_refl _, hl, by omega, ?_⟩⟩
  rw [h, Nat.mul_one, ← bys_length, List.take_length]

/-- bytes in a block just made, whatever of it is marked -/
theorem RdB.lit {w : World} {cs : Array Value} {t : TypeId} {fr : Nat × Nat} {l : List UInt8} (h : cs.toList = bys l) (hl : l.length ≤ maxLen) :
    RdB (w.alloc (.cells cs t fr)) (w.heap.size + 1) (some ⟨w.heap.size, 0, none⟩) l.length l.length l := by
  refine ⟨by rw [bys_length, Nat.mul_one], Nat.le_refl _, hl, fun _ => ⟨_, 0, rfl, by omega, fun j u hu => ?_⟩⟩
  unfold World.cell?
  rw [heap_alloc_new]
  simp only [Nat.zero_add]
  rw [← h, Array.getElem?_toList] at hu
  exact hu

/-- s[k:k+m] of a slice whose address is known -/
theorem RdB.cut {w : World} {B n c g off : Nat} {l : List UInt8} (h : RdB w B (some ⟨g, off, none⟩) n c l) {k m : Nat} (hk : k + m ≤ n) : RdB w B (some ⟨g, off + k, none⟩) m (c - k) ((l.drop k).take m) := by
  have hl := h.length
  refine ⟨by rw [bys_length]; simp; omega, by have := h.le; omega, by have := h.max; omega, fun h0 => ?_⟩
  obtain ⟨g', off', e, hg, hcell⟩ := h.cells (by omega)
  injection e with e
  injection e with e1 e2
  subst e1; subst e2
  refine ⟨g, off + k, rfl, hg, fun j u hu => ?_⟩
  rw [Nat.add_assoc]
  refine hcell (k + j) u ?_
  rw [bys, List.getElem?_map, List.getElem?_take] at hu
  split at hu
  · rw [List.getElem?_drop] at hu
    rw [bys, List.getElem?_map]
    exact hu
  · cases hu

/-- a row of the call's own behind a call that makes memory of its own alone -/
theorem OwnB.below {w w' : World} {base n c : Nat} {A : Option Addr} {l : List UInt8} (h : OwnB w base A n c l) (hb : Below w.heap.size w w') : OwnB w' base A n c l := by
  obtain ⟨h1, h2⟩ := h
  refine ⟨h1, ?_⟩
  rcases h2 with h2 | ⟨g, cap, cur, e1, e2, e3, e4⟩
  · exact .inl h2
  · exact .inr ⟨g, cap, cur, e1, e2, (hb.block g (Array.getElem?_eq_some_iff.1 e3).1).trans e3, e4⟩
theorem OwnB.lower {w : World} {base base' n c : Nat} {A : Option Addr} {l : List UInt8} (h : OwnB w base A n c l) (hb : base' ≤ base) : OwnB w base' A n c l := by
  obtain ⟨h1, h2⟩ := h
  refine ⟨h1, ?_⟩
  rcases h2 with h2 | ⟨g, cap, cur, e1, e2, e3⟩
  · exact .inl h2
  · exact .inr ⟨g, cap, cur, e1, Nat.le_trans hb e2, e3⟩

/-- append of bytes in a walk -/
theorem app_u8 {ops : Array Oper} {rest : List Oper} {o : Oper} {a : Act} {w : World} {Q : Exit → Act → World → Prop} (hgd : o.guard = none) (s x : Operand)
    (ho : o.op = .call { callee := .builtin .append, args := #[s, x], argTypes := #[22, 22] })
    {base : Nat} {A' : Option Addr} {n c' : Nat} {l' : List UInt8} (hs : a.eval s = .slice A' n c') (hown : OwnB w base A' n c' l')
    {B : Nat} {A : Option Addr} {m c : Nat} {l : List UInt8} (hx : a.eval x = .slice A m c) (hr : RdB w B A m c l)
    (h : ∀ A2 c2 w', OwnB w' base A2 (n + m) c2 (l' ++ l) → Below base w w' → w.grownBy w' (Value.slice A' n c').ownBlock →
      ((Value.slice A2 (n + m) c2).ownBlock = (Value.slice A' n c').ownBlock ∨ (Value.slice A2 (n + m) c2).ownBlock = some w.heap.size) → wpList Tryz.prog ops Q rest (a.put o.dst (.slice A2 (n + m) c2)) w')
    (hsz : n + m ≤ 140737488355328) (hbase : base ≤ w.heap.size) : wpList Tryz.prog ops Q (o :: rest) a w := by
  obtain ⟨i0, hi0, hz0, hz1, hz2⟩ := info_parts info_u8
  refine wpList_app w hgd s x _ ho base 5 i0 _ 1 1 Tryz.underlying22 hi0 hz0 hz1 hz2 rfl (by omega) A' n c' (bys l') hs hown B A m c (bys l) hx hr (bys_one l) ?_ (by omega) (by simp only [maxLen]; omega) hbase
  intro A2 c2 w' h1 h2 h3 _
  rw [← bys_append] at h1
  exact h A2 c2 w' h1 (below_of_app hown h2 hbase) h2 h3

theorem made_bys (n : Nat) : (madeCells (Value.int .u8 0).cells (n * 1)).toList = bys (List.replicate n 0) := by
  apply List.ext_getElem
  · simp [madeCells, bys]
  · intro j h1 h2
    simp [madeCells, bys, Value.cells, Nat.mod_one]

/-- make([]byte, n) -/
theorem make_u8 {ops : Array Oper} {rest : List Oper} {o : Oper} {a : Act} {w : World} {Q : Exit → Act → World → Prop} (hg : o.guard = none) (l c : Operand) (hop : o.op = Op.makeSlice 22 l c)
    (base : Nat) {L C : Int} (n : Nat) (hl : a.eval l = .int .i64 L) (hc : a.eval c = .int .i64 C)
    (hK : ∀ w', OwnB w' base (some ⟨w.heap.size, 0, none⟩) n n (List.replicate n 0) → Below base w w' → wpList Tryz.prog ops Q rest (a.put o.dst (.slice (some ⟨w.heap.size, 0, none⟩) n n)) w')
    (hL : L = (n : Int)) (hC : C = (n : Int)) (hn : n ≤ 281474976710656) (hb : base ≤ w.heap.size) : wpList Tryz.prog ops Q (o :: rest) a w := by
  obtain ⟨i0, hi0, hz0, hz1, hz2⟩ := info_parts info_u8
  refine wpList_make_full w hg l c _ hop base 5 i0 _ 1 Tryz.underlying22 hi0 hz0 hz1 .i64 .i64 L C n hl hc hL hC (by rw [hz2]; omega) (by simp only [maxLen]; omega) hb fun w' h1 h2 => ?_
  rw [made_bys] at h1
  exact hK w' h1 ((Below.refl _ _).grown h2 hb (by intro k hk; cases hk))

theorem bys_set (l : List UInt8) (k : Nat) (b : UInt8) : (bys l).set k (.int .u8 (b.toNat : Int)) = bys (l.set k b) := by
  simp [bys, List.map_set]

theorem OwnB.form {w : World} {base n c : Nat} {A : Option Addr} {l : List UInt8} (h : OwnB w base A n c l) (hn : 0 < n) : ∃ g, A = some ⟨g, 0, none⟩ ∧ base ≤ g ∧ g < w.heap.size := by
  rcases h.2 with ⟨hv, h0⟩ | ⟨g, cap, cur, hv, hb, hg, _⟩
  · omega
  · injection hv with e
    exact ⟨g, e, hb, (Array.getElem?_eq_some_iff.1 hg).1⟩

/-- what a store into such a row wants, and leaves -/
theorem OwnB.at_ {w : World} {base n c g : Nat} {l : List UInt8} (h : OwnB w base (some ⟨g, 0, none⟩) n c l) {k : Nat} (hk : k < l.length) :
    w.cell? ⟨g, k, none⟩ = some (.int .u8 (l[k].toNat : Int)) ∧ w.frozen? ⟨g, k, none⟩ = false := by
  refine ⟨?_, World.ownsRow.frozenAt h k⟩
  rw [World.ownsRow.cellAt h k (by rw [Nat.mul_one, ← h.length]; exact hk), bys, List.getElem?_map, List.getElem?_eq_getElem hk]
  rfl
theorem OwnB.set {w : World} {base n c g : Nat} {l : List UInt8} (h : OwnB w base (some ⟨g, 0, none⟩) n c l) (k : Nat) {v : Int} (b : UInt8) (hv : v = (b.toNat : Int)) :
    OwnB (w.setCell ⟨g, k, none⟩ (.int .u8 v)) base (some ⟨g, 0, none⟩) n c (l.set k b) ∧ Below base w (w.setCell ⟨g, k, none⟩ (.int .u8 v)) ∧ w.grownBy (w.setCell ⟨g, k, none⟩ (.int .u8 v)) (some g) := by
  subst hv
  have hs := World.ownsRow.stored h k (.int .u8 (b.toNat : Int))
  rw [bys_set] at hs
  exact ⟨hs.1, (Below.refl _ _).setCell (World.ownsRow.lt h g rfl).1 _, hs.2⟩

/-- string(b) -/
theorem conv_str {w : World} {B : Nat} {A : Option Addr} {n c : Nat} {l : List UInt8} (h : RdB w B A n c l) : (convert 22 9 (.slice A n c)).run Tryz.prog w = .ok (.string ⟨l.toArray⟩) w := by
  obtain rfl : l.length = n := h.length
  rcases A with _ | a
  · have hc : c = 0 := by
      rcases Nat.eq_zero_or_pos c with h0 | h0
      · exact h0
      · obtain ⟨g, off, e, _⟩ := h.cells h0
        cases e
    have hl : l = [] := List.eq_nil_of_length_eq_zero (by have := h.le; omega)
    subst hl
    exact Lib.run_convert_nil_bytes w _ _ 5 c Tryz.underlying22 Tryz.underlying5 Tryz.underlying9
  · refine run_convert_bytes_back w _ _ 5 a c l Tryz.underlying22 Tryz.underlying5 Tryz.underlying9 fun j hj => ?_
    obtain ⟨g, off, e, _, hcell⟩ := h.get hj
    injection e with e
    subst e
    unfold Addr.add
    by_cases h0 : j = 0
    · subst h0; simpa using hcell
    · simpa [h0] using hcell

theorem strCells_bys (s : ByteArray) : Lib.strCells s = bys s.data.toList := by
  simp [Lib.strCells, bys]

/-- append(b, s...), s a string -/
theorem app_str {ops : Array Oper} {rest : List Oper} {o : Oper} {a : Act} {w : World} {Q : Exit → Act → World → Prop} (hgd : o.guard = none) (s x : Operand)
    (ho : o.op = .call { callee := .builtin .append, args := #[s, x], argTypes := #[22, 9] })
    {base : Nat} {A' : Option Addr} {n c' : Nat} {l' : List UInt8} (hs : a.eval s = .slice A' n c') (hown : OwnB w base A' n c' l') {b : ByteArray} (hx : a.eval x = .string b)
    (h : ∀ A2 c2 w', OwnB w' base A2 (n + b.size) c2 (l' ++ b.data.toList) → Below base w w' → w.grownBy w' (Value.slice A' n c').ownBlock → wpList Tryz.prog ops Q rest (a.put o.dst (.slice A2 (n + b.size) c2)) w')
    (hsz : n + b.size ≤ 140737488355328) (hbase : base ≤ w.heap.size) : wpList Tryz.prog ops Q (o :: rest) a w := by
  obtain ⟨i0, hi0, hz0, hz1, hz2⟩ := info_parts info_u8
  refine Lib.wpList_append_own_string w hgd s x _ _ ho base 5 i0 Tryz.underlying22 Tryz.underlying9 hi0 hz0 hz1 hz2 _ n (bys l') hs hown b hx (by simp only [maxLen]; omega) hsz hbase ?_
  intro v' w' h1 h2 _
  rw [strCells_bys, ← bys_append] at h1
  obtain ⟨A2, c2, rfl⟩ : ∃ A2 c2, v' = .slice A2 (n + b.size) c2 := by
    rcases h1.2 with ⟨rfl, h0⟩ | ⟨g, cap, cur, rfl, _⟩
    · exact ⟨none, 0, by rw [h0]⟩
    · exact ⟨_, _, rfl⟩
  exact h A2 c2 w' h1 (below_of_app hown h2 hbase) h2

set_option maxHeartbeats 400000 in
/-- slices.Clone -/
theorem clone_any (A : Option Addr) (n c : Nat) (l : List UInt8) (w : World) (hr : RdB w w.heap.size A n c l) (hn : n ≤ 1099511627776) :
    Calls Tryz.prog 45 #[.slice A n c] w fun e w' => ∃ A2 c2, e = .returned (.slice A2 n c2) ∧ OwnB w' w.heap.size A2 n c2 l ∧ Below w.heap.size w w' := by
  have hq := fun w => Lib.run_eql_slice_nil (P := Tryz.prog) w 22 5 A n c 0 0 Tryz.underlying22
  rcases A with _ | a
  · have hc : c = 0 := by
      rcases Nat.eq_zero_or_pos c with h0 | h0
      · exact h0
      · obtain ⟨g, off, e, _⟩ := hr.cells h0
        cases e
    have h1 := hr.le
    have h2 := hr.length
    subst hc
    obtain rfl : n = 0 := by omega
    obtain rfl : l = [] := List.eq_nil_of_length_eq_zero h2
    clear hr h1 h2
    go_enter Tryz.func45, Tryz.ntmps45
    go_wp2
    go_ret
    exact ⟨none, 0, rfl, OwnB.nil, Below.refl _ _⟩
  · go_enter Tryz.func45, Tryz.ntmps45
    go_wp2_with (at_builtin; refine app_u8 rfl (.tmp 5) (.tmp 6) rfl rfl (OwnB.made (Nat.le_refl _)) rfl (hr.alloc (Nat.le_refl _) _) ?_ ?c1 ?c2; intro A2 c2 w1 hown hb _ _)
    case c1 => omega
    case c2 => simp
    go_ret
    simp only [Nat.zero_add, List.nil_append] at hown
    exact ⟨A2, c2, by simp, hown, ((Below.refl _ _).alloc (Nat.le_refl _) _).trans hb⟩
end Go.Proofs.YtnkjekkdndjfaaaGreat
