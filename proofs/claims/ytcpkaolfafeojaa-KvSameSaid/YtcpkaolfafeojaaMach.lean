
/- Chapter 19: what is done step by step. -/
import Derived.Test.YtcpkaolfafeojaaOps
import Derived.Test.YtcpkaolfafeojaaKnow
import Derived.Deep.Cut
import Derived.Laws.EntriesVeiled
import Derived.BigQuiet
import Derived.Deep.QuietTactic
namespace Go.Proofs.Ytcpkaolfafeojaa
set_option linter.unusedVariables false
set_option linter.unusedSimpArgs false
open Go.RowKit
/-- a procedure's cells -/
def procL (o : Ask) (f : Value) (a : Bool) (n : Nat) : List Value := [.int .i64 o.kind, .string o.key, .string o.val, .int .i64 o.rev, .string o.iff, .int .i64 o.ifrev, f, .bool a, .int .i64 (n : Int)]
def ProcAt (w : World) (g : Nat) (o : Ask) (f : Value) (a : Bool) (n : Nat) : Prop := At w g 114 (procL o f a n)
theorem mnew_any (w : World) : Calls Try.prog 19 #[] w fun x w' => x = .returned (.pointer (some ⟨w.heap.size, 0, none⟩)) ∧ ProcAt w' w.heap.size Ask.zero .nilFunc false 0 ∧ w' = w.alloc (.cells (procL Ask.zero .nilFunc false 0).toArray 114) := by
  unfold ProcAt procL Ask.zero
  go_enter Try.func19, Try.ntmps19
  go_wp2_with fail
  go_ret
  exact ⟨rfl, At.new _ _ _, rfl⟩
theorem steps_nil (w : World) : Calls Try.prog 25 #[.pointer none] w fun x w' => x = .returned (.int .i64 0) ∧ w = w' := by
  go_enter Try.func25, Try.ntmps25
  go_wp2_with fail
  go_ret
  exact ⟨rfl, rfl⟩
theorem op_nil (w : World) : Calls Try.prog 21 #[.pointer none] w fun x w' => x = .returned (.tuple #[Ask.zero.v, .bool false]) ∧ Below w.heap.size w w' := by
  unfold Ask.v Ask.cells Ask.zero
  go_enter Try.func21, Try.ntmps21
  go_wp2_with fail
  exact bodyPost_ret (v := .tuple #[.agg #[.int .i64 0, .string ⟨#[]⟩, .string ⟨#[]⟩, .int .i64 0, .string ⟨#[]⟩, .int .i64 0], .bool false]) (by simp [results, Try.results21, go_sem]) rfl ⟨rfl, (Below.refl _ _).alloc (Nat.le_refl _) _⟩
theorem feed_nil (w : World) : Calls Try.prog 24 #[.pointer none, .agg #[.int .i64 0, .int .i64 0, .string ⟨#[]⟩, .slice none 0 0]] w fun x w' => x = .returned (.bool false) ∧ Below w.heap.size w w' := by
  go_enter Try.func24, Try.ntmps24
  go_wp2_with fail
  go_ret
  exact ⟨rfl, (Below.refl _ _).alloc (Nat.le_refl _) _⟩
theorem ask_nil (o : Ask) (f : Value) (w : World) : Calls Try.prog 32 #[.pointer none, o.v, f] w fun x w' => x = .returned (.tuple #[]) ∧ Below w.heap.size w w' := by
  unfold Ask.v Ask.cells
  go_enter Try.func32, Try.ntmps32
  go_wp2_with fail
  go_end0
  exact ⟨rfl, (Below.refl _ _).alloc (Nat.le_refl _) _⟩
theorem cells9 {w : World} {g : Nat} {a b c d e f x y z : Value} {t : TypeId} (h : w.heap[g]? = some (.cells #[a, b, c, d, e, f, x, y, z] t)) :
    (w.cell? ⟨g, 0, none⟩ = some a ∧ w.cell? ⟨g, 1, none⟩ = some b ∧ w.cell? ⟨g, 2, none⟩ = some c ∧ w.cell? ⟨g, 3, none⟩ = some d ∧ w.cell? ⟨g, 4, none⟩ = some e ∧ w.cell? ⟨g, 5, none⟩ = some f ∧ w.cell? ⟨g, 6, none⟩ = some x ∧ w.cell? ⟨g, 7, none⟩ = some y ∧ w.cell? ⟨g, 8, none⟩ = some z) ∧
    (w.frozen? ⟨g, 0, none⟩ = false ∧ w.frozen? ⟨g, 1, none⟩ = false ∧ w.frozen? ⟨g, 2, none⟩ = false ∧ w.frozen? ⟨g, 3, none⟩ = false ∧ w.frozen? ⟨g, 4, none⟩ = false ∧ w.frozen? ⟨g, 5, none⟩ = false ∧ w.frozen? ⟨g, 6, none⟩ = false ∧ w.frozen? ⟨g, 7, none⟩ = false ∧ w.frozen? ⟨g, 8, none⟩ = false) := by
  refine ⟨⟨?_, ?_, ?_, ?_, ?_, ?_, ?_, ?_, ?_⟩, ?_, ?_, ?_, ?_, ?_, ?_, ?_, ?_, ?_⟩ <;> simp [World.cell?, World.frozen?, h]
theorem steps_any (g : Nat) (o : Ask) (f : Value) (a : Bool) (n : Nat) (w : World) (h : ProcAt w g o f a n) : Calls Try.prog 25 #[.pointer (some ⟨g, 0, none⟩)] w fun x w' => x = .returned (.int .i64 (n : Int)) ∧ w = w' := by
  obtain ⟨⟨c0, c1, c2, c3, c4, c5, c6, c7, c8⟩, _⟩ := cells9 h
  go_enter Try.func25, Try.ntmps25
  go_wp2_with fail
  go_ret
  exact ⟨rfl, rfl⟩
theorem op_any (g : Nat) (o : Ask) (f : Value) (a : Bool) (n : Nat) (w : World) (h : ProcAt w g o f a n) : Calls Try.prog 21 #[.pointer (some ⟨g, 0, none⟩)] w fun x w' => x = .returned (.tuple #[(if a then o else Ask.zero).v, .bool a]) ∧ Below w.heap.size w w' := by
  have hg : g < w.heap.size := h.lt
  obtain ⟨⟨c0, c1, c2, c3, c4, c5, c6, c7, c8⟩, _⟩ := cells9 h
  unfold Ask.v Ask.cells Ask.zero
  cases a
  · go_enter Try.func21, Try.ntmps21
    go_wp2_with fail
    exact bodyPost_ret (v := .tuple #[.agg #[.int .i64 0, .string ⟨#[]⟩, .string ⟨#[]⟩, .int .i64 0, .string ⟨#[]⟩, .int .i64 0], .bool false]) (by simp [results, Try.results21, go_sem]) rfl ⟨rfl, (Below.refl _ _).alloc (Nat.le_refl _) _⟩
  · go_enter Try.func21, Try.ntmps21
    go_wp2_with fail
    exact bodyPost_ret (v := .tuple #[.agg #[.int .i64 o.kind, .string o.key, .string o.val, .int .i64 o.rev, .string o.iff, .int .i64 o.ifrev], .bool true]) (by simp [results, Try.results21, go_sem]) rfl ⟨rfl, (Below.refl _ _).alloc (Nat.le_refl _) _⟩
def ask_end (w1 : World) (g : Nat) (o : Ask) (f : Value) : World := setMany w1 g [(0, .int .i64 o.kind), (1, .string o.key), (2, .string o.val), (3, .int .i64 o.rev), (4, .string o.iff), (5, .int .i64 o.ifrev), (6, f), (7, .bool true)]
set_option maxRecDepth 100000 in
set_option maxHeartbeats 2000000 in
theorem ask_any (g : Nat) (o o1 : Ask) (f f1 : Value) (a : Bool) (n : Nat) (w : World) (h : ProcAt w g o1 f1 a n) (hf : f = .nilFunc ∨ ∃ x y z, f = .func x y z) : Calls Try.prog 32 #[.pointer (some ⟨g, 0, none⟩), o.v, f] w fun x w' => x = .returned (.tuple #[]) ∧ ProcAt w' g o f true n ∧ Mod (fun k _ => k = g) w w' := by
  have h0 := h.alloc (.cells o.cells 37)
  have hM := (Mod.refl (fun k _ => k = g) w).alloc (.cells o.cells 37)
  have hX := At.new w 37 o.cells.toList
  clear h
  unfold Ask.v Ask.cells at *
  have HH := Lib.hid h0
  have HM := Lib.hid hM
  have HX := Lib.hid hX
  clear h0 hM hX
  rcases hf with rfl | ⟨x, y, z, rfl⟩
  all_goals
    go_enter Try.func32, Try.ntmps32
    go_upto_region 2 with fail
    have h0 := HH.out
    have hM := HM.out
    have hbx := HX.out
    clear HH HM HX
    simp only at h0 hM hbx
    generalize World.alloc _ _ = w1 at *
    obtain ⟨⟨c0, c1, c2, c3, c4, c5, c6, c7, c8⟩, f0, f1, f2, f3, f4, f5, f6, f7, f8⟩ := cells9 h0
    obtain ⟨b0, b1, b2, b3, b4, b5⟩ := cells6 hbx
    have H0 := Lib.hid h0
    have HM := Lib.hid hM
    clear h0 hM hbx
    go_wp2_with fail
    go_end0
    have hmany := fun v => H0.out.many [(0, .int .i64 o.kind), (1, .string o.key), (2, .string o.val), (3, .int .i64 o.rev), (4, .string o.iff), (5, .int .i64 o.ifrev), (6, v), (7, .bool true)]
    exact ⟨rfl, (hmany _).1, HM.out.grown (hmany _).2 (fun i o _ _ e => (Option.some.inj e).symm)⟩
end Go.Proofs.Ytcpkaolfafeojaa
