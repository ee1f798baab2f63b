
/- Chapter 19: what is done step by step. -/
import Derived.Deep.Cut
import Derived.Laws.EntriesVeiled
import Derived.BigQuiet
import Derived.Deep.QuietTactic
import Derived.StillTailTactics
import Derived.Test.YtnkjekkdndjfaaaGreatOps
import Derived.Test.YtnkjekkdndjfaaaGreatRgA
namespace Go.Proofs.YtnkjekkdndjfaaaGreat
set_option linter.unusedVariables false
set_option linter.unusedSimpArgs false
open Go.RowKit
/-- a procedure's cells -/
def procL (o : Ask) (f : Value) (a : Bool) (n : Nat) : List Value := [.int .i64 o.kind, .string o.key, .string o.val, .int .i64 o.rev, .string o.iff, .int .i64 o.ifrev, f, .bool a, .int .i64 (n : Int)]
theorem cells9 {w : World} {g : Nat} {a b c d e f x y z : Value} {t : TypeId} (h : w.heap[g]? = some (.cells #[a, b, c, d, e, f, x, y, z] t)) :
    (w.cell? ⟨g, 0, none⟩ = some a ∧ w.cell? ⟨g, 1, none⟩ = some b ∧ w.cell? ⟨g, 2, none⟩ = some c ∧ w.cell? ⟨g, 3, none⟩ = some d ∧ w.cell? ⟨g, 4, none⟩ = some e ∧ w.cell? ⟨g, 5, none⟩ = some f ∧ w.cell? ⟨g, 6, none⟩ = some x ∧ w.cell? ⟨g, 7, none⟩ = some y ∧ w.cell? ⟨g, 8, none⟩ = some z) ∧
    (w.frozen? ⟨g, 0, none⟩ = false ∧ w.frozen? ⟨g, 1, none⟩ = false ∧ w.frozen? ⟨g, 2, none⟩ = false ∧ w.frozen? ⟨g, 3, none⟩ = false ∧ w.frozen? ⟨g, 4, none⟩ = false ∧ w.frozen? ⟨g, 5, none⟩ = false ∧ w.frozen? ⟨g, 6, none⟩ = false ∧ w.frozen? ⟨g, 7, none⟩ = false ∧ w.frozen? ⟨g, 8, none⟩ = false) := by
  refine ⟨⟨?_, ?_, ?_, ?_, ?_, ?_, ?_, ?_, ?_⟩, ?_, ?_, ?_, ?_, ?_, ?_, ?_, ?_, ?_⟩ <;> simp [World.cell?, World.frozen?, h]
def ask_end (w1 : World) (g : Nat) (o : Ask) (f : Value) : World := setMany w1 g [(0, .int .i64 o.kind), (1, .string o.key), (2, .string o.val), (3, .int .i64 o.rev), (4, .string o.iff), (5, .int .i64 o.ifrev), (6, f), (7, .bool true)]
end Go.Proofs.YtnkjekkdndjfaaaGreat
namespace Go.Proofs.YtnkjekkdndjfaaaGreat
set_option linter.unusedVariables false
set_option linter.unusedSimpArgs false
open Go.RowKit
/-- what is told -/
structure Res where
  code : Int
  rev : Int
  val : ByteArray
  A : Option Addr
  n : Nat
  c : Nat
def Res.row (r : Res) : List Value := [.int .i64 r.code, .int .i64 r.rev, .string r.val, .slice r.A r.n r.c]
def Res.v (r : Res) : Value := .agg r.row.toArray
def Ask.row (o : Ask) : List Value := [.int .i64 o.kind, .string o.key, .string o.val, .int .i64 o.rev, .string o.iff, .int .i64 o.ifrev]
theorem Ask.row_length (o : Ask) : o.row.length = 6 := rfl
theorem Res.row_length (r : Res) : r.row.length = 4 := rfl
def ChainCells (gp : Nat) (Al : Option Addr) (nl cl : Nat) (Ad : Option Addr) (nt ct : Nat) : List Value := [.pointer (some ⟨gp, 0, none⟩), .slice Al nl cl, .slice Ad nt ct]
section
variable {w w' : World} {gc gp B : Nat} {L : List Ask} {rs : List Res} {Al Ad : Option Addr} {nl cl nt ct : Nat}
end
def TCond (gc gp B : Nat) : Nat → Obj → Prop := fun k o => k = gc ∨ k = gp ∨ (B ≤ k ∧ IsT 58 o)
theorem info_res : (Tryz.prog.info? 58).map (fun i => (i.zero, i.size, i.bytes)) = some (some (.agg #[.int .i64 0, .int .i64 0, .string ⟨#[]⟩, .slice none 0 0]), 4, 56) := by kernel_rfl
def feedL (n : Nat) : List (Nat × Value) := [(0, .int .i64 0), (1, .string ⟨#[]⟩), (2, .string ⟨#[]⟩), (3, .int .i64 0), (4, .string ⟨#[]⟩), (5, .int .i64 0), (6, .nilFunc), (7, .bool false), (8, .int .i64 ((n + 1 : Nat) : Int))]
end Go.Proofs.YtnkjekkdndjfaaaGreat
