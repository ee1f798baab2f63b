/-
  No cell of these rows narrows 'for every input' (looked for: loops, veiled, ifaces, maps, wideKeys, modest, calm, conditions, laid).
  DERIVED. THE GIVEN ROWS OF THIS SEAT. 15 by the template 'for every input the law returns true; each argument reads behind the call as it read before'; 0 by the template 'total and deterministic' (their statements: YtcpkaolfafeojaaTotals.lean).
  GIVEN WITH THE SEED: the statements are not yours to turn. If you find one false, say at which input.
  Laid BY PROGRAM, IN A SANDBOX (cutbox-rows.mjs): the forced cells as the released guide's own fill.sh prints them over the translation d819542ab24ca0d5… (all of the seat's roots in one cut). By AI agents, Wed Nov 11 2026. No macro, syntax, notation, axiom, sorry.
-/
import Derived.Test.YtcpkaolfafeojaaChecked
import GoSem.Claim
import GoSem.ClaimJoined
import GoSem.ClaimMapViews
import Derived.JoinedTies
import Derived.KernelRfl
namespace Go.Proofs.Ytcpkaolfafeojaa
/- THE CELL 'sum', in the pinned program and in every row, IS THE sha256 OF THE DUMP (.gsa) THAT YtcpkaolfafeojaaProg.lean LOADS. Nothing in Lean hashes anything: it is a label: what it is worth is what the hold of that sum in a sandbox is worth. -/
noncomputable def Try.pinned : Pinned := { name := "ytcpkaolfafeojaa", sum := "d819542ab24ca0d5ad87e276344c38b6377630c465fe1b549bb640e1b6a0ab61", checked := Try.checked }
namespace Rows
def none {H : Type} : Left H := { results := [], args := [] }

/-- 'virgatelaw19.MachAsks': WHATEVER THE INPUT: true; the input reads as it did. -/
def machAsksSpec : ChangeSpec := { name := "machAsks", fn := fun _ => fun
  | [d1, d2] => { results := [.lit (.bool true)], args := [d1, d2] }
  | _ => none }
def machAsksRow : OpenClaim := { program := "ytcpkaolfafeojaa", sum := "d819542ab24ca0d5ad87e276344c38b6377630c465fe1b549bb640e1b6a0ab61", func := "virgate/virgatelaw19.MachAsks", spec := "machAsks", unfollowed := true, recurses := true, apart := false }
def MachAsksSaid : Prop := machAsksRow.holds Try.pinned (OpenSpec.ofChange machAsksSpec)

/-- ITS FALSE NEIGHBOUR: 'it returns false'. Refute it at one input. -/
def machAsksWrong : ChangeSpec := { name := "machAsks", fn := fun _ => fun
  | [d1, d2] => { results := [.lit (.bool false)], args := [d1, d2] }
  | _ => none }
def MachAsksWrongFalsely : Prop := machAsksRow.holds Try.pinned (OpenSpec.ofChange machAsksWrong)

/-- 'virgatelaw10.RedoApart': WHATEVER THE INPUT: true; the input reads as it did. -/
def redoApartSpec : ChangeSpec := { name := "redoApart", fn := fun _ => fun
  | [d1, d2] => { results := [.lit (.bool true)], args := [d1, d2] }
  | _ => none }
def redoApartRow : OpenClaim := { program := "ytcpkaolfafeojaa", sum := "d819542ab24ca0d5ad87e276344c38b6377630c465fe1b549bb640e1b6a0ab61", func := "virgate/virgatelaw10.RedoApart", spec := "redoApart", apart := false }
def RedoApartSaid : Prop := redoApartRow.holds Try.pinned (OpenSpec.ofChange redoApartSpec)

/-- ITS FALSE NEIGHBOUR: 'it returns false'. Refute it at one input. -/
def redoApartWrong : ChangeSpec := { name := "redoApart", fn := fun _ => fun
  | [d1, d2] => { results := [.lit (.bool false)], args := [d1, d2] }
  | _ => none }
def RedoApartWrongFalsely : Prop := redoApartRow.holds Try.pinned (OpenSpec.ofChange redoApartWrong)

/-- 'virgatelaw19.MachNil': WHATEVER THE INPUT: true; the input reads as it did. -/
def machNilSpec : ChangeSpec := { name := "machNil", fn := fun _ => fun
  | [d] => { results := [.lit (.bool true)], args := [d] }
  | _ => none }
def machNilRow : OpenClaim := { program := "ytcpkaolfafeojaa", sum := "d819542ab24ca0d5ad87e276344c38b6377630c465fe1b549bb640e1b6a0ab61", func := "virgate/virgatelaw19.MachNil", spec := "machNil", unfollowed := true, recurses := true, apart := false }
def MachNilSaid : Prop := machNilRow.holds Try.pinned (OpenSpec.ofChange machNilSpec)

/-- ITS FALSE NEIGHBOUR: 'it returns false'. Refute it at one input. -/
def machNilWrong : ChangeSpec := { name := "machNil", fn := fun _ => fun
  | [d] => { results := [.lit (.bool false)], args := [d] }
  | _ => none }
def MachNilWrongFalsely : Prop := machNilRow.holds Try.pinned (OpenSpec.ofChange machNilWrong)

/-- 'virgatelaw10.RedoPut': WHATEVER THE INPUT: true; the input reads as it did. -/
def redoPutSpec : ChangeSpec := { name := "redoPut", fn := fun _ => fun
  | [d] => { results := [.lit (.bool true)], args := [d] }
  | _ => none }
def redoPutRow : OpenClaim := { program := "ytcpkaolfafeojaa", sum := "d819542ab24ca0d5ad87e276344c38b6377630c465fe1b549bb640e1b6a0ab61", func := "virgate/virgatelaw10.RedoPut", spec := "redoPut", apart := false }
def RedoPutSaid : Prop := redoPutRow.holds Try.pinned (OpenSpec.ofChange redoPutSpec)

/-- ITS FALSE NEIGHBOUR: 'it returns false'. Refute it at one input. -/
def redoPutWrong : ChangeSpec := { name := "redoPut", fn := fun _ => fun
  | [d] => { results := [.lit (.bool false)], args := [d] }
  | _ => none }
def RedoPutWrongFalsely : Prop := redoPutRow.holds Try.pinned (OpenSpec.ofChange redoPutWrong)

/-- 'virgatelaw10.RedoRead': WHATEVER THE INPUT: true; the input reads as it did. -/
def redoReadSpec : ChangeSpec := { name := "redoRead", fn := fun _ => fun
  | [d] => { results := [.lit (.bool true)], args := [d] }
  | _ => none }
def redoReadRow : OpenClaim := { program := "ytcpkaolfafeojaa", sum := "d819542ab24ca0d5ad87e276344c38b6377630c465fe1b549bb640e1b6a0ab61", func := "virgate/virgatelaw10.RedoRead", spec := "redoRead", apart := false }
def RedoReadSaid : Prop := redoReadRow.holds Try.pinned (OpenSpec.ofChange redoReadSpec)

/-- ITS FALSE NEIGHBOUR: 'it returns false'. Refute it at one input. -/
def redoReadWrong : ChangeSpec := { name := "redoRead", fn := fun _ => fun
  | [d] => { results := [.lit (.bool false)], args := [d] }
  | _ => none }
def RedoReadWrongFalsely : Prop := redoReadRow.holds Try.pinned (OpenSpec.ofChange redoReadWrong)

/-- 'virgatelaw09.KvOnce': WHATEVER THE INPUT: true; the input reads as it did. -/
def kvOnceSpec : ChangeSpec := { name := "kvOnce", fn := fun _ => fun
  | [d] => { results := [.lit (.bool true)], args := [d] }
  | _ => none }
def kvOnceRow : OpenClaim := { program := "ytcpkaolfafeojaa", sum := "d819542ab24ca0d5ad87e276344c38b6377630c465fe1b549bb640e1b6a0ab61", func := "virgate/virgatelaw09.KvOnce", spec := "kvOnce", unfollowed := true, recurses := true, apart := false }
def KvOnceSaid : Prop := kvOnceRow.holds Try.pinned (OpenSpec.ofChange kvOnceSpec)

/-- ITS FALSE NEIGHBOUR: 'it returns false'. Refute it at one input. -/
def kvOnceWrong : ChangeSpec := { name := "kvOnce", fn := fun _ => fun
  | [d] => { results := [.lit (.bool false)], args := [d] }
  | _ => none }
def KvOnceWrongFalsely : Prop := kvOnceRow.holds Try.pinned (OpenSpec.ofChange kvOnceWrong)

/-- 'virgatelaw09.KvGuards': WHATEVER THE INPUT: true; the input reads as it did. -/
def kvGuardsSpec : ChangeSpec := { name := "kvGuards", fn := fun _ => fun
  | [d1, d2, d3, d4] => { results := [.lit (.bool true)], args := [d1, d2, d3, d4] }
  | _ => none }
def kvGuardsRow : OpenClaim := { program := "ytcpkaolfafeojaa", sum := "d819542ab24ca0d5ad87e276344c38b6377630c465fe1b549bb640e1b6a0ab61", func := "virgate/virgatelaw09.KvGuards", spec := "kvGuards", unfollowed := true, recurses := true, apart := false }
def KvGuardsSaid : Prop := kvGuardsRow.holds Try.pinned (OpenSpec.ofChange kvGuardsSpec)

/-- ITS FALSE NEIGHBOUR: 'it returns false'. Refute it at one input. -/
def kvGuardsWrong : ChangeSpec := { name := "kvGuards", fn := fun _ => fun
  | [d1, d2, d3, d4] => { results := [.lit (.bool false)], args := [d1, d2, d3, d4] }
  | _ => none }
def KvGuardsWrongFalsely : Prop := kvGuardsRow.holds Try.pinned (OpenSpec.ofChange kvGuardsWrong)

/-- 'virgatelaw09.KvPlays': WHATEVER THE INPUT: true; the input reads as it did. -/
def kvPlaysSpec : ChangeSpec := { name := "kvPlays", fn := fun _ => fun
  | [d] => { results := [.lit (.bool true)], args := [d] }
  | _ => none }
def kvPlaysRow : OpenClaim := { program := "ytcpkaolfafeojaa", sum := "d819542ab24ca0d5ad87e276344c38b6377630c465fe1b549bb640e1b6a0ab61", func := "virgate/virgatelaw09.KvPlays", spec := "kvPlays", unfollowed := true, recurses := true, apart := false }
def KvPlaysSaid : Prop := kvPlaysRow.holds Try.pinned (OpenSpec.ofChange kvPlaysSpec)

/-- ITS FALSE NEIGHBOUR: 'it returns false'. Refute it at one input. -/
def kvPlaysWrong : ChangeSpec := { name := "kvPlays", fn := fun _ => fun
  | [d] => { results := [.lit (.bool false)], args := [d] }
  | _ => none }
def KvPlaysWrongFalsely : Prop := kvPlaysRow.holds Try.pinned (OpenSpec.ofChange kvPlaysWrong)

/-- 'virgatelaw09.KvNil': WHATEVER THE INPUT: true; the input reads as it did. -/
def kvNilSpec : ChangeSpec := { name := "kvNil", fn := fun _ => fun
  | [d] => { results := [.lit (.bool true)], args := [d] }
  | _ => none }
def kvNilRow : OpenClaim := { program := "ytcpkaolfafeojaa", sum := "d819542ab24ca0d5ad87e276344c38b6377630c465fe1b549bb640e1b6a0ab61", func := "virgate/virgatelaw09.KvNil", spec := "kvNil", unfollowed := true, recurses := true, apart := false }
def KvNilSaid : Prop := kvNilRow.holds Try.pinned (OpenSpec.ofChange kvNilSpec)

/-- ITS FALSE NEIGHBOUR: 'it returns false'. Refute it at one input. -/
def kvNilWrong : ChangeSpec := { name := "kvNil", fn := fun _ => fun
  | [d] => { results := [.lit (.bool false)], args := [d] }
  | _ => none }
def KvNilWrongFalsely : Prop := kvNilRow.holds Try.pinned (OpenSpec.ofChange kvNilWrong)

/-- 'virgatelaw09.KvLists': WHATEVER THE INPUT: true; the input reads as it did. -/
def kvListsSpec : ChangeSpec := { name := "kvLists", fn := fun _ => fun
  | [d1, d2] => { results := [.lit (.bool true)], args := [d1, d2] }
  | _ => none }
def kvListsRow : OpenClaim := { program := "ytcpkaolfafeojaa", sum := "d819542ab24ca0d5ad87e276344c38b6377630c465fe1b549bb640e1b6a0ab61", func := "virgate/virgatelaw09.KvLists", spec := "kvLists", unfollowed := true, recurses := true, apart := false }
def KvListsSaid : Prop := kvListsRow.holds Try.pinned (OpenSpec.ofChange kvListsSpec)

/-- ITS FALSE NEIGHBOUR: 'it returns false'. Refute it at one input. -/
def kvListsWrong : ChangeSpec := { name := "kvLists", fn := fun _ => fun
  | [d1, d2] => { results := [.lit (.bool false)], args := [d1, d2] }
  | _ => none }
def KvListsWrongFalsely : Prop := kvListsRow.holds Try.pinned (OpenSpec.ofChange kvListsWrong)

/-- 'virgatelaw09.KvSame': WHATEVER THE INPUT: true; the input reads as it did. -/
def kvSameSpec : ChangeSpec := { name := "kvSame", fn := fun _ => fun
  | [d1, d2] => { results := [.lit (.bool true)], args := [d1, d2] }
  | _ => none }
def kvSameRow : OpenClaim := { program := "ytcpkaolfafeojaa", sum := "d819542ab24ca0d5ad87e276344c38b6377630c465fe1b549bb640e1b6a0ab61", func := "virgate/virgatelaw09.KvSame", spec := "kvSame", unfollowed := true, recurses := true, apart := false }
def KvSameSaid : Prop := kvSameRow.holds Try.pinned (OpenSpec.ofChange kvSameSpec)

/-- ITS FALSE NEIGHBOUR: 'it returns false'. Refute it at one input. -/
def kvSameWrong : ChangeSpec := { name := "kvSame", fn := fun _ => fun
  | [d1, d2] => { results := [.lit (.bool false)], args := [d1, d2] }
  | _ => none }
def KvSameWrongFalsely : Prop := kvSameRow.holds Try.pinned (OpenSpec.ofChange kvSameWrong)

/-- 'virgatelaw09.KvApply': WHATEVER THE INPUT: true; the input reads as it did. -/
def kvApplySpec : ChangeSpec := { name := "kvApply", fn := fun _ => fun
  | [d1, d2, d3] => { results := [.lit (.bool true)], args := [d1, d2, d3] }
  | _ => none }
def kvApplyRow : OpenClaim := { program := "ytcpkaolfafeojaa", sum := "d819542ab24ca0d5ad87e276344c38b6377630c465fe1b549bb640e1b6a0ab61", func := "virgate/virgatelaw09.KvApply", spec := "kvApply", unfollowed := true, recurses := true, apart := false }
def KvApplySaid : Prop := kvApplyRow.holds Try.pinned (OpenSpec.ofChange kvApplySpec)

/-- ITS FALSE NEIGHBOUR: 'it returns false'. Refute it at one input. -/
def kvApplyWrong : ChangeSpec := { name := "kvApply", fn := fun _ => fun
  | [d1, d2, d3] => { results := [.lit (.bool false)], args := [d1, d2, d3] }
  | _ => none }
def KvApplyWrongFalsely : Prop := kvApplyRow.holds Try.pinned (OpenSpec.ofChange kvApplyWrong)

/-- 'virgatelaw10.RedoBack': WHATEVER THE INPUT: true; the input reads as it did. -/
def redoBackSpec : ChangeSpec := { name := "redoBack", fn := fun _ => fun
  | [d] => { results := [.lit (.bool true)], args := [d] }
  | _ => none }
def redoBackRow : OpenClaim := { program := "ytcpkaolfafeojaa", sum := "d819542ab24ca0d5ad87e276344c38b6377630c465fe1b549bb640e1b6a0ab61", func := "virgate/virgatelaw10.RedoBack", spec := "redoBack", unfollowed := true, recurses := true, apart := false }
def RedoBackSaid : Prop := redoBackRow.holds Try.pinned (OpenSpec.ofChange redoBackSpec)

/-- ITS FALSE NEIGHBOUR: 'it returns false'. Refute it at one input. -/
def redoBackWrong : ChangeSpec := { name := "redoBack", fn := fun _ => fun
  | [d] => { results := [.lit (.bool false)], args := [d] }
  | _ => none }
def RedoBackWrongFalsely : Prop := redoBackRow.holds Try.pinned (OpenSpec.ofChange redoBackWrong)

/-- 'virgatelaw19.MachRuns': WHATEVER THE INPUT: true; the input reads as it did. -/
def machRunsSpec : ChangeSpec := { name := "machRuns", fn := fun _ => fun
  | [d1, d2] => { results := [.lit (.bool true)], args := [d1, d2] }
  | _ => none }
def machRunsRow : OpenClaim := { program := "ytcpkaolfafeojaa", sum := "d819542ab24ca0d5ad87e276344c38b6377630c465fe1b549bb640e1b6a0ab61", func := "virgate/virgatelaw19.MachRuns", spec := "machRuns", unfollowed := true, recurses := true, apart := false }
def MachRunsSaid : Prop := machRunsRow.holds Try.pinned (OpenSpec.ofChange machRunsSpec)

/-- ITS FALSE NEIGHBOUR: 'it returns false'. Refute it at one input. -/
def machRunsWrong : ChangeSpec := { name := "machRuns", fn := fun _ => fun
  | [d1, d2] => { results := [.lit (.bool false)], args := [d1, d2] }
  | _ => none }
def MachRunsWrongFalsely : Prop := machRunsRow.holds Try.pinned (OpenSpec.ofChange machRunsWrong)

/-- 'virgatelaw10.RedoState': WHATEVER THE INPUT: true; the input reads as it did. -/
def redoStateSpec : ChangeSpec := { name := "redoState", fn := fun _ => fun
  | [d] => { results := [.lit (.bool true)], args := [d] }
  | _ => none }
def redoStateRow : OpenClaim := { program := "ytcpkaolfafeojaa", sum := "d819542ab24ca0d5ad87e276344c38b6377630c465fe1b549bb640e1b6a0ab61", func := "virgate/virgatelaw10.RedoState", spec := "redoState", unfollowed := true, recurses := true, apart := false }
def RedoStateSaid : Prop := redoStateRow.holds Try.pinned (OpenSpec.ofChange redoStateSpec)

/-- ITS FALSE NEIGHBOUR: 'it returns false'. Refute it at one input. -/
def redoStateWrong : ChangeSpec := { name := "redoState", fn := fun _ => fun
  | [d] => { results := [.lit (.bool false)], args := [d] }
  | _ => none }
def RedoStateWrongFalsely : Prop := redoStateRow.holds Try.pinned (OpenSpec.ofChange redoStateWrong)

/- THE SECOND FORM. 'bulk': how many values and letters a reading holds, each counted each time it is reached (what is shared counts as often as it is met; a slice's spare places count too). A statement '..UptoSaid' is the law's where the arguments, and the package variables that the reading takes, are together of bulk at most 1048576: NARROWER than '..Said'. Prove '..Said' where nothing that the law and all that it calls make is longer than what came in: it says more and counts as full. Else prove '..UptoSaid'. A law counts once. -/
mutual
def uptoBulk {H : Type} : DataW H → Nat
  | .lit (.string bytes) => bytes.length + 1
  | .lit _ => 1
  | .nil => 1
  | .ptr d => uptoBulk d + 1
  | .slice elems spare => uptoBulkAll elems + uptoBulkAll spare + 1
  | .agg parts => uptoBulkAll parts + 1
  | .iface _ d => uptoBulk d + 1
  | .map entries => uptoBulkEntries entries + 1
  | .held _ => 1
def uptoBulkAll {H : Type} : List (DataW H) → Nat
  | [] => 0
  | d :: r => uptoBulk d + uptoBulkAll r
def uptoBulkEntries {H : Type} : List (Lit × DataW H) → Nat
  | [] => 0
  | x :: r => uptoBulkEntry x + uptoBulkEntries r
def uptoBulkEntry {H : Type} : Lit × DataW H → Nat
  | (.string bytes, d) => bytes.length + uptoBulk d + 1
  | (_, d) => uptoBulk d + 1
 end
def uptoSmall : (H : Type) → List (DataW H) → Bool := fun _ ds => decide (uptoBulkAll ds ≤ 1048576)
def OpenSpec.upto (s : _root_.Go.ChangeSpec) : _root_.Go.OpenSpec := { _root_.Go.OpenSpec.ofChange s with cond := some uptoSmall }

/-- 'virgatelaw19.MachAsks', WHERE WHAT IT READS IS OF BULK AT MOST 1048576: true; the input reads as it did. -/
def machAsksUptoRow : OpenClaim := { program := "ytcpkaolfafeojaa", sum := "d819542ab24ca0d5ad87e276344c38b6377630c465fe1b549bb640e1b6a0ab61", func := "virgate/virgatelaw19.MachAsks", spec := "machAsks", unfollowed := true, recurses := true, apart := false, narrowed := true }
def MachAsksUptoSaid : Prop := machAsksUptoRow.holds Try.pinned (OpenSpec.upto machAsksSpec)

/-- 'virgatelaw10.RedoApart', WHERE WHAT IT READS IS OF BULK AT MOST 1048576: true; the input reads as it did. -/
def redoApartUptoRow : OpenClaim := { program := "ytcpkaolfafeojaa", sum := "d819542ab24ca0d5ad87e276344c38b6377630c465fe1b549bb640e1b6a0ab61", func := "virgate/virgatelaw10.RedoApart", spec := "redoApart", apart := false, narrowed := true }
def RedoApartUptoSaid : Prop := redoApartUptoRow.holds Try.pinned (OpenSpec.upto redoApartSpec)

/-- 'virgatelaw19.MachNil', WHERE WHAT IT READS IS OF BULK AT MOST 1048576: true; the input reads as it did. -/
def machNilUptoRow : OpenClaim := { program := "ytcpkaolfafeojaa", sum := "d819542ab24ca0d5ad87e276344c38b6377630c465fe1b549bb640e1b6a0ab61", func := "virgate/virgatelaw19.MachNil", spec := "machNil", unfollowed := true, recurses := true, apart := false, narrowed := true }
def MachNilUptoSaid : Prop := machNilUptoRow.holds Try.pinned (OpenSpec.upto machNilSpec)

/-- 'virgatelaw10.RedoPut', WHERE WHAT IT READS IS OF BULK AT MOST 1048576: true; the input reads as it did. -/
def redoPutUptoRow : OpenClaim := { program := "ytcpkaolfafeojaa", sum := "d819542ab24ca0d5ad87e276344c38b6377630c465fe1b549bb640e1b6a0ab61", func := "virgate/virgatelaw10.RedoPut", spec := "redoPut", apart := false, narrowed := true }
def RedoPutUptoSaid : Prop := redoPutUptoRow.holds Try.pinned (OpenSpec.upto redoPutSpec)

/-- 'virgatelaw10.RedoRead', WHERE WHAT IT READS IS OF BULK AT MOST 1048576: true; the input reads as it did. -/
def redoReadUptoRow : OpenClaim := { program := "ytcpkaolfafeojaa", sum := "d819542ab24ca0d5ad87e276344c38b6377630c465fe1b549bb640e1b6a0ab61", func := "virgate/virgatelaw10.RedoRead", spec := "redoRead", apart := false, narrowed := true }
def RedoReadUptoSaid : Prop := redoReadUptoRow.holds Try.pinned (OpenSpec.upto redoReadSpec)

/-- 'virgatelaw09.KvOnce', WHERE WHAT IT READS IS OF BULK AT MOST 1048576: true; the input reads as it did. -/
def kvOnceUptoRow : OpenClaim := { program := "ytcpkaolfafeojaa", sum := "d819542ab24ca0d5ad87e276344c38b6377630c465fe1b549bb640e1b6a0ab61", func := "virgate/virgatelaw09.KvOnce", spec := "kvOnce", unfollowed := true, recurses := true, apart := false, narrowed := true }
def KvOnceUptoSaid : Prop := kvOnceUptoRow.holds Try.pinned (OpenSpec.upto kvOnceSpec)

/-- 'virgatelaw09.KvGuards', WHERE WHAT IT READS IS OF BULK AT MOST 1048576: true; the input reads as it did. -/
def kvGuardsUptoRow : OpenClaim := { program := "ytcpkaolfafeojaa", sum := "d819542ab24ca0d5ad87e276344c38b6377630c465fe1b549bb640e1b6a0ab61", func := "virgate/virgatelaw09.KvGuards", spec := "kvGuards", unfollowed := true, recurses := true, apart := false, narrowed := true }
def KvGuardsUptoSaid : Prop := kvGuardsUptoRow.holds Try.pinned (OpenSpec.upto kvGuardsSpec)

/-- 'virgatelaw09.KvPlays', WHERE WHAT IT READS IS OF BULK AT MOST 1048576: true; the input reads as it did. -/
def kvPlaysUptoRow : OpenClaim := { program := "ytcpkaolfafeojaa", sum := "d819542ab24ca0d5ad87e276344c38b6377630c465fe1b549bb640e1b6a0ab61", func := "virgate/virgatelaw09.KvPlays", spec := "kvPlays", unfollowed := true, recurses := true, apart := false, narrowed := true }
def KvPlaysUptoSaid : Prop := kvPlaysUptoRow.holds Try.pinned (OpenSpec.upto kvPlaysSpec)

/-- 'virgatelaw09.KvNil', WHERE WHAT IT READS IS OF BULK AT MOST 1048576: true; the input reads as it did. -/
def kvNilUptoRow : OpenClaim := { program := "ytcpkaolfafeojaa", sum := "d819542ab24ca0d5ad87e276344c38b6377630c465fe1b549bb640e1b6a0ab61", func := "virgate/virgatelaw09.KvNil", spec := "kvNil", unfollowed := true, recurses := true, apart := false, narrowed := true }
def KvNilUptoSaid : Prop := kvNilUptoRow.holds Try.pinned (OpenSpec.upto kvNilSpec)

/-- 'virgatelaw09.KvLists', WHERE WHAT IT READS IS OF BULK AT MOST 1048576: true; the input reads as it did. -/
def kvListsUptoRow : OpenClaim := { program := "ytcpkaolfafeojaa", sum := "d819542ab24ca0d5ad87e276344c38b6377630c465fe1b549bb640e1b6a0ab61", func := "virgate/virgatelaw09.KvLists", spec := "kvLists", unfollowed := true, recurses := true, apart := false, narrowed := true }
def KvListsUptoSaid : Prop := kvListsUptoRow.holds Try.pinned (OpenSpec.upto kvListsSpec)

/-- 'virgatelaw09.KvSame', WHERE WHAT IT READS IS OF BULK AT MOST 1048576: true; the input reads as it did. -/
def kvSameUptoRow : OpenClaim := { program := "ytcpkaolfafeojaa", sum := "d819542ab24ca0d5ad87e276344c38b6377630c465fe1b549bb640e1b6a0ab61", func := "virgate/virgatelaw09.KvSame", spec := "kvSame", unfollowed := true, recurses := true, apart := false, narrowed := true }
def KvSameUptoSaid : Prop := kvSameUptoRow.holds Try.pinned (OpenSpec.upto kvSameSpec)

/-- 'virgatelaw09.KvApply', WHERE WHAT IT READS IS OF BULK AT MOST 1048576: true; the input reads as it did. -/
def kvApplyUptoRow : OpenClaim := { program := "ytcpkaolfafeojaa", sum := "d819542ab24ca0d5ad87e276344c38b6377630c465fe1b549bb640e1b6a0ab61", func := "virgate/virgatelaw09.KvApply", spec := "kvApply", unfollowed := true, recurses := true, apart := false, narrowed := true }
def KvApplyUptoSaid : Prop := kvApplyUptoRow.holds Try.pinned (OpenSpec.upto kvApplySpec)

/-- 'virgatelaw10.RedoBack', WHERE WHAT IT READS IS OF BULK AT MOST 1048576: true; the input reads as it did. -/
def redoBackUptoRow : OpenClaim := { program := "ytcpkaolfafeojaa", sum := "d819542ab24ca0d5ad87e276344c38b6377630c465fe1b549bb640e1b6a0ab61", func := "virgate/virgatelaw10.RedoBack", spec := "redoBack", unfollowed := true, recurses := true, apart := false, narrowed := true }
def RedoBackUptoSaid : Prop := redoBackUptoRow.holds Try.pinned (OpenSpec.upto redoBackSpec)

/-- 'virgatelaw19.MachRuns', WHERE WHAT IT READS IS OF BULK AT MOST 1048576: true; the input reads as it did. -/
def machRunsUptoRow : OpenClaim := { program := "ytcpkaolfafeojaa", sum := "d819542ab24ca0d5ad87e276344c38b6377630c465fe1b549bb640e1b6a0ab61", func := "virgate/virgatelaw19.MachRuns", spec := "machRuns", unfollowed := true, recurses := true, apart := false, narrowed := true }
def MachRunsUptoSaid : Prop := machRunsUptoRow.holds Try.pinned (OpenSpec.upto machRunsSpec)

/-- 'virgatelaw10.RedoState', WHERE WHAT IT READS IS OF BULK AT MOST 1048576: true; the input reads as it did. -/
def redoStateUptoRow : OpenClaim := { program := "ytcpkaolfafeojaa", sum := "d819542ab24ca0d5ad87e276344c38b6377630c465fe1b549bb640e1b6a0ab61", func := "virgate/virgatelaw10.RedoState", spec := "redoState", unfollowed := true, recurses := true, apart := false, narrowed := true }
def RedoStateUptoSaid : Prop := redoStateUptoRow.holds Try.pinned (OpenSpec.upto redoStateSpec)

end Rows
end Go.Proofs.Ytcpkaolfafeojaa
