/-
  No cell of these rows narrows 'for every input' (looked for: loops, veiled, ifaces, maps, wideKeys, modest, calm, conditions, laid).
  DERIVED. THE GIVEN ROWS OF THIS SEAT. 9 by the template 'for every input the law returns true; each argument reads behind the call as it read before'; 0 by the template 'total and deterministic' (their statements: YtcepknjcgknidaaTotals.lean).
  GIVEN WITH THE SEED: the statements are not yours to turn. If you find one false, say at which input.
  Laid BY PROGRAM, IN A SANDBOX (cutbox-rows.mjs): the forced cells as the released guide's own fill.sh prints them over the translation 5460916ae5097540… (all of the seat's roots in one cut). By AI agents, Wed Nov 11 2026. No macro, syntax, notation, axiom, sorry.
-/
import Derived.Test.YtcepknjcgknidaaChecked
import GoSem.Claim
import GoSem.ClaimJoined
import GoSem.ClaimMapViews
import Derived.JoinedTies
import Derived.KernelRfl
namespace Go.Proofs.Ytcepknjcgknidaa
/- THE CELL 'sum', in the pinned program and in every row, IS THE sha256 OF THE DUMP (.gsa) THAT YtcepknjcgknidaaProg.lean LOADS. Nothing in Lean hashes anything: it is a label: what it is worth is what the hold of that sum in a sandbox is worth. -/
noncomputable def Try.pinned : Pinned := { name := "ytcepknjcgknidaa", sum := "5460916ae50975401e6526106715328d30177a7e3366bf7dbf6b4ac678de9343", checked := Try.checked }
namespace Rows
def none {H : Type} : Left H := { results := [], args := [] }

/-- 'virgatelaw13.RecsStates': WHATEVER THE INPUT: true; the input reads as it did. -/
def recsStatesSpec : ChangeSpec := { name := "recsStates", fn := fun _ => fun
  | [d1, d2, d3] => { results := [.lit (.bool true)], args := [d1, d2, d3] }
  | _ => none }
def recsStatesRow : OpenClaim := { program := "ytcepknjcgknidaa", sum := "5460916ae50975401e6526106715328d30177a7e3366bf7dbf6b4ac678de9343", func := "virgate/virgatelaw13.RecsStates", spec := "recsStates", apart := false }
def RecsStatesSaid : Prop := recsStatesRow.holds Try.pinned (OpenSpec.ofChange recsStatesSpec)

/-- ITS FALSE NEIGHBOUR: 'it returns false'. Refute it at one input. -/
def recsStatesWrong : ChangeSpec := { name := "recsStates", fn := fun _ => fun
  | [d1, d2, d3] => { results := [.lit (.bool false)], args := [d1, d2, d3] }
  | _ => none }
def RecsStatesWrongFalsely : Prop := recsStatesRow.holds Try.pinned (OpenSpec.ofChange recsStatesWrong)

/-- 'virgatelaw13.RecsBlocks': WHATEVER THE INPUT: true; the input reads as it did. -/
def recsBlocksSpec : ChangeSpec := { name := "recsBlocks", fn := fun _ => fun
  | [d1, d2, d3] => { results := [.lit (.bool true)], args := [d1, d2, d3] }
  | _ => none }
def recsBlocksRow : OpenClaim := { program := "ytcepknjcgknidaa", sum := "5460916ae50975401e6526106715328d30177a7e3366bf7dbf6b4ac678de9343", func := "virgate/virgatelaw13.RecsBlocks", spec := "recsBlocks", apart := false }
def RecsBlocksSaid : Prop := recsBlocksRow.holds Try.pinned (OpenSpec.ofChange recsBlocksSpec)

/-- ITS FALSE NEIGHBOUR: 'it returns false'. Refute it at one input. -/
def recsBlocksWrong : ChangeSpec := { name := "recsBlocks", fn := fun _ => fun
  | [d1, d2, d3] => { results := [.lit (.bool false)], args := [d1, d2, d3] }
  | _ => none }
def RecsBlocksWrongFalsely : Prop := recsBlocksRow.holds Try.pinned (OpenSpec.ofChange recsBlocksWrong)

/-- 'virgatelaw13.RecsPool': WHATEVER THE INPUT: true; the input reads as it did. -/
def recsPoolSpec : ChangeSpec := { name := "recsPool", fn := fun _ => fun
  | [d] => { results := [.lit (.bool true)], args := [d] }
  | _ => none }
def recsPoolRow : OpenClaim := { program := "ytcepknjcgknidaa", sum := "5460916ae50975401e6526106715328d30177a7e3366bf7dbf6b4ac678de9343", func := "virgate/virgatelaw13.RecsPool", spec := "recsPool", apart := false }
def RecsPoolSaid : Prop := recsPoolRow.holds Try.pinned (OpenSpec.ofChange recsPoolSpec)

/-- ITS FALSE NEIGHBOUR: 'it returns false'. Refute it at one input. -/
def recsPoolWrong : ChangeSpec := { name := "recsPool", fn := fun _ => fun
  | [d] => { results := [.lit (.bool false)], args := [d] }
  | _ => none }
def RecsPoolWrongFalsely : Prop := recsPoolRow.holds Try.pinned (OpenSpec.ofChange recsPoolWrong)

/-- 'virgatelaw13.RecsRead': WHATEVER THE INPUT: true; the input reads as it did. -/
def recsReadSpec : ChangeSpec := { name := "recsRead", fn := fun _ => fun
  | [d] => { results := [.lit (.bool true)], args := [d] }
  | _ => none }
def recsReadRow : OpenClaim := { program := "ytcepknjcgknidaa", sum := "5460916ae50975401e6526106715328d30177a7e3366bf7dbf6b4ac678de9343", func := "virgate/virgatelaw13.RecsRead", spec := "recsRead", apart := false }
def RecsReadSaid : Prop := recsReadRow.holds Try.pinned (OpenSpec.ofChange recsReadSpec)

/-- ITS FALSE NEIGHBOUR: 'it returns false'. Refute it at one input. -/
def recsReadWrong : ChangeSpec := { name := "recsRead", fn := fun _ => fun
  | [d] => { results := [.lit (.bool false)], args := [d] }
  | _ => none }
def RecsReadWrongFalsely : Prop := recsReadRow.holds Try.pinned (OpenSpec.ofChange recsReadWrong)

/-- 'virgatelaw17.HandleSets': WHATEVER THE INPUT: true; the input reads as it did. -/
def handleSetsSpec : ChangeSpec := { name := "handleSets", fn := fun _ => fun
  | [d1, d2, d3] => { results := [.lit (.bool true)], args := [d1, d2, d3] }
  | _ => none }
def handleSetsRow : OpenClaim := { program := "ytcepknjcgknidaa", sum := "5460916ae50975401e6526106715328d30177a7e3366bf7dbf6b4ac678de9343", func := "virgate/virgatelaw17.HandleSets", spec := "handleSets", inPlace := ["slices.overlaps[virgate/handle.Count]"], unfollowed := true, recurses := true, apart := false }
def HandleSetsSaid : Prop := handleSetsRow.holds Try.pinned (OpenSpec.ofChange handleSetsSpec)

/-- ITS FALSE NEIGHBOUR: 'it returns false'. Refute it at one input. -/
def handleSetsWrong : ChangeSpec := { name := "handleSets", fn := fun _ => fun
  | [d1, d2, d3] => { results := [.lit (.bool false)], args := [d1, d2, d3] }
  | _ => none }
def HandleSetsWrongFalsely : Prop := handleSetsRow.holds Try.pinned (OpenSpec.ofChange handleSetsWrong)

/-- 'virgatelaw17.HandleBack': WHATEVER THE INPUT: true; the input reads as it did. -/
def handleBackSpec : ChangeSpec := { name := "handleBack", fn := fun _ => fun
  | [d1, d2, d3] => { results := [.lit (.bool true)], args := [d1, d2, d3] }
  | _ => none }
def handleBackRow : OpenClaim := { program := "ytcepknjcgknidaa", sum := "5460916ae50975401e6526106715328d30177a7e3366bf7dbf6b4ac678de9343", func := "virgate/virgatelaw17.HandleBack", spec := "handleBack", inPlace := ["slices.overlaps[virgate/handle.Count]"], unfollowed := true, recurses := true, apart := false }
def HandleBackSaid : Prop := handleBackRow.holds Try.pinned (OpenSpec.ofChange handleBackSpec)

/-- ITS FALSE NEIGHBOUR: 'it returns false'. Refute it at one input. -/
def handleBackWrong : ChangeSpec := { name := "handleBack", fn := fun _ => fun
  | [d1, d2, d3] => { results := [.lit (.bool false)], args := [d1, d2, d3] }
  | _ => none }
def HandleBackWrongFalsely : Prop := handleBackRow.holds Try.pinned (OpenSpec.ofChange handleBackWrong)

/-- 'virgatelaw17.HandleFits': WHATEVER THE INPUT: true; the input reads as it did. -/
def handleFitsSpec : ChangeSpec := { name := "handleFits", fn := fun _ => fun
  | [d] => { results := [.lit (.bool true)], args := [d] }
  | _ => none }
def handleFitsRow : OpenClaim := { program := "ytcepknjcgknidaa", sum := "5460916ae50975401e6526106715328d30177a7e3366bf7dbf6b4ac678de9343", func := "virgate/virgatelaw17.HandleFits", spec := "handleFits", inPlace := ["slices.overlaps[virgate/handle.Count]"], unfollowed := true, recurses := true, apart := false }
def HandleFitsSaid : Prop := handleFitsRow.holds Try.pinned (OpenSpec.ofChange handleFitsSpec)

/-- ITS FALSE NEIGHBOUR: 'it returns false'. Refute it at one input. -/
def handleFitsWrong : ChangeSpec := { name := "handleFits", fn := fun _ => fun
  | [d] => { results := [.lit (.bool false)], args := [d] }
  | _ => none }
def HandleFitsWrongFalsely : Prop := handleFitsRow.holds Try.pinned (OpenSpec.ofChange handleFitsWrong)

/-- 'virgatelaw17.HandleRead': WHATEVER THE INPUT: true; the input reads as it did. -/
def handleReadSpec : ChangeSpec := { name := "handleRead", fn := fun _ => fun
  | [d] => { results := [.lit (.bool true)], args := [d] }
  | _ => none }
def handleReadRow : OpenClaim := { program := "ytcepknjcgknidaa", sum := "5460916ae50975401e6526106715328d30177a7e3366bf7dbf6b4ac678de9343", func := "virgate/virgatelaw17.HandleRead", spec := "handleRead", inPlace := ["slices.overlaps[virgate/handle.Count]"], unfollowed := true, recurses := true, apart := false }
def HandleReadSaid : Prop := handleReadRow.holds Try.pinned (OpenSpec.ofChange handleReadSpec)

/-- ITS FALSE NEIGHBOUR: 'it returns false'. Refute it at one input. -/
def handleReadWrong : ChangeSpec := { name := "handleRead", fn := fun _ => fun
  | [d] => { results := [.lit (.bool false)], args := [d] }
  | _ => none }
def HandleReadWrongFalsely : Prop := handleReadRow.holds Try.pinned (OpenSpec.ofChange handleReadWrong)

/-- 'virgatelaw17.HandlePut': WHATEVER THE INPUT: true; the input reads as it did. -/
def handlePutSpec : ChangeSpec := { name := "handlePut", fn := fun _ => fun
  | [d] => { results := [.lit (.bool true)], args := [d] }
  | _ => none }
def handlePutRow : OpenClaim := { program := "ytcepknjcgknidaa", sum := "5460916ae50975401e6526106715328d30177a7e3366bf7dbf6b4ac678de9343", func := "virgate/virgatelaw17.HandlePut", spec := "handlePut", inPlace := ["slices.overlaps[virgate/handle.Count]"], unfollowed := true, recurses := true, apart := false }
def HandlePutSaid : Prop := handlePutRow.holds Try.pinned (OpenSpec.ofChange handlePutSpec)

/-- ITS FALSE NEIGHBOUR: 'it returns false'. Refute it at one input. -/
def handlePutWrong : ChangeSpec := { name := "handlePut", fn := fun _ => fun
  | [d] => { results := [.lit (.bool false)], args := [d] }
  | _ => none }
def HandlePutWrongFalsely : Prop := handlePutRow.holds Try.pinned (OpenSpec.ofChange handlePutWrong)

/- THE SECOND FORM. 'bulk': how many values and letters a reading holds, each counted each time it is reached (what is shared counts as often as it is met; a slice's spare places count too). A statement '..UptoSaid' is the law's where the arguments, and the package variables that the reading takes, are together of bulk at most 1048576: NARROWER than '..Said'. Prove '..Said' where nothing that the law and all that it calls make is longer than what came in: it says more and counts as full. Else prove '..UptoSaid'. A law counts once. -/
mutual
def uptoBulk {H : Type} : DataW H → Nat
  | .lit (.string bytes) => bytes.length + 1
  | .lit _ => 1
  | .nil => 1
  | .ptr d => uptoBulk d + 1
  | .slice elems spare => uptoBulkAll elems + uptoBulkAll spare + 1
  | .agg parts => uptoBulkAll parts + 1
  | .iface _ d => uptoBulk d + 1
  | .map entries => uptoBulkEntries entries + 1
  | .held _ => 1
def uptoBulkAll {H : Type} : List (DataW H) → Nat
  | [] => 0
  | d :: r => uptoBulk d + uptoBulkAll r
def uptoBulkEntries {H : Type} : List (Lit × DataW H) → Nat
  | [] => 0
  | x :: r => uptoBulkEntry x + uptoBulkEntries r
def uptoBulkEntry {H : Type} : Lit × DataW H → Nat
  | (.string bytes, d) => bytes.length + uptoBulk d + 1
  | (_, d) => uptoBulk d + 1
 end
def uptoSmall : (H : Type) → List (DataW H) → Bool := fun _ ds => decide (uptoBulkAll ds ≤ 1048576)
def OpenSpec.upto (s : _root_.Go.ChangeSpec) : _root_.Go.OpenSpec := { _root_.Go.OpenSpec.ofChange s with cond := some uptoSmall }

/-- 'virgatelaw13.RecsStates', WHERE WHAT IT READS IS OF BULK AT MOST 1048576: true; the input reads as it did. -/
def recsStatesUptoRow : OpenClaim := { program := "ytcepknjcgknidaa", sum := "5460916ae50975401e6526106715328d30177a7e3366bf7dbf6b4ac678de9343", func := "virgate/virgatelaw13.RecsStates", spec := "recsStates", apart := false, narrowed := true }
def RecsStatesUptoSaid : Prop := recsStatesUptoRow.holds Try.pinned (OpenSpec.upto recsStatesSpec)

/-- 'virgatelaw13.RecsBlocks', WHERE WHAT IT READS IS OF BULK AT MOST 1048576: true; the input reads as it did. -/
def recsBlocksUptoRow : OpenClaim := { program := "ytcepknjcgknidaa", sum := "5460916ae50975401e6526106715328d30177a7e3366bf7dbf6b4ac678de9343", func := "virgate/virgatelaw13.RecsBlocks", spec := "recsBlocks", apart := false, narrowed := true }
def RecsBlocksUptoSaid : Prop := recsBlocksUptoRow.holds Try.pinned (OpenSpec.upto recsBlocksSpec)

/-- 'virgatelaw13.RecsPool', WHERE WHAT IT READS IS OF BULK AT MOST 1048576: true; the input reads as it did. -/
def recsPoolUptoRow : OpenClaim := { program := "ytcepknjcgknidaa", sum := "5460916ae50975401e6526106715328d30177a7e3366bf7dbf6b4ac678de9343", func := "virgate/virgatelaw13.RecsPool", spec := "recsPool", apart := false, narrowed := true }
def RecsPoolUptoSaid : Prop := recsPoolUptoRow.holds Try.pinned (OpenSpec.upto recsPoolSpec)

/-- 'virgatelaw13.RecsRead', WHERE WHAT IT READS IS OF BULK AT MOST 1048576: true; the input reads as it did. -/
def recsReadUptoRow : OpenClaim := { program := "ytcepknjcgknidaa", sum := "5460916ae50975401e6526106715328d30177a7e3366bf7dbf6b4ac678de9343", func := "virgate/virgatelaw13.RecsRead", spec := "recsRead", apart := false, narrowed := true }
def RecsReadUptoSaid : Prop := recsReadUptoRow.holds Try.pinned (OpenSpec.upto recsReadSpec)

/-- 'virgatelaw17.HandleSets', WHERE WHAT IT READS IS OF BULK AT MOST 1048576: true; the input reads as it did. -/
def handleSetsUptoRow : OpenClaim := { program := "ytcepknjcgknidaa", sum := "5460916ae50975401e6526106715328d30177a7e3366bf7dbf6b4ac678de9343", func := "virgate/virgatelaw17.HandleSets", spec := "handleSets", inPlace := ["slices.overlaps[virgate/handle.Count]"], unfollowed := true, recurses := true, apart := false, narrowed := true }
def HandleSetsUptoSaid : Prop := handleSetsUptoRow.holds Try.pinned (OpenSpec.upto handleSetsSpec)

/-- 'virgatelaw17.HandleBack', WHERE WHAT IT READS IS OF BULK AT MOST 1048576: true; the input reads as it did. -/
def handleBackUptoRow : OpenClaim := { program := "ytcepknjcgknidaa", sum := "5460916ae50975401e6526106715328d30177a7e3366bf7dbf6b4ac678de9343", func := "virgate/virgatelaw17.HandleBack", spec := "handleBack", inPlace := ["slices.overlaps[virgate/handle.Count]"], unfollowed := true, recurses := true, apart := false, narrowed := true }
def HandleBackUptoSaid : Prop := handleBackUptoRow.holds Try.pinned (OpenSpec.upto handleBackSpec)

/-- 'virgatelaw17.HandleFits', WHERE WHAT IT READS IS OF BULK AT MOST 1048576: true; the input reads as it did. -/
def handleFitsUptoRow : OpenClaim := { program := "ytcepknjcgknidaa", sum := "5460916ae50975401e6526106715328d30177a7e3366bf7dbf6b4ac678de9343", func := "virgate/virgatelaw17.HandleFits", spec := "handleFits", inPlace := ["slices.overlaps[virgate/handle.Count]"], unfollowed := true, recurses := true, apart := false, narrowed := true }
def HandleFitsUptoSaid : Prop := handleFitsUptoRow.holds Try.pinned (OpenSpec.upto handleFitsSpec)

/-- 'virgatelaw17.HandleRead', WHERE WHAT IT READS IS OF BULK AT MOST 1048576: true; the input reads as it did. -/
def handleReadUptoRow : OpenClaim := { program := "ytcepknjcgknidaa", sum := "5460916ae50975401e6526106715328d30177a7e3366bf7dbf6b4ac678de9343", func := "virgate/virgatelaw17.HandleRead", spec := "handleRead", inPlace := ["slices.overlaps[virgate/handle.Count]"], unfollowed := true, recurses := true, apart := false, narrowed := true }
def HandleReadUptoSaid : Prop := handleReadUptoRow.holds Try.pinned (OpenSpec.upto handleReadSpec)

/-- 'virgatelaw17.HandlePut', WHERE WHAT IT READS IS OF BULK AT MOST 1048576: true; the input reads as it did. -/
def handlePutUptoRow : OpenClaim := { program := "ytcepknjcgknidaa", sum := "5460916ae50975401e6526106715328d30177a7e3366bf7dbf6b4ac678de9343", func := "virgate/virgatelaw17.HandlePut", spec := "handlePut", inPlace := ["slices.overlaps[virgate/handle.Count]"], unfollowed := true, recurses := true, apart := false, narrowed := true }
def HandlePutUptoSaid : Prop := handlePutUptoRow.holds Try.pinned (OpenSpec.upto handlePutSpec)

end Rows
end Go.Proofs.Ytcepknjcgknidaa
