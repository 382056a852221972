/-
  No cell of these rows narrows 'for every input' (looked for: loops, veiled, ifaces, maps, wideKeys, modest, calm, conditions, laid).
  DERIVED. THE GIVEN ROWS OF THIS SEAT. 6 by the template 'for every input the law returns true; each argument reads behind the call as it read before'; 0 by the template 'total and deterministic' (their statements: YtmapnlmljhhciaaTotals.lean).
  GIVEN WITH THE SEED: the statements are not yours to turn. If you find one false, say at which input.
  Laid BY PROGRAM, IN A SANDBOX (cutbox-rows.mjs): the forced cells as the released guide's own fill.sh prints them over the translation 09b211a82e3e2e50… (all of the seat's roots in one cut). By AI agents, Wed Nov 11 2026. No macro, syntax, notation, axiom, sorry.
-/
import Derived.Test.YtmapnlmljhhciaaChecked
import GoSem.Claim
import GoSem.ClaimJoined
import GoSem.ClaimMapViews
import Derived.JoinedTies
import Derived.KernelRfl
namespace Go.Proofs.Ytmapnlmljhhciaa
/- THE CELL 'sum', in the pinned program and in every row, IS THE sha256 OF THE DUMP (.gsa) THAT YtmapnlmljhhciaaProg.lean LOADS. Nothing in Lean hashes anything: it is a label: what it is worth is what the hold of that sum in a sandbox is worth. -/
noncomputable def Try.pinned : Pinned := { name := "ytmapnlmljhhciaa", sum := "09b211a82e3e2e50dc2e878f372d55f2015db345a0a60f4c1da07171793bef03", checked := Try.checked }
namespace Rows
def none {H : Type} : Left H := { results := [], args := [] }

/-- 'laws.FnExactDeepestNode': WHATEVER THE INPUT: true; the input reads as it did. -/
def fnExactDeepestNodeSpec : ChangeSpec := { name := "fnExactDeepestNode", fn := fun _ => fun
  | [d1, d2, d3] => { results := [.lit (.bool true)], args := [d1, d2, d3] }
  | _ => none }
def fnExactDeepestNodeRow : OpenClaim := { program := "ytmapnlmljhhciaa", sum := "09b211a82e3e2e50dc2e878f372d55f2015db345a0a60f4c1da07171793bef03", func := "loop.example/g03303/laws.FnExactDeepestNode", spec := "fnExactDeepestNode", apart := false }
def FnExactDeepestNodeSaid : Prop := fnExactDeepestNodeRow.holds Try.pinned (OpenSpec.ofChange fnExactDeepestNodeSpec)

/-- ITS FALSE NEIGHBOUR: 'it returns false'. Refute it at one input. -/
def fnExactDeepestNodeWrong : ChangeSpec := { name := "fnExactDeepestNode", fn := fun _ => fun
  | [d1, d2, d3] => { results := [.lit (.bool false)], args := [d1, d2, d3] }
  | _ => none }
def FnExactDeepestNodeWrongFalsely : Prop := fnExactDeepestNodeRow.holds Try.pinned (OpenSpec.ofChange fnExactDeepestNodeWrong)

/-- 'laws.FnExactLeadLength': WHATEVER THE INPUT: true; the input reads as it did. -/
def fnExactLeadLengthSpec : ChangeSpec := { name := "fnExactLeadLength", fn := fun _ => fun
  | [d] => { results := [.lit (.bool true)], args := [d] }
  | _ => none }
def fnExactLeadLengthRow : OpenClaim := { program := "ytmapnlmljhhciaa", sum := "09b211a82e3e2e50dc2e878f372d55f2015db345a0a60f4c1da07171793bef03", func := "loop.example/g03303/laws.FnExactLeadLength", spec := "fnExactLeadLength", apart := false }
def FnExactLeadLengthSaid : Prop := fnExactLeadLengthRow.holds Try.pinned (OpenSpec.ofChange fnExactLeadLengthSpec)

/-- ITS FALSE NEIGHBOUR: 'it returns false'. Refute it at one input. -/
def fnExactLeadLengthWrong : ChangeSpec := { name := "fnExactLeadLength", fn := fun _ => fun
  | [d] => { results := [.lit (.bool false)], args := [d] }
  | _ => none }
def FnExactLeadLengthWrongFalsely : Prop := fnExactLeadLengthRow.holds Try.pinned (OpenSpec.ofChange fnExactLeadLengthWrong)

/-- 'laws.FnExactCrossedBy': WHATEVER THE INPUT: true; the input reads as it did. -/
def fnExactCrossedBySpec : ChangeSpec := { name := "fnExactCrossedBy", fn := fun _ => fun
  | [d1, d2, d3] => { results := [.lit (.bool true)], args := [d1, d2, d3] }
  | _ => none }
def fnExactCrossedByRow : OpenClaim := { program := "ytmapnlmljhhciaa", sum := "09b211a82e3e2e50dc2e878f372d55f2015db345a0a60f4c1da07171793bef03", func := "loop.example/g03303/laws.FnExactCrossedBy", spec := "fnExactCrossedBy", apart := false }
def FnExactCrossedBySaid : Prop := fnExactCrossedByRow.holds Try.pinned (OpenSpec.ofChange fnExactCrossedBySpec)

/-- ITS FALSE NEIGHBOUR: 'it returns false'. Refute it at one input. -/
def fnExactCrossedByWrong : ChangeSpec := { name := "fnExactCrossedBy", fn := fun _ => fun
  | [d1, d2, d3] => { results := [.lit (.bool false)], args := [d1, d2, d3] }
  | _ => none }
def FnExactCrossedByWrongFalsely : Prop := fnExactCrossedByRow.holds Try.pinned (OpenSpec.ofChange fnExactCrossedByWrong)

/-- 'laws.FnExactWidestGap': WHATEVER THE INPUT: true; the input reads as it did. -/
def fnExactWidestGapSpec : ChangeSpec := { name := "fnExactWidestGap", fn := fun _ => fun
  | [d1, d2] => { results := [.lit (.bool true)], args := [d1, d2] }
  | _ => none }
def fnExactWidestGapRow : OpenClaim := { program := "ytmapnlmljhhciaa", sum := "09b211a82e3e2e50dc2e878f372d55f2015db345a0a60f4c1da07171793bef03", func := "loop.example/g03303/laws.FnExactWidestGap", spec := "fnExactWidestGap", apart := false }
def FnExactWidestGapSaid : Prop := fnExactWidestGapRow.holds Try.pinned (OpenSpec.ofChange fnExactWidestGapSpec)

/-- ITS FALSE NEIGHBOUR: 'it returns false'. Refute it at one input. -/
def fnExactWidestGapWrong : ChangeSpec := { name := "fnExactWidestGap", fn := fun _ => fun
  | [d1, d2] => { results := [.lit (.bool false)], args := [d1, d2] }
  | _ => none }
def FnExactWidestGapWrongFalsely : Prop := fnExactWidestGapRow.holds Try.pinned (OpenSpec.ofChange fnExactWidestGapWrong)

/-- 'laws.FnExactFewestBars': WHATEVER THE INPUT: true; the input reads as it did. -/
def fnExactFewestBarsSpec : ChangeSpec := { name := "fnExactFewestBars", fn := fun _ => fun
  | [d1, d2] => { results := [.lit (.bool true)], args := [d1, d2] }
  | _ => none }
def fnExactFewestBarsRow : OpenClaim := { program := "ytmapnlmljhhciaa", sum := "09b211a82e3e2e50dc2e878f372d55f2015db345a0a60f4c1da07171793bef03", func := "loop.example/g03303/laws.FnExactFewestBars", spec := "fnExactFewestBars", apart := false }
def FnExactFewestBarsSaid : Prop := fnExactFewestBarsRow.holds Try.pinned (OpenSpec.ofChange fnExactFewestBarsSpec)

/-- ITS FALSE NEIGHBOUR: 'it returns false'. Refute it at one input. -/
def fnExactFewestBarsWrong : ChangeSpec := { name := "fnExactFewestBars", fn := fun _ => fun
  | [d1, d2] => { results := [.lit (.bool false)], args := [d1, d2] }
  | _ => none }
def FnExactFewestBarsWrongFalsely : Prop := fnExactFewestBarsRow.holds Try.pinned (OpenSpec.ofChange fnExactFewestBarsWrong)

/-- 'laws.FnExactUnheldLeads': WHATEVER THE INPUT: true; the input reads as it did. -/
def fnExactUnheldLeadsSpec : ChangeSpec := { name := "fnExactUnheldLeads", fn := fun _ => fun
  | [d1, d2] => { results := [.lit (.bool true)], args := [d1, d2] }
  | _ => none }
def fnExactUnheldLeadsRow : OpenClaim := { program := "ytmapnlmljhhciaa", sum := "09b211a82e3e2e50dc2e878f372d55f2015db345a0a60f4c1da07171793bef03", func := "loop.example/g03303/laws.FnExactUnheldLeads", spec := "fnExactUnheldLeads", apart := false }
def FnExactUnheldLeadsSaid : Prop := fnExactUnheldLeadsRow.holds Try.pinned (OpenSpec.ofChange fnExactUnheldLeadsSpec)

/-- ITS FALSE NEIGHBOUR: 'it returns false'. Refute it at one input. -/
def fnExactUnheldLeadsWrong : ChangeSpec := { name := "fnExactUnheldLeads", fn := fun _ => fun
  | [d1, d2] => { results := [.lit (.bool false)], args := [d1, d2] }
  | _ => none }
def FnExactUnheldLeadsWrongFalsely : Prop := fnExactUnheldLeadsRow.holds Try.pinned (OpenSpec.ofChange fnExactUnheldLeadsWrong)

/- THE SECOND FORM. 'bulk': how many values and letters a reading holds, each counted each time it is reached (what is shared counts as often as it is met; a slice's spare places count too). A statement '..UptoSaid' is the law's where the arguments, and the package variables that the reading takes, are together of bulk at most 1048576: NARROWER than '..Said'. Prove '..Said' where nothing that the law and all that it calls make is longer than what came in: it says more and counts as full. Else prove '..UptoSaid'. A law counts once. -/
mutual
def uptoBulk {H : Type} : DataW H → Nat
  | .lit (.string bytes) => bytes.length + 1
  | .lit _ => 1
  | .nil => 1
  | .ptr d => uptoBulk d + 1
  | .slice elems spare => uptoBulkAll elems + uptoBulkAll spare + 1
  | .agg parts => uptoBulkAll parts + 1
  | .iface _ d => uptoBulk d + 1
  | .map entries => uptoBulkEntries entries + 1
  | .held _ => 1
def uptoBulkAll {H : Type} : List (DataW H) → Nat
  | [] => 0
  | d :: r => uptoBulk d + uptoBulkAll r
def uptoBulkEntries {H : Type} : List (Lit × DataW H) → Nat
  | [] => 0
  | x :: r => uptoBulkEntry x + uptoBulkEntries r
def uptoBulkEntry {H : Type} : Lit × DataW H → Nat
  | (.string bytes, d) => bytes.length + uptoBulk d + 1
  | (_, d) => uptoBulk d + 1
 end
def uptoSmall : (H : Type) → List (DataW H) → Bool := fun _ ds => decide (uptoBulkAll ds ≤ 1048576)
def OpenSpec.upto (s : _root_.Go.ChangeSpec) : _root_.Go.OpenSpec := { _root_.Go.OpenSpec.ofChange s with cond := some uptoSmall }

/-- 'laws.FnExactDeepestNode', WHERE WHAT IT READS IS OF BULK AT MOST 1048576: true; the input reads as it did. -/
def fnExactDeepestNodeUptoRow : OpenClaim := { program := "ytmapnlmljhhciaa", sum := "09b211a82e3e2e50dc2e878f372d55f2015db345a0a60f4c1da07171793bef03", func := "loop.example/g03303/laws.FnExactDeepestNode", spec := "fnExactDeepestNode", apart := false, narrowed := true }
def FnExactDeepestNodeUptoSaid : Prop := fnExactDeepestNodeUptoRow.holds Try.pinned (OpenSpec.upto fnExactDeepestNodeSpec)

/-- 'laws.FnExactLeadLength', WHERE WHAT IT READS IS OF BULK AT MOST 1048576: true; the input reads as it did. -/
def fnExactLeadLengthUptoRow : OpenClaim := { program := "ytmapnlmljhhciaa", sum := "09b211a82e3e2e50dc2e878f372d55f2015db345a0a60f4c1da07171793bef03", func := "loop.example/g03303/laws.FnExactLeadLength", spec := "fnExactLeadLength", apart := false, narrowed := true }
def FnExactLeadLengthUptoSaid : Prop := fnExactLeadLengthUptoRow.holds Try.pinned (OpenSpec.upto fnExactLeadLengthSpec)

/-- 'laws.FnExactCrossedBy', WHERE WHAT IT READS IS OF BULK AT MOST 1048576: true; the input reads as it did. -/
def fnExactCrossedByUptoRow : OpenClaim := { program := "ytmapnlmljhhciaa", sum := "09b211a82e3e2e50dc2e878f372d55f2015db345a0a60f4c1da07171793bef03", func := "loop.example/g03303/laws.FnExactCrossedBy", spec := "fnExactCrossedBy", apart := false, narrowed := true }
def FnExactCrossedByUptoSaid : Prop := fnExactCrossedByUptoRow.holds Try.pinned (OpenSpec.upto fnExactCrossedBySpec)

/-- 'laws.FnExactWidestGap', WHERE WHAT IT READS IS OF BULK AT MOST 1048576: true; the input reads as it did. -/
def fnExactWidestGapUptoRow : OpenClaim := { program := "ytmapnlmljhhciaa", sum := "09b211a82e3e2e50dc2e878f372d55f2015db345a0a60f4c1da07171793bef03", func := "loop.example/g03303/laws.FnExactWidestGap", spec := "fnExactWidestGap", apart := false, narrowed := true }
def FnExactWidestGapUptoSaid : Prop := fnExactWidestGapUptoRow.holds Try.pinned (OpenSpec.upto fnExactWidestGapSpec)

/-- 'laws.FnExactFewestBars', WHERE WHAT IT READS IS OF BULK AT MOST 1048576: true; the input reads as it did. -/
def fnExactFewestBarsUptoRow : OpenClaim := { program := "ytmapnlmljhhciaa", sum := "09b211a82e3e2e50dc2e878f372d55f2015db345a0a60f4c1da07171793bef03", func := "loop.example/g03303/laws.FnExactFewestBars", spec := "fnExactFewestBars", apart := false, narrowed := true }
def FnExactFewestBarsUptoSaid : Prop := fnExactFewestBarsUptoRow.holds Try.pinned (OpenSpec.upto fnExactFewestBarsSpec)

/-- 'laws.FnExactUnheldLeads', WHERE WHAT IT READS IS OF BULK AT MOST 1048576: true; the input reads as it did. -/
def fnExactUnheldLeadsUptoRow : OpenClaim := { program := "ytmapnlmljhhciaa", sum := "09b211a82e3e2e50dc2e878f372d55f2015db345a0a60f4c1da07171793bef03", func := "loop.example/g03303/laws.FnExactUnheldLeads", spec := "fnExactUnheldLeads", apart := false, narrowed := true }
def FnExactUnheldLeadsUptoSaid : Prop := fnExactUnheldLeadsUptoRow.holds Try.pinned (OpenSpec.upto fnExactUnheldLeadsSpec)

end Rows
end Go.Proofs.Ytmapnlmljhhciaa
