/-
  No cell of these rows narrows 'for every input' (looked for: loops, veiled, ifaces, maps, wideKeys, modest, calm, conditions, laid).
  DERIVED. THE GIVEN ROWS OF THIS SEAT. 4 by the template 'for every input the law returns true; each argument reads behind the call as it read before'; 0 by the template 'total and deterministic' (their statements: YtegckjbjbodhhaaTotals.lean).
  GIVEN WITH THE SEED: the statements are not yours to turn. If you find one false, say at which input.
  Laid BY PROGRAM, IN A SANDBOX (cutbox-rows.mjs): the forced cells as the released guide's own fill.sh prints them over the translation 7149ba0e77e7390a… (all of the seat's roots in one cut). By AI agents, Wed Nov 11 2026. No macro, syntax, notation, axiom, sorry.
-/
import Derived.Test.YtegckjbjbodhhaaChecked
import GoSem.Claim
import GoSem.ClaimJoined
import GoSem.ClaimMapViews
import Derived.JoinedTies
import Derived.KernelRfl
namespace Go.Proofs.Ytegckjbjbodhhaa
/- THE CELL 'sum', in the pinned program and in every row, IS THE sha256 OF THE DUMP (.gsa) THAT YtegckjbjbodhhaaProg.lean LOADS. Nothing in Lean hashes anything: it is a label: what it is worth is what the hold of that sum in a sandbox is worth. -/
noncomputable def Try.pinned : Pinned := { name := "ytegckjbjbodhhaa", sum := "7149ba0e77e7390a565313eb913e4b78815ab39d11ade15b46e9afa2f025a074", checked := Try.checked }
namespace Rows
def none {H : Type} : Left H := { results := [], args := [] }

/-- 'portholelaw27.WeaveAll': WHATEVER THE INPUT: true; the input reads as it did. -/
def weaveAllSpec : ChangeSpec := { name := "weaveAll", fn := fun _ => fun
  | [d1, d2, d3] => { results := [.lit (.bool true)], args := [d1, d2, d3] }
  | _ => none }
def weaveAllRow : OpenClaim := { program := "ytegckjbjbodhhaa", sum := "7149ba0e77e7390a565313eb913e4b78815ab39d11ade15b46e9afa2f025a074", func := "porthole/portholelaw27.WeaveAll", spec := "weaveAll", unfollowed := true, recurses := true, apart := false }
def WeaveAllSaid : Prop := weaveAllRow.holds Try.pinned (OpenSpec.ofChange weaveAllSpec)

/-- ITS FALSE NEIGHBOUR: 'it returns false'. Refute it at one input. -/
def weaveAllWrong : ChangeSpec := { name := "weaveAll", fn := fun _ => fun
  | [d1, d2, d3] => { results := [.lit (.bool false)], args := [d1, d2, d3] }
  | _ => none }
def WeaveAllWrongFalsely : Prop := weaveAllRow.holds Try.pinned (OpenSpec.ofChange weaveAllWrong)

/-- 'portholelaw27.WeaveCount': WHATEVER THE INPUT: true; the input reads as it did. -/
def weaveCountSpec : ChangeSpec := { name := "weaveCount", fn := fun _ => fun
  | [d1, d2] => { results := [.lit (.bool true)], args := [d1, d2] }
  | _ => none }
def weaveCountRow : OpenClaim := { program := "ytegckjbjbodhhaa", sum := "7149ba0e77e7390a565313eb913e4b78815ab39d11ade15b46e9afa2f025a074", func := "porthole/portholelaw27.WeaveCount", spec := "weaveCount", unfollowed := true, recurses := true, apart := false }
def WeaveCountSaid : Prop := weaveCountRow.holds Try.pinned (OpenSpec.ofChange weaveCountSpec)

/-- ITS FALSE NEIGHBOUR: 'it returns false'. Refute it at one input. -/
def weaveCountWrong : ChangeSpec := { name := "weaveCount", fn := fun _ => fun
  | [d1, d2] => { results := [.lit (.bool false)], args := [d1, d2] }
  | _ => none }
def WeaveCountWrongFalsely : Prop := weaveCountRow.holds Try.pinned (OpenSpec.ofChange weaveCountWrong)

/-- 'portholelaw27.WeaveNth': WHATEVER THE INPUT: true; the input reads as it did. -/
def weaveNthSpec : ChangeSpec := { name := "weaveNth", fn := fun _ => fun
  | [d1, d2, d3] => { results := [.lit (.bool true)], args := [d1, d2, d3] }
  | _ => none }
def weaveNthRow : OpenClaim := { program := "ytegckjbjbodhhaa", sum := "7149ba0e77e7390a565313eb913e4b78815ab39d11ade15b46e9afa2f025a074", func := "porthole/portholelaw27.WeaveNth", spec := "weaveNth", unfollowed := true, recurses := true, apart := false }
def WeaveNthSaid : Prop := weaveNthRow.holds Try.pinned (OpenSpec.ofChange weaveNthSpec)

/-- ITS FALSE NEIGHBOUR: 'it returns false'. Refute it at one input. -/
def weaveNthWrong : ChangeSpec := { name := "weaveNth", fn := fun _ => fun
  | [d1, d2, d3] => { results := [.lit (.bool false)], args := [d1, d2, d3] }
  | _ => none }
def WeaveNthWrongFalsely : Prop := weaveNthRow.holds Try.pinned (OpenSpec.ofChange weaveNthWrong)

/-- 'portholelaw27.WeaveRank': WHATEVER THE INPUT: true; the input reads as it did. -/
def weaveRankSpec : ChangeSpec := { name := "weaveRank", fn := fun _ => fun
  | [d] => { results := [.lit (.bool true)], args := [d] }
  | _ => none }
def weaveRankRow : OpenClaim := { program := "ytegckjbjbodhhaa", sum := "7149ba0e77e7390a565313eb913e4b78815ab39d11ade15b46e9afa2f025a074", func := "porthole/portholelaw27.WeaveRank", spec := "weaveRank", unfollowed := true, recurses := true, apart := false }
def WeaveRankSaid : Prop := weaveRankRow.holds Try.pinned (OpenSpec.ofChange weaveRankSpec)

/-- ITS FALSE NEIGHBOUR: 'it returns false'. Refute it at one input. -/
def weaveRankWrong : ChangeSpec := { name := "weaveRank", fn := fun _ => fun
  | [d] => { results := [.lit (.bool false)], args := [d] }
  | _ => none }
def WeaveRankWrongFalsely : Prop := weaveRankRow.holds Try.pinned (OpenSpec.ofChange weaveRankWrong)

/- THE SECOND FORM. 'bulk': how many values and letters a reading holds, each counted each time it is reached (what is shared counts as often as it is met; a slice's spare places count too). A statement '..UptoSaid' is the law's where the arguments, and the package variables that the reading takes, are together of bulk at most 1048576: NARROWER than '..Said'. Prove '..Said' where nothing that the law and all that it calls make is longer than what came in: it says more and counts as full. Else prove '..UptoSaid'. A law counts once. -/
mutual
def uptoBulk {H : Type} : DataW H → Nat
  | .lit (.string bytes) => bytes.length + 1
  | .lit _ => 1
  | .nil => 1
  | .ptr d => uptoBulk d + 1
  | .slice elems spare => uptoBulkAll elems + uptoBulkAll spare + 1
  | .agg parts => uptoBulkAll parts + 1
  | .iface _ d => uptoBulk d + 1
  | .map entries => uptoBulkEntries entries + 1
  | .held _ => 1
def uptoBulkAll {H : Type} : List (DataW H) → Nat
  | [] => 0
  | d :: r => uptoBulk d + uptoBulkAll r
def uptoBulkEntries {H : Type} : List (Lit × DataW H) → Nat
  | [] => 0
  | x :: r => uptoBulkEntry x + uptoBulkEntries r
def uptoBulkEntry {H : Type} : Lit × DataW H → Nat
  | (.string bytes, d) => bytes.length + uptoBulk d + 1
  | (_, d) => uptoBulk d + 1
 end
def uptoSmall : (H : Type) → List (DataW H) → Bool := fun _ ds => decide (uptoBulkAll ds ≤ 1048576)
def OpenSpec.upto (s : _root_.Go.ChangeSpec) : _root_.Go.OpenSpec := { _root_.Go.OpenSpec.ofChange s with cond := some uptoSmall }

/-- 'portholelaw27.WeaveAll', WHERE WHAT IT READS IS OF BULK AT MOST 1048576: true; the input reads as it did. -/
def weaveAllUptoRow : OpenClaim := { program := "ytegckjbjbodhhaa", sum := "7149ba0e77e7390a565313eb913e4b78815ab39d11ade15b46e9afa2f025a074", func := "porthole/portholelaw27.WeaveAll", spec := "weaveAll", unfollowed := true, recurses := true, apart := false, narrowed := true }
def WeaveAllUptoSaid : Prop := weaveAllUptoRow.holds Try.pinned (OpenSpec.upto weaveAllSpec)

/-- 'portholelaw27.WeaveCount', WHERE WHAT IT READS IS OF BULK AT MOST 1048576: true; the input reads as it did. -/
def weaveCountUptoRow : OpenClaim := { program := "ytegckjbjbodhhaa", sum := "7149ba0e77e7390a565313eb913e4b78815ab39d11ade15b46e9afa2f025a074", func := "porthole/portholelaw27.WeaveCount", spec := "weaveCount", unfollowed := true, recurses := true, apart := false, narrowed := true }
def WeaveCountUptoSaid : Prop := weaveCountUptoRow.holds Try.pinned (OpenSpec.upto weaveCountSpec)

/-- 'portholelaw27.WeaveNth', WHERE WHAT IT READS IS OF BULK AT MOST 1048576: true; the input reads as it did. -/
def weaveNthUptoRow : OpenClaim := { program := "ytegckjbjbodhhaa", sum := "7149ba0e77e7390a565313eb913e4b78815ab39d11ade15b46e9afa2f025a074", func := "porthole/portholelaw27.WeaveNth", spec := "weaveNth", unfollowed := true, recurses := true, apart := false, narrowed := true }
def WeaveNthUptoSaid : Prop := weaveNthUptoRow.holds Try.pinned (OpenSpec.upto weaveNthSpec)

/-- 'portholelaw27.WeaveRank', WHERE WHAT IT READS IS OF BULK AT MOST 1048576: true; the input reads as it did. -/
def weaveRankUptoRow : OpenClaim := { program := "ytegckjbjbodhhaa", sum := "7149ba0e77e7390a565313eb913e4b78815ab39d11ade15b46e9afa2f025a074", func := "porthole/portholelaw27.WeaveRank", spec := "weaveRank", unfollowed := true, recurses := true, apart := false, narrowed := true }
def WeaveRankUptoSaid : Prop := weaveRankUptoRow.holds Try.pinned (OpenSpec.upto weaveRankSpec)

end Rows
end Go.Proofs.Ytegckjbjbodhhaa
