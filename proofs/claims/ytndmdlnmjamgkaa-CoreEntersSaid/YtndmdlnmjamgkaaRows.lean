/-
  No cell of these rows narrows 'for every input' (looked for: loops, veiled, ifaces, maps, wideKeys, modest, calm, conditions, laid).
  DERIVED. THE GIVEN ROWS OF THIS SEAT. 12 by the template 'for every input the law returns true; each argument reads behind the call as it read before'; 0 by the template 'total and deterministic' (their statements: YtndmdlnmjamgkaaTotals.lean).
  GIVEN WITH THE SEED: the statements are not yours to turn. If you find one false, say at which input.
  Laid BY PROGRAM, IN A SANDBOX (cutbox-rows.mjs): the forced cells as the released guide's own fill.sh prints them over the translation 322db1af73cf2840… (all of the seat's roots in one cut). By AI agents, Wed Nov 11 2026. No macro, syntax, notation, axiom, sorry.
-/
import Derived.Test.YtndmdlnmjamgkaaChecked
import GoSem.Claim
import GoSem.ClaimJoined
import GoSem.ClaimMapViews
import Derived.JoinedTies
import Derived.KernelRfl
namespace Go.Proofs.Ytndmdlnmjamgkaa
/- THE CELL 'sum', in the pinned program and in every row, IS THE sha256 OF THE DUMP (.gsa) THAT YtndmdlnmjamgkaaProg.lean LOADS. Nothing in Lean hashes anything: it is a label: what it is worth is what the hold of that sum in a sandbox is worth. -/
noncomputable def Try.pinned : Pinned := { name := "ytndmdlnmjamgkaa", sum := "322db1af73cf2840e4ea4e4db16ad103a2eee4ba75e59b594479ffed570d60aa", checked := Try.checked }
namespace Rows
def none {H : Type} : Left H := { results := [], args := [] }

/-- 'portholelaw05.RawOnes': WHATEVER THE INPUT: true; the input reads as it did. -/
def rawOnesSpec : ChangeSpec := { name := "rawOnes", fn := fun _ => fun
  | [d1, d2] => { results := [.lit (.bool true)], args := [d1, d2] }
  | _ => none }
def rawOnesRow : OpenClaim := { program := "ytndmdlnmjamgkaa", sum := "322db1af73cf2840e4ea4e4db16ad103a2eee4ba75e59b594479ffed570d60aa", func := "porthole/portholelaw05.RawOnes", spec := "rawOnes", apart := false }
def RawOnesSaid : Prop := rawOnesRow.holds Try.pinned (OpenSpec.ofChange rawOnesSpec)

/-- ITS FALSE NEIGHBOUR: 'it returns false'. Refute it at one input. -/
def rawOnesWrong : ChangeSpec := { name := "rawOnes", fn := fun _ => fun
  | [d1, d2] => { results := [.lit (.bool false)], args := [d1, d2] }
  | _ => none }
def RawOnesWrongFalsely : Prop := rawOnesRow.holds Try.pinned (OpenSpec.ofChange rawOnesWrong)

/-- 'portholelaw05.RawReads': WHATEVER THE INPUT: true; the input reads as it did. -/
def rawReadsSpec : ChangeSpec := { name := "rawReads", fn := fun _ => fun
  | [d1, d2] => { results := [.lit (.bool true)], args := [d1, d2] }
  | _ => none }
def rawReadsRow : OpenClaim := { program := "ytndmdlnmjamgkaa", sum := "322db1af73cf2840e4ea4e4db16ad103a2eee4ba75e59b594479ffed570d60aa", func := "porthole/portholelaw05.RawReads", spec := "rawReads", apart := false }
def RawReadsSaid : Prop := rawReadsRow.holds Try.pinned (OpenSpec.ofChange rawReadsSpec)

/-- ITS FALSE NEIGHBOUR: 'it returns false'. Refute it at one input. -/
def rawReadsWrong : ChangeSpec := { name := "rawReads", fn := fun _ => fun
  | [d1, d2] => { results := [.lit (.bool false)], args := [d1, d2] }
  | _ => none }
def RawReadsWrongFalsely : Prop := rawReadsRow.holds Try.pinned (OpenSpec.ofChange rawReadsWrong)

/-- 'portholelaw05.RawFits': WHATEVER THE INPUT: true; the input reads as it did. -/
def rawFitsSpec : ChangeSpec := { name := "rawFits", fn := fun _ => fun
  | [d] => { results := [.lit (.bool true)], args := [d] }
  | _ => none }
def rawFitsRow : OpenClaim := { program := "ytndmdlnmjamgkaa", sum := "322db1af73cf2840e4ea4e4db16ad103a2eee4ba75e59b594479ffed570d60aa", func := "porthole/portholelaw05.RawFits", spec := "rawFits", apart := false }
def RawFitsSaid : Prop := rawFitsRow.holds Try.pinned (OpenSpec.ofChange rawFitsSpec)

/-- ITS FALSE NEIGHBOUR: 'it returns false'. Refute it at one input. -/
def rawFitsWrong : ChangeSpec := { name := "rawFits", fn := fun _ => fun
  | [d] => { results := [.lit (.bool false)], args := [d] }
  | _ => none }
def RawFitsWrongFalsely : Prop := rawFitsRow.holds Try.pinned (OpenSpec.ofChange rawFitsWrong)

/-- 'portholelaw09.FrameAt': WHATEVER THE INPUT: true; the input reads as it did. -/
def frameAtSpec : ChangeSpec := { name := "frameAt", fn := fun _ => fun
  | [d1, d2] => { results := [.lit (.bool true)], args := [d1, d2] }
  | _ => none }
def frameAtRow : OpenClaim := { program := "ytndmdlnmjamgkaa", sum := "322db1af73cf2840e4ea4e4db16ad103a2eee4ba75e59b594479ffed570d60aa", func := "porthole/portholelaw09.FrameAt", spec := "frameAt", apart := false }
def FrameAtSaid : Prop := frameAtRow.holds Try.pinned (OpenSpec.ofChange frameAtSpec)

/-- ITS FALSE NEIGHBOUR: 'it returns false'. Refute it at one input. -/
def frameAtWrong : ChangeSpec := { name := "frameAt", fn := fun _ => fun
  | [d1, d2] => { results := [.lit (.bool false)], args := [d1, d2] }
  | _ => none }
def FrameAtWrongFalsely : Prop := frameAtRow.holds Try.pinned (OpenSpec.ofChange frameAtWrong)

/-- 'portholelaw09.FrameTurns': WHATEVER THE INPUT: true; the input reads as it did. -/
def frameTurnsSpec : ChangeSpec := { name := "frameTurns", fn := fun _ => fun
  | [d1, d2] => { results := [.lit (.bool true)], args := [d1, d2] }
  | _ => none }
def frameTurnsRow : OpenClaim := { program := "ytndmdlnmjamgkaa", sum := "322db1af73cf2840e4ea4e4db16ad103a2eee4ba75e59b594479ffed570d60aa", func := "porthole/portholelaw09.FrameTurns", spec := "frameTurns", apart := false }
def FrameTurnsSaid : Prop := frameTurnsRow.holds Try.pinned (OpenSpec.ofChange frameTurnsSpec)

/-- ITS FALSE NEIGHBOUR: 'it returns false'. Refute it at one input. -/
def frameTurnsWrong : ChangeSpec := { name := "frameTurns", fn := fun _ => fun
  | [d1, d2] => { results := [.lit (.bool false)], args := [d1, d2] }
  | _ => none }
def FrameTurnsWrongFalsely : Prop := frameTurnsRow.holds Try.pinned (OpenSpec.ofChange frameTurnsWrong)

/-- 'portholelaw09.FrameShare': WHATEVER THE INPUT: true; the input reads as it did. -/
def frameShareSpec : ChangeSpec := { name := "frameShare", fn := fun _ => fun
  | [d1, d2, d3] => { results := [.lit (.bool true)], args := [d1, d2, d3] }
  | _ => none }
def frameShareRow : OpenClaim := { program := "ytndmdlnmjamgkaa", sum := "322db1af73cf2840e4ea4e4db16ad103a2eee4ba75e59b594479ffed570d60aa", func := "porthole/portholelaw09.FrameShare", spec := "frameShare", apart := false }
def FrameShareSaid : Prop := frameShareRow.holds Try.pinned (OpenSpec.ofChange frameShareSpec)

/-- ITS FALSE NEIGHBOUR: 'it returns false'. Refute it at one input. -/
def frameShareWrong : ChangeSpec := { name := "frameShare", fn := fun _ => fun
  | [d1, d2, d3] => { results := [.lit (.bool false)], args := [d1, d2, d3] }
  | _ => none }
def FrameShareWrongFalsely : Prop := frameShareRow.holds Try.pinned (OpenSpec.ofChange frameShareWrong)

/-- 'portholelaw09.FrameNext': WHATEVER THE INPUT: true; the input reads as it did. -/
def frameNextSpec : ChangeSpec := { name := "frameNext", fn := fun _ => fun
  | [d1, d2, d3] => { results := [.lit (.bool true)], args := [d1, d2, d3] }
  | _ => none }
def frameNextRow : OpenClaim := { program := "ytndmdlnmjamgkaa", sum := "322db1af73cf2840e4ea4e4db16ad103a2eee4ba75e59b594479ffed570d60aa", func := "porthole/portholelaw09.FrameNext", spec := "frameNext", apart := false }
def FrameNextSaid : Prop := frameNextRow.holds Try.pinned (OpenSpec.ofChange frameNextSpec)

/-- ITS FALSE NEIGHBOUR: 'it returns false'. Refute it at one input. -/
def frameNextWrong : ChangeSpec := { name := "frameNext", fn := fun _ => fun
  | [d1, d2, d3] => { results := [.lit (.bool false)], args := [d1, d2, d3] }
  | _ => none }
def FrameNextWrongFalsely : Prop := frameNextRow.holds Try.pinned (OpenSpec.ofChange frameNextWrong)

/-- 'portholelaw05.RawJoins': WHATEVER THE INPUT: true; the input reads as it did. -/
def rawJoinsSpec : ChangeSpec := { name := "rawJoins", fn := fun _ => fun
  | [d] => { results := [.lit (.bool true)], args := [d] }
  | _ => none }
def rawJoinsRow : OpenClaim := { program := "ytndmdlnmjamgkaa", sum := "322db1af73cf2840e4ea4e4db16ad103a2eee4ba75e59b594479ffed570d60aa", func := "porthole/portholelaw05.RawJoins", spec := "rawJoins", apart := false }
def RawJoinsSaid : Prop := rawJoinsRow.holds Try.pinned (OpenSpec.ofChange rawJoinsSpec)

/-- ITS FALSE NEIGHBOUR: 'it returns false'. Refute it at one input. -/
def rawJoinsWrong : ChangeSpec := { name := "rawJoins", fn := fun _ => fun
  | [d] => { results := [.lit (.bool false)], args := [d] }
  | _ => none }
def RawJoinsWrongFalsely : Prop := rawJoinsRow.holds Try.pinned (OpenSpec.ofChange rawJoinsWrong)

/-- 'portholelaw09.FrameTicks': WHATEVER THE INPUT: true; the input reads as it did. -/
def frameTicksSpec : ChangeSpec := { name := "frameTicks", fn := fun _ => fun
  | [d1, d2, d3] => { results := [.lit (.bool true)], args := [d1, d2, d3] }
  | _ => none }
def frameTicksRow : OpenClaim := { program := "ytndmdlnmjamgkaa", sum := "322db1af73cf2840e4ea4e4db16ad103a2eee4ba75e59b594479ffed570d60aa", func := "porthole/portholelaw09.FrameTicks", spec := "frameTicks", unfollowed := true, recurses := true, apart := false }
def FrameTicksSaid : Prop := frameTicksRow.holds Try.pinned (OpenSpec.ofChange frameTicksSpec)

/-- ITS FALSE NEIGHBOUR: 'it returns false'. Refute it at one input. -/
def frameTicksWrong : ChangeSpec := { name := "frameTicks", fn := fun _ => fun
  | [d1, d2, d3] => { results := [.lit (.bool false)], args := [d1, d2, d3] }
  | _ => none }
def FrameTicksWrongFalsely : Prop := frameTicksRow.holds Try.pinned (OpenSpec.ofChange frameTicksWrong)

/-- 'portholelaw15.CoreEnters': WHATEVER THE INPUT: true; the input reads as it did. -/
def coreEntersSpec : ChangeSpec := { name := "coreEnters", fn := fun _ => fun
  | [d1, d2] => { results := [.lit (.bool true)], args := [d1, d2] }
  | _ => none }
def coreEntersRow : OpenClaim := { program := "ytndmdlnmjamgkaa", sum := "322db1af73cf2840e4ea4e4db16ad103a2eee4ba75e59b594479ffed570d60aa", func := "porthole/portholelaw15.CoreEnters", spec := "coreEnters", apart := false }
def CoreEntersSaid : Prop := coreEntersRow.holds Try.pinned (OpenSpec.ofChange coreEntersSpec)

/-- ITS FALSE NEIGHBOUR: 'it returns false'. Refute it at one input. -/
def coreEntersWrong : ChangeSpec := { name := "coreEnters", fn := fun _ => fun
  | [d1, d2] => { results := [.lit (.bool false)], args := [d1, d2] }
  | _ => none }
def CoreEntersWrongFalsely : Prop := coreEntersRow.holds Try.pinned (OpenSpec.ofChange coreEntersWrong)

/-- 'portholelaw15.CoreFair': WHATEVER THE INPUT: true; the input reads as it did. -/
def coreFairSpec : ChangeSpec := { name := "coreFair", fn := fun _ => fun
  | [d1, d2] => { results := [.lit (.bool true)], args := [d1, d2] }
  | _ => none }
def coreFairRow : OpenClaim := { program := "ytndmdlnmjamgkaa", sum := "322db1af73cf2840e4ea4e4db16ad103a2eee4ba75e59b594479ffed570d60aa", func := "porthole/portholelaw15.CoreFair", spec := "coreFair", apart := false }
def CoreFairSaid : Prop := coreFairRow.holds Try.pinned (OpenSpec.ofChange coreFairSpec)

/-- ITS FALSE NEIGHBOUR: 'it returns false'. Refute it at one input. -/
def coreFairWrong : ChangeSpec := { name := "coreFair", fn := fun _ => fun
  | [d1, d2] => { results := [.lit (.bool false)], args := [d1, d2] }
  | _ => none }
def CoreFairWrongFalsely : Prop := coreFairRow.holds Try.pinned (OpenSpec.ofChange coreFairWrong)

/-- 'portholelaw15.CoreTicks': WHATEVER THE INPUT: true; the input reads as it did. -/
def coreTicksSpec : ChangeSpec := { name := "coreTicks", fn := fun _ => fun
  | [d1, d2, d3] => { results := [.lit (.bool true)], args := [d1, d2, d3] }
  | _ => none }
def coreTicksRow : OpenClaim := { program := "ytndmdlnmjamgkaa", sum := "322db1af73cf2840e4ea4e4db16ad103a2eee4ba75e59b594479ffed570d60aa", func := "porthole/portholelaw15.CoreTicks", spec := "coreTicks", apart := false }
def CoreTicksSaid : Prop := coreTicksRow.holds Try.pinned (OpenSpec.ofChange coreTicksSpec)

/-- ITS FALSE NEIGHBOUR: 'it returns false'. Refute it at one input. -/
def coreTicksWrong : ChangeSpec := { name := "coreTicks", fn := fun _ => fun
  | [d1, d2, d3] => { results := [.lit (.bool false)], args := [d1, d2, d3] }
  | _ => none }
def CoreTicksWrongFalsely : Prop := coreTicksRow.holds Try.pinned (OpenSpec.ofChange coreTicksWrong)

/- THE SECOND FORM. 'bulk': how many values and letters a reading holds, each counted each time it is reached (what is shared counts as often as it is met; a slice's spare places count too). A statement '..UptoSaid' is the law's where the arguments, and the package variables that the reading takes, are together of bulk at most 1048576: NARROWER than '..Said'. Prove '..Said' where nothing that the law and all that it calls make is longer than what came in: it says more and counts as full. Else prove '..UptoSaid'. A law counts once. -/
mutual
def uptoBulk {H : Type} : DataW H → Nat
  | .lit (.string bytes) => bytes.length + 1
  | .lit _ => 1
  | .nil => 1
  | .ptr d => uptoBulk d + 1
  | .slice elems spare => uptoBulkAll elems + uptoBulkAll spare + 1
  | .agg parts => uptoBulkAll parts + 1
  | .iface _ d => uptoBulk d + 1
  | .map entries => uptoBulkEntries entries + 1
  | .held _ => 1
def uptoBulkAll {H : Type} : List (DataW H) → Nat
  | [] => 0
  | d :: r => uptoBulk d + uptoBulkAll r
def uptoBulkEntries {H : Type} : List (Lit × DataW H) → Nat
  | [] => 0
  | x :: r => uptoBulkEntry x + uptoBulkEntries r
def uptoBulkEntry {H : Type} : Lit × DataW H → Nat
  | (.string bytes, d) => bytes.length + uptoBulk d + 1
  | (_, d) => uptoBulk d + 1
 end
def uptoSmall : (H : Type) → List (DataW H) → Bool := fun _ ds => decide (uptoBulkAll ds ≤ 1048576)
def OpenSpec.upto (s : _root_.Go.ChangeSpec) : _root_.Go.OpenSpec := { _root_.Go.OpenSpec.ofChange s with cond := some uptoSmall }

/-- 'portholelaw05.RawOnes', WHERE WHAT IT READS IS OF BULK AT MOST 1048576: true; the input reads as it did. -/
def rawOnesUptoRow : OpenClaim := { program := "ytndmdlnmjamgkaa", sum := "322db1af73cf2840e4ea4e4db16ad103a2eee4ba75e59b594479ffed570d60aa", func := "porthole/portholelaw05.RawOnes", spec := "rawOnes", apart := false, narrowed := true }
def RawOnesUptoSaid : Prop := rawOnesUptoRow.holds Try.pinned (OpenSpec.upto rawOnesSpec)

/-- 'portholelaw05.RawReads', WHERE WHAT IT READS IS OF BULK AT MOST 1048576: true; the input reads as it did. -/
def rawReadsUptoRow : OpenClaim := { program := "ytndmdlnmjamgkaa", sum := "322db1af73cf2840e4ea4e4db16ad103a2eee4ba75e59b594479ffed570d60aa", func := "porthole/portholelaw05.RawReads", spec := "rawReads", apart := false, narrowed := true }
def RawReadsUptoSaid : Prop := rawReadsUptoRow.holds Try.pinned (OpenSpec.upto rawReadsSpec)

/-- 'portholelaw05.RawFits', WHERE WHAT IT READS IS OF BULK AT MOST 1048576: true; the input reads as it did. -/
def rawFitsUptoRow : OpenClaim := { program := "ytndmdlnmjamgkaa", sum := "322db1af73cf2840e4ea4e4db16ad103a2eee4ba75e59b594479ffed570d60aa", func := "porthole/portholelaw05.RawFits", spec := "rawFits", apart := false, narrowed := true }
def RawFitsUptoSaid : Prop := rawFitsUptoRow.holds Try.pinned (OpenSpec.upto rawFitsSpec)

/-- 'portholelaw09.FrameAt', WHERE WHAT IT READS IS OF BULK AT MOST 1048576: true; the input reads as it did. -/
def frameAtUptoRow : OpenClaim := { program := "ytndmdlnmjamgkaa", sum := "322db1af73cf2840e4ea4e4db16ad103a2eee4ba75e59b594479ffed570d60aa", func := "porthole/portholelaw09.FrameAt", spec := "frameAt", apart := false, narrowed := true }
def FrameAtUptoSaid : Prop := frameAtUptoRow.holds Try.pinned (OpenSpec.upto frameAtSpec)

/-- 'portholelaw09.FrameTurns', WHERE WHAT IT READS IS OF BULK AT MOST 1048576: true; the input reads as it did. -/
def frameTurnsUptoRow : OpenClaim := { program := "ytndmdlnmjamgkaa", sum := "322db1af73cf2840e4ea4e4db16ad103a2eee4ba75e59b594479ffed570d60aa", func := "porthole/portholelaw09.FrameTurns", spec := "frameTurns", apart := false, narrowed := true }
def FrameTurnsUptoSaid : Prop := frameTurnsUptoRow.holds Try.pinned (OpenSpec.upto frameTurnsSpec)

/-- 'portholelaw09.FrameShare', WHERE WHAT IT READS IS OF BULK AT MOST 1048576: true; the input reads as it did. -/
def frameShareUptoRow : OpenClaim := { program := "ytndmdlnmjamgkaa", sum := "322db1af73cf2840e4ea4e4db16ad103a2eee4ba75e59b594479ffed570d60aa", func := "porthole/portholelaw09.FrameShare", spec := "frameShare", apart := false, narrowed := true }
def FrameShareUptoSaid : Prop := frameShareUptoRow.holds Try.pinned (OpenSpec.upto frameShareSpec)

/-- 'portholelaw09.FrameNext', WHERE WHAT IT READS IS OF BULK AT MOST 1048576: true; the input reads as it did. -/
def frameNextUptoRow : OpenClaim := { program := "ytndmdlnmjamgkaa", sum := "322db1af73cf2840e4ea4e4db16ad103a2eee4ba75e59b594479ffed570d60aa", func := "porthole/portholelaw09.FrameNext", spec := "frameNext", apart := false, narrowed := true }
def FrameNextUptoSaid : Prop := frameNextUptoRow.holds Try.pinned (OpenSpec.upto frameNextSpec)

/-- 'portholelaw05.RawJoins', WHERE WHAT IT READS IS OF BULK AT MOST 1048576: true; the input reads as it did. -/
def rawJoinsUptoRow : OpenClaim := { program := "ytndmdlnmjamgkaa", sum := "322db1af73cf2840e4ea4e4db16ad103a2eee4ba75e59b594479ffed570d60aa", func := "porthole/portholelaw05.RawJoins", spec := "rawJoins", apart := false, narrowed := true }
def RawJoinsUptoSaid : Prop := rawJoinsUptoRow.holds Try.pinned (OpenSpec.upto rawJoinsSpec)

/-- 'portholelaw09.FrameTicks', WHERE WHAT IT READS IS OF BULK AT MOST 1048576: true; the input reads as it did. -/
def frameTicksUptoRow : OpenClaim := { program := "ytndmdlnmjamgkaa", sum := "322db1af73cf2840e4ea4e4db16ad103a2eee4ba75e59b594479ffed570d60aa", func := "porthole/portholelaw09.FrameTicks", spec := "frameTicks", unfollowed := true, recurses := true, apart := false, narrowed := true }
def FrameTicksUptoSaid : Prop := frameTicksUptoRow.holds Try.pinned (OpenSpec.upto frameTicksSpec)

/-- 'portholelaw15.CoreEnters', WHERE WHAT IT READS IS OF BULK AT MOST 1048576: true; the input reads as it did. -/
def coreEntersUptoRow : OpenClaim := { program := "ytndmdlnmjamgkaa", sum := "322db1af73cf2840e4ea4e4db16ad103a2eee4ba75e59b594479ffed570d60aa", func := "porthole/portholelaw15.CoreEnters", spec := "coreEnters", apart := false, narrowed := true }
def CoreEntersUptoSaid : Prop := coreEntersUptoRow.holds Try.pinned (OpenSpec.upto coreEntersSpec)

/-- 'portholelaw15.CoreFair', WHERE WHAT IT READS IS OF BULK AT MOST 1048576: true; the input reads as it did. -/
def coreFairUptoRow : OpenClaim := { program := "ytndmdlnmjamgkaa", sum := "322db1af73cf2840e4ea4e4db16ad103a2eee4ba75e59b594479ffed570d60aa", func := "porthole/portholelaw15.CoreFair", spec := "coreFair", apart := false, narrowed := true }
def CoreFairUptoSaid : Prop := coreFairUptoRow.holds Try.pinned (OpenSpec.upto coreFairSpec)

/-- 'portholelaw15.CoreTicks', WHERE WHAT IT READS IS OF BULK AT MOST 1048576: true; the input reads as it did. -/
def coreTicksUptoRow : OpenClaim := { program := "ytndmdlnmjamgkaa", sum := "322db1af73cf2840e4ea4e4db16ad103a2eee4ba75e59b594479ffed570d60aa", func := "porthole/portholelaw15.CoreTicks", spec := "coreTicks", apart := false, narrowed := true }
def CoreTicksUptoSaid : Prop := coreTicksUptoRow.holds Try.pinned (OpenSpec.upto coreTicksSpec)

end Rows
end Go.Proofs.Ytndmdlnmjamgkaa
