/-
  No cell of these rows narrows 'for every input' (looked for: loops, veiled, ifaces, maps, wideKeys, modest, calm, conditions, laid).
  DERIVED. THE GIVEN ROWS OF THIS SEAT. 10 by the template 'for every input the law returns true; each argument reads behind the call as it read before'; 0 by the template 'total and deterministic' (their statements: YtbpmmabdjabfcaaTotals.lean).
  GIVEN WITH THE SEED: the statements are not yours to turn. If you find one false, say at which input.
  Laid BY PROGRAM, IN A SANDBOX (cutbox-rows.mjs): the forced cells as the released guide's own fill.sh prints them over the translation 48489cd27ffa6256… (all of the seat's roots in one cut). By AI agents, Wed Nov 11 2026. No macro, syntax, notation, axiom, sorry.
-/
import Derived.Test.YtbpmmabdjabfcaaChecked
import GoSem.Claim
import GoSem.ClaimJoined
import GoSem.ClaimMapViews
import Derived.JoinedTies
import Derived.KernelRfl
namespace Go.Proofs.Ytbpmmabdjabfcaa
/- THE CELL 'sum', in the pinned program and in every row, IS THE sha256 OF THE DUMP (.gsa) THAT YtbpmmabdjabfcaaProg.lean LOADS. Nothing in Lean hashes anything: it is a label: what it is worth is what the hold of that sum in a sandbox is worth. -/
noncomputable def Try.pinned : Pinned := { name := "ytbpmmabdjabfcaa", sum := "48489cd27ffa6256f8dcce07fdb12388b914e9c821c617cc6621dc942b927e67", checked := Try.checked }
namespace Rows
def none {H : Type} : Left H := { results := [], args := [] }

/-- 'portholelaw06.TableParses': WHATEVER THE INPUT: true; the input reads as it did. -/
def tableParsesSpec : ChangeSpec := { name := "tableParses", fn := fun _ => fun
  | [d] => { results := [.lit (.bool true)], args := [d] }
  | _ => none }
def tableParsesRow : OpenClaim := { program := "ytbpmmabdjabfcaa", sum := "48489cd27ffa6256f8dcce07fdb12388b914e9c821c617cc6621dc942b927e67", func := "porthole/portholelaw06.TableParses", spec := "tableParses", unfollowed := true, recurses := true, apart := false }
def TableParsesSaid : Prop := tableParsesRow.holds Try.pinned (OpenSpec.ofChange tableParsesSpec)

/-- ITS FALSE NEIGHBOUR: 'it returns false'. Refute it at one input. -/
def tableParsesWrong : ChangeSpec := { name := "tableParses", fn := fun _ => fun
  | [d] => { results := [.lit (.bool false)], args := [d] }
  | _ => none }
def TableParsesWrongFalsely : Prop := tableParsesRow.holds Try.pinned (OpenSpec.ofChange tableParsesWrong)

/-- 'portholelaw06.TableSame': WHATEVER THE INPUT: true; the input reads as it did. -/
def tableSameSpec : ChangeSpec := { name := "tableSame", fn := fun _ => fun
  | [d1, d2] => { results := [.lit (.bool true)], args := [d1, d2] }
  | _ => none }
def tableSameRow : OpenClaim := { program := "ytbpmmabdjabfcaa", sum := "48489cd27ffa6256f8dcce07fdb12388b914e9c821c617cc6621dc942b927e67", func := "porthole/portholelaw06.TableSame", spec := "tableSame", unfollowed := true, recurses := true, apart := false }
def TableSameSaid : Prop := tableSameRow.holds Try.pinned (OpenSpec.ofChange tableSameSpec)

/-- ITS FALSE NEIGHBOUR: 'it returns false'. Refute it at one input. -/
def tableSameWrong : ChangeSpec := { name := "tableSame", fn := fun _ => fun
  | [d1, d2] => { results := [.lit (.bool false)], args := [d1, d2] }
  | _ => none }
def TableSameWrongFalsely : Prop := tableSameRow.holds Try.pinned (OpenSpec.ofChange tableSameWrong)

/-- 'portholelaw06.TablePrints': WHATEVER THE INPUT: true; the input reads as it did. -/
def tablePrintsSpec : ChangeSpec := { name := "tablePrints", fn := fun _ => fun
  | [d] => { results := [.lit (.bool true)], args := [d] }
  | _ => none }
def tablePrintsRow : OpenClaim := { program := "ytbpmmabdjabfcaa", sum := "48489cd27ffa6256f8dcce07fdb12388b914e9c821c617cc6621dc942b927e67", func := "porthole/portholelaw06.TablePrints", spec := "tablePrints", unfollowed := true, recurses := true, apart := false }
def TablePrintsSaid : Prop := tablePrintsRow.holds Try.pinned (OpenSpec.ofChange tablePrintsSpec)

/-- ITS FALSE NEIGHBOUR: 'it returns false'. Refute it at one input. -/
def tablePrintsWrong : ChangeSpec := { name := "tablePrints", fn := fun _ => fun
  | [d] => { results := [.lit (.bool false)], args := [d] }
  | _ => none }
def TablePrintsWrongFalsely : Prop := tablePrintsRow.holds Try.pinned (OpenSpec.ofChange tablePrintsWrong)

/-- 'portholelaw06.TableOne': WHATEVER THE INPUT: true; the input reads as it did. -/
def tableOneSpec : ChangeSpec := { name := "tableOne", fn := fun _ => fun
  | [d] => { results := [.lit (.bool true)], args := [d] }
  | _ => none }
def tableOneRow : OpenClaim := { program := "ytbpmmabdjabfcaa", sum := "48489cd27ffa6256f8dcce07fdb12388b914e9c821c617cc6621dc942b927e67", func := "porthole/portholelaw06.TableOne", spec := "tableOne", unfollowed := true, recurses := true, apart := false }
def TableOneSaid : Prop := tableOneRow.holds Try.pinned (OpenSpec.ofChange tableOneSpec)

/-- ITS FALSE NEIGHBOUR: 'it returns false'. Refute it at one input. -/
def tableOneWrong : ChangeSpec := { name := "tableOne", fn := fun _ => fun
  | [d] => { results := [.lit (.bool false)], args := [d] }
  | _ => none }
def TableOneWrongFalsely : Prop := tableOneRow.holds Try.pinned (OpenSpec.ofChange tableOneWrong)

/-- 'portholelaw06.TableCuts': WHATEVER THE INPUT: true; the input reads as it did. -/
def tableCutsSpec : ChangeSpec := { name := "tableCuts", fn := fun _ => fun
  | [d1, d2, d3] => { results := [.lit (.bool true)], args := [d1, d2, d3] }
  | _ => none }
def tableCutsRow : OpenClaim := { program := "ytbpmmabdjabfcaa", sum := "48489cd27ffa6256f8dcce07fdb12388b914e9c821c617cc6621dc942b927e67", func := "porthole/portholelaw06.TableCuts", spec := "tableCuts", unfollowed := true, recurses := true, apart := false }
def TableCutsSaid : Prop := tableCutsRow.holds Try.pinned (OpenSpec.ofChange tableCutsSpec)

/-- ITS FALSE NEIGHBOUR: 'it returns false'. Refute it at one input. -/
def tableCutsWrong : ChangeSpec := { name := "tableCuts", fn := fun _ => fun
  | [d1, d2, d3] => { results := [.lit (.bool false)], args := [d1, d2, d3] }
  | _ => none }
def TableCutsWrongFalsely : Prop := tableCutsRow.holds Try.pinned (OpenSpec.ofChange tableCutsWrong)

/-- 'portholelaw25.ScriptPrints': WHATEVER THE INPUT: true; the input reads as it did. -/
def scriptPrintsSpec : ChangeSpec := { name := "scriptPrints", fn := fun _ => fun
  | [d] => { results := [.lit (.bool true)], args := [d] }
  | _ => none }
def scriptPrintsRow : OpenClaim := { program := "ytbpmmabdjabfcaa", sum := "48489cd27ffa6256f8dcce07fdb12388b914e9c821c617cc6621dc942b927e67", func := "porthole/portholelaw25.ScriptPrints", spec := "scriptPrints", unfollowed := true, recurses := true, apart := false }
def ScriptPrintsSaid : Prop := scriptPrintsRow.holds Try.pinned (OpenSpec.ofChange scriptPrintsSpec)

/-- ITS FALSE NEIGHBOUR: 'it returns false'. Refute it at one input. -/
def scriptPrintsWrong : ChangeSpec := { name := "scriptPrints", fn := fun _ => fun
  | [d] => { results := [.lit (.bool false)], args := [d] }
  | _ => none }
def ScriptPrintsWrongFalsely : Prop := scriptPrintsRow.holds Try.pinned (OpenSpec.ofChange scriptPrintsWrong)

/-- 'portholelaw25.ScriptOne': WHATEVER THE INPUT: true; the input reads as it did. -/
def scriptOneSpec : ChangeSpec := { name := "scriptOne", fn := fun _ => fun
  | [d] => { results := [.lit (.bool true)], args := [d] }
  | _ => none }
def scriptOneRow : OpenClaim := { program := "ytbpmmabdjabfcaa", sum := "48489cd27ffa6256f8dcce07fdb12388b914e9c821c617cc6621dc942b927e67", func := "porthole/portholelaw25.ScriptOne", spec := "scriptOne", unfollowed := true, recurses := true, apart := false }
def ScriptOneSaid : Prop := scriptOneRow.holds Try.pinned (OpenSpec.ofChange scriptOneSpec)

/-- ITS FALSE NEIGHBOUR: 'it returns false'. Refute it at one input. -/
def scriptOneWrong : ChangeSpec := { name := "scriptOne", fn := fun _ => fun
  | [d] => { results := [.lit (.bool false)], args := [d] }
  | _ => none }
def ScriptOneWrongFalsely : Prop := scriptOneRow.holds Try.pinned (OpenSpec.ofChange scriptOneWrong)

/-- 'portholelaw25.ScriptCuts': WHATEVER THE INPUT: true; the input reads as it did. -/
def scriptCutsSpec : ChangeSpec := { name := "scriptCuts", fn := fun _ => fun
  | [d1, d2, d3] => { results := [.lit (.bool true)], args := [d1, d2, d3] }
  | _ => none }
def scriptCutsRow : OpenClaim := { program := "ytbpmmabdjabfcaa", sum := "48489cd27ffa6256f8dcce07fdb12388b914e9c821c617cc6621dc942b927e67", func := "porthole/portholelaw25.ScriptCuts", spec := "scriptCuts", unfollowed := true, recurses := true, apart := false }
def ScriptCutsSaid : Prop := scriptCutsRow.holds Try.pinned (OpenSpec.ofChange scriptCutsSpec)

/-- ITS FALSE NEIGHBOUR: 'it returns false'. Refute it at one input. -/
def scriptCutsWrong : ChangeSpec := { name := "scriptCuts", fn := fun _ => fun
  | [d1, d2, d3] => { results := [.lit (.bool false)], args := [d1, d2, d3] }
  | _ => none }
def ScriptCutsWrongFalsely : Prop := scriptCutsRow.holds Try.pinned (OpenSpec.ofChange scriptCutsWrong)

/-- 'portholelaw25.ScriptParses': WHATEVER THE INPUT: true; the input reads as it did. -/
def scriptParsesSpec : ChangeSpec := { name := "scriptParses", fn := fun _ => fun
  | [d] => { results := [.lit (.bool true)], args := [d] }
  | _ => none }
def scriptParsesRow : OpenClaim := { program := "ytbpmmabdjabfcaa", sum := "48489cd27ffa6256f8dcce07fdb12388b914e9c821c617cc6621dc942b927e67", func := "porthole/portholelaw25.ScriptParses", spec := "scriptParses", unfollowed := true, recurses := true, apart := false }
def ScriptParsesSaid : Prop := scriptParsesRow.holds Try.pinned (OpenSpec.ofChange scriptParsesSpec)

/-- ITS FALSE NEIGHBOUR: 'it returns false'. Refute it at one input. -/
def scriptParsesWrong : ChangeSpec := { name := "scriptParses", fn := fun _ => fun
  | [d] => { results := [.lit (.bool false)], args := [d] }
  | _ => none }
def ScriptParsesWrongFalsely : Prop := scriptParsesRow.holds Try.pinned (OpenSpec.ofChange scriptParsesWrong)

/-- 'portholelaw25.ScriptSame': WHATEVER THE INPUT: true; the input reads as it did. -/
def scriptSameSpec : ChangeSpec := { name := "scriptSame", fn := fun _ => fun
  | [d1, d2] => { results := [.lit (.bool true)], args := [d1, d2] }
  | _ => none }
def scriptSameRow : OpenClaim := { program := "ytbpmmabdjabfcaa", sum := "48489cd27ffa6256f8dcce07fdb12388b914e9c821c617cc6621dc942b927e67", func := "porthole/portholelaw25.ScriptSame", spec := "scriptSame", unfollowed := true, recurses := true, apart := false }
def ScriptSameSaid : Prop := scriptSameRow.holds Try.pinned (OpenSpec.ofChange scriptSameSpec)

/-- ITS FALSE NEIGHBOUR: 'it returns false'. Refute it at one input. -/
def scriptSameWrong : ChangeSpec := { name := "scriptSame", fn := fun _ => fun
  | [d1, d2] => { results := [.lit (.bool false)], args := [d1, d2] }
  | _ => none }
def ScriptSameWrongFalsely : Prop := scriptSameRow.holds Try.pinned (OpenSpec.ofChange scriptSameWrong)

/- THE SECOND FORM. 'bulk': how many values and letters a reading holds, each counted each time it is reached (what is shared counts as often as it is met; a slice's spare places count too). A statement '..UptoSaid' is the law's where the arguments, and the package variables that the reading takes, are together of bulk at most 1048576: NARROWER than '..Said'. Prove '..Said' where nothing that the law and all that it calls make is longer than what came in: it says more and counts as full. Else prove '..UptoSaid'. A law counts once. -/
mutual
def uptoBulk {H : Type} : DataW H → Nat
  | .lit (.string bytes) => bytes.length + 1
  | .lit _ => 1
  | .nil => 1
  | .ptr d => uptoBulk d + 1
  | .slice elems spare => uptoBulkAll elems + uptoBulkAll spare + 1
  | .agg parts => uptoBulkAll parts + 1
  | .iface _ d => uptoBulk d + 1
  | .map entries => uptoBulkEntries entries + 1
  | .held _ => 1
def uptoBulkAll {H : Type} : List (DataW H) → Nat
  | [] => 0
  | d :: r => uptoBulk d + uptoBulkAll r
def uptoBulkEntries {H : Type} : List (Lit × DataW H) → Nat
  | [] => 0
  | x :: r => uptoBulkEntry x + uptoBulkEntries r
def uptoBulkEntry {H : Type} : Lit × DataW H → Nat
  | (.string bytes, d) => bytes.length + uptoBulk d + 1
  | (_, d) => uptoBulk d + 1
 end
def uptoSmall : (H : Type) → List (DataW H) → Bool := fun _ ds => decide (uptoBulkAll ds ≤ 1048576)
def OpenSpec.upto (s : _root_.Go.ChangeSpec) : _root_.Go.OpenSpec := { _root_.Go.OpenSpec.ofChange s with cond := some uptoSmall }

/-- 'portholelaw06.TableParses', WHERE WHAT IT READS IS OF BULK AT MOST 1048576: true; the input reads as it did. -/
def tableParsesUptoRow : OpenClaim := { program := "ytbpmmabdjabfcaa", sum := "48489cd27ffa6256f8dcce07fdb12388b914e9c821c617cc6621dc942b927e67", func := "porthole/portholelaw06.TableParses", spec := "tableParses", unfollowed := true, recurses := true, apart := false, narrowed := true }
def TableParsesUptoSaid : Prop := tableParsesUptoRow.holds Try.pinned (OpenSpec.upto tableParsesSpec)

/-- 'portholelaw06.TableSame', WHERE WHAT IT READS IS OF BULK AT MOST 1048576: true; the input reads as it did. -/
def tableSameUptoRow : OpenClaim := { program := "ytbpmmabdjabfcaa", sum := "48489cd27ffa6256f8dcce07fdb12388b914e9c821c617cc6621dc942b927e67", func := "porthole/portholelaw06.TableSame", spec := "tableSame", unfollowed := true, recurses := true, apart := false, narrowed := true }
def TableSameUptoSaid : Prop := tableSameUptoRow.holds Try.pinned (OpenSpec.upto tableSameSpec)

/-- 'portholelaw06.TablePrints', WHERE WHAT IT READS IS OF BULK AT MOST 1048576: true; the input reads as it did. -/
def tablePrintsUptoRow : OpenClaim := { program := "ytbpmmabdjabfcaa", sum := "48489cd27ffa6256f8dcce07fdb12388b914e9c821c617cc6621dc942b927e67", func := "porthole/portholelaw06.TablePrints", spec := "tablePrints", unfollowed := true, recurses := true, apart := false, narrowed := true }
def TablePrintsUptoSaid : Prop := tablePrintsUptoRow.holds Try.pinned (OpenSpec.upto tablePrintsSpec)

/-- 'portholelaw06.TableOne', WHERE WHAT IT READS IS OF BULK AT MOST 1048576: true; the input reads as it did. -/
def tableOneUptoRow : OpenClaim := { program := "ytbpmmabdjabfcaa", sum := "48489cd27ffa6256f8dcce07fdb12388b914e9c821c617cc6621dc942b927e67", func := "porthole/portholelaw06.TableOne", spec := "tableOne", unfollowed := true, recurses := true, apart := false, narrowed := true }
def TableOneUptoSaid : Prop := tableOneUptoRow.holds Try.pinned (OpenSpec.upto tableOneSpec)

/-- 'portholelaw06.TableCuts', WHERE WHAT IT READS IS OF BULK AT MOST 1048576: true; the input reads as it did. -/
def tableCutsUptoRow : OpenClaim := { program := "ytbpmmabdjabfcaa", sum := "48489cd27ffa6256f8dcce07fdb12388b914e9c821c617cc6621dc942b927e67", func := "porthole/portholelaw06.TableCuts", spec := "tableCuts", unfollowed := true, recurses := true, apart := false, narrowed := true }
def TableCutsUptoSaid : Prop := tableCutsUptoRow.holds Try.pinned (OpenSpec.upto tableCutsSpec)

/-- 'portholelaw25.ScriptPrints', WHERE WHAT IT READS IS OF BULK AT MOST 1048576: true; the input reads as it did. -/
def scriptPrintsUptoRow : OpenClaim := { program := "ytbpmmabdjabfcaa", sum := "48489cd27ffa6256f8dcce07fdb12388b914e9c821c617cc6621dc942b927e67", func := "porthole/portholelaw25.ScriptPrints", spec := "scriptPrints", unfollowed := true, recurses := true, apart := false, narrowed := true }
def ScriptPrintsUptoSaid : Prop := scriptPrintsUptoRow.holds Try.pinned (OpenSpec.upto scriptPrintsSpec)

/-- 'portholelaw25.ScriptOne', WHERE WHAT IT READS IS OF BULK AT MOST 1048576: true; the input reads as it did. -/
def scriptOneUptoRow : OpenClaim := { program := "ytbpmmabdjabfcaa", sum := "48489cd27ffa6256f8dcce07fdb12388b914e9c821c617cc6621dc942b927e67", func := "porthole/portholelaw25.ScriptOne", spec := "scriptOne", unfollowed := true, recurses := true, apart := false, narrowed := true }
def ScriptOneUptoSaid : Prop := scriptOneUptoRow.holds Try.pinned (OpenSpec.upto scriptOneSpec)

/-- 'portholelaw25.ScriptCuts', WHERE WHAT IT READS IS OF BULK AT MOST 1048576: true; the input reads as it did. -/
def scriptCutsUptoRow : OpenClaim := { program := "ytbpmmabdjabfcaa", sum := "48489cd27ffa6256f8dcce07fdb12388b914e9c821c617cc6621dc942b927e67", func := "porthole/portholelaw25.ScriptCuts", spec := "scriptCuts", unfollowed := true, recurses := true, apart := false, narrowed := true }
def ScriptCutsUptoSaid : Prop := scriptCutsUptoRow.holds Try.pinned (OpenSpec.upto scriptCutsSpec)

/-- 'portholelaw25.ScriptParses', WHERE WHAT IT READS IS OF BULK AT MOST 1048576: true; the input reads as it did. -/
def scriptParsesUptoRow : OpenClaim := { program := "ytbpmmabdjabfcaa", sum := "48489cd27ffa6256f8dcce07fdb12388b914e9c821c617cc6621dc942b927e67", func := "porthole/portholelaw25.ScriptParses", spec := "scriptParses", unfollowed := true, recurses := true, apart := false, narrowed := true }
def ScriptParsesUptoSaid : Prop := scriptParsesUptoRow.holds Try.pinned (OpenSpec.upto scriptParsesSpec)

/-- 'portholelaw25.ScriptSame', WHERE WHAT IT READS IS OF BULK AT MOST 1048576: true; the input reads as it did. -/
def scriptSameUptoRow : OpenClaim := { program := "ytbpmmabdjabfcaa", sum := "48489cd27ffa6256f8dcce07fdb12388b914e9c821c617cc6621dc942b927e67", func := "porthole/portholelaw25.ScriptSame", spec := "scriptSame", unfollowed := true, recurses := true, apart := false, narrowed := true }
def ScriptSameUptoSaid : Prop := scriptSameUptoRow.holds Try.pinned (OpenSpec.upto scriptSameSpec)

end Rows
end Go.Proofs.Ytbpmmabdjabfcaa
