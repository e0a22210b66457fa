/-
  No cell of these rows narrows 'for every input' (looked for: loops, veiled, ifaces, maps, wideKeys, modest, calm, conditions, laid).
  DERIVED. THE GIVEN ROWS OF THIS SEAT. 7 by the template 'for every input the law returns true; each argument reads behind the call as it read before'; 0 by the template 'total and deterministic' (their statements: YteiohpbghpmohaaTotals.lean).
  GIVEN WITH THE SEED: the statements are not yours to turn. If you find one false, say at which input.
  Laid BY PROGRAM, IN A SANDBOX (cutbox-rows.mjs): the forced cells as the released guide's own fill.sh prints them over the translation fbac235273a22884… (all of the seat's roots in one cut). By AI agents, Wed Nov 11 2026. No macro, syntax, notation, axiom, sorry.
-/
import Derived.Test.YteiohpbghpmohaaChecked
import GoSem.Claim
import GoSem.ClaimJoined
import GoSem.ClaimMapViews
import Derived.JoinedTies
import Derived.KernelRfl
namespace Go.Proofs.Yteiohpbghpmohaa
/- THE CELL 'sum', in the pinned program and in every row, IS THE sha256 OF THE DUMP (.gsa) THAT YteiohpbghpmohaaProg.lean LOADS. Nothing in Lean hashes anything: it is a label: what it is worth is what the hold of that sum in a sandbox is worth. -/
noncomputable def Try.pinned : Pinned := { name := "yteiohpbghpmohaa", sum := "fbac235273a22884d188bbc106c6a33d9e67e58a034507032a9a9145f2eae6b0", checked := Try.checked }
namespace Rows
def none {H : Type} : Left H := { results := [], args := [] }

/-- 'tabardlaw01.OpcodeReads': WHATEVER THE INPUT: true; the input reads as it did. -/
def opcodeReadsSpec : ChangeSpec := { name := "opcodeReads", fn := fun _ => fun
  | [d1, d2, d3] => { results := [.lit (.bool true)], args := [d1, d2, d3] }
  | _ => none }
def opcodeReadsRow : OpenClaim := { program := "yteiohpbghpmohaa", sum := "fbac235273a22884d188bbc106c6a33d9e67e58a034507032a9a9145f2eae6b0", func := "tabard/tabardlaw01.OpcodeReads", spec := "opcodeReads", unfollowed := true, recurses := true, apart := false }
def OpcodeReadsSaid : Prop := opcodeReadsRow.holds Try.pinned (OpenSpec.ofChange opcodeReadsSpec)

/-- ITS FALSE NEIGHBOUR: 'it returns false'. Refute it at one input. -/
def opcodeReadsWrong : ChangeSpec := { name := "opcodeReads", fn := fun _ => fun
  | [d1, d2, d3] => { results := [.lit (.bool false)], args := [d1, d2, d3] }
  | _ => none }
def OpcodeReadsWrongFalsely : Prop := opcodeReadsRow.holds Try.pinned (OpenSpec.ofChange opcodeReadsWrong)

/-- 'tabardlaw01.OpcodeTable': WHATEVER THE INPUT: true; the input reads as it did. -/
def opcodeTableSpec : ChangeSpec := { name := "opcodeTable", fn := fun _ => fun
  | [d1, d2] => { results := [.lit (.bool true)], args := [d1, d2] }
  | _ => none }
def opcodeTableRow : OpenClaim := { program := "yteiohpbghpmohaa", sum := "fbac235273a22884d188bbc106c6a33d9e67e58a034507032a9a9145f2eae6b0", func := "tabard/tabardlaw01.OpcodeTable", spec := "opcodeTable", unfollowed := true, recurses := true, apart := false }
def OpcodeTableSaid : Prop := opcodeTableRow.holds Try.pinned (OpenSpec.ofChange opcodeTableSpec)

/-- ITS FALSE NEIGHBOUR: 'it returns false'. Refute it at one input. -/
def opcodeTableWrong : ChangeSpec := { name := "opcodeTable", fn := fun _ => fun
  | [d1, d2] => { results := [.lit (.bool false)], args := [d1, d2] }
  | _ => none }
def OpcodeTableWrongFalsely : Prop := opcodeTableRow.holds Try.pinned (OpenSpec.ofChange opcodeTableWrong)

/-- 'tabardlaw01.OpcodeCuts': WHATEVER THE INPUT: true; the input reads as it did. -/
def opcodeCutsSpec : ChangeSpec := { name := "opcodeCuts", fn := fun _ => fun
  | [d1, d2] => { results := [.lit (.bool true)], args := [d1, d2] }
  | _ => none }
def opcodeCutsRow : OpenClaim := { program := "yteiohpbghpmohaa", sum := "fbac235273a22884d188bbc106c6a33d9e67e58a034507032a9a9145f2eae6b0", func := "tabard/tabardlaw01.OpcodeCuts", spec := "opcodeCuts", unfollowed := true, recurses := true, apart := false }
def OpcodeCutsSaid : Prop := opcodeCutsRow.holds Try.pinned (OpenSpec.ofChange opcodeCutsSpec)

/-- ITS FALSE NEIGHBOUR: 'it returns false'. Refute it at one input. -/
def opcodeCutsWrong : ChangeSpec := { name := "opcodeCuts", fn := fun _ => fun
  | [d1, d2] => { results := [.lit (.bool false)], args := [d1, d2] }
  | _ => none }
def OpcodeCutsWrongFalsely : Prop := opcodeCutsRow.holds Try.pinned (OpenSpec.ofChange opcodeCutsWrong)

/-- 'tabardlaw01.OpcodeFlow': WHATEVER THE INPUT: true; the input reads as it did. -/
def opcodeFlowSpec : ChangeSpec := { name := "opcodeFlow", fn := fun _ => fun
  | [d] => { results := [.lit (.bool true)], args := [d] }
  | _ => none }
def opcodeFlowRow : OpenClaim := { program := "yteiohpbghpmohaa", sum := "fbac235273a22884d188bbc106c6a33d9e67e58a034507032a9a9145f2eae6b0", func := "tabard/tabardlaw01.OpcodeFlow", spec := "opcodeFlow", unfollowed := true, recurses := true, apart := false }
def OpcodeFlowSaid : Prop := opcodeFlowRow.holds Try.pinned (OpenSpec.ofChange opcodeFlowSpec)

/-- ITS FALSE NEIGHBOUR: 'it returns false'. Refute it at one input. -/
def opcodeFlowWrong : ChangeSpec := { name := "opcodeFlow", fn := fun _ => fun
  | [d] => { results := [.lit (.bool false)], args := [d] }
  | _ => none }
def OpcodeFlowWrongFalsely : Prop := opcodeFlowRow.holds Try.pinned (OpenSpec.ofChange opcodeFlowWrong)

/-- 'tabardlaw01.OpcodeBack': WHATEVER THE INPUT: true; the input reads as it did. -/
def opcodeBackSpec : ChangeSpec := { name := "opcodeBack", fn := fun _ => fun
  | [d1, d2] => { results := [.lit (.bool true)], args := [d1, d2] }
  | _ => none }
def opcodeBackRow : OpenClaim := { program := "yteiohpbghpmohaa", sum := "fbac235273a22884d188bbc106c6a33d9e67e58a034507032a9a9145f2eae6b0", func := "tabard/tabardlaw01.OpcodeBack", spec := "opcodeBack", unfollowed := true, recurses := true, apart := false }
def OpcodeBackSaid : Prop := opcodeBackRow.holds Try.pinned (OpenSpec.ofChange opcodeBackSpec)

/-- ITS FALSE NEIGHBOUR: 'it returns false'. Refute it at one input. -/
def opcodeBackWrong : ChangeSpec := { name := "opcodeBack", fn := fun _ => fun
  | [d1, d2] => { results := [.lit (.bool false)], args := [d1, d2] }
  | _ => none }
def OpcodeBackWrongFalsely : Prop := opcodeBackRow.holds Try.pinned (OpenSpec.ofChange opcodeBackWrong)

/-- 'tabardlaw01.OpcodeWrites': WHATEVER THE INPUT: true; the input reads as it did. -/
def opcodeWritesSpec : ChangeSpec := { name := "opcodeWrites", fn := fun _ => fun
  | [d1, d2] => { results := [.lit (.bool true)], args := [d1, d2] }
  | _ => none }
def opcodeWritesRow : OpenClaim := { program := "yteiohpbghpmohaa", sum := "fbac235273a22884d188bbc106c6a33d9e67e58a034507032a9a9145f2eae6b0", func := "tabard/tabardlaw01.OpcodeWrites", spec := "opcodeWrites", unfollowed := true, recurses := true, apart := false }
def OpcodeWritesSaid : Prop := opcodeWritesRow.holds Try.pinned (OpenSpec.ofChange opcodeWritesSpec)

/-- ITS FALSE NEIGHBOUR: 'it returns false'. Refute it at one input. -/
def opcodeWritesWrong : ChangeSpec := { name := "opcodeWrites", fn := fun _ => fun
  | [d1, d2] => { results := [.lit (.bool false)], args := [d1, d2] }
  | _ => none }
def OpcodeWritesWrongFalsely : Prop := opcodeWritesRow.holds Try.pinned (OpenSpec.ofChange opcodeWritesWrong)

/-- 'tabardlaw01.OpcodeOwn': WHATEVER THE INPUT: true; the input reads as it did. -/
def opcodeOwnSpec : ChangeSpec := { name := "opcodeOwn", fn := fun _ => fun
  | [d1, d2] => { results := [.lit (.bool true)], args := [d1, d2] }
  | _ => none }
def opcodeOwnRow : OpenClaim := { program := "yteiohpbghpmohaa", sum := "fbac235273a22884d188bbc106c6a33d9e67e58a034507032a9a9145f2eae6b0", func := "tabard/tabardlaw01.OpcodeOwn", spec := "opcodeOwn", unfollowed := true, recurses := true, apart := false }
def OpcodeOwnSaid : Prop := opcodeOwnRow.holds Try.pinned (OpenSpec.ofChange opcodeOwnSpec)

/-- ITS FALSE NEIGHBOUR: 'it returns false'. Refute it at one input. -/
def opcodeOwnWrong : ChangeSpec := { name := "opcodeOwn", fn := fun _ => fun
  | [d1, d2] => { results := [.lit (.bool false)], args := [d1, d2] }
  | _ => none }
def OpcodeOwnWrongFalsely : Prop := opcodeOwnRow.holds Try.pinned (OpenSpec.ofChange opcodeOwnWrong)

/- THE SECOND FORM. 'bulk': how many values and letters a reading holds, each counted each time it is reached (what is shared counts as often as it is met; a slice's spare places count too). A statement '..UptoSaid' is the law's where the arguments, and the package variables that the reading takes, are together of bulk at most 1048576: NARROWER than '..Said'. Prove '..Said' where nothing that the law and all that it calls make is longer than what came in: it says more and counts as full. Else prove '..UptoSaid'. A law counts once. -/
mutual
def uptoBulk {H : Type} : DataW H → Nat
  | .lit (.string bytes) => bytes.length + 1
  | .lit _ => 1
  | .nil => 1
  | .ptr d => uptoBulk d + 1
  | .slice elems spare => uptoBulkAll elems + uptoBulkAll spare + 1
  | .agg parts => uptoBulkAll parts + 1
  | .iface _ d => uptoBulk d + 1
  | .map entries => uptoBulkEntries entries + 1
  | .held _ => 1
def uptoBulkAll {H : Type} : List (DataW H) → Nat
  | [] => 0
  | d :: r => uptoBulk d + uptoBulkAll r
def uptoBulkEntries {H : Type} : List (Lit × DataW H) → Nat
  | [] => 0
  | x :: r => uptoBulkEntry x + uptoBulkEntries r
def uptoBulkEntry {H : Type} : Lit × DataW H → Nat
  | (.string bytes, d) => bytes.length + uptoBulk d + 1
  | (_, d) => uptoBulk d + 1
 end
def uptoSmall : (H : Type) → List (DataW H) → Bool := fun _ ds => decide (uptoBulkAll ds ≤ 1048576)
def OpenSpec.upto (s : _root_.Go.ChangeSpec) : _root_.Go.OpenSpec := { _root_.Go.OpenSpec.ofChange s with cond := some uptoSmall }

/-- 'tabardlaw01.OpcodeReads', WHERE WHAT IT READS IS OF BULK AT MOST 1048576: true; the input reads as it did. -/
def opcodeReadsUptoRow : OpenClaim := { program := "yteiohpbghpmohaa", sum := "fbac235273a22884d188bbc106c6a33d9e67e58a034507032a9a9145f2eae6b0", func := "tabard/tabardlaw01.OpcodeReads", spec := "opcodeReads", unfollowed := true, recurses := true, apart := false, narrowed := true }
def OpcodeReadsUptoSaid : Prop := opcodeReadsUptoRow.holds Try.pinned (OpenSpec.upto opcodeReadsSpec)

/-- 'tabardlaw01.OpcodeTable', WHERE WHAT IT READS IS OF BULK AT MOST 1048576: true; the input reads as it did. -/
def opcodeTableUptoRow : OpenClaim := { program := "yteiohpbghpmohaa", sum := "fbac235273a22884d188bbc106c6a33d9e67e58a034507032a9a9145f2eae6b0", func := "tabard/tabardlaw01.OpcodeTable", spec := "opcodeTable", unfollowed := true, recurses := true, apart := false, narrowed := true }
def OpcodeTableUptoSaid : Prop := opcodeTableUptoRow.holds Try.pinned (OpenSpec.upto opcodeTableSpec)

/-- 'tabardlaw01.OpcodeCuts', WHERE WHAT IT READS IS OF BULK AT MOST 1048576: true; the input reads as it did. -/
def opcodeCutsUptoRow : OpenClaim := { program := "yteiohpbghpmohaa", sum := "fbac235273a22884d188bbc106c6a33d9e67e58a034507032a9a9145f2eae6b0", func := "tabard/tabardlaw01.OpcodeCuts", spec := "opcodeCuts", unfollowed := true, recurses := true, apart := false, narrowed := true }
def OpcodeCutsUptoSaid : Prop := opcodeCutsUptoRow.holds Try.pinned (OpenSpec.upto opcodeCutsSpec)

/-- 'tabardlaw01.OpcodeFlow', WHERE WHAT IT READS IS OF BULK AT MOST 1048576: true; the input reads as it did. -/
def opcodeFlowUptoRow : OpenClaim := { program := "yteiohpbghpmohaa", sum := "fbac235273a22884d188bbc106c6a33d9e67e58a034507032a9a9145f2eae6b0", func := "tabard/tabardlaw01.OpcodeFlow", spec := "opcodeFlow", unfollowed := true, recurses := true, apart := false, narrowed := true }
def OpcodeFlowUptoSaid : Prop := opcodeFlowUptoRow.holds Try.pinned (OpenSpec.upto opcodeFlowSpec)

/-- 'tabardlaw01.OpcodeBack', WHERE WHAT IT READS IS OF BULK AT MOST 1048576: true; the input reads as it did. -/
def opcodeBackUptoRow : OpenClaim := { program := "yteiohpbghpmohaa", sum := "fbac235273a22884d188bbc106c6a33d9e67e58a034507032a9a9145f2eae6b0", func := "tabard/tabardlaw01.OpcodeBack", spec := "opcodeBack", unfollowed := true, recurses := true, apart := false, narrowed := true }
def OpcodeBackUptoSaid : Prop := opcodeBackUptoRow.holds Try.pinned (OpenSpec.upto opcodeBackSpec)

/-- 'tabardlaw01.OpcodeWrites', WHERE WHAT IT READS IS OF BULK AT MOST 1048576: true; the input reads as it did. -/
def opcodeWritesUptoRow : OpenClaim := { program := "yteiohpbghpmohaa", sum := "fbac235273a22884d188bbc106c6a33d9e67e58a034507032a9a9145f2eae6b0", func := "tabard/tabardlaw01.OpcodeWrites", spec := "opcodeWrites", unfollowed := true, recurses := true, apart := false, narrowed := true }
def OpcodeWritesUptoSaid : Prop := opcodeWritesUptoRow.holds Try.pinned (OpenSpec.upto opcodeWritesSpec)

/-- 'tabardlaw01.OpcodeOwn', WHERE WHAT IT READS IS OF BULK AT MOST 1048576: true; the input reads as it did. -/
def opcodeOwnUptoRow : OpenClaim := { program := "yteiohpbghpmohaa", sum := "fbac235273a22884d188bbc106c6a33d9e67e58a034507032a9a9145f2eae6b0", func := "tabard/tabardlaw01.OpcodeOwn", spec := "opcodeOwn", unfollowed := true, recurses := true, apart := false, narrowed := true }
def OpcodeOwnUptoSaid : Prop := opcodeOwnUptoRow.holds Try.pinned (OpenSpec.upto opcodeOwnSpec)

end Rows
end Go.Proofs.Yteiohpbghpmohaa
