/-
  No cell of these rows narrows 'for every input' (looked for: loops, veiled, ifaces, maps, wideKeys, modest, calm, conditions, laid).
  DERIVED. THE GIVEN ROWS OF THIS SEAT. 7 by the template 'for every input the law returns true; each argument reads behind the call as it read before'; 0 by the template 'total and deterministic' (their statements: YtccagiflocnioaaTotals.lean).
  GIVEN WITH THE SEED: the statements are not yours to turn. If you find one false, say at which input.
  Laid BY PROGRAM, IN A SANDBOX (cutbox-rows.mjs): the forced cells as the released guide's own fill.sh prints them over the translation af6cc23fb663680b… (all of the seat's roots in one cut). By AI agents, Wed Nov 11 2026. No macro, syntax, notation, axiom, sorry.
-/
import Derived.Test.YtccagiflocnioaaChecked
import GoSem.Claim
import GoSem.ClaimJoined
import GoSem.ClaimMapViews
import Derived.JoinedTies
import Derived.KernelRfl
namespace Go.Proofs.Ytccagiflocnioaa
/- THE CELL 'sum', in the pinned program and in every row, IS THE sha256 OF THE DUMP (.gsa) THAT YtccagiflocnioaaProg.lean LOADS. Nothing in Lean hashes anything: it is a label: what it is worth is what the hold of that sum in a sandbox is worth. -/
noncomputable def Try.pinned : Pinned := { name := "ytccagiflocnioaa", sum := "af6cc23fb663680b7f3d7e049d764fd216be4ac8d343b8eb64fe8ea58ecdc781", checked := Try.checked }
namespace Rows
def none {H : Type} : Left H := { results := [], args := [] }

/-- 'tabardlaw03.CpoolReads': WHATEVER THE INPUT: true; the input reads as it did. -/
def cpoolReadsSpec : ChangeSpec := { name := "cpoolReads", fn := fun _ => fun
  | [d] => { results := [.lit (.bool true)], args := [d] }
  | _ => none }
def cpoolReadsRow : OpenClaim := { program := "ytccagiflocnioaa", sum := "af6cc23fb663680b7f3d7e049d764fd216be4ac8d343b8eb64fe8ea58ecdc781", func := "tabard/tabardlaw03.CpoolReads", spec := "cpoolReads", unfollowed := true, recurses := true, apart := false }
def CpoolReadsSaid : Prop := cpoolReadsRow.holds Try.pinned (OpenSpec.ofChange cpoolReadsSpec)

/-- ITS FALSE NEIGHBOUR: 'it returns false'. Refute it at one input. -/
def cpoolReadsWrong : ChangeSpec := { name := "cpoolReads", fn := fun _ => fun
  | [d] => { results := [.lit (.bool false)], args := [d] }
  | _ => none }
def CpoolReadsWrongFalsely : Prop := cpoolReadsRow.holds Try.pinned (OpenSpec.ofChange cpoolReadsWrong)

/-- 'tabardlaw03.CpoolWrites': WHATEVER THE INPUT: true; the input reads as it did. -/
def cpoolWritesSpec : ChangeSpec := { name := "cpoolWrites", fn := fun _ => fun
  | [d] => { results := [.lit (.bool true)], args := [d] }
  | _ => none }
def cpoolWritesRow : OpenClaim := { program := "ytccagiflocnioaa", sum := "af6cc23fb663680b7f3d7e049d764fd216be4ac8d343b8eb64fe8ea58ecdc781", func := "tabard/tabardlaw03.CpoolWrites", spec := "cpoolWrites", unfollowed := true, recurses := true, apart := false }
def CpoolWritesSaid : Prop := cpoolWritesRow.holds Try.pinned (OpenSpec.ofChange cpoolWritesSpec)

/-- ITS FALSE NEIGHBOUR: 'it returns false'. Refute it at one input. -/
def cpoolWritesWrong : ChangeSpec := { name := "cpoolWrites", fn := fun _ => fun
  | [d] => { results := [.lit (.bool false)], args := [d] }
  | _ => none }
def CpoolWritesWrongFalsely : Prop := cpoolWritesRow.holds Try.pinned (OpenSpec.ofChange cpoolWritesWrong)

/-- 'tabardlaw03.CpoolBack': WHATEVER THE INPUT: true; the input reads as it did. -/
def cpoolBackSpec : ChangeSpec := { name := "cpoolBack", fn := fun _ => fun
  | [d1, d2, d3] => { results := [.lit (.bool true)], args := [d1, d2, d3] }
  | _ => none }
def cpoolBackRow : OpenClaim := { program := "ytccagiflocnioaa", sum := "af6cc23fb663680b7f3d7e049d764fd216be4ac8d343b8eb64fe8ea58ecdc781", func := "tabard/tabardlaw03.CpoolBack", spec := "cpoolBack", unfollowed := true, recurses := true, apart := false }
def CpoolBackSaid : Prop := cpoolBackRow.holds Try.pinned (OpenSpec.ofChange cpoolBackSpec)

/-- ITS FALSE NEIGHBOUR: 'it returns false'. Refute it at one input. -/
def cpoolBackWrong : ChangeSpec := { name := "cpoolBack", fn := fun _ => fun
  | [d1, d2, d3] => { results := [.lit (.bool false)], args := [d1, d2, d3] }
  | _ => none }
def CpoolBackWrongFalsely : Prop := cpoolBackRow.holds Try.pinned (OpenSpec.ofChange cpoolBackWrong)

/-- 'tabardlaw03.CpoolNames': WHATEVER THE INPUT: true; the input reads as it did. -/
def cpoolNamesSpec : ChangeSpec := { name := "cpoolNames", fn := fun _ => fun
  | [d1, d2, d3] => { results := [.lit (.bool true)], args := [d1, d2, d3] }
  | _ => none }
def cpoolNamesRow : OpenClaim := { program := "ytccagiflocnioaa", sum := "af6cc23fb663680b7f3d7e049d764fd216be4ac8d343b8eb64fe8ea58ecdc781", func := "tabard/tabardlaw03.CpoolNames", spec := "cpoolNames", unfollowed := true, recurses := true, apart := false }
def CpoolNamesSaid : Prop := cpoolNamesRow.holds Try.pinned (OpenSpec.ofChange cpoolNamesSpec)

/-- ITS FALSE NEIGHBOUR: 'it returns false'. Refute it at one input. -/
def cpoolNamesWrong : ChangeSpec := { name := "cpoolNames", fn := fun _ => fun
  | [d1, d2, d3] => { results := [.lit (.bool false)], args := [d1, d2, d3] }
  | _ => none }
def CpoolNamesWrongFalsely : Prop := cpoolNamesRow.holds Try.pinned (OpenSpec.ofChange cpoolNamesWrong)

/-- 'tabardlaw03.CpoolAdds': WHATEVER THE INPUT: true; the input reads as it did. -/
def cpoolAddsSpec : ChangeSpec := { name := "cpoolAdds", fn := fun _ => fun
  | [d1, d2, d3] => { results := [.lit (.bool true)], args := [d1, d2, d3] }
  | _ => none }
def cpoolAddsRow : OpenClaim := { program := "ytccagiflocnioaa", sum := "af6cc23fb663680b7f3d7e049d764fd216be4ac8d343b8eb64fe8ea58ecdc781", func := "tabard/tabardlaw03.CpoolAdds", spec := "cpoolAdds", unfollowed := true, recurses := true, apart := false }
def CpoolAddsSaid : Prop := cpoolAddsRow.holds Try.pinned (OpenSpec.ofChange cpoolAddsSpec)

/-- ITS FALSE NEIGHBOUR: 'it returns false'. Refute it at one input. -/
def cpoolAddsWrong : ChangeSpec := { name := "cpoolAdds", fn := fun _ => fun
  | [d1, d2, d3] => { results := [.lit (.bool false)], args := [d1, d2, d3] }
  | _ => none }
def CpoolAddsWrongFalsely : Prop := cpoolAddsRow.holds Try.pinned (OpenSpec.ofChange cpoolAddsWrong)

/-- 'tabardlaw03.CpoolGrows': WHATEVER THE INPUT: true; the input reads as it did. -/
def cpoolGrowsSpec : ChangeSpec := { name := "cpoolGrows", fn := fun _ => fun
  | [d1, d2] => { results := [.lit (.bool true)], args := [d1, d2] }
  | _ => none }
def cpoolGrowsRow : OpenClaim := { program := "ytccagiflocnioaa", sum := "af6cc23fb663680b7f3d7e049d764fd216be4ac8d343b8eb64fe8ea58ecdc781", func := "tabard/tabardlaw03.CpoolGrows", spec := "cpoolGrows", unfollowed := true, recurses := true, apart := false }
def CpoolGrowsSaid : Prop := cpoolGrowsRow.holds Try.pinned (OpenSpec.ofChange cpoolGrowsSpec)

/-- ITS FALSE NEIGHBOUR: 'it returns false'. Refute it at one input. -/
def cpoolGrowsWrong : ChangeSpec := { name := "cpoolGrows", fn := fun _ => fun
  | [d1, d2] => { results := [.lit (.bool false)], args := [d1, d2] }
  | _ => none }
def CpoolGrowsWrongFalsely : Prop := cpoolGrowsRow.holds Try.pinned (OpenSpec.ofChange cpoolGrowsWrong)

/-- 'tabardlaw03.CpoolOwn': WHATEVER THE INPUT: true; the input reads as it did. -/
def cpoolOwnSpec : ChangeSpec := { name := "cpoolOwn", fn := fun _ => fun
  | [d1, d2] => { results := [.lit (.bool true)], args := [d1, d2] }
  | _ => none }
def cpoolOwnRow : OpenClaim := { program := "ytccagiflocnioaa", sum := "af6cc23fb663680b7f3d7e049d764fd216be4ac8d343b8eb64fe8ea58ecdc781", func := "tabard/tabardlaw03.CpoolOwn", spec := "cpoolOwn", unfollowed := true, recurses := true, apart := false }
def CpoolOwnSaid : Prop := cpoolOwnRow.holds Try.pinned (OpenSpec.ofChange cpoolOwnSpec)

/-- ITS FALSE NEIGHBOUR: 'it returns false'. Refute it at one input. -/
def cpoolOwnWrong : ChangeSpec := { name := "cpoolOwn", fn := fun _ => fun
  | [d1, d2] => { results := [.lit (.bool false)], args := [d1, d2] }
  | _ => none }
def CpoolOwnWrongFalsely : Prop := cpoolOwnRow.holds Try.pinned (OpenSpec.ofChange cpoolOwnWrong)

/- THE SECOND FORM. 'bulk': how many values and letters a reading holds, each counted each time it is reached (what is shared counts as often as it is met; a slice's spare places count too). A statement '..UptoSaid' is the law's where the arguments, and the package variables that the reading takes, are together of bulk at most 1048576: NARROWER than '..Said'. Prove '..Said' where nothing that the law and all that it calls make is longer than what came in: it says more and counts as full. Else prove '..UptoSaid'. A law counts once. -/
mutual
def uptoBulk {H : Type} : DataW H → Nat
  | .lit (.string bytes) => bytes.length + 1
  | .lit _ => 1
  | .nil => 1
  | .ptr d => uptoBulk d + 1
  | .slice elems spare => uptoBulkAll elems + uptoBulkAll spare + 1
  | .agg parts => uptoBulkAll parts + 1
  | .iface _ d => uptoBulk d + 1
  | .map entries => uptoBulkEntries entries + 1
  | .held _ => 1
def uptoBulkAll {H : Type} : List (DataW H) → Nat
  | [] => 0
  | d :: r => uptoBulk d + uptoBulkAll r
def uptoBulkEntries {H : Type} : List (Lit × DataW H) → Nat
  | [] => 0
  | x :: r => uptoBulkEntry x + uptoBulkEntries r
def uptoBulkEntry {H : Type} : Lit × DataW H → Nat
  | (.string bytes, d) => bytes.length + uptoBulk d + 1
  | (_, d) => uptoBulk d + 1
 end
def uptoSmall : (H : Type) → List (DataW H) → Bool := fun _ ds => decide (uptoBulkAll ds ≤ 1048576)
def OpenSpec.upto (s : _root_.Go.ChangeSpec) : _root_.Go.OpenSpec := { _root_.Go.OpenSpec.ofChange s with cond := some uptoSmall }

/-- 'tabardlaw03.CpoolReads', WHERE WHAT IT READS IS OF BULK AT MOST 1048576: true; the input reads as it did. -/
def cpoolReadsUptoRow : OpenClaim := { program := "ytccagiflocnioaa", sum := "af6cc23fb663680b7f3d7e049d764fd216be4ac8d343b8eb64fe8ea58ecdc781", func := "tabard/tabardlaw03.CpoolReads", spec := "cpoolReads", unfollowed := true, recurses := true, apart := false, narrowed := true }
def CpoolReadsUptoSaid : Prop := cpoolReadsUptoRow.holds Try.pinned (OpenSpec.upto cpoolReadsSpec)

/-- 'tabardlaw03.CpoolWrites', WHERE WHAT IT READS IS OF BULK AT MOST 1048576: true; the input reads as it did. -/
def cpoolWritesUptoRow : OpenClaim := { program := "ytccagiflocnioaa", sum := "af6cc23fb663680b7f3d7e049d764fd216be4ac8d343b8eb64fe8ea58ecdc781", func := "tabard/tabardlaw03.CpoolWrites", spec := "cpoolWrites", unfollowed := true, recurses := true, apart := false, narrowed := true }
def CpoolWritesUptoSaid : Prop := cpoolWritesUptoRow.holds Try.pinned (OpenSpec.upto cpoolWritesSpec)

/-- 'tabardlaw03.CpoolBack', WHERE WHAT IT READS IS OF BULK AT MOST 1048576: true; the input reads as it did. -/
def cpoolBackUptoRow : OpenClaim := { program := "ytccagiflocnioaa", sum := "af6cc23fb663680b7f3d7e049d764fd216be4ac8d343b8eb64fe8ea58ecdc781", func := "tabard/tabardlaw03.CpoolBack", spec := "cpoolBack", unfollowed := true, recurses := true, apart := false, narrowed := true }
def CpoolBackUptoSaid : Prop := cpoolBackUptoRow.holds Try.pinned (OpenSpec.upto cpoolBackSpec)

/-- 'tabardlaw03.CpoolNames', WHERE WHAT IT READS IS OF BULK AT MOST 1048576: true; the input reads as it did. -/
def cpoolNamesUptoRow : OpenClaim := { program := "ytccagiflocnioaa", sum := "af6cc23fb663680b7f3d7e049d764fd216be4ac8d343b8eb64fe8ea58ecdc781", func := "tabard/tabardlaw03.CpoolNames", spec := "cpoolNames", unfollowed := true, recurses := true, apart := false, narrowed := true }
def CpoolNamesUptoSaid : Prop := cpoolNamesUptoRow.holds Try.pinned (OpenSpec.upto cpoolNamesSpec)

/-- 'tabardlaw03.CpoolAdds', WHERE WHAT IT READS IS OF BULK AT MOST 1048576: true; the input reads as it did. -/
def cpoolAddsUptoRow : OpenClaim := { program := "ytccagiflocnioaa", sum := "af6cc23fb663680b7f3d7e049d764fd216be4ac8d343b8eb64fe8ea58ecdc781", func := "tabard/tabardlaw03.CpoolAdds", spec := "cpoolAdds", unfollowed := true, recurses := true, apart := false, narrowed := true }
def CpoolAddsUptoSaid : Prop := cpoolAddsUptoRow.holds Try.pinned (OpenSpec.upto cpoolAddsSpec)

/-- 'tabardlaw03.CpoolGrows', WHERE WHAT IT READS IS OF BULK AT MOST 1048576: true; the input reads as it did. -/
def cpoolGrowsUptoRow : OpenClaim := { program := "ytccagiflocnioaa", sum := "af6cc23fb663680b7f3d7e049d764fd216be4ac8d343b8eb64fe8ea58ecdc781", func := "tabard/tabardlaw03.CpoolGrows", spec := "cpoolGrows", unfollowed := true, recurses := true, apart := false, narrowed := true }
def CpoolGrowsUptoSaid : Prop := cpoolGrowsUptoRow.holds Try.pinned (OpenSpec.upto cpoolGrowsSpec)

/-- 'tabardlaw03.CpoolOwn', WHERE WHAT IT READS IS OF BULK AT MOST 1048576: true; the input reads as it did. -/
def cpoolOwnUptoRow : OpenClaim := { program := "ytccagiflocnioaa", sum := "af6cc23fb663680b7f3d7e049d764fd216be4ac8d343b8eb64fe8ea58ecdc781", func := "tabard/tabardlaw03.CpoolOwn", spec := "cpoolOwn", unfollowed := true, recurses := true, apart := false, narrowed := true }
def CpoolOwnUptoSaid : Prop := cpoolOwnUptoRow.holds Try.pinned (OpenSpec.upto cpoolOwnSpec)

end Rows
end Go.Proofs.Ytccagiflocnioaa
