/-
  No cell of these rows narrows 'for every input' (looked for: loops, veiled, ifaces, maps, wideKeys, modest, calm, conditions, laid).
  DERIVED. THE GIVEN ROWS OF THIS SEAT. 4 by the template 'for every input the law returns true; each argument reads behind the call as it read before'; 0 by the template 'total and deterministic' (their statements: YtbeinggdiiikcaaTotals.lean).
  GIVEN WITH THE SEED: the statements are not yours to turn. If you find one false, say at which input.
  Laid BY PROGRAM, IN A SANDBOX (cutbox-rows.mjs): the forced cells as the released guide's own fill.sh prints them over the translation 4bfbbb15a6fbad68… (all of the seat's roots in one cut). By AI agents, Wed Nov 11 2026. No macro, syntax, notation, axiom, sorry.
-/
import Derived.Test.YtbeinggdiiikcaaChecked
import GoSem.Claim
import GoSem.ClaimJoined
import GoSem.ClaimMapViews
import Derived.JoinedTies
import Derived.KernelRfl
namespace Go.Proofs.Ytbeinggdiiikcaa
/- THE CELL 'sum', in the pinned program and in every row, IS THE sha256 OF THE DUMP (.gsa) THAT YtbeinggdiiikcaaProg.lean LOADS. Nothing in Lean hashes anything: it is a label: what it is worth is what the hold of that sum in a sandbox is worth. -/
noncomputable def Try.pinned : Pinned := { name := "ytbeinggdiiikcaa", sum := "4bfbbb15a6fbad6894dfc8f8bd064bfd314d7678a38f99a1a0d6b1d2ccdd05fb", checked := Try.checked }
namespace Rows
def none {H : Type} : Left H := { results := [], args := [] }

/-- 'tabardlaw06.HeapLimit': WHATEVER THE INPUT: true; the input reads as it did. -/
def heapLimitSpec : ChangeSpec := { name := "heapLimit", fn := fun _ => fun
  | [d1, d2] => { results := [.lit (.bool true)], args := [d1, d2] }
  | _ => none }
def heapLimitRow : OpenClaim := { program := "ytbeinggdiiikcaa", sum := "4bfbbb15a6fbad6894dfc8f8bd064bfd314d7678a38f99a1a0d6b1d2ccdd05fb", func := "tabard/tabardlaw06.HeapLimit", spec := "heapLimit", plainKeys := false, apart := false }
def HeapLimitSaid : Prop := heapLimitRow.holds Try.pinned (OpenSpec.ofChange heapLimitSpec)

/-- ITS FALSE NEIGHBOUR: 'it returns false'. Refute it at one input. -/
def heapLimitWrong : ChangeSpec := { name := "heapLimit", fn := fun _ => fun
  | [d1, d2] => { results := [.lit (.bool false)], args := [d1, d2] }
  | _ => none }
def HeapLimitWrongFalsely : Prop := heapLimitRow.holds Try.pinned (OpenSpec.ofChange heapLimitWrong)

/-- 'tabardlaw06.HeapCells': WHATEVER THE INPUT: true; the input reads as it did. -/
def heapCellsSpec : ChangeSpec := { name := "heapCells", fn := fun _ => fun
  | [d1, d2] => { results := [.lit (.bool true)], args := [d1, d2] }
  | _ => none }
def heapCellsRow : OpenClaim := { program := "ytbeinggdiiikcaa", sum := "4bfbbb15a6fbad6894dfc8f8bd064bfd314d7678a38f99a1a0d6b1d2ccdd05fb", func := "tabard/tabardlaw06.HeapCells", spec := "heapCells", plainKeys := false, apart := false }
def HeapCellsSaid : Prop := heapCellsRow.holds Try.pinned (OpenSpec.ofChange heapCellsSpec)

/-- ITS FALSE NEIGHBOUR: 'it returns false'. Refute it at one input. -/
def heapCellsWrong : ChangeSpec := { name := "heapCells", fn := fun _ => fun
  | [d1, d2] => { results := [.lit (.bool false)], args := [d1, d2] }
  | _ => none }
def HeapCellsWrongFalsely : Prop := heapCellsRow.holds Try.pinned (OpenSpec.ofChange heapCellsWrong)

/-- 'tabardlaw06.HeapDoes': WHATEVER THE INPUT: true; the input reads as it did. -/
def heapDoesSpec : ChangeSpec := { name := "heapDoes", fn := fun _ => fun
  | [d1, d2] => { results := [.lit (.bool true)], args := [d1, d2] }
  | _ => none }
def heapDoesRow : OpenClaim := { program := "ytbeinggdiiikcaa", sum := "4bfbbb15a6fbad6894dfc8f8bd064bfd314d7678a38f99a1a0d6b1d2ccdd05fb", func := "tabard/tabardlaw06.HeapDoes", spec := "heapDoes", unfollowed := true, recurses := true, plainKeys := false, apart := false }
def HeapDoesSaid : Prop := heapDoesRow.holds Try.pinned (OpenSpec.ofChange heapDoesSpec)

/-- ITS FALSE NEIGHBOUR: 'it returns false'. Refute it at one input. -/
def heapDoesWrong : ChangeSpec := { name := "heapDoes", fn := fun _ => fun
  | [d1, d2] => { results := [.lit (.bool false)], args := [d1, d2] }
  | _ => none }
def HeapDoesWrongFalsely : Prop := heapDoesRow.holds Try.pinned (OpenSpec.ofChange heapDoesWrong)

/-- 'tabardlaw06.HeapNone': WHATEVER THE INPUT: true; the input reads as it did. -/
def heapNoneSpec : ChangeSpec := { name := "heapNone", fn := fun _ => fun
  | [d] => { results := [.lit (.bool true)], args := [d] }
  | _ => none }
def heapNoneRow : OpenClaim := { program := "ytbeinggdiiikcaa", sum := "4bfbbb15a6fbad6894dfc8f8bd064bfd314d7678a38f99a1a0d6b1d2ccdd05fb", func := "tabard/tabardlaw06.HeapNone", spec := "heapNone", unfollowed := true, recurses := true, plainKeys := false, apart := false }
def HeapNoneSaid : Prop := heapNoneRow.holds Try.pinned (OpenSpec.ofChange heapNoneSpec)

/-- ITS FALSE NEIGHBOUR: 'it returns false'. Refute it at one input. -/
def heapNoneWrong : ChangeSpec := { name := "heapNone", fn := fun _ => fun
  | [d] => { results := [.lit (.bool false)], args := [d] }
  | _ => none }
def HeapNoneWrongFalsely : Prop := heapNoneRow.holds Try.pinned (OpenSpec.ofChange heapNoneWrong)

/- THE SECOND FORM. 'bulk': how many values and letters a reading holds, each counted each time it is reached (what is shared counts as often as it is met; a slice's spare places count too). A statement '..UptoSaid' is the law's where the arguments, and the package variables that the reading takes, are together of bulk at most 1048576: NARROWER than '..Said'. Prove '..Said' where nothing that the law and all that it calls make is longer than what came in: it says more and counts as full. Else prove '..UptoSaid'. A law counts once. -/
mutual
def uptoBulk {H : Type} : DataW H → Nat
  | .lit (.string bytes) => bytes.length + 1
  | .lit _ => 1
  | .nil => 1
  | .ptr d => uptoBulk d + 1
  | .slice elems spare => uptoBulkAll elems + uptoBulkAll spare + 1
  | .agg parts => uptoBulkAll parts + 1
  | .iface _ d => uptoBulk d + 1
  | .map entries => uptoBulkEntries entries + 1
  | .held _ => 1
def uptoBulkAll {H : Type} : List (DataW H) → Nat
  | [] => 0
  | d :: r => uptoBulk d + uptoBulkAll r
def uptoBulkEntries {H : Type} : List (Lit × DataW H) → Nat
  | [] => 0
  | x :: r => uptoBulkEntry x + uptoBulkEntries r
def uptoBulkEntry {H : Type} : Lit × DataW H → Nat
  | (.string bytes, d) => bytes.length + uptoBulk d + 1
  | (_, d) => uptoBulk d + 1
 end
def uptoSmall : (H : Type) → List (DataW H) → Bool := fun _ ds => decide (uptoBulkAll ds ≤ 1048576)
def OpenSpec.upto (s : _root_.Go.ChangeSpec) : _root_.Go.OpenSpec := { _root_.Go.OpenSpec.ofChange s with cond := some uptoSmall }

/-- 'tabardlaw06.HeapLimit', WHERE WHAT IT READS IS OF BULK AT MOST 1048576: true; the input reads as it did. -/
def heapLimitUptoRow : OpenClaim := { program := "ytbeinggdiiikcaa", sum := "4bfbbb15a6fbad6894dfc8f8bd064bfd314d7678a38f99a1a0d6b1d2ccdd05fb", func := "tabard/tabardlaw06.HeapLimit", spec := "heapLimit", plainKeys := false, apart := false, narrowed := true }
def HeapLimitUptoSaid : Prop := heapLimitUptoRow.holds Try.pinned (OpenSpec.upto heapLimitSpec)

/-- 'tabardlaw06.HeapCells', WHERE WHAT IT READS IS OF BULK AT MOST 1048576: true; the input reads as it did. -/
def heapCellsUptoRow : OpenClaim := { program := "ytbeinggdiiikcaa", sum := "4bfbbb15a6fbad6894dfc8f8bd064bfd314d7678a38f99a1a0d6b1d2ccdd05fb", func := "tabard/tabardlaw06.HeapCells", spec := "heapCells", plainKeys := false, apart := false, narrowed := true }
def HeapCellsUptoSaid : Prop := heapCellsUptoRow.holds Try.pinned (OpenSpec.upto heapCellsSpec)

/-- 'tabardlaw06.HeapDoes', WHERE WHAT IT READS IS OF BULK AT MOST 1048576: true; the input reads as it did. -/
def heapDoesUptoRow : OpenClaim := { program := "ytbeinggdiiikcaa", sum := "4bfbbb15a6fbad6894dfc8f8bd064bfd314d7678a38f99a1a0d6b1d2ccdd05fb", func := "tabard/tabardlaw06.HeapDoes", spec := "heapDoes", unfollowed := true, recurses := true, plainKeys := false, apart := false, narrowed := true }
def HeapDoesUptoSaid : Prop := heapDoesUptoRow.holds Try.pinned (OpenSpec.upto heapDoesSpec)

/-- 'tabardlaw06.HeapNone', WHERE WHAT IT READS IS OF BULK AT MOST 1048576: true; the input reads as it did. -/
def heapNoneUptoRow : OpenClaim := { program := "ytbeinggdiiikcaa", sum := "4bfbbb15a6fbad6894dfc8f8bd064bfd314d7678a38f99a1a0d6b1d2ccdd05fb", func := "tabard/tabardlaw06.HeapNone", spec := "heapNone", unfollowed := true, recurses := true, plainKeys := false, apart := false, narrowed := true }
def HeapNoneUptoSaid : Prop := heapNoneUptoRow.holds Try.pinned (OpenSpec.upto heapNoneSpec)

end Rows
end Go.Proofs.Ytbeinggdiiikcaa
