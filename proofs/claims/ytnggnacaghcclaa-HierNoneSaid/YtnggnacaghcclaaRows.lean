/-
  No cell of these rows narrows 'for every input' (looked for: loops, veiled, ifaces, maps, wideKeys, modest, calm, conditions, laid).
  DERIVED. THE GIVEN ROWS OF THIS SEAT. 4 by the template 'for every input the law returns true; each argument reads behind the call as it read before'; 0 by the template 'total and deterministic' (their statements: YtnggnacaghcclaaTotals.lean).
  GIVEN WITH THE SEED: the statements are not yours to turn. If you find one false, say at which input.
  Laid BY PROGRAM, IN A SANDBOX (cutbox-rows.mjs): the forced cells as the released guide's own fill.sh prints them over the translation 4a7e36bfb1204360… (all of the seat's roots in one cut). By AI agents, Wed Nov 11 2026. No macro, syntax, notation, axiom, sorry.
-/
import Derived.Test.YtnggnacaghcclaaChecked
import GoSem.Claim
import GoSem.ClaimJoined
import GoSem.ClaimMapViews
import Derived.JoinedTies
import Derived.KernelRfl
namespace Go.Proofs.Ytnggnacaghcclaa
/- THE CELL 'sum', in the pinned program and in every row, IS THE sha256 OF THE DUMP (.gsa) THAT YtnggnacaghcclaaProg.lean LOADS. Nothing in Lean hashes anything: it is a label: what it is worth is what the hold of that sum in a sandbox is worth. -/
noncomputable def Try.pinned : Pinned := { name := "ytnggnacaghcclaa", sum := "4a7e36bfb1204360c1a1ce963b83a1bbeb0e7d0440ec722e6be10c0022eae432", checked := Try.checked }
namespace Rows
def none {H : Type} : Left H := { results := [], args := [] }

/-- 'tabardlaw07.HierOrder': WHATEVER THE INPUT: true; the input reads as it did. -/
def hierOrderSpec : ChangeSpec := { name := "hierOrder", fn := fun _ => fun
  | [d] => { results := [.lit (.bool true)], args := [d] }
  | _ => none }
def hierOrderRow : OpenClaim := { program := "ytnggnacaghcclaa", sum := "4a7e36bfb1204360c1a1ce963b83a1bbeb0e7d0440ec722e6be10c0022eae432", func := "tabard/tabardlaw07.HierOrder", spec := "hierOrder", apart := false }
def HierOrderSaid : Prop := hierOrderRow.holds Try.pinned (OpenSpec.ofChange hierOrderSpec)

/-- ITS FALSE NEIGHBOUR: 'it returns false'. Refute it at one input. -/
def hierOrderWrong : ChangeSpec := { name := "hierOrder", fn := fun _ => fun
  | [d] => { results := [.lit (.bool false)], args := [d] }
  | _ => none }
def HierOrderWrongFalsely : Prop := hierOrderRow.holds Try.pinned (OpenSpec.ofChange hierOrderWrong)

/-- 'tabardlaw07.HierLeast': WHATEVER THE INPUT: true; the input reads as it did. -/
def hierLeastSpec : ChangeSpec := { name := "hierLeast", fn := fun _ => fun
  | [d1, d2] => { results := [.lit (.bool true)], args := [d1, d2] }
  | _ => none }
def hierLeastRow : OpenClaim := { program := "ytnggnacaghcclaa", sum := "4a7e36bfb1204360c1a1ce963b83a1bbeb0e7d0440ec722e6be10c0022eae432", func := "tabard/tabardlaw07.HierLeast", spec := "hierLeast", apart := false }
def HierLeastSaid : Prop := hierLeastRow.holds Try.pinned (OpenSpec.ofChange hierLeastSpec)

/-- ITS FALSE NEIGHBOUR: 'it returns false'. Refute it at one input. -/
def hierLeastWrong : ChangeSpec := { name := "hierLeast", fn := fun _ => fun
  | [d1, d2] => { results := [.lit (.bool false)], args := [d1, d2] }
  | _ => none }
def HierLeastWrongFalsely : Prop := hierLeastRow.holds Try.pinned (OpenSpec.ofChange hierLeastWrong)

/-- 'tabardlaw07.HierAsks': WHATEVER THE INPUT: true; the input reads as it did. -/
def hierAsksSpec : ChangeSpec := { name := "hierAsks", fn := fun _ => fun
  | [d1, d2] => { results := [.lit (.bool true)], args := [d1, d2] }
  | _ => none }
def hierAsksRow : OpenClaim := { program := "ytnggnacaghcclaa", sum := "4a7e36bfb1204360c1a1ce963b83a1bbeb0e7d0440ec722e6be10c0022eae432", func := "tabard/tabardlaw07.HierAsks", spec := "hierAsks", unfollowed := true, recurses := true, apart := false }
def HierAsksSaid : Prop := hierAsksRow.holds Try.pinned (OpenSpec.ofChange hierAsksSpec)

/-- ITS FALSE NEIGHBOUR: 'it returns false'. Refute it at one input. -/
def hierAsksWrong : ChangeSpec := { name := "hierAsks", fn := fun _ => fun
  | [d1, d2] => { results := [.lit (.bool false)], args := [d1, d2] }
  | _ => none }
def HierAsksWrongFalsely : Prop := hierAsksRow.holds Try.pinned (OpenSpec.ofChange hierAsksWrong)

/-- 'tabardlaw07.HierNone': WHATEVER THE INPUT: true; the input reads as it did. -/
def hierNoneSpec : ChangeSpec := { name := "hierNone", fn := fun _ => fun
  | [d1, d2] => { results := [.lit (.bool true)], args := [d1, d2] }
  | _ => none }
def hierNoneRow : OpenClaim := { program := "ytnggnacaghcclaa", sum := "4a7e36bfb1204360c1a1ce963b83a1bbeb0e7d0440ec722e6be10c0022eae432", func := "tabard/tabardlaw07.HierNone", spec := "hierNone", unfollowed := true, recurses := true, apart := false }
def HierNoneSaid : Prop := hierNoneRow.holds Try.pinned (OpenSpec.ofChange hierNoneSpec)

/-- ITS FALSE NEIGHBOUR: 'it returns false'. Refute it at one input. -/
def hierNoneWrong : ChangeSpec := { name := "hierNone", fn := fun _ => fun
  | [d1, d2] => { results := [.lit (.bool false)], args := [d1, d2] }
  | _ => none }
def HierNoneWrongFalsely : Prop := hierNoneRow.holds Try.pinned (OpenSpec.ofChange hierNoneWrong)

/- THE SECOND FORM. 'bulk': how many values and letters a reading holds, each counted each time it is reached (what is shared counts as often as it is met; a slice's spare places count too). A statement '..UptoSaid' is the law's where the arguments, and the package variables that the reading takes, are together of bulk at most 1048576: NARROWER than '..Said'. Prove '..Said' where nothing that the law and all that it calls make is longer than what came in: it says more and counts as full. Else prove '..UptoSaid'. A law counts once. -/
mutual
def uptoBulk {H : Type} : DataW H → Nat
  | .lit (.string bytes) => bytes.length + 1
  | .lit _ => 1
  | .nil => 1
  | .ptr d => uptoBulk d + 1
  | .slice elems spare => uptoBulkAll elems + uptoBulkAll spare + 1
  | .agg parts => uptoBulkAll parts + 1
  | .iface _ d => uptoBulk d + 1
  | .map entries => uptoBulkEntries entries + 1
  | .held _ => 1
def uptoBulkAll {H : Type} : List (DataW H) → Nat
  | [] => 0
  | d :: r => uptoBulk d + uptoBulkAll r
def uptoBulkEntries {H : Type} : List (Lit × DataW H) → Nat
  | [] => 0
  | x :: r => uptoBulkEntry x + uptoBulkEntries r
def uptoBulkEntry {H : Type} : Lit × DataW H → Nat
  | (.string bytes, d) => bytes.length + uptoBulk d + 1
  | (_, d) => uptoBulk d + 1
 end
def uptoSmall : (H : Type) → List (DataW H) → Bool := fun _ ds => decide (uptoBulkAll ds ≤ 1048576)
def OpenSpec.upto (s : _root_.Go.ChangeSpec) : _root_.Go.OpenSpec := { _root_.Go.OpenSpec.ofChange s with cond := some uptoSmall }

/-- 'tabardlaw07.HierOrder', WHERE WHAT IT READS IS OF BULK AT MOST 1048576: true; the input reads as it did. -/
def hierOrderUptoRow : OpenClaim := { program := "ytnggnacaghcclaa", sum := "4a7e36bfb1204360c1a1ce963b83a1bbeb0e7d0440ec722e6be10c0022eae432", func := "tabard/tabardlaw07.HierOrder", spec := "hierOrder", apart := false, narrowed := true }
def HierOrderUptoSaid : Prop := hierOrderUptoRow.holds Try.pinned (OpenSpec.upto hierOrderSpec)

/-- 'tabardlaw07.HierLeast', WHERE WHAT IT READS IS OF BULK AT MOST 1048576: true; the input reads as it did. -/
def hierLeastUptoRow : OpenClaim := { program := "ytnggnacaghcclaa", sum := "4a7e36bfb1204360c1a1ce963b83a1bbeb0e7d0440ec722e6be10c0022eae432", func := "tabard/tabardlaw07.HierLeast", spec := "hierLeast", apart := false, narrowed := true }
def HierLeastUptoSaid : Prop := hierLeastUptoRow.holds Try.pinned (OpenSpec.upto hierLeastSpec)

/-- 'tabardlaw07.HierAsks', WHERE WHAT IT READS IS OF BULK AT MOST 1048576: true; the input reads as it did. -/
def hierAsksUptoRow : OpenClaim := { program := "ytnggnacaghcclaa", sum := "4a7e36bfb1204360c1a1ce963b83a1bbeb0e7d0440ec722e6be10c0022eae432", func := "tabard/tabardlaw07.HierAsks", spec := "hierAsks", unfollowed := true, recurses := true, apart := false, narrowed := true }
def HierAsksUptoSaid : Prop := hierAsksUptoRow.holds Try.pinned (OpenSpec.upto hierAsksSpec)

/-- 'tabardlaw07.HierNone', WHERE WHAT IT READS IS OF BULK AT MOST 1048576: true; the input reads as it did. -/
def hierNoneUptoRow : OpenClaim := { program := "ytnggnacaghcclaa", sum := "4a7e36bfb1204360c1a1ce963b83a1bbeb0e7d0440ec722e6be10c0022eae432", func := "tabard/tabardlaw07.HierNone", spec := "hierNone", unfollowed := true, recurses := true, apart := false, narrowed := true }
def HierNoneUptoSaid : Prop := hierNoneUptoRow.holds Try.pinned (OpenSpec.upto hierNoneSpec)

end Rows
end Go.Proofs.Ytnggnacaghcclaa
