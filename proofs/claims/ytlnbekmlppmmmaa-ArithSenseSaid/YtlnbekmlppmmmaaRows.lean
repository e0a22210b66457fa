/-
  No cell of these rows narrows 'for every input' (looked for: loops, veiled, ifaces, maps, wideKeys, modest, calm, conditions, laid).
  DERIVED. THE GIVEN ROWS OF THIS SEAT. 6 by the template 'for every input the law returns true; each argument reads behind the call as it read before'; 0 by the template 'total and deterministic' (their statements: YtlnbekmlppmmmaaTotals.lean).
  GIVEN WITH THE SEED: the statements are not yours to turn. If you find one false, say at which input.
  Laid BY PROGRAM, IN A SANDBOX (cutbox-rows.mjs): the forced cells as the released guide's own fill.sh prints them over the translation bd6ce15a5efa54b4… (all of the seat's roots in one cut). By AI agents, Wed Nov 11 2026. No macro, syntax, notation, axiom, sorry.
-/
import Derived.Test.YtlnbekmlppmmmaaChecked
import GoSem.Claim
import GoSem.ClaimJoined
import GoSem.ClaimMapViews
import Derived.JoinedTies
import Derived.KernelRfl
namespace Go.Proofs.Ytlnbekmlppmmmaa
/- THE CELL 'sum', in the pinned program and in every row, IS THE sha256 OF THE DUMP (.gsa) THAT YtlnbekmlppmmmaaProg.lean LOADS. Nothing in Lean hashes anything: it is a label: what it is worth is what the hold of that sum in a sandbox is worth. -/
noncomputable def Try.pinned : Pinned := { name := "ytlnbekmlppmmmaa", sum := "bd6ce15a5efa54b4c6f6b90799d044a199b52c9aa8df255e8a0be15c861096e6", checked := Try.checked }
namespace Rows
def none {H : Type} : Left H := { results := [], args := [] }

/-- 'tabardlaw05.ArithDivides': WHATEVER THE INPUT: true; the input reads as it did. -/
def arithDividesSpec : ChangeSpec := { name := "arithDivides", fn := fun _ => fun
  | [d1, d2] => { results := [.lit (.bool true)], args := [d1, d2] }
  | _ => none }
def arithDividesRow : OpenClaim := { program := "ytlnbekmlppmmmaa", sum := "bd6ce15a5efa54b4c6f6b90799d044a199b52c9aa8df255e8a0be15c861096e6", func := "tabard/tabardlaw05.ArithDivides", spec := "arithDivides", apart := false }
def ArithDividesSaid : Prop := arithDividesRow.holds Try.pinned (OpenSpec.ofChange arithDividesSpec)

/-- ITS FALSE NEIGHBOUR: 'it returns false'. Refute it at one input. -/
def arithDividesWrong : ChangeSpec := { name := "arithDivides", fn := fun _ => fun
  | [d1, d2] => { results := [.lit (.bool false)], args := [d1, d2] }
  | _ => none }
def ArithDividesWrongFalsely : Prop := arithDividesRow.holds Try.pinned (OpenSpec.ofChange arithDividesWrong)

/-- 'tabardlaw05.ArithUnary': WHATEVER THE INPUT: true; the input reads as it did. -/
def arithUnarySpec : ChangeSpec := { name := "arithUnary", fn := fun _ => fun
  | [d1, d2] => { results := [.lit (.bool true)], args := [d1, d2] }
  | _ => none }
def arithUnaryRow : OpenClaim := { program := "ytlnbekmlppmmmaa", sum := "bd6ce15a5efa54b4c6f6b90799d044a199b52c9aa8df255e8a0be15c861096e6", func := "tabard/tabardlaw05.ArithUnary", spec := "arithUnary", apart := false }
def ArithUnarySaid : Prop := arithUnaryRow.holds Try.pinned (OpenSpec.ofChange arithUnarySpec)

/-- ITS FALSE NEIGHBOUR: 'it returns false'. Refute it at one input. -/
def arithUnaryWrong : ChangeSpec := { name := "arithUnary", fn := fun _ => fun
  | [d1, d2] => { results := [.lit (.bool false)], args := [d1, d2] }
  | _ => none }
def ArithUnaryWrongFalsely : Prop := arithUnaryRow.holds Try.pinned (OpenSpec.ofChange arithUnaryWrong)

/-- 'tabardlaw05.ArithInts': WHATEVER THE INPUT: true; the input reads as it did. -/
def arithIntsSpec : ChangeSpec := { name := "arithInts", fn := fun _ => fun
  | [d1, d2, d3] => { results := [.lit (.bool true)], args := [d1, d2, d3] }
  | _ => none }
def arithIntsRow : OpenClaim := { program := "ytlnbekmlppmmmaa", sum := "bd6ce15a5efa54b4c6f6b90799d044a199b52c9aa8df255e8a0be15c861096e6", func := "tabard/tabardlaw05.ArithInts", spec := "arithInts", apart := false }
def ArithIntsSaid : Prop := arithIntsRow.holds Try.pinned (OpenSpec.ofChange arithIntsSpec)

/-- ITS FALSE NEIGHBOUR: 'it returns false'. Refute it at one input. -/
def arithIntsWrong : ChangeSpec := { name := "arithInts", fn := fun _ => fun
  | [d1, d2, d3] => { results := [.lit (.bool false)], args := [d1, d2, d3] }
  | _ => none }
def ArithIntsWrongFalsely : Prop := arithIntsRow.holds Try.pinned (OpenSpec.ofChange arithIntsWrong)

/-- 'tabardlaw05.ArithBinary': WHATEVER THE INPUT: true; the input reads as it did. -/
def arithBinarySpec : ChangeSpec := { name := "arithBinary", fn := fun _ => fun
  | [d1, d2, d3] => { results := [.lit (.bool true)], args := [d1, d2, d3] }
  | _ => none }
def arithBinaryRow : OpenClaim := { program := "ytlnbekmlppmmmaa", sum := "bd6ce15a5efa54b4c6f6b90799d044a199b52c9aa8df255e8a0be15c861096e6", func := "tabard/tabardlaw05.ArithBinary", spec := "arithBinary", apart := false }
def ArithBinarySaid : Prop := arithBinaryRow.holds Try.pinned (OpenSpec.ofChange arithBinarySpec)

/-- ITS FALSE NEIGHBOUR: 'it returns false'. Refute it at one input. -/
def arithBinaryWrong : ChangeSpec := { name := "arithBinary", fn := fun _ => fun
  | [d1, d2, d3] => { results := [.lit (.bool false)], args := [d1, d2, d3] }
  | _ => none }
def ArithBinaryWrongFalsely : Prop := arithBinaryRow.holds Try.pinned (OpenSpec.ofChange arithBinaryWrong)

/-- 'tabardlaw05.ArithConds': WHATEVER THE INPUT: true; the input reads as it did. -/
def arithCondsSpec : ChangeSpec := { name := "arithConds", fn := fun _ => fun
  | [d1, d2, d3] => { results := [.lit (.bool true)], args := [d1, d2, d3] }
  | _ => none }
def arithCondsRow : OpenClaim := { program := "ytlnbekmlppmmmaa", sum := "bd6ce15a5efa54b4c6f6b90799d044a199b52c9aa8df255e8a0be15c861096e6", func := "tabard/tabardlaw05.ArithConds", spec := "arithConds", apart := false }
def ArithCondsSaid : Prop := arithCondsRow.holds Try.pinned (OpenSpec.ofChange arithCondsSpec)

/-- ITS FALSE NEIGHBOUR: 'it returns false'. Refute it at one input. -/
def arithCondsWrong : ChangeSpec := { name := "arithConds", fn := fun _ => fun
  | [d1, d2, d3] => { results := [.lit (.bool false)], args := [d1, d2, d3] }
  | _ => none }
def ArithCondsWrongFalsely : Prop := arithCondsRow.holds Try.pinned (OpenSpec.ofChange arithCondsWrong)

/-- 'tabardlaw05.ArithSense': WHATEVER THE INPUT: true; the input reads as it did. -/
def arithSenseSpec : ChangeSpec := { name := "arithSense", fn := fun _ => fun
  | [d1, d2, d3] => { results := [.lit (.bool true)], args := [d1, d2, d3] }
  | _ => none }
def arithSenseRow : OpenClaim := { program := "ytlnbekmlppmmmaa", sum := "bd6ce15a5efa54b4c6f6b90799d044a199b52c9aa8df255e8a0be15c861096e6", func := "tabard/tabardlaw05.ArithSense", spec := "arithSense", apart := false }
def ArithSenseSaid : Prop := arithSenseRow.holds Try.pinned (OpenSpec.ofChange arithSenseSpec)

/-- ITS FALSE NEIGHBOUR: 'it returns false'. Refute it at one input. -/
def arithSenseWrong : ChangeSpec := { name := "arithSense", fn := fun _ => fun
  | [d1, d2, d3] => { results := [.lit (.bool false)], args := [d1, d2, d3] }
  | _ => none }
def ArithSenseWrongFalsely : Prop := arithSenseRow.holds Try.pinned (OpenSpec.ofChange arithSenseWrong)

/- THE SECOND FORM. 'bulk': how many values and letters a reading holds, each counted each time it is reached (what is shared counts as often as it is met; a slice's spare places count too). A statement '..UptoSaid' is the law's where the arguments, and the package variables that the reading takes, are together of bulk at most 1048576: NARROWER than '..Said'. Prove '..Said' where nothing that the law and all that it calls make is longer than what came in: it says more and counts as full. Else prove '..UptoSaid'. A law counts once. -/
mutual
def uptoBulk {H : Type} : DataW H → Nat
  | .lit (.string bytes) => bytes.length + 1
  | .lit _ => 1
  | .nil => 1
  | .ptr d => uptoBulk d + 1
  | .slice elems spare => uptoBulkAll elems + uptoBulkAll spare + 1
  | .agg parts => uptoBulkAll parts + 1
  | .iface _ d => uptoBulk d + 1
  | .map entries => uptoBulkEntries entries + 1
  | .held _ => 1
def uptoBulkAll {H : Type} : List (DataW H) → Nat
  | [] => 0
  | d :: r => uptoBulk d + uptoBulkAll r
def uptoBulkEntries {H : Type} : List (Lit × DataW H) → Nat
  | [] => 0
  | x :: r => uptoBulkEntry x + uptoBulkEntries r
def uptoBulkEntry {H : Type} : Lit × DataW H → Nat
  | (.string bytes, d) => bytes.length + uptoBulk d + 1
  | (_, d) => uptoBulk d + 1
 end
def uptoSmall : (H : Type) → List (DataW H) → Bool := fun _ ds => decide (uptoBulkAll ds ≤ 1048576)
def OpenSpec.upto (s : _root_.Go.ChangeSpec) : _root_.Go.OpenSpec := { _root_.Go.OpenSpec.ofChange s with cond := some uptoSmall }

/-- 'tabardlaw05.ArithDivides', WHERE WHAT IT READS IS OF BULK AT MOST 1048576: true; the input reads as it did. -/
def arithDividesUptoRow : OpenClaim := { program := "ytlnbekmlppmmmaa", sum := "bd6ce15a5efa54b4c6f6b90799d044a199b52c9aa8df255e8a0be15c861096e6", func := "tabard/tabardlaw05.ArithDivides", spec := "arithDivides", apart := false, narrowed := true }
def ArithDividesUptoSaid : Prop := arithDividesUptoRow.holds Try.pinned (OpenSpec.upto arithDividesSpec)

/-- 'tabardlaw05.ArithUnary', WHERE WHAT IT READS IS OF BULK AT MOST 1048576: true; the input reads as it did. -/
def arithUnaryUptoRow : OpenClaim := { program := "ytlnbekmlppmmmaa", sum := "bd6ce15a5efa54b4c6f6b90799d044a199b52c9aa8df255e8a0be15c861096e6", func := "tabard/tabardlaw05.ArithUnary", spec := "arithUnary", apart := false, narrowed := true }
def ArithUnaryUptoSaid : Prop := arithUnaryUptoRow.holds Try.pinned (OpenSpec.upto arithUnarySpec)

/-- 'tabardlaw05.ArithInts', WHERE WHAT IT READS IS OF BULK AT MOST 1048576: true; the input reads as it did. -/
def arithIntsUptoRow : OpenClaim := { program := "ytlnbekmlppmmmaa", sum := "bd6ce15a5efa54b4c6f6b90799d044a199b52c9aa8df255e8a0be15c861096e6", func := "tabard/tabardlaw05.ArithInts", spec := "arithInts", apart := false, narrowed := true }
def ArithIntsUptoSaid : Prop := arithIntsUptoRow.holds Try.pinned (OpenSpec.upto arithIntsSpec)

/-- 'tabardlaw05.ArithBinary', WHERE WHAT IT READS IS OF BULK AT MOST 1048576: true; the input reads as it did. -/
def arithBinaryUptoRow : OpenClaim := { program := "ytlnbekmlppmmmaa", sum := "bd6ce15a5efa54b4c6f6b90799d044a199b52c9aa8df255e8a0be15c861096e6", func := "tabard/tabardlaw05.ArithBinary", spec := "arithBinary", apart := false, narrowed := true }
def ArithBinaryUptoSaid : Prop := arithBinaryUptoRow.holds Try.pinned (OpenSpec.upto arithBinarySpec)

/-- 'tabardlaw05.ArithConds', WHERE WHAT IT READS IS OF BULK AT MOST 1048576: true; the input reads as it did. -/
def arithCondsUptoRow : OpenClaim := { program := "ytlnbekmlppmmmaa", sum := "bd6ce15a5efa54b4c6f6b90799d044a199b52c9aa8df255e8a0be15c861096e6", func := "tabard/tabardlaw05.ArithConds", spec := "arithConds", apart := false, narrowed := true }
def ArithCondsUptoSaid : Prop := arithCondsUptoRow.holds Try.pinned (OpenSpec.upto arithCondsSpec)

/-- 'tabardlaw05.ArithSense', WHERE WHAT IT READS IS OF BULK AT MOST 1048576: true; the input reads as it did. -/
def arithSenseUptoRow : OpenClaim := { program := "ytlnbekmlppmmmaa", sum := "bd6ce15a5efa54b4c6f6b90799d044a199b52c9aa8df255e8a0be15c861096e6", func := "tabard/tabardlaw05.ArithSense", spec := "arithSense", apart := false, narrowed := true }
def ArithSenseUptoSaid : Prop := arithSenseUptoRow.holds Try.pinned (OpenSpec.upto arithSenseSpec)

end Rows
end Go.Proofs.Ytlnbekmlppmmmaa
