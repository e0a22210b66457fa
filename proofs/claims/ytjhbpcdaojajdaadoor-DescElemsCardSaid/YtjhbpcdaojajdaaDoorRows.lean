/-
  NARROWER THAN 'FOR EVERY INPUT', by the rows' own cells (each row's printed sentence says how): DescNames: laid · DescReads: laid · DescArrays: laid · DescElems: laid · DescPrints: laid · DescBack: laid · DescOneWay: laid.
  DERIVED. THE GIVEN ROWS OF THIS SEAT. 7 by the template 'for every input the law returns true; each argument reads behind the call as it read before'; 0 by the template 'total and deterministic' (their statements: YtjhbpcdaojajdaaDoorTotals.lean).
  GIVEN WITH THE SEED: the statements are not yours to turn. If you find one false, say at which input.
  Laid BY PROGRAM, IN A SANDBOX (cutbox-rows.mjs): the forced cells as the released guide's own fill.sh prints them over the translation 0402015b0c88b925… (all of the seat's roots in one cut). By AI agents, Wed Nov 11 2026. No macro, syntax, notation, axiom, sorry.
-/
import Derived.Test.YtjhbpcdaojajdaaDoorChecked
import GoSem.PinnedTables
import GoSem.Claim
import GoSem.ClaimJoined
import GoSem.ClaimMapViews
import Derived.JoinedTies
import Derived.KernelRfl
namespace Go.Proofs.YtjhbpcdaojajdaaDoor
/- THE CELL 'sum', in the pinned program and in every row, IS THE sha256 OF THE DUMP (.gsa) THAT YtjhbpcdaojajdaaDoorProg.lean LOADS. Nothing in Lean hashes anything: it is a label: what it is worth is what the hold of that sum in a sandbox is worth. -/
noncomputable def Tryd.pinned : Pinned := { name := "ytjhbpcdaojajdaadoor", sum := "0402015b0c88b9254ac235f1a6f75b3a6d6823a1143d99f5b2faac1b5e10f252", checked := Tryd.checked }
namespace Rows
def none {H : Type} : Left H := { results := [], args := [] }

/- WHAT THE LISTED PACKAGE-LEVEL VARIABLES READ AS WHEN THE CALL BEGINS. Each datum BY PROGRAM (the guide's laid-datum.mjs) off the statement by which the dump's own 'gosem.cut.vars' lays the variable. In a bare row this is a premise. The card (YtjhbpcdaojajdaaDoorCards.lean) ties it to the program's text. -/
def laid_unicode_utf8_acceptRanges {H : Type} : DataW H := .agg [.agg [.lit (.int .u8 128), .lit (.int .u8 191)], .agg [.lit (.int .u8 160), .lit (.int .u8 191)], .agg [.lit (.int .u8 128), .lit (.int .u8 159)], .agg [.lit (.int .u8 144), .lit (.int .u8 191)], .agg [.lit (.int .u8 128), .lit (.int .u8 143)], .agg [.lit (.int .u8 0), .lit (.int .u8 0)], .agg [.lit (.int .u8 0), .lit (.int .u8 0)], .agg [.lit (.int .u8 0), .lit (.int .u8 0)], .agg [.lit (.int .u8 0), .lit (.int .u8 0)], .agg [.lit (.int .u8 0), .lit (.int .u8 0)], .agg [.lit (.int .u8 0), .lit (.int .u8 0)], .agg [.lit (.int .u8 0), .lit (.int .u8 0)], .agg [.lit (.int .u8 0), .lit (.int .u8 0)], .agg [.lit (.int .u8 0), .lit (.int .u8 0)], .agg [.lit (.int .u8 0), .lit (.int .u8 0)], .agg [.lit (.int .u8 0), .lit (.int .u8 0)]]
/-- One of Go's own tables, pinned by name: the form's constant. -/
def laid_unicode_utf8_first : DataW Unit := Go.Pinned.utf8First

/-- 'tabardlaw02.DescNames': WHATEVER THE INPUT: true; the input reads as it did. -/
def descNamesSpec : ChangeSpec := { name := "descNames", fn := fun _ => fun
  | [d] => { results := [.lit (.bool true)], args := [d] }
  | _ => none }
def descNamesRow : OpenClaim := { program := "ytjhbpcdaojajdaadoor", sum := "0402015b0c88b9254ac235f1a6f75b3a6d6823a1143d99f5b2faac1b5e10f252", func := "tabard/tabardlaw02.DescNames", spec := "descNames", inPlace := ["internal/bytealg.IndexByteString", "internal/bytealg.IndexString", "internal/bytealg.CountString"], unfollowed := true, recurses := true, named := ["internal/bytealg.MaxLen", "unicode/utf8.first", "unicode/utf8.acceptRanges"], plainKeys := false, apart := false, laid := [("unicode/utf8.acceptRanges", laid_unicode_utf8_acceptRanges), ("unicode/utf8.first", laid_unicode_utf8_first)] }
def DescNamesSaid : Prop := descNamesRow.holds Tryd.pinned (OpenSpec.ofChange descNamesSpec)

/-- ITS FALSE NEIGHBOUR: 'it returns false'. Refute it at one input. -/
def descNamesWrong : ChangeSpec := { name := "descNames", fn := fun _ => fun
  | [d] => { results := [.lit (.bool false)], args := [d] }
  | _ => none }
def DescNamesWrongFalsely : Prop := descNamesRow.holds Tryd.pinned (OpenSpec.ofChange descNamesWrong)

/-- 'tabardlaw02.DescReads': WHATEVER THE INPUT: true; the input reads as it did. -/
def descReadsSpec : ChangeSpec := { name := "descReads", fn := fun _ => fun
  | [d] => { results := [.lit (.bool true)], args := [d] }
  | _ => none }
def descReadsRow : OpenClaim := { program := "ytjhbpcdaojajdaadoor", sum := "0402015b0c88b9254ac235f1a6f75b3a6d6823a1143d99f5b2faac1b5e10f252", func := "tabard/tabardlaw02.DescReads", spec := "descReads", inPlace := ["internal/bytealg.IndexByteString", "internal/bytealg.IndexString", "internal/bytealg.CountString"], unfollowed := true, recurses := true, named := ["internal/bytealg.MaxLen", "unicode/utf8.first", "unicode/utf8.acceptRanges"], plainKeys := false, apart := false, laid := [("unicode/utf8.acceptRanges", laid_unicode_utf8_acceptRanges), ("unicode/utf8.first", laid_unicode_utf8_first)] }
def DescReadsSaid : Prop := descReadsRow.holds Tryd.pinned (OpenSpec.ofChange descReadsSpec)

/-- ITS FALSE NEIGHBOUR: 'it returns false'. Refute it at one input. -/
def descReadsWrong : ChangeSpec := { name := "descReads", fn := fun _ => fun
  | [d] => { results := [.lit (.bool false)], args := [d] }
  | _ => none }
def DescReadsWrongFalsely : Prop := descReadsRow.holds Tryd.pinned (OpenSpec.ofChange descReadsWrong)

/-- 'tabardlaw02.DescArrays': WHATEVER THE INPUT: true; the input reads as it did. -/
def descArraysSpec : ChangeSpec := { name := "descArrays", fn := fun _ => fun
  | [d] => { results := [.lit (.bool true)], args := [d] }
  | _ => none }
def descArraysRow : OpenClaim := { program := "ytjhbpcdaojajdaadoor", sum := "0402015b0c88b9254ac235f1a6f75b3a6d6823a1143d99f5b2faac1b5e10f252", func := "tabard/tabardlaw02.DescArrays", spec := "descArrays", inPlace := ["internal/bytealg.IndexByteString", "internal/bytealg.IndexString", "internal/bytealg.CountString"], unfollowed := true, recurses := true, named := ["internal/bytealg.MaxLen", "unicode/utf8.first", "unicode/utf8.acceptRanges"], plainKeys := false, apart := false, laid := [("unicode/utf8.acceptRanges", laid_unicode_utf8_acceptRanges), ("unicode/utf8.first", laid_unicode_utf8_first)] }
def DescArraysSaid : Prop := descArraysRow.holds Tryd.pinned (OpenSpec.ofChange descArraysSpec)

/-- ITS FALSE NEIGHBOUR: 'it returns false'. Refute it at one input. -/
def descArraysWrong : ChangeSpec := { name := "descArrays", fn := fun _ => fun
  | [d] => { results := [.lit (.bool false)], args := [d] }
  | _ => none }
def DescArraysWrongFalsely : Prop := descArraysRow.holds Tryd.pinned (OpenSpec.ofChange descArraysWrong)

/-- 'tabardlaw02.DescElems': WHATEVER THE INPUT: true; the input reads as it did. -/
def descElemsSpec : ChangeSpec := { name := "descElems", fn := fun _ => fun
  | [d] => { results := [.lit (.bool true)], args := [d] }
  | _ => none }
def descElemsRow : OpenClaim := { program := "ytjhbpcdaojajdaadoor", sum := "0402015b0c88b9254ac235f1a6f75b3a6d6823a1143d99f5b2faac1b5e10f252", func := "tabard/tabardlaw02.DescElems", spec := "descElems", inPlace := ["internal/bytealg.IndexByteString", "internal/bytealg.IndexString", "internal/bytealg.CountString"], unfollowed := true, recurses := true, named := ["internal/bytealg.MaxLen", "unicode/utf8.first", "unicode/utf8.acceptRanges"], plainKeys := false, apart := false, laid := [("unicode/utf8.acceptRanges", laid_unicode_utf8_acceptRanges), ("unicode/utf8.first", laid_unicode_utf8_first)] }
def DescElemsSaid : Prop := descElemsRow.holds Tryd.pinned (OpenSpec.ofChange descElemsSpec)

/-- ITS FALSE NEIGHBOUR: 'it returns false'. Refute it at one input. -/
def descElemsWrong : ChangeSpec := { name := "descElems", fn := fun _ => fun
  | [d] => { results := [.lit (.bool false)], args := [d] }
  | _ => none }
def DescElemsWrongFalsely : Prop := descElemsRow.holds Tryd.pinned (OpenSpec.ofChange descElemsWrong)

/-- 'tabardlaw02.DescPrints': WHATEVER THE INPUT: true; the input reads as it did. -/
def descPrintsSpec : ChangeSpec := { name := "descPrints", fn := fun _ => fun
  | [d1, d2] => { results := [.lit (.bool true)], args := [d1, d2] }
  | _ => none }
def descPrintsRow : OpenClaim := { program := "ytjhbpcdaojajdaadoor", sum := "0402015b0c88b9254ac235f1a6f75b3a6d6823a1143d99f5b2faac1b5e10f252", func := "tabard/tabardlaw02.DescPrints", spec := "descPrints", inPlace := ["internal/bytealg.IndexByteString", "internal/bytealg.IndexString", "internal/bytealg.CountString", "internal/abi.NoEscape"], unfollowed := true, recurses := true, named := ["internal/bytealg.MaxLen", "unicode/utf8.first", "unicode/utf8.acceptRanges"], plainKeys := false, apart := false, laid := [("unicode/utf8.acceptRanges", laid_unicode_utf8_acceptRanges), ("unicode/utf8.first", laid_unicode_utf8_first)] }
def DescPrintsSaid : Prop := descPrintsRow.holds Tryd.pinned (OpenSpec.ofChange descPrintsSpec)

/-- ITS FALSE NEIGHBOUR: 'it returns false'. Refute it at one input. -/
def descPrintsWrong : ChangeSpec := { name := "descPrints", fn := fun _ => fun
  | [d1, d2] => { results := [.lit (.bool false)], args := [d1, d2] }
  | _ => none }
def DescPrintsWrongFalsely : Prop := descPrintsRow.holds Tryd.pinned (OpenSpec.ofChange descPrintsWrong)

/-- 'tabardlaw02.DescBack': WHATEVER THE INPUT: true; the input reads as it did. -/
def descBackSpec : ChangeSpec := { name := "descBack", fn := fun _ => fun
  | [d1, d2, d3] => { results := [.lit (.bool true)], args := [d1, d2, d3] }
  | _ => none }
def descBackRow : OpenClaim := { program := "ytjhbpcdaojajdaadoor", sum := "0402015b0c88b9254ac235f1a6f75b3a6d6823a1143d99f5b2faac1b5e10f252", func := "tabard/tabardlaw02.DescBack", spec := "descBack", inPlace := ["internal/bytealg.IndexByteString", "internal/bytealg.IndexString", "internal/bytealg.CountString", "internal/abi.NoEscape"], unfollowed := true, recurses := true, named := ["internal/bytealg.MaxLen", "unicode/utf8.first", "unicode/utf8.acceptRanges"], plainKeys := false, apart := false, laid := [("unicode/utf8.acceptRanges", laid_unicode_utf8_acceptRanges), ("unicode/utf8.first", laid_unicode_utf8_first)] }
def DescBackSaid : Prop := descBackRow.holds Tryd.pinned (OpenSpec.ofChange descBackSpec)

/-- ITS FALSE NEIGHBOUR: 'it returns false'. Refute it at one input. -/
def descBackWrong : ChangeSpec := { name := "descBack", fn := fun _ => fun
  | [d1, d2, d3] => { results := [.lit (.bool false)], args := [d1, d2, d3] }
  | _ => none }
def DescBackWrongFalsely : Prop := descBackRow.holds Tryd.pinned (OpenSpec.ofChange descBackWrong)

/-- 'tabardlaw02.DescOneWay': WHATEVER THE INPUT: true; the input reads as it did. -/
def descOneWaySpec : ChangeSpec := { name := "descOneWay", fn := fun _ => fun
  | [d1, d2, d3] => { results := [.lit (.bool true)], args := [d1, d2, d3] }
  | _ => none }
def descOneWayRow : OpenClaim := { program := "ytjhbpcdaojajdaadoor", sum := "0402015b0c88b9254ac235f1a6f75b3a6d6823a1143d99f5b2faac1b5e10f252", func := "tabard/tabardlaw02.DescOneWay", spec := "descOneWay", inPlace := ["internal/abi.NoEscape", "internal/bytealg.IndexByteString", "internal/bytealg.IndexString", "internal/bytealg.CountString"], unfollowed := true, recurses := true, named := ["internal/bytealg.MaxLen", "unicode/utf8.first", "unicode/utf8.acceptRanges"], plainKeys := false, apart := false, laid := [("unicode/utf8.acceptRanges", laid_unicode_utf8_acceptRanges), ("unicode/utf8.first", laid_unicode_utf8_first)] }
def DescOneWaySaid : Prop := descOneWayRow.holds Tryd.pinned (OpenSpec.ofChange descOneWaySpec)

/-- ITS FALSE NEIGHBOUR: 'it returns false'. Refute it at one input. -/
def descOneWayWrong : ChangeSpec := { name := "descOneWay", fn := fun _ => fun
  | [d1, d2, d3] => { results := [.lit (.bool false)], args := [d1, d2, d3] }
  | _ => none }
def DescOneWayWrongFalsely : Prop := descOneWayRow.holds Tryd.pinned (OpenSpec.ofChange descOneWayWrong)

/- THE SECOND FORM. 'bulk': how many values and letters a reading holds, each counted each time it is reached (what is shared counts as often as it is met; a slice's spare places count too). A statement '..UptoSaid' is the law's where the arguments, and the package variables that the reading takes, are together of bulk at most 1048576: NARROWER than '..Said'. Prove '..Said' where nothing that the law and all that it calls make is longer than what came in: it says more and counts as full. Else prove '..UptoSaid'. A law counts once. -/
mutual
def uptoBulk {H : Type} : DataW H → Nat
  | .lit (.string bytes) => bytes.length + 1
  | .lit _ => 1
  | .nil => 1
  | .ptr d => uptoBulk d + 1
  | .slice elems spare => uptoBulkAll elems + uptoBulkAll spare + 1
  | .agg parts => uptoBulkAll parts + 1
  | .iface _ d => uptoBulk d + 1
  | .map entries => uptoBulkEntries entries + 1
  | .held _ => 1
def uptoBulkAll {H : Type} : List (DataW H) → Nat
  | [] => 0
  | d :: r => uptoBulk d + uptoBulkAll r
def uptoBulkEntries {H : Type} : List (Lit × DataW H) → Nat
  | [] => 0
  | x :: r => uptoBulkEntry x + uptoBulkEntries r
def uptoBulkEntry {H : Type} : Lit × DataW H → Nat
  | (.string bytes, d) => bytes.length + uptoBulk d + 1
  | (_, d) => uptoBulk d + 1
 end
def uptoSmall : (H : Type) → List (DataW H) → Bool := fun _ ds => decide (uptoBulkAll ds ≤ 1048576)
def OpenSpec.upto (s : _root_.Go.ChangeSpec) : _root_.Go.OpenSpec := { _root_.Go.OpenSpec.ofChange s with cond := some uptoSmall }

/-- 'tabardlaw02.DescNames', WHERE WHAT IT READS IS OF BULK AT MOST 1048576: true; the input reads as it did. -/
def descNamesUptoRow : OpenClaim := { program := "ytjhbpcdaojajdaadoor", sum := "0402015b0c88b9254ac235f1a6f75b3a6d6823a1143d99f5b2faac1b5e10f252", func := "tabard/tabardlaw02.DescNames", spec := "descNames", inPlace := ["internal/bytealg.IndexByteString", "internal/bytealg.IndexString", "internal/bytealg.CountString"], unfollowed := true, recurses := true, named := ["internal/bytealg.MaxLen", "unicode/utf8.first", "unicode/utf8.acceptRanges"], plainKeys := false, apart := false, laid := [("unicode/utf8.acceptRanges", laid_unicode_utf8_acceptRanges), ("unicode/utf8.first", laid_unicode_utf8_first)], narrowed := true }
def DescNamesUptoSaid : Prop := descNamesUptoRow.holds Tryd.pinned (OpenSpec.upto descNamesSpec)

/-- 'tabardlaw02.DescReads', WHERE WHAT IT READS IS OF BULK AT MOST 1048576: true; the input reads as it did. -/
def descReadsUptoRow : OpenClaim := { program := "ytjhbpcdaojajdaadoor", sum := "0402015b0c88b9254ac235f1a6f75b3a6d6823a1143d99f5b2faac1b5e10f252", func := "tabard/tabardlaw02.DescReads", spec := "descReads", inPlace := ["internal/bytealg.IndexByteString", "internal/bytealg.IndexString", "internal/bytealg.CountString"], unfollowed := true, recurses := true, named := ["internal/bytealg.MaxLen", "unicode/utf8.first", "unicode/utf8.acceptRanges"], plainKeys := false, apart := false, laid := [("unicode/utf8.acceptRanges", laid_unicode_utf8_acceptRanges), ("unicode/utf8.first", laid_unicode_utf8_first)], narrowed := true }
def DescReadsUptoSaid : Prop := descReadsUptoRow.holds Tryd.pinned (OpenSpec.upto descReadsSpec)

/-- 'tabardlaw02.DescArrays', WHERE WHAT IT READS IS OF BULK AT MOST 1048576: true; the input reads as it did. -/
def descArraysUptoRow : OpenClaim := { program := "ytjhbpcdaojajdaadoor", sum := "0402015b0c88b9254ac235f1a6f75b3a6d6823a1143d99f5b2faac1b5e10f252", func := "tabard/tabardlaw02.DescArrays", spec := "descArrays", inPlace := ["internal/bytealg.IndexByteString", "internal/bytealg.IndexString", "internal/bytealg.CountString"], unfollowed := true, recurses := true, named := ["internal/bytealg.MaxLen", "unicode/utf8.first", "unicode/utf8.acceptRanges"], plainKeys := false, apart := false, laid := [("unicode/utf8.acceptRanges", laid_unicode_utf8_acceptRanges), ("unicode/utf8.first", laid_unicode_utf8_first)], narrowed := true }
def DescArraysUptoSaid : Prop := descArraysUptoRow.holds Tryd.pinned (OpenSpec.upto descArraysSpec)

/-- 'tabardlaw02.DescElems', WHERE WHAT IT READS IS OF BULK AT MOST 1048576: true; the input reads as it did. -/
def descElemsUptoRow : OpenClaim := { program := "ytjhbpcdaojajdaadoor", sum := "0402015b0c88b9254ac235f1a6f75b3a6d6823a1143d99f5b2faac1b5e10f252", func := "tabard/tabardlaw02.DescElems", spec := "descElems", inPlace := ["internal/bytealg.IndexByteString", "internal/bytealg.IndexString", "internal/bytealg.CountString"], unfollowed := true, recurses := true, named := ["internal/bytealg.MaxLen", "unicode/utf8.first", "unicode/utf8.acceptRanges"], plainKeys := false, apart := false, laid := [("unicode/utf8.acceptRanges", laid_unicode_utf8_acceptRanges), ("unicode/utf8.first", laid_unicode_utf8_first)], narrowed := true }
def DescElemsUptoSaid : Prop := descElemsUptoRow.holds Tryd.pinned (OpenSpec.upto descElemsSpec)

/-- 'tabardlaw02.DescPrints', WHERE WHAT IT READS IS OF BULK AT MOST 1048576: true; the input reads as it did. -/
def descPrintsUptoRow : OpenClaim := { program := "ytjhbpcdaojajdaadoor", sum := "0402015b0c88b9254ac235f1a6f75b3a6d6823a1143d99f5b2faac1b5e10f252", func := "tabard/tabardlaw02.DescPrints", spec := "descPrints", inPlace := ["internal/bytealg.IndexByteString", "internal/bytealg.IndexString", "internal/bytealg.CountString", "internal/abi.NoEscape"], unfollowed := true, recurses := true, named := ["internal/bytealg.MaxLen", "unicode/utf8.first", "unicode/utf8.acceptRanges"], plainKeys := false, apart := false, laid := [("unicode/utf8.acceptRanges", laid_unicode_utf8_acceptRanges), ("unicode/utf8.first", laid_unicode_utf8_first)], narrowed := true }
def DescPrintsUptoSaid : Prop := descPrintsUptoRow.holds Tryd.pinned (OpenSpec.upto descPrintsSpec)

/-- 'tabardlaw02.DescBack', WHERE WHAT IT READS IS OF BULK AT MOST 1048576: true; the input reads as it did. -/
def descBackUptoRow : OpenClaim := { program := "ytjhbpcdaojajdaadoor", sum := "0402015b0c88b9254ac235f1a6f75b3a6d6823a1143d99f5b2faac1b5e10f252", func := "tabard/tabardlaw02.DescBack", spec := "descBack", inPlace := ["internal/bytealg.IndexByteString", "internal/bytealg.IndexString", "internal/bytealg.CountString", "internal/abi.NoEscape"], unfollowed := true, recurses := true, named := ["internal/bytealg.MaxLen", "unicode/utf8.first", "unicode/utf8.acceptRanges"], plainKeys := false, apart := false, laid := [("unicode/utf8.acceptRanges", laid_unicode_utf8_acceptRanges), ("unicode/utf8.first", laid_unicode_utf8_first)], narrowed := true }
def DescBackUptoSaid : Prop := descBackUptoRow.holds Tryd.pinned (OpenSpec.upto descBackSpec)

/-- 'tabardlaw02.DescOneWay', WHERE WHAT IT READS IS OF BULK AT MOST 1048576: true; the input reads as it did. -/
def descOneWayUptoRow : OpenClaim := { program := "ytjhbpcdaojajdaadoor", sum := "0402015b0c88b9254ac235f1a6f75b3a6d6823a1143d99f5b2faac1b5e10f252", func := "tabard/tabardlaw02.DescOneWay", spec := "descOneWay", inPlace := ["internal/abi.NoEscape", "internal/bytealg.IndexByteString", "internal/bytealg.IndexString", "internal/bytealg.CountString"], unfollowed := true, recurses := true, named := ["internal/bytealg.MaxLen", "unicode/utf8.first", "unicode/utf8.acceptRanges"], plainKeys := false, apart := false, laid := [("unicode/utf8.acceptRanges", laid_unicode_utf8_acceptRanges), ("unicode/utf8.first", laid_unicode_utf8_first)], narrowed := true }
def DescOneWayUptoSaid : Prop := descOneWayUptoRow.holds Tryd.pinned (OpenSpec.upto descOneWaySpec)

end Rows
end Go.Proofs.YtjhbpcdaojajdaaDoor
