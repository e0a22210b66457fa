/-
  No cell of these rows narrows 'for every input' (looked for: loops, veiled, ifaces, maps, wideKeys, modest, calm, conditions, laid).
  DERIVED. THE GIVEN ROWS OF THIS SEAT. 6 by the template 'for every input the law returns true; each argument reads behind the call as it read before'; 0 by the template 'total and deterministic' (their statements: YtngpfbcjmlpplaaTotals.lean).
  GIVEN WITH THE SEED: the statements are not yours to turn. If you find one false, say at which input.
  Laid BY PROGRAM, IN A SANDBOX (cutbox-rows.mjs): the forced cells as the released guide's own fill.sh prints them over the translation 0d2723e016790b4b… (all of the seat's roots in one cut). By AI agents, Wed Nov 11 2026. No macro, syntax, notation, axiom, sorry.
-/
import Derived.Test.YtngpfbcjmlpplaaChecked
import GoSem.Claim
import GoSem.ClaimJoined
import GoSem.ClaimMapViews
import Derived.JoinedTies
import Derived.KernelRfl
namespace Go.Proofs.Ytngpfbcjmlpplaa
/- THE CELL 'sum', in the pinned program and in every row, IS THE sha256 OF THE DUMP (.gsa) THAT YtngpfbcjmlpplaaProg.lean LOADS. Nothing in Lean hashes anything: it is a label: what it is worth is what the hold of that sum in a sandbox is worth. -/
noncomputable def Try.pinned : Pinned := { name := "ytngpfbcjmlpplaa", sum := "0d2723e016790b4bf32e919c325007aa34d9499435a79469958c4fcd2c858279", checked := Try.checked }
namespace Rows
def none {H : Type} : Left H := { results := [], args := [] }

/-- 'tabardlaw25.MapsLocs': WHATEVER THE INPUT: true; the input reads as it did. -/
def mapsLocsSpec : ChangeSpec := { name := "mapsLocs", fn := fun _ => fun
  | [d1, d2, d3] => { results := [.lit (.bool true)], args := [d1, d2, d3] }
  | _ => none }
def mapsLocsRow : OpenClaim := { program := "ytngpfbcjmlpplaa", sum := "0d2723e016790b4bf32e919c325007aa34d9499435a79469958c4fcd2c858279", func := "tabard/tabardlaw25.MapsLocs", spec := "mapsLocs", unfollowed := true, recurses := true, apart := false }
def MapsLocsSaid : Prop := mapsLocsRow.holds Try.pinned (OpenSpec.ofChange mapsLocsSpec)

/-- ITS FALSE NEIGHBOUR: 'it returns false'. Refute it at one input. -/
def mapsLocsWrong : ChangeSpec := { name := "mapsLocs", fn := fun _ => fun
  | [d1, d2, d3] => { results := [.lit (.bool false)], args := [d1, d2, d3] }
  | _ => none }
def MapsLocsWrongFalsely : Prop := mapsLocsRow.holds Try.pinned (OpenSpec.ofChange mapsLocsWrong)

/-- 'tabardlaw25.MapsBack': WHATEVER THE INPUT: true; the input reads as it did. -/
def mapsBackSpec : ChangeSpec := { name := "mapsBack", fn := fun _ => fun
  | [d1, d2, d3] => { results := [.lit (.bool true)], args := [d1, d2, d3] }
  | _ => none }
def mapsBackRow : OpenClaim := { program := "ytngpfbcjmlpplaa", sum := "0d2723e016790b4bf32e919c325007aa34d9499435a79469958c4fcd2c858279", func := "tabard/tabardlaw25.MapsBack", spec := "mapsBack", unfollowed := true, recurses := true, apart := false }
def MapsBackSaid : Prop := mapsBackRow.holds Try.pinned (OpenSpec.ofChange mapsBackSpec)

/-- ITS FALSE NEIGHBOUR: 'it returns false'. Refute it at one input. -/
def mapsBackWrong : ChangeSpec := { name := "mapsBack", fn := fun _ => fun
  | [d1, d2, d3] => { results := [.lit (.bool false)], args := [d1, d2, d3] }
  | _ => none }
def MapsBackWrongFalsely : Prop := mapsBackRow.holds Try.pinned (OpenSpec.ofChange mapsBackWrong)

/-- 'tabardlaw25.MapsOwn': WHATEVER THE INPUT: true; the input reads as it did. -/
def mapsOwnSpec : ChangeSpec := { name := "mapsOwn", fn := fun _ => fun
  | [d1, d2] => { results := [.lit (.bool true)], args := [d1, d2] }
  | _ => none }
def mapsOwnRow : OpenClaim := { program := "ytngpfbcjmlpplaa", sum := "0d2723e016790b4bf32e919c325007aa34d9499435a79469958c4fcd2c858279", func := "tabard/tabardlaw25.MapsOwn", spec := "mapsOwn", unfollowed := true, recurses := true, apart := false }
def MapsOwnSaid : Prop := mapsOwnRow.holds Try.pinned (OpenSpec.ofChange mapsOwnSpec)

/-- ITS FALSE NEIGHBOUR: 'it returns false'. Refute it at one input. -/
def mapsOwnWrong : ChangeSpec := { name := "mapsOwn", fn := fun _ => fun
  | [d1, d2] => { results := [.lit (.bool false)], args := [d1, d2] }
  | _ => none }
def MapsOwnWrongFalsely : Prop := mapsOwnRow.holds Try.pinned (OpenSpec.ofChange mapsOwnWrong)

/-- 'tabardlaw25.MapsEnters': WHATEVER THE INPUT: true; the input reads as it did. -/
def mapsEntersSpec : ChangeSpec := { name := "mapsEnters", fn := fun _ => fun
  | [d1, d2] => { results := [.lit (.bool true)], args := [d1, d2] }
  | _ => none }
def mapsEntersRow : OpenClaim := { program := "ytngpfbcjmlpplaa", sum := "0d2723e016790b4bf32e919c325007aa34d9499435a79469958c4fcd2c858279", func := "tabard/tabardlaw25.MapsEnters", spec := "mapsEnters", unfollowed := true, recurses := true, apart := false }
def MapsEntersSaid : Prop := mapsEntersRow.holds Try.pinned (OpenSpec.ofChange mapsEntersSpec)

/-- ITS FALSE NEIGHBOUR: 'it returns false'. Refute it at one input. -/
def mapsEntersWrong : ChangeSpec := { name := "mapsEnters", fn := fun _ => fun
  | [d1, d2] => { results := [.lit (.bool false)], args := [d1, d2] }
  | _ => none }
def MapsEntersWrongFalsely : Prop := mapsEntersRow.holds Try.pinned (OpenSpec.ofChange mapsEntersWrong)

/-- 'tabardlaw25.MapsRound': WHATEVER THE INPUT: true; the input reads as it did. -/
def mapsRoundSpec : ChangeSpec := { name := "mapsRound", fn := fun _ => fun
  | [d1, d2] => { results := [.lit (.bool true)], args := [d1, d2] }
  | _ => none }
def mapsRoundRow : OpenClaim := { program := "ytngpfbcjmlpplaa", sum := "0d2723e016790b4bf32e919c325007aa34d9499435a79469958c4fcd2c858279", func := "tabard/tabardlaw25.MapsRound", spec := "mapsRound", unfollowed := true, recurses := true, apart := false }
def MapsRoundSaid : Prop := mapsRoundRow.holds Try.pinned (OpenSpec.ofChange mapsRoundSpec)

/-- ITS FALSE NEIGHBOUR: 'it returns false'. Refute it at one input. -/
def mapsRoundWrong : ChangeSpec := { name := "mapsRound", fn := fun _ => fun
  | [d1, d2] => { results := [.lit (.bool false)], args := [d1, d2] }
  | _ => none }
def MapsRoundWrongFalsely : Prop := mapsRoundRow.holds Try.pinned (OpenSpec.ofChange mapsRoundWrong)

/-- 'tabardlaw25.MapsFrames': WHATEVER THE INPUT: true; the input reads as it did. -/
def mapsFramesSpec : ChangeSpec := { name := "mapsFrames", fn := fun _ => fun
  | [d1, d2, d3] => { results := [.lit (.bool true)], args := [d1, d2, d3] }
  | _ => none }
def mapsFramesRow : OpenClaim := { program := "ytngpfbcjmlpplaa", sum := "0d2723e016790b4bf32e919c325007aa34d9499435a79469958c4fcd2c858279", func := "tabard/tabardlaw25.MapsFrames", spec := "mapsFrames", unfollowed := true, recurses := true, apart := false }
def MapsFramesSaid : Prop := mapsFramesRow.holds Try.pinned (OpenSpec.ofChange mapsFramesSpec)

/-- ITS FALSE NEIGHBOUR: 'it returns false'. Refute it at one input. -/
def mapsFramesWrong : ChangeSpec := { name := "mapsFrames", fn := fun _ => fun
  | [d1, d2, d3] => { results := [.lit (.bool false)], args := [d1, d2, d3] }
  | _ => none }
def MapsFramesWrongFalsely : Prop := mapsFramesRow.holds Try.pinned (OpenSpec.ofChange mapsFramesWrong)

/- THE SECOND FORM. 'bulk': how many values and letters a reading holds, each counted each time it is reached (what is shared counts as often as it is met; a slice's spare places count too). A statement '..UptoSaid' is the law's where the arguments, and the package variables that the reading takes, are together of bulk at most 1048576: NARROWER than '..Said'. Prove '..Said' where nothing that the law and all that it calls make is longer than what came in: it says more and counts as full. Else prove '..UptoSaid'. A law counts once. -/
mutual
def uptoBulk {H : Type} : DataW H → Nat
  | .lit (.string bytes) => bytes.length + 1
  | .lit _ => 1
  | .nil => 1
  | .ptr d => uptoBulk d + 1
  | .slice elems spare => uptoBulkAll elems + uptoBulkAll spare + 1
  | .agg parts => uptoBulkAll parts + 1
  | .iface _ d => uptoBulk d + 1
  | .map entries => uptoBulkEntries entries + 1
  | .held _ => 1
def uptoBulkAll {H : Type} : List (DataW H) → Nat
  | [] => 0
  | d :: r => uptoBulk d + uptoBulkAll r
def uptoBulkEntries {H : Type} : List (Lit × DataW H) → Nat
  | [] => 0
  | x :: r => uptoBulkEntry x + uptoBulkEntries r
def uptoBulkEntry {H : Type} : Lit × DataW H → Nat
  | (.string bytes, d) => bytes.length + uptoBulk d + 1
  | (_, d) => uptoBulk d + 1
 end
def uptoSmall : (H : Type) → List (DataW H) → Bool := fun _ ds => decide (uptoBulkAll ds ≤ 1048576)
def OpenSpec.upto (s : _root_.Go.ChangeSpec) : _root_.Go.OpenSpec := { _root_.Go.OpenSpec.ofChange s with cond := some uptoSmall }

/-- 'tabardlaw25.MapsLocs', WHERE WHAT IT READS IS OF BULK AT MOST 1048576: true; the input reads as it did. -/
def mapsLocsUptoRow : OpenClaim := { program := "ytngpfbcjmlpplaa", sum := "0d2723e016790b4bf32e919c325007aa34d9499435a79469958c4fcd2c858279", func := "tabard/tabardlaw25.MapsLocs", spec := "mapsLocs", unfollowed := true, recurses := true, apart := false, narrowed := true }
def MapsLocsUptoSaid : Prop := mapsLocsUptoRow.holds Try.pinned (OpenSpec.upto mapsLocsSpec)

/-- 'tabardlaw25.MapsBack', WHERE WHAT IT READS IS OF BULK AT MOST 1048576: true; the input reads as it did. -/
def mapsBackUptoRow : OpenClaim := { program := "ytngpfbcjmlpplaa", sum := "0d2723e016790b4bf32e919c325007aa34d9499435a79469958c4fcd2c858279", func := "tabard/tabardlaw25.MapsBack", spec := "mapsBack", unfollowed := true, recurses := true, apart := false, narrowed := true }
def MapsBackUptoSaid : Prop := mapsBackUptoRow.holds Try.pinned (OpenSpec.upto mapsBackSpec)

/-- 'tabardlaw25.MapsOwn', WHERE WHAT IT READS IS OF BULK AT MOST 1048576: true; the input reads as it did. -/
def mapsOwnUptoRow : OpenClaim := { program := "ytngpfbcjmlpplaa", sum := "0d2723e016790b4bf32e919c325007aa34d9499435a79469958c4fcd2c858279", func := "tabard/tabardlaw25.MapsOwn", spec := "mapsOwn", unfollowed := true, recurses := true, apart := false, narrowed := true }
def MapsOwnUptoSaid : Prop := mapsOwnUptoRow.holds Try.pinned (OpenSpec.upto mapsOwnSpec)

/-- 'tabardlaw25.MapsEnters', WHERE WHAT IT READS IS OF BULK AT MOST 1048576: true; the input reads as it did. -/
def mapsEntersUptoRow : OpenClaim := { program := "ytngpfbcjmlpplaa", sum := "0d2723e016790b4bf32e919c325007aa34d9499435a79469958c4fcd2c858279", func := "tabard/tabardlaw25.MapsEnters", spec := "mapsEnters", unfollowed := true, recurses := true, apart := false, narrowed := true }
def MapsEntersUptoSaid : Prop := mapsEntersUptoRow.holds Try.pinned (OpenSpec.upto mapsEntersSpec)

/-- 'tabardlaw25.MapsRound', WHERE WHAT IT READS IS OF BULK AT MOST 1048576: true; the input reads as it did. -/
def mapsRoundUptoRow : OpenClaim := { program := "ytngpfbcjmlpplaa", sum := "0d2723e016790b4bf32e919c325007aa34d9499435a79469958c4fcd2c858279", func := "tabard/tabardlaw25.MapsRound", spec := "mapsRound", unfollowed := true, recurses := true, apart := false, narrowed := true }
def MapsRoundUptoSaid : Prop := mapsRoundUptoRow.holds Try.pinned (OpenSpec.upto mapsRoundSpec)

/-- 'tabardlaw25.MapsFrames', WHERE WHAT IT READS IS OF BULK AT MOST 1048576: true; the input reads as it did. -/
def mapsFramesUptoRow : OpenClaim := { program := "ytngpfbcjmlpplaa", sum := "0d2723e016790b4bf32e919c325007aa34d9499435a79469958c4fcd2c858279", func := "tabard/tabardlaw25.MapsFrames", spec := "mapsFrames", unfollowed := true, recurses := true, apart := false, narrowed := true }
def MapsFramesUptoSaid : Prop := mapsFramesUptoRow.holds Try.pinned (OpenSpec.upto mapsFramesSpec)

end Rows
end Go.Proofs.Ytngpfbcjmlpplaa
