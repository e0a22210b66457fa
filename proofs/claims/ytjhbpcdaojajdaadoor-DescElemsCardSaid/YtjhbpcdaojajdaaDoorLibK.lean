/- Short names for the steps that come most often. No program here. -/
import Derived.Test.YtjhbpcdaojajdaaDoorLibJ
set_option linter.unusedVariables false
set_option linter.unusedSimpArgs false
namespace Go.Proofs.YtjhbpcdaojajdaaDoor.LibK
open Go.RowKit Go.Proofs.YtjhbpcdaojajdaaDoor.LibS Go.Proofs.YtjhbpcdaojajdaaDoor.LibR Go.Proofs.YtjhbpcdaojajdaaDoor.LibT Go.Proofs.YtjhbpcdaojajdaaDoor.LibU Go.Proofs.YtjhbpcdaojajdaaDoor.LibV Go.Proofs.YtjhbpcdaojajdaaDoor.LibW Go.Proofs.YtjhbpcdaojajdaaDoor.LibX Go.Proofs.YtjhbpcdaojajdaaDoor.LibY Go.Proofs.YtjhbpcdaojajdaaDoor.LibQ Go.Proofs.YtjhbpcdaojajdaaDoor.LibP Go.Proofs.YtjhbpcdaojajdaaDoor.LibN Go.Proofs.YtjhbpcdaojajdaaDoor.LibH Go.Proofs.YtjhbpcdaojajdaaDoor.LibI Go.Proofs.YtjhbpcdaojajdaaDoor.LibC
section
variable {P : Program} {ops : Array Oper} {rest : List Oper} {a : Act} {w : World} {Q : Exit → Act → World → Prop} {N : Act → World → Prop} {ds : List Deferred} {n : Nat} {L : List (Nat × Value)} {x y : Operand} {v : Value} {ty : TypeId} {pos : String} {aft : Array Edge} {d : Tmp}
theorem nil_n (h : N a w) : wpList P ops (Exit.then N Q) [] a w := wpList_nil (then_n h)
theorem mv (fr : FrD ds n a L) (hx : evO L x = some v) (hlt : Nat.blt d n = true) (h : ∀ a', FrD ds n a' ((d, v) :: L) → wpList P ops Q rest a' w) : wpList P ops Q (⟨some d, .move x, ty, pos, aft, none⟩ :: rest) a w := lst rfl (ow_v fr (rn_move (fr.ev hx)) rfl hlt h)
theorem as_ (fr : FrD ds n a L) (hx : evO L x = some v) (hlt : Nat.blt d n = true) (h : ∀ a', FrD ds n a' ((d, v) :: L) → wpList P ops Q rest a' w) : wpList P ops Q (⟨some d, .assign x, ty, pos, aft, none⟩ :: rest) a w := lst rfl (ow_v fr (rn_assign (fr.ev hx)) rfl hlt h)
theorem eq_ {k : IntKind} {i j : Int} {t u : TypeId} (fr : FrD ds n a L) (hx : evO L x = some (.int k i)) (hy : evO L y = some (.int k j)) (hlt : Nat.blt d n = true) (h : ∀ a', FrD ds n a' ((d, .bool (i == j)) :: L) → wpList P ops Q rest a' w) : wpList P ops Q (⟨some d, .binOp .eql t x y u, ty, pos, aft, none⟩ :: rest) a w := lst rfl (ow_v fr (rn_eql (fr.ev hx) (fr.ev hy)) rfl hlt h)
end
section
variable {P : Program} {ops : Array Oper} {o : Oper} {a : Act} {w : World} {Q : Exit → Act → World → Prop} {S : World → Prop} {fuel : Nat} {listed : Array Bool} {ds : List Deferred} {n : Nat} {L : List (Nat × Value)}
def drc (ops : Array Oper) (listed : Array Bool) (i : Nat) : Bool := Region.noSelect ops && (Region.free .any ops listed i && (Region.ready .any ops listed).contains i)
theorem drc_of {i : Nat} (h : drc ops listed i = true) : Region.noSelect ops = true ∧ Region.free .any ops listed i = true ∧ (Region.ready .any ops listed).contains i = true := by
  unfold drc at h
  simp only [Bool.and_eq_true] at h
  exact h
theorem dt (i : Nat) {v : Value} (hi : ops[i]? = some o) (hc : drc ops listed i = true)
    (hQ : ∀ c a w, Q (.panic c) (a.put o.dst v) w → Q (.panic c) a w) (fr : FrD ds n a L) (hg : o.guard = none) (hS : S w) (hrun : ∀ w, S w → (execOp a.eval o).run P w = .ok (.value v) w) {d : Tmp} (hd : o.dst = some d) (hlt : Nat.blt d n = true)
    (h : ∀ a', FrD ds n a' ((d, v) :: L) → wpAnyH P .any ops Q S fuel (listed.setIfInBounds i true) a' w) : wpAnyH P .any ops Q S (fuel + 1) listed a w :=
  dr_take i hi (drc_of hc).1 (drc_of hc).2.1 (drc_of hc).2.2 hQ fr hg hS hrun hd hlt h
theorem dty (i : Nat) {v : Value} (hi : ops[i]? = some o) (hc : drc ops listed i = true)
    (hQ : ∀ c a w, Q (.panic c) (a.put o.dst v) w → Q (.panic c) a w) (fr : FrD ds n a L) (hw : Region.wanted o (yielded ops a.tmps) = true) (hS : S w) (hrun : ∀ w, S w → (execOp a.eval o).run P w = .ok (.value v) w) {d : Tmp} (hd : o.dst = some d) (hlt : Nat.blt d n = true)
    (h : ∀ a', FrD ds n a' ((d, v) :: L) → wpAnyH P .any ops Q S fuel (listed.setIfInBounds i true) a' w) : wpAnyH P .any ops Q S (fuel + 1) listed a w :=
  dr_take_y i hi (drc_of hc).1 (drc_of hc).2.1 (drc_of hc).2.2 hQ fr hw hS hrun hd hlt h
theorem dtn (i : Nat) (hi : ops[i]? = some o) (hc : drc ops listed i = true)
    (hQ : ∀ c a w, Q (.panic c) (a.put o.dst undef) w → Q (.panic c) a w) (fr : FrD ds n a L) (hw : Region.wanted o (yielded ops a.tmps) = false) (hS : S w) {d : Tmp} (hd : o.dst = some d) (hlt : Nat.blt d n = true)
    (h : ∀ a', FrD ds n a' ((d, undef) :: L) → wpAnyH P .any ops Q S fuel (listed.setIfInBounds i true) a' w) : wpAnyH P .any ops Q S (fuel + 1) listed a w :=
  dr_take_n i hi (drc_of hc).1 (drc_of hc).2.1 (drc_of hc).2.2 hQ fr hw hS hd hlt h
end
end Go.Proofs.YtjhbpcdaojajdaaDoor.LibK
