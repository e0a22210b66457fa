/- Panics in the small logic. No program here. -/
import Derived.Test.YtjhbpcdaojajdaaDoorLibDf
set_option linter.unusedVariables false
set_option linter.unusedSimpArgs false
namespace Go.Proofs.YtjhbpcdaojajdaaDoor.LibPn
open Go.RowKit Go.Proofs.YtjhbpcdaojajdaaDoor.LibS Go.Proofs.YtjhbpcdaojajdaaDoor.LibR Go.Proofs.YtjhbpcdaojajdaaDoor.LibT Go.Proofs.YtjhbpcdaojajdaaDoor.LibU Go.Proofs.YtjhbpcdaojajdaaDoor.LibC
section
variable {P : Program} {w0 w : World} {K : List Nat} {M M0 : List It} {n : Nat} {ds : List Deferred} {a : Act} {L : List (Nat × Value)} {Q : Exit → Act → World → Prop} {N : Act → World → Prop} {X : Act → World → Prop} {i : Nat} {ch : List PanicEntry} {o : Oper}
theorem then_p (h : Q (.panic ch) a w) : Exit.then N Q (.panic ch) a w := h
theorem blk_p (h : Q (.panic ch) a w) : Exit.inBlock i Q (.panic ch) a w := h
theorem pan_end {fn : Func} {R : Ending → World → Prop} (fr : FrL n a L) (h : R (.panicked ch) w) : bodyPost P fn R (.panic ch) a w := ⟨fr.defers, h⟩
theorem ow_panic (fr : FrD ds n a L) {x : Operand} {t : TypeId} {v : Value} (ho : o.op = .panic x) (hx : evO L x = some (.iface t v)) (h : Q (.panic [{ v := .iface t v, recovered := false }]) a w) : o.wp P a w X Q := by
  unfold Oper.wp
  have hr : (execOp a.eval o).run P w = .halt (.panic (.iface t v)) w := by
    simp only [execOp, ho, fr.ev hx, Sem.run_bind, run_panic_iface]
    rfl
  rw [hr]
  exact h
theorem rn_mkI {ρ : Operand → Value} {dst : Option Tmp} {ty : TypeId} {pos : String} {aft : Array Edge} {gd : Option (Nat × Bool)} {x : Operand} {t : TypeId} {v : Value} (hx : ρ x = v) (ht : P.concrete t = true) : (execOp ρ ⟨dst, .makeInterface t x, ty, pos, aft, gd⟩).run P w = .ok (.value (.iface t v)) w := by
  simp only [execOp, hx, Sem.run_bind, run_makeInterface w t v ht, Result.andThen_ok, Sem.run_pure]
end
end Go.Proofs.YtjhbpcdaojajdaaDoor.LibPn
