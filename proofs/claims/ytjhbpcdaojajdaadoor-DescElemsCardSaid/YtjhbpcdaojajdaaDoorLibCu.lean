/- Cuts: the ways through a piece of code meet again behind it. No program here. -/
import Derived.Test.YtjhbpcdaojajdaaDoorLibU
set_option linter.unusedVariables false
namespace Go.Proofs.YtjhbpcdaojajdaaDoor.LibCu
open Go.RowKit Go.Proofs.YtjhbpcdaojajdaaDoor.LibS
theorem wp_cut {P : Program} {c : Code} {Q : Exit → Act → World → Prop} {a : Act} {w : World} (I : Act → World → Prop) (h : c.wp P (Exit.then I Q) a w) (hN : ∀ a' w', I a' w' → Q .normal a' w') : c.wp P Q a w :=
  wp_mono h fun e a w hq => by
    cases e with
    | normal => exact hN _ _ hq
    | _ => exact hq
/-- a slot's value told otherwise -/
theorem fr_val {ds : List Deferred} {n : Nat} {a : Act} {L : List (Nat × Value)} {d : Nat} {v v' : Value} (fr : FrD ds n a L) (h : lkS L d = some v) (e : v' = v) : FrD ds n a ((d, v') :: L) := by
  subst e
  refine ⟨fr.size, fr.defers, fun e u hu => ?_⟩
  unfold lkS at hu
  cases hb : Nat.beq d e
  · rw [hb] at hu; exact fr.get e u hu
  · rw [hb] at hu
    have := Nat.eq_of_beq_eq_true hb
    subst this
    simp at hu
    subst hu
    exact fr.get d _ h
end Go.Proofs.YtjhbpcdaojajdaaDoor.LibCu
