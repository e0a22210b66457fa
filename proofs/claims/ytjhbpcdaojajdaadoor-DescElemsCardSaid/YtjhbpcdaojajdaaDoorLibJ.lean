/- More steps: look-ups without ok. No program here. -/
import Derived.Test.YtjhbpcdaojajdaaDoorLibI
set_option linter.unusedVariables false
set_option linter.unusedSimpArgs false
namespace Go.Proofs.YtjhbpcdaojajdaaDoor.LibJ
open Go.RowKit Go.Proofs.YtjhbpcdaojajdaaDoor.LibS Go.Proofs.YtjhbpcdaojajdaaDoor.LibR Go.Proofs.YtjhbpcdaojajdaaDoor.LibT Go.Proofs.YtjhbpcdaojajdaaDoor.LibU Go.Proofs.YtjhbpcdaojajdaaDoor.LibV Go.Proofs.YtjhbpcdaojajdaaDoor.LibW Go.Proofs.YtjhbpcdaojajdaaDoor.LibX Go.Proofs.YtjhbpcdaojajdaaDoor.LibY Go.Proofs.YtjhbpcdaojajdaaDoor.LibQ Go.Proofs.YtjhbpcdaojajdaaDoor.LibP Go.Proofs.YtjhbpcdaojajdaaDoor.LibN Go.Proofs.YtjhbpcdaojajdaaDoor.LibH Go.Proofs.YtjhbpcdaojajdaaDoor.LibI Go.Proofs.YtjhbpcdaojajdaaDoor.LibC
section
variable {κ ν : Type} {P : Program} {w : World} {b : Nat} {l : List (κ × ν)} {vf : ν → Value} {kf : κ → Value}
theorem rn_lookup1 [BEq κ] {ρ : Operand → Value} {dst : Option Tmp} {ty : TypeId} {pos : String} {aft : Array Edge} {gd : Option (Nat × Bool)} {x y : Operand} {T kt et : TypeId} {kd : TypeDesc} {z : Value} {k : κ} (hx : ρ x = .map (some b)) (hy : ρ y = kf k) (hT : P.underlying T = some (.map kt et)) (hkt : P.underlying kt = some kd)
    (hk : ∀ a b, Instr.sameNow kd (kf a) (kf b) = some (a == b)) (hck : ∀ e (w : World), (Instr.checkKey e 10000 kt (kf k)).run P w = .ok () w) (hz : ∀ w, (zeroValue et).run P w = .ok z w) (h : MapIs kf vf b l w) :
    (execOp ρ ⟨dst, .lookup T x y false, ty, pos, aft, gd⟩).run P w = .ok (.value (match lkp l k with | some v => vf v | none => z)) w := by
  obtain ⟨es, cl, h1, h2⟩ := h
  have hf := findNow_is (vf := vf) hk k l es.toList 0 h2
  have hgo : (getObj b).run P w = .ok (.map es cl) w := by simp [getObj, Sem.run, h1]
  have hfk : (Instr.findKey kt (kf k) es.toList).run P w = .ok (match lkp l k with | some v => (Instr.findNow kd (kf k) es.toList 0).bind id | none => none) w := by
    unfold Instr.findKey
    simp only [Sem.run_bind, run_underlying hkt, Result.andThen_ok]
    rcases hf with ⟨h4, h5⟩ | ⟨v, j, h4, h5, _⟩
    · rw [h5, h4]; rfl
    · rw [h5, h4]; rfl
  simp only [execOp, hx, hy, Instr.lookup, Sem.run_bind, run_underlying hT, Result.andThen_ok, Sem.run_pure, pure_bind, hgo, hck, hfk]
  rcases hf with ⟨h4, h5⟩ | ⟨v, j, h4, h5, _⟩
  · simp [h4, hz w]
  · simp [h4, h5]
end
end Go.Proofs.YtjhbpcdaojajdaaDoor.LibJ
