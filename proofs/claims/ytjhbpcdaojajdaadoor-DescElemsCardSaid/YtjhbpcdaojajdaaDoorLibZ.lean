/- slicing. No program here. -/
import Derived.Test.YtjhbpcdaojajdaaDoorLibX
set_option linter.unusedVariables false
set_option linter.unusedSimpArgs false
namespace Go.Proofs.YtjhbpcdaojajdaaDoor.LibZ
open Go.RowKit Go.Proofs.YtjhbpcdaojajdaaDoor.LibS Go.Proofs.YtjhbpcdaojajdaaDoor.LibR
variable {P : Program} {w : World} {ρ : Operand → Value} {dst : Option Tmp} {ty : TypeId} {pos : String} {aft : Array Edge} {gd : Option (Nat × Bool)} {x y z : Operand} {T e : TypeId} {A : Option Addr} {n c s : Nat}
/-- x[:n:n] at n = len(x) -/
theorem rn_clip (hx : ρ x = .slice A n c) (hy : ρ y = .int .i64 (n : Nat)) (hz : ρ z = .int .i64 (n : Nat)) (hT : P.underlying T = some (.slice e)) (hs : (P.info? e).map (·.size) = some s) (hc : n ≤ c) :
    (execOp ρ ⟨dst, .slice T x none (some y) (some z), ty, pos, aft, gd⟩).run P w = .ok (.value (.slice A n n)) w := by
  cases hj : P.info? e with
  | none => rw [hj] at hs; cases hs
  | some j =>
    rw [hj] at hs
    have h0 : A.map (fun a => a.add 0) = A := by cases A <;> simp [Addr.add]
    have h1 : ¬ ((n : Int) > (c : Int)) := by omega
    simp [execOp, hx, hy, hz, Instr.sliceAt, Instr.slice, Instr.sliceBounds, Instr.sliceBound, asIntOf, Sem.run_bind, run_underlying hT, sizeOf, typeInfo, hj, hc, h0, h1]
end Go.Proofs.YtjhbpcdaojajdaaDoor.LibZ
