import Derived.Test.YtccagiflocnioaaC7
import Derived.Test.YtccagiflocnioaaLibK2
import Derived.Test.YtccagiflocnioaaLibP
import Derived.Test.YtccagiflocnioaaLibN
import Derived.Test.YtccagiflocnioaaLibH
import Derived.Test.YtccagiflocnioaaLibA
import Derived.Test.YtccagiflocnioaaLibZ
import Derived.Test.YtccagiflocnioaaLibI
import Derived.Test.YtccagiflocnioaaLibJ
import Derived.Test.YtccagiflocnioaaLibK
import Derived.Test.YtccagiflocnioaaLibDf
import Derived.Test.YtccagiflocnioaaLibAs
import Derived.Test.YtccagiflocnioaaLibCu
import Derived.Test.YtccagiflocnioaaLibMf
import Derived.Test.YtccagiflocnioaaLibPn
set_option linter.unusedVariables false
set_option linter.unusedSimpArgs false
set_option maxRecDepth 100000
namespace Go.Proofs.Ytccagiflocnioaa.C8
open Go.Lib Go.RowKit Go.Proofs.Ytccagiflocnioaa.LibA Go.Proofs.Ytccagiflocnioaa.LibC Go.Proofs.Ytccagiflocnioaa.LibS Go.Proofs.Ytccagiflocnioaa.LibR Go.Proofs.Ytccagiflocnioaa.LibT Go.Proofs.Ytccagiflocnioaa.LibU Go.Proofs.Ytccagiflocnioaa.LibV Go.Proofs.Ytccagiflocnioaa.LibW Go.Proofs.Ytccagiflocnioaa.LibX Go.Proofs.Ytccagiflocnioaa.LibY Go.Proofs.Ytccagiflocnioaa.LibZ Go.Proofs.Ytccagiflocnioaa.LibQ Go.Proofs.Ytccagiflocnioaa.LibP Go.Proofs.Ytccagiflocnioaa.LibN Go.Proofs.Ytccagiflocnioaa.LibH Go.Proofs.Ytccagiflocnioaa.LibI Go.Proofs.Ytccagiflocnioaa.LibJ Go.Proofs.Ytccagiflocnioaa.LibK Go.Proofs.Ytccagiflocnioaa.LibM Go.Proofs.Ytccagiflocnioaa.LibK2 Go.Proofs.Ytccagiflocnioaa.LibDf Go.Proofs.Ytccagiflocnioaa.LibAs Go.Proofs.Ytccagiflocnioaa.LibCu Go.Proofs.Ytccagiflocnioaa.LibMf Go.Proofs.Ytccagiflocnioaa.LibPn Go.Proofs.Ytccagiflocnioaa.C1 Go.Proofs.Ytccagiflocnioaa.C4 Go.Proofs.Ytccagiflocnioaa.C5 Go.Proofs.Ytccagiflocnioaa.C6 Go.Proofs.Ytccagiflocnioaa.C7
theorem run_neq_nn {t : TypeId} {ms : Array (String × TypeId)} {w : World} (h : Try.prog.underlying t = some (.interface ms)) : (binOp .neq t .nilIface .nilIface).run Try.prog w = .ok (.bool false) w := by
  have e : (Op.equal t .nilIface .nilIface).run Try.prog w = .ok true w := by
    unfold Op.equal
    show (Op.equalIn (9999 + 1) t .nilIface .nilIface).run Try.prog w = _
    rw [Op.equalIn]
    simp [run_underlying h]
  simp [binOp, e]
theorem rn_nei {ρ : Operand → Value} {w : World} {dst : Option Tmp} {ty : TypeId} {pos : String} {aft : Array Edge} {gd : Option (Nat × Bool)} {t u : TypeId} {x : Operand} {c : Value} {ms : Array (String × TypeId)} (hx : ρ x = .nilIface) (hy : ρ (.const c) = .nilIface) (ht : Try.prog.underlying t = some (.interface ms)) : (execOp ρ ⟨dst, .binOp .neq t x (.const c) u, ty, pos, aft, gd⟩).run Try.prog w = .ok (.value (.bool false)) w := by
  simp only [execOp, hx, hy, eqGuard_nil_constR, Sem.run_bind, Sem.run_pure, pure_bind, Result.andThen_ok, run_neq_nn ht]
theorem res3 {P : Program} {w : World} {a : Act} {fn : Func} {r s t : ResultVar} {v u x : Value} (hr : fn.results = #[r, s, t]) (h1 : (rvRun a.tmps r).run P w = .ok v w) (h2 : (rvRun a.tmps s).run P w = .ok u w) (h3 : (rvRun a.tmps t).run P w = .ok x w) : (results fn a.tmps).run P w = .ok (.tuple #[v, u, x]) w := by
  simp [results_rv, hr, h1, h2, h3]
def zC : CstD := (0, ByteArray.empty, 0, 0, 0)
def cA : CstD := (1, ⟨#[65]⟩, 0, 0, 0)
def bsL : List UInt8 := [0, 2, 1, 0, 1, 65]


theorem clo_ret (p1 p2 p3 : Value) (w0 : World) : CallsD Try.prog 35 #[p1, p2, p3] .returning w0 fun e u' w' => (∃ v, e = .returned v) ∧ u' = .returning ∧ Agr [] w0 w' := by
  refine callsD_rec (v := .nilIface) (u2 := .returning) (vs := [p1, p2, p3]) Try.func35 rfl Try.ntmps35 (by simp) rfl rfl (fun c₀ cs hm => .inl ⟨by simp [recoverD, hm], rfl, rfl⟩) ?_;intro a fr;have st := St.start w0 [];refine wp_seq ?_;refine reg ?_;refine mv fr rfl rfl ?_;intro a fr;refine lst rfl (ow_v fr (rn_nei (fr.ev rfl) (fr.ev rfl) Try.underlying20) rfl rfl ?_);intro a fr;refine nil_n ?_;refine cond_f fr rfl rfl ?_;refine wp_skip ?_;refine ret_end ?_;refine ret0 Try.results35 fr ?_;exact ⟨⟨_, rfl⟩, rfl, st.agr⟩

end Go.Proofs.Ytccagiflocnioaa.C8
