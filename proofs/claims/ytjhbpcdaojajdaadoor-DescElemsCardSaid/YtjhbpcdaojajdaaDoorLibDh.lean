/- A deferred function that recovers and keeps nothing; leaving without a deferred call; what was recovered, asked. No program here. -/
import Derived.Test.YtjhbpcdaojajdaaDoorLibDg
import Derived.Test.YtjhbpcdaojajdaaDoorLibN
import Derived.Test.YtjhbpcdaojajdaaDoorLibPn
set_option linter.unusedVariables false
set_option linter.unusedSimpArgs false
namespace Go.Proofs.YtjhbpcdaojajdaaDoor.LibDh
open Go.RowKit Go.Proofs.YtjhbpcdaojajdaaDoor.LibS Go.Proofs.YtjhbpcdaojajdaaDoor.LibR Go.Proofs.YtjhbpcdaojajdaaDoor.LibT Go.Proofs.YtjhbpcdaojajdaaDoor.LibU Go.Proofs.YtjhbpcdaojajdaaDoor.LibV Go.Proofs.YtjhbpcdaojajdaaDoor.LibW Go.Proofs.YtjhbpcdaojajdaaDoor.LibX Go.Proofs.YtjhbpcdaojajdaaDoor.LibY Go.Proofs.YtjhbpcdaojajdaaDoor.LibQ Go.Proofs.YtjhbpcdaojajdaaDoor.LibC Go.Proofs.YtjhbpcdaojajdaaDoor.LibDf Go.Proofs.YtjhbpcdaojajdaaDoor.LibDg Go.Proofs.YtjhbpcdaojajdaaDoor.LibN
section
variable {P : Program} {w0 w : World} {K : List Nat} {M : List It} {n : Nat} {ds : List Deferred} {a : Act} {L : List (Nat × Value)}
theorem rerootR {w0 w : World} {K : List Nat} {L M : List It} (st : St w0 K w (L ++ M)) : St w (wrK M) w M := (st.sub (List.sublist_append_right L M)).reroot
theorem workedR {w0 w w' : World} {K : List Nat} {L M N : List It} (st : St w0 K w (L ++ M)) (st' : St w (wrK M) w' N) (hf : ∀ it ∈ N, it.wr = true) : St w0 K w' (L ++ N) :=
  (St.worked (st.perm List.perm_append_comm) st' hf).perm List.perm_append_comm
theorem retDn {fn : Func} {R : Ending → World → Prop} (fr : FrL n a L) (h : ∃ v, (results fn a.tmps).run P w = .ok v w ∧ R (.returned v) w) : bodyPostD P fn R .ret a w := by
  show Leaves P fn a.tmps R a.defers .returning w
  rw [fr.defers]
  exact h
theorem res2 {fn : Func} {r s : ResultVar} {v u : Value} (hr : fn.results = #[r, s]) (h1 : (rvRun a.tmps r).run P w = .ok v w) (h2 : (rvRun a.tmps s).run P w = .ok u w) : (results fn a.tmps).run P w = .ok (.tuple #[v, u]) w := by
  simp [results_rv, hr, h1, h2]
theorem res3 {fn : Func} {r s t : ResultVar} {v u x : Value} (hr : fn.results = #[r, s, t]) (h1 : (rvRun a.tmps r).run P w = .ok v w) (h2 : (rvRun a.tmps s).run P w = .ok u w) (h3 : (rvRun a.tmps t).run P w = .ok x w) : (results fn a.tmps).run P w = .ok (.tuple #[v, u, x]) w := by
  simp [results_rv, hr, h1, h2, h3]
theorem callsD_rec1 {f : FuncId} {fn : Func} {id : Nat} {c : Code} {vs : List Value} {u u2 : FrameMode} {R : Ending → FrameMode → World → Prop} {d : Tmp} {ty : TypeId} {pos : String} {aft : Array Edge} {ts : Array TypeId} {v : Value}
    (hf : P.funcs[f]? = some fn) (hb : fn.body = some (.seq (.region id #[⟨some d, .call { callee := .builtin .recover, args := #[], argTypes := ts }, ty, pos, aft, none⟩] false) c)) (hn : fn.ntmps = n) (hvs : vs.length ≤ n) (hlt : Nat.blt d n = true)
    (hrec : ∀ (c₀ : Frame) (cs : List Frame), c₀.mode = u → (recoverD (c₀ :: cs) = none ∧ v = .nilIface ∧ u2 = u) ∨ recoverD (c₀ :: cs) = some (v, { c₀ with mode := u2 } :: cs))
    (h : ∀ a, FrL n a ((d, v) :: argL 0 vs) → c.wp P (bodyPost P fn fun e w' => R e u2 w') a w) : CallsD P f vs.toArray u w R := by
  refine callsD_of_wpS hf hb fun c₀ cs hm => ?_
  have fr0 : FrL n { tmps := vs.toArray ++ Array.replicate (fn.ntmps - vs.toArray.size) undef, defers := [] } (argL 0 vs) := by
    refine ⟨?_, rfl, fun d v hl => ?_⟩
    · simp [hn]; omega
    · obtain ⟨_, h2⟩ := lkS_argL vs 0 d v hl
      rw [Nat.sub_zero] at h2
      have hd := (List.getElem?_eq_some_iff.1 h2).1
      simp only [Array.getD_eq_getD_getElem?]
      rw [Array.getElem?_append_left (by simpa using hd)]
      simp [h2]
  generalize ({ tmps := vs.toArray ++ Array.replicate (fn.ntmps - vs.toArray.size) undef, defers := [] } : Act) = a0 at fr0 ⊢
  refine wpS_seq (wpS_region ?_)
  have e1 : (execOp a0.eval ⟨some d, .call { callee := .builtin .recover, args := #[], argTypes := ts }, ty, pos, aft, none⟩).run P w = .ok .recover w := by
    simp [execOp, go_sem]
  have fin : ∀ cs', cs' = ({ c₀ with mode := u2 } : Frame) :: cs → wpOpsS P #[⟨some d, .call { callee := .builtin .recover, args := #[], argTypes := ts }, ty, pos, aft, none⟩] (Exit.thenS (c.wpS P (bodyPostS P fn c₀ cs R)) (bodyPostS P fn c₀ cs R)) [] (a0.put (some d) v) cs' w := fun cs' hcs => by
    subst hcs
    have fr1 := fr0.put v hlt
    simp only [wpOpsS]
    show c.wpS P (bodyPostS P fn c₀ cs R) _ _ w
    refine wpS_of_wp (wp_mono (h _ fr1) fun e a' w' hp => ?_)
    cases e with
    | normal => exact ⟨hp.1, u2, rfl, hp.2⟩
    | ret => exact ⟨hp.1, u2, rfl, hp.2⟩
    | panic ch => exact ⟨hp.1, u2, rfl, hp.2⟩
    | outgrown => exact ⟨u2, hp⟩
    | exit id => exact hp.elim
    | goto l => exact hp.elim
  show wpOpsS P _ _ [0] a0 (c₀ :: cs) w
  rw [wpOpsS]
  simp only [List.getElem?_toArray, List.getElem?_cons_zero, Region.wanted, if_true, e1]
  rcases hrec c₀ cs hm with ⟨hr, rfl, rfl⟩ | hr
  · rw [hr]
    exact fin _ (by rw [← hm])
  · rw [hr]
    exact fin _ rfl
theorem run_eqi_nn {t : TypeId} {ms : Array (String × TypeId)} {w : World} (h : P.underlying t = some (.interface ms)) : (binOp .eql t .nilIface .nilIface).run P w = .ok (.bool true) w := by
  have e : (Op.equal t .nilIface .nilIface).run P w = .ok true w := by
    unfold Op.equal
    show (Op.equalIn (9999 + 1) t .nilIface .nilIface).run P w = _
    rw [Op.equalIn]
    simp [run_underlying h]
  simp [binOp, e]
theorem run_eqi_in {t t1 : TypeId} {v : Value} {ms : Array (String × TypeId)} {w : World} (h : P.underlying t = some (.interface ms)) : (binOp .eql t (.iface t1 v) .nilIface).run P w = .ok (.bool false) w := by
  have e : (Op.equal t (.iface t1 v) .nilIface).run P w = .ok false w := by
    unfold Op.equal
    show (Op.equalIn (9999 + 1) t (.iface t1 v) .nilIface).run P w = _
    rw [Op.equalIn]
    simp [run_underlying h]
  simp [binOp, e]
theorem rn_eqi_t {ρ : Operand → Value} {dst : Option Tmp} {ty : TypeId} {pos : String} {aft : Array Edge} {gd : Option (Nat × Bool)} {t u : TypeId} {x : Operand} {c : Value} {ms : Array (String × TypeId)} (hx : ρ x = .nilIface) (hy : ρ (.const c) = .nilIface) (ht : P.underlying t = some (.interface ms)) : (execOp ρ ⟨dst, .binOp .eql t x (.const c) u, ty, pos, aft, gd⟩).run P w = .ok (.value (.bool true)) w := by
  simp only [execOp, hx, hy, eqGuard_nil_constR, Sem.run_bind, Sem.run_pure, pure_bind, Result.andThen_ok, run_eqi_nn ht]
theorem rn_eqi_f {ρ : Operand → Value} {dst : Option Tmp} {ty : TypeId} {pos : String} {aft : Array Edge} {gd : Option (Nat × Bool)} {t u t1 : TypeId} {v : Value} {x : Operand} {c : Value} {ms : Array (String × TypeId)} (hx : ρ x = .iface t1 v) (hy : ρ (.const c) = .nilIface) (ht : P.underlying t = some (.interface ms)) : (execOp ρ ⟨dst, .binOp .eql t x (.const c) u, ty, pos, aft, gd⟩).run P w = .ok (.value (.bool false)) w := by
  have e : eqGuard .eql t x (.const c) (.iface t1 v) .nilIface = pure () := by unfold eqGuard; simp
  simp only [execOp, hx, hy, e, Sem.run_bind, Sem.run_pure, pure_bind, Result.andThen_ok, run_eqi_in ht]
theorem rn_tai {ρ : Operand → Value} {dst : Option Tmp} {ty : TypeId} {pos : String} {aft : Array Edge} {gd : Option (Nat × Bool)} {t xt : TypeId} {v : Value} {x : Operand} {k : IntKind} (hx : ρ x = .iface t v) (ht : P.underlying t = some (.int k)) : (execOp ρ ⟨dst, .typeAssert x xt t true, ty, pos, aft, gd⟩).run P w = .ok (.value (.tuple #[v, .bool true])) w := by
  simp [execOp, hx, Instr.typeAssert, run_underlying ht]
end
end Go.Proofs.YtjhbpcdaojajdaaDoor.LibDh
