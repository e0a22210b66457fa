/- Deferred closures in the small logic: the deferring, the leaving, a callee's panic. No program here. -/
import Derived.Test.YtjhbpcdaojajdaaDoorLibK2
import Derived.Recover
set_option linter.unusedVariables false
set_option linter.unusedSimpArgs false
namespace Go.Proofs.YtjhbpcdaojajdaaDoor.LibDf
open Go.RowKit Go.Proofs.YtjhbpcdaojajdaaDoor.LibS Go.Proofs.YtjhbpcdaojajdaaDoor.LibR Go.Proofs.YtjhbpcdaojajdaaDoor.LibT Go.Proofs.YtjhbpcdaojajdaaDoor.LibU Go.Proofs.YtjhbpcdaojajdaaDoor.LibV Go.Proofs.YtjhbpcdaojajdaaDoor.LibW Go.Proofs.YtjhbpcdaojajdaaDoor.LibX Go.Proofs.YtjhbpcdaojajdaaDoor.LibY Go.Proofs.YtjhbpcdaojajdaaDoor.LibQ Go.Proofs.YtjhbpcdaojajdaaDoor.LibC
section
variable {P : Program} {w0 w : World} {K : List Nat} {M : List It} {n : Nat} {ds : List Deferred} {a : Act} {L : List (Nat × Value)} {Q : Exit → Act → World → Prop} {X : Act → World → Prop} {op : Oper}
/-- the closure that is deferred -/
def dfF (f : FuncId) (caps : Array Value) : Deferred := { target := .fn (.func f) caps, args := #[] }
theorem ow_defer (fr : FrD ds n a L) {x : Operand} {ts : Array TypeId} {f : FuncId} {caps : Array Value} (ho : op.op = .defer { callee := .value x, args := #[], argTypes := ts }) (hx : evO L x = some (.func (.func f) #[] caps)) (hd : op.dst = none)
    (h : ∀ a', FrD (dfF f caps :: ds) n a' L → X a' w) : op.wp P a w X Q := by
  have hr : (execOp a.eval op).run P w = .ok (.defer (dfF f caps)) w := by
    have e := fr.ev hx
    simp [execOp, ho, resolve, Deferred.ofValue, e, Sem.run_bind, Sem.run_pure, dfF]
  unfold Oper.wp
  rw [hr]
  show X (Act.put { a with defers := dfF f caps :: a.defers } op.dst undef) w
  rw [hd, fr.defers]
  exact h _ ⟨fr.size, rfl, fr.get⟩
/-- a callee that panics -/
theorem ow_callp (fr : FrD ds n a L) {f : FuncId} {x : Operand} {xs : List Operand} {ts : Array TypeId} {vs : List Value} {ch : List PanicEntry} {G : World → Prop} (ho : op.op = .call { callee := .value x, args := xs.toArray, argTypes := ts }) (hx : evO L x = some (.func (.func f) #[] #[])) (hvs : evs L xs = some vs) (hcf : ∀ args w, (callFunc f args).run P w = .ok (.enter f args) w)
    (hc : Calls P f vs.toArray w fun e w' => e = .panicked ch ∧ G w') (h : ∀ w', G w' → Q (.panic ch) a w') : op.wp P a w X Q := by
  have hm := evs_map fr hvs
  have e := fr.ev hx
  have hr : (execOp a.eval op).run P w = .ok (.enter f vs.toArray) w := by
    subst hm
    simp only [execOp, ho, resolve, invoke, Deferred.ofValue, e, List.map_toArray, Sem.run_bind, Sem.run_pure, Result.andThen_ok]
    simp [hcf]
  unfold Oper.wp
  rw [hr]
  show Calls P f vs.toArray w _
  refine hc.mono fun e w' ⟨he, hg⟩ => ?_
  subst he
  exact h w' hg
theorem enterDf {f : FuncId} {fn : Func} {c : Code} {vs : List Value} {R : Ending → World → Prop} (hf : P.funcs[f]? = some fn) (hb : fn.body = some c) (hn : fn.ntmps = n) (hvs : vs.length ≤ n)
    (h : ∀ a, FrL n a (argL 0 vs) → c.wp P (bodyPostD P fn R) a w) : Calls P f vs.toArray w R := by
  refine calls_of_wp_defers hf hb (h _ ⟨?_, rfl, fun d v hl => ?_⟩)
  · simp [hn]; omega
  · obtain ⟨_, h2⟩ := lkS_argL vs 0 d v hl
    rw [Nat.sub_zero] at h2
    have hd := (List.getElem?_eq_some_iff.1 h2).1
    simp only [Array.getD_eq_getD_getElem?]
    rw [Array.getElem?_append_left (by simpa using hd)]
    simp [h2]
/-- leaving behind one deferred closure that lets all go on -/
theorem retDf {fn : Func} {R : Ending → World → Prop} {f : FuncId} {caps : Array Value} {G : World → Prop} (fr : FrD [dfF f caps] n a L) (hcf : ∀ args w, (callFunc f args).run P w = .ok (.enter f args) w)
    (hc : CallsD P f caps .returning w fun e u' w' => (∃ v, e = .returned v) ∧ u' = .returning ∧ G w') (h : ∀ w', G w' → ∃ v, (results fn a.tmps).run P w' = .ok v w' ∧ R (.returned v) w') : bodyPostD P fn R .ret a w := by
  show Leaves P fn a.tmps R a.defers .returning w
  rw [fr.defers]
  refine leaves_cons (f := f) (args := caps) (by simp) (by simp [invoke, hcf]) (hc.mono ?_)
  rintro e u' w' ⟨⟨v, rfl⟩, rfl, hg⟩
  exact h w' hg
/-- leaving by a panic that the deferred closure recovers -/
theorem panDf {fn : Func} {R : Ending → World → Prop} {f : FuncId} {caps : Array Value} {ch : List PanicEntry} {G : World → Prop} (fr : FrD [dfF f caps] n a L) (hcf : ∀ args w, (callFunc f args).run P w = .ok (.enter f args) w)
    (hc : CallsD P f caps (.panicking ch) w fun e u' w' => (∃ v, e = .returned v) ∧ settle u' = .returning ∧ G w') (h : ∀ w', G w' → ∃ v, (results fn a.tmps).run P w' = .ok v w' ∧ R (.returned v) w') : bodyPostD P fn R (.panic ch) a w := by
  show Leaves P fn a.tmps R a.defers (.panicking ch) w
  rw [fr.defers]
  refine leaves_cons (f := f) (args := caps) (by simp) (by simp [invoke, hcf]) (hc.mono ?_)
  rintro e u' w' ⟨⟨v, rfl⟩, hu, hg⟩
  show Leaves P fn a.tmps R [] (settle u') w'
  rw [hu]
  exact h w' hg
/-- a deferred closure begins: recover, kept in a slot -/
theorem callsD_rec {f : FuncId} {fn : Func} {id : Nat} {c : Code} {vs : List Value} {u u2 : FrameMode} {R : Ending → FrameMode → World → Prop} {d d2 : Tmp} {ty ty2 : TypeId} {pos pos2 : String} {aft aft2 : Array Edge} {ts : Array TypeId} {v : Value}
    (hf : P.funcs[f]? = some fn) (hb : fn.body = some (.seq (.region id #[⟨some d, .call { callee := .builtin .recover, args := #[], argTypes := ts }, ty, pos, aft, none⟩, ⟨some d2, .assign (.tmp d), ty2, pos2, aft2, none⟩] false) c)) (hn : fn.ntmps = n) (hvs : vs.length ≤ n) (hlt : Nat.blt d n = true) (hlt2 : Nat.blt d2 n = true)
    (hrec : ∀ (c₀ : Frame) (cs : List Frame), c₀.mode = u → (recoverD (c₀ :: cs) = none ∧ v = .nilIface ∧ u2 = u) ∨ recoverD (c₀ :: cs) = some (v, { c₀ with mode := u2 } :: cs))
    (h : ∀ a, FrL n a ((d2, v) :: (d, v) :: argL 0 vs) → c.wp P (bodyPost P fn fun e w' => R e u2 w') a w) : CallsD P f vs.toArray u w R := by
  refine callsD_of_wpS hf hb fun c₀ cs hm => ?_
  have fr0 : FrL n { tmps := vs.toArray ++ Array.replicate (fn.ntmps - vs.toArray.size) undef, defers := [] } (argL 0 vs) := by
    refine ⟨?_, rfl, fun d v hl => ?_⟩
    · simp [hn]; omega
    · obtain ⟨_, h2⟩ := lkS_argL vs 0 d v hl
      rw [Nat.sub_zero] at h2
      have hd := (List.getElem?_eq_some_iff.1 h2).1
      simp only [Array.getD_eq_getD_getElem?]
      rw [Array.getElem?_append_left (by simpa using hd)]
      simp [h2]
  generalize ({ tmps := vs.toArray ++ Array.replicate (fn.ntmps - vs.toArray.size) undef, defers := [] } : Act) = a0 at fr0 ⊢
  refine wpS_seq (wpS_region ?_)
  have e1 : (execOp a0.eval ⟨some d, .call { callee := .builtin .recover, args := #[], argTypes := ts }, ty, pos, aft, none⟩).run P w = .ok .recover w := by
    simp [execOp, go_sem]
  have fin : ∀ cs', cs' = ({ c₀ with mode := u2 } : Frame) :: cs → wpOpsS P #[⟨some d, .call { callee := .builtin .recover, args := #[], argTypes := ts }, ty, pos, aft, none⟩, ⟨some d2, .assign (.tmp d), ty2, pos2, aft2, none⟩] (Exit.thenS (c.wpS P (bodyPostS P fn c₀ cs R)) (bodyPostS P fn c₀ cs R)) [1] (a0.put (some d) v) cs' w := fun cs' hcs => by
    subst hcs
    have fr1 := fr0.put v hlt
    have e2 : (execOp (a0.put (some d) v).eval ⟨some d2, .assign (.tmp d), ty2, pos2, aft2, none⟩).run P w = .ok (.value v) w := rn_assign (fr1.ev (x := .tmp d) (by simp [evO, lkS]))
    simp only [wpOpsS, Region.wanted]
    simp only [List.getElem?_toArray, List.getElem?_cons_succ, List.getElem?_cons_zero, e2, if_true]
    show c.wpS P (bodyPostS P fn c₀ cs R) _ _ w
    refine wpS_of_wp (wp_mono (h _ (fr1.put v hlt2)) fun e a' w' hp => ?_)
    cases e with
    | normal => exact ⟨hp.1, u2, rfl, hp.2⟩
    | ret => exact ⟨hp.1, u2, rfl, hp.2⟩
    | panic ch => exact ⟨hp.1, u2, rfl, hp.2⟩
    | outgrown => exact ⟨u2, hp⟩
    | exit id => exact hp.elim
    | goto l => exact hp.elim
  show wpOpsS P _ _ [0, 1] a0 (c₀ :: cs) w
  rw [wpOpsS]
  simp only [List.getElem?_toArray, List.getElem?_cons_zero, Region.wanted, if_true, e1]
  rcases hrec c₀ cs hm with ⟨hr, rfl, rfl⟩ | hr
  · rw [hr]
    exact fin _ (by rw [← hm])
  · rw [hr]
    exact fin _ rfl
end
end Go.Proofs.YtjhbpcdaojajdaaDoor.LibDf
