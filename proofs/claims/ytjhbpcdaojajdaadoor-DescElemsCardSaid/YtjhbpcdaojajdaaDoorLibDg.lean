/- Two deferred calls in the small logic: a function with arguments, deferred last; a closure, deferred first. No program here. -/
import Derived.Test.YtjhbpcdaojajdaaDoorLibDf
set_option linter.unusedVariables false
set_option linter.unusedSimpArgs false
namespace Go.Proofs.YtjhbpcdaojajdaaDoor.LibDg
open Go.RowKit Go.Proofs.YtjhbpcdaojajdaaDoor.LibS Go.Proofs.YtjhbpcdaojajdaaDoor.LibR Go.Proofs.YtjhbpcdaojajdaaDoor.LibT Go.Proofs.YtjhbpcdaojajdaaDoor.LibU Go.Proofs.YtjhbpcdaojajdaaDoor.LibV Go.Proofs.YtjhbpcdaojajdaaDoor.LibW Go.Proofs.YtjhbpcdaojajdaaDoor.LibX Go.Proofs.YtjhbpcdaojajdaaDoor.LibY Go.Proofs.YtjhbpcdaojajdaaDoor.LibQ Go.Proofs.YtjhbpcdaojajdaaDoor.LibC Go.Proofs.YtjhbpcdaojajdaaDoor.LibDf
section
variable {P : Program} {w0 w : World} {K : List Nat} {M : List It} {n : Nat} {ds : List Deferred} {a : Act} {L : List (Nat × Value)} {Q : Exit → Act → World → Prop} {X : Act → World → Prop} {op : Oper}
/-- a function that is deferred with its arguments -/
def dfA (f : FuncId) (args : Array Value) : Deferred := { target := .fn (.func f) #[], args := args }
theorem ow_deferA (fr : FrD ds n a L) {x : Operand} {xs : List Operand} {vs : List Value} {ts : Array TypeId} {f : FuncId} (ho : op.op = .defer { callee := .value x, args := xs.toArray, argTypes := ts }) (hx : evO L x = some (.func (.func f) #[] #[])) (hvs : evs L xs = some vs) (hd : op.dst = none)
    (h : ∀ a', FrD (dfA f vs.toArray :: ds) n a' L → X a' w) : op.wp P a w X Q := by
  have hm := evs_map fr hvs
  have hr : (execOp a.eval op).run P w = .ok (.defer (dfA f vs.toArray)) w := by
    have e := fr.ev hx
    subst hm
    simp [execOp, ho, resolve, Deferred.ofValue, e, Sem.run_bind, Sem.run_pure, dfA]
  unfold Oper.wp
  rw [hr]
  show X (Act.put { a with defers := dfA f vs.toArray :: a.defers } op.dst undef) w
  rw [hd, fr.defers]
  exact h _ ⟨fr.size, rfl, fr.get⟩
/-- a deferred call of a function without recover -/
theorem callsD_plain {f : FuncId} {fn : Func} {c : Code} {vs : List Value} {u : FrameMode} {R : Ending → World → Prop} (hf : P.funcs[f]? = some fn) (hb : fn.body = some c) (hn : fn.ntmps = n) (hvs : vs.length ≤ n)
    (h : ∀ a, FrL n a (argL 0 vs) → c.wp P (bodyPost P fn R) a w) : CallsD P f vs.toArray u w fun e u' w' => u' = u ∧ R e w' := by
  refine callsD_of_wp hf hb (h _ ⟨?_, rfl, fun d v hl => ?_⟩)
  · simp [hn]; omega
  · obtain ⟨_, h2⟩ := lkS_argL vs 0 d v hl
    rw [Nat.sub_zero] at h2
    have hd := (List.getElem?_eq_some_iff.1 h2).1
    simp only [Array.getD_eq_getD_getElem?]
    rw [Array.getElem?_append_left (by simpa using hd)]
    simp [h2]
/-- leaving, by two deferred calls: whatever the mode, the first settles to a return -/
theorem leave2 {fn : Func} {R : Ending → World → Prop} {f1 f2 : FuncId} {caps args : Array Value} {u : FrameMode} {G1 G2 : World → Prop} (tmps : Array Value) (hu : u ≠ .run) (hcf1 : ∀ args w, (callFunc f1 args).run P w = .ok (.enter f1 args) w) (hcf2 : ∀ args w, (callFunc f2 args).run P w = .ok (.enter f2 args) w)
    (hc2 : CallsD P f2 args u w fun e u' w' => (∃ v, e = .returned v) ∧ settle u' = .returning ∧ G2 w') (hc1 : ∀ w', G2 w' → CallsD P f1 caps .returning w' fun e u' w'' => (∃ v, e = .returned v) ∧ u' = .returning ∧ G1 w'')
    (h : ∀ w', G1 w' → ∃ v, (results fn tmps).run P w' = .ok v w' ∧ R (.returned v) w') : Leaves P fn tmps R [dfA f2 args, dfF f1 caps] u w := by
  refine leaves_cons (f := f2) (args := args) hu (by simp [invoke, hcf2]) (hc2.mono ?_)
  rintro e u' w' ⟨⟨v, rfl⟩, hs, hg⟩
  show Leaves P fn tmps R [dfF f1 caps] (settle u') w'
  rw [hs]
  refine leaves_cons (f := f1) (args := caps) (by simp) (by simp [invoke, hcf1]) ((hc1 w' hg).mono ?_)
  rintro e u' w'' ⟨⟨v, rfl⟩, rfl, hg1⟩
  exact h w'' hg1
theorem retDg {fn : Func} {R : Ending → World → Prop} {f1 f2 : FuncId} {caps args : Array Value} {G1 G2 : World → Prop} (fr : FrD [dfA f2 args, dfF f1 caps] n a L) (hcf1 : ∀ args w, (callFunc f1 args).run P w = .ok (.enter f1 args) w) (hcf2 : ∀ args w, (callFunc f2 args).run P w = .ok (.enter f2 args) w)
    (hc2 : CallsD P f2 args .returning w fun e u' w' => (∃ v, e = .returned v) ∧ settle u' = .returning ∧ G2 w') (hc1 : ∀ w', G2 w' → CallsD P f1 caps .returning w' fun e u' w'' => (∃ v, e = .returned v) ∧ u' = .returning ∧ G1 w'')
    (h : ∀ w', G1 w' → ∃ v, (results fn a.tmps).run P w' = .ok v w' ∧ R (.returned v) w') : bodyPostD P fn R .ret a w := by
  show Leaves P fn a.tmps R a.defers .returning w
  rw [fr.defers]
  exact leave2 a.tmps (by simp) hcf1 hcf2 hc2 hc1 h
theorem panDg {fn : Func} {R : Ending → World → Prop} {f1 f2 : FuncId} {caps args : Array Value} {ch : List PanicEntry} {G1 G2 : World → Prop} (fr : FrD [dfA f2 args, dfF f1 caps] n a L) (hcf1 : ∀ args w, (callFunc f1 args).run P w = .ok (.enter f1 args) w) (hcf2 : ∀ args w, (callFunc f2 args).run P w = .ok (.enter f2 args) w)
    (hc2 : CallsD P f2 args (.panicking ch) w fun e u' w' => (∃ v, e = .returned v) ∧ settle u' = .returning ∧ G2 w') (hc1 : ∀ w', G2 w' → CallsD P f1 caps .returning w' fun e u' w'' => (∃ v, e = .returned v) ∧ u' = .returning ∧ G1 w'')
    (h : ∀ w', G1 w' → ∃ v, (results fn a.tmps).run P w' = .ok v w' ∧ R (.returned v) w') : bodyPostD P fn R (.panic ch) a w := by
  show Leaves P fn a.tmps R a.defers (.panicking ch) w
  rw [fr.defers]
  exact leave2 a.tmps (by simp) hcf1 hcf2 hc2 hc1 h
end
end Go.Proofs.YtjhbpcdaojajdaaDoor.LibDg
