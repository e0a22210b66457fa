/- walks inside a round, and the call of yield: the steps at the widest fence, within a round or not. No program here. -/
import Derived.Test.YtjhbpcdaojajdaaDoorLibX
import Derived.RangeFuncNested
import Derived.RangeFuncBound
import Derived.RangeFuncCalls
import Derived.RangeFuncLeaves
import Derived.TacticsIn
set_option linter.unusedVariables false
set_option linter.unusedSimpArgs false
namespace Go.Proofs.YtjhbpcdaojajdaaDoor.LibY
open Go.RowKit Go.Proofs.YtjhbpcdaojajdaaDoor.LibS Go.Proofs.YtjhbpcdaojajdaaDoor.LibR Go.Proofs.YtjhbpcdaojajdaaDoor.LibT Go.Proofs.YtjhbpcdaojajdaaDoor.LibU Go.Proofs.YtjhbpcdaojajdaaDoor.LibV Go.Proofs.YtjhbpcdaojajdaaDoor.LibW Go.Proofs.YtjhbpcdaojajdaaDoor.LibX Go.Proofs.YtjhbpcdaojajdaaDoor.LibC
/-- the widest fence, within a round or not -/
abbrev wdF (ro : Option Nat) : Fence := { Fence.wide with round := ro }
variable {P : Program} {ro : Option Nat} {m n : Nat} {o : Oper} {ds : List Deferred} {a : Act} {w : World} {X : Act → World → Prop} {Q : Exit → Act → World → Prop} {L : List (Nat × Value)} {ops : Array Oper} {rest : List Oper}
theorem rowsIn_wd {row : String} {args : Array Value} {R : Value → World → Prop} (h : Rows P row args w R) : RowsIn (wdF ro) m P row args w R := by
  intro c cs _
  obtain ⟨v, w', r, s⟩ := h c cs
  exact ⟨v, w', r, stepsIn_wide.2 s⟩
theorem owIn (hnd : ∀ c, o.op ≠ .defer c) (h : o.wp P a w X Q) : o.wpIn (wdF ro) m P a w X Q := by
  refine ⟨fun _ _ => trivial, ?_⟩
  have e : (o.semAt (wdF ro).round a.eval) = execOp a.eval o := Oper.semAt_eq _ _ _ hnd
  rw [e]
  unfold Oper.wp at h
  generalize (execOp a.eval o).run P w = r at h ⊢
  cases r with
  | ok x w' =>
    cases x with
    | value v => exact h
    | skip => exact h
    | defer d => exact h
    | enter f args => exact ⟨(fun h => by cases h), callsIn_wide.2 h⟩
    | row row args => exact ⟨(fun h => by cases h), rowsIn_wd h⟩
    | round => exact h.elim
    | _ => exact h.elim
  | halt x w' => cases x <;> exact h
theorem regI {id : Nat} {l : List Oper} (h : wpListIn (wdF ro) m P l.toArray Q l a w) : (Code.region id l.toArray false).wpIn (wdF ro) m P Q a w := wpIn_region_lit h
theorem lstI (hnd : ∀ c, o.op ≠ .defer c) (hg : o.guard = none) (h : o.wp P a w (wpListIn (wdF ro) m P ops Q rest) Q) : wpListIn (wdF ro) m P ops Q (o :: rest) a w :=
  wpListIn_plain hg fun K hK => by
    have h2 := owIn (ro := ro) (m := m) hnd (Oper.wp_mono hK h)
    exact h2
theorem lstI_y (hnd : ∀ c, o.op ≠ .defer c) (hw : Region.wanted o (yielded ops a.tmps) = true) (h : o.wp P a w (wpListIn (wdF ro) m P ops Q rest) Q) : wpListIn (wdF ro) m P ops Q (o :: rest) a w :=
  wpListIn_step fun K hK => by
    rw [if_pos hw]
    exact owIn hnd (Oper.wp_mono hK h)
theorem lstI_n (hw : Region.wanted o (yielded ops a.tmps) = false) (fr : FrD ds n a L) {d : Tmp} (hd : o.dst = some d) (hlt : Nat.blt d n = true) (h : ∀ a', FrD ds n a' ((d, undef) :: L) → wpListIn (wdF ro) m P ops Q rest a' w) : wpListIn (wdF ro) m P ops Q (o :: rest) a w :=
  wpListIn_step fun K hK => by
    rw [if_neg (by simp [hw])]
    refine ⟨fun _ _ => trivial, hK _ _ ?_⟩
    rw [hd]
    exact h _ (fr.put _ hlt)
theorem condI_t {c : Operand} {x y : Code} {b : Bool} (fr : FrD ds n a L) (hc : evO L c = some (.bool b)) (hb : b = true) (h : x.wpIn (wdF ro) m P Q a w) : (Code.cond c x y).wpIn (wdF ro) m P Q a w := by
  subst hb; exact wpIn_cond_true (fr.ev hc) h
theorem condI_f {c : Operand} {x y : Code} {b : Bool} (fr : FrD ds n a L) (hc : evO L c = some (.bool b)) (hb : b = false) (h : y.wpIn (wdF ro) m P Q a w) : (Code.cond c x y).wpIn (wdF ro) m P Q a w := by
  subst hb; exact wpIn_cond_false (fr.ev hc) h
/-- the call of yield -/
theorem lst_yield (fr : FrD ds n a L) {c : Call} {l k : Nat} {args : Array Value} {d : Tmp} {R : Ending → World → Prop} (ho : o.op = .call c) (hg : o.guard = none) (hd : o.dst = some d) (hlt : Nat.blt d n = true)
    (hrun : ∀ fn tmps assign body, (Instr.yield l args).run P w = .ok (.round l fn tmps assign body) w → (execOp a.eval o).run P w = .ok (.round l fn tmps assign body) w)
    (hy : YieldAt Fence.wide k P l args w R) (hR : ∀ e w', R e w' → ∃ v, e = .returned v ∧ ∀ a', FrD ds n a' ((d, v) :: L) → wpListIn (wdF none) m P ops Q rest a' w') : wpListIn (wdF none) m P ops Q (o :: rest) a w :=
  wpListIn_plain hg fun K hK => by
    obtain ⟨fn, tmps, assign, body, h1, h2⟩ := hy
    refine ⟨fun _ _ => trivial, ?_⟩
    rw [show o.semAt (wdF none).round a.eval = execOp a.eval o from rfl, hrun _ _ _ _ h1]
    refine ⟨(fun h => by cases h), ?_⟩
    refine RoundIn.mono (R := R) ⟨trivial, fun c cs _ => h2.2 c cs (room_wide _)⟩ fun e w' hr => ?_
    obtain ⟨v, rfl, h3⟩ := hR e w' hr
    refine hK _ _ ?_
    rw [hd]
    exact h3 _ (fr.put v hlt)
end Go.Proofs.YtjhbpcdaojajdaaDoor.LibY
