/- append to a row that a call just made, however great: read only from then on. No program here. -/
import Derived.Test.YtccagiflocnioaaLibK2
import Derived.Test.YtccagiflocnioaaLibH
import Derived.Deep.DeepAppendWide
set_option linter.unusedVariables false
set_option linter.unusedSimpArgs false
namespace Go.Proofs.Ytccagiflocnioaa.LibAr
open Go.Lib Go.RowKit Go.Proofs.Ytccagiflocnioaa.LibS Go.Proofs.Ytccagiflocnioaa.LibR Go.Proofs.Ytccagiflocnioaa.LibT Go.Proofs.Ytccagiflocnioaa.LibU Go.Proofs.Ytccagiflocnioaa.LibV Go.Proofs.Ytccagiflocnioaa.LibW Go.Proofs.Ytccagiflocnioaa.LibX Go.Proofs.Ytccagiflocnioaa.LibY Go.Proofs.Ytccagiflocnioaa.LibQ Go.Proofs.Ytccagiflocnioaa.LibH Go.Proofs.Ytccagiflocnioaa.LibC
section
variable {P : Program} {w0 w : World} {K : List Nat} {M : List It} {n : Nat} {ds : List Deferred} {a : Act} {L : List (Nat × Value)} {Q : Exit → Act → World → Prop} {X : Act → World → Prop} {o : Oper}
theorem ow_appendRaw {E : Type} {C : E → List Value} {sz e bytes base d T c : Nat} {xs ys : List E} {v z : Value} {A : Option Addr} {x y : Operand} (fr : FrD ds n a L) (st : St w0 K w M) (hown : Row C sz e base v xs w) (hM : ∀ it ∈ M, ∀ b ∈ it.fp, b < base) (hb0 : w0.heap.size ≤ base) (hbw : base ≤ w.heap.size) (hEls : Els C sz w A ys)
    (ho : o.op = .call { callee := .builtin .append, args := #[x, y], argTypes := #[T, T] }) (hx : evO L x = some v) (hy : evO L y = some (.slice A ys.length c)) (hT : P.underlying T = some (.slice e)) (hinf : (P.info? e).map (fun i => (i.zero, i.size, i.bytes)) = some (some z, sz, bytes)) (hzs : z.cells.size = sz) (hsz : 0 < sz) (hC : ∀ x, (C x).length = sz)
    (h1 : ∀ q, (C q).all (·.oneCell') = true) (hlen : ((xs.length + ys.length) + (xs.length + ys.length) / 4 + 192) * bytes ≤ 281474976710656) (hlen2 : xs.length + ys.length ≤ maxLen) (hd : o.dst = some d) (hlt : Nat.blt d n = true)
    (h : ∀ a' w' A' c', FrD ds n a' ((d, .slice A' (xs ++ ys).length c') :: L) → St w0 K w' (els C sz A' (xs ++ ys) :: M) → (xs ++ ys).length ≤ c' → X a' w') : o.wp P a w X Q := by
  obtain ⟨inf, hinf1, hinf2⟩ : ∃ inf, P.info? e = some inf ∧ (inf.zero, inf.size, inf.bytes) = (some z, sz, bytes) := by
    cases hq : P.info? e with
    | none => rw [hq] at hinf; simp at hinf
    | some inf => rw [hq] at hinf; exact ⟨inf, rfl, by simpa using hinf⟩
  simp only [Prod.mk.injEq] at hinf2
  obtain ⟨hz0, hz1, hz2⟩ := hinf2
  have key : ∃ v' w', (Builtin.append_ #[T, T] o.type #[v, .slice A ys.length c]).run P w = .ok v' w' ∧ Row C sz e base v' (xs ++ ys) w' ∧ w.grownBy w' v.ownBlock := by
    cases A with
    | none =>
      have hy0 : ys = [] := by
        cases ys with
        | nil => rfl
        | cons y r => obtain ⟨b, off, e, _⟩ := hEls 0 (by simp); cases e
      subst hy0
      exact ⟨v, w, run_append_nil' w base T o.type e inf sz hT hinf1 v _ _ hown c, by simpa using hown, World.grownBy.refl w _⟩
    | some ad =>
      obtain ⟨v', w', hrun, hown', hgr, _⟩ := run_append_own_wide (P := P) w base T o.type e inf z sz bytes hT hinf1 hz0 hz1 hz2 hzs hsz v xs.length (flat C xs) hown ad ys.length c (flat C ys) (flat_len hC ys) (els_cells hsz hC hEls rfl) (fun u hu => by
        obtain ⟨q, _, hq⟩ := List.mem_flatMap.1 hu
        exact List.all_eq_true.1 (h1 q) u hq) hlen2 hlen hbw
      refine ⟨v', w', hrun, ?_, hgr⟩
      have : flat C xs ++ flat C ys = flat C (xs ++ ys) := by simp [flat]
      rw [this] at hown'
      simpa [Row] using hown'
  obtain ⟨v', w', hrun, hr2, hgr⟩ := key
  obtain ⟨A', c', rfl, hc', _, _⟩ := row_form hC hr2
  unfold Oper.wp
  have hr : (execOp a.eval o).run P w = .ok (.value (.slice A' (xs ++ ys).length c')) w' := by
    simp only [execOp, ho, resolve, invoke, builtin, Sem.run_bind, Sem.run_pure, Result.andThen_ok, List.map_toArray, List.map_cons, List.map_nil, fr.ev hx, fr.ev hy, hrun]
  rw [hr]
  show X (a.put o.dst _) _
  rw [hd]
  have hag : Agr v.ownBlock.toList w w' := by
    cases hv : v.ownBlock with
    | none => rw [hv] at hgr; exact Agr.of_grown_none hgr
    | some g => rw [hv] at hgr; exact Agr.of_grown hgr
  have hvb : ∀ b ∈ v.ownBlock.toList, base ≤ b := fun b hb => by
    rcases hown.2 with ⟨rfl, _⟩ | ⟨g, cap, cur, rfl, hbg, _⟩
    · simp [Value.ownBlock] at hb
    · simp [Value.ownBlock] at hb; omega
  have hok := els_ok (w0 := w0) (K := K) hsz hC (row_els hC hr2)
  have hnb : ∀ b ∈ (els C sz A' (xs ++ ys)).fp, base ≤ b := fun b hb => by
    obtain ⟨ad, e1, rfl⟩ := elsFp_mem hb
    exact row_base hr2 ad e1
  refine h _ _ A' c' (fr.put _ hlt) ⟨st.agr.then hag (fun b hb => .inr (Nat.le_trans hb0 (hvb b hb))), fun it hi => ?_, List.pairwise_cons.2 ⟨fun y hy _ b hb hb' => ?_, st.sep⟩⟩ hc'
  · rcases List.mem_cons.1 hi with rfl | hi
    · exact hok
    · exact It.ok_keep (st.ok it hi) hag (fun b hb hb' => by have := hM it hi b hb; have := hvb b hb'; omega)
  · have := hM y hy b hb'
    have := hnb b hb
    omega
end
end Go.Proofs.Ytccagiflocnioaa.LibAr
