/- append of a string to bytes of one's own. No program here. -/
import Derived.Test.YtjhbpcdaojajdaaDoorLibK2
import Derived.Test.YtjhbpcdaojajdaaDoorLibH
import Derived.Lib.AppendStr
set_option linter.unusedVariables false
set_option linter.unusedSimpArgs false
namespace Go.Proofs.YtjhbpcdaojajdaaDoor.LibAs
open Go.Lib Go.RowKit Go.Proofs.YtjhbpcdaojajdaaDoor.LibS Go.Proofs.YtjhbpcdaojajdaaDoor.LibR Go.Proofs.YtjhbpcdaojajdaaDoor.LibT Go.Proofs.YtjhbpcdaojajdaaDoor.LibU Go.Proofs.YtjhbpcdaojajdaaDoor.LibV Go.Proofs.YtjhbpcdaojajdaaDoor.LibW Go.Proofs.YtjhbpcdaojajdaaDoor.LibX Go.Proofs.YtjhbpcdaojajdaaDoor.LibY Go.Proofs.YtjhbpcdaojajdaaDoor.LibQ Go.Proofs.YtjhbpcdaojajdaaDoor.LibH Go.Proofs.YtjhbpcdaojajdaaDoor.LibC
section
variable {P : Program} {w0 w : World} {K : List Nat} {M : List It} {n : Nat} {ds : List Deferred} {a : Act} {L : List (Nat × Value)} {Q : Exit → Act → World → Prop} {X : Act → World → Prop} {o : Oper}
theorem ow_appendS {E : Type} {C : E → List Value} {xs : List E} {v : Value} {base : Nat} (fr : FrD ds n a L) (st : St w0 K w M) (i : Nat) {d T U e : Nat} {x y : Operand} {s : ByteArray} (ys : List E) (hC : ∀ x, (C x).length = 1) (hys : flat C ys = strCells s)
    (ho : o.op = .call { callee := .builtin .append, args := #[x, y], argTypes := #[T, U] }) (hx : evO L x = some v) (hy : evO L y = some (.string s)) (hi : M[i]? = some (row C 1 e base v xs)) (hT : P.underlying T = some (.slice e)) (hU : P.underlying U = some .string)
    (hinf : (P.info? e).map (fun i => (i.zero, i.size, i.bytes)) = some (some (.int .u8 0), 1, 1)) (hlen : xs.length + s.size ≤ 140737488355328) (hlen2 : xs.length + s.size ≤ maxLen) (hbw : base ≤ w.heap.size) (hd : o.dst = some d) (hlt : Nat.blt d n = true)
    (h : ∀ a' w' A' c', FrD ds n a' ((d, .slice A' (xs ++ ys).length c') :: L) → St w0 K w' (M.set i (row C 1 e base (.slice A' (xs ++ ys).length c') (xs ++ ys))) → X a' w') : o.wp P a w X Q := by
  obtain ⟨inf, hinf1, hinf2⟩ : ∃ inf, P.info? e = some inf ∧ (inf.zero, inf.size, inf.bytes) = (some (.int .u8 0), 1, 1) := by
    cases hq : P.info? e with
    | none => rw [hq] at hinf; simp at hinf
    | some inf => rw [hq] at hinf; exact ⟨inf, rfl, by simpa using hinf⟩
  simp only [Prod.mk.injEq] at hinf2
  obtain ⟨hz0, hz1, hz2⟩ := hinf2
  have hown : w.ownsRow base e 1 v xs.length (flat C xs) := (st.get i hi).1
  obtain ⟨v', w', hrun, hown', hgr, _⟩ := run_append_own_string (P := P) w base T U o.type e inf hT hU hinf1 hz0 hz1 hz2 v xs.length (flat C xs) hown s hlen2 hlen hbw
  have hxl : (flat C xs).length = xs.length := by rw [flat_len hC, Nat.mul_one]
  have hat : v'.ownBlock = v.ownBlock ∨ ∀ b ∈ v'.ownBlock.toList, w.heap.size ≤ b := by
    rcases hown.2 with ⟨rfl, h0⟩ | ⟨g, cap, cur, rfl, hbg, hg, hnc, hcm, hcs, htake⟩
    · right
      obtain ⟨v2, w2, hrun2, hown2, _, _⟩ := run_append_own_string (P := P) w w.heap.size T U o.type e inf hT hU hinf1 hz0 hz1 hz2 (.slice none 0 0) xs.length (flat C xs) ⟨hown.1, .inl ⟨rfl, h0⟩⟩ s hlen2 hlen (Nat.le_refl _)
      rw [hrun] at hrun2
      cases hrun2
      intro b hb
      rcases hown2.2 with ⟨rfl, _⟩ | ⟨g, cap, cur, rfl, hbg, _⟩
      · simp [Value.ownBlock] at hb
      · simp [Value.ownBlock] at hb; omega
    · by_cases hroom : xs.length + s.size ≤ cap
      · left
        have hcs' : cur.size = cap := by simpa using hcs
        have hr := run_append_room_string (P := P) w T U o.type e inf hT hU hinf1 hz1 g xs.length cap cur hg s hroom (by omega)
        rw [hrun] at hr
        cases hr
        rfl
      · right
        have holds : ∀ j u, (flat C xs)[j]? = some u → w.cell? ((⟨g, 0, none⟩ : Addr).add j) = some u := hown.cells (g := g) rfl
        have hr := run_append_grow_string (P := P) w T U o.type e inf (.int .u8 0) hT hU hinf1 hz0 ⟨g, 0, none⟩ xs.length cap (flat C xs) (by rw [hz1]; simpa using hxl) holds s (by omega) (by simp only [maxLen] at hlen2; omega) (by rw [hz2]; exact growslice_fits (by omega) (by omega))
        rw [hrun] at hr
        cases hr
        intro b hb
        simp [Value.ownBlock] at hb
        omega
  have hyl : ys.length = s.size := by
    have := flat_len hC ys
    rw [hys, strCells_length] at this
    omega
  have hr2 : Row C 1 e base v' (xs ++ ys) w' := by
    have e1 : flat C (xs ++ ys) = flat C xs ++ strCells s := by rw [← hys]; simp [flat]
    unfold Row
    rw [e1, List.length_append, hyl]
    exact hown'
  obtain ⟨A', c', rfl, _, _, _⟩ := row_form hC hr2
  unfold Oper.wp
  have hr : (execOp a.eval o).run P w = .ok (.value (.slice A' (xs ++ ys).length c')) w' := by
    simp only [execOp, ho, resolve, invoke, builtin, Sem.run_bind, Sem.run_pure, Result.andThen_ok, List.map_toArray, List.map_cons, List.map_nil, fr.ev hx, fr.ev hy, hrun]
  rw [hr]
  show X (a.put o.dst _) _
  rw [hd]
  refine h _ _ A' c' (fr.put _ hlt) (st.upd i hi rfl ?_ (row_ok2 hr2 (fun b hb => by
      rcases hat with h2 | h2
      · rw [h2] at hb; exact It.ok_own (st.get i hi) rfl b hb
      · exact .inl (Nat.le_trans st.agr.size (h2 b hb)))) (fun g hg => ?_))
  · show Agr v.ownBlock.toList w w'
    cases hv : v.ownBlock with
    | none => rw [hv] at hgr; exact Agr.of_grown_none hgr
    | some g => rw [hv] at hgr; exact Agr.of_grown hgr
  · simp only [row, It.fp] at hg ⊢
    rcases hat with h2 | h2
    · rw [h2] at hg; exact .inl hg
    · exact .inr (h2 g hg)
end
end Go.Proofs.YtjhbpcdaojajdaaDoor.LibAs
