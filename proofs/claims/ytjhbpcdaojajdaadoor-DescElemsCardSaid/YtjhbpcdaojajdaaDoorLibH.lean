/- Rows written in place; rows that were there before the call. No program here. -/
import Derived.Test.YtjhbpcdaojajdaaDoorLibN
set_option linter.unusedVariables false
set_option linter.unusedSimpArgs false
namespace Go.Proofs.YtjhbpcdaojajdaaDoor.LibH
open Go.RowKit Go.Proofs.YtjhbpcdaojajdaaDoor.LibS Go.Proofs.YtjhbpcdaojajdaaDoor.LibR Go.Proofs.YtjhbpcdaojajdaaDoor.LibT Go.Proofs.YtjhbpcdaojajdaaDoor.LibU Go.Proofs.YtjhbpcdaojajdaaDoor.LibV Go.Proofs.YtjhbpcdaojajdaaDoor.LibW Go.Proofs.YtjhbpcdaojajdaaDoor.LibX Go.Proofs.YtjhbpcdaojajdaaDoor.LibY Go.Proofs.YtjhbpcdaojajdaaDoor.LibQ Go.Proofs.YtjhbpcdaojajdaaDoor.LibP Go.Proofs.YtjhbpcdaojajdaaDoor.LibN Go.Proofs.YtjhbpcdaojajdaaDoor.LibC
theorem setR_left (a b vs : List Value) (j : Nat) (h : j + vs.length ≤ a.length) : setR (a ++ b) j vs = setR a j vs ++ b := by
  unfold setR
  rw [List.take_append_of_le_length (by omega), List.drop_append_of_le_length h]
  simp
theorem setR_right (a b vs : List Value) (m : Nat) : setR (a ++ b) (a.length + m) vs = a ++ setR b m vs := by
  unfold setR
  rw [List.take_length_add_append, Nat.add_assoc, List.drop_length_add_append]
  simp
theorem setR_len (cs vs : List Value) (m : Nat) (h : m + vs.length ≤ cs.length) : (setR cs m vs).length = cs.length := by
  unfold setR
  simp
  omega
theorem setR_take (cs vs : List Value) (m n : Nat) (h : m + vs.length ≤ n) (hn : n ≤ cs.length) : (setR cs m vs).take n = setR (cs.take n) m vs := by
  have e : cs = cs.take n ++ cs.drop n := (List.take_append_drop n cs).symm
  have hl : (cs.take n).length = n := by simp; omega
  conv => lhs; rw [e]
  rw [setR_left _ _ _ _ (by omega), List.take_append_of_le_length (by rw [setR_len _ _ _ (by omega)]; omega), List.take_of_length_le (by rw [setR_len _ _ _ (by omega)]; omega)]
section
variable {P : Program} {w0 w : World} {K : List Nat} {M : List It} {n m : Nat} {ds : List Deferred} {a : Act} {L : List (Nat × Value)} {Q : Exit → Act → World → Prop} {X : Act → World → Prop} {o : Oper} {E : Type} {C : E → List Value} {sz e base : Nat} {v : Value} {xs : List E} {g c k j : Nat} {xk x' : E} {vs : List Value} {A : Option Addr}
theorem flat_setR (hC : ∀ x, (C x).length = sz) : ∀ (xs : List E) (k : Nat), xs[k]? = some xk → C x' = setR (C xk) j vs → j + vs.length ≤ sz → setR (flat C xs) (k * sz + j) vs = flat C (xs.set k x')
  | [], k, h, _, _ => by simp at h
  | y :: r, 0, h, hx, hj => by
    simp at h
    subst h
    simp only [flat, List.flatMap_cons, List.set_cons_zero, Nat.zero_mul, Nat.zero_add]
    rw [setR_left _ _ _ _ (by rw [hC]; exact hj), hx]
  | y :: r, k + 1, h, hx, hj => by
    have ih := flat_setR hC r k (by simpa using h) hx hj
    simp only [flat, List.flatMap_cons, List.set_cons_succ] at ih ⊢
    rw [← ih, show (k + 1) * sz + j = (C y).length + (k * sz + j) by rw [hC, Nat.succ_mul]; omega, setR_right]
theorem row_at (h : (row C sz e base (.slice A n c) xs).ok w0 K w) (hn : 0 < n) : ∃ g, A = some ⟨g, 0, none⟩ := by
  rcases h.1.2 with ⟨h0, _⟩ | ⟨g, cap, cur, h0, _⟩
  · cases h0; omega
  · cases h0; exact ⟨g, rfl⟩
theorem row_rd (hC : ∀ x, (C x).length = sz) (h : (row C sz e base (.slice (some ⟨g, 0, none⟩) n c) xs).ok w0 K w) (hk : xs[k]? = some xk) : w.rangeAt g (0 + k * sz) (C xk) := by
  obtain ⟨hl, rfl⟩ := List.getElem?_eq_some_iff.1 hk
  obtain ⟨b, off, h1, h2⟩ := row_els hC h.1 k hl
  cases h1
  exact fun j u hu => h2 j u hu
theorem row_rdc (hC : ∀ x, (C x).length = sz) (h : (row C sz e base (.slice (some ⟨g, 0, none⟩) n c) xs).ok w0 K w) (hk : xs[k]? = some xk) {off : Nat} (hv : (C xk)[j]? = some v) (ho : off = k * sz + j) : w.cell? ⟨g, off, none⟩ = some v := by
  subst ho
  have := row_rd hC h hk j v hv
  rwa [Nat.zero_add] at this
theorem row_rdN (hC : ∀ x, (C x).length = sz) (h : (row C sz e base (.slice (some ⟨g, 0, none⟩) n c) xs).ok w0 K w) (hk : xs[k]? = some xk) {off : Nat} (hv : ((C xk).drop j).take vs.length = vs) (ho : off = k * sz + j) : w.rangeAt g off vs := by
  subst ho
  intro i u hu
  have hil := (List.getElem?_eq_some_iff.1 hu).1
  rw [← hv, List.getElem?_take, if_pos hil, List.getElem?_drop] at hu
  have := row_rd hC h hk (j + i) u hu
  rwa [Nat.zero_add, ← Nat.add_assoc] at this
theorem row_set (hC : ∀ x, (C x).length = sz) (h : Row C sz e base (.slice (some ⟨g, 0, none⟩) n c) xs w) (hk : xs[k]? = some xk) (hx : C x' = setR (C xk) j vs) (hj : j + vs.length ≤ sz) : Row C sz e base (.slice (some ⟨g, 0, none⟩) n c) (xs.set k x') (w.setCells g (k * sz + j) vs) ∧ (∃ cur : List Value, w.heap[g]? = some (.cells cur.toArray e (0, 0)) ∧ k * sz + j + vs.length ≤ cur.length) := by
  obtain ⟨hl, hr⟩ := h
  rcases hr with ⟨h0, _⟩ | ⟨g', cap, cur, h0, hb, hg, hnc, hm, hs, ht⟩
  · cases h0
  · cases h0
    have hkl := (List.getElem?_eq_some_iff.1 hk).1
    have h1 : k * sz + sz ≤ xs.length * sz := by rw [← Nat.succ_mul]; exact Nat.mul_le_mul_right _ hkl
    have e1 : cur.toList.length = c * sz := by rw [Array.length_toList]; exact hs
    have h2 : xs.length * sz ≤ cur.toList.length := by rw [e1]; exact Nat.mul_le_mul_right _ hnc
    have hg' : w.heap[g]? = some (.cells cur.toList.toArray e (0, 0)) := by simpa using hg
    refine ⟨⟨by rw [flat_len hC], .inr ⟨g, c, (setR cur.toList (k * sz + j) vs).toArray, by rw [List.length_set], hb, setCells_heap w g 0 e vs _ _ _ hg' (by omega), by rw [List.length_set]; exact hnc, hm, ?_, ?_⟩⟩, cur.toList, hg', by omega⟩
    · simp only [List.size_toArray]
      rw [setR_len _ _ _ (by omega), e1]
    · rw [List.length_set]
      show List.take (xs.length * sz) (setR cur.toList (k * sz + j) vs) = _
      rw [setR_take _ _ _ _ (by omega) h2, ht, flat_setR hC xs k hk hx hj]
theorem row_ok2 (h : Row C sz e base v xs w) (ho : ∀ b ∈ v.ownBlock.toList, w0.heap.size ≤ b ∨ b ∈ K) : (row C sz e base v xs).ok w0 K w := by
  refine ⟨h, fun b hbm => ?_, Row_stable C sz e base v xs⟩
  refine ⟨?_, fun _ => ho b hbm⟩
  rcases h.2 with ⟨rfl, _⟩ | ⟨g, cap, cur, rfl, hbg, hg, _⟩
  · simp [Value.ownBlock] at hbm
  · simp [Value.ownBlock] at hbm
    subst hbm
    exact (Array.getElem?_eq_some_iff.1 hg).1
/-- a store of one cell into a row's element -/
theorem ow_st_rowc (fr : FrD ds n a L) (st : St w0 K w M) (i : Nat) {T N off : Nat} {x y : Operand} (ho : o.op = .store T x y) (hx : evO L x = some (.pointer (some ⟨g, off, none⟩))) (hy : evO L y = some v) (h1 : v.oneCell' = true)
    (hT : (P.info? T).map (·.size) = some 1) (hi : M[i]? = some (row C sz e base (.slice (some ⟨g, 0, none⟩) N c) xs)) (hC : ∀ x, (C x).length = sz) (hk : xs[k]? = some xk) (hof : off = k * sz + j) (hj : j < sz) (hx' : C x' = setR (C xk) j [v]) (hd : o.dst = none)
    (h : ∀ w', St w0 K w' (M.set i (row C sz e base (.slice (some ⟨g, 0, none⟩) N c) (xs.set k x'))) → X a w') : o.wp P a w X Q := by
  subst hof
  have hok := st.get i hi
  obtain ⟨hnew, cs, hb, hm⟩ := row_set (vs := [v]) hC hok.1 hk hx' (by simp; omega)
  have hm : k * sz + j < cs.length := by simp at hm; omega
  have hc : w.cell? ⟨g, k * sz + j, none⟩ = some cs[k * sz + j] := by rw [cell_of_row w g _ _ _ _ hb]; simp [hm]
  have hf : w.frozen? ⟨g, k * sz + j, none⟩ = false := by simp [World.frozen?, hb]
  unfold Oper.wp
  have hr : (execOp a.eval o).run P w = .ok .skip (w.setCell ⟨g, k * sz + j, none⟩ v) := by
    cases hq : P.info? T with
    | none => rw [hq] at hT; simp at hT
    | some q =>
      rw [hq] at hT
      have hs' : q.size = 1 := by simpa using hT
      have hvc : v.cells = #[v] := by cases v <;> first | rfl | simp [Value.oneCell'] at h1
      simp [execOp, ho, fr.ev hx, fr.ev hy, Instr.storeAt, Instr.sureAddr, storeVar, hvc, sizeOf, typeInfo, hq, hs', storeCells, run_store P w _ v .plain h1, Addr.add_zero', hc, hf]
  rw [hr]
  show X (a.put o.dst _) _
  rw [hd]
  exact h _ (st.upd i hi rfl (Agr.setCell w g _ v) (row_ok2 hnew (fun b hb => It.ok_own hok rfl b hb)) (fun c hc => .inl hc))
/-- a store of a struct into a row's element -/
theorem ow_st_rowN (fr : FrD ds n a L) (st : St w0 K w M) (i : Nat) {T N off : Nat} {x y : Operand} (ho : o.op = .store T x y) (hx : evO L x = some (.pointer (some ⟨g, off, none⟩))) (hy : evO L y = some (.agg vs.toArray)) (h1 : vs.all (·.oneCell') = true)
    (hT : (P.info? T).map (·.size) = some vs.length) (hi : M[i]? = some (row C sz e base (.slice (some ⟨g, 0, none⟩) N c) xs)) (hC : ∀ x, (C x).length = sz) (hk : xs[k]? = some xk) (hof : off = k * sz + j) (hj : j + vs.length ≤ sz) (hx' : C x' = setR (C xk) j vs) (hd : o.dst = none)
    (h : ∀ w', St w0 K w' (M.set i (row C sz e base (.slice (some ⟨g, 0, none⟩) N c) (xs.set k x'))) → X a w') : o.wp P a w X Q := by
  subst hof
  have hok := st.get i hi
  obtain ⟨hnew, cs, hb, hm⟩ := row_set hC hok.1 hk hx' hj
  unfold Oper.wp
  have hr : (execOp a.eval o).run P w = .ok .skip (w.setCells g (k * sz + j) vs) := by
    have := run_storeAt_mid (P := P) w g (k * sz + j) T vs.toArray (fun i hi => by
      have hjl : k * sz + j + i < cs.length := by simp at hi; omega
      refine ⟨?_, by simp [World.frozen?, hb]⟩
      rw [cell_of_row w g _ _ _ _ hb]
      simp [hjl]) (by simpa using hT) (by simpa using h1)
    simp [execOp, ho, fr.ev hx, fr.ev hy, this]
  rw [hr]
  show X (a.put o.dst _) _
  rw [hd]
  exact h _ (st.upd i hi rfl (Agr.setCells w g _ vs) (row_ok2 hnew (fun b hb => It.ok_own hok rfl b hb)) (fun c hc => .inl hc))
theorem ow_append1k (fr : FrD ds n a L) (st : St w0 K w M) (i j : Nat) {d T b : Nat} {x y : Operand} {t2 : TypeId} {z : Value} {bytes : Nat} (q : E) (ho : o.op = .call { callee := .builtin .append, args := #[x, y], argTypes := #[T, T] })
    (hx : evO L x = some v) (hy : evO L y = some (.slice (some ⟨b, 0, none⟩) 1 1)) (hi : M[i]? = some (row C sz e base v xs)) (hj : M[j]? = some (.blk b (C q) t2)) (hT : P.underlying T = some (.slice e)) (hinf : (P.info? e).map (fun i => (i.zero, i.size, i.bytes)) = some (some z, sz, bytes)) (hzs : z.cells.size = sz) (hsz : 0 < sz) (hC : ∀ x, (C x).length = sz)
    (h1 : (C q).all (·.oneCell') = true) (hlen : (xs.length + 1) * bytes ≤ 140737488355328) (hlen2 : xs.length + 1 ≤ maxLen) (hbw : base ≤ w.heap.size) (hd : o.dst = some d) (hlt : Nat.blt d n = true)
    (h : ∀ a' w' A c, FrD ds n a' ((d, .slice A (xs ++ [q]).length c) :: L) → St w0 K w' (M.set i (row C sz e base (.slice A (xs ++ [q]).length c) (xs ++ [q]))) → X a' w') : o.wp P a w X Q := by
  obtain ⟨inf, hinf1, hinf2⟩ : ∃ inf, P.info? e = some inf ∧ (inf.zero, inf.size, inf.bytes) = (some z, sz, bytes) := by
    cases hq : P.info? e with
    | none => rw [hq] at hinf; simp at hinf
    | some inf => rw [hq] at hinf; exact ⟨inf, rfl, by simpa using hinf⟩
  simp only [Prod.mk.injEq] at hinf2
  obtain ⟨hz0, hz1, hz2⟩ := hinf2
  have hown : Row C sz e base v xs w := (st.get i hi).1
  have hb := (st.get j hj).2
  obtain ⟨v', w', hrun, hown', hgr, _, hat⟩ := run_append_own_at (P := P) w base T o.type e inf z sz bytes hT hinf1 hz0 hz1 hz2 hzs hsz v xs.length (flat C xs) hown ⟨b, 0, none⟩ 1 1 (C q) (by rw [hC, Nat.one_mul]) (fun k u hu => by
    rw [Addr.add_lit, Nat.zero_add, cell_of_row w b _ _ _ _ hb]
    simpa using hu) (fun u hu => by simpa using List.all_eq_true.1 h1 u hu) (by simpa using hlen2) (by simpa using hlen) hbw
  have hr2 : Row C sz e base v' (xs ++ [q]) w' := by
    have : flat C xs ++ C q = flat C (xs ++ [q]) := by simp [flat]
    rw [this] at hown'
    simpa [Row] using hown'
  obtain ⟨A, c, rfl, _, _, _⟩ := row_form hC hr2
  unfold Oper.wp
  have hr : (execOp a.eval o).run P w = .ok (.value (.slice A (xs ++ [q]).length c)) w' := by
    simp only [execOp, ho, resolve, invoke, builtin, Sem.run_bind, Sem.run_pure, Result.andThen_ok, List.map_toArray, List.map_cons, List.map_nil, fr.ev hx, fr.ev hy, hrun]
  rw [hr]
  show X (a.put o.dst _) _
  rw [hd]
  refine h _ _ A c (fr.put _ hlt) (st.upd i hi rfl ?_ (row_ok2 hr2 (fun b hb => by
      rcases hat with h2 | h2
      · rw [h2] at hb; exact It.ok_own (st.get i hi) rfl b hb
      · rw [h2] at hb; simp at hb; subst hb; exact .inl st.agr.size)) (fun g hg => ?_))
  · show Agr v.ownBlock.toList w w'
    cases hv : v.ownBlock with
    | none => rw [hv] at hgr; exact Agr.of_grown_none hgr
    | some g => rw [hv] at hgr; exact Agr.of_grown hgr
  · simp only [row, It.fp] at hg ⊢
    rcases hat with h2 | h2
    · rw [h2] at hg; exact .inl hg
    · rw [h2] at hg
      simp at hg
      exact .inr (by omega)
theorem ow_appendEk (fr : FrD ds n a L) (st : St w0 K w M) (i : Nat) {d T c : Nat} {x y : Operand} {A : Option Addr} {z : Value} {bytes : Nat} {ys : List E} (hEls : Els C sz w A ys) (ho : o.op = .call { callee := .builtin .append, args := #[x, y], argTypes := #[T, T] })
    (hx : evO L x = some v) (hy : evO L y = some (.slice A ys.length c)) (hi : M[i]? = some (row C sz e base v xs)) (hT : P.underlying T = some (.slice e)) (hinf : (P.info? e).map (fun i => (i.zero, i.size, i.bytes)) = some (some z, sz, bytes)) (hzs : z.cells.size = sz) (hsz : 0 < sz) (hC : ∀ x, (C x).length = sz)
    (h1 : ∀ q, (C q).all (·.oneCell') = true) (hlen : (xs.length + ys.length) * bytes ≤ 140737488355328) (hlen2 : xs.length + ys.length ≤ maxLen) (hbw : base ≤ w.heap.size) (hd : o.dst = some d) (hlt : Nat.blt d n = true)
    (h : ∀ a' w' A' c', FrD ds n a' ((d, .slice A' (xs ++ ys).length c') :: L) → St w0 K w' (M.set i (row C sz e base (.slice A' (xs ++ ys).length c') (xs ++ ys))) → X a' w') : o.wp P a w X Q := by
  obtain ⟨inf, hinf1, hinf2⟩ : ∃ inf, P.info? e = some inf ∧ (inf.zero, inf.size, inf.bytes) = (some z, sz, bytes) := by
    cases hq : P.info? e with
    | none => rw [hq] at hinf; simp at hinf
    | some inf => rw [hq] at hinf; exact ⟨inf, rfl, by simpa using hinf⟩
  simp only [Prod.mk.injEq] at hinf2
  obtain ⟨hz0, hz1, hz2⟩ := hinf2
  have hown : Row C sz e base v xs w := (st.get i hi).1
  have key : ∃ v' w', (Builtin.append_ #[T, T] o.type #[v, .slice A ys.length c]).run P w = .ok v' w' ∧ Row C sz e base v' (xs ++ ys) w' ∧ w.grownBy w' v.ownBlock ∧ (v'.ownBlock = v.ownBlock ∨ v'.ownBlock = some w.heap.size) := by
    cases A with
    | none =>
      have hy0 : ys = [] := by
        cases ys with
        | nil => rfl
        | cons y r => obtain ⟨b, off, e, _⟩ := hEls 0 (by simp); cases e
      subst hy0
      exact ⟨v, w, run_append_nil' w base T o.type e inf sz hT hinf1 v _ _ hown c, by simpa using hown, World.grownBy.refl w _, .inl rfl⟩
    | some ad =>
      obtain ⟨v', w', hrun, hown', hgr, _, hat⟩ := run_append_own_at (P := P) w base T o.type e inf z sz bytes hT hinf1 hz0 hz1 hz2 hzs hsz v xs.length (flat C xs) hown ad ys.length c (flat C ys) (flat_len hC ys) (els_cells hsz hC hEls rfl) (fun u hu => by
        obtain ⟨q, _, hq⟩ := List.mem_flatMap.1 hu
        exact List.all_eq_true.1 (h1 q) u hq) hlen2 hlen hbw
      refine ⟨v', w', hrun, ?_, hgr, hat⟩
      have : flat C xs ++ flat C ys = flat C (xs ++ ys) := by simp [flat]
      rw [this] at hown'
      simpa [Row] using hown'
  obtain ⟨v', w', hrun, hr2, hgr, hat⟩ := key
  obtain ⟨A', c', rfl, _, _, _⟩ := row_form hC hr2
  unfold Oper.wp
  have hr : (execOp a.eval o).run P w = .ok (.value (.slice A' (xs ++ ys).length c')) w' := by
    simp only [execOp, ho, resolve, invoke, builtin, Sem.run_bind, Sem.run_pure, Result.andThen_ok, List.map_toArray, List.map_cons, List.map_nil, fr.ev hx, fr.ev hy, hrun]
  rw [hr]
  show X (a.put o.dst _) _
  rw [hd]
  refine h _ _ A' c' (fr.put _ hlt) (st.upd i hi rfl ?_ (row_ok2 hr2 (fun b hb => by
      rcases hat with h2 | h2
      · rw [h2] at hb; exact It.ok_own (st.get i hi) rfl b hb
      · rw [h2] at hb; simp at hb; subst hb; exact .inl st.agr.size)) (fun g hg => ?_))
  · show Agr v.ownBlock.toList w w'
    cases hv : v.ownBlock with
    | none => rw [hv] at hgr; exact Agr.of_grown_none hgr
    | some g => rw [hv] at hgr; exact Agr.of_grown hgr
  · simp only [row, It.fp] at hg ⊢
    rcases hat with h2 | h2
    · rw [h2] at hg; exact .inl hg
    · rw [h2] at hg
      simp at hg
      exact .inr (by omega)
end
end Go.Proofs.YtjhbpcdaojajdaaDoor.LibH
