/- The steps of a walk over the small logic: operations one by one, regions in the text's order and in whatever order, loops, calls, results. No program here. -/
import Derived.Test.YtjhbpcdaojajdaaDoorLibR
import Derived.Deep.LoopGhost
set_option linter.unusedVariables false
set_option linter.unusedSimpArgs false
namespace Go.Proofs.YtjhbpcdaojajdaaDoor.LibT
open Go.RowKit Go.Proofs.YtjhbpcdaojajdaaDoor.LibS Go.Proofs.YtjhbpcdaojajdaaDoor.LibR
/-! ### start, end -/
def argL : Nat → List Value → List (Nat × Value)
  | _, [] => []
  | i, v :: r => (i, v) :: argL (i + 1) r
theorem lkS_argL : ∀ (vs : List Value) (i d : Nat) (v : Value), lkS (argL i vs) d = some v → i ≤ d ∧ vs[d - i]? = some v
  | [], i, d, v, h => by cases h
  | u :: r, i, d, v, h => by
    unfold argL lkS at h
    cases hb : Nat.beq i d
    · rw [hb] at h
      obtain ⟨h1, h2⟩ := lkS_argL r (i + 1) d v h
      refine ⟨by omega, ?_⟩
      rw [show d - i = (d - (i + 1)) + 1 from by omega, List.getElem?_cons_succ]
      exact h2
    · rw [hb] at h
      have := Nat.eq_of_beq_eq_true hb
      subst this
      exact ⟨Nat.le_refl _, by simpa using h⟩
section
variable {P : Program} {w0 w : World} {K : List Nat} {M : List It} {n : Nat} {ds : List Deferred} {a : Act} {L : List (Nat × Value)}
theorem enter {f : FuncId} {fn : Func} {c : Code} {vs : List Value} {R : Ending → World → Prop} (hf : P.funcs[f]? = some fn) (hb : fn.body = some c) (hn : fn.ntmps = n) (hvs : vs.length ≤ n)
    (h : ∀ a, FrL n a (argL 0 vs) → c.wp P (bodyPost P fn R) a w) : Calls P f vs.toArray w R := by
  refine calls_of_wp hf hb (h _ ⟨?_, rfl, fun d v hl => ?_⟩)
  · simp [hn]; omega
  · obtain ⟨_, h2⟩ := lkS_argL vs 0 d v hl
    rw [Nat.sub_zero] at h2
    have hd := (List.getElem?_eq_some_iff.1 h2).1
    simp only [Array.getD_eq_getD_getElem?]
    rw [Array.getElem?_append_left (by simpa using hd)]
    simp [h2]
def rvRun (tmps : Array Value) : ResultVar → Sem Value
  | .tmp t => pure (tmps.getD t undef)
  | .cell a t => do loadVar t (← asAddr (tmps.getD a undef))
theorem rv_tmp (fr : FrD ds n a L) {t : Tmp} {v : Value} (h : lkS L t = some v) : (rvRun a.tmps (.tmp t)).run P w = .ok v w := by simp [rvRun, fr.get t v h]
theorem rv_row (fr : FrD ds n a L) {p : Tmp} {T b o : Nat} {d : TypeDesc} {cs : List Value} (h : lkS L p = some (.pointer (some ⟨b, o, none⟩))) (hT : P.underlying T = some d) (hd : d.isRow = true) (hi : (P.info? T).map (·.size) = some cs.length) (hc : w.rangeAt b o cs) : (rvRun a.tmps (.cell p T)).run P w = .ok (.agg cs.toArray) w := by
  simp only [rvRun, fr.get p _ h, asAddr, Sem.run_bind, Sem.run_pure, Result.andThen_ok]
  exact run_loadVar_mid w b o T cs d hc hT hd hi
theorem rv_cell (fr : FrD ds n a L) {p : Tmp} {T b o : Nat} {d : TypeDesc} {v : Value} (h : lkS L p = some (.pointer (some ⟨b, o, none⟩))) (hT : P.underlying T = some d) (hd : (match d with | .struct _ | .array _ _ => true | _ => false) = false) (hc : w.cell? ⟨b, o, none⟩ = some v) : (rvRun a.tmps (.cell p T)).run P w = .ok v w := by
  simp only [rvRun, fr.get p _ h, asAddr, Sem.run_bind, Sem.run_pure, Result.andThen_ok]
  cases d <;> simp at hd <;> simp [loadVar, isAgg, run_underlying hT, go_sem, hc, hT]
theorem results_rv (fn : Func) (tmps : Array Value) : results fn tmps = (do let vs ← fn.results.mapM (rvRun tmps); pure (if h : vs.size = 1 then vs[0] else .tuple vs)) := by
  unfold results
  have e : (fun r => match r with
    | .tmp t => pure (tmps.getD t undef)
    | .cell a t => do loadVar t (← asAddr (tmps.getD a undef)) : ResultVar → Sem Value) = rvRun tmps := by funext r; cases r <;> rfl
  rw [← e]
  rfl
theorem ret0 {fn : Func} {R : Ending → World → Prop} (hr : fn.results = #[]) (fr : FrL n a L) (h : R (.returned (.tuple #[])) w) : bodyPost P fn R .ret a w := by
  refine ⟨fr.defers, _, ?_, h⟩
  simp [results, hr]
theorem ret1 {fn : Func} {R : Ending → World → Prop} {r : ResultVar} {v : Value} (hr : fn.results = #[r]) (fr : FrL n a L) (h1 : (rvRun a.tmps r).run P w = .ok v w) (h : R (.returned v) w) : bodyPost P fn R .ret a w := by
  refine ⟨fr.defers, v, ?_, h⟩
  simp [results_rv, hr, h1]
theorem ret2 {fn : Func} {R : Ending → World → Prop} {r s : ResultVar} {v u : Value} (hr : fn.results = #[r, s]) (fr : FrL n a L) (h1 : (rvRun a.tmps r).run P w = .ok v w) (h2 : (rvRun a.tmps s).run P w = .ok u w) (h : R (.returned (.tuple #[v, u])) w) : bodyPost P fn R .ret a w := by
  refine ⟨fr.defers, _, ?_, h⟩
  simp [results_rv, hr, h1, h2]
theorem ret3 {fn : Func} {R : Ending → World → Prop} {r s t : ResultVar} {v u x : Value} (hr : fn.results = #[r, s, t]) (fr : FrL n a L) (h1 : (rvRun a.tmps r).run P w = .ok v w) (h2 : (rvRun a.tmps s).run P w = .ok u w) (h3 : (rvRun a.tmps t).run P w = .ok x w) (h : R (.returned (.tuple #[v, u, x])) w) : bodyPost P fn R .ret a w := by
  refine ⟨fr.defers, _, ?_, h⟩
  simp [results_rv, hr, h1, h2, h3]
theorem ret_end {fn : Func} {R : Ending → World → Prop} (h : bodyPost P fn R .ret a w) : bodyPost P fn R .normal a w := h
/-! ### one operation -/
variable {o : Oper} {X : Act → World → Prop} {Q : Exit → Act → World → Prop}
theorem ow_v (fr : FrD ds n a L) {d : Tmp} {v : Value} (hrun : (execOp a.eval o).run P w = .ok (.value v) w) (hd : o.dst = some d) (hlt : Nat.blt d n = true) (h : ∀ a', FrD ds n a' ((d, v) :: L) → X a' w) : o.wp P a w X Q := by
  unfold Oper.wp
  rw [hrun]
  show X (a.put o.dst v) w
  rw [hd]
  exact h _ (fr.put v hlt)
theorem ow_vn (fr : FrD ds n a L) {v : Value} (hrun : (execOp a.eval o).run P w = .ok (.value v) w) (hd : o.dst = none) (h : X a w) : o.wp P a w X Q := by
  unfold Oper.wp
  rw [hrun]
  show X (a.put o.dst v) w
  rw [hd]
  exact h
/-- a new block: a box -/
theorem ow_box (fr : FrD ds n a L) (st : St w0 K w M) {d T : Nat} {x : Operand} {v : Value} (ho : o.op = .box T x) (hx : evO L x = some v) (hd : o.dst = some d) (hlt : Nat.blt d n = true) (cs : List Value) (hcs : v.cells.toList = cs)
    (h : ∀ a' w' b, FrD ds n a' ((d, .pointer (some ⟨b, 0, none⟩)) :: L) → St w0 K w' (.blk b cs T :: M) → X a' w') : o.wp P a w X Q := by
  unfold Oper.wp
  have hr : (execOp a.eval o).run P w = .ok (.value (.pointer (some ⟨w.heap.size, 0, none⟩))) (w.alloc (.cells v.cells T)) := by
    simp only [execOp, ho, fr.ev hx]
    simp [Instr.box, newVar, newRow, go_sem]
  rw [hr]
  show X (a.put o.dst _) _
  rw [hd]
  refine h _ _ w.heap.size (fr.put _ hlt) (st.new (Agr.alloc w _) ⟨.inl st.agr.size, ?_⟩ (by simp [It.fp]))
  subst hcs
  simpa using heap_alloc_new w (.cells v.cells T)
/-- a new block: a zero -/
theorem ow_alloc (fr : FrD ds n a L) (st : St w0 K w M) {d T : Nat} {z : Value} (ho : o.op = .alloc T) (hz : ∀ w, (zeroValue T).run P w = .ok z w) (hd : o.dst = some d) (hlt : Nat.blt d n = true) (cs : List Value) (hcs : z.cells.toList = cs)
    (h : ∀ a' w' b, FrD ds n a' ((d, .pointer (some ⟨b, 0, none⟩)) :: L) → St w0 K w' (.blk b cs T :: M) → X a' w') : o.wp P a w X Q := by
  unfold Oper.wp
  have hr : (execOp a.eval o).run P w = .ok (.value (.pointer (some ⟨w.heap.size, 0, none⟩))) (w.alloc (.cells z.cells T)) := by
    simp [execOp, ho, Instr.alloc, newVar, newRow, hz w, go_sem]
  rw [hr]
  show X (a.put o.dst _) _
  rw [hd]
  refine h _ _ w.heap.size (fr.put _ hlt) (st.new (Agr.alloc w _) ⟨.inl st.agr.size, ?_⟩ (by simp [It.fp]))
  subst hcs
  simpa using heap_alloc_new w (.cells z.cells T)
/-- a store of one cell -/
theorem ow_st (fr : FrD ds n a L) (st : St w0 K w M) (i : Nat) {T : Nat} {b k : Nat} {cs : List Value} {t : TypeId} {x y : Operand} {v u : Value} (ho : o.op = .store T x y) (hx : evO L x = some (.pointer (some ⟨b, k, none⟩))) (hy : evO L y = some v) (h1 : v.oneCell' = true)
    (hT : (P.info? T).map (·.size) = some 1) (hi : M[i]? = some (.blk b cs t)) (hk : cs[k]? = some u) (hd : o.dst = none) (h : ∀ w', St w0 K w' (M.set i (.blk b (cs.set k v) t)) → X a w') : o.wp P a w X Q := by
  have hb := (st.get i hi).2
  have hc := st.cell i hi hk
  have hf : w.frozen? ⟨b, k, none⟩ = false := by simp [World.frozen?, hb]
  have hsz : sizeOf T = sizeOf T := rfl
  unfold Oper.wp
  have hr : (execOp a.eval o).run P w = .ok .skip (w.setCell ⟨b, k, none⟩ v) := by
    cases hj : P.info? T with
    | none => rw [hj] at hT; simp at hT
    | some j =>
      rw [hj] at hT
      have hs' : j.size = 1 := by simpa using hT
      have hvc : v.cells = #[v] := by cases v <;> first | rfl | simp [Value.oneCell'] at h1
      simp [execOp, ho, fr.ev hx, fr.ev hy, Instr.storeAt, Instr.sureAddr, storeVar, hvc, sizeOf, typeInfo, hj, hs', storeCells, run_store P w _ v .plain h1, Addr.add_zero', hc, hf]
  rw [hr]
  show X (a.put o.dst _) _
  rw [hd]
  refine h _ (st.upd i hi rfl (Agr.setCell w b k v) ⟨(st.get i hi).1, ?_⟩ (fun c hc => .inl hc))
  simp only [World.setCell, Array.getElem?_modify, hb]
  simp
def setR (cs : List Value) (k : Nat) (vs : List Value) : List Value := cs.take k ++ vs ++ cs.drop (k + vs.length)
theorem setCells_heap (w : World) (b k : Nat) (t : TypeId) : ∀ (vs : List Value) (k : Nat) (cs : List Value) (w : World), w.heap[b]? = some (.cells cs.toArray t (0, 0)) → k + vs.length ≤ cs.length → (w.setCells b k vs).heap[b]? = some (.cells (setR cs k vs).toArray t (0, 0))
  | [], k, cs, w, h, hl => by simpa [World.setCells, setR] using h
  | v :: r, k, cs, w, h, hl => by
    have hk : k < cs.length := by simp at hl; omega
    have h1 : (w.setCell ⟨b, k, none⟩ v).heap[b]? = some (.cells (cs.set k v).toArray t (0, 0)) := by
      simp only [World.setCell, Array.getElem?_modify, h]
      simp
    have := setCells_heap w b k t r (k + 1) (cs.set k v) (w.setCell ⟨b, k, none⟩ v) h1 (by simp at hl ⊢; omega)
    have e : setR (cs.set k v) (k + 1) r = setR cs k (v :: r) := by
      unfold setR
      rw [List.take_set, List.drop_set, if_pos (by omega)]
      have : (cs.take (k + 1)).set k v = cs.take k ++ [v] := by
        rw [List.take_succ_eq_append_getElem hk, List.set_append_right _ _ (by simp; omega)]
        simp [Nat.min_eq_left (Nat.le_of_lt hk)]
      rw [this]
      simp [Nat.add_assoc, Nat.add_comm 1]
    rw [← e]
    exact this
/-- a store of a struct -/
theorem ow_stN (fr : FrD ds n a L) (st : St w0 K w M) (i : Nat) {T : Nat} {b k : Nat} {cs vs : List Value} {t : TypeId} {x y : Operand} (ho : o.op = .store T x y) (hx : evO L x = some (.pointer (some ⟨b, k, none⟩))) (hy : evO L y = some (.agg vs.toArray)) (h1 : vs.all (·.oneCell') = true)
    (hT : (P.info? T).map (·.size) = some vs.length) (hi : M[i]? = some (.blk b cs t)) (hk : k + vs.length ≤ cs.length) (hd : o.dst = none) (h : ∀ w', St w0 K w' (M.set i (.blk b (setR cs k vs) t)) → X a w') : o.wp P a w X Q := by
  have hb := (st.get i hi).2
  unfold Oper.wp
  have hr : (execOp a.eval o).run P w = .ok .skip (w.setCells b k vs) := by
    have := run_storeAt_mid (P := P) w b k T vs.toArray (fun j hj => by
      have hjl : k + j < cs.length := by simp at hj; omega
      refine ⟨?_, by simp [World.frozen?, hb]⟩
      rw [cell_of_row w b _ _ _ _ hb]
      simp [hjl]) (by simpa using hT) (by simpa using h1)
    simp [execOp, ho, fr.ev hx, fr.ev hy, this]
  rw [hr]
  show X (a.put o.dst _) _
  rw [hd]
  exact h _ (st.upd i hi rfl (Agr.setCells w b k vs) ⟨(st.get i hi).1, setCells_heap w b k t vs k cs w hb hk⟩ (fun c hc => .inl hc))
/-- a slice literal -/
theorem ow_bslice (fr : FrD ds n a L) (st : St w0 K w M) {d T E m : Nat} {parts : Array (Nat × Operand)} (ho : o.op = .buildSlice T m parts) (cs : List Value)
    (hrun : ∀ w : World, (Instr.buildSlice T m (parts.map fun (i, x) => (i, a.eval x))).run P w = .ok (.slice (some ⟨w.heap.size, 0, none⟩) m m) (w.alloc (.cells cs.toArray E))) (hd : o.dst = some d) (hlt : Nat.blt d n = true)
    (h : ∀ a' w' b, FrD ds n a' ((d, .slice (some ⟨b, 0, none⟩) m m) :: L) → St w0 K w' (.blk b cs E :: M) → X a' w') : o.wp P a w X Q := by
  unfold Oper.wp
  have hr : (execOp a.eval o).run P w = .ok (.value (.slice (some ⟨w.heap.size, 0, none⟩) m m)) (w.alloc (.cells cs.toArray E)) := by
    simp only [execOp, ho, Sem.run_bind, hrun w, Result.andThen_ok, Sem.run_pure]
  rw [hr]
  show X (a.put o.dst _) _
  rw [hd]
  exact h _ _ w.heap.size (fr.put _ hlt) (st.new (Agr.alloc w _) ⟨.inl st.agr.size, heap_alloc_new w _⟩ (by simp [It.fp]))
/-- whatever makes one new block -/
theorem ow_make (fr : FrD ds n a L) (st : St w0 K w M) {d E : Nat} (cs : List Value) (V : Nat → Value) (hrun : ∀ w : World, (execOp a.eval o).run P w = .ok (.value (V w.heap.size)) (w.alloc (.cells cs.toArray E))) (hd : o.dst = some d) (hlt : Nat.blt d n = true)
    (h : ∀ a' w' b, FrD ds n a' ((d, V b) :: L) → St w0 K w' (.blk b cs E :: M) → X a' w') : o.wp P a w X Q := by
  unfold Oper.wp
  rw [hrun w]
  show X (a.put o.dst _) _
  rw [hd]
  exact h _ _ w.heap.size (fr.put _ hlt) (st.new (Agr.alloc w _) ⟨.inl st.agr.size, heap_alloc_new w _⟩ (by simp [It.fp]))
def evs (L : List (Nat × Value)) : List Operand → Option (List Value)
  | [] => some []
  | x :: r => match evO L x, evs L r with
    | some v, some vs => some (v :: vs)
    | _, _ => none
theorem evs_map (fr : FrD ds n a L) : ∀ {xs : List Operand} {vs : List Value}, evs L xs = some vs → xs.map a.eval = vs
  | [], vs, h => by simp [evs] at h; simp [h]
  | x :: r, vs, h => by
    unfold evs at h
    split at h
    · rename_i v us h1 h2
      cases h
      simp [fr.ev h1, evs_map fr h2]
    · cases h
/-- a call of a function by its contract -/
theorem ow_call (fr : FrD ds n a L) {f : FuncId} {xs : List Operand} {ts : Array TypeId} {vs : List Value} {R : Ending → World → Prop} (ho : o.op = .call { callee := .value (.func f), args := xs.toArray, argTypes := ts }) (hvs : evs L xs = some vs) (hcf : ∀ args w, (callFunc f args).run P w = .ok (.enter f args) w) (hc : Calls P f vs.toArray w R) {d : Tmp} (hd : o.dst = some d) (hlt : Nat.blt d n = true)
    (h : ∀ e w', R e w' → ∃ v, e = .returned v ∧ ∀ a', FrD ds n a' ((d, v) :: L) → X a' w') : o.wp P a w X Q := by
  unfold Oper.wp
  have hr : (execOp a.eval o).run P w = .ok (.enter f vs.toArray) w := by
    have hm := evs_map fr hvs
    subst hm
    simp [execOp, ho, resolve, Act.eval, invoke, Deferred.ofValue, hcf]
  rw [hr]
  refine hc.mono fun e w' hR => ?_
  obtain ⟨v, rfl, hX⟩ := h e w' hR
  show X (a.put o.dst v) w'
  rw [hd]
  exact hX _ (fr.put v hlt)
/-! ### lists of operations -/
variable {ops : Array Oper} {rest : List Oper}
theorem lst (hg : o.guard = none) (h : o.wp P a w (wpList P ops Q rest) Q) : wpList P ops Q (o :: rest) a w :=
  wpList_step fun X hX => by
    rw [if_pos (by simp [Region.wanted, hg])]
    exact Oper.wp_mono hX h
/-- an operation that is guarded, and wanted -/
theorem lst_y (hw : Region.wanted o (yielded ops a.tmps) = true) (h : o.wp P a w (wpList P ops Q rest) Q) : wpList P ops Q (o :: rest) a w :=
  wpList_step fun X hX => by
    rw [if_pos hw]
    exact Oper.wp_mono hX h
/-- .. and not wanted -/
theorem lst_n (hw : Region.wanted o (yielded ops a.tmps) = false) (fr : FrD ds n a L) {d : Tmp} (hd : o.dst = some d) (hlt : Nat.blt d n = true) (h : ∀ a', FrD ds n a' ((d, undef) :: L) → wpList P ops Q rest a' w) : wpList P ops Q (o :: rest) a w :=
  wpList_step fun X hX => by
    rw [if_neg (by simp [hw])]
    refine hX _ _ ?_
    rw [hd]
    exact h _ (fr.put _ hlt)
end
end Go.Proofs.YtjhbpcdaojajdaaDoor.LibT
