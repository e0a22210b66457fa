/- Ranges over functions in the small logic: the caller's law, the iterator's call of yield. No program here. -/
import Derived.Test.YtjhbpcdaojajdaaDoorLibY
import Derived.Test.YtjhbpcdaojajdaaDoorLibZ
set_option linter.unusedVariables false
set_option linter.unusedSimpArgs false
namespace Go.Proofs.YtjhbpcdaojajdaaDoor.LibQ
open Go.RowKit Go.Proofs.YtjhbpcdaojajdaaDoor.LibS Go.Proofs.YtjhbpcdaojajdaaDoor.LibR Go.Proofs.YtjhbpcdaojajdaaDoor.LibT Go.Proofs.YtjhbpcdaojajdaaDoor.LibU Go.Proofs.YtjhbpcdaojajdaaDoor.LibV Go.Proofs.YtjhbpcdaojajdaaDoor.LibW Go.Proofs.YtjhbpcdaojajdaaDoor.LibX Go.Proofs.YtjhbpcdaojajdaaDoor.LibY Go.Proofs.YtjhbpcdaojajdaaDoor.LibC
theorem _root_.Go.Proofs.YtjhbpcdaojajdaaDoor.LibS.St.bump {w0 w w' : World} {K : List Nat} {L : List It} (st : St w0 K w L) {r : Nat} (h : Agr [r] w w') (hr : w0.heap.size ≤ r) (hf : ∀ it ∈ L, r ∉ it.fp) : St w0 K w' L :=
  ⟨st.agr.then h (fun b hb => by simp only [List.mem_singleton] at hb; subst hb; exact .inr hr), fun it hi => It.ok_keep (st.ok it hi) h (fun b hb hb' => by simp only [List.mem_singleton] at hb'; subst hb'; exact hf it hi hb), st.sep⟩
def wrK (M : List It) : List Nat := M.flatMap fun it => bif it.wr then it.fp else []
theorem mem_wrK {M : List It} {it : It} (hi : it ∈ M) (hw : it.wr = true) {b : Nat} (hb : b ∈ it.fp) : b ∈ wrK M := List.mem_flatMap.2 ⟨it, hi, by rw [hw]; exact hb⟩
theorem of_wrK {M : List It} {b : Nat} (h : b ∈ wrK M) : ∃ it ∈ M, it.wr = true ∧ b ∈ it.fp := by
  obtain ⟨it, hi, hb⟩ := List.mem_flatMap.1 h
  cases hw : it.wr
  · rw [hw] at hb; cases hb
  · rw [hw] at hb; exact ⟨it, hi, hw, hb⟩
theorem _root_.Go.Proofs.YtjhbpcdaojajdaaDoor.LibS.St.reroot {w0 w : World} {K : List Nat} {M : List It} (st : St w0 K w M) : St w (wrK M) w M := by
  refine ⟨Agr.refl _ _, fun it hi => ?_, st.sep⟩
  have h := st.ok it hi
  cases it with
  | blk b cs t => exact ⟨.inr (mem_wrK hi rfl (by simp [It.fp])), h.2⟩
  | cust fp wr Φ => exact ⟨h.1, fun b hb => ⟨(h.2.1 b hb).1, fun hw => .inr (mem_wrK hi hw hb)⟩, h.2.2⟩
theorem _root_.Go.Proofs.YtjhbpcdaojajdaaDoor.LibS.St.unroot {w0 W W' : World} {K : List Nat} {M M' : List It} (st : St w0 K W M) (st2 : St W (wrK M) W' M') : St w0 K W' M' := by
  have own : ∀ b ∈ wrK M, w0.heap.size ≤ b ∨ b ∈ K := fun b hb => by
    obtain ⟨it, hi, hw, hb⟩ := of_wrK hb
    exact It.ok_own (st.ok it hi) hw b hb
  have up : ∀ b, W.heap.size ≤ b ∨ b ∈ wrK M → w0.heap.size ≤ b ∨ b ∈ K := fun b h => h.elim (fun h => .inl (Nat.le_trans st.agr.size h)) (own b)
  refine ⟨st.agr.then st2.agr (fun b hb => (own b hb).symm), fun it hi => ?_, st2.sep⟩
  have h := st2.ok it hi
  cases it with
  | blk b cs t => exact ⟨up b h.1, h.2⟩
  | cust fp wr Φ => exact ⟨h.1, fun b hb => ⟨(h.2.1 b hb).1, fun hw => up b ((h.2.1 b hb).2 hw)⟩, h.2.2⟩
def isBlk : It → Bool
  | .blk _ _ _ => true
  | .cust _ wr _ => !wr
theorem keepsOthers_of {w0 W W' : World} {K : List Nat} {M : List It} (st : St w0 K W M) (hb : ∀ it ∈ M, isBlk it = true) (h : Agr (wrK M) W W') : KeepsOthers W W' := by
  refine ⟨h.size, fun k o hk ho => (h.block k (Array.getElem?_eq_some_iff.1 hk).1 (fun hm => ?_)).trans hk⟩
  obtain ⟨it, hi, hw, hbm⟩ := of_wrK hm
  have h1 := hb it hi
  cases it with
  | blk b cs t =>
    simp only [It.fp, List.mem_singleton] at hbm
    subst hbm
    have h2 := (st.ok _ hi).2
    rw [hk] at h2
    cases h2
    cases ho
  | cust fp wr Φ => simp only [It.wr] at hw; subst hw; cases h1
theorem below_of {w0 W W' : World} {M : List It} (st : St w0 [] W M) (h : Agr (wrK M) W W') : Below w0.heap.size W W' :=
  ⟨h.os, h.tape, h.output, h.size, fun k hk => h.block k (Nat.lt_of_lt_of_le hk st.agr.size) (fun hm => by
    obtain ⟨it, hi, hw, hb⟩ := of_wrK hm
    rcases It.ok_own (st.ok it hi) hw k hb with h1 | h1
    · omega
    · cases h1)⟩
theorem st_own {w0 W W' : World} {M : List It} {row : Option Nat} {B : Nat} {p : Nat → Prop} (st : St w0 [] W M) (hg : W.grownBy W' row) (hr : ∀ r, row = some r → B ≤ r ∧ p r) (hf : ∀ it ∈ M, ∀ b ∈ it.fp, b < B) (hB : w0.heap.size ≤ B) : St w0 [] W' M := by
  cases row with
  | none => exact st.keep (Agr.of_grown_none hg)
  | some r =>
    have h1 := (hr r rfl).1
    exact st.bump (Agr.of_grown hg) (Nat.le_trans hB h1) (fun it hi hm => by have := hf it hi r hm; omega)
def dfr (D : Nat) : It := .cust [D] true fun w => w.heap[D]? = some (.deferred (some []))
def dfD (D : Nat) : Deferred := { target := .collected D, args := #[] }
theorem add_dfr {w0 W : World} {M : List It} (st : St w0 [] W M) {D B : Nat} (hB : w0.heap.size ≤ B) (hD : B ≤ D) (hf : ∀ it ∈ M, ∀ b ∈ it.fp, b < B) (h : W.heap[D]? = some (.deferred (some []))) : St w0 [] W (dfr D :: M) := by
  refine ⟨st.agr, fun it hi => ?_, List.pairwise_cons.2 ⟨fun x hx _ b hb hb' => ?_, st.sep⟩⟩
  · rcases List.mem_cons.1 hi with rfl | hi
    · refine ⟨h, fun b hb => ?_, fun w1 w2 he h1 => (he D (by simp)).trans h1⟩
      simp only [List.mem_singleton] at hb
      subst hb
      exact ⟨(Array.getElem?_eq_some_iff.1 h).1, fun _ => .inl (Nat.le_trans hB hD)⟩
    · exact st.ok it hi
  · simp only [dfr, It.fp, List.mem_singleton] at hb
    subst hb
    have := hf x hx b hb'
    omega
theorem _root_.Go.Proofs.YtjhbpcdaojajdaaDoor.LibS.FrD.mark {ds ds' : List Deferred} {n : Nat} {a : Act} {L : List (Nat × Value)} (fr : FrD ds n a L) : FrD ds' n { a with defers := ds' } L := ⟨fr.size, rfl, fr.get⟩
def rPost {α : Type} (Mi : List α → List It) (φ : List α → Prop) (Mx : Code → List α → List It) (φx : Code → List α → Prop) (K : List Nat) (xs : List α) (W : World) : Exit → Act → World → Prop
  | .normal, _, W' => φ xs ∧ St W K W' (Mi xs)
  | .ret, _, W' => φx .ret xs ∧ St W K W' (Mx .ret xs)
  | .exit id, _, W' => φx (.exit id) xs ∧ St W K W' (Mx (.exit id) xs)
  | .goto t, _, W' => φx (.goto t) xs ∧ St W K W' (Mx (.goto t) xs)
  | .panic _, _, _ => False
  | .outgrown, _, _ => False
section
variable {P : Program} {w0 w : World} {K : List Nat} {M : List It} {n m : Nat} {ds : List Deferred} {a : Act} {L : List (Nat × Value)} {Q : Exit → Act → World → Prop}
theorem range_law {α : Type} {g : Operand} {ps : Array Tmp} {assign body : Code} (fr : FrL n a L) (st : St w0 [] w M) {gf : Nat} {lb : Array Value} (hg : evO L g = some (.func (.func gf) #[] lb)) (eg : ∀ args w, (callFunc gf args).run P w = .ok (.enter gf args) w)
    {encs : α → Array Value} {S Sp : List α → Prop} {N : Nat} (hseq : ∀ m, SeqStopsK Fence.wide m P gf lb encs (Below w0.heap.size) S Sp N w) (hps : ∀ x, (encs x).size = ps.size)
    (Mi : List α → List It) (φ : List α → Prop) (Mx : Code → List α → List It) (φx : Code → List α → Prop)
    (hfi : ∀ pre, ∀ it ∈ Mi pre, ∀ b ∈ it.fp, b < w.heap.size) (hfx : ∀ c pre, ∀ it ∈ Mx c pre, ∀ b ∈ it.fp, b < w.heap.size) (hbi : ∀ pre, ∀ it ∈ Mi pre, isBlk it = true) (h0 : φ []) (hM0 : Mi [] = M) (a₁ : α → Act)
    (hassign : ∀ (l : Nat) (x : α) (W : World) (K : Act → World → Prop), K (a₁ x) W → assign.wpIn (wdF (some l)) m P (Exit.then K (fun _ _ _ => False)) { tmps := (ps.zip (encs x)).foldl (fun t (p, v) => t.setIfInBounds p v) a.tmps, defers := [] } W)
    (hbody : ∀ (l : Nat) (pre : List α) (x : α) (W : World), φ pre → pre.length < N → St W (wrK (Mi pre)) W (Mi pre) → body.wpIn (wdF (some l)) m P (rPost Mi φ Mx φx (wrK (Mi pre)) (pre ++ [x]) W) (a₁ x) W)
    (hdone : ∀ (D : Nat) (xs : List α) (W : World), S xs → φ xs → St w0 [] W (dfr D :: Mi xs) → Q .normal { a with defers := [dfD D] } W)
    (hstop : ∀ (D : Nat) (c : Code) (pre : List α) (W : World), Sp pre → φx c pre → St w0 [] W (dfr D :: Mx c pre) → c.wpIn (wdF none) (m + 2) P Q { a with defers := [dfD D] } W) :
    (Code.rangeFunc g ps assign body).wpIn (wdF none) (m + 2) P Q a w := by
  have hB : w0.heap.size ≤ w.heap.size := st.agr.size
  refine wpIn_rangeFunc_ownF (F := Fence.wide) (n := m + 2) rfl (by omega) (gf := gf) (lb := lb) (fr.ev hg) trivial eg (hseq (m + 1)) belowK_t (belowK_b hB) (Below.refl _ _) hps
    (fun pre W => φ pre ∧ St w0 [] W (Mi pre)) (fun c pre W => φx c pre ∧ St w0 [] W (Mx c pre))
    (fun s W W' row hs hg hr => ⟨hs.1, st_own hs.2 hg hr (hfi s) hB⟩) (fun c s W W' row hs hg hr => ⟨hs.1, st_own hs.2 hg hr (hfx c s) hB⟩) ⟨h0, by rw [hM0]; exact st⟩ a₁ hassign ?_ ?_ ?_
  · intro l pre x W hi hlen
    refine wpIn_mono (hbody l pre x W hi.1 hlen hi.2.reroot) fun e a' W' hp => ?_
    cases e with
    | normal => exact ⟨keepsOthers_of hi.2 (hbi pre) hp.2.agr, below_of hi.2 hp.2.agr, hp.1, hi.2.unroot hp.2⟩
    | ret => exact ⟨keepsOthers_of hi.2 (hbi pre) hp.2.agr, hp.1, hi.2.unroot hp.2⟩
    | exit id => exact ⟨keepsOthers_of hi.2 (hbi pre) hp.2.agr, hp.1, hi.2.unroot hp.2⟩
    | goto t => exact ⟨keepsOthers_of hi.2 (hbi pre) hp.2.agr, hp.1, hi.2.unroot hp.2⟩
    | panic ch => exact hp.elim
    | outgrown => exact hp.elim
  · intro D xs W hD hS hi hK
    have := hdone D xs W hS hi.1 (add_dfr hi.2 hB hD (hfi xs) hK)
    rw [fr.defers]
    exact this
  · intro D c pre W hD hS hi hK
    have := hstop D c pre W hS hi.1 (add_dfr hi.2 hB hD (hfx c pre) hK)
    rw [fr.defers]
    exact this
theorem enterM {f : FuncId} {fn : Func} {c : Code} {vs : List Value} {R : Ending → World → Prop} (hf : P.funcs[f]? = some fn) (hb : fn.body = some c) (hn : fn.ntmps = n) (hvs : vs.length ≤ n) (m : Nat)
    (h : ∀ a, FrL n a (argL 0 vs) → c.wpIn (wdF none) m P (bodyPostM (wdF none) m P fn R) a w) : Calls P f vs.toArray w R := by
  refine (callsIn_wide (n := m)).1 (callsIn_of_wp_marks hf hb trivial (h _ ⟨?_, rfl, fun d v hl => ?_⟩))
  · simp [hn]; omega
  · obtain ⟨_, h2⟩ := lkS_argL vs 0 d v hl
    rw [Nat.sub_zero] at h2
    have hd := (List.getElem?_eq_some_iff.1 h2).1
    simp only [Array.getD_eq_getD_getElem?]
    rw [Array.getElem?_append_left (by simpa using hd)]
    simp [h2]
theorem retM1 {fn : Func} {R : Ending → World → Prop} {r : ResultVar} {v : Value} {D : Nat} (hr : fn.results = #[r]) (fr : FrD [dfD D] n a L) (st : St w0 K w (dfr D :: M)) (h1 : ∀ w', St w0 K w' M → (rvRun a.tmps r).run P w' = .ok v w') (h : ∀ w', St w0 K w' M → R (.returned v) w') : bodyPostM (wdF none) m P fn R .ret a w := by
  have hk : w.heap[D]? = some (.deferred (some [])) := (st.ok _ (List.mem_cons_self)).1
  have hlt : D < w.heap.size := (Array.getElem?_eq_some_iff.1 hk).1
  have hown := It.ok_own (st.ok _ (List.mem_cons_self)) rfl D (by simp [dfr, It.fp])
  have st2 : St w0 K (w.putObj D (.deferred none)) M := by
    have hag : Agr [D] w (w.putObj D (.deferred none)) := Agr.of_grown (grownBy_putObj' w D (.deferred none))
    have hsep := List.pairwise_cons.1 st.sep
    refine ⟨st.agr.then hag (fun b hb => ?_), fun it hi => It.ok_keep (st.ok it (List.mem_cons_of_mem _ hi)) hag (fun b hb hb' => ?_), hsep.2⟩
    · simp only [List.mem_singleton] at hb
      subst hb
      exact hown.symm
    · simp only [List.mem_singleton] at hb'
      subst hb'
      exact hsep.1 it hi (.inl rfl) b (by simp [dfr, It.fp]) hb
  show LeavesInM (wdF none) m P fn a.tmps R a.defers .returning w
  rw [fr.defers]
  refine ⟨by simp, .inl ⟨D, _, rfl, run_takeDeferred hk, ?_⟩⟩
  refine ⟨v, ?_, h _ st2⟩
  simp [results_rv, hr, h1 _ st2]
theorem retP1 {fn : Func} {R : Ending → World → Prop} {r : ResultVar} {v : Value} (hr : fn.results = #[r]) (fr : FrL n a L) (h1 : (rvRun a.tmps r).run P w = .ok v w) (h : R (.returned v) w) : bodyPostM (wdF none) m P fn R .ret a w := by
  show LeavesInM (wdF none) m P fn a.tmps R a.defers .returning w
  rw [fr.defers]
  refine ⟨v, ?_, h⟩
  simp [results_rv, hr, h1]
/-- one loop variable, assigned -/
theorem assign1 {id : Nat} {d : Tmp} {x : Operand} {ty : TypeId} {pos : String} {aft : Array Edge} {K : Act → World → Prop} {l : Nat} (h : K (a.put (some d) (a.eval x)) w) :
    (Code.region id #[⟨some d, .assign x, ty, pos, aft, none⟩] false).wpIn (wdF (some l)) m P (Exit.then K (fun _ _ _ => False)) a w := by
  refine regI (l := [⟨some d, .assign x, ty, pos, aft, none⟩]) ?_
  refine lstI (fun _ h => by cases h) rfl ?_
  unfold Oper.wp
  rw [rn_assign rfl]
  exact h
theorem assign2 {id : Nat} {d d2 : Tmp} {x x2 : Operand} {ty ty2 : TypeId} {pos pos2 : String} {aft aft2 : Array Edge} {K : Act → World → Prop} {l : Nat} (h : K ((a.put (some d) (a.eval x)).put (some d2) ((a.put (some d) (a.eval x)).eval x2)) w) :
    (Code.region id #[⟨some d, .assign x, ty, pos, aft, none⟩, ⟨some d2, .assign x2, ty2, pos2, aft2, none⟩] false).wpIn (wdF (some l)) m P (Exit.then K (fun _ _ _ => False)) a w := by
  refine regI (l := [⟨some d, .assign x, ty, pos, aft, none⟩, ⟨some d2, .assign x2, ty2, pos2, aft2, none⟩]) ?_
  refine lstI (fun _ h => by cases h) rfl ?_
  unfold Oper.wp
  rw [rn_assign rfl]
  refine lstI (fun _ h => by cases h) rfl ?_
  unfold Oper.wp
  rw [rn_assign rfl]
  exact h
theorem FrD.setp (fr : FrD ds n a L) {p : Tmp} (v : Value) (hp : Nat.blt p n = true) : FrD [] n { tmps := a.tmps.setIfInBounds p v, defers := [] } ((p, v) :: L) := by
  have h := fr.put v hp
  exact ⟨h.size, rfl, h.get⟩
theorem rn_makeFunc (fr : FrD ds n a L) {dst : Option Tmp} {ty : TypeId} {pos : String} {aft : Array Edge} {gd : Option (Nat × Bool)} {f : FuncId} {xs : List Operand} {vs : List Value} (hvs : evs L xs = some vs) : (execOp a.eval ⟨dst, .makeFunc (.func f) #[] xs.toArray, ty, pos, aft, gd⟩).run P w = .ok (.value (.func (.func f) #[] vs.toArray)) w := by
  have hm := evs_map fr hvs
  subst hm
  simp [execOp, Instr.makeFunc]
/-- read-only items behind whatever keeps what lay below n0 -/
theorem st_over {wb w' : World} {n0 : Nat} (st : St wb [] w M) (hk : Below n0 w w') (hr : ∀ it ∈ M, it.wr = false) (hf : ∀ it ∈ M, ∀ b ∈ it.fp, b < n0) : St w' [] w' M :=
  St.start_ro fun it hi => by
    refine ⟨?_, hr it hi⟩
    have h := st.ok it hi
    have hw := hr it hi
    cases it with
    | blk b cs t => cases hw
    | cust fp wr Φ => exact ⟨h.2.2 w w' (fun b hb => hk.block b (hf _ hi b hb)) h.1, fun b hb => ⟨Nat.lt_of_lt_of_le (h.2.1 b hb).1 hk.size, fun h' => by rw [show wr = false from hw] at h'; cases h'⟩, h.2.2⟩
theorem ro_lt {wb : World} (st : St wb K w M) {n0 : Nat} (h : w.heap.size ≤ n0) : ∀ it ∈ M, ∀ b ∈ it.fp, b < n0 := fun it hi b hb => Nat.lt_of_lt_of_le (st.lt hi b hb) h
theorem abide {α : Type} {B : Nat} {J : List α → World → Prop} (hJ : AbidesFrom B J) {pre : List α} {wb : World} (h : J pre wb) (st : St wb [] w M) : J pre w :=
  hJ pre wb w none h ⟨st.agr.os, st.agr.tape, st.agr.output, st.agr.size, fun k hk _ => st.agr.block k hk (by simp)⟩ (by simp)
/-- the call of yield, run -/
theorem run_yielded (fr : FrD ds n a L) {o : Oper} {x : Operand} {xs : List Operand} {ts : Array TypeId} {l : Nat} {vs : List Value} (ho : o.op = .call { callee := .value x, args := xs.toArray, argTypes := ts }) (hx : evO L x = some (.func (.yield l) #[] #[])) (hvs : evs L xs = some vs) (fn : Nat) (tmps : Array Value) (assign body : Code)
    (h : (Instr.yield l vs.toArray).run P w = .ok (.round l fn tmps assign body) w) : (execOp a.eval o).run P w = .ok (.round l fn tmps assign body) w := by
  have hm := evs_map fr hvs
  subst hm
  have e := fr.ev hx
  simp only [execOp, ho, resolve, invoke, Deferred.ofValue, e, List.map_toArray, Sem.run_bind, Sem.run_pure, Result.andThen_ok]
  simpa using h
/-- the call of yield -/
theorem lst_yields (fr : FrL n a L) {ops : Array Oper} {rest : List Oper} {o : Oper} {x : Operand} {xs : List Operand} {ts : Array TypeId} {l k : Nat} {vs : List Value} {d : Tmp} {R : Ending → World → Prop} (ho : o.op = .call { callee := .value x, args := xs.toArray, argTypes := ts }) (hg : o.guard = none) (hd : o.dst = some d) (hlt : Nat.blt d n = true)
    (hx : evO L x = some (.func (.yield l) #[] #[])) (hvs : evs L xs = some vs) (hy : YieldAt Fence.wide k P l vs.toArray w R) (hR : ∀ e w', R e w' → ∃ v, e = .returned v ∧ ∀ a', FrL n a' ((d, v) :: L) → wpListIn (wdF none) m P ops Q rest a' w') : wpListIn (wdF none) m P ops Q (o :: rest) a w :=
  lst_yield fr ho hg hd hlt (fun fn tmps assign body h => run_yielded fr ho hx hvs fn tmps assign body h) hy hR
theorem seq_calls {f : FuncId} {vs : List Value} {R : Ending → World → Prop} (h : Calls P f vs.toArray w R) (k : Nat) : CallsIn Fence.wide k P f vs.toArray w R := callsIn_wide.2 h
def as1 (a : Act) (p d : Tmp) (v : Value) : Act := Act.put { tmps := a.tmps.setIfInBounds p v, defers := [] } (some d) (Act.eval { tmps := a.tmps.setIfInBounds p v, defers := [] } (.tmp p))
theorem fr_as1 (fr : FrL n a L) {p d : Tmp} (v : Value) (hp : Nat.blt p n = true) (hd : Nat.blt d n = true) : FrL n (as1 a p d v) ((d, v) :: (p, v) :: L) := by
  have h := FrD.setp fr v hp
  unfold as1
  rw [h.ev (x := .tmp p) (v := v) (by simp [evO, lkS])]
  exact h.put v hd
theorem asg1 {id : Nat} {p d : Tmp} {v : Value} {ty : TypeId} {pos : String} {aft : Array Edge} {K : Act → World → Prop} {l : Nat} (h : K (as1 a p d v) w) :
    (Code.region id #[⟨some d, .assign (.tmp p), ty, pos, aft, none⟩] false).wpIn (wdF (some l)) m P (Exit.then K (fun _ _ _ => False)) { tmps := (#[p].zip #[v]).foldl (fun t (p, v) => t.setIfInBounds p v) a.tmps, defers := [] } w := by
  have e : (#[p].zip #[v]).foldl (fun t (p, v) => t.setIfInBounds p v) a.tmps = a.tmps.setIfInBounds p v := by simp
  rw [e]
  exact assign1 h
def as2 (a : Act) (p q d e : Tmp) (v u : Value) : Act := (Act.put { tmps := (a.tmps.setIfInBounds p v).setIfInBounds q u, defers := [] } (some d) (Act.eval { tmps := (a.tmps.setIfInBounds p v).setIfInBounds q u, defers := [] } (.tmp p))).put (some e) (Act.eval (Act.put { tmps := (a.tmps.setIfInBounds p v).setIfInBounds q u, defers := [] } (some d) (Act.eval { tmps := (a.tmps.setIfInBounds p v).setIfInBounds q u, defers := [] } (.tmp p))) (.tmp q))
theorem fr_as2 (fr : FrL n a L) {p q d e : Tmp} (v u : Value) (hp : Nat.blt p n = true) (hq : Nat.blt q n = true) (hd : Nat.blt d n = true) (he : Nat.blt e n = true) (h1 : Nat.beq q p = false) (h2 : Nat.beq d q = false) : FrL n (as2 a p q d e v u) ((e, u) :: (d, v) :: (q, u) :: (p, v) :: L) := by
  have h0 := FrD.setp fr v hp
  have h := FrD.setp h0 u hq
  unfold as2
  have e1 := h.ev (x := .tmp p) (v := v) (by simp [evO, lkS, h1])
  rw [e1]
  have h3 := h.put v hd
  have e2 := h3.ev (x := .tmp q) (v := u) (by simp [evO, lkS, h2])
  rw [e2]
  exact h3.put u he
theorem asg2 {id : Nat} {p q d e : Tmp} {v u : Value} {ty ty2 : TypeId} {pos pos2 : String} {aft aft2 : Array Edge} {K : Act → World → Prop} {l : Nat} (h : K (as2 a p q d e v u) w) :
    (Code.region id #[⟨some d, .assign (.tmp p), ty, pos, aft, none⟩, ⟨some e, .assign (.tmp q), ty2, pos2, aft2, none⟩] false).wpIn (wdF (some l)) m P (Exit.then K (fun _ _ _ => False)) { tmps := (#[p, q].zip #[v, u]).foldl (fun t (p, v) => t.setIfInBounds p v) a.tmps, defers := [] } w := by
  have e : (#[p, q].zip #[v, u]).foldl (fun t (p, v) => t.setIfInBounds p v) a.tmps = (a.tmps.setIfInBounds p v).setIfInBounds q u := by simp
  rw [e]
  exact assign2 h
theorem fps_lt {M' : List It} (st : St w0 K w M) (h : M'.map It.fp = M.map It.fp) : ∀ it ∈ M', ∀ b ∈ it.fp, b < w.heap.size := fun it hi b hb => by
  have h1 : it.fp ∈ M.map It.fp := h ▸ List.mem_map_of_mem hi
  obtain ⟨it', hi', e⟩ := List.mem_map.1 h1
  exact st.lt hi' b (e ▸ hb)
theorem all_blk {M : List It} (h : M.all isBlk = true) : ∀ it ∈ M, isBlk it = true := List.all_eq_true.1 h
theorem condI_b {ro : Option Nat} {c : Operand} {x y : Code} (b : Bool) (fr : FrD ds n a L) (hc : evO L c = some (.bool b)) (ht : b = true → x.wpIn (wdF ro) m P Q a w) (hf : b = false → y.wpIn (wdF ro) m P Q a w) : (Code.cond c x y).wpIn (wdF ro) m P Q a w := by
  cases b
  · exact condI_f fr hc rfl (hf rfl)
  · exact condI_t fr hc rfl (ht rfl)
theorem all_ro {M : List It} (h : M.all (fun it => !it.wr) = true) : ∀ it ∈ M, it.wr = false := fun it hi => by simpa using List.all_eq_true.1 h it hi
theorem st_now (st : St w0 K w M) (hr : ∀ it ∈ M, it.wr = false) : St w [] w M := St.start_ro fun it hi => ⟨ro_now (st.ok it hi) (hr it hi), hr it hi⟩
theorem pre_snoc {α : Type} {pre all : List α} {x : α} (h : pre <+: all) (hl : pre.length < all.length) (hx : all[pre.length] = x) : pre ++ [x] <+: all := by
  obtain ⟨t, rfl⟩ := h
  cases t with
  | nil => simp at hl
  | cons y t =>
    simp at hx
    subst hx
    exact ⟨t, by simp⟩
theorem pre_bad {α : Type} {pre all : List α} {x : α} (hl : pre.length < all.length) (hx : ¬ all[pre.length] = x) : ¬ pre ++ [x] <+: all := by
  rintro ⟨t, rfl⟩
  simp at hx
/-- a block of one's own, only read from now on -/
theorem ro_of_blk {b : Nat} {cs : List Value} {t : TypeId} (h : (It.blk b cs t).ok w0 K w) : (ro b 0 cs).ok w [] w := by
  refine ⟨fun j v hj => ?_, fun c hc => ?_, Ro_stable _ _ _⟩
  · rw [Nat.zero_add, cell_of_row w b j _ _ _ h.2]; simpa using hj
  · simp only [ro, List.mem_singleton] at hc
    subst hc
    exact ⟨(Array.getElem?_eq_some_iff.1 h.2).1, fun h => by cases h⟩
end
end Go.Proofs.YtjhbpcdaojajdaaDoor.LibQ
