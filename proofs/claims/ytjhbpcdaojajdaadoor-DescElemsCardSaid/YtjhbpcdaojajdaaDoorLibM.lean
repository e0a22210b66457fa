/- Ranges over functions whose loop variable is boxed; regions in whatever order within a round; yield behind a guard. No program here. -/
import Derived.Test.YtjhbpcdaojajdaaDoorLibQ
import Derived.OrdersIn
set_option linter.unusedVariables false
set_option linter.unusedSimpArgs false
namespace Go.Proofs.YtjhbpcdaojajdaaDoor.LibM
open Go.RowKit Go.Proofs.YtjhbpcdaojajdaaDoor.LibS Go.Proofs.YtjhbpcdaojajdaaDoor.LibR Go.Proofs.YtjhbpcdaojajdaaDoor.LibT Go.Proofs.YtjhbpcdaojajdaaDoor.LibU Go.Proofs.YtjhbpcdaojajdaaDoor.LibV Go.Proofs.YtjhbpcdaojajdaaDoor.LibW Go.Proofs.YtjhbpcdaojajdaaDoor.LibX Go.Proofs.YtjhbpcdaojajdaaDoor.LibY Go.Proofs.YtjhbpcdaojajdaaDoor.LibQ Go.Proofs.YtjhbpcdaojajdaaDoor.LibC
section
variable {P : Program} {ro : Option Nat} {w0 w : World} {K : List Nat} {M M0 : List It} {n m : Nat} {ds : List Deferred} {a : Act} {L : List (Nat × Value)} {Q : Exit → Act → World → Prop} {ops : Array Oper} {rest : List Oper} {o : Oper}
/-- the call of yield, guarded and wanted -/
theorem lst_yieldW (fr : FrD ds n a L) {c : Call} {l k : Nat} {args : Array Value} {d : Tmp} {R : Ending → World → Prop} (ho : o.op = .call c) (hw : Region.wanted o (yielded ops a.tmps) = true) (hd : o.dst = some d) (hlt : Nat.blt d n = true)
    (hrun : ∀ fn tmps assign body, (Instr.yield l args).run P w = .ok (.round l fn tmps assign body) w → (execOp a.eval o).run P w = .ok (.round l fn tmps assign body) w)
    (hy : YieldAt Fence.wide k P l args w R) (hR : ∀ e w', R e w' → ∃ v, e = .returned v ∧ ∀ a', FrD ds n a' ((d, v) :: L) → wpListIn (wdF none) m P ops Q rest a' w') : wpListIn (wdF none) m P ops Q (o :: rest) a w :=
  wpListIn_step fun K hK => by
    rw [if_pos hw]
    obtain ⟨fn, tmps, assign, body, h1, h2⟩ := hy
    refine ⟨fun _ _ => trivial, ?_⟩
    rw [show o.semAt (wdF none).round a.eval = execOp a.eval o from rfl, hrun _ _ _ _ h1]
    refine ⟨(fun h => by cases h), ?_⟩
    refine RoundIn.mono (R := R) ⟨trivial, fun c cs _ => h2.2 c cs (room_wide _)⟩ fun e w' hr => ?_
    obtain ⟨v, rfl, h3⟩ := hR e w' hr
    refine hK _ _ ?_
    rw [hd]
    exact h3 _ (fr.put v hlt)
theorem lst_yieldsW (fr : FrL n a L) {x : Operand} {xs : List Operand} {ts : Array TypeId} {l k : Nat} {vs : List Value} {d : Tmp} {R : Ending → World → Prop} (ho : o.op = .call { callee := .value x, args := xs.toArray, argTypes := ts }) (hw : Region.wanted o (yielded ops a.tmps) = true) (hd : o.dst = some d) (hlt : Nat.blt d n = true)
    (hx : evO L x = some (.func (.yield l) #[] #[])) (hvs : evs L xs = some vs) (hy : YieldAt Fence.wide k P l vs.toArray w R) (hR : ∀ e w', R e w' → ∃ v, e = .returned v ∧ ∀ a', FrL n a' ((d, v) :: L) → wpListIn (wdF none) m P ops Q rest a' w') : wpListIn (wdF none) m P ops Q (o :: rest) a w :=
  lst_yieldW fr ho hw hd hlt (fun fn tmps assign body h => run_yielded fr ho hx hvs fn tmps assign body h) hy hR
/-! a region in whatever order, within a round or not -/
def noDef (ops : Array Oper) : Bool := ops.all fun o => match o.op with | .defer _ => false | _ => true
theorem noDef_at (h : noDef ops = true) {i : Nat} (hi : ops[i]? = some o) : ∀ c, o.op ≠ .defer c := by
  intro c hc
  obtain ⟨hlt, rfl⟩ := Array.getElem?_eq_some_iff.1 hi
  have := Array.all_eq_true.1 h i hlt
  rw [hc] at this
  cases this
theorem wpAnyIn_of_any {md : Region.Mode} (hnd : noDef ops = true) (hlo : ∀ a w, ¬ Q .outgrown a w) : ∀ (fuel : Nat) (listed : Array Bool) (a : Act) (w : World), wpAny P md ops Q fuel listed a w → wpAnyIn (wdF ro) m P md ops Q fuel listed a w
  | 0, _, _, _, h => h
  | fuel + 1, listed, a, w, h => by
    refine ⟨h.1, fun i hi => ?_⟩
    have h2 := h.2 i hi
    unfold wpOp at h2
    unfold wpOpIn
    cases hq : ops[i]? with
    | none =>
      rw [hq] at h2
      exact wpAnyIn_of_any hnd hlo fuel _ a w h2
    | some o =>
      rw [hq] at h2
      simp only at h2 ⊢
      by_cases hw : Region.wanted o (yielded ops a.tmps) = true
      · rw [if_pos hw] at h2 ⊢
        rcases h2 with h2 | ⟨_, a', w', h3⟩
        · exact owIn (noDef_at hnd hq) (Oper.wp_mono (fun a' w' h' => wpAnyIn_of_any hnd hlo fuel _ a' w' h') h2)
        · exact absurd h3 (hlo a' w')
      · rw [if_neg hw] at h2 ⊢
        exact ⟨fun _ _ => trivial, wpAnyIn_of_any hnd hlo fuel _ _ w h2⟩
theorem dr_startI {id : Nat} (hm : P.follows .mixedOrders = true) (hnd : noDef ops = true) (hlo : ∀ a w, ¬ Q .outgrown a w) (st : St w0 K w M) (hs : M0.Sublist M)
    (h : ∀ w', St w0 K w' M → wpAnyH P .any ops Q (fun w' => St w0 K w' M0) ops.size (Array.replicate ops.size false) a w') : (Code.region id ops true).wpIn (wdF ro) m P Q a w :=
  wpIn_region_any hm (wpAnyIn_of_any hnd hlo _ _ _ _ (wpAny_of_held _ _ _ _ (h _ st.drew)))
theorem fr_set2 (fr : FrL n a L) {p q : Tmp} {v u : Value} (hp : Nat.blt p n = true) (hq : Nat.blt q n = true) : FrL n { tmps := (#[p, q].zip #[v, u]).foldl (fun t (p, v) => t.setIfInBounds p v) a.tmps, defers := [] } ((q, u) :: (p, v) :: L) := by
  have e : (#[p, q].zip #[v, u]).foldl (fun t (p, v) => t.setIfInBounds p v) a.tmps = (a.tmps.setIfInBounds p v).setIfInBounds q u := by simp
  rw [e]
  have h0 := FrD.setp fr v hp
  exact FrD.setp h0 u hq
theorem fr_set1 (fr : FrL n a L) {p : Tmp} {v : Value} (hp : Nat.blt p n = true) : FrL n { tmps := (#[p].zip #[v]).foldl (fun t (p, v) => t.setIfInBounds p v) a.tmps, defers := [] } ((p, v) :: L) := by
  have e : (#[p].zip #[v]).foldl (fun t (p, v) => t.setIfInBounds p v) a.tmps = a.tmps.setIfInBounds p v := by simp
  rw [e]
  exact FrD.setp fr v hp
theorem range_lawB {α : Type} {g : Operand} {ps : Array Tmp} {assign body : Code} (fr : FrL n a L) (st : St w0 [] w M) {gf : Nat} {lb : Array Value} (hg : evO L g = some (.func (.func gf) #[] lb)) (eg : ∀ args w, (callFunc gf args).run P w = .ok (.enter gf args) w)
    {encs : α → Array Value} {S Sp : List α → Prop} {N : Nat} (hseq : ∀ m, SeqStopsK Fence.wide m P gf lb encs (Below w0.heap.size) S Sp N w) (hps : ∀ x, (encs x).size = ps.size)
    (Mi : List α → List It) (φ : List α → Prop) (Mx : Code → List α → List It) (φx : Code → List α → Prop)
    (hfi : ∀ pre, ∀ it ∈ Mi pre, ∀ b ∈ it.fp, b < w.heap.size) (hfx : ∀ c pre, ∀ it ∈ Mx c pre, ∀ b ∈ it.fp, b < w.heap.size) (hbi : ∀ pre, ∀ it ∈ Mi pre, isBlk it = true) (h0 : φ []) (hM0 : Mi [] = M) (C : α → List Value) (t : TypeId) (Lx : α → Nat → List (Nat × Value))
    (hassign : ∀ (l : Nat) (x : α) (W : World) (K : Act → World → Prop), (∀ a' b W', FrL n a' (Lx x b) → St W [] W' [.blk b (C x) t] → K a' W') → assign.wpIn (wdF (some l)) m P (Exit.then K (fun _ _ _ => False)) { tmps := (ps.zip (encs x)).foldl (fun t (p, v) => t.setIfInBounds p v) a.tmps, defers := [] } W)
    (hbody : ∀ (l : Nat) (pre : List α) (x : α) (a' : Act) (b : Nat) (W : World), φ pre → pre.length < N → FrL n a' (Lx x b) → St W (b :: wrK (Mi pre)) W (.blk b (C x) t :: Mi pre) → body.wpIn (wdF (some l)) m P (rPost Mi φ Mx φx (b :: wrK (Mi pre)) (pre ++ [x]) W) a' W)
    (hdone : ∀ (D : Nat) (xs : List α) (W : World), S xs → φ xs → St w0 [] W (dfr D :: Mi xs) → Q .normal { a with defers := [dfD D] } W)
    (hstop : ∀ (D : Nat) (c : Code) (pre : List α) (W : World), Sp pre → φx c pre → St w0 [] W (dfr D :: Mx c pre) → c.wpIn (wdF none) (m + 2) P Q { a with defers := [dfD D] } W) :
    (Code.rangeFunc g ps assign body).wpIn (wdF none) (m + 2) P Q a w := by
  have hB : w0.heap.size ≤ w.heap.size := st.agr.size
  refine wpIn_rangeFunc_ownH (F := Fence.wide) (n := m + 2) rfl (by omega) (gf := gf) (lb := lb) (fr.ev hg) trivial eg (hseq (m + 1)) belowK_t (belowK_b hB) (Below.refl _ _) hps
    (fun pre W => φ pre ∧ w.heap.size ≤ W.heap.size ∧ St w0 [] W (Mi pre)) (fun c pre W => φx c pre ∧ St w0 [] W (Mx c pre))
    (fun s W W' row hs hg hr => ⟨hs.1, Nat.le_trans hs.2.1 hg.size, st_own hs.2.2 hg hr (hfi s) hB⟩) (fun c s W W' row hs hg hr => ⟨hs.1, st_own hs.2 hg hr (hfx c s) hB⟩) ⟨h0, Nat.le_refl _, by rw [hM0]; exact st⟩
    (fun x a' W => ∃ b, w.heap.size ≤ b ∧ W.heap[b]? = some (.cells (C x).toArray t (0, 0)) ∧ FrL n a' (Lx x b)) ?_ ?_ ?_ ?_ ?_
  · rintro x a' _ X Y row ⟨b, h1, h2, h3⟩ hg hr
    refine ⟨b, h1, (hg.block b (Array.getElem?_eq_some_iff.1 h2).1 (fun e => ?_)).trans h2, h3⟩
    obtain ⟨o, ho, hc⟩ := (hr b e.symm).2
    rw [h2] at ho
    cases ho
    cases hc
  · intro l pre x W K hi hK
    refine hassign l x W K fun a' b W' fr' st' => ?_
    have hag := st'.agr
    refine hK a' W' ⟨hag.size, fun k o _ h1 _ => (hag.block k (Array.getElem?_eq_some_iff.1 h1).1 (by simp)).trans h1⟩ ⟨hag.os, hag.tape, hag.output, hag.size, fun k hk => hag.block k (Nat.lt_of_lt_of_le hk hi.2.2.agr.size) (by simp)⟩ ⟨hi.1, Nat.le_trans hi.2.1 hag.size, hi.2.2.keep hag⟩ ?_
    have h1 := st'.ok _ (List.mem_cons_self)
    refine ⟨b, ?_, h1.2, fr'⟩
    rcases h1.1 with h2 | h2
    · exact Nat.le_trans hi.2.1 h2
    · cases h2
  · rintro l pre x a' W hl _ hi ⟨b, hb1, hb2, fr'⟩ hlen
    have st' : St w0 [] W (.blk b (C x) t :: Mi pre) := by
      refine ⟨hi.2.2.agr, fun it hit => ?_, List.pairwise_cons.2 ⟨fun y hy _ c hc hc' => ?_, hi.2.2.sep⟩⟩
      · rcases List.mem_cons.1 hit with rfl | hit
        · exact ⟨.inl (Nat.le_trans hB hb1), hb2⟩
        · exact hi.2.2.ok it hit
      · simp only [It.fp, List.mem_singleton] at hc
        subst hc
        have := hfi pre y hy c hc'
        omega
    have hbl : ∀ it ∈ (It.blk b (C x) t :: Mi pre), isBlk it = true := fun it hit => by
      rcases List.mem_cons.1 hit with rfl | hit
      · rfl
      · exact hbi pre it hit
    have hko : ∀ {W'}, Agr (b :: wrK (Mi pre)) W W' → KeepsFrom w.heap.size W W' := fun h => by
      have h2 := keepsOthers_of st' hbl h
      exact ⟨h2.size, fun k o _ h3 h4 => h2.same k o h3 h4⟩
    refine wpIn_mono (hbody l pre x a' b W hi.1 hlen fr' st'.reroot) fun e a' W' hp => ?_
    cases e with
    | normal => exact ⟨hko hp.2.agr, below_of st' hp.2.agr, hp.1, Nat.le_trans hi.2.1 hp.2.agr.size, st'.unroot hp.2⟩
    | ret => exact ⟨hko hp.2.agr, hp.1, st'.unroot hp.2⟩
    | exit id => exact ⟨hko hp.2.agr, hp.1, st'.unroot hp.2⟩
    | goto t => exact ⟨hko hp.2.agr, hp.1, st'.unroot hp.2⟩
    | panic ch => exact hp.elim
    | outgrown => exact hp.elim
  · intro D xs W hD hS hi hK
    have := hdone D xs W hS hi.1 (add_dfr hi.2.2 hB hD (hfi xs) hK)
    rw [fr.defers]
    exact this
  · intro D c pre W hD hS hi hK
    have := hstop D c pre W hS hi.1 (add_dfr hi.2 hB hD (hfx c pre) hK)
    rw [fr.defers]
    exact this
end
end Go.Proofs.YtjhbpcdaojajdaaDoor.LibM
