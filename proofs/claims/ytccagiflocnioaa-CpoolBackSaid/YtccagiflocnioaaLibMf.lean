/- Ranges over functions made in the same call: what the iterator reads is kept, wherever it lies. No program here. -/
import Derived.Test.YtccagiflocnioaaLibM
import Derived.Sort.LoopGhostIn
set_option linter.unusedVariables false
set_option linter.unusedSimpArgs false
namespace Go.Proofs.Ytccagiflocnioaa.LibMf
open Go.RowKit Go.Proofs.Ytccagiflocnioaa.LibS Go.Proofs.Ytccagiflocnioaa.LibR Go.Proofs.Ytccagiflocnioaa.LibT Go.Proofs.Ytccagiflocnioaa.LibU Go.Proofs.Ytccagiflocnioaa.LibV Go.Proofs.Ytccagiflocnioaa.LibW Go.Proofs.Ytccagiflocnioaa.LibX Go.Proofs.Ytccagiflocnioaa.LibY Go.Proofs.Ytccagiflocnioaa.LibQ Go.Proofs.Ytccagiflocnioaa.LibM Go.Proofs.Ytccagiflocnioaa.LibC
/-- the blocks in F are as they were -/
def KeepF (F : List Nat) (W W' : World) : Prop := W.heap.size ≤ W'.heap.size ∧ ∀ c ∈ F, W'.heap[c]? = W.heap[c]?
theorem keepF_t {F : List Nat} {A B C : World} (h : KeepF F A B) (k : KeepF F B C) : KeepF F A C := ⟨Nat.le_trans h.1 k.1, fun c hc => (k.2 c hc).trans (h.2 c hc)⟩
theorem keepF_agr {F K : List Nat} {W W' : World} (h : Agr K W W') (hl : ∀ c ∈ F, c < W.heap.size) (hd : ∀ c ∈ F, c ∉ K) : KeepF F W W' := ⟨h.size, fun c hc => h.block c (hl c hc) (hd c hc)⟩
theorem keepF_b {F : List Nat} {w : World} (hF : ∀ c ∈ F, c < w.heap.size) (W : World) (l : Nat) (o o' : Obj) (hl : w.heap.size ≤ l) (h : W.heap[l]? = some o) : KeepF F W (W.putObj l o') := by
  have hag : Agr [l] W (W.putObj l o') := Agr.of_grown (grownBy_putObj' W l o')
  refine ⟨hag.size, fun c hc => ?_⟩
  have h1 := hF c hc
  have h2 := (Array.getElem?_eq_some_iff.1 h).1
  exact hag.block c (by omega) (by simp; omega)
section
variable {P : Program} {ro : Option Nat} {w0 w : World} {K : List Nat} {M M0 : List It} {n m : Nat} {ds : List Deferred} {a : Act} {L : List (Nat × Value)} {Q : Exit → Act → World → Prop} {ops : Array Oper} {rest : List Oper} {o : Oper}
theorem st_overF {wb w' : World} {F : List Nat} (st : St wb [] w M) (hk : KeepF F w w') (hr : ∀ it ∈ M, it.wr = false) (hf : ∀ it ∈ M, ∀ b ∈ it.fp, b ∈ F) : St w' [] w' M :=
  St.start_ro fun it hi => by
    refine ⟨?_, hr it hi⟩
    have h := st.ok it hi
    have hw := hr it hi
    cases it with
    | blk b cs t => cases hw
    | cust fp wr Φ => exact ⟨h.2.2 w w' (fun b hb => hk.2 b (hf _ hi b hb)) h.1, fun b hb => ⟨Nat.lt_of_lt_of_le (h.2.1 b hb).1 hk.1, fun h' => by rw [show wr = false from hw] at h'; cases h'⟩, h.2.2⟩
theorem st_apart (st : St w0 K w M) {x y : It} (hx : x ∈ M) (hy : y ∈ M) (hxw : x.wr = false) (hyw : y.wr = true) {c : Nat} (hc : c ∈ x.fp) : c ∉ y.fp := by
  have hne : x ≠ y := fun e => by subst e; rw [hxw] at hyw; cases hyw
  obtain ⟨i, hi, rfl⟩ := List.getElem_of_mem hx
  obtain ⟨j, hj, rfl⟩ := List.getElem_of_mem hy
  have hp := List.pairwise_iff_getElem.1 st.sep
  have hij : i ≠ j := fun e => hne (by subst e; rfl)
  rcases Nat.lt_or_gt_of_ne hij with h | h
  · exact hp i j hi hj h (.inr hyw) c hc
  · exact fun hc' => hp j i hj hi h (.inl hyw) c hc' hc
theorem range_lawF {α : Type} {g : Operand} {ps : Array Tmp} {assign body : Code} (F : List Nat) (fr : FrL n a L) (st : St w0 [] w M) {gf : Nat} {lb : Array Value} (hg : evO L g = some (.func (.func gf) #[] lb)) (eg : ∀ args w, (callFunc gf args).run P w = .ok (.enter gf args) w)
    {encs : α → Array Value} {S Sp : List α → Prop} {N : Nat} (hseq : ∀ m, SeqStopsK Fence.wide m P gf lb encs (KeepF F) S Sp N w) (hps : ∀ x, (encs x).size = ps.size)
    (Mi : List α → List It) (φ : List α → Prop) (Mx : Code → List α → List It) (φx : Code → List α → Prop) (hF : ∀ pre, ∀ c ∈ F, ∃ it ∈ Mi pre, it.wr = false ∧ c ∈ it.fp)
    (hfi : ∀ pre, ∀ it ∈ Mi pre, ∀ b ∈ it.fp, b < w.heap.size) (hfx : ∀ c pre, ∀ it ∈ Mx c pre, ∀ b ∈ it.fp, b < w.heap.size) (hbi : ∀ pre, ∀ it ∈ Mi pre, isBlk it = true) (h0 : φ []) (hM0 : Mi [] = M) (C : α → List Value) (t : TypeId) (Lx : α → Nat → List (Nat × Value))
    (hassign : ∀ (l : Nat) (x : α) (W : World) (K : Act → World → Prop), (∀ a' b W', FrL n a' (Lx x b) → St W [] W' [.blk b (C x) t] → K a' W') → assign.wpIn (wdF (some l)) m P (Exit.then K (fun _ _ _ => False)) { tmps := (ps.zip (encs x)).foldl (fun t (p, v) => t.setIfInBounds p v) a.tmps, defers := [] } W)
    (hbody : ∀ (l : Nat) (pre : List α) (x : α) (a' : Act) (b : Nat) (W : World), φ pre → pre.length < N → FrL n a' (Lx x b) → St W (b :: wrK (Mi pre)) W (.blk b (C x) t :: Mi pre) → body.wpIn (wdF (some l)) m P (rPost Mi φ Mx φx (b :: wrK (Mi pre)) (pre ++ [x]) W) a' W)
    (hdone : ∀ (D : Nat) (xs : List α) (W : World), S xs → φ xs → St w0 [] W (dfr D :: Mi xs) → Q .normal { a with defers := [dfD D] } W)
    (hstop : ∀ (D : Nat) (c : Code) (pre : List α) (W : World), Sp pre → φx c pre → St w0 [] W (dfr D :: Mx c pre) → c.wpIn (wdF none) (m + 2) P Q { a with defers := [dfD D] } W) :
    (Code.rangeFunc g ps assign body).wpIn (wdF none) (m + 2) P Q a w := by
  have hB : w0.heap.size ≤ w.heap.size := st.agr.size
  have hFl : ∀ c ∈ F, c < w.heap.size := fun c hc => by
    obtain ⟨it, hi, _, hb⟩ := hF [] c hc
    exact hfi [] it hi c hb
  refine wpIn_rangeFunc_ownH (F := Fence.wide) (n := m + 2) rfl (by omega) (gf := gf) (lb := lb) (fr.ev hg) trivial eg (hseq (m + 1)) keepF_t (fun W l o o' hl h _ _ => keepF_b hFl W l o o' hl h) (Below.refl _ _) hps
    (fun pre W => φ pre ∧ w.heap.size ≤ W.heap.size ∧ St w0 [] W (Mi pre)) (fun c pre W => φx c pre ∧ St w0 [] W (Mx c pre))
    (fun s W W' row hs hg hr => ⟨hs.1, Nat.le_trans hs.2.1 hg.size, st_own hs.2.2 hg hr (hfi s) hB⟩) (fun c s W W' row hs hg hr => ⟨hs.1, st_own hs.2 hg hr (hfx c s) hB⟩) ⟨h0, Nat.le_refl _, by rw [hM0]; exact st⟩
    (fun x a' W => ∃ b, w.heap.size ≤ b ∧ W.heap[b]? = some (.cells (C x).toArray t (0, 0)) ∧ FrL n a' (Lx x b)) ?_ ?_ ?_ ?_ ?_
  · rintro x a' _ X Y row ⟨b, h1, h2, h3⟩ hg hr
    refine ⟨b, h1, (hg.block b (Array.getElem?_eq_some_iff.1 h2).1 (fun e => ?_)).trans h2, h3⟩
    obtain ⟨o, ho, hc⟩ := (hr b e.symm).2
    rw [h2] at ho
    cases ho
    cases hc
  · intro l pre x W K hi hK
    refine hassign l x W K fun a' b W' fr' st' => ?_
    have hag := st'.agr
    refine hK a' W' ⟨hag.size, fun k o _ h1 _ => (hag.block k (Array.getElem?_eq_some_iff.1 h1).1 (by simp)).trans h1⟩ (keepF_agr hag (fun c hc => Nat.lt_of_lt_of_le (hFl c hc) hi.2.1) (by simp)) ⟨hi.1, Nat.le_trans hi.2.1 hag.size, hi.2.2.keep hag⟩ ?_
    have h1 := st'.ok _ (List.mem_cons_self)
    refine ⟨b, ?_, h1.2, fr'⟩
    rcases h1.1 with h2 | h2
    · exact Nat.le_trans hi.2.1 h2
    · cases h2
  · rintro l pre x a' W hl _ hi ⟨b, hb1, hb2, fr'⟩ hlen
    have st' : St w0 [] W (.blk b (C x) t :: Mi pre) := by
      refine ⟨hi.2.2.agr, fun it hit => ?_, List.pairwise_cons.2 ⟨fun y hy _ c hc hc' => ?_, hi.2.2.sep⟩⟩
      · rcases List.mem_cons.1 hit with rfl | hit
        · exact ⟨.inl (Nat.le_trans hB hb1), hb2⟩
        · exact hi.2.2.ok it hit
      · simp only [It.fp, List.mem_singleton] at hc
        subst hc
        have := hfi pre y hy c hc'
        omega
    have hbl : ∀ it ∈ (It.blk b (C x) t :: Mi pre), isBlk it = true := fun it hit => by
      rcases List.mem_cons.1 hit with rfl | hit
      · rfl
      · exact hbi pre it hit
    have hkf : ∀ {W'}, Agr (b :: wrK (Mi pre)) W W' → KeepF F W W' := fun h => keepF_agr h (fun c hc => Nat.lt_of_lt_of_le (hFl c hc) hi.2.1) (fun c hc hm => by
      obtain ⟨it, hit, hw, hcf⟩ := hF pre c hc
      rcases List.mem_cons.1 hm with rfl | hm
      · have := hFl c hc; omega
      · obtain ⟨y, hy, hyw, hcy⟩ := of_wrK hm
        exact st_apart hi.2.2 hit hy hw hyw hcf hcy)
    have hko : ∀ {W'}, Agr (b :: wrK (Mi pre)) W W' → KeepsFrom w.heap.size W W' := fun h => by
      have h2 := keepsOthers_of st' hbl h
      exact ⟨h2.size, fun k o _ h3 h4 => h2.same k o h3 h4⟩
    refine wpIn_mono (hbody l pre x a' b W hi.1 hlen fr' st'.reroot) fun e a' W' hp => ?_
    cases e with
    | normal => exact ⟨hko hp.2.agr, hkf hp.2.agr, hp.1, Nat.le_trans hi.2.1 hp.2.agr.size, st'.unroot hp.2⟩
    | ret => exact ⟨hko hp.2.agr, hp.1, st'.unroot hp.2⟩
    | exit id => exact ⟨hko hp.2.agr, hp.1, st'.unroot hp.2⟩
    | goto t => exact ⟨hko hp.2.agr, hp.1, st'.unroot hp.2⟩
    | panic ch => exact hp.elim
    | outgrown => exact hp.elim
  · intro D xs W hD hS hi hK
    have := hdone D xs W hS hi.1 (add_dfr hi.2.2 hB hD (hfi xs) hK)
    rw [fr.defers]
    exact this
  · intro D c pre W hD hS hi hK
    have := hstop D c pre W hS hi.1 (add_dfr hi.2 hB hD (hfx c pre) hK)
    rw [fr.defers]
    exact this
end
end Go.Proofs.Ytccagiflocnioaa.LibMf
