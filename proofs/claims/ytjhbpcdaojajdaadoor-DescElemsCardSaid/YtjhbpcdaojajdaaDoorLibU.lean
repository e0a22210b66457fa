/- The small logic's control: conditions, blocks, loops, regions in whatever order; slices that came in, element by element; rows that grow. No program here. -/
import Derived.Test.YtjhbpcdaojajdaaDoorLibT
import Derived.Test.YtjhbpcdaojajdaaDoorLibC
set_option linter.unusedVariables false
set_option linter.unusedSimpArgs false
namespace Go.Proofs.YtjhbpcdaojajdaaDoor.LibU
open Go.RowKit Go.Proofs.YtjhbpcdaojajdaaDoor.LibS Go.Proofs.YtjhbpcdaojajdaaDoor.LibR Go.Proofs.YtjhbpcdaojajdaaDoor.LibT Go.Proofs.YtjhbpcdaojajdaaDoor.LibC
section
variable {P : Program} {w0 w : World} {K : List Nat} {M M0 : List It} {n : Nat} {ds : List Deferred} {a : Act} {L : List (Nat × Value)} {Q : Exit → Act → World → Prop} {N : Act → World → Prop} {i j : Nat}
theorem then_n (h : N a w) : Exit.then N Q .normal a w := h
theorem then_x (h : Q (.exit i) a w) : Exit.then N Q (.exit i) a w := h
theorem then_r (h : Q .ret a w) : Exit.then N Q .ret a w := h
theorem blk_n (h : Q .normal a w) : Exit.inBlock i Q .normal a w := h
theorem blk_r (h : Q .ret a w) : Exit.inBlock i Q .ret a w := h
theorem blk_x (h : Q .normal a w) : Exit.inBlock i Q (.exit i) a w := by simp [Exit.inBlock, h]
theorem blk_o (hne : j ≠ i) (h : Q (.exit j) a w) : Exit.inBlock i Q (.exit j) a w := by simp [Exit.inBlock, hne, h]
theorem reg {id : Nat} {l : List Oper} (h : wpList P l.toArray Q l a w) : (Code.region id l.toArray false).wp P Q a w := wp_region_lit h
theorem cond_t {c : Operand} {x y : Code} {b : Bool} (fr : FrD ds n a L) (hc : evO L c = some (.bool b)) (hb : b = true) (h : x.wp P Q a w) : (Code.cond c x y).wp P Q a w := by
  subst hb; exact wp_cond_true (fr.ev hc) h
theorem cond_f {c : Operand} {x y : Code} {b : Bool} (fr : FrD ds n a L) (hc : evO L c = some (.bool b)) (hb : b = false) (h : y.wp P Q a w) : (Code.cond c x y).wp P Q a w := by
  subst hb; exact wp_cond_false (fr.ev hc) h
theorem cond_b {c : Operand} {x y : Code} (b : Bool) (fr : FrD ds n a L) (hc : evO L c = some (.bool b)) (ht : b = true → x.wp P Q a w) (hf : b = false → y.wp P Q a w) : (Code.cond c x y).wp P Q a w := wp_cond_split (fr.ev hc) ht hf
/-! a region in whatever order -/
variable {ops : Array Oper} {o : Oper} {fuel : Nat} {listed : Array Bool} {S : World → Prop}
theorem dr_start {id : Nat} (hm : P.follows .mixedOrders = true) (st : St w0 K w M) (hs : M0.Sublist M)
    (h : ∀ w', St w0 K w' M → wpAnyH P .any ops Q (fun w' => St w0 K w' M0) ops.size (Array.replicate ops.size false) a w') : (Code.region id ops true).wp P Q a w :=
  wp_region_held_drew (S := fun w' => St w0 K w' M0) hm (st.drew.sub hs) (fun _ => h _ st.drew)
theorem dr_take (i : Nat) {v : Value} (hi : ops[i]? = some o) (hsel : Region.noSelect ops = true) (hf : Region.free .any ops listed i = true) (hr : (Region.ready .any ops listed).contains i = true)
    (hQ : ∀ c a w, Q (.panic c) (a.put o.dst v) w → Q (.panic c) a w) (fr : FrD ds n a L) (hg : o.guard = none) (hS : S w) (hrun : ∀ w, S w → (execOp a.eval o).run P w = .ok (.value v) w) {d : Tmp} (hd : o.dst = some d) (hlt : Nat.blt d n = true)
    (h : ∀ a', FrD ds n a' ((d, v) :: L) → wpAnyH P .any ops Q S fuel (listed.setIfInBounds i true) a' w) : wpAnyH P .any ops Q S (fuel + 1) listed a w :=
  wpAnyH_take hi hsel hf hr hQ (.inl ⟨by simp [Region.wanted, hg], hrun⟩) hS (by rw [hd]; exact h _ (fr.put v hlt))
theorem dr_take_y (i : Nat) {v : Value} (hi : ops[i]? = some o) (hsel : Region.noSelect ops = true) (hf : Region.free .any ops listed i = true) (hr : (Region.ready .any ops listed).contains i = true)
    (hQ : ∀ c a w, Q (.panic c) (a.put o.dst v) w → Q (.panic c) a w) (fr : FrD ds n a L) (hw : Region.wanted o (yielded ops a.tmps) = true) (hS : S w) (hrun : ∀ w, S w → (execOp a.eval o).run P w = .ok (.value v) w) {d : Tmp} (hd : o.dst = some d) (hlt : Nat.blt d n = true)
    (h : ∀ a', FrD ds n a' ((d, v) :: L) → wpAnyH P .any ops Q S fuel (listed.setIfInBounds i true) a' w) : wpAnyH P .any ops Q S (fuel + 1) listed a w :=
  wpAnyH_take hi hsel hf hr hQ (.inl ⟨hw, hrun⟩) hS (by rw [hd]; exact h _ (fr.put v hlt))
theorem dr_take_n (i : Nat) (hi : ops[i]? = some o) (hsel : Region.noSelect ops = true) (hf : Region.free .any ops listed i = true) (hr : (Region.ready .any ops listed).contains i = true)
    (hQ : ∀ c a w, Q (.panic c) (a.put o.dst undef) w → Q (.panic c) a w) (fr : FrD ds n a L) (hw : Region.wanted o (yielded ops a.tmps) = false) (hS : S w) {d : Tmp} (hd : o.dst = some d) (hlt : Nat.blt d n = true)
    (h : ∀ a', FrD ds n a' ((d, undef) :: L) → wpAnyH P .any ops Q S fuel (listed.setIfInBounds i true) a' w) : wpAnyH P .any ops Q S (fuel + 1) listed a w :=
  wpAnyH_take hi hsel hf hr hQ (.inr ⟨hw, rfl⟩) hS (by rw [hd]; exact h _ (fr.put _ hlt))
theorem dr_one (i : Nat) (hr : Region.ready .any ops listed = [i]) (hi : ops[i]? = some o) (hg : o.guard = none)
    (h : o.wp P a w (fun a' w' => S w' ∧ wpAnyH P .any ops Q S fuel (listed.setIfInBounds i true) a' w') Q) : wpAnyH P .any ops Q S (fuel + 1) listed a w :=
  wpAnyH_all hr (by simp) (fun k hk => by
    simp only [List.mem_singleton] at hk
    subst hk
    unfold wpOp
    simp only [hi]
    rw [if_pos (by simp [Region.wanted, hg])]
    exact .inl h)
theorem dr_one_y (i : Nat) (hr : Region.ready .any ops listed = [i]) (hi : ops[i]? = some o) (hw : Region.wanted o (yielded ops a.tmps) = true)
    (h : o.wp P a w (fun a' w' => S w' ∧ wpAnyH P .any ops Q S fuel (listed.setIfInBounds i true) a' w') Q) : wpAnyH P .any ops Q S (fuel + 1) listed a w :=
  wpAnyH_all hr (by simp) (fun k hk => by
    simp only [List.mem_singleton] at hk
    subst hk
    unfold wpOp
    simp only [hi]
    rw [if_pos hw]
    exact .inl h)
theorem dr_one_n (i : Nat) (hr : Region.ready .any ops listed = [i]) (hi : ops[i]? = some o) (hw : Region.wanted o (yielded ops a.tmps) = false) (fr : FrD ds n a L) {d : Tmp} (hd : o.dst = some d) (hlt : Nat.blt d n = true) (hS : S w)
    (h : ∀ a', FrD ds n a' ((d, undef) :: L) → wpAnyH P .any ops Q S fuel (listed.setIfInBounds i true) a' w) : wpAnyH P .any ops Q S (fuel + 1) listed a w :=
  wpAnyH_all hr (by simp) (fun k hk => by
    simp only [List.mem_singleton] at hk
    subst hk
    unfold wpOp
    simp only [hi]
    rw [if_neg (by simp [hw])]
    refine ⟨hS, ?_⟩
    rw [hd]
    exact h _ (fr.put _ hlt))
theorem dr_two (i j : Nat) {o2 : Oper} (hr : Region.ready .any ops listed = [i, j]) (hi : ops[i]? = some o) (hg : o.guard = none) (hj : ops[j]? = some o2) (hg2 : o2.guard = none)
    (h : o.wp P a w (fun a' w' => S w' ∧ wpAnyH P .any ops Q S fuel (listed.setIfInBounds i true) a' w') Q)
    (h2 : o2.wp P a w (fun a' w' => S w' ∧ wpAnyH P .any ops Q S fuel (listed.setIfInBounds j true) a' w') Q) : wpAnyH P .any ops Q S (fuel + 1) listed a w :=
  wpAnyH_all hr (by simp) (fun k hk => by
    rcases List.mem_cons.1 hk with rfl | hk
    · unfold wpOp
      simp only [hi]
      rw [if_pos (by simp [Region.wanted, hg])]
      exact .inl h
    · simp only [List.mem_singleton] at hk
      subst hk
      unfold wpOp
      simp only [hj]
      rw [if_pos (by simp [Region.wanted, hg2])]
      exact .inl h2)
theorem dr_done (hr : Region.ready .any ops listed = []) (h : Q .normal a w) : wpAnyH P .any ops Q S fuel listed a w := wpAnyH_done hr h fuel
theorem slot_bool (fr : FrD ds n a L) {d : Tmp} {b : Bool} (hv : lkS L d = some (.bool b)) : a.tmps[d]? = some (.bool b) := by
  have := fr.get d _ hv
  simp only [Array.getD_eq_getD_getElem?] at this
  cases hq : a.tmps[d]? with
  | none => rw [hq] at this; simp [undef] at this
  | some v => rw [hq] at this; simpa using this
theorem wanted_of (fr : FrD ds n a L) {j : Nat} {want b : Bool} {d : Tmp} (hg : o.guard = some (j, want)) (hj : (ops[j]?).bind (·.dst) = some d) (hv : lkS L d = some (.bool b)) (hb : (b == want) = true) : Region.wanted o (yielded ops a.tmps) = true := by
  have := slot_bool fr hv
  simp only [Region.wanted, hg, yielded, hj, Option.bind_some, this]
  simpa using hb
theorem unwanted_of (fr : FrD ds n a L) {j : Nat} {want b : Bool} {d : Tmp} (hg : o.guard = some (j, want)) (hj : (ops[j]?).bind (·.dst) = some d) (hv : lkS L d = some (.bool b)) (hb : (b == want) = false) : Region.wanted o (yielded ops a.tmps) = false := by
  have := slot_bool fr hv
  simp only [Region.wanted, hg, yielded, hj, Option.bind_some, this]
  simpa using hb
theorem rn_as {o : Oper} {ρ : Operand → Value} {v v' : Value} (h : (execOp ρ o).run P w = .ok (.value v) w) (e : v = v') : (execOp ρ o).run P w = .ok (.value v') w := e ▸ h
theorem wr_i64 (x : Int) (h1 : -9223372036854775808 ≤ x) (h2 : x ≤ 9223372036854775807) : IntKind.i64.wrap x = x := by rw [IntKind.wrap_i64]; omega
theorem wr_i64e {x c : Int} (h1 : -9223372036854775808 ≤ x) (h2 : x ≤ 9223372036854775807) (e : x = c) : IntKind.i64.wrap x = c := e ▸ wr_i64 x h1 h2
theorem _root_.Go.Proofs.YtjhbpcdaojajdaaDoor.LibS.St.blkrange {w0 w : World} {K : List Nat} {L : List It} (st : St w0 K w L) (i : Nat) {b : Nat} {cs : List Value} {t : TypeId} (h : L[i]? = some (.blk b cs t)) (o : Nat) {ds : List Value} (hd : (cs.drop o).take ds.length = ds) : w.rangeAt b o ds := by
  intro j v hj
  have hjl := (List.getElem?_eq_some_iff.1 hj).1
  rw [← hd, List.getElem?_take, if_pos hjl, List.getElem?_drop] at hj
  exact st.cell i h hj
theorem _root_.Go.Proofs.YtjhbpcdaojajdaaDoor.LibS.St.rorange {w0 w : World} {K : List Nat} {L : List It} (st : St w0 K w L) (i : Nat) {b off : Nat} {cs : List Value} (h : L[i]? = some (ro b off cs)) (o : Nat) {ds : List Value} (hd : (cs.drop o).take ds.length = ds) : w.rangeAt b (off + o) ds := by
  intro j v hj
  have hjl := (List.getElem?_eq_some_iff.1 hj).1
  rw [← hd, List.getElem?_take, if_pos hjl, List.getElem?_drop] at hj
  have := st.rocell i h hj
  rwa [← Nat.add_assoc] at this
theorem setR_all (cs vs : List Value) (h : vs.length = cs.length) : setR cs 0 vs = vs := by simp [setR, h]
/-! slices that came in -/
def elsFp (A : Option Addr) (n : Nat) : List Nat := if n = 0 then [] else (A.map (·.block)).toList
def els {E : Type} (C : E → List Value) (sz : Nat) (A : Option Addr) (xs : List E) : It := .cust (elsFp A xs.length) false (Els C sz · A xs)
theorem Els_stable {E : Type} (C : E → List Value) (sz : Nat) (A : Option Addr) (xs : List E) : ∀ w1 w2 : World, (∀ b ∈ elsFp A xs.length, w2.heap[b]? = w1.heap[b]?) → Els C sz w1 A xs → Els C sz w2 A xs := by
  intro w1 w2 h he i hi
  obtain ⟨b, off, rfl, hc⟩ := he i hi
  refine ⟨b, off, rfl, fun j u hu => ?_⟩
  rw [World.cell?_of_block (w := w1) (a := ⟨b, off + i * sz + j, none⟩) (h b (by unfold elsFp; rw [if_neg (by omega)]; simp))]
  exact hc j u hu
theorem els_ok {E : Type} {C : E → List Value} {sz : Nat} {A : Option Addr} {xs : List E} (hsz : 0 < sz) (hC : ∀ x, (C x).length = sz) (h : Els C sz w A xs) : (els C sz A xs).ok w0 K w := by
  refine ⟨h, fun b hb => ⟨?_, fun h => by cases h⟩, Els_stable C sz A xs⟩
  unfold elsFp at hb
  split at hb
  · cases hb
  · rename_i hn
    obtain ⟨b', off, rfl, hc⟩ := h 0 (by omega)
    simp at hb
    subst hb
    have h0 : 0 < (C xs[0]).length := by rw [hC]; exact hsz
    have := hc 0 _ (List.getElem?_eq_getElem h0)
    exact World.block_lt_of_cell? w _ this
/-- read-only items to start with -/
theorem _root_.Go.Proofs.YtjhbpcdaojajdaaDoor.LibS.St.start_ro {w : World} {K : List Nat} {M : List It} (h : ∀ it ∈ M, it.ok w K w ∧ it.wr = false) : St w K w M := by
  refine ⟨Agr.refl _ _, fun it hi => (h it hi).1, List.pairwise_of_forall_mem_list fun x hx y hy hor => ?_⟩
  rcases hor with h1 | h1
  · rw [(h x hx).2] at h1; cases h1
  · rw [(h y hy).2] at h1; cases h1
theorem start0 (w : World) (K : List Nat) : St w K w [] := St.start w K
theorem add_ro {w : World} {K : List Nat} {M : List It} (st : St w K w M) (hM : ∀ it ∈ M, it.wr = false) {it : It} (hw : it.wr = false) (hok : it.ok w K w) : St w K w (it :: M) :=
  St.start_ro fun x hx => by
    rcases List.mem_cons.1 hx with rfl | hx
    · exact ⟨hok, hw⟩
    · exact ⟨st.ok x hx, hM x hx⟩
theorem _root_.Go.Proofs.YtjhbpcdaojajdaaDoor.LibS.St.elem {E : Type} {C : E → List Value} {sz : Nat} {A : Option Addr} {xs : List E} (st : St w0 K w M) (i : Nat) (h : M[i]? = some (els C sz A xs)) (k : Nat) (hk : k < xs.length) (hC : (C xs[k]).length ≠ 0) :
    ∃ b off, A = some ⟨b, off, none⟩ ∧ St w0 K w (ro b (off + k * sz) (C xs[k]) :: M) := by
  have hok := st.get i h
  obtain ⟨b, off, rfl, hc⟩ := hok.1 k hk
  refine ⟨b, off, rfl, st.focus i h rfl rfl ⟨fun j v hj => hc j v hj, fun c hc' => ⟨?_, fun h => by cases h⟩, Ro_stable _ _ _⟩ (fun c hc' => ?_)⟩
  · simp at hc'
    subst hc'
    exact World.block_lt_of_cell? w _ (hc 0 _ (List.getElem?_eq_getElem (by omega)))
  · simp [ro, It.fp] at hc'
    subst hc'
    simp only [els, It.fp]
    unfold elsFp
    rw [if_neg (by omega)]
    simp
end
end Go.Proofs.YtjhbpcdaojajdaaDoor.LibU
