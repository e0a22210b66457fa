/- Rows that grow: what append makes of them; what a row reads as. No program here. -/
import Derived.Test.YtjhbpcdaojajdaaDoorLibU
set_option linter.unusedVariables false
set_option linter.unusedSimpArgs false
namespace Go.Proofs.YtjhbpcdaojajdaaDoor.LibV
open Go.RowKit Go.Proofs.YtjhbpcdaojajdaaDoor.LibS Go.Proofs.YtjhbpcdaojajdaaDoor.LibR Go.Proofs.YtjhbpcdaojajdaaDoor.LibT Go.Proofs.YtjhbpcdaojajdaaDoor.LibU Go.Proofs.YtjhbpcdaojajdaaDoor.LibC
/-- a row of the call's own that holds just these elements -/
def Row {E : Type} (C : E → List Value) (sz e base : Nat) (v : Value) (xs : List E) (w : World) : Prop := w.ownsRow base e sz v xs.length (flat C xs)
def row {E : Type} (C : E → List Value) (sz e base : Nat) (v : Value) (xs : List E) : It := .cust v.ownBlock.toList true (Row C sz e base v xs)
section
variable {P : Program} {w0 w : World} {K : List Nat} {M : List It} {n : Nat} {ds : List Deferred} {a : Act} {L : List (Nat × Value)} {Q : Exit → Act → World → Prop} {X : Act → World → Prop} {o : Oper} {E : Type} {C : E → List Value} {sz e base : Nat} {v : Value} {xs : List E}
theorem Row_stable (C : E → List Value) (sz e base : Nat) (v : Value) (xs : List E) : ∀ w1 w2 : World, (∀ b ∈ v.ownBlock.toList, w2.heap[b]? = w1.heap[b]?) → Row C sz e base v xs w1 → Row C sz e base v xs w2 := by
  intro w1 w2 h hr
  refine ⟨hr.1, ?_⟩
  rcases hr.2 with h0 | ⟨g, cap, cur, rfl, hb, hg, r⟩
  · exact .inl h0
  · exact .inr ⟨g, cap, cur, rfl, hb, (h g (by simp [Value.ownBlock])).trans hg, r⟩
theorem row_ok (h : Row C sz e base v xs w) (hb : w0.heap.size ≤ base) : (row C sz e base v xs).ok w0 K w := by
  refine ⟨h, fun b hbm => ?_, Row_stable C sz e base v xs⟩
  rcases h.2 with ⟨rfl, _⟩ | ⟨g, cap, cur, rfl, hbg, hg, _⟩
  · simp [Value.ownBlock] at hbm
  · simp [Value.ownBlock] at hbm
    subst hbm
    refine ⟨?_, fun _ => .inl (Nat.le_trans hb hbg)⟩
    rcases Nat.lt_or_ge b w.heap.size with hl | hl
    · exact hl
    · rw [Array.getElem?_eq_none hl] at hg; cases hg
theorem row_nil (C : E → List Value) (sz e base : Nat) (w : World) : Row C sz e base (.slice none 0 0) ([] : List E) w := ⟨by simp [flat], .inl ⟨rfl, rfl⟩⟩
/-- an empty row, to start with -/
theorem _root_.Go.Proofs.YtjhbpcdaojajdaaDoor.LibS.St.nil (st : St w0 K w M) (C : E → List Value) (sz e base : Nat) (hb : w0.heap.size ≤ base) : St w0 K w (row C sz e base (.slice none 0 0) ([] : List E) :: M) :=
  st.new (Agr.refl _ _) (row_ok (row_nil C sz e base w) hb) (by simp [row, It.fp, Value.ownBlock])
theorem row_form (hC : ∀ x, (C x).length = sz) (h : Row C sz e base v xs w) : ∃ A c, v = .slice A xs.length c ∧ xs.length ≤ c ∧ (A = none → c = 0) ∧ Els C sz w A xs := own_rows hC h
theorem row_els {A : Option Addr} {m c : Nat} (hC : ∀ x, (C x).length = sz) (h : Row C sz e base (.slice A m c) xs w) : Els C sz w A xs := by
  obtain ⟨A', c', h1, _, _, h2⟩ := own_rows hC h
  cases h1; exact h2
theorem row_cap {A : Option Addr} {m c : Nat} (hC : ∀ x, (C x).length = sz) (h : Row C sz e base (.slice A m c) xs w) : m = xs.length ∧ m ≤ c ∧ (A = none → c = 0) := by
  obtain ⟨A', c', h1, h3, h4, _⟩ := own_rows hC h
  cases h1; exact ⟨rfl, h3, h4⟩
theorem row_base {A : Option Addr} {m c : Nat} (h : Row C sz e base (.slice A m c) xs w) : ∀ a, A = some a → base ≤ a.block := by
  intro a ha
  rcases h.2 with ⟨h0, _⟩ | ⟨g, cap, cur, h1, hb, _⟩
  · cases h0; cases ha
  · cases h1; cases ha; exact hb
/-- append of one element that was just built -/
theorem ow_append1 (fr : FrD ds n a L) (st : St w0 K w M) (i j : Nat) {d T b : Nat} {x y : Operand} {t2 : TypeId} {z : Value} {bytes : Nat} (q : E) (ho : o.op = .call { callee := .builtin .append, args := #[x, y], argTypes := #[T, T] })
    (hx : evO L x = some v) (hy : evO L y = some (.slice (some ⟨b, 0, none⟩) 1 1)) (hi : M[i]? = some (row C sz e base v xs)) (hj : M[j]? = some (.blk b (C q) t2)) (hT : P.underlying T = some (.slice e)) (hinf : (P.info? e).map (fun i => (i.zero, i.size, i.bytes)) = some (some z, sz, bytes)) (hzs : z.cells.size = sz) (hsz : 0 < sz) (hC : ∀ x, (C x).length = sz)
    (h1 : (C q).all (·.oneCell') = true) (hlen : (xs.length + 1) * bytes ≤ 140737488355328) (hlen2 : xs.length + 1 ≤ maxLen) (hbase : w0.heap.size ≤ base) (hbw : base ≤ w.heap.size) (hd : o.dst = some d) (hlt : Nat.blt d n = true)
    (h : ∀ a' w' A c, FrD ds n a' ((d, .slice A (xs ++ [q]).length c) :: L) → St w0 K w' (M.set i (row C sz e base (.slice A (xs ++ [q]).length c) (xs ++ [q]))) → X a' w') : o.wp P a w X Q := by
  obtain ⟨inf, hinf1, hinf2⟩ : ∃ inf, P.info? e = some inf ∧ (inf.zero, inf.size, inf.bytes) = (some z, sz, bytes) := by
    cases hq : P.info? e with
    | none => rw [hq] at hinf; simp at hinf
    | some inf => rw [hq] at hinf; exact ⟨inf, rfl, by simpa using hinf⟩
  simp only [Prod.mk.injEq] at hinf2
  obtain ⟨hz0, hz1, hz2⟩ := hinf2
  have hown : Row C sz e base v xs w := (st.get i hi).1
  have hb := (st.get j hj).2
  obtain ⟨v', w', hrun, hown', hgr, _, hat⟩ := run_append_own_at (P := P) w base T o.type e inf z sz bytes hT hinf1 hz0 hz1 hz2 hzs hsz v xs.length (flat C xs) hown ⟨b, 0, none⟩ 1 1 (C q) (by rw [hC, Nat.one_mul]) (fun k u hu => by
    rw [Addr.add_lit, Nat.zero_add, cell_of_row w b _ _ _ _ hb]
    simpa using hu) (fun u hu => by simpa using List.all_eq_true.1 h1 u hu) (by simpa using hlen2) (by simpa using hlen) hbw
  have hr2 : Row C sz e base v' (xs ++ [q]) w' := by
    have : flat C xs ++ C q = flat C (xs ++ [q]) := by simp [flat]
    rw [this] at hown'
    simpa [Row] using hown'
  obtain ⟨A, c, rfl, _, _, _⟩ := row_form hC hr2
  unfold Oper.wp
  have hr : (execOp a.eval o).run P w = .ok (.value (.slice A (xs ++ [q]).length c)) w' := by
    simp only [execOp, ho, resolve, invoke, builtin, Sem.run_bind, Sem.run_pure, Result.andThen_ok, List.map_toArray, List.map_cons, List.map_nil, fr.ev hx, fr.ev hy, hrun]
  rw [hr]
  show X (a.put o.dst _) _
  rw [hd]
  refine h _ _ A c (fr.put _ hlt) (st.upd i hi rfl ?_ (row_ok hr2 hbase) (fun g hg => ?_))
  · show Agr v.ownBlock.toList w w'
    cases hv : v.ownBlock with
    | none => rw [hv] at hgr; exact Agr.of_grown_none hgr
    | some g => rw [hv] at hgr; exact Agr.of_grown hgr
  · simp only [row, It.fp] at hg ⊢
    rcases hat with h2 | h2
    · rw [h2] at hg; exact .inl hg
    · rw [h2] at hg
      simp at hg
      exact .inr (by omega)
/-- an item is told in weaker words: fewer blocks, or only read from now on -/
theorem _root_.Go.Proofs.YtjhbpcdaojajdaaDoor.LibS.St.weaken (st : St w0 K w M) (i : Nat) {x it : It} (hx : M[i]? = some x) (hw : it.wr = true → x.wr = true) (hfp : ∀ b ∈ it.fp, b ∈ x.fp) (hok : it.ok w0 K w) : St w0 K w (M.set i it) := by
  refine ⟨st.agr, fun y hy => ?_, ?_⟩
  · rcases List.mem_or_eq_of_mem_set hy with h | rfl
    · exact st.ok y h
    · exact hok
  · have hp := List.pairwise_iff_getElem.1 st.sep
    rw [List.pairwise_iff_getElem]
    intro j k hj hk hjk
    have hjl : j < M.length := by simpa using hj
    have hkl : k < M.length := by simpa using hk
    have ex := (List.getElem?_eq_some_iff.1 hx).2
    have := hp j k hjl hkl hjk
    rw [List.getElem_set, List.getElem_set]
    by_cases h1 : i = j
    · subst h1
      rw [if_pos rfl, if_neg (by omega)]
      rw [ex] at this
      exact fun ho b hb => this (ho.imp hw id) b (hfp b hb)
    · rw [if_neg h1]
      by_cases h2 : i = k
      · subst h2
        rw [if_pos rfl]
        rw [ex] at this
        exact fun ho b hb hb' => this (ho.imp id hw) b hb (hfp b hb')
      · rw [if_neg h2]; exact this
/-- a block of one's own, read as a slice of elements -/
theorem els_of_blk {b : Nat} {cs : List Value} {t : TypeId} {E : Type} {C : E → List Value} {sz : Nat} {xs : List E} (hC : ∀ x, (C x).length = sz) (hsz : 0 < sz) (h : (It.blk b cs t).ok w0 K w) (hcs : cs = flat C xs) : (els C sz (some ⟨b, 0, none⟩) xs).ok w0 K w :=
  els_ok hsz hC (els_heap hC xs h.2 (by simpa using hcs))
theorem run_append_nil' {P : Program} (w : World) (base : Nat) (t ty e : TypeId) (i : TypeInfo) (size : Nat) (ht : P.underlying t = some (.slice e)) (hi : P.info? e = some i)
    (v : Value) (n : Nat) (xs : List Value) (hown : w.ownsRow base e size v n xs) (c : Nat) : (Builtin.append_ #[t, t] ty #[v, .slice none 0 c]).run P w = .ok v w := by
  rcases hown.2 with ⟨rfl, rfl⟩ | ⟨g, cap, cur, rfl, _, _, hnc, _⟩
  · simp [Builtin.append_, run_underlying ht, sizeOf, typeInfo, hi, Builtin.lenOf, Builtin.firstCells]
  · simp [Builtin.append_, run_underlying ht, sizeOf, typeInfo, hi, Builtin.lenOf, Builtin.firstCells, hnc, storeCells]
theorem els_cells {A : Option Addr} {ad : Addr} {ys : List E} (hsz : 0 < sz) (hC : ∀ x, (C x).length = sz) (h : Els C sz w A ys) (hA : A = some ad) : ∀ j u, (flat C ys)[j]? = some u → w.cell? (ad.add j) = some u := by
  intro j u hu
  have hj : j < (flat C ys).length := (List.getElem?_eq_some_iff.1 hu).1
  rw [flat_len hC] at hj
  have hi : j / sz < ys.length := by
    rw [Nat.div_lt_iff_lt_mul hsz]; exact hj
  obtain ⟨b, off, e, hc⟩ := h (j / sz) hi
  rw [hA] at e
  cases e
  have hr : j % sz < sz := Nat.mod_lt _ hsz
  have e2 : j / sz * sz + j % sz = j := by rw [Nat.mul_comm]; exact Nat.div_add_mod j sz
  have hf := flat_get hC ys (j / sz) (j % sz) hi hr
  rw [e2, hu] at hf
  have := hc (j % sz) u hf.symm
  rw [Addr.add_lit, ← this]
  congr 2
  omega
/-- append of all the elements of a slice -/
theorem ow_appendE (fr : FrD ds n a L) (st : St w0 K w M) (i : Nat) {d T c : Nat} {x y : Operand} {A : Option Addr} {z : Value} {bytes : Nat} {ys : List E} (hEls : Els C sz w A ys) (ho : o.op = .call { callee := .builtin .append, args := #[x, y], argTypes := #[T, T] })
    (hx : evO L x = some v) (hy : evO L y = some (.slice A ys.length c)) (hi : M[i]? = some (row C sz e base v xs)) (hT : P.underlying T = some (.slice e)) (hinf : (P.info? e).map (fun i => (i.zero, i.size, i.bytes)) = some (some z, sz, bytes)) (hzs : z.cells.size = sz) (hsz : 0 < sz) (hC : ∀ x, (C x).length = sz)
    (h1 : ∀ q, (C q).all (·.oneCell') = true) (hlen : (xs.length + ys.length) * bytes ≤ 140737488355328) (hlen2 : xs.length + ys.length ≤ maxLen) (hbase : w0.heap.size ≤ base) (hbw : base ≤ w.heap.size) (hd : o.dst = some d) (hlt : Nat.blt d n = true)
    (h : ∀ a' w' A' c', FrD ds n a' ((d, .slice A' (xs ++ ys).length c') :: L) → St w0 K w' (M.set i (row C sz e base (.slice A' (xs ++ ys).length c') (xs ++ ys))) → X a' w') : o.wp P a w X Q := by
  obtain ⟨inf, hinf1, hinf2⟩ : ∃ inf, P.info? e = some inf ∧ (inf.zero, inf.size, inf.bytes) = (some z, sz, bytes) := by
    cases hq : P.info? e with
    | none => rw [hq] at hinf; simp at hinf
    | some inf => rw [hq] at hinf; exact ⟨inf, rfl, by simpa using hinf⟩
  simp only [Prod.mk.injEq] at hinf2
  obtain ⟨hz0, hz1, hz2⟩ := hinf2
  have hown : Row C sz e base v xs w := (st.get i hi).1
  have key : ∃ v' w', (Builtin.append_ #[T, T] o.type #[v, .slice A ys.length c]).run P w = .ok v' w' ∧ Row C sz e base v' (xs ++ ys) w' ∧ w.grownBy w' v.ownBlock ∧ (v'.ownBlock = v.ownBlock ∨ v'.ownBlock = some w.heap.size) := by
    cases A with
    | none =>
      have hy0 : ys = [] := by
        cases ys with
        | nil => rfl
        | cons y r => obtain ⟨b, off, e, _⟩ := hEls 0 (by simp); cases e
      subst hy0
      exact ⟨v, w, run_append_nil' w base T o.type e inf sz hT hinf1 v _ _ hown c, by simpa using hown, World.grownBy.refl w _, .inl rfl⟩
    | some ad =>
      obtain ⟨v', w', hrun, hown', hgr, _, hat⟩ := run_append_own_at (P := P) w base T o.type e inf z sz bytes hT hinf1 hz0 hz1 hz2 hzs hsz v xs.length (flat C xs) hown ad ys.length c (flat C ys) (flat_len hC ys) (els_cells hsz hC hEls rfl) (fun u hu => by
        obtain ⟨q, _, hq⟩ := List.mem_flatMap.1 hu
        exact List.all_eq_true.1 (h1 q) u hq) hlen2 hlen hbw
      refine ⟨v', w', hrun, ?_, hgr, hat⟩
      have : flat C xs ++ flat C ys = flat C (xs ++ ys) := by simp [flat]
      rw [this] at hown'
      simpa [Row] using hown'
  obtain ⟨v', w', hrun, hr2, hgr, hat⟩ := key
  obtain ⟨A', c', rfl, _, _, _⟩ := row_form hC hr2
  unfold Oper.wp
  have hr : (execOp a.eval o).run P w = .ok (.value (.slice A' (xs ++ ys).length c')) w' := by
    simp only [execOp, ho, resolve, invoke, builtin, Sem.run_bind, Sem.run_pure, Result.andThen_ok, List.map_toArray, List.map_cons, List.map_nil, fr.ev hx, fr.ev hy, hrun]
  rw [hr]
  show X (a.put o.dst _) _
  rw [hd]
  refine h _ _ A' c' (fr.put _ hlt) (st.upd i hi rfl ?_ (row_ok hr2 hbase) (fun g hg => ?_))
  · show Agr v.ownBlock.toList w w'
    cases hv : v.ownBlock with
    | none => rw [hv] at hgr; exact Agr.of_grown_none hgr
    | some g => rw [hv] at hgr; exact Agr.of_grown hgr
  · simp only [row, It.fp] at hg ⊢
    rcases hat with h2 | h2
    · rw [h2] at hg; exact .inl hg
    · rw [h2] at hg
      simp at hg
      exact .inr (by omega)
theorem elsFp_mem {A : Option Addr} {m b : Nat} (h : b ∈ elsFp A m) : ∃ ad, A = some ad ∧ ad.block = b := by
  unfold elsFp at h
  split at h
  · cases h
  · cases A with
    | none => cases h
    | some ad => simp at h; exact ⟨ad, rfl, h.symm⟩
theorem _root_.Go.Proofs.YtjhbpcdaojajdaaDoor.LibS.St.call_els {w' : World} {A : Option Addr} (st : St w0 K w M) (hag : Agr [] w w') (hsz : 0 < sz) (hC : ∀ x, (C x).length = sz) (h : Els C sz w' A xs) (hf : ∀ ad, A = some ad → w.heap.size ≤ ad.block) : St w0 K w' (els C sz A xs :: M) :=
  st.new hag (els_ok hsz hC h) (fun b hb => by obtain ⟨ad, e, rfl⟩ := elsFp_mem hb; exact hf ad e)
theorem Row.low {base' : Nat} (h : Row C sz e base v xs w) (hb : base' ≤ base) : Row C sz e base' v xs w := by
  refine ⟨h.1, ?_⟩
  rcases h.2 with h0 | ⟨g, cap, cur, rfl, hbg, r⟩
  · exact .inl h0
  · exact .inr ⟨g, cap, cur, rfl, Nat.le_trans hb hbg, r⟩
theorem _root_.Go.Proofs.YtjhbpcdaojajdaaDoor.LibS.St.new2 {w' : World} {it1 it2 : It} (st : St w0 K w M) (h : Agr [] w w') (h1 : it1.ok w0 K w') (h2 : it2.ok w0 K w') (f1 : ∀ b ∈ it1.fp, w.heap.size ≤ b) (f2 : ∀ b ∈ it2.fp, w.heap.size ≤ b) (hd : ∀ b ∈ it1.fp, b ∉ it2.fp) : St w0 K w' (it1 :: it2 :: M) := by
  have s := st.new h h2 f2
  refine ⟨s.agr, fun x hx => ?_, List.pairwise_cons.2 ⟨fun x hx _ b hb hb' => ?_, s.sep⟩⟩
  · rcases List.mem_cons.1 hx with rfl | hx
    · exact h1
    · exact s.ok x hx
  · rcases List.mem_cons.1 hx with rfl | hx
    · exact hd b hb hb'
    · have := f1 b hb
      have := st.lt hx b hb'
      omega
/-- what a call made: a row to write on, a slice to read -/
theorem _root_.Go.Proofs.YtjhbpcdaojajdaaDoor.LibS.St.call_row_els {w' : World} {A1 A2 : Option Addr} {m1 c1 m2 c2 : Nat} {xs ys : List E} (st : St w0 K w M) (hag : Agr [] w w') (hsz : 0 < sz) (hC : ∀ x, (C x).length = sz) (h1 : Row C sz e w.heap.size (.slice A1 m1 c1) xs w') (h2 : Row C sz e w.heap.size (.slice A2 m2 c2) ys w')
    (hd : ∀ a1 a2, A1 = some a1 → A2 = some a2 → a1.block ≠ a2.block) : St w0 K w' (row C sz e w0.heap.size (.slice A1 m1 c1) xs :: els C sz A2 ys :: M) := by
  have f1 : ∀ b ∈ (row C sz e w0.heap.size (.slice A1 m1 c1) xs).fp, ∃ ad, A1 = some ad ∧ ad.block = b := by
    intro b hb
    cases A1 with
    | none => simp [row, It.fp, Value.ownBlock] at hb
    | some ad => simp [row, It.fp, Value.ownBlock] at hb; exact ⟨ad, rfl, hb.symm⟩
  refine st.new2 hag (row_ok (h1.low st.agr.size) (Nat.le_refl _)) (els_ok hsz hC (row_els hC h2)) (fun b hb => ?_) (fun b hb => ?_) (fun b hb hb' => ?_)
  · obtain ⟨ad, e, rfl⟩ := f1 b hb; exact row_base h1 ad e
  · obtain ⟨ad, e, rfl⟩ := elsFp_mem hb; exact row_base h2 ad e
  · obtain ⟨ad, e1, rfl⟩ := f1 b hb
    obtain ⟨ad2, e2, h3⟩ := elsFp_mem hb'
    exact hd ad ad2 e1 e2 h3.symm
/-- read-only items, whatever came before -/
theorem of_ro {M : List It} (ha : Agr K w0 w) (h : ∀ it ∈ M, it.ok w0 K w ∧ it.wr = false) : St w0 K w M := by
  refine ⟨ha, fun it hi => (h it hi).1, List.pairwise_of_forall_mem_list fun x hx y hy hor => ?_⟩
  rcases hor with h1 | h1
  · rw [(h x hx).2] at h1; cases h1
  · rw [(h y hy).2] at h1; cases h1
theorem of_ro0 (ha : Agr K w0 w) : St w0 K w [] := of_ro ha (by simp)
theorem of_ro1 {it : It} {M : List It} (st : St w0 K w M) (hM : ∀ it ∈ M, it.wr = false) (hok : it.ok w0 K w) (hw : it.wr = false) : St w0 K w (it :: M) :=
  of_ro st.agr fun x hx => by
    rcases List.mem_cons.1 hx with rfl | hx
    · exact ⟨hok, hw⟩
    · exact ⟨st.ok x hx, hM x hx⟩
theorem ro_of_blk {b : Nat} {cs : List Value} {t : TypeId} (h : (It.blk b cs t).ok w0 K w) : (ro b 0 cs).ok w0 K w := by
  refine ⟨fun j v hj => ?_, fun c hc => ⟨?_, fun h => by cases h⟩, Ro_stable _ _ _⟩
  · rw [Nat.zero_add, cell_of_row w b _ _ _ _ h.2]; simpa using hj
  · exact It.ok_lt h c hc
theorem els_of_row {A : Option Addr} {m c : Nat} (hsz : 0 < sz) (hC : ∀ x, (C x).length = sz) (h : (row C sz e base (.slice A m c) xs).ok w0 K w) : (els C sz A xs).ok w0 K w := els_ok hsz hC (row_els hC h.1)
theorem rm_nat {a m : Nat} {b c : Int} (hb : b = (m : Int)) (hc : c = ((a % m : Nat) : Int)) : (a : Int).tmod b = c := by subst hb; subst hc; rfl
theorem dv_nat {a m : Nat} {b c : Int} (hb : b = (m : Int)) (hc : c = ((a / m : Nat) : Int)) : (a : Int).tdiv b = c := by subst hb; subst hc; rfl
theorem wdv {a m : Nat} {b c : Int} (hb : b = (m : Int)) (hc : c = ((a / m : Nat) : Int)) (h : ((a / m : Nat) : Int) ≤ 9223372036854775807) : IntKind.i64.wrap ((a : Int).tdiv b) = c := by rw [dv_nat hb rfl, hc]; generalize a / m = q at h ⊢; exact wr_i64 _ (by omega) h
section
variable {ρ : Operand → Value} {dst : Option Tmp} {ty : TypeId} {pos : String} {aft : Array Edge} {gd : Option (Nat × Bool)} {x y z : Operand} {ts : Array TypeId} {k k1 k2 : IntKind} {p q r c : Int}
theorem rn_min2 (hx : ρ x = .int k p) (hy : ρ y = .int k1 q) (h : (if q < p then q else p) = c) : (execOp ρ ⟨dst, .call { callee := .builtin .min, args := #[x, y], argTypes := ts }, ty, pos, aft, gd⟩).run P w = .ok (.value (.int k c)) w := by
  subst h; simp [execOp, resolve, invoke, builtin, hx, hy, run_min_int2]
theorem rn_max2 (hx : ρ x = .int k p) (hy : ρ y = .int k1 q) (h : (if q > p then q else p) = c) : (execOp ρ ⟨dst, .call { callee := .builtin .max, args := #[x, y], argTypes := ts }, ty, pos, aft, gd⟩).run P w = .ok (.value (.int k c)) w := by
  subst h; simp [execOp, resolve, invoke, builtin, hx, hy, run_max_int2]
theorem rn_min3 (hx : ρ x = .int k p) (hy : ρ y = .int k1 q) (hz : ρ z = .int k2 r) (h : (if r < (if q < p then q else p) then r else (if q < p then q else p)) = c) : (execOp ρ ⟨dst, .call { callee := .builtin .min, args := #[x, y, z], argTypes := ts }, ty, pos, aft, gd⟩).run P w = .ok (.value (.int k c)) w := by
  subst h
  have := run_min_int3 (P := P) w ts ty k k1 k2 p q r
  simp [execOp, resolve, invoke, builtin, hx, hy, hz, this]
end
end
end Go.Proofs.YtjhbpcdaojajdaaDoor.LibV
