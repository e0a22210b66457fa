/- Maps of the call's own, as lists of keys and values. No program here. -/
import Derived.Test.YtjhbpcdaojajdaaDoorLibV
set_option linter.unusedVariables false
set_option linter.unusedSimpArgs false
namespace Go.Proofs.YtjhbpcdaojajdaaDoor.LibW
open Go.RowKit Go.Proofs.YtjhbpcdaojajdaaDoor.LibS Go.Proofs.YtjhbpcdaojajdaaDoor.LibR Go.Proofs.YtjhbpcdaojajdaaDoor.LibT Go.Proofs.YtjhbpcdaojajdaaDoor.LibU Go.Proofs.YtjhbpcdaojajdaaDoor.LibV Go.Proofs.YtjhbpcdaojajdaaDoor.LibC
section
variable {κ ν : Type}
def lkp [BEq κ] (l : List (κ × ν)) (k : κ) : Option ν := (l.find? fun p => k == p.1).map (·.2)
/-- block b is a map that holds just these keys and values, the first of a key counts -/
def MapIs (kf : κ → Value) (vf : ν → Value) (b : Nat) (l : List (κ × ν)) (w : World) : Prop :=
  ∃ es clock, w.heap[b]? = some (.map es clock) ∧ es.toList.map (fun e => (e.key, e.val)) = l.map fun p => (kf p.1, vf p.2)
def mapIt (kf : κ → Value) (vf : ν → Value) (b : Nat) (l : List (κ × ν)) : It := .cust [b] true (MapIs kf vf b l)
def mapRo (kf : κ → Value) (vf : ν → Value) (b : Nat) (l : List (κ × ν)) : It := .cust [b] false (MapIs kf vf b l)
theorem MapIs_stable (kf : κ → Value) (vf : ν → Value) (b : Nat) (l : List (κ × ν)) : ∀ w1 w2 : World, (∀ c ∈ [b], w2.heap[c]? = w1.heap[c]?) → MapIs kf vf b l w1 → MapIs kf vf b l w2 := fun w1 w2 h ⟨es, cl, h1, h2⟩ => ⟨es, cl, (h b (by simp)).trans h1, h2⟩
theorem findNow_is [BEq κ] {kd : TypeDesc} {kf : κ → Value} {vf : ν → Value} (hk : ∀ a b, Instr.sameNow kd (kf a) (kf b) = some (a == b)) (k : κ) : ∀ (l : List (κ × ν)) (es : List MapEntry) (i : Nat), es.map (fun e => (e.key, e.val)) = l.map (fun p => (kf p.1, vf p.2)) →
    (lkp l k = none ∧ Instr.findNow kd (kf k) es i = some none) ∨ ∃ v j, lkp l k = some v ∧ Instr.findNow kd (kf k) es i = some (some (i + j, vf v)) ∧ j < es.length
  | [], [], i, _ => .inl ⟨rfl, rfl⟩
  | [], e :: es, i, h => by simp at h
  | p :: l, [], i, h => by simp at h
  | p :: l, e :: es, i, h => by
    simp only [List.map_cons, List.cons.injEq, Prod.mk.injEq] at h
    obtain ⟨⟨h1, h2⟩, h3⟩ := h
    unfold Instr.findNow lkp
    rw [h1, hk]
    cases hb : (k == p.1)
    · simp only [List.find?_cons, hb]
      rcases findNow_is hk k l es (i + 1) h3 with ⟨h4, h5⟩ | ⟨v, j, h4, h5, h6⟩
      · exact .inl ⟨h4, h5⟩
      · exact .inr ⟨v, j + 1, h4, by rw [h5]; simp [Nat.add_assoc, Nat.add_comm 1], by simp; omega⟩
    · simp only [List.find?_cons, hb]
      exact .inr ⟨p.2, 0, rfl, by rw [h2]; rfl, by simp⟩
variable {P : Program} {w0 w : World} {K : List Nat} {M : List It} {n : Nat} {ds : List Deferred} {a : Act} {L : List (Nat × Value)} {Q : Exit → Act → World → Prop} {X : Act → World → Prop} {o : Oper} {kf : κ → Value} {vf : ν → Value} {b : Nat} {l : List (κ × ν)}
theorem map_ok (h : MapIs kf vf b l w) (hb : w0.heap.size ≤ b ∨ b ∈ K) : (mapIt kf vf b l).ok w0 K w := by
  refine ⟨h, fun c hc => ?_, MapIs_stable kf vf b l⟩
  simp at hc
  subst hc
  obtain ⟨es, cl, h1, _⟩ := h
  exact ⟨(Array.getElem?_eq_some_iff.1 h1).1, fun _ => hb⟩
theorem mapRo_ok (h : MapIs kf vf b l w) : (mapRo kf vf b l).ok w0 K w := by
  refine ⟨h, fun c hc => ?_, MapIs_stable kf vf b l⟩
  simp at hc
  subst hc
  obtain ⟨es, cl, h1, _⟩ := h
  exact ⟨(Array.getElem?_eq_some_iff.1 h1).1, fun h => by cases h⟩
/-- the run of a look-up with ok -/
theorem rn_lookup2 [BEq κ] {ρ : Operand → Value} {dst : Option Tmp} {ty : TypeId} {pos : String} {aft : Array Edge} {gd : Option (Nat × Bool)} {x y : Operand} {T kt et : TypeId} {kd : TypeDesc} {z : Value} {k : κ} (hx : ρ x = .map (some b)) (hy : ρ y = kf k) (hT : P.underlying T = some (.map kt et)) (hkt : P.underlying kt = some kd)
    (hk : ∀ a b, Instr.sameNow kd (kf a) (kf b) = some (a == b)) (hck : ∀ e (w : World), (Instr.checkKey e 10000 kt (kf k)).run P w = .ok () w) (hz : ∀ w, (zeroValue et).run P w = .ok z w) (h : MapIs kf vf b l w) :
    (execOp ρ ⟨dst, .lookup T x y true, ty, pos, aft, gd⟩).run P w = .ok (.value (match lkp l k with | some v => .tuple #[vf v, .bool true] | none => .tuple #[z, .bool false])) w := by
  obtain ⟨es, cl, h1, h2⟩ := h
  have hf := findNow_is (vf := vf) hk k l es.toList 0 h2
  have hgo : (getObj b).run P w = .ok (.map es cl) w := by simp [getObj, Sem.run, h1]
  have hfk : (Instr.findKey kt (kf k) es.toList).run P w = .ok (match lkp l k with | some v => (Instr.findNow kd (kf k) es.toList 0).bind id | none => none) w := by
    unfold Instr.findKey
    simp only [Sem.run_bind, run_underlying hkt, Result.andThen_ok]
    rcases hf with ⟨h4, h5⟩ | ⟨v, j, h4, h5, _⟩
    · rw [h5, h4]; rfl
    · rw [h5, h4]; rfl
  simp only [execOp, hx, hy, Instr.lookup, Sem.run_bind, run_underlying hT, Result.andThen_ok, Sem.run_pure, pure_bind, hgo, hck, hfk]
  rcases hf with ⟨h4, h5⟩ | ⟨v, j, h4, h5, _⟩
  · simp [h4, hz w]
  · simp [h4, h5]
/-- a key that is not there yet is put in -/
theorem ow_mapnew [BEq κ] (fr : FrD ds n a L) (st : St w0 K w M) (i : Nat) {x y q : Operand} {T kt et : TypeId} {kd : TypeDesc} {k : κ} {v : ν} (ho : o.op = .mapUpdate T x y q) (hx : evO L x = some (.map (some b))) (hy : evO L y = some (kf k)) (hq : evO L q = some (vf v)) (hT : P.underlying T = some (.map kt et)) (hkt : P.underlying kt = some kd)
    (hk : ∀ a b, Instr.sameNow kd (kf a) (kf b) = some (a == b)) (hck : ∀ e (w : World), (Instr.checkKey e 10000 kt (kf k)).run P w = .ok () w) (hi : M[i]? = some (mapIt kf vf b l)) (hno : lkp l k = none) (hd : o.dst = none)
    (h : ∀ w', St w0 K w' (M.set i (mapIt kf vf b (l ++ [(k, v)]))) → X a w') : o.wp P a w X Q := by
  obtain ⟨es, cl, h1, h2⟩ := (st.get i hi).1
  have hf := findNow_is (vf := vf) hk k l es.toList 0 h2
  have hgo : (getObj b).run P w = .ok (.map es cl) w := by simp [getObj, Sem.run, h1]
  have hfk : (Instr.findKey kt (kf k) es.toList).run P w = .ok none w := by
    unfold Instr.findKey
    simp only [Sem.run_bind, run_underlying hkt, Result.andThen_ok]
    rcases hf with ⟨h4, h5⟩ | ⟨v, j, h4, h5, _⟩
    · rw [h5]; rfl
    · rw [hno] at h4; cases h4
  have hbl0 : b < w.heap.size := (Array.getElem?_eq_some_iff.1 h1).1
  let o' : Obj := .map (es.push { key := kf k, val := vf v, born := cl }) (cl + 1)
  have hso : (setObj b o').run P w = .ok () { w with heap := w.heap.setIfInBounds b o' } := by simp only [setObj, Sem.run, h1]
  unfold Oper.wp
  have hr : (execOp a.eval o).run P w = .ok .skip { w with heap := w.heap.setIfInBounds b o' } := by
    simp only [execOp, ho, fr.ev hx, fr.ev hy, fr.ev hq, Instr.mapUpdate, Sem.run_bind, run_underlying hT, Result.andThen_ok, hgo, hck, hfk, hso, Sem.run_pure, o']
  rw [hr]
  show X (a.put o.dst _) _
  rw [hd]
  have hbl : b < w.heap.size := (Array.getElem?_eq_some_iff.1 h1).1
  have hag : Agr (mapIt kf vf b l).fp w { w with heap := w.heap.setIfInBounds b o' } := ⟨rfl, rfl, rfl, by simp, fun c hc hn => by
    simp [mapIt, It.fp] at hn
    simp only [Array.getElem?_setIfInBounds]
    rw [if_neg (fun e => hn e.symm)]⟩
  have hm : MapIs kf vf b (l ++ [(k, v)]) { w with heap := w.heap.setIfInBounds b o' } := by
    refine ⟨es.push { key := kf k, val := vf v, born := cl }, cl + 1, ?_, by simp [h2]⟩
    simp [o', hbl]
  exact h _ (st.upd i hi rfl hag (map_ok hm (It.ok_own (st.get i hi) rfl b (by simp [mapIt, It.fp]))) (fun c hc => .inl hc))
/-- a new map -/
theorem ow_makeMap (fr : FrD ds n a L) (st : St w0 K w M) {d : Tmp} {T : TypeId} (ho : o.op = .makeMap T none) (hd : o.dst = some d) (hlt : Nat.blt d n = true)
    (h : ∀ a' w' b, FrD ds n a' ((d, .map (some b)) :: L) → St w0 K w' (mapIt kf vf b ([] : List (κ × ν)) :: M) → X a' w') : o.wp P a w X Q := by
  unfold Oper.wp
  have hr : (execOp a.eval o).run P w = .ok (.value (.map (some w.heap.size))) (w.alloc (.map #[] 0)) := by
    simp [execOp, ho, Instr.makeMap, go_sem]
  rw [hr]
  show X (a.put o.dst _) _
  rw [hd]
  exact h _ _ w.heap.size (fr.put _ hlt) (st.new (Agr.alloc w _) (map_ok ⟨_, _, heap_alloc_new w _, by simp⟩ (.inl st.agr.size)) (by simp [mapIt, It.fp]))
section
variable {ρ : Operand → Value} {dst : Option Tmp} {ty : TypeId} {pos : String} {aft : Array Edge} {gd : Option (Nat × Bool)} {x y : Operand} {ad : Addr} {T u te : TypeId}
theorem rn_nilCheck (hx : ρ x = .pointer (some ad)) : (execOp ρ ⟨dst, .nilCheck x, ty, pos, aft, gd⟩).run P w = .ok (.value (.pointer (some ad))) w := by simp [execOp, hx]
theorem eqIn_pn (d : Nat) (hT : P.underlying T = some (.pointer te)) : (Op.equalIn (d + 1) T (.pointer (some ad)) (.pointer none)).run P w = .ok false w := by simp [Op.equalIn, run_underlying hT]
theorem eqIn_nn (d : Nat) (hT : P.underlying T = some (.pointer te)) : (Op.equalIn (d + 1) T (.pointer none) (.pointer none)).run P w = .ok true w := by simp [Op.equalIn, run_underlying hT]
theorem eq_pn (hT : P.underlying T = some (.pointer te)) : (Op.equal T (.pointer (some ad)) (.pointer none)).run P w = .ok false w := eqIn_pn 9999 hT
theorem eq_nn (hT : P.underlying T = some (.pointer te)) : (Op.equal T (.pointer none) (.pointer none)).run P w = .ok true w := eqIn_nn 9999 hT
theorem rn_eql_pn (hx : ρ x = .pointer (some ad)) (hy : ρ y = .pointer none) (hT : P.underlying T = some (.pointer te)) : (execOp ρ ⟨dst, .binOp .eql T x y u, ty, pos, aft, gd⟩).run P w = .ok (.value (.bool false)) w := by
  simp only [execOp, hx, hy, eqGuard_at_pointer, binOp, Sem.run_bind, eq_pn hT, Result.andThen_ok, Sem.run_pure, pure_bind]
theorem rn_neq_pn (hx : ρ x = .pointer (some ad)) (hy : ρ y = .pointer none) (hT : P.underlying T = some (.pointer te)) : (execOp ρ ⟨dst, .binOp .neq T x y u, ty, pos, aft, gd⟩).run P w = .ok (.value (.bool true)) w := by
  simp only [execOp, hx, hy, eqGuard_at_pointer, binOp, Sem.run_bind, eq_pn hT, Result.andThen_ok, Sem.run_pure, pure_bind, Bool.not_false]
theorem rn_eql_nn (hx : ρ x = .pointer none) (hy : ρ y = .pointer none) (hT : P.underlying T = some (.pointer te)) : (execOp ρ ⟨dst, .binOp .eql T x y u, ty, pos, aft, gd⟩).run P w = .ok (.value (.bool true)) w := by
  simp only [execOp, hx, hy, eqGuard_at_pointer, binOp, Sem.run_bind, eq_nn hT, Result.andThen_ok, Sem.run_pure, pure_bind]
theorem rn_neq_nn (hx : ρ x = .pointer none) (hy : ρ y = .pointer none) (hT : P.underlying T = some (.pointer te)) : (execOp ρ ⟨dst, .binOp .neq T x y u, ty, pos, aft, gd⟩).run P w = .ok (.value (.bool false)) w := by
  simp only [execOp, hx, hy, eqGuard_at_pointer, binOp, Sem.run_bind, eq_nn hT, Result.andThen_ok, Sem.run_pure, pure_bind, Bool.not_true]
end
/-- a slice literal's block, as a row to write on -/
theorem row_of_blk {E : Type} {C : E → List Value} {sz e g m : Nat} {cs : List Value} {xs : List E} (hC : ∀ x, (C x).length = sz) (h : (It.blk g cs e).ok w0 K w) (hcs : cs = flat C xs) (hm : m = xs.length) (hl : m ≤ maxLen) {base : Nat} (hb : base ≤ g) : Row C sz e base (.slice (some ⟨g, 0, none⟩) m m) xs w := by
  subst hm
  subst hcs
  refine ⟨flat_len hC xs, .inr ⟨g, xs.length, _, rfl, hb, h.2, Nat.le_refl _, hl, by simp [flat_len hC], ?_⟩⟩
  rw [← flat_len hC xs]
  simp
theorem elsFp_row {E : Type} {C : E → List Value} {sz e base m c : Nat} {A : Option Addr} {xs : List E} : ∀ b ∈ (els C sz A xs).fp, b ∈ (row C sz e base (.slice A m c) xs).fp := by
  intro b hb
  obtain ⟨ad, rfl, rfl⟩ := elsFp_mem hb
  simp [row, It.fp, Value.ownBlock]
/-- items in another order -/
theorem _root_.Go.Proofs.YtjhbpcdaojajdaaDoor.LibS.St.pick (st : St w0 K w M) (idx : List Nat) (hn : idx.Nodup) {M' : List It} (hM : idx.map (fun i => M[i]?) = M'.map some) : St w0 K w M' := by
  have hlen : idx.length = M'.length := by simpa using congrArg List.length hM
  have hat : ∀ i (h : i < M'.length), M[idx[i]'(by omega)]? = some M'[i] := fun i h => by
    have h2 := congrArg (fun l => l[i]?) hM
    simpa [h, hlen ▸ h, List.getElem?_eq_getElem (show i < idx.length by omega)] using h2
  refine ⟨st.agr, fun it hi => ?_, ?_⟩
  · obtain ⟨i, h, rfl⟩ := List.mem_iff_getElem.1 hi
    exact st.ok _ (List.mem_of_getElem? (hat i h))
  · have hp := List.pairwise_iff_getElem.1 st.sep
    have hn' := List.pairwise_iff_getElem.1 hn
    rw [List.pairwise_iff_getElem]
    intro i j hi hj hij
    obtain ⟨h1, e1⟩ := List.getElem?_eq_some_iff.1 (hat i hi)
    obtain ⟨h2, e2⟩ := List.getElem?_eq_some_iff.1 (hat j hj)
    rw [← e1, ← e2]
    have hne := hn' i j (by omega) (by omega) hij
    rcases Nat.lt_or_gt_of_ne hne with h | h
    · exact hp _ _ _ _ h
    · exact sep_symm (hp _ _ _ _ h)
/-- a callee's memory beside the caller's -/
theorem _root_.Go.Proofs.YtjhbpcdaojajdaaDoor.LibS.St.join {w' : World} {M' : List It} (st : St w0 K w M) (st' : St w [] w' M') (hf : ∀ it ∈ M', ∀ b ∈ it.fp, w.heap.size ≤ b) : St w0 K w' (M' ++ M) := by
  have s := st.keep st'.agr
  refine ⟨s.agr, fun it hi => ?_, ?_⟩
  · rcases List.mem_append.1 hi with h | h
    · have hk := st'.ok it h
      have h2 := hf it h
      cases it with
      | blk b cs t => exact ⟨.inl (Nat.le_trans st.agr.size (h2 b (by simp [It.fp]))), hk.2⟩
      | cust fp wr Φ => exact ⟨hk.1, fun b hb => ⟨(hk.2.1 b hb).1, fun _ => .inl (Nat.le_trans st.agr.size (h2 b hb))⟩, hk.2.2⟩
    · exact s.ok it h
  · refine List.pairwise_append.2 ⟨st'.sep, s.sep, fun x hx y hy _ b hb hb' => ?_⟩
    have h1 := hf x hx b hb
    have h2 := st.lt hy b hb'
    omega
/-- what is only read is as good for whoever is called -/
theorem ro_now {it : It} (h : it.ok w0 K w) (hw : it.wr = false) : it.ok w [] w := by
  cases it with
  | blk b cs t => cases hw
  | cust fp wr Φ => exact ⟨h.1, fun b hb => ⟨(h.2.1 b hb).1, fun h' => by rw [show wr = false from hw] at h'; cases h'⟩, h.2.2⟩
/-- a guard that was not carried out itself -/
theorem unwanted_u {ops : Array Oper} (fr : FrD ds n a L) {j : Nat} {want : Bool} {d : Tmp} (hg : o.guard = some (j, want)) (hj : (ops[j]?).bind (·.dst) = some d) (hv : lkS L d = some undef) : Region.wanted o (yielded ops a.tmps) = false := by
  have := fr.get d _ hv
  simp only [Array.getD_eq_getD_getElem?] at this
  simp only [Region.wanted, hg, yielded, hj, Option.bind_some]
  cases hq : a.tmps[d]? with
  | none => simp
  | some v =>
    rw [hq] at this
    simp only [Option.getD_some] at this
    subst this
    simp [undef]
end
end Go.Proofs.YtjhbpcdaojajdaaDoor.LibW
