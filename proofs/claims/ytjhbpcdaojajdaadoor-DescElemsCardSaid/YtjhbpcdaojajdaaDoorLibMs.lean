/- Maps whose keys are asked by == : a struct's key. No program here. -/
import Derived.Test.YtjhbpcdaojajdaaDoorLibW
set_option linter.unusedVariables false
set_option linter.unusedSimpArgs false
namespace Go.Proofs.YtjhbpcdaojajdaaDoor.LibMs
open Go.RowKit Go.Proofs.YtjhbpcdaojajdaaDoor.LibS Go.Proofs.YtjhbpcdaojajdaaDoor.LibR Go.Proofs.YtjhbpcdaojajdaaDoor.LibT Go.Proofs.YtjhbpcdaojajdaaDoor.LibU Go.Proofs.YtjhbpcdaojajdaaDoor.LibV Go.Proofs.YtjhbpcdaojajdaaDoor.LibC Go.Proofs.YtjhbpcdaojajdaaDoor.LibW
section
variable {κ ν : Type}
variable {P : Program} {w0 w : World} {K : List Nat} {M : List It} {n : Nat} {ds : List Deferred} {a : Act} {L : List (Nat × Value)} {Q : Exit → Act → World → Prop} {X : Act → World → Prop} {o : Oper} {kf : κ → Value} {vf : ν → Value} {b : Nat} {l : List (κ × ν)}
theorem findAsking_is [BEq κ] {kt : TypeId} (hq : ∀ a b (w : World), (Op.equal kt (kf a) (kf b)).run P w = .ok (a == b) w) (k : κ) : ∀ (l : List (κ × ν)) (es : List MapEntry) (i : Nat) (w : World), es.map (fun e => (e.key, e.val)) = l.map (fun p => (kf p.1, vf p.2)) →
    (lkp l k = none ∧ (Instr.findAsking kt (kf k) es i).run P w = .ok none w) ∨ ∃ v j, lkp l k = some v ∧ (Instr.findAsking kt (kf k) es i).run P w = .ok (some (j, vf v)) w
  | [], [], i, w, _ => .inl ⟨rfl, by unfold Instr.findAsking; simp⟩
  | [], e :: es, i, w, h => by simp at h
  | p :: l, [], i, w, h => by simp at h
  | p :: l, e :: es, i, w, h => by
    simp only [List.map_cons, List.cons.injEq, Prod.mk.injEq] at h
    obtain ⟨⟨h1, h2⟩, h3⟩ := h
    unfold Instr.findAsking lkp
    rw [h1]
    simp only [Sem.run_bind, hq, Result.andThen_ok]
    cases hb : (k == p.1)
    · simp only [List.find?_cons, hb]
      rcases findAsking_is hq k l es (i + 1) w h3 with ⟨h4, h5⟩ | ⟨v, j, h4, h5⟩
      · exact .inl ⟨h4, by simpa using h5⟩
      · exact .inr ⟨v, j, h4, by simpa using h5⟩
    · simp only [List.find?_cons, hb]
      exact .inr ⟨p.2, i, rfl, by rw [h2]; simp⟩
theorem findKey_is [BEq κ] {kt : TypeId} {kd : TypeDesc} (hkt : P.underlying kt = some kd) (hk : ∀ a b, Instr.sameNow kd (kf a) (kf b) = none) (hq : ∀ a b (w : World), (Op.equal kt (kf a) (kf b)).run P w = .ok (a == b) w) (k : κ) (l : List (κ × ν)) (es : List MapEntry) (w : World) (h : es.map (fun e => (e.key, e.val)) = l.map (fun p => (kf p.1, vf p.2))) :
    (lkp l k = none ∧ (Instr.findKey kt (kf k) es).run P w = .ok none w) ∨ ∃ v j, lkp l k = some v ∧ (Instr.findKey kt (kf k) es).run P w = .ok (some (j, vf v)) w := by
  have hn : Instr.findNow kd (kf k) es 0 = if es = [] then some none else none := by
    cases es with
    | nil => rfl
    | cons e es =>
      cases l with
      | nil => simp at h
      | cons p l =>
        simp only [List.map_cons, List.cons.injEq, Prod.mk.injEq] at h
        unfold Instr.findNow
        rw [h.1.1, hk]
        rfl
  unfold Instr.findKey
  simp only [Sem.run_bind, run_underlying hkt, Result.andThen_ok, hn]
  by_cases he : es = []
  · subst he
    cases l with
    | nil => exact .inl ⟨rfl, by simp⟩
    | cons p l => simp at h
  · rw [if_neg he]
    exact findAsking_is hq k l es 0 w h
theorem rn_lookup2S [BEq κ] {ρ : Operand → Value} {dst : Option Tmp} {ty : TypeId} {pos : String} {aft : Array Edge} {gd : Option (Nat × Bool)} {x y : Operand} {T kt et : TypeId} {kd : TypeDesc} {z : Value} {k : κ} (hx : ρ x = .map (some b)) (hy : ρ y = kf k) (hT : P.underlying T = some (.map kt et)) (hkt : P.underlying kt = some kd)
    (hk : ∀ a b, Instr.sameNow kd (kf a) (kf b) = none) (hq : ∀ a b (w : World), (Op.equal kt (kf a) (kf b)).run P w = .ok (a == b) w) (hck : ∀ e (w : World), (Instr.checkKey e 10000 kt (kf k)).run P w = .ok () w) (hz : ∀ w, (zeroValue et).run P w = .ok z w) (h : MapIs kf vf b l w) :
    (execOp ρ ⟨dst, .lookup T x y true, ty, pos, aft, gd⟩).run P w = .ok (.value (match lkp l k with | some v => .tuple #[vf v, .bool true] | none => .tuple #[z, .bool false])) w := by
  obtain ⟨es, cl, h1, h2⟩ := h
  have hf := findKey_is (vf := vf) hkt hk hq k l es.toList w h2
  have hgo : (getObj b).run P w = .ok (.map es cl) w := by simp [getObj, Sem.run, h1]
  simp only [execOp, hx, hy, Instr.lookup, Sem.run_bind, run_underlying hT, Result.andThen_ok, Sem.run_pure, pure_bind, hgo, hck]
  rcases hf with ⟨h4, h5⟩ | ⟨v, j, h4, h5⟩
  · simp [h4, h5, hz w]
  · simp [h4, h5]
theorem ow_insnewS [BEq κ] (fr : FrD ds n a L) (st : St w0 K w M) (i : Nat) {x y q : Operand} {T kt et : TypeId} {kd : TypeDesc} {k : κ} {v : ν} (ho : o.op = .insert T x y q) (hx : evO L x = some (.map (some b))) (hy : evO L y = some (kf k)) (hq : evO L q = some (vf v)) (hT : P.underlying T = some (.map kt et)) (hkt : P.underlying kt = some kd)
    (hk : ∀ a b, Instr.sameNow kd (kf a) (kf b) = none) (hq2 : ∀ a b (w : World), (Op.equal kt (kf a) (kf b)).run P w = .ok (a == b) w) (hck : ∀ e (w : World), (Instr.checkKey e 10000 kt (kf k)).run P w = .ok () w) (hi : M[i]? = some (mapIt kf vf b l)) (hno : lkp l k = none) (hd : o.dst = none)
    (h : ∀ w', St w0 K w' (M.set i (mapIt kf vf b (l ++ [(k, v)]))) → X a w') : o.wp P a w X Q := by
  obtain ⟨es, cl, h1, h2⟩ := (st.get i hi).1
  have hf := findKey_is (vf := vf) hkt hk hq2 k l es.toList w h2
  have hgo : (getObj b).run P w = .ok (.map es cl) w := by simp [getObj, Sem.run, h1]
  have hfk : (Instr.findKey kt (kf k) es.toList).run P w = .ok none w := by
    rcases hf with ⟨h4, h5⟩ | ⟨v, j, h4, h5⟩
    · exact h5
    · rw [hno] at h4; cases h4
  have hbl0 : b < w.heap.size := (Array.getElem?_eq_some_iff.1 h1).1
  let o' : Obj := .map (es.push { key := kf k, val := vf v, born := cl }) (cl + 1)
  have hso : (setObj b o').run P w = .ok () { w with heap := w.heap.setIfInBounds b o' } := by simp only [setObj, Sem.run, h1]
  unfold Oper.wp
  have hr : (execOp a.eval o).run P w = .ok .skip { w with heap := w.heap.setIfInBounds b o' } := by
    simp only [execOp, ho, fr.ev hx, fr.ev hy, fr.ev hq, Instr.mapUpdate, Sem.run_bind, run_underlying hT, Result.andThen_ok, hgo, hck, hfk, hso, Sem.run_pure, o']
  rw [hr]
  show X (a.put o.dst _) _
  rw [hd]
  have hbl : b < w.heap.size := (Array.getElem?_eq_some_iff.1 h1).1
  have hag : Agr (mapIt kf vf b l).fp w { w with heap := w.heap.setIfInBounds b o' } := ⟨rfl, rfl, rfl, by simp, fun c hc hn => by
    simp [mapIt, It.fp] at hn
    simp only [Array.getElem?_setIfInBounds]
    rw [if_neg (fun e => hn e.symm)]⟩
  have hm : MapIs kf vf b (l ++ [(k, v)]) { w with heap := w.heap.setIfInBounds b o' } := by
    refine ⟨es.push { key := kf k, val := vf v, born := cl }, cl + 1, ?_, by simp [h2]⟩
    simp [o', hbl]
  exact h _ (st.upd i hi rfl hag (map_ok hm (It.ok_own (st.get i hi) rfl b (by simp [mapIt, It.fp]))) (fun c hc => .inl hc))
end
end Go.Proofs.YtjhbpcdaojajdaaDoor.LibMs
