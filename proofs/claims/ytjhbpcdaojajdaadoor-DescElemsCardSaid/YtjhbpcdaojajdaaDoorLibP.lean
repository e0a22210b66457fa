/- Slices against nil; blocks of the call's own whose cells no longer matter. No program here. -/
import Derived.Test.YtjhbpcdaojajdaaDoorLibQ
import Derived.Lib.SliceRun
set_option linter.unusedVariables false
set_option linter.unusedSimpArgs false
namespace Go.Proofs.YtjhbpcdaojajdaaDoor.LibP
open Go.RowKit Go.Proofs.YtjhbpcdaojajdaaDoor.LibS Go.Proofs.YtjhbpcdaojajdaaDoor.LibR Go.Proofs.YtjhbpcdaojajdaaDoor.LibT Go.Proofs.YtjhbpcdaojajdaaDoor.LibU Go.Proofs.YtjhbpcdaojajdaaDoor.LibV Go.Proofs.YtjhbpcdaojajdaaDoor.LibW Go.Proofs.YtjhbpcdaojajdaaDoor.LibX Go.Proofs.YtjhbpcdaojajdaaDoor.LibY Go.Proofs.YtjhbpcdaojajdaaDoor.LibQ Go.Proofs.YtjhbpcdaojajdaaDoor.LibC
section
variable {P : Program} {ρ : Operand → Value} {w : World} {dst : Option Tmp} {ty : TypeId} {pos : String} {aft : Array Edge} {gd : Option (Nat × Bool)} {x y : Operand} {T e u : TypeId} {A : Option Addr} {n c n' c' : Nat}
theorem rn_eqsn (hx : ρ x = .slice A n c) (hy : ρ y = .slice none n' c') (hT : P.underlying T = some (.slice e)) : (execOp ρ ⟨dst, .binOp .eql T x y u, ty, pos, aft, gd⟩).run P w = .ok (.value (.bool A.isNone)) w := by
  simp only [execOp, hx, hy, eqGuard_at_slice, Sem.run_bind, Sem.run_pure, pure_bind, Result.andThen_ok, Lib.run_eql_slice_nil w T e A n c n' c' hT]
theorem rn_nesn (hx : ρ x = .slice A n c) (hy : ρ y = .slice none n' c') (hT : P.underlying T = some (.slice e)) : (execOp ρ ⟨dst, .binOp .neq T x y u, ty, pos, aft, gd⟩).run P w = .ok (.value (.bool (!A.isNone))) w := by
  simp only [execOp, hx, hy, eqGuard_at_slice, Sem.run_bind, Sem.run_pure, pure_bind, Result.andThen_ok, run_neq_slice_nil_any w T e A n c n' c' hT]
end
theorem els_nil {E : Type} {C : E → List Value} {sz : Nat} {w : World} {xs : List E} (h : Els C sz w none xs) : xs = [] := by
  cases xs with
  | nil => rfl
  | cons x r => obtain ⟨b, o, e, _⟩ := h 0 (by simp); cases e
/-- a block that may be written; what it holds is of no account -/
def bufO (A : Option Addr) (m t : Nat) : It := .cust ((A.map (·.block)).toList) true fun w => m = 0 ∨ ∃ (g : Nat) (cs : List Value), A = some ⟨g, 0, none⟩ ∧ w.heap[g]? = some (.cells cs.toArray t (0, 0)) ∧ m ≤ cs.length
section
variable {P : Program} {w0 w : World} {K : List Nat} {M : List It} {n : Nat} {ds : List Deferred} {a : Act} {L : List (Nat × Value)} {Q : Exit → Act → World → Prop} {X : Act → World → Prop} {o : Oper} {E : Type} {C : E → List Value} {sz e base : Nat} {xs : List E} {A : Option Addr}
theorem bufO_fp {m t c : Nat} {C : E → List Value} : (bufO A m t).fp = (row C sz e base (.slice A n c) xs).fp := by cases A <;> rfl
theorem bufO_ok {c : Nat} (h : (row C sz e base (.slice A n c) xs).ok w0 K w) : (bufO A (n * sz) e).ok w0 K w := by
  have hf := bufO_fp (E := E) (A := A) (m := n * sz) (t := e) (sz := sz) (e := e) (base := base) (n := n) (c := c) (C := C) (xs := xs)
  refine ⟨?_, fun b hb => h.2.1 b (show b ∈ (row C sz e base (.slice A n c) xs).fp from hf ▸ hb), fun w1 w2 he h1 => ?_⟩
  · rcases h.1.2 with ⟨h0, h1⟩ | ⟨g, cap, cur, h0, _, hg, hn, _, hcur, _⟩
    · cases h0; exact .inl (by simp)
    · cases h0
      refine .inr ⟨g, cur.toList, rfl, by simpa using hg, ?_⟩
      simp only [Array.length_toList, hcur]
      exact Nat.mul_le_mul_right _ hn
  · rcases h1 with h1 | ⟨g, cs, rfl, hg, hm⟩
    · exact .inl h1
    · exact .inr ⟨g, cs, rfl, (he g (by simp)).trans hg, hm⟩
theorem bufO_at {m t : Nat} (h : (bufO A m t).ok w0 K w) (hm : 0 < m) : ∃ g, A = some ⟨g, 0, none⟩ := by
  rcases h.1 with h0 | ⟨g, _, h0, _⟩
  · omega
  · exact ⟨g, h0⟩
theorem ow_st_buf (fr : FrD ds n a L) (st : St w0 K w M) (i : Nat) {T g k m t : Nat} {x y : Operand} {v : Value} (ho : o.op = .store T x y) (hx : evO L x = some (.pointer (some ⟨g, k, none⟩))) (hy : evO L y = some v) (h1 : v.oneCell' = true)
    (hT : (P.info? T).map (·.size) = some 1) (hi : M[i]? = some (bufO (some ⟨g, 0, none⟩) m t)) (hk : k < m) (hd : o.dst = none) (h : ∀ w', St w0 K w' M → X a w') : o.wp P a w X Q := by
  have hok := st.get i hi
  obtain ⟨cs, hb, hm⟩ : ∃ cs : List Value, w.heap[g]? = some (.cells cs.toArray t (0, 0)) ∧ m ≤ cs.length := by
    rcases hok.1 with h0 | ⟨g', cs, h0, h2, h3⟩
    · omega
    · cases h0; exact ⟨cs, h2, h3⟩
  have hkl : k < cs.length := by omega
  have hc : w.cell? ⟨g, k, none⟩ = some cs[k] := by rw [cell_of_row w g k _ _ _ hb]; simp [hkl]
  have hf : w.frozen? ⟨g, k, none⟩ = false := by simp [World.frozen?, hb]
  unfold Oper.wp
  have hr : (execOp a.eval o).run P w = .ok .skip (w.setCell ⟨g, k, none⟩ v) := by
    cases hj : P.info? T with
    | none => rw [hj] at hT; simp at hT
    | some j =>
      rw [hj] at hT
      have hs' : j.size = 1 := by simpa using hT
      have hvc : v.cells = #[v] := by cases v <;> first | rfl | simp [Value.oneCell'] at h1
      simp [execOp, ho, fr.ev hx, fr.ev hy, Instr.storeAt, Instr.sureAddr, storeVar, hvc, sizeOf, typeInfo, hj, hs', storeCells, run_store P w _ v .plain h1, Addr.add_zero', hc, hf]
  rw [hr]
  show X (a.put o.dst _) _
  rw [hd]
  have hown := It.ok_own hok rfl
  have hnew : (bufO (some ⟨g, 0, none⟩) m t).ok w0 K (w.setCell ⟨g, k, none⟩ v) := by
    refine ⟨.inr ⟨g, cs.set k v, rfl, ?_, by simpa using hm⟩, fun b hb' => ?_, hok.2.2⟩
    · simp only [World.setCell, Array.getElem?_modify, hb]
      simp
    · have h2 := hok.2.1 b hb'
      exact ⟨Nat.lt_of_lt_of_le h2.1 (Agr.setCell w g k v).size, h2.2⟩
  have st2 := st.upd i hi rfl (Agr.setCell w g k v) hnew (fun c hc => .inl hc)
  have e2 : M.set i (bufO (some ⟨g, 0, none⟩) m t) = M := by
    refine List.ext_getElem? fun j => ?_
    rw [List.getElem?_set]
    split
    · rename_i h3; subst h3
      have := (List.getElem?_eq_some_iff.1 hi).1
      rw [if_pos this, hi]
    · rfl
  rw [e2] at st2
  exact h _ st2
end
end Go.Proofs.YtjhbpcdaojajdaaDoor.LibP
