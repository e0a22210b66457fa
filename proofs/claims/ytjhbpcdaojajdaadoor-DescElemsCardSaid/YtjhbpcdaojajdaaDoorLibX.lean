/- strings: ==; what look-ups in a list of names tell. No program here. -/
import Derived.Test.YtjhbpcdaojajdaaDoorLibW
set_option linter.unusedVariables false
set_option linter.unusedSimpArgs false
namespace Go.Proofs.YtjhbpcdaojajdaaDoor.LibX
open Go.RowKit Go.Proofs.YtjhbpcdaojajdaaDoor.LibS Go.Proofs.YtjhbpcdaojajdaaDoor.LibR Go.Proofs.YtjhbpcdaojajdaaDoor.LibT Go.Proofs.YtjhbpcdaojajdaaDoor.LibU Go.Proofs.YtjhbpcdaojajdaaDoor.LibV Go.Proofs.YtjhbpcdaojajdaaDoor.LibW Go.Proofs.YtjhbpcdaojajdaaDoor.LibC
theorem bytes_beq (a b : ByteArray) : (a == b) = true ↔ a = b := by
  cases a with | mk a => cases b with | mk b =>
  show (a == b) = true ↔ _
  rw [beq_iff_eq]
  exact ⟨fun h => by rw [h], fun h => by cases h; rfl⟩
theorem bytes_l (a b : ByteArray) : (a.toList == b.toList) = (a == b) := by
  rw [Bool.eq_iff_iff, bytes_beq, beq_iff_eq]
  refine ⟨fun h => ?_, fun h => by rw [h]⟩
  rw [ByteArray.toList_eq, ByteArray.toList_eq] at h
  cases a with | mk a => cases b with | mk b =>
  congr 1
  exact Array.toList_inj.1 h
section
variable {P : Program} {w w0 : World} {K : List Nat} {M : List It} {ρ : Operand → Value} {dst : Option Tmp} {ty : TypeId} {pos : String} {aft : Array Edge} {gd : Option (Nat × Bool)} {x y : Operand} {T u : TypeId} {a b : ByteArray}
theorem eqIn_s (d : Nat) (hT : P.underlying T = some .string) : (Op.equalIn (d + 1) T (.string a) (.string b)).run P w = .ok (a == b) w := by simp [Op.equalIn, run_underlying hT]
theorem eq_s (hT : P.underlying T = some .string) : (Op.equal T (.string a) (.string b)).run P w = .ok (a == b) w := eqIn_s 9999 hT
theorem eqg_s (op : BinOp) : eqGuard op T x y (.string a) (.string b) = pure () := by cases op <;> rfl
theorem rn_eqs (hT : P.underlying T = some .string) (hx : ρ x = .string a) (hy : ρ y = .string b) : (execOp ρ ⟨dst, .binOp .eql T x y u, ty, pos, aft, gd⟩).run P w = .ok (.value (.bool (a == b))) w := by
  simp only [execOp, hx, hy, eqg_s, binOp, Op.stringOp, Sem.run_bind, eq_s hT, Result.andThen_ok, Sem.run_pure, pure_bind, bytes_l]
theorem rn_nes (hT : P.underlying T = some .string) (hx : ρ x = .string a) (hy : ρ y = .string b) : (execOp ρ ⟨dst, .binOp .neq T x y u, ty, pos, aft, gd⟩).run P w = .ok (.value (.bool (!(a == b)))) w := by
  simp only [execOp, hx, hy, eqg_s, binOp, Op.stringOp, Sem.run_bind, eq_s hT, Result.andThen_ok, Sem.run_pure, pure_bind, bytes_l]
end
section
variable {w w0 : World} {K : List Nat} {M : List It}
/-- a callee's new row -/
theorem _root_.Go.Proofs.YtjhbpcdaojajdaaDoor.LibS.St.call_row {E : Type} {C : E → List Value} {sz e m c : Nat} {A : Option Addr} {xs : List E} {w' : World} (st : St w0 K w M) (hag : Agr [] w w') (h : Row C sz e w.heap.size (.slice A m c) xs w') : St w0 K w' (row C sz e w0.heap.size (.slice A m c) xs :: M) :=
  st.new hag (row_ok (Row.low h st.agr.size) (Nat.le_refl _)) (fun b hb => by
    cases A with
    | none => simp [row, It.fp, Value.ownBlock] at hb
    | some ad =>
      simp [row, It.fp, Value.ownBlock] at hb
      subst hb
      exact row_base h ad rfl)
end
theorem lkp_none {x : ByteArray} : ∀ (ns : List ByteArray) (i : Nat), (∀ j : Nat, ns[j]? ≠ some x) → lkp (ns.zipIdx i) x = none
  | [], i, _ => rfl
  | y :: t, i, h => by
    have h0 : (x == y) = false := by
      cases hb : x == y
      · rfl
      · exact absurd (by rw [(bytes_beq x y).1 hb]; rfl) (h 0)
    have ih := lkp_none t (i + 1) (fun j => h (j + 1))
    unfold lkp at ih ⊢
    rw [List.zipIdx_cons, List.find?_cons]
    simp only [h0]
    exact ih
theorem lkp_some {x : ByteArray} : ∀ (ns : List ByteArray) (i k : Nat), ns[k]? = some x → (∀ j : Nat, j < k → ns[j]? ≠ some x) → lkp (ns.zipIdx i) x = some (i + k)
  | [], i, k, h, _ => by simp at h
  | y :: t, i, 0, h, _ => by
    simp at h
    subst h
    unfold lkp
    rw [List.zipIdx_cons, List.find?_cons]
    simp [(bytes_beq y y).2 rfl]
  | y :: t, i, k + 1, h, hno => by
    have h0 : (x == y) = false := by
      cases hb : x == y
      · rfl
      · exact absurd (by rw [(bytes_beq x y).1 hb]; rfl) (hno 0 (by omega))
    have ih := lkp_some t (i + 1) k (by simpa using h) (fun j hj => by simpa using hno (j + 1) (by omega))
    unfold lkp at ih ⊢
    rw [List.zipIdx_cons, List.find?_cons]
    simp only [h0]
    rw [ih]
    congr 1
    omega
end Go.Proofs.YtjhbpcdaojajdaaDoor.LibX
