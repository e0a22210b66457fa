/- What single operations do, each as one equation on its run, over any program. No program here. -/
import Derived.Test.YtjhbpcdaojajdaaDoorLibS
import Derived.WalkSpells
import Derived.WalkLawsBesides
set_option linter.unusedVariables false
set_option linter.unusedSimpArgs false
namespace Go.Proofs.YtjhbpcdaojajdaaDoor.LibR
open Go.RowKit Go.Proofs.YtjhbpcdaojajdaaDoor.LibS
section
variable {P : Program} {ρ : Operand → Value} {w : World} {dst : Option Tmp} {ty : TypeId} {pos : String} {aft : Array Edge} {gd : Option (Nat × Bool)} {x y z : Operand}
theorem rn_move {v : Value} (hx : ρ x = v) : (execOp ρ ⟨dst, .move x, ty, pos, aft, gd⟩).run P w = .ok (.value v) w := by simp [execOp, hx]
theorem rn_assign {v : Value} (hx : ρ x = v) : (execOp ρ ⟨dst, .assign x, ty, pos, aft, gd⟩).run P w = .ok (.value v) w := by simp [execOp, hx]
theorem rn_pick_t {v : Value} (hc : ρ x = .bool true) (hv : ρ y = v) : (execOp ρ ⟨dst, .pick x y z, ty, pos, aft, gd⟩).run P w = .ok (.value v) w := by simp [execOp, hc, hv, asBool]
theorem rn_pick_f {v : Value} (hc : ρ x = .bool false) (hv : ρ z = v) : (execOp ρ ⟨dst, .pick x y z, ty, pos, aft, gd⟩).run P w = .ok (.value v) w := by simp [execOp, hc, hv, asBool]
theorem rn_not {b : Bool} {t : TypeId} (hx : ρ x = .bool b) : (execOp ρ ⟨dst, .unOp .not t x, ty, pos, aft, gd⟩).run P w = .ok (.value (.bool (!b))) w := by simp [execOp, hx, Op.unary]
theorem rn_extract {i : Nat} {vs : Array Value} {v : Value} (hx : ρ x = .tuple vs) (hv : vs[i]? = some v) : (execOp ρ ⟨dst, .extract x i, ty, pos, aft, gd⟩).run P w = .ok (.value v) w := by simp [execOp, hx, Instr.extract, hv]
/-! whole numbers -/
section
variable {k k' : IntKind} {a b : Int} {t u : TypeId}
theorem rn_lss (hx : ρ x = .int k a) (hy : ρ y = .int k b) : (execOp ρ ⟨dst, .binOp .lss t x y u, ty, pos, aft, gd⟩).run P w = .ok (.value (.bool (decide (a < b)))) w := by simp [execOp, hx, hy, go_sem]
theorem rn_leq (hx : ρ x = .int k a) (hy : ρ y = .int k b) : (execOp ρ ⟨dst, .binOp .leq t x y u, ty, pos, aft, gd⟩).run P w = .ok (.value (.bool (decide (a ≤ b)))) w := by simp [execOp, hx, hy, go_sem]
theorem rn_gtr (hx : ρ x = .int k a) (hy : ρ y = .int k b) : (execOp ρ ⟨dst, .binOp .gtr t x y u, ty, pos, aft, gd⟩).run P w = .ok (.value (.bool (decide (b < a)))) w := by simp [execOp, hx, hy, go_sem]
theorem rn_geq (hx : ρ x = .int k a) (hy : ρ y = .int k b) : (execOp ρ ⟨dst, .binOp .geq t x y u, ty, pos, aft, gd⟩).run P w = .ok (.value (.bool (decide (b ≤ a)))) w := by simp [execOp, hx, hy, go_sem]
theorem rn_eql (hx : ρ x = .int k a) (hy : ρ y = .int k b) : (execOp ρ ⟨dst, .binOp .eql t x y u, ty, pos, aft, gd⟩).run P w = .ok (.value (.bool (a == b))) w := by simp [execOp, hx, hy, go_sem]
theorem rn_neq (hx : ρ x = .int k a) (hy : ρ y = .int k b) : (execOp ρ ⟨dst, .binOp .neq t x y u, ty, pos, aft, gd⟩).run P w = .ok (.value (.bool (a != b))) w := by simp [execOp, hx, hy, go_sem]
theorem rn_add {c : Int} (hx : ρ x = .int k a) (hy : ρ y = .int k b) (h : k.wrap (a + b) = c) : (execOp ρ ⟨dst, .binOp .add t x y u, ty, pos, aft, gd⟩).run P w = .ok (.value (.int k c)) w := by subst h; simp [execOp, hx, hy, binOp_add, eqGuard_add, Op.intArith]
theorem rn_sub {c : Int} (hx : ρ x = .int k a) (hy : ρ y = .int k b) (h : k.wrap (a - b) = c) : (execOp ρ ⟨dst, .binOp .sub t x y u, ty, pos, aft, gd⟩).run P w = .ok (.value (.int k c)) w := by subst h; simp [execOp, hx, hy, binOp_sub, eqGuard_sub, Op.intArith]
theorem rn_mul {c : Int} (hx : ρ x = .int k a) (hy : ρ y = .int k b) (h : k.wrap (a * b) = c) : (execOp ρ ⟨dst, .binOp .mul t x y u, ty, pos, aft, gd⟩).run P w = .ok (.value (.int k c)) w := by subst h; simp [execOp, hx, hy, binOp_mul, eqGuard_mul, Op.intArith]
theorem rn_quo {c : Int} (hx : ρ x = .int k a) (hy : ρ y = .int k b) (h0 : b ≠ 0) (h : k.wrap (a.tdiv b) = c) : (execOp ρ ⟨dst, .binOp .quo t x y u, ty, pos, aft, gd⟩).run P w = .ok (.value (.int k c)) w := by subst h; simp [execOp, hx, hy, binOp_quo, eqGuard_quo, Op.intDiv, h0]
theorem rn_rem {c : Int} (hx : ρ x = .int k a) (hy : ρ y = .int k b) (h0 : b ≠ 0) (h : a.tmod b = c) : (execOp ρ ⟨dst, .binOp .rem t x y u, ty, pos, aft, gd⟩).run P w = .ok (.value (.int k c)) w := by subst h; simp [execOp, hx, hy, binOp_rem, eqGuard_rem, Op.intDiv, h0]
theorem rn_conv {c : Int} {s : TypeId} (hx : ρ x = .int k a) (hs : (P.underlying s).isSome = true) (hd : P.underlying t = some (.int k')) (h : k'.wrap a = c) : (execOp ρ ⟨dst, .convert s t x, ty, pos, aft, gd⟩).run P w = .ok (.value (.int k' c)) w := by
  subst h
  have hk : P.intKind t = k' := by simp [Program.intKind, hd]
  have := run_convert_int (P := P) w s t k a hs (by rw [hk, hd])
  simp [execOp, hx, this, hk]
end
/-! bools, strings -/
theorem rn_eqb {a b : Bool} {t u : TypeId} (hx : ρ x = .bool a) (hy : ρ y = .bool b) (ht : P.underlying t = some .bool) : (execOp ρ ⟨dst, .binOp .eql t x y u, ty, pos, aft, gd⟩).run P w = .ok (.value (.bool (a == b))) w := by
  simp [execOp, hx, hy, eqGuard_at_bool, run_eql_bool w t a b ht]
theorem rn_neb {a b : Bool} {t u : TypeId} (hx : ρ x = .bool a) (hy : ρ y = .bool b) (ht : P.underlying t = some .bool) : (execOp ρ ⟨dst, .binOp .neq t x y u, ty, pos, aft, gd⟩).run P w = .ok (.value (.bool (!(a == b)))) w := by
  simp [execOp, hx, hy, eqGuard_at_bool, run_neq_bool w t a b ht]
/-! places -/
theorem rn_field {T i b o k : Nat} {fs : Array Field} {f : Field} (hx : ρ x = .pointer (some ⟨b, o, none⟩)) (hT : P.underlying T = some (.struct fs)) (hf : fs[i]? = some f) (hs : ((P.info? f.type).map fun j => decide (j.size = 0)) = some false) (hk : o + f.offset = k) :
    (execOp ρ ⟨dst, .fieldAddr T x i, ty, pos, aft, gd⟩).run P w = .ok (.value (.pointer (some ⟨b, k, none⟩))) w := by
  subst hk
  cases hj : P.info? f.type with
  | none => rw [hj] at hs; simp at hs
  | some j =>
    rw [hj] at hs
    have hs' : j.size ≠ 0 := by simpa using hs
    simp [execOp, hx, Instr.fieldAt, run_underlying hT, hf, Instr.sureAddr, fieldPlace, sizeOf, typeInfo, hj, hs', add_lit']
  where add_lit' (b o n : Nat) : (⟨b, o, none⟩ : Addr).add n = ⟨b, o + n, none⟩ := Addr.add_lit b o n
theorem rn_at {T E b o n c i s k : Nat} {ki : IntKind} (hx : ρ x = .slice (some ⟨b, o, none⟩) n c) (hy : ρ y = .int ki (i : Int)) (hT : P.underlying T = some (.slice E)) (hE : (P.info? E).map (·.size) = some s) (hi : i < n) (hk : o + i * s = k) :
    (execOp ρ ⟨dst, .indexAddr T x y, ty, pos, aft, gd⟩).run P w = .ok (.value (.pointer (some ⟨b, k, none⟩))) w := by
  subst hk
  cases hj : P.info? E with
  | none => rw [hj] at hE; simp at hE
  | some j =>
    rw [hj] at hE
    have hs' : j.size = s := by simpa using hE
    have h0 : (0 : Int) ≤ (i : Int) ∧ (i : Int) < (n : Int) := by omega
    simp [execOp, hx, hy, Instr.indexAt, run_underlying hT, asIntOf, h0.1, h0.2, sizeOf, typeInfo, hj, hs', Addr.add_lit, hi]
theorem rn_ata {T E b o n i s k : Nat} {ki : IntKind} (hx : ρ x = .pointer (some ⟨b, o, none⟩)) (hy : ρ y = .int ki (i : Int)) (hT : P.underlying T = some (.array n E)) (hE : (P.info? E).map (·.size) = some s) (hi : i < n) (hk : o + i * s = k) :
    (execOp ρ ⟨dst, .indexAddr T x y, ty, pos, aft, gd⟩).run P w = .ok (.value (.pointer (some ⟨b, k, none⟩))) w := by
  subst hk
  cases hj : P.info? E with
  | none => rw [hj] at hE; simp at hE
  | some j =>
    rw [hj] at hE
    have hs' : j.size = s := by simpa using hE
    have h0 : (0 : Int) ≤ (i : Int) ∧ (i : Int) < (n : Int) := by omega
    simp [execOp, hx, hy, Instr.indexAt, run_underlying hT, asIntOf, Instr.sureAddr, h0.1, h0.2, sizeOf, typeInfo, hj, hs', Addr.add_lit, hi]
theorem rn_load {T b o : Nat} {d : TypeDesc} {v : Value} (hx : ρ x = .pointer (some ⟨b, o, none⟩)) (hT : P.underlying T = some d) (hd : (match d with | .struct _ | .array _ _ => true | _ => false) = false) (hc : w.cell? ⟨b, o, none⟩ = some v) :
    (execOp ρ ⟨dst, .load T x, ty, pos, aft, gd⟩).run P w = .ok (.value v) w := by
  cases d <;> simp at hd <;> simp [execOp, hx, Instr.loadAt, Instr.sureAddr, loadVar, isAgg, run_underlying hT, go_sem, hc, hT]
theorem rn_loadN {T b o : Nat} {d : TypeDesc} {cs : List Value} (hx : ρ x = .pointer (some ⟨b, o, none⟩)) (hT : P.underlying T = some d) (hd : d.isRow = true) (hi : (P.info? T).map (·.size) = some cs.length) (hc : w.rangeAt b o cs) :
    (execOp ρ ⟨dst, .load T x, ty, pos, aft, gd⟩).run P w = .ok (.value (.agg cs.toArray)) w := by
  simp [execOp, hx, run_loadAt_mid w b o T cs d hc hT hd hi]
/-! lengths, parts of strings -/
theorem rn_len {T E n c : Nat} {A : Option Addr} (hx : ρ x = .slice A n c) (hT : P.underlying T = some (.slice E)) : (execOp ρ ⟨dst, .call { callee := .builtin .len, args := #[x], argTypes := #[T] }, ty, pos, aft, gd⟩).run P w = .ok (.value (.int .i64 (n : Int))) w := by
  have hE : P.elem T = E := by simp [Program.elem, hT]
  have := run_len_slice (P := P) w T ty A n c (by rw [hE, hT])
  simp [execOp, resolve, invoke, builtin, hx, this, goInt]
theorem rn_lens {T : Nat} {s : ByteArray} (hx : ρ x = .string s) (hT : P.underlying T = some .string) : (execOp ρ ⟨dst, .call { callee := .builtin .len, args := #[x], argTypes := #[T] }, ty, pos, aft, gd⟩).run P w = .ok (.value (.int .i64 (s.size : Int))) w := by
  have := run_len_string (P := P) w T ty s hT
  simp [execOp, resolve, invoke, builtin, hx, this, goInt]
/-! struct literals -/
theorem rn_build {T : Nat} {parts : Array (Nat × Operand)} {cells : Array Value} (h : P.built T (parts.map fun (i, x) => (i, ρ x)).toList = some cells) : (execOp ρ ⟨dst, .build T parts, ty, pos, aft, gd⟩).run P w = .ok (.value (.agg cells)) w := by
  simp only [execOp, Sem.run_bind, run_build w T _ cells h, Result.andThen_ok, Sem.run_pure]
end
end Go.Proofs.YtjhbpcdaojajdaaDoor.LibR
