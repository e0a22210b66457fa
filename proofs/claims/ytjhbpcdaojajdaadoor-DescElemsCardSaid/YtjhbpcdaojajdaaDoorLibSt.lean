/- Strings as lists of bytes: lengths, bytes, parts, comparisons, sums. No program here. -/
import Derived.Test.YtjhbpcdaojajdaaDoorLibK2
import Derived.Lib.Bytealg
import Derived.Laws.Concat
set_option linter.unusedVariables false
set_option linter.unusedSimpArgs false
namespace Go.Proofs.YtjhbpcdaojajdaaDoor.LibSt
open Go.RowKit Go.Proofs.YtjhbpcdaojajdaaDoor.LibS Go.Proofs.YtjhbpcdaojajdaaDoor.LibR Go.Proofs.YtjhbpcdaojajdaaDoor.LibT Go.Proofs.YtjhbpcdaojajdaaDoor.LibU Go.Proofs.YtjhbpcdaojajdaaDoor.LibV Go.Proofs.YtjhbpcdaojajdaaDoor.LibC
theorem extract_list (xs : List UInt8) (a b : Nat) : (⟨xs.toArray⟩ : ByteArray).extract a b = ⟨((xs.take b).drop a).toArray⟩ := by
  have h : ((⟨xs.toArray⟩ : ByteArray).extract a b).data = ((xs.take b).drop a).toArray := by
    rw [ByteArray.data_extract]
    simp [List.extract_eq_take_drop, List.drop_take]
  generalize (⟨xs.toArray⟩ : ByteArray).extract a b = z at h
  cases z
  simpa using h
section
variable {P : Program} {ρ : Operand → Value} {w : World} {dst : Option Tmp} {ty : TypeId} {pos : String} {aft : Array Edge} {gd : Option (Nat × Bool)} {x y z : Operand} {xs ys : List UInt8} {T u : TypeId}
theorem rn_slen (hx : ρ x = .string ⟨xs.toArray⟩) (hT : P.underlying T = some .string) : (execOp ρ ⟨dst, .call { callee := .builtin .len, args := #[x], argTypes := #[T] }, ty, pos, aft, gd⟩).run P w = .ok (.value (.int .i64 ((xs.length : Nat) : Int))) w := rn_lens hx hT
theorem rn_sxi {i : Nat} {k : IntKind} {c : UInt8} (hx : ρ x = .string ⟨xs.toArray⟩) (hy : ρ y = .int k (i : Nat)) (hT : P.underlying T = some .string) (hi : i < xs.length) (hc : xs[i] = c) : (execOp ρ ⟨dst, .index T x y, ty, pos, aft, gd⟩).run P w = .ok (.value (.int .u8 ((c.toNat : Nat) : Int))) w := by
  subst hc
  have hsz : (⟨xs.toArray⟩ : ByteArray).size = xs.length := rfl
  have h : (0 : Int) ≤ (i : Nat) ∧ ((i : Nat) : Int) < (⟨xs.toArray⟩ : ByteArray).size := by rw [hsz]; omega
  simp only [execOp, hx, hy, Sem.run_bind, run_index_string (P := P) w T _ k _ hT]
  rw [dif_pos h]
  simp only [Result.andThen_ok, Sem.run_pure]
  congr 5
theorem rn_sfrom {lo : Nat} {k : IntKind} (hx : ρ x = .string ⟨xs.toArray⟩) (hy : ρ y = .int k (lo : Nat)) (hT : P.underlying T = some .string) (h : lo ≤ xs.length) : (execOp ρ ⟨dst, .slice T x (some y) none none, ty, pos, aft, gd⟩).run P w = .ok (.value (.string ⟨(xs.drop lo).toArray⟩)) w := by
  have hsz : (⟨xs.toArray⟩ : ByteArray).size = xs.length := rfl
  have e := run_slice_string_l (P := P) w T ⟨xs.toArray⟩ hT k (lo : Nat) (by omega) (by rw [hsz]; omega)
  have es : ∀ l h, (Instr.sliceAt T (.string ⟨xs.toArray⟩) l h none).run P w = (Instr.slice T (.string ⟨xs.toArray⟩) l h none).run P w := fun l h => by simp [Instr.sliceAt, run_underlying hT]
  simp only [execOp, hx, hy, Option.map_some, Option.map_none, Sem.run_bind, es, e, Result.andThen_ok, Sem.run_pure]
  rw [hsz, Int.toNat_natCast, extract_list, List.take_length]
theorem rn_supto {hi : Nat} {k : IntKind} (hx : ρ x = .string ⟨xs.toArray⟩) (hy : ρ y = .int k (hi : Nat)) (hT : P.underlying T = some .string) (h : hi ≤ xs.length) : (execOp ρ ⟨dst, .slice T x none (some y) none, ty, pos, aft, gd⟩).run P w = .ok (.value (.string ⟨(xs.take hi).toArray⟩)) w := by
  have hsz : (⟨xs.toArray⟩ : ByteArray).size = xs.length := rfl
  have e := run_slice_string_h (P := P) w T ⟨xs.toArray⟩ hT k (hi : Nat) (by omega) (by rw [hsz]; omega)
  have es : ∀ l h, (Instr.sliceAt T (.string ⟨xs.toArray⟩) l h none).run P w = (Instr.slice T (.string ⟨xs.toArray⟩) l h none).run P w := fun l h => by simp [Instr.sliceAt, run_underlying hT]
  simp only [execOp, hx, hy, Option.map_some, Option.map_none, Sem.run_bind, es, e, Result.andThen_ok, Sem.run_pure]
  rw [Int.toNat_natCast, extract_list, List.drop_zero]
theorem rn_spart {lo hi : Nat} {k k2 : IntKind} (hx : ρ x = .string ⟨xs.toArray⟩) (hy : ρ y = .int k (lo : Nat)) (hz : ρ z = .int k2 (hi : Nat)) (hT : P.underlying T = some .string) (h : lo ≤ hi ∧ hi ≤ xs.length) : (execOp ρ ⟨dst, .slice T x (some y) (some z) none, ty, pos, aft, gd⟩).run P w = .ok (.value (.string ⟨((xs.take hi).drop lo).toArray⟩)) w := by
  have hsz : (⟨xs.toArray⟩ : ByteArray).size = xs.length := rfl
  have e := run_slice_string (P := P) (w := w) T ⟨xs.toArray⟩ k k2 (lo : Nat) (hi : Nat) hT (by omega) (by omega) (by rw [hsz]; omega)
  have es : ∀ l h, (Instr.sliceAt T (.string ⟨xs.toArray⟩) l h none).run P w = (Instr.slice T (.string ⟨xs.toArray⟩) l h none).run P w := fun l h => by simp [Instr.sliceAt, run_underlying hT]
  simp only [execOp, hx, hy, hz, Option.map_some, Option.map_none, Sem.run_bind, es, e, Result.andThen_ok, Sem.run_pure]
  rw [Int.toNat_natCast, Int.toNat_natCast, extract_list]
theorem bytes_dec (xs ys : List UInt8) : ((⟨xs.toArray⟩ : ByteArray).toList == (⟨ys.toArray⟩ : ByteArray).toList) = decide (xs = ys) := by
  rw [ByteArray.toList_mk, ByteArray.toList_mk]
  rw [Bool.eq_iff_iff, beq_iff_eq, decide_eq_true_iff]
theorem rn_seq (hx : ρ x = .string ⟨xs.toArray⟩) (hy : ρ y = .string ⟨ys.toArray⟩) (hT : P.underlying T = some .string) : (execOp ρ ⟨dst, .binOp .eql T x y u, ty, pos, aft, gd⟩).run P w = .ok (.value (.bool (decide (xs = ys)))) w := by
  simp only [execOp, hx, hy, eqGuard_at_string, binOp_string_eql, Sem.run_bind, Sem.run_pure, pure_bind, Result.andThen_ok, bytes_dec]
theorem rn_sne (hx : ρ x = .string ⟨xs.toArray⟩) (hy : ρ y = .string ⟨ys.toArray⟩) (hT : P.underlying T = some .string) : (execOp ρ ⟨dst, .binOp .neq T x y u, ty, pos, aft, gd⟩).run P w = .ok (.value (.bool (!decide (xs = ys)))) w := by
  simp only [execOp, hx, hy, eqGuard_at_string, binOp_string_neq, Sem.run_bind, Sem.run_pure, pure_bind, Result.andThen_ok, bytes_dec]
theorem rn_scat (hx : ρ x = .string ⟨xs.toArray⟩) (hy : ρ y = .string ⟨ys.toArray⟩) (h : xs.length + ys.length ≤ 9223372036854775807) : (execOp ρ ⟨dst, .binOp .add T x y u, ty, pos, aft, gd⟩).run P w = .ok (.value (.string ⟨(xs ++ ys).toArray⟩)) w := by
  have e := run_string_add_sum (P := P) w ⟨xs.toArray⟩ ⟨ys.toArray⟩ (by show xs.length + ys.length ≤ _; exact h)
  simp only [execOp, hx, hy, eqGuard_at_string, binOp_string_add, Sem.run_bind, Sem.run_pure, pure_bind, e, Result.andThen_ok, ByteArray.mk_append_mk]
end
end Go.Proofs.YtjhbpcdaojajdaaDoor.LibSt
