import Derived.Test.YtngpfbcjmlpplaaM12
set_option linter.unusedVariables false
set_option linter.unusedSimpArgs false
namespace Go.Proofs.Ytngpfbcjmlpplaa.M
open Go.RowKit Go.Proofs.Ytngpfbcjmlpplaa.LibA Go.Proofs.Ytngpfbcjmlpplaa.LibB Go.Proofs.Ytngpfbcjmlpplaa.LibC Go.Proofs.Ytngpfbcjmlpplaa.LibD Go.Proofs.Ytngpfbcjmlpplaa.LibE Go.Proofs.Ytngpfbcjmlpplaa.LibF Go.Proofs.Ytngpfbcjmlpplaa.LibG
theorem eq24' (d : Nat) (rs : List Int) (h : rs.length = 16) (w : World) : (Op.equalIn (d + 2) 24 (.agg (reg16 rs)) (.agg (reg16 rs))).run Try.prog w = .ok true w := by
  obtain ⟨r0, r1, r2, r3, r4, r5, r6, r7, r8, r9, ra, rb, rc, rd, re, rf, rfl⟩ := list16 rs h
  have hp : ∀ x : Int, (Op.equalIn (d + 1) 2 (.int .i64 x) (.int .i64 x)).run Try.prog w = .ok true w := fun x => by rw [run_equalIn_int _ _ _ _ _ _ _ Try.underlying2]; simp
  have ha : (isAgg 2).run Try.prog w = .ok false w := by kernel_rfl
  have hs : (sizeOf 2).run Try.prog w = .ok 1 w := by kernel_rfl
  unfold Op.equalIn
  simp [run_underlying Try.underlying24, hs, part, ha, reg16, Std.Legacy.Range.forIn_eq_forIn_range', Std.Legacy.Range.size, List.range', hp]
theorem eq24 (rs : List Int) (h : rs.length = 16) (w : World) : (Op.equalIn 10000 24 (.agg (reg16 rs)) (.agg (reg16 rs))).run Try.prog w = .ok true w := eq24' 9998 rs h w
end Go.Proofs.Ytngpfbcjmlpplaa.M
