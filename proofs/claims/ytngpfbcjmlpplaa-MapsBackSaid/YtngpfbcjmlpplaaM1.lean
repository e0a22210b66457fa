import Derived.Test.YtngpfbcjmlpplaaLibB
import Derived.Test.YtngpfbcjmlpplaaRows
import Derived.BigQuiet
import Derived.Deep.QuietTactic
set_option linter.unusedVariables false
set_option linter.unusedSimpArgs false
namespace Go.Proofs.Ytngpfbcjmlpplaa.M
open Go.RowKit Go.Proofs.Ytngpfbcjmlpplaa.LibA

def liesB (k n s : Int) : Bool := (k == 1 && decide (0 ≤ n) && decide (n < 16)) || (k == 2 && decide (0 ≤ n) && decide (n < s))

theorem lies_is (k n s : Int) (b : Bool) (hb : liesB k n s = b) (w : World) : Calls Try.prog 33 #[.agg #[.int .i64 k, .int .i64 n], .int .i64 s] w fun e w' => e = .returned (.bool b) ∧ w' = w.alloc (.cells #[.int .i64 k, .int .i64 n] 23) := by
  subst hb
  rcases (by omega : (k = 1 ∧ 0 ≤ n ∧ n < 16) ∨ (k = 1 ∧ n < 0) ∨ (k = 1 ∧ 0 ≤ n ∧ 16 ≤ n) ∨ (k = 2 ∧ 0 ≤ n ∧ n < s) ∨ (k = 2 ∧ n < 0) ∨ (k = 2 ∧ 0 ≤ n ∧ s ≤ n) ∨ (k ≠ 1 ∧ k ≠ 2)) with ⟨rfl, h1, h2⟩ | ⟨rfl, h1⟩ | ⟨rfl, h1, h2⟩ | ⟨rfl, h1, h2⟩ | ⟨rfl, h1⟩ | ⟨rfl, h1, h2⟩ | ⟨h1, h2⟩
  all_goals
    go_enter Try.func33, Try.ntmps33
    go_wp2
    go_ret
    refine ⟨ret_bool ?_, rfl⟩
    simp [liesB]; try omega
end Go.Proofs.Ytngpfbcjmlpplaa.M
