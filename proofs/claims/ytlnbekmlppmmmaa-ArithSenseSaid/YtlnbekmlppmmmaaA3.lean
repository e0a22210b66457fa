/- The law's "live": the program answers what the document fixes; and the contracts of the ops by name. -/
import Derived.Test.YtlnbekmlppmmmaaA2
import Derived.Lib.Hide
namespace Go.Proofs.Ytlnbekmlppmmmaa.Ar
open Go.RowKit
set_option linter.unusedVariables false
set_option linter.unusedSimpArgs false

theorem live_ok1 : intV 1 2147483647 1 = -2147483648 := by decide +kernel
theorem live_ok2 : intV 11 (-1) 28 = 15 := by decide +kernel
theorem live_ok3 : narV 2 (-1) = 65535 := by decide +kernel
theorem live_ok4 : cmpV 1 2 = -1 := by decide +kernel
theorem live_int1 (w : World) : Calls Try.prog 19 #[.int .i64 1, .int .i64 2147483647, .int .i64 1] w fun e w' => e = .returned (.tuple #[.int .i64 (-2147483648), .bool true]) ∧ Grown w w' := by
  have h := int_calls 1 2147483647 1 w
  rw [live_ok1, show intB 1 1 = true from by decide +kernel] at h
  exact h
theorem live_int2 (w : World) : Calls Try.prog 19 #[.int .i64 11, .int .i64 (-1), .int .i64 28] w fun e w' => e = .returned (.tuple #[.int .i64 15, .bool true]) ∧ Grown w w' := by
  have h := int_calls 11 (-1) 28 w
  rw [live_ok2, show intB 11 28 = true from by decide +kernel] at h
  exact h
theorem live_nar (w : World) : Calls Try.prog 13 #[.int .i64 2, .int .i64 (-1)] w fun e w' => e = .returned (.int .i64 65535) ∧ Grown w w' := by
  have h := narrow_calls 2 (-1) (by omega) (by omega) w
  rw [live_ok3] at h
  exact h
theorem live_cmp (w : World) : Calls Try.prog 30 #[.int .i64 1, .int .i64 2] w fun e w' => e = .returned (.int .i64 (-1)) ∧ Grown w w' := by
  have h := cmp_calls 1 2 w
  rw [live_ok4] at h
  exact h
theorem not_is (c n : Int) (h : notV c = n) (w : World) : Calls Try.prog 26 #[.int .i64 c] w fun e w' => e = .returned (.int .i64 n) ∧ Grown w w' := h ▸ not_calls c w
theorem swap_is (c n : Int) (h : swapV c = n) (w : World) : Calls Try.prog 28 #[.int .i64 c] w fun e w' => e = .returned (.int .i64 n) ∧ Grown w w' := h ▸ swap_calls c w
theorem cond_is (c a b : Int) (r : Bool) (h : condB c a b = r) (w : World) : Calls Try.prog 24 #[.int .i64 c, .int .i64 a, .int .i64 b] w fun e w' => e = .returned (.bool r) ∧ Grown w w' := h ▸ cond_calls c a b w
theorem long_is (op a b v : Int) (r : Bool) (h : longV op a b = v) (g : longB op b = r) (w : World) : Calls Try.prog 9 #[.int .i64 op, .int .i64 a, .int .i64 b] w fun e w' => e = .returned (.tuple #[.int .i64 v, .bool r]) ∧ Grown w w' := h ▸ g ▸ long_calls op a b w
theorem live_calls (w : World) : Calls Try.prog 10 #[] w fun e w' => e = .returned (.bool true) ∧ Grown w w' := by
  go_enter Try.func10, Try.ntmps10
  go_wp2_with (first | (go_at_call 19; (with_reducible refine (live_int1 _).mono ?_); rintro e w19 ⟨rfl, hg19⟩)| (go_at_call 19; (with_reducible refine (live_int2 _).mono ?_); rintro e w19 ⟨rfl, hg19⟩)| (go_at_call 13; (with_reducible refine (live_nar _).mono ?_); rintro e w13 ⟨rfl, hg13⟩)| (go_at_call 30; (with_reducible refine (live_cmp _).mono ?_); rintro e w30 ⟨rfl, hg30⟩))
  go_ret
  exact ⟨rfl, (by repeat (with_reducible first | assumption | exact Grown.refl _ | apply Grown.drew | apply Gr.drewN | apply Grown.alloc | (refine Grown.setCell ?_ (by simp) _) | refine Gr.trans ?_ (by assumption)))⟩
end Go.Proofs.Ytlnbekmlppmmmaa.Ar
