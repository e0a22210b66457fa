import Derived.Test.YtngpfbcjmlpplaaM13
set_option linter.unusedVariables false
set_option linter.unusedSimpArgs false
namespace Go.Proofs.Ytngpfbcjmlpplaa.M
open Go.RowKit Go.Proofs.Ytngpfbcjmlpplaa.LibA Go.Proofs.Ytngpfbcjmlpplaa.LibB Go.Proofs.Ytngpfbcjmlpplaa.LibC Go.Proofs.Ytngpfbcjmlpplaa.LibD Go.Proofs.Ytngpfbcjmlpplaa.LibE Go.Proofs.Ytngpfbcjmlpplaa.LibF Go.Proofs.Ytngpfbcjmlpplaa.LibG
attribute [local go_sem ↓] Go.wp_at_zero Go.wp_at_succ ld27 ld24 st27 bl27 xbl27 eq24
theorem isRw_27 {w : World} {rs : List Int} {s : Value} {n : Nat} {t : TypeId} (h : rs.length = 16) (hn : n = w.heap.size) : isRw (w.alloc (.cells (regsC rs s) t)) n 17 = true :=
  (isRw_of (heap_at (w := w) (regsC rs s) t n hn) (regsC_size rs s h)).1
attribute [go_sem ↓] isRw_27
/-- The law's own 'same': registers that are the same are the same. -/
theorem same_regs (rs sp : List Int) (A B : Option Addr) (c d : Nat) (hr : rs.length = 16) (hl : sp.length ≤ 9223372036854775807) (w : World) (ha : Ints w A sp) (hb : Ints w B sp) :
    Calls Try.prog 14 #[.agg (regsC rs (.slice A sp.length c)), .agg (regsC rs (.slice B sp.length d))] w fun e w' => e = .returned (.bool true) ∧ Below w.heap.size w w' := by
  have h16 := fun s => regsC_16 rs s hr
  go_enter Try.func14, Try.ntmps14
  go_wp2_with (go_at_call 21; (with_reducible refine Calls.mono (eqI_calls sp sp A B c d hl hl _ (Ints.below ha (by repeat (with_reducible first | assumption | exact Below.refl _ _ | refine bl_alloc ?_ _ | refine bl_drewN ?_ _ | refine bl_drew ?_ | refine bl_ext ?_ _ _ | refine bl_then0 ?_ (by assumption)))) (Ints.below hb (by repeat (with_reducible first | assumption | exact Below.refl _ _ | refine bl_alloc ?_ _ | refine bl_drewN ?_ _ | refine bl_drew ?_ | refine bl_ext ?_ _ _ | refine bl_then0 ?_ (by assumption))))) ?_); rintro e w1 ⟨rfl, n1, rfl⟩)
  go_ret
  exact ⟨rfl, (by repeat (with_reducible first | assumption | exact Below.refl _ _ | refine bl_alloc ?_ _ | refine bl_drewN ?_ _ | refine bl_drew ?_ | refine bl_ext ?_ _ _ | refine bl_then0 ?_ (by assumption)))⟩
end Go.Proofs.Ytngpfbcjmlpplaa.M
