import Derived.Test.YtngpfbcjmlpplaaM14
set_option linter.unusedVariables false
set_option linter.unusedSimpArgs false
namespace Go.Proofs.Ytngpfbcjmlpplaa.M
open Go.RowKit Go.Proofs.Ytngpfbcjmlpplaa.LibA Go.Proofs.Ytngpfbcjmlpplaa.LibB Go.Proofs.Ytngpfbcjmlpplaa.LibC Go.Proofs.Ytngpfbcjmlpplaa.LibD Go.Proofs.Ytngpfbcjmlpplaa.LibE Go.Proofs.Ytngpfbcjmlpplaa.LibF Go.Proofs.Ytngpfbcjmlpplaa.LibG
attribute [local go_sem] setRow_alloc_at setRow_alloc_past ext_setRow
attribute [local go_sem ↓] Go.wp_at_zero Go.wp_at_succ ld27 ld24 st27 bl27 xbl27 eq24
theorem lt_r0 {a k : Nat} : a < a + 1 + 1 + k := by omega
theorem lt_r1 {a k : Nat} : a + 1 < a + 1 + 1 + k := by omega
theorem lt_r2 {a k : Nat} : a < a + 1 + k := by omega
theorem lt_r3 {a k m : Nat} : a < a + 1 + 1 + k + 1 + m := by omega
theorem lt_r4 {a k m : Nat} : a + 1 < a + 1 + 1 + k + 1 + m := by omega
theorem lt_r5 {a m : Nat} : a < a + 1 + m := by omega
theorem lt_r6 {a k : Nat} : a < a + 1 + k + 1 := by omega
theorem lt_r7 {a k m : Nat} : a < a + 1 + k + 1 + m := by omega
attribute [local go_sem] lt_r6 lt_r7 lt_r0 lt_r1 lt_r2 lt_r3 lt_r4 lt_r5
theorem same_regs' (rs sp : List Int) (A B : Option Addr) (c d m : Nat) (hr : rs.length = 16) (hl : sp.length ≤ 9223372036854775807) (hm : m = sp.length) (w : World) (ha : Ints w A sp) (hb : Ints w B sp) :
    Calls Try.prog 14 #[.agg (regsC rs (.slice A m c)), .agg (regsC rs (.slice B m d))] w fun e w' => e = .returned (.bool true) ∧ Below w.heap.size w w' := by
  subst hm; exact same_regs rs sp A B c d hr hl w ha hb
theorem same_zero (w : World) : Calls Try.prog 14 #[.agg (regsC [0, 0, 0, 0, 0, 0, 0, 0, 0, 0, 0, 0, 0, 0, 0, 0] (.slice none 0 0)), .agg (regsC [0, 0, 0, 0, 0, 0, 0, 0, 0, 0, 0, 0, 0, 0, 0, 0] (.slice none 0 0))] w fun e w' => e = .returned (.bool true) ∧ Below w.heap.size w w' :=
  same_regs [0, 0, 0, 0, 0, 0, 0, 0, 0, 0, 0, 0, 0, 0, 0, 0] [] none none 0 0 rfl (by simp) w (fun i hi => absurd hi (by simp)) (fun i hi => absurd hi (by simp))
theorem locs_no (k n v : Int) (rs sp : List Int) (A : Option Addr) (c : Nat) (hr : rs.length = 16) (hl : sp.length * 8 ≤ 140737488351232) (hA : A = none → c = 0) (w : World) (hs : Ints w A sp) (hb : liesB k n sp.length = false) :
    Calls Try.prog 3 #[.agg #[.int .i64 k, .int .i64 n], .int .i64 v, .agg (regsC rs (.slice A sp.length c))] w fun e w' => e = .returned (.bool true) ∧ Below w.heap.size w w' := by
  have z0 := isAggN_regs (List.replicate 16 0) none 0 0 rfl
  go_enter Try.func3, Try.ntmps3
  go_wp2_with (first | (go_at_call 9; (with_reducible refine Calls.mono (at_calls _ n rs sp A c hr _ (Ints.below hs (by repeat (with_reducible first | assumption | exact Below.refl _ _ | refine bl_alloc ?_ _ | refine bl_drewN ?_ _ | refine bl_drew ?_ | refine bl_ext ?_ _ _ | refine bl_then0 ?_ (by assumption))))) ?_); rintro e w1 ⟨rfl, hb1⟩; obtain ⟨l1, d1, rfl⟩ := ext_of_below hb1; clear hb1) | (go_at_call 10; (with_reducible refine Calls.mono (rat_calls _ n rs sp A c hr _ (Ints.below hs (by repeat (with_reducible first | assumption | exact Below.refl _ _ | refine bl_alloc ?_ _ | refine bl_drewN ?_ _ | refine bl_drew ?_ | refine bl_ext ?_ _ _ | refine bl_then0 ?_ (by assumption))))) ?_); rintro e w1 ⟨rfl, hb1⟩; obtain ⟨l1, d1, rfl⟩ := ext_of_below hb1; clear hb1) | (go_at_call 11; (with_reducible refine Calls.mono (put_no _ n v rs sp A c hr hl hA _ (Ints.below hs (by repeat (with_reducible first | assumption | exact Below.refl _ _ | refine bl_alloc ?_ _ | refine bl_drewN ?_ _ | refine bl_drew ?_ | refine bl_ext ?_ _ _ | refine bl_then0 ?_ (by assumption)))) hb) ?_); rintro e w1 ⟨rfl, hb1⟩; obtain ⟨l1, d1, rfl⟩ := ext_of_below hb1; clear hb1) | (go_at_call 12; (with_reducible refine Calls.mono (rput_no _ n v rs sp A c hr hl _ (Ints.below hs (by repeat (with_reducible first | assumption | exact Below.refl _ _ | refine bl_alloc ?_ _ | refine bl_drewN ?_ _ | refine bl_drew ?_ | refine bl_ext ?_ _ _ | refine bl_then0 ?_ (by assumption)))) hb) ?_); rintro e w1 ⟨rfl, hb1⟩; obtain ⟨l1, d1, rfl⟩ := ext_of_below hb1; clear hb1) | (go_at_call 13; (with_reducible refine Calls.mono (live_calls _) ?_); rintro e w1 ⟨rfl, hb1⟩; obtain ⟨l1, d1, rfl⟩ := ext_of_below hb1; clear hb1) | (go_at_call 14; (with_reducible refine Calls.mono (same_zero _) ?_); rintro e w1 ⟨rfl, hb1⟩; obtain ⟨l1, d1, rfl⟩ := ext_of_below hb1; clear hb1))
  go_ret
  exact ⟨rfl, (by repeat (with_reducible first | assumption | exact Below.refl _ _ | refine bl_alloc ?_ _ | refine bl_drewN ?_ _ | refine bl_drew ?_ | refine bl_ext ?_ _ _ | refine bl_then0 ?_ (by assumption)))⟩
end Go.Proofs.Ytngpfbcjmlpplaa.M
