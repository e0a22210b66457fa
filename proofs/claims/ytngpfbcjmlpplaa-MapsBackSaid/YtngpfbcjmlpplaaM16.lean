import Derived.Test.YtngpfbcjmlpplaaM15
set_option linter.unusedVariables false
set_option linter.unusedSimpArgs false
namespace Go.Proofs.Ytngpfbcjmlpplaa.M
open Go.RowKit Go.Proofs.Ytngpfbcjmlpplaa.LibA Go.Proofs.Ytngpfbcjmlpplaa.LibB Go.Proofs.Ytngpfbcjmlpplaa.LibC Go.Proofs.Ytngpfbcjmlpplaa.LibD Go.Proofs.Ytngpfbcjmlpplaa.LibE Go.Proofs.Ytngpfbcjmlpplaa.LibF Go.Proofs.Ytngpfbcjmlpplaa.LibG
attribute [local go_sem] setRow_alloc_at setRow_alloc_past ext_setRow
attribute [local go_sem ↓] Go.wp_at_zero Go.wp_at_succ ld27 ld24 st27 bl27 xbl27 eq24
attribute [local go_sem] lt_r6 lt_r7 lt_r0 lt_r1 lt_r2 lt_r3 lt_r4 lt_r5
theorem putR_length (k n v : Int) (rs : List Int) : (putR k n v rs).length = rs.length := by unfold putR; split <;> simp
theorem putS_length (k n v : Int) (sp : List Int) : (putS k n v sp).length = sp.length := by unfold putS; split <;> simp
theorem put_yes' (k n v : Int) (rs sp : List Int) (A : Option Addr) (c : Nat) (hr : rs.length = 16) (hl : sp.length * 8 ≤ 140737488351232) (hA : A = none → c = 0) (w : World) (hs : Ints w A sp) (hb : liesB k n sp.length = true) :
    Calls Try.prog 11 #[.agg #[.int .i64 k, .int .i64 n], .int .i64 v, .agg (regsC rs (.slice A sp.length c))] w fun e w' => ∃ A1 c1, e = .returned (.tuple #[.agg (regsC (putR k n v rs) (.slice A1 sp.length c1)), .int .i64 0]) ∧ Ints w' A1 (putS k n v sp) ∧ Below w.heap.size w w' :=
  (put_yes k n v rs sp A c hr hl hA w hs hb).mono fun e w' ⟨v', he, ho, hb⟩ => by
    obtain ⟨A1, rfl, hi⟩ := ho.ints
    exact ⟨A1, _, by rw [he, putS_length], hi, hb⟩
theorem locs_yes (k n v : Int) (rs sp : List Int) (A : Option Addr) (c : Nat) (hr : rs.length = 16) (hl : sp.length * 8 ≤ 140737488351232) (hA : A = none → c = 0) (w : World) (hs : Ints w A sp) (hb : liesB k n sp.length = true) :
    Calls Try.prog 3 #[.agg #[.int .i64 k, .int .i64 n], .int .i64 v, .agg (regsC rs (.slice A sp.length c))] w fun e w' => e = .returned (.bool true) ∧ Below w.heap.size w w' := by
  have hr2 : (putR k n v rs).length = 16 := by rw [putR_length, hr]
  have hl2 : (putS k n v sp).length ≤ 9223372036854775807 := by rw [putS_length]; omega
  have hm2 : sp.length = (putS k n v sp).length := (putS_length _ _ _ _).symm
  have HL2 := Lib.hid hl2
  have HM2 := Lib.hid hm2
  clear hl2 hm2
  go_enter Try.func3, Try.ntmps3
  go_wp2_with (first | (go_at_call 9; (with_reducible refine Calls.mono (at_calls _ n rs sp A c hr _ (Ints.below hs (by repeat (with_reducible first | assumption | exact Below.refl _ _ | refine bl_alloc ?_ _ | refine bl_drewN ?_ _ | refine bl_drew ?_ | refine bl_ext ?_ _ _ | refine bl_then0 ?_ (by assumption))))) ?_); rintro e w1 ⟨rfl, hb1⟩; obtain ⟨l1, d1, rfl⟩ := ext_of_below hb1; clear hb1) | (go_at_call 10; (with_reducible refine Calls.mono (rat_calls _ n rs sp A c hr _ (Ints.below hs (by repeat (with_reducible first | assumption | exact Below.refl _ _ | refine bl_alloc ?_ _ | refine bl_drewN ?_ _ | refine bl_drew ?_ | refine bl_ext ?_ _ _ | refine bl_then0 ?_ (by assumption))))) ?_); rintro e w1 ⟨rfl, hb1⟩; obtain ⟨l1, d1, rfl⟩ := ext_of_below hb1; clear hb1) | (go_at_call 11; (with_reducible refine Calls.mono (put_yes' _ n v rs sp A c hr hl hA _ (Ints.below hs (by repeat (with_reducible first | assumption | exact Below.refl _ _ | refine bl_alloc ?_ _ | refine bl_drewN ?_ _ | refine bl_drew ?_ | refine bl_ext ?_ _ _ | refine bl_then0 ?_ (by assumption)))) hb) ?_); rintro e w1 ⟨A1, c1, rfl, hi1, hb1⟩; obtain ⟨l1, d1, rfl⟩ := ext_of_below hb1; (try simp only [ext_ext, List.append_assoc] at hi1); have HI1 := Lib.hid hi1; clear hi1 hb1) | (go_at_call 12; (with_reducible refine Calls.mono (rput_yes _ n v rs sp A c hr hl _ (Ints.below hs (by repeat (with_reducible first | assumption | exact Below.refl _ _ | refine bl_alloc ?_ _ | refine bl_drewN ?_ _ | refine bl_drew ?_ | refine bl_ext ?_ _ _ | refine bl_then0 ?_ (by assumption)))) hb) ?_); rintro e w1 ⟨A2, m2, c2, rfl, rfl, hi2, _, hb1⟩; obtain ⟨l1, d1, rfl⟩ := ext_of_below hb1; (try simp only [ext_ext, List.append_assoc] at hi2); have HI2 := Lib.hid hi2; clear hi2 hb1) | (go_at_call 13; (with_reducible refine Calls.mono (live_calls _) ?_); rintro e w1 ⟨rfl, hb1⟩; obtain ⟨l1, d1, rfl⟩ := ext_of_below hb1; clear hb1) | (go_at_call 14; (with_reducible refine Calls.mono (same_regs' _ (putS k n v sp) _ _ _ _ _ hr2 HL2.out HM2.out _ (Ints.below HI1.out (by repeat (with_reducible first | assumption | exact Below.refl _ _ | refine bl_alloc ?_ _ | refine bl_drewN ?_ _ | refine bl_drew ?_ | refine bl_ext ?_ _ _ | refine bl_then0 ?_ (by assumption)))) (Ints.below HI2.out (by repeat (with_reducible first | assumption | exact Below.refl _ _ | refine bl_alloc ?_ _ | refine bl_drewN ?_ _ | refine bl_drew ?_ | refine bl_ext ?_ _ _ | refine bl_then0 ?_ (by assumption))))) ?_); rintro e w1 ⟨rfl, hb1⟩; obtain ⟨l1, d1, rfl⟩ := ext_of_below hb1; clear hb1))
  go_ret
  exact ⟨rfl, (by repeat (with_reducible first | assumption | exact Below.refl _ _ | refine bl_alloc ?_ _ | refine bl_drewN ?_ _ | refine bl_drew ?_ | refine bl_ext ?_ _ _ | refine bl_then0 ?_ (by assumption)))⟩
theorem locs_calls (k n v : Int) (rs sp : List Int) (A : Option Addr) (c : Nat) (hr : rs.length = 16) (hl : sp.length * 8 ≤ 140737488351232) (hA : A = none → c = 0) (w : World) (hs : Ints w A sp) :
    Calls Try.prog 3 #[.agg #[.int .i64 k, .int .i64 n], .int .i64 v, .agg (regsC rs (.slice A sp.length c))] w fun e w' => e = .returned (.bool true) ∧ Below w.heap.size w w' := by
  cases hb : liesB k n sp.length
  · exact locs_no k n v rs sp A c hr hl hA w hs hb
  · exact locs_yes k n v rs sp A c hr hl hA w hs hb
end Go.Proofs.Ytngpfbcjmlpplaa.M
