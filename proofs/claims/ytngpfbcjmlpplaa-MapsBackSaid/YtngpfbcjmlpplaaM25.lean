import Derived.Test.YtngpfbcjmlpplaaM24
import Derived.Outline
set_option linter.unusedVariables false
set_option linter.unusedSimpArgs false
namespace Go.Proofs.Ytngpfbcjmlpplaa.M
open Go.RowKit Go.Proofs.Ytngpfbcjmlpplaa.LibA Go.Proofs.Ytngpfbcjmlpplaa.LibB Go.Proofs.Ytngpfbcjmlpplaa.LibC Go.Proofs.Ytngpfbcjmlpplaa.LibD Go.Proofs.Ytngpfbcjmlpplaa.LibE Go.Proofs.Ytngpfbcjmlpplaa.LibF Go.Proofs.Ytngpfbcjmlpplaa.LibG
attribute [local go_sem] setRow_alloc_at setRow_alloc_past ext_setRow lt_r6 lt_r7 lt_r0 lt_r1 lt_r2 lt_r3 lt_r4 lt_r5
attribute [local go_sem ↓] Go.wp_at_zero Go.wp_at_succ ld27 ld24 st27 xbl27 xld27 isRw_27
theorem entV_len (f : Bool) (csp : Int) (es : List SlotD) (ls : List ValD) : (entV f csp es ls).1.length = 16 ∧ (entV f csp es ls).2.length ≤ 4096 := by
  unfold entV
  split
  · rename_i h
    have hl := entK_len es ls csp.toNat es.length
    refine ⟨hl.1, ?_⟩
    rw [hl.2]
    unfold entE at h
    split at h
    · cases h
    · split at h
      · cases h
      · omega
  · exact ⟨rfl, by simp⟩
theorem enter_g (cf ce ff fa csp : Int) (ci cx cc : Value) (es : List SlotD) (ls : List ValD) (E L S : Option Addr) (ec lc sl sc : Nat) (hel : es.length ≤ 9223372036854775807) (hll : ls.length ≤ 9223372036854775807) (hsl : sl ≤ 9223372036854775807) (w : World) (hes : Els slotC 3 w E es) (hls : Els valC 2 w L ls) (R SP : List Int) (X : Int) (hv : entV (fitsB cf ce ff fa sl es ls) csp es ls = (R, SP)) (hx : entE (fitsB cf ce ff fa sl es ls) csp es = X) :
    Calls Try.prog 22 #[.agg #[.int .i64 cf, .int .i64 ce, ci, cx, cc, .slice E es.length ec, .int .i64 csp], .agg #[.int .i64 ff, .int .i64 fa, .slice L ls.length lc, .slice S sl sc]] w fun e w' => ∃ A c, e = .returned (.tuple #[.agg (regsC R (.slice A SP.length c)), .int .i64 X]) ∧ Ints w' A SP ∧ Below w.heap.size w w' := by
  have h := enter_calls cf ce ff fa csp ci cx cc es ls E L S ec lc sl sc hel hll hsl w hes hls
  rw [hv, hx] at h
  exact h
theorem renter_g (cf ce ff fa csp : Int) (ci cx cc : Value) (es : List SlotD) (ls : List ValD) (E L S : Option Addr) (ec lc sl sc : Nat) (hel : es.length ≤ 9223372036854775807) (hll : ls.length ≤ 9223372036854775807) (hsl : sl ≤ 9223372036854775807) (w : World) (hes : Els slotC 3 w E es) (hls : Els valC 2 w L ls) (R SP : List Int) (X : Int) (hv : entV (fitsB cf ce ff fa sl es ls) csp es ls = (R, SP)) (hx : entE (fitsB cf ce ff fa sl es ls) csp es = X) :
    Calls Try.prog 23 #[.agg #[.int .i64 cf, .int .i64 ce, ci, cx, cc, .slice E es.length ec, .int .i64 csp], .agg #[.int .i64 ff, .int .i64 fa, .slice L ls.length lc, .slice S sl sc]] w fun e w' => ∃ A c, e = .returned (.tuple #[.agg (regsC R (.slice A SP.length c)), .int .i64 X]) ∧ Ints w' A SP ∧ Below w.heap.size w w' := by
  have h := renter_calls cf ce ff fa csp ci cx cc es ls E L S ec lc sl sc hel hll hsl w hes hls
  rw [hv, hx] at h
  exact h
set_option maxHeartbeats 4000000 in
theorem enters_lo (cf ce ff fa csp : Int) (ci cx cc : Value) (es : List SlotD) (ls : List ValD) (E L S : Option Addr) (ec lc sl sc : Nat) (hel : es.length ≤ 9223372036854775807) (hll : ls.length ≤ 9223372036854775807) (hsl : sl ≤ 9223372036854775807) (w : World) (hes : Els slotC 3 w E es) (hls : Els valC 2 w L ls) (hc : csp ≤ 8192) :
    Calls Try.prog 6 #[.agg #[.int .i64 cf, .int .i64 ce, ci, cx, cc, .slice E es.length ec, .int .i64 csp], .agg #[.int .i64 ff, .int .i64 fa, .slice L ls.length lc, .slice S sl sc]] w fun e w' => e = .returned (.bool true) ∧ Below w.heap.size w w' := by
  obtain ⟨R, SP, hv⟩ : ∃ R SP, entV (fitsB cf ce ff fa sl es ls) csp es ls = (R, SP) := ⟨_, _, rfl⟩
  obtain ⟨X, hx⟩ : ∃ X, entE (fitsB cf ce ff fa sl es ls) csp es = X := ⟨_, rfl⟩
  have hlen := entV_len (fitsB cf ce ff fa sl es ls) csp es ls
  rw [hv] at hlen
  have hR : R.length = 16 := hlen.1
  have hL : SP.length ≤ 9223372036854775807 := by have : SP.length ≤ 4096 := hlen.2; omega
  have HL := Lib.hid hL
  clear hlen hL
  have HV := Lib.hid hv
  have HX := Lib.hid hx
  clear hv hx
  have hc2 : decide (8192 < csp) = false := by simpa using hc
  go_enter Try.func6, Try.ntmps6
  go_wp2_with (first | (go_at_call 22; (with_reducible refine Calls.mono (enter_g cf ce ff fa csp ci cx cc es ls E L S ec lc sl sc hel hll hsl _ (Els.below hes (by repeat (with_reducible first | assumption | exact Below.refl _ _ | refine bl_alloc ?_ _ | refine bl_drewN ?_ _ | refine bl_drew ?_ | refine bl_ext ?_ _ _ | refine bl_then0 ?_ (by assumption)))) (Els.below hls (by repeat (with_reducible first | assumption | exact Below.refl _ _ | refine bl_alloc ?_ _ | refine bl_drewN ?_ _ | refine bl_drew ?_ | refine bl_ext ?_ _ _ | refine bl_then0 ?_ (by assumption)))) R SP X HV.out HX.out) ?_); rintro e w1 ⟨A1, c1, rfl, hi1, hb1⟩; obtain ⟨l1, d1, rfl⟩ := ext_of_below hb1; have HI1 := Lib.hid hi1; clear hi1 hb1) | (go_at_call 23; (with_reducible refine Calls.mono (renter_g cf ce ff fa csp ci cx cc es ls E L S ec lc sl sc hel hll hsl _ (Els.below hes (by repeat (with_reducible first | assumption | exact Below.refl _ _ | refine bl_alloc ?_ _ | refine bl_drewN ?_ _ | refine bl_drew ?_ | refine bl_ext ?_ _ _ | refine bl_then0 ?_ (by assumption)))) (Els.below hls (by repeat (with_reducible first | assumption | exact Below.refl _ _ | refine bl_alloc ?_ _ | refine bl_drewN ?_ _ | refine bl_drew ?_ | refine bl_ext ?_ _ _ | refine bl_then0 ?_ (by assumption)))) R SP X HV.out HX.out) ?_); rintro e w1 ⟨A2, c2, rfl, hi2, hb1⟩; obtain ⟨l2, d2, rfl⟩ := ext_of_below hb1; have HI2 := Lib.hid hi2; clear hi2 hb1))
  clear hc2
  have fa0 : w.heap.size < w.heap.size + 1 + 1 + l1.length := by omega
  have fa1 : w.heap.size < w.heap.size + 1 + 1 + l1.length + 1 := by omega
  have fa2 : w.heap.size < w.heap.size + 1 + 1 + l1.length + 1 + l2.length := by omega
  have fa3 : w.heap.size < w.heap.size + 1 + 1 + l1.length + 1 + l2.length + 1 := by omega
  have fb0 : w.heap.size + 1 < w.heap.size + 1 + 1 + l1.length := by omega
  have fb1 : w.heap.size + 1 < w.heap.size + 1 + 1 + l1.length + 1 := by omega
  have fb2 : w.heap.size + 1 < w.heap.size + 1 + 1 + l1.length + 1 + l2.length := by omega
  have fb3 : w.heap.size + 1 < w.heap.size + 1 + 1 + l1.length + 1 + l2.length + 1 := by omega
  have ga0 : w.heap.size + 1 + 1 + l1.length < w.heap.size + 1 + 1 + l1.length + 1 + l2.length := by omega
  have ga1 : w.heap.size + 1 + 1 + l1.length < w.heap.size + 1 + 1 + l1.length + 1 + l2.length + 1 := by omega
  refine wp_region_held_drew (S := (fun w' => w'.cell? ⟨w.heap.size, 0, none⟩ = some (.int .i64 cf) ∧ w'.cell? ⟨w.heap.size, 1, none⟩ = some (.int .i64 ce) ∧ w'.cell? ⟨w.heap.size, 2, none⟩ = some (ci) ∧ w'.cell? ⟨w.heap.size, 3, none⟩ = some (cx) ∧ w'.cell? ⟨w.heap.size, 4, none⟩ = some (cc) ∧ w'.cell? ⟨w.heap.size, 5, none⟩ = some (.slice E es.length ec) ∧ w'.cell? ⟨w.heap.size, 6, none⟩ = some (.int .i64 csp) ∧ w'.cell? ⟨w.heap.size + 1, 0, none⟩ = some (.int .i64 ff) ∧ w'.cell? ⟨w.heap.size + 1, 1, none⟩ = some (.int .i64 fa) ∧ w'.cell? ⟨w.heap.size + 1, 2, none⟩ = some (.slice L ls.length lc) ∧ w'.cell? ⟨w.heap.size + 1, 3, none⟩ = some (.slice S sl sc) ∧ isRw w' (w.heap.size + 1 + 1 + l1.length) 17 = true ∧ rwAt w' (w.heap.size + 1 + 1 + l1.length) = regsC R (.slice A1 SP.length c1) ∧ isRw w' (w.heap.size + 1 + 1 + l1.length + 1 + l2.length) 17 = true ∧ rwAt w' (w.heap.size + 1 + 1 + l1.length + 1 + l2.length) = regsC R (.slice A2 SP.length c2))) (by kernel_rfl) ?_ (fun hHeld => ?_)
  · refine ⟨?_, ?_, ?_, ?_, ?_, ?_, ?_, ?_, ?_, ?_, ?_, ?_, ?_, ?_, ?_⟩ <;> first | assumption | (go_simp; done)
  refine wpAnyH_ready (rs := [0]) (by kernel_rfl) (by simp) (AllReadyH.cons rfl (fun K hK => ?_) AllReadyH.nil)
  go_simp
  go_wp2_with (first | (go_at_call 13; (with_reducible refine Calls.mono (live_calls _) ?_); rintro e w1 ⟨rfl, hb1⟩; obtain ⟨l3, d3, rfl⟩ := ext_of_below hb1; clear hb1) | (go_at_call 24; (with_reducible refine Calls.mono (fits_calls cf ce ff fa csp ci cx cc es ls E L S ec lc sl sc hel hll hsl _ (Els.below hes (by repeat (with_reducible first | assumption | exact Below.refl _ _ | refine bl_alloc ?_ _ | refine bl_drewN ?_ _ | refine bl_drew ?_ | refine bl_ext ?_ _ _ | refine bl_then0 ?_ (by assumption)))) (Els.below hls (by repeat (with_reducible first | assumption | exact Below.refl _ _ | refine bl_alloc ?_ _ | refine bl_drewN ?_ _ | refine bl_drew ?_ | refine bl_ext ?_ _ _ | refine bl_then0 ?_ (by assumption))))) ?_); rintro e w1 ⟨rfl, hb1⟩; obtain ⟨l4, d4, rfl⟩ := ext_of_below hb1; clear hb1) | (go_at_call 25; (with_reducible refine Calls.mono (rfits_calls cf ce ff fa csp ci cx cc es ls E L S ec lc sl sc hel hll hsl _ (Els.below hes (by repeat (with_reducible first | assumption | exact Below.refl _ _ | refine bl_alloc ?_ _ | refine bl_drewN ?_ _ | refine bl_drew ?_ | refine bl_ext ?_ _ _ | refine bl_then0 ?_ (by assumption)))) (Els.below hls (by repeat (with_reducible first | assumption | exact Below.refl _ _ | refine bl_alloc ?_ _ | refine bl_drewN ?_ _ | refine bl_drew ?_ | refine bl_ext ?_ _ _ | refine bl_then0 ?_ (by assumption))))) ?_); rintro e w1 ⟨rfl, hb1⟩; obtain ⟨l5, d5, rfl⟩ := ext_of_below hb1; clear hb1) | (go_at_call 14; (with_reducible refine Calls.mono (same_regs' R SP A1 A2 c1 c2 _ hR HL.out rfl _ (Ints.below HI1.out (by repeat (with_reducible first | assumption | exact Below.refl _ _ | refine bl_alloc ?_ _ | refine bl_drewN ?_ _ | refine bl_drew ?_ | refine bl_ext ?_ _ _ | refine bl_then0 ?_ (by assumption)))) (Ints.below HI2.out (by repeat (with_reducible first | assumption | exact Below.refl _ _ | refine bl_alloc ?_ _ | refine bl_drewN ?_ _ | refine bl_drew ?_ | refine bl_ext ?_ _ _ | refine bl_then0 ?_ (by assumption))))) ?_); rintro e w1 ⟨rfl, hb1⟩; obtain ⟨l6, d6, rfl⟩ := ext_of_below hb1; clear hb1))
  clear hHeld
  refine hK.out _ _ ?_ (fun hHeld => ?_)
  · refine ⟨?_, ?_, ?_, ?_, ?_, ?_, ?_, ?_, ?_, ?_, ?_, ?_, ?_, ?_, ?_⟩ <;> first | assumption | (go_simp; done)
  clear hK K
  try simp only [List.getElem_toArray, List.getElem_cons_zero, List.getElem_cons_succ, Act.put, List.setIfInBounds_toArray, List.set_cons_zero, List.set_cons_succ]
  refine wpAnyH_take (i := 1) (v := ?vq1x) rfl (by kernel_rfl) (by kernel_rfl) (by kernel_rfl) (fun _ _ _ h => h) (Or.inl ⟨by rfl, ?yq1x⟩) (by assumption) ?rq1x
  case yq1x =>
    intro w' hSw
    (try dsimp only at hSw)
    go_simp
    all_goals (try with_reducible rfl)
  try simp only [List.getElem_toArray, List.getElem_cons_zero, List.getElem_cons_succ, Act.put, List.setIfInBounds_toArray, List.set_cons_zero, List.set_cons_succ]
  refine wpAnyH_take (i := 2) (v := ?vq2x) rfl (by kernel_rfl) (by kernel_rfl) (by kernel_rfl) (fun _ _ _ h => h) (Or.inl ⟨by rfl, ?yq2x⟩) (by assumption) ?rq2x
  case yq2x =>
    intro w' hSw
    (try dsimp only at hSw)
    go_simp
    all_goals (try with_reducible rfl)
  try simp only [List.getElem_toArray, List.getElem_cons_zero, List.getElem_cons_succ, Act.put, List.setIfInBounds_toArray, List.set_cons_zero, List.set_cons_succ]
  refine wpAnyH_take (i := 3) (v := ?vq3x) rfl (by kernel_rfl) (by kernel_rfl) (by kernel_rfl) (fun _ _ _ h => h) (Or.inl ⟨by rfl, ?yq3x⟩) (by assumption) ?rq3x
  case yq3x =>
    intro w' hSw
    (try dsimp only at hSw)
    go_simp
    all_goals (try with_reducible rfl)
  try simp only [List.getElem_toArray, List.getElem_cons_zero, List.getElem_cons_succ, Act.put, List.setIfInBounds_toArray, List.set_cons_zero, List.set_cons_succ]
  refine wpAnyH_take (i := 5) (v := ?vq4x) rfl (by kernel_rfl) (by kernel_rfl) (by kernel_rfl) (fun _ _ _ h => h) (Or.inl ⟨by rfl, ?yq4x⟩) (by assumption) ?rq4x
  case yq4x =>
    intro w' hSw
    (try dsimp only at hSw)
    go_simp
    all_goals (try with_reducible rfl)
  try simp only [List.getElem_toArray, List.getElem_cons_zero, List.getElem_cons_succ, Act.put, List.setIfInBounds_toArray, List.set_cons_zero, List.set_cons_succ]
  refine wpAnyH_take (i := 6) (v := ?vq5x) rfl (by kernel_rfl) (by kernel_rfl) (by kernel_rfl) (fun _ _ _ h => h) (Or.inl ⟨by rfl, ?yq5x⟩) (by assumption) ?rq5x
  case yq5x =>
    intro w' hSw
    (try dsimp only at hSw)
    go_simp
    all_goals (try with_reducible rfl)
  try simp only [List.getElem_toArray, List.getElem_cons_zero, List.getElem_cons_succ, Act.put, List.setIfInBounds_toArray, List.set_cons_zero, List.set_cons_succ]
  refine wpAnyH_ready (rs := [4]) (by kernel_rfl) (by simp) (AllReadyH.cons rfl (fun K hK => ?_) AllReadyH.nil)
  go_simp
  go_wp2_with (first | (go_at_call 13; (with_reducible refine Calls.mono (live_calls _) ?_); rintro e w1 ⟨rfl, hb1⟩; obtain ⟨l3, d3, rfl⟩ := ext_of_below hb1; clear hb1) | (go_at_call 24; (with_reducible refine Calls.mono (fits_calls cf ce ff fa csp ci cx cc es ls E L S ec lc sl sc hel hll hsl _ (Els.below hes (by repeat (with_reducible first | assumption | exact Below.refl _ _ | refine bl_alloc ?_ _ | refine bl_drewN ?_ _ | refine bl_drew ?_ | refine bl_ext ?_ _ _ | refine bl_then0 ?_ (by assumption)))) (Els.below hls (by repeat (with_reducible first | assumption | exact Below.refl _ _ | refine bl_alloc ?_ _ | refine bl_drewN ?_ _ | refine bl_drew ?_ | refine bl_ext ?_ _ _ | refine bl_then0 ?_ (by assumption))))) ?_); rintro e w1 ⟨rfl, hb1⟩; obtain ⟨l4, d4, rfl⟩ := ext_of_below hb1; clear hb1) | (go_at_call 25; (with_reducible refine Calls.mono (rfits_calls cf ce ff fa csp ci cx cc es ls E L S ec lc sl sc hel hll hsl _ (Els.below hes (by repeat (with_reducible first | assumption | exact Below.refl _ _ | refine bl_alloc ?_ _ | refine bl_drewN ?_ _ | refine bl_drew ?_ | refine bl_ext ?_ _ _ | refine bl_then0 ?_ (by assumption)))) (Els.below hls (by repeat (with_reducible first | assumption | exact Below.refl _ _ | refine bl_alloc ?_ _ | refine bl_drewN ?_ _ | refine bl_drew ?_ | refine bl_ext ?_ _ _ | refine bl_then0 ?_ (by assumption))))) ?_); rintro e w1 ⟨rfl, hb1⟩; obtain ⟨l5, d5, rfl⟩ := ext_of_below hb1; clear hb1) | (go_at_call 14; (with_reducible refine Calls.mono (same_regs' R SP A1 A2 c1 c2 _ hR HL.out rfl _ (Ints.below HI1.out (by repeat (with_reducible first | assumption | exact Below.refl _ _ | refine bl_alloc ?_ _ | refine bl_drewN ?_ _ | refine bl_drew ?_ | refine bl_ext ?_ _ _ | refine bl_then0 ?_ (by assumption)))) (Ints.below HI2.out (by repeat (with_reducible first | assumption | exact Below.refl _ _ | refine bl_alloc ?_ _ | refine bl_drewN ?_ _ | refine bl_drew ?_ | refine bl_ext ?_ _ _ | refine bl_then0 ?_ (by assumption))))) ?_); rintro e w1 ⟨rfl, hb1⟩; obtain ⟨l6, d6, rfl⟩ := ext_of_below hb1; clear hb1))
  clear hHeld
  refine hK.out _ _ ?_ (fun hHeld => ?_)
  · refine ⟨?_, ?_, ?_, ?_, ?_, ?_, ?_, ?_, ?_, ?_, ?_, ?_, ?_, ?_, ?_⟩ <;> first | assumption | (go_simp; done)
  clear hK K
  try simp only [List.getElem_toArray, List.getElem_cons_zero, List.getElem_cons_succ, Act.put, List.setIfInBounds_toArray, List.set_cons_zero, List.set_cons_succ]
  refine wpAnyH_ready (rs := [7]) (by kernel_rfl) (by simp) (AllReadyH.cons rfl (fun K hK => ?_) AllReadyH.nil)
  go_simp
  go_wp2_with (first | (go_at_call 13; (with_reducible refine Calls.mono (live_calls _) ?_); rintro e w1 ⟨rfl, hb1⟩; obtain ⟨l3, d3, rfl⟩ := ext_of_below hb1; clear hb1) | (go_at_call 24; (with_reducible refine Calls.mono (fits_calls cf ce ff fa csp ci cx cc es ls E L S ec lc sl sc hel hll hsl _ (Els.below hes (by repeat (with_reducible first | assumption | exact Below.refl _ _ | refine bl_alloc ?_ _ | refine bl_drewN ?_ _ | refine bl_drew ?_ | refine bl_ext ?_ _ _ | refine bl_then0 ?_ (by assumption)))) (Els.below hls (by repeat (with_reducible first | assumption | exact Below.refl _ _ | refine bl_alloc ?_ _ | refine bl_drewN ?_ _ | refine bl_drew ?_ | refine bl_ext ?_ _ _ | refine bl_then0 ?_ (by assumption))))) ?_); rintro e w1 ⟨rfl, hb1⟩; obtain ⟨l4, d4, rfl⟩ := ext_of_below hb1; clear hb1) | (go_at_call 25; (with_reducible refine Calls.mono (rfits_calls cf ce ff fa csp ci cx cc es ls E L S ec lc sl sc hel hll hsl _ (Els.below hes (by repeat (with_reducible first | assumption | exact Below.refl _ _ | refine bl_alloc ?_ _ | refine bl_drewN ?_ _ | refine bl_drew ?_ | refine bl_ext ?_ _ _ | refine bl_then0 ?_ (by assumption)))) (Els.below hls (by repeat (with_reducible first | assumption | exact Below.refl _ _ | refine bl_alloc ?_ _ | refine bl_drewN ?_ _ | refine bl_drew ?_ | refine bl_ext ?_ _ _ | refine bl_then0 ?_ (by assumption))))) ?_); rintro e w1 ⟨rfl, hb1⟩; obtain ⟨l5, d5, rfl⟩ := ext_of_below hb1; clear hb1) | (go_at_call 14; (with_reducible refine Calls.mono (same_regs' R SP A1 A2 c1 c2 _ hR HL.out rfl _ (Ints.below HI1.out (by repeat (with_reducible first | assumption | exact Below.refl _ _ | refine bl_alloc ?_ _ | refine bl_drewN ?_ _ | refine bl_drew ?_ | refine bl_ext ?_ _ _ | refine bl_then0 ?_ (by assumption)))) (Ints.below HI2.out (by repeat (with_reducible first | assumption | exact Below.refl _ _ | refine bl_alloc ?_ _ | refine bl_drewN ?_ _ | refine bl_drew ?_ | refine bl_ext ?_ _ _ | refine bl_then0 ?_ (by assumption))))) ?_); rintro e w1 ⟨rfl, hb1⟩; obtain ⟨l6, d6, rfl⟩ := ext_of_below hb1; clear hb1))
  clear hHeld
  refine hK.out _ _ ?_ (fun hHeld => ?_)
  · refine ⟨?_, ?_, ?_, ?_, ?_, ?_, ?_, ?_, ?_, ?_, ?_, ?_, ?_, ?_, ?_⟩ <;> first | assumption | (go_simp; done)
  clear hK K
  try simp only [List.getElem_toArray, List.getElem_cons_zero, List.getElem_cons_succ, Act.put, List.setIfInBounds_toArray, List.set_cons_zero, List.set_cons_succ]
  refine wpAnyH_take (i := 8) (v := ?vq6x) rfl (by kernel_rfl) (by kernel_rfl) (by kernel_rfl) (fun _ _ _ h => h) (Or.inl ⟨by rfl, ?yq6x⟩) (by assumption) ?rq6x
  case yq6x =>
    intro w' hSw
    (try dsimp only at hSw)
    go_simp
    all_goals (try with_reducible rfl)
  try simp only [List.getElem_toArray, List.getElem_cons_zero, List.getElem_cons_succ, Act.put, List.setIfInBounds_toArray, List.set_cons_zero, List.set_cons_succ]
  refine wpAnyH_take (i := 9) (v := ?vq7x) rfl (by kernel_rfl) (by kernel_rfl) (by kernel_rfl) (fun _ _ _ h => h) (Or.inl ⟨by rfl, ?yq7x⟩) (by assumption) ?rq7x
  case yq7x =>
    intro w' hSw
    (try dsimp only at hSw)
    go_simp
    all_goals (try with_reducible rfl)
  try simp only [List.getElem_toArray, List.getElem_cons_zero, List.getElem_cons_succ, Act.put, List.setIfInBounds_toArray, List.set_cons_zero, List.set_cons_succ]
  refine wpAnyH_take (i := 10) (v := ?vq8x) rfl (by kernel_rfl) (by kernel_rfl) (by kernel_rfl) (fun _ _ _ h => h) (Or.inl ⟨by rfl, ?yq8x⟩) (by assumption) ?rq8x
  case yq8x =>
    intro w' hSw
    (try dsimp only at hSw)
    go_simp
    all_goals (try with_reducible rfl)
  try simp only [List.getElem_toArray, List.getElem_cons_zero, List.getElem_cons_succ, Act.put, List.setIfInBounds_toArray, List.set_cons_zero, List.set_cons_succ]
  refine wpAnyH_take (i := 11) (v := ?vq9x) rfl (by kernel_rfl) (by kernel_rfl) (by kernel_rfl) (fun _ _ _ h => h) (Or.inl ⟨by rfl, ?yq9x⟩) (by assumption) ?rq9x
  case yq9x =>
    intro w' hSw
    (try dsimp only at hSw)
    go_simp
    all_goals (try with_reducible rfl)
  try simp only [List.getElem_toArray, List.getElem_cons_zero, List.getElem_cons_succ, Act.put, List.setIfInBounds_toArray, List.set_cons_zero, List.set_cons_succ]
  refine wpAnyH_take (i := 12) (v := ?vq10x) rfl (by kernel_rfl) (by kernel_rfl) (by kernel_rfl) (fun _ _ _ h => h) (Or.inl ⟨by rfl, ?yq10x⟩) (by assumption) ?rq10x
  case yq10x =>
    intro w' hSw
    (try dsimp only at hSw)
    go_simp
    all_goals (try with_reducible rfl)
  try simp only [List.getElem_toArray, List.getElem_cons_zero, List.getElem_cons_succ, Act.put, List.setIfInBounds_toArray, List.set_cons_zero, List.set_cons_succ]
  refine wpAnyH_take (i := 13) (v := ?vq11x) rfl (by kernel_rfl) (by kernel_rfl) (by kernel_rfl) (fun _ _ _ h => h) (Or.inl ⟨by rfl, ?yq11x⟩) (by assumption) ?rq11x
  case yq11x =>
    intro w' hSw
    (try dsimp only at hSw)
    go_simp
    all_goals (try with_reducible rfl)
  try simp only [List.getElem_toArray, List.getElem_cons_zero, List.getElem_cons_succ, Act.put, List.setIfInBounds_toArray, List.set_cons_zero, List.set_cons_succ]
  refine wpAnyH_take (i := 14) (v := ?vq12x) rfl (by kernel_rfl) (by kernel_rfl) (by kernel_rfl) (fun _ _ _ h => h) (Or.inl ⟨by rfl, ?yq12x⟩) (by assumption) ?rq12x
  case yq12x =>
    intro w' hSw
    (try dsimp only at hSw)
    go_simp
    all_goals (try with_reducible rfl)
  try simp only [List.getElem_toArray, List.getElem_cons_zero, List.getElem_cons_succ, Act.put, List.setIfInBounds_toArray, List.set_cons_zero, List.set_cons_succ]
  refine wpAnyH_take (i := 15) (v := ?vq13x) rfl (by kernel_rfl) (by kernel_rfl) (by kernel_rfl) (fun _ _ _ h => h) (Or.inl ⟨by rfl, ?yq13x⟩) (by assumption) ?rq13x
  case yq13x =>
    intro w' hSw
    (try dsimp only at hSw)
    go_simp
    all_goals (try with_reducible rfl)
  try simp only [List.getElem_toArray, List.getElem_cons_zero, List.getElem_cons_succ, Act.put, List.setIfInBounds_toArray, List.set_cons_zero, List.set_cons_succ]
  refine wpAnyH_take (i := 16) (v := .agg (regsC R (.slice A1 SP.length c1))) rfl (by kernel_rfl) (by kernel_rfl) (by kernel_rfl) (fun _ _ _ h => h) (Or.inl ⟨by rfl, ?yq14x⟩) (by assumption) ?rq14x
  case yq14x =>
    intro w' hSw
    exact (xld27 rfl hSw.2.2.2.2.2.2.2.2.2.2.2.1).trans (by show Result.ok (Next.value (.agg (rwAt w' (w.heap.size + 1 + 1 + l1.length)))) w' = _; rw [hSw.2.2.2.2.2.2.2.2.2.2.2.2.1])
  try simp only [List.getElem_toArray, List.getElem_cons_zero, List.getElem_cons_succ, Act.put, List.setIfInBounds_toArray, List.set_cons_zero, List.set_cons_succ]
  refine wpAnyH_take (i := 17) (v := .agg (regsC R (.slice A2 SP.length c2))) rfl (by kernel_rfl) (by kernel_rfl) (by kernel_rfl) (fun _ _ _ h => h) (Or.inl ⟨by rfl, ?yq15x⟩) (by assumption) ?rq15x
  case yq15x =>
    intro w' hSw
    exact (xld27 rfl hSw.2.2.2.2.2.2.2.2.2.2.2.2.2.1).trans (by show Result.ok (Next.value (.agg (rwAt w' (w.heap.size + 1 + 1 + l1.length + 1 + l2.length)))) w' = _; rw [hSw.2.2.2.2.2.2.2.2.2.2.2.2.2.2])
  try simp only [List.getElem_toArray, List.getElem_cons_zero, List.getElem_cons_succ, Act.put, List.setIfInBounds_toArray, List.set_cons_zero, List.set_cons_succ]
  refine wpAnyH_ready (rs := [18]) (by kernel_rfl) (by simp) (AllReadyH.cons rfl (fun K hK => ?_) AllReadyH.nil)
  go_simp
  go_wp2_with (first | (go_at_call 13; (with_reducible refine Calls.mono (live_calls _) ?_); rintro e w1 ⟨rfl, hb1⟩; obtain ⟨l3, d3, rfl⟩ := ext_of_below hb1; clear hb1) | (go_at_call 24; (with_reducible refine Calls.mono (fits_calls cf ce ff fa csp ci cx cc es ls E L S ec lc sl sc hel hll hsl _ (Els.below hes (by repeat (with_reducible first | assumption | exact Below.refl _ _ | refine bl_alloc ?_ _ | refine bl_drewN ?_ _ | refine bl_drew ?_ | refine bl_ext ?_ _ _ | refine bl_then0 ?_ (by assumption)))) (Els.below hls (by repeat (with_reducible first | assumption | exact Below.refl _ _ | refine bl_alloc ?_ _ | refine bl_drewN ?_ _ | refine bl_drew ?_ | refine bl_ext ?_ _ _ | refine bl_then0 ?_ (by assumption))))) ?_); rintro e w1 ⟨rfl, hb1⟩; obtain ⟨l4, d4, rfl⟩ := ext_of_below hb1; clear hb1) | (go_at_call 25; (with_reducible refine Calls.mono (rfits_calls cf ce ff fa csp ci cx cc es ls E L S ec lc sl sc hel hll hsl _ (Els.below hes (by repeat (with_reducible first | assumption | exact Below.refl _ _ | refine bl_alloc ?_ _ | refine bl_drewN ?_ _ | refine bl_drew ?_ | refine bl_ext ?_ _ _ | refine bl_then0 ?_ (by assumption)))) (Els.below hls (by repeat (with_reducible first | assumption | exact Below.refl _ _ | refine bl_alloc ?_ _ | refine bl_drewN ?_ _ | refine bl_drew ?_ | refine bl_ext ?_ _ _ | refine bl_then0 ?_ (by assumption))))) ?_); rintro e w1 ⟨rfl, hb1⟩; obtain ⟨l5, d5, rfl⟩ := ext_of_below hb1; clear hb1) | (go_at_call 14; (with_reducible refine Calls.mono (same_regs' R SP A1 A2 c1 c2 _ hR HL.out rfl _ (Ints.below HI1.out (by repeat (with_reducible first | assumption | exact Below.refl _ _ | refine bl_alloc ?_ _ | refine bl_drewN ?_ _ | refine bl_drew ?_ | refine bl_ext ?_ _ _ | refine bl_then0 ?_ (by assumption)))) (Ints.below HI2.out (by repeat (with_reducible first | assumption | exact Below.refl _ _ | refine bl_alloc ?_ _ | refine bl_drewN ?_ _ | refine bl_drew ?_ | refine bl_ext ?_ _ _ | refine bl_then0 ?_ (by assumption))))) ?_); rintro e w1 ⟨rfl, hb1⟩; obtain ⟨l6, d6, rfl⟩ := ext_of_below hb1; clear hb1))
  clear hHeld
  refine hK.out _ _ ?_ (fun hHeld => ?_)
  · refine ⟨?_, ?_, ?_, ?_, ?_, ?_, ?_, ?_, ?_, ?_, ?_, ?_, ?_, ?_, ?_⟩ <;> first | assumption | (go_simp; done)
  clear hK K
  try simp only [List.getElem_toArray, List.getElem_cons_zero, List.getElem_cons_succ, Act.put, List.setIfInBounds_toArray, List.set_cons_zero, List.set_cons_succ]
  refine wpAnyH_take (i := 19) (v := ?vq16x) rfl (by kernel_rfl) (by kernel_rfl) (by kernel_rfl) (fun _ _ _ h => h) (Or.inl ⟨by rfl, ?yq16x⟩) (by assumption) ?rq16x
  case yq16x =>
    intro w' hSw
    (try dsimp only at hSw)
    go_simp
    all_goals (try with_reducible rfl)
  try simp only [List.getElem_toArray, List.getElem_cons_zero, List.getElem_cons_succ, Act.put, List.setIfInBounds_toArray, List.set_cons_zero, List.set_cons_succ]
  refine wpAnyH_take (i := 20) (v := ?vq17x) rfl (by kernel_rfl) (by kernel_rfl) (by kernel_rfl) (fun _ _ _ h => h) (Or.inl ⟨by rfl, ?yq17x⟩) (by assumption) ?rq17x
  case yq17x =>
    intro w' hSw
    (try dsimp only at hSw)
    go_simp
    all_goals (try with_reducible rfl)
  try simp only [List.getElem_toArray, List.getElem_cons_zero, List.getElem_cons_succ, Act.put, List.setIfInBounds_toArray, List.set_cons_zero, List.set_cons_succ]
  refine wpAnyH_done (by kernel_rfl) ?_ _
  go_wp2
  go_ret
  exact ⟨rfl, (by repeat (with_reducible first | assumption | exact Below.refl _ _ | refine bl_alloc ?_ _ | refine bl_drewN ?_ _ | refine bl_drew ?_ | refine bl_ext ?_ _ _ | refine bl_then0 ?_ (by assumption)))⟩
set_option maxHeartbeats 4000000 in
theorem enters_hi (cf ce ff fa csp : Int) (ci cx cc : Value) (es : List SlotD) (ls : List ValD) (E L S : Option Addr) (ec lc sl sc : Nat) (hel : es.length ≤ 9223372036854775807) (hll : ls.length ≤ 9223372036854775807) (hsl : sl ≤ 9223372036854775807) (w : World) (hes : Els slotC 3 w E es) (hls : Els valC 2 w L ls) (hc : 8192 < csp) :
    Calls Try.prog 6 #[.agg #[.int .i64 cf, .int .i64 ce, ci, cx, cc, .slice E es.length ec, .int .i64 csp], .agg #[.int .i64 ff, .int .i64 fa, .slice L ls.length lc, .slice S sl sc]] w fun e w' => e = .returned (.bool true) ∧ Below w.heap.size w w' := by
  obtain ⟨R, SP, hv⟩ : ∃ R SP, entV (fitsB cf ce ff fa sl es ls) 8192 es ls = (R, SP) := ⟨_, _, rfl⟩
  obtain ⟨X, hx⟩ : ∃ X, entE (fitsB cf ce ff fa sl es ls) 8192 es = X := ⟨_, rfl⟩
  have hlen := entV_len (fitsB cf ce ff fa sl es ls) 8192 es ls
  rw [hv] at hlen
  have hR : R.length = 16 := hlen.1
  have hL : SP.length ≤ 9223372036854775807 := by have : SP.length ≤ 4096 := hlen.2; omega
  have HL := Lib.hid hL
  clear hlen hL
  have HV := Lib.hid hv
  have HX := Lib.hid hx
  clear hv hx
  have hc2 : decide (8192 < csp) = true := by simpa using hc
  go_enter Try.func6, Try.ntmps6
  go_wp2_with (first | (go_at_call 22; (with_reducible refine Calls.mono (enter_g cf ce ff fa 8192 ci cx cc es ls E L S ec lc sl sc hel hll hsl _ (Els.below hes (by repeat (with_reducible first | assumption | exact Below.refl _ _ | refine bl_alloc ?_ _ | refine bl_drewN ?_ _ | refine bl_drew ?_ | refine bl_ext ?_ _ _ | refine bl_then0 ?_ (by assumption)))) (Els.below hls (by repeat (with_reducible first | assumption | exact Below.refl _ _ | refine bl_alloc ?_ _ | refine bl_drewN ?_ _ | refine bl_drew ?_ | refine bl_ext ?_ _ _ | refine bl_then0 ?_ (by assumption)))) R SP X HV.out HX.out) ?_); rintro e w1 ⟨A1, c1, rfl, hi1, hb1⟩; obtain ⟨l1, d1, rfl⟩ := ext_of_below hb1; have HI1 := Lib.hid hi1; clear hi1 hb1) | (go_at_call 23; (with_reducible refine Calls.mono (renter_g cf ce ff fa 8192 ci cx cc es ls E L S ec lc sl sc hel hll hsl _ (Els.below hes (by repeat (with_reducible first | assumption | exact Below.refl _ _ | refine bl_alloc ?_ _ | refine bl_drewN ?_ _ | refine bl_drew ?_ | refine bl_ext ?_ _ _ | refine bl_then0 ?_ (by assumption)))) (Els.below hls (by repeat (with_reducible first | assumption | exact Below.refl _ _ | refine bl_alloc ?_ _ | refine bl_drewN ?_ _ | refine bl_drew ?_ | refine bl_ext ?_ _ _ | refine bl_then0 ?_ (by assumption)))) R SP X HV.out HX.out) ?_); rintro e w1 ⟨A2, c2, rfl, hi2, hb1⟩; obtain ⟨l2, d2, rfl⟩ := ext_of_below hb1; have HI2 := Lib.hid hi2; clear hi2 hb1))
  clear hc2
  have fa0 : w.heap.size < w.heap.size + 1 + 1 + l1.length := by omega
  have fa1 : w.heap.size < w.heap.size + 1 + 1 + l1.length + 1 := by omega
  have fa2 : w.heap.size < w.heap.size + 1 + 1 + l1.length + 1 + l2.length := by omega
  have fa3 : w.heap.size < w.heap.size + 1 + 1 + l1.length + 1 + l2.length + 1 := by omega
  have fb0 : w.heap.size + 1 < w.heap.size + 1 + 1 + l1.length := by omega
  have fb1 : w.heap.size + 1 < w.heap.size + 1 + 1 + l1.length + 1 := by omega
  have fb2 : w.heap.size + 1 < w.heap.size + 1 + 1 + l1.length + 1 + l2.length := by omega
  have fb3 : w.heap.size + 1 < w.heap.size + 1 + 1 + l1.length + 1 + l2.length + 1 := by omega
  have ga0 : w.heap.size + 1 + 1 + l1.length < w.heap.size + 1 + 1 + l1.length + 1 + l2.length := by omega
  have ga1 : w.heap.size + 1 + 1 + l1.length < w.heap.size + 1 + 1 + l1.length + 1 + l2.length + 1 := by omega
  refine wp_region_held_drew (S := (fun w' => w'.cell? ⟨w.heap.size, 0, none⟩ = some (.int .i64 cf) ∧ w'.cell? ⟨w.heap.size, 1, none⟩ = some (.int .i64 ce) ∧ w'.cell? ⟨w.heap.size, 2, none⟩ = some (ci) ∧ w'.cell? ⟨w.heap.size, 3, none⟩ = some (cx) ∧ w'.cell? ⟨w.heap.size, 4, none⟩ = some (cc) ∧ w'.cell? ⟨w.heap.size, 5, none⟩ = some (.slice E es.length ec) ∧ w'.cell? ⟨w.heap.size, 6, none⟩ = some (.int .i64 8192) ∧ w'.cell? ⟨w.heap.size + 1, 0, none⟩ = some (.int .i64 ff) ∧ w'.cell? ⟨w.heap.size + 1, 1, none⟩ = some (.int .i64 fa) ∧ w'.cell? ⟨w.heap.size + 1, 2, none⟩ = some (.slice L ls.length lc) ∧ w'.cell? ⟨w.heap.size + 1, 3, none⟩ = some (.slice S sl sc) ∧ isRw w' (w.heap.size + 1 + 1 + l1.length) 17 = true ∧ rwAt w' (w.heap.size + 1 + 1 + l1.length) = regsC R (.slice A1 SP.length c1) ∧ isRw w' (w.heap.size + 1 + 1 + l1.length + 1 + l2.length) 17 = true ∧ rwAt w' (w.heap.size + 1 + 1 + l1.length + 1 + l2.length) = regsC R (.slice A2 SP.length c2))) (by kernel_rfl) ?_ (fun hHeld => ?_)
  · refine ⟨?_, ?_, ?_, ?_, ?_, ?_, ?_, ?_, ?_, ?_, ?_, ?_, ?_, ?_, ?_⟩ <;> first | assumption | (go_simp; done)
  refine wpAnyH_ready (rs := [0]) (by kernel_rfl) (by simp) (AllReadyH.cons rfl (fun K hK => ?_) AllReadyH.nil)
  go_simp
  go_wp2_with (first | (go_at_call 13; (with_reducible refine Calls.mono (live_calls _) ?_); rintro e w1 ⟨rfl, hb1⟩; obtain ⟨l3, d3, rfl⟩ := ext_of_below hb1; clear hb1) | (go_at_call 24; (with_reducible refine Calls.mono (fits_calls cf ce ff fa 8192 ci cx cc es ls E L S ec lc sl sc hel hll hsl _ (Els.below hes (by repeat (with_reducible first | assumption | exact Below.refl _ _ | refine bl_alloc ?_ _ | refine bl_drewN ?_ _ | refine bl_drew ?_ | refine bl_ext ?_ _ _ | refine bl_then0 ?_ (by assumption)))) (Els.below hls (by repeat (with_reducible first | assumption | exact Below.refl _ _ | refine bl_alloc ?_ _ | refine bl_drewN ?_ _ | refine bl_drew ?_ | refine bl_ext ?_ _ _ | refine bl_then0 ?_ (by assumption))))) ?_); rintro e w1 ⟨rfl, hb1⟩; obtain ⟨l4, d4, rfl⟩ := ext_of_below hb1; clear hb1) | (go_at_call 25; (with_reducible refine Calls.mono (rfits_calls cf ce ff fa 8192 ci cx cc es ls E L S ec lc sl sc hel hll hsl _ (Els.below hes (by repeat (with_reducible first | assumption | exact Below.refl _ _ | refine bl_alloc ?_ _ | refine bl_drewN ?_ _ | refine bl_drew ?_ | refine bl_ext ?_ _ _ | refine bl_then0 ?_ (by assumption)))) (Els.below hls (by repeat (with_reducible first | assumption | exact Below.refl _ _ | refine bl_alloc ?_ _ | refine bl_drewN ?_ _ | refine bl_drew ?_ | refine bl_ext ?_ _ _ | refine bl_then0 ?_ (by assumption))))) ?_); rintro e w1 ⟨rfl, hb1⟩; obtain ⟨l5, d5, rfl⟩ := ext_of_below hb1; clear hb1) | (go_at_call 14; (with_reducible refine Calls.mono (same_regs' R SP A1 A2 c1 c2 _ hR HL.out rfl _ (Ints.below HI1.out (by repeat (with_reducible first | assumption | exact Below.refl _ _ | refine bl_alloc ?_ _ | refine bl_drewN ?_ _ | refine bl_drew ?_ | refine bl_ext ?_ _ _ | refine bl_then0 ?_ (by assumption)))) (Ints.below HI2.out (by repeat (with_reducible first | assumption | exact Below.refl _ _ | refine bl_alloc ?_ _ | refine bl_drewN ?_ _ | refine bl_drew ?_ | refine bl_ext ?_ _ _ | refine bl_then0 ?_ (by assumption))))) ?_); rintro e w1 ⟨rfl, hb1⟩; obtain ⟨l6, d6, rfl⟩ := ext_of_below hb1; clear hb1))
  clear hHeld
  refine hK.out _ _ ?_ (fun hHeld => ?_)
  · refine ⟨?_, ?_, ?_, ?_, ?_, ?_, ?_, ?_, ?_, ?_, ?_, ?_, ?_, ?_, ?_⟩ <;> first | assumption | (go_simp; done)
  clear hK K
  try simp only [List.getElem_toArray, List.getElem_cons_zero, List.getElem_cons_succ, Act.put, List.setIfInBounds_toArray, List.set_cons_zero, List.set_cons_succ]
  refine wpAnyH_take (i := 1) (v := ?vq18x) rfl (by kernel_rfl) (by kernel_rfl) (by kernel_rfl) (fun _ _ _ h => h) (Or.inl ⟨by rfl, ?yq18x⟩) (by assumption) ?rq18x
  case yq18x =>
    intro w' hSw
    (try dsimp only at hSw)
    go_simp
    all_goals (try with_reducible rfl)
  try simp only [List.getElem_toArray, List.getElem_cons_zero, List.getElem_cons_succ, Act.put, List.setIfInBounds_toArray, List.set_cons_zero, List.set_cons_succ]
  refine wpAnyH_take (i := 2) (v := ?vq19x) rfl (by kernel_rfl) (by kernel_rfl) (by kernel_rfl) (fun _ _ _ h => h) (Or.inl ⟨by rfl, ?yq19x⟩) (by assumption) ?rq19x
  case yq19x =>
    intro w' hSw
    (try dsimp only at hSw)
    go_simp
    all_goals (try with_reducible rfl)
  try simp only [List.getElem_toArray, List.getElem_cons_zero, List.getElem_cons_succ, Act.put, List.setIfInBounds_toArray, List.set_cons_zero, List.set_cons_succ]
  refine wpAnyH_take (i := 3) (v := ?vq20x) rfl (by kernel_rfl) (by kernel_rfl) (by kernel_rfl) (fun _ _ _ h => h) (Or.inl ⟨by rfl, ?yq20x⟩) (by assumption) ?rq20x
  case yq20x =>
    intro w' hSw
    (try dsimp only at hSw)
    go_simp
    all_goals (try with_reducible rfl)
  try simp only [List.getElem_toArray, List.getElem_cons_zero, List.getElem_cons_succ, Act.put, List.setIfInBounds_toArray, List.set_cons_zero, List.set_cons_succ]
  refine wpAnyH_take (i := 5) (v := ?vq21x) rfl (by kernel_rfl) (by kernel_rfl) (by kernel_rfl) (fun _ _ _ h => h) (Or.inl ⟨by rfl, ?yq21x⟩) (by assumption) ?rq21x
  case yq21x =>
    intro w' hSw
    (try dsimp only at hSw)
    go_simp
    all_goals (try with_reducible rfl)
  try simp only [List.getElem_toArray, List.getElem_cons_zero, List.getElem_cons_succ, Act.put, List.setIfInBounds_toArray, List.set_cons_zero, List.set_cons_succ]
  refine wpAnyH_take (i := 6) (v := ?vq22x) rfl (by kernel_rfl) (by kernel_rfl) (by kernel_rfl) (fun _ _ _ h => h) (Or.inl ⟨by rfl, ?yq22x⟩) (by assumption) ?rq22x
  case yq22x =>
    intro w' hSw
    (try dsimp only at hSw)
    go_simp
    all_goals (try with_reducible rfl)
  try simp only [List.getElem_toArray, List.getElem_cons_zero, List.getElem_cons_succ, Act.put, List.setIfInBounds_toArray, List.set_cons_zero, List.set_cons_succ]
  refine wpAnyH_ready (rs := [4]) (by kernel_rfl) (by simp) (AllReadyH.cons rfl (fun K hK => ?_) AllReadyH.nil)
  go_simp
  go_wp2_with (first | (go_at_call 13; (with_reducible refine Calls.mono (live_calls _) ?_); rintro e w1 ⟨rfl, hb1⟩; obtain ⟨l3, d3, rfl⟩ := ext_of_below hb1; clear hb1) | (go_at_call 24; (with_reducible refine Calls.mono (fits_calls cf ce ff fa 8192 ci cx cc es ls E L S ec lc sl sc hel hll hsl _ (Els.below hes (by repeat (with_reducible first | assumption | exact Below.refl _ _ | refine bl_alloc ?_ _ | refine bl_drewN ?_ _ | refine bl_drew ?_ | refine bl_ext ?_ _ _ | refine bl_then0 ?_ (by assumption)))) (Els.below hls (by repeat (with_reducible first | assumption | exact Below.refl _ _ | refine bl_alloc ?_ _ | refine bl_drewN ?_ _ | refine bl_drew ?_ | refine bl_ext ?_ _ _ | refine bl_then0 ?_ (by assumption))))) ?_); rintro e w1 ⟨rfl, hb1⟩; obtain ⟨l4, d4, rfl⟩ := ext_of_below hb1; clear hb1) | (go_at_call 25; (with_reducible refine Calls.mono (rfits_calls cf ce ff fa 8192 ci cx cc es ls E L S ec lc sl sc hel hll hsl _ (Els.below hes (by repeat (with_reducible first | assumption | exact Below.refl _ _ | refine bl_alloc ?_ _ | refine bl_drewN ?_ _ | refine bl_drew ?_ | refine bl_ext ?_ _ _ | refine bl_then0 ?_ (by assumption)))) (Els.below hls (by repeat (with_reducible first | assumption | exact Below.refl _ _ | refine bl_alloc ?_ _ | refine bl_drewN ?_ _ | refine bl_drew ?_ | refine bl_ext ?_ _ _ | refine bl_then0 ?_ (by assumption))))) ?_); rintro e w1 ⟨rfl, hb1⟩; obtain ⟨l5, d5, rfl⟩ := ext_of_below hb1; clear hb1) | (go_at_call 14; (with_reducible refine Calls.mono (same_regs' R SP A1 A2 c1 c2 _ hR HL.out rfl _ (Ints.below HI1.out (by repeat (with_reducible first | assumption | exact Below.refl _ _ | refine bl_alloc ?_ _ | refine bl_drewN ?_ _ | refine bl_drew ?_ | refine bl_ext ?_ _ _ | refine bl_then0 ?_ (by assumption)))) (Ints.below HI2.out (by repeat (with_reducible first | assumption | exact Below.refl _ _ | refine bl_alloc ?_ _ | refine bl_drewN ?_ _ | refine bl_drew ?_ | refine bl_ext ?_ _ _ | refine bl_then0 ?_ (by assumption))))) ?_); rintro e w1 ⟨rfl, hb1⟩; obtain ⟨l6, d6, rfl⟩ := ext_of_below hb1; clear hb1))
  clear hHeld
  refine hK.out _ _ ?_ (fun hHeld => ?_)
  · refine ⟨?_, ?_, ?_, ?_, ?_, ?_, ?_, ?_, ?_, ?_, ?_, ?_, ?_, ?_, ?_⟩ <;> first | assumption | (go_simp; done)
  clear hK K
  try simp only [List.getElem_toArray, List.getElem_cons_zero, List.getElem_cons_succ, Act.put, List.setIfInBounds_toArray, List.set_cons_zero, List.set_cons_succ]
  refine wpAnyH_ready (rs := [7]) (by kernel_rfl) (by simp) (AllReadyH.cons rfl (fun K hK => ?_) AllReadyH.nil)
  go_simp
  go_wp2_with (first | (go_at_call 13; (with_reducible refine Calls.mono (live_calls _) ?_); rintro e w1 ⟨rfl, hb1⟩; obtain ⟨l3, d3, rfl⟩ := ext_of_below hb1; clear hb1) | (go_at_call 24; (with_reducible refine Calls.mono (fits_calls cf ce ff fa 8192 ci cx cc es ls E L S ec lc sl sc hel hll hsl _ (Els.below hes (by repeat (with_reducible first | assumption | exact Below.refl _ _ | refine bl_alloc ?_ _ | refine bl_drewN ?_ _ | refine bl_drew ?_ | refine bl_ext ?_ _ _ | refine bl_then0 ?_ (by assumption)))) (Els.below hls (by repeat (with_reducible first | assumption | exact Below.refl _ _ | refine bl_alloc ?_ _ | refine bl_drewN ?_ _ | refine bl_drew ?_ | refine bl_ext ?_ _ _ | refine bl_then0 ?_ (by assumption))))) ?_); rintro e w1 ⟨rfl, hb1⟩; obtain ⟨l4, d4, rfl⟩ := ext_of_below hb1; clear hb1) | (go_at_call 25; (with_reducible refine Calls.mono (rfits_calls cf ce ff fa 8192 ci cx cc es ls E L S ec lc sl sc hel hll hsl _ (Els.below hes (by repeat (with_reducible first | assumption | exact Below.refl _ _ | refine bl_alloc ?_ _ | refine bl_drewN ?_ _ | refine bl_drew ?_ | refine bl_ext ?_ _ _ | refine bl_then0 ?_ (by assumption)))) (Els.below hls (by repeat (with_reducible first | assumption | exact Below.refl _ _ | refine bl_alloc ?_ _ | refine bl_drewN ?_ _ | refine bl_drew ?_ | refine bl_ext ?_ _ _ | refine bl_then0 ?_ (by assumption))))) ?_); rintro e w1 ⟨rfl, hb1⟩; obtain ⟨l5, d5, rfl⟩ := ext_of_below hb1; clear hb1) | (go_at_call 14; (with_reducible refine Calls.mono (same_regs' R SP A1 A2 c1 c2 _ hR HL.out rfl _ (Ints.below HI1.out (by repeat (with_reducible first | assumption | exact Below.refl _ _ | refine bl_alloc ?_ _ | refine bl_drewN ?_ _ | refine bl_drew ?_ | refine bl_ext ?_ _ _ | refine bl_then0 ?_ (by assumption)))) (Ints.below HI2.out (by repeat (with_reducible first | assumption | exact Below.refl _ _ | refine bl_alloc ?_ _ | refine bl_drewN ?_ _ | refine bl_drew ?_ | refine bl_ext ?_ _ _ | refine bl_then0 ?_ (by assumption))))) ?_); rintro e w1 ⟨rfl, hb1⟩; obtain ⟨l6, d6, rfl⟩ := ext_of_below hb1; clear hb1))
  clear hHeld
  refine hK.out _ _ ?_ (fun hHeld => ?_)
  · refine ⟨?_, ?_, ?_, ?_, ?_, ?_, ?_, ?_, ?_, ?_, ?_, ?_, ?_, ?_, ?_⟩ <;> first | assumption | (go_simp; done)
  clear hK K
  try simp only [List.getElem_toArray, List.getElem_cons_zero, List.getElem_cons_succ, Act.put, List.setIfInBounds_toArray, List.set_cons_zero, List.set_cons_succ]
  refine wpAnyH_take (i := 8) (v := ?vq23x) rfl (by kernel_rfl) (by kernel_rfl) (by kernel_rfl) (fun _ _ _ h => h) (Or.inl ⟨by rfl, ?yq23x⟩) (by assumption) ?rq23x
  case yq23x =>
    intro w' hSw
    (try dsimp only at hSw)
    go_simp
    all_goals (try with_reducible rfl)
  try simp only [List.getElem_toArray, List.getElem_cons_zero, List.getElem_cons_succ, Act.put, List.setIfInBounds_toArray, List.set_cons_zero, List.set_cons_succ]
  refine wpAnyH_take (i := 9) (v := ?vq24x) rfl (by kernel_rfl) (by kernel_rfl) (by kernel_rfl) (fun _ _ _ h => h) (Or.inl ⟨by rfl, ?yq24x⟩) (by assumption) ?rq24x
  case yq24x =>
    intro w' hSw
    (try dsimp only at hSw)
    go_simp
    all_goals (try with_reducible rfl)
  try simp only [List.getElem_toArray, List.getElem_cons_zero, List.getElem_cons_succ, Act.put, List.setIfInBounds_toArray, List.set_cons_zero, List.set_cons_succ]
  refine wpAnyH_take (i := 10) (v := ?vq25x) rfl (by kernel_rfl) (by kernel_rfl) (by kernel_rfl) (fun _ _ _ h => h) (Or.inl ⟨by rfl, ?yq25x⟩) (by assumption) ?rq25x
  case yq25x =>
    intro w' hSw
    (try dsimp only at hSw)
    go_simp
    all_goals (try with_reducible rfl)
  try simp only [List.getElem_toArray, List.getElem_cons_zero, List.getElem_cons_succ, Act.put, List.setIfInBounds_toArray, List.set_cons_zero, List.set_cons_succ]
  refine wpAnyH_take (i := 11) (v := ?vq26x) rfl (by kernel_rfl) (by kernel_rfl) (by kernel_rfl) (fun _ _ _ h => h) (Or.inl ⟨by rfl, ?yq26x⟩) (by assumption) ?rq26x
  case yq26x =>
    intro w' hSw
    (try dsimp only at hSw)
    go_simp
    all_goals (try with_reducible rfl)
  try simp only [List.getElem_toArray, List.getElem_cons_zero, List.getElem_cons_succ, Act.put, List.setIfInBounds_toArray, List.set_cons_zero, List.set_cons_succ]
  refine wpAnyH_take (i := 12) (v := ?vq27x) rfl (by kernel_rfl) (by kernel_rfl) (by kernel_rfl) (fun _ _ _ h => h) (Or.inl ⟨by rfl, ?yq27x⟩) (by assumption) ?rq27x
  case yq27x =>
    intro w' hSw
    (try dsimp only at hSw)
    go_simp
    all_goals (try with_reducible rfl)
  try simp only [List.getElem_toArray, List.getElem_cons_zero, List.getElem_cons_succ, Act.put, List.setIfInBounds_toArray, List.set_cons_zero, List.set_cons_succ]
  refine wpAnyH_take (i := 13) (v := ?vq28x) rfl (by kernel_rfl) (by kernel_rfl) (by kernel_rfl) (fun _ _ _ h => h) (Or.inl ⟨by rfl, ?yq28x⟩) (by assumption) ?rq28x
  case yq28x =>
    intro w' hSw
    (try dsimp only at hSw)
    go_simp
    all_goals (try with_reducible rfl)
  try simp only [List.getElem_toArray, List.getElem_cons_zero, List.getElem_cons_succ, Act.put, List.setIfInBounds_toArray, List.set_cons_zero, List.set_cons_succ]
  refine wpAnyH_take (i := 14) (v := ?vq29x) rfl (by kernel_rfl) (by kernel_rfl) (by kernel_rfl) (fun _ _ _ h => h) (Or.inl ⟨by rfl, ?yq29x⟩) (by assumption) ?rq29x
  case yq29x =>
    intro w' hSw
    (try dsimp only at hSw)
    go_simp
    all_goals (try with_reducible rfl)
  try simp only [List.getElem_toArray, List.getElem_cons_zero, List.getElem_cons_succ, Act.put, List.setIfInBounds_toArray, List.set_cons_zero, List.set_cons_succ]
  refine wpAnyH_take (i := 15) (v := ?vq30x) rfl (by kernel_rfl) (by kernel_rfl) (by kernel_rfl) (fun _ _ _ h => h) (Or.inl ⟨by rfl, ?yq30x⟩) (by assumption) ?rq30x
  case yq30x =>
    intro w' hSw
    (try dsimp only at hSw)
    go_simp
    all_goals (try with_reducible rfl)
  try simp only [List.getElem_toArray, List.getElem_cons_zero, List.getElem_cons_succ, Act.put, List.setIfInBounds_toArray, List.set_cons_zero, List.set_cons_succ]
  refine wpAnyH_take (i := 16) (v := .agg (regsC R (.slice A1 SP.length c1))) rfl (by kernel_rfl) (by kernel_rfl) (by kernel_rfl) (fun _ _ _ h => h) (Or.inl ⟨by rfl, ?yq31x⟩) (by assumption) ?rq31x
  case yq31x =>
    intro w' hSw
    exact (xld27 rfl hSw.2.2.2.2.2.2.2.2.2.2.2.1).trans (by show Result.ok (Next.value (.agg (rwAt w' (w.heap.size + 1 + 1 + l1.length)))) w' = _; rw [hSw.2.2.2.2.2.2.2.2.2.2.2.2.1])
  try simp only [List.getElem_toArray, List.getElem_cons_zero, List.getElem_cons_succ, Act.put, List.setIfInBounds_toArray, List.set_cons_zero, List.set_cons_succ]
  refine wpAnyH_take (i := 17) (v := .agg (regsC R (.slice A2 SP.length c2))) rfl (by kernel_rfl) (by kernel_rfl) (by kernel_rfl) (fun _ _ _ h => h) (Or.inl ⟨by rfl, ?yq32x⟩) (by assumption) ?rq32x
  case yq32x =>
    intro w' hSw
    exact (xld27 rfl hSw.2.2.2.2.2.2.2.2.2.2.2.2.2.1).trans (by show Result.ok (Next.value (.agg (rwAt w' (w.heap.size + 1 + 1 + l1.length + 1 + l2.length)))) w' = _; rw [hSw.2.2.2.2.2.2.2.2.2.2.2.2.2.2])
  try simp only [List.getElem_toArray, List.getElem_cons_zero, List.getElem_cons_succ, Act.put, List.setIfInBounds_toArray, List.set_cons_zero, List.set_cons_succ]
  refine wpAnyH_ready (rs := [18]) (by kernel_rfl) (by simp) (AllReadyH.cons rfl (fun K hK => ?_) AllReadyH.nil)
  go_simp
  go_wp2_with (first | (go_at_call 13; (with_reducible refine Calls.mono (live_calls _) ?_); rintro e w1 ⟨rfl, hb1⟩; obtain ⟨l3, d3, rfl⟩ := ext_of_below hb1; clear hb1) | (go_at_call 24; (with_reducible refine Calls.mono (fits_calls cf ce ff fa 8192 ci cx cc es ls E L S ec lc sl sc hel hll hsl _ (Els.below hes (by repeat (with_reducible first | assumption | exact Below.refl _ _ | refine bl_alloc ?_ _ | refine bl_drewN ?_ _ | refine bl_drew ?_ | refine bl_ext ?_ _ _ | refine bl_then0 ?_ (by assumption)))) (Els.below hls (by repeat (with_reducible first | assumption | exact Below.refl _ _ | refine bl_alloc ?_ _ | refine bl_drewN ?_ _ | refine bl_drew ?_ | refine bl_ext ?_ _ _ | refine bl_then0 ?_ (by assumption))))) ?_); rintro e w1 ⟨rfl, hb1⟩; obtain ⟨l4, d4, rfl⟩ := ext_of_below hb1; clear hb1) | (go_at_call 25; (with_reducible refine Calls.mono (rfits_calls cf ce ff fa 8192 ci cx cc es ls E L S ec lc sl sc hel hll hsl _ (Els.below hes (by repeat (with_reducible first | assumption | exact Below.refl _ _ | refine bl_alloc ?_ _ | refine bl_drewN ?_ _ | refine bl_drew ?_ | refine bl_ext ?_ _ _ | refine bl_then0 ?_ (by assumption)))) (Els.below hls (by repeat (with_reducible first | assumption | exact Below.refl _ _ | refine bl_alloc ?_ _ | refine bl_drewN ?_ _ | refine bl_drew ?_ | refine bl_ext ?_ _ _ | refine bl_then0 ?_ (by assumption))))) ?_); rintro e w1 ⟨rfl, hb1⟩; obtain ⟨l5, d5, rfl⟩ := ext_of_below hb1; clear hb1) | (go_at_call 14; (with_reducible refine Calls.mono (same_regs' R SP A1 A2 c1 c2 _ hR HL.out rfl _ (Ints.below HI1.out (by repeat (with_reducible first | assumption | exact Below.refl _ _ | refine bl_alloc ?_ _ | refine bl_drewN ?_ _ | refine bl_drew ?_ | refine bl_ext ?_ _ _ | refine bl_then0 ?_ (by assumption)))) (Ints.below HI2.out (by repeat (with_reducible first | assumption | exact Below.refl _ _ | refine bl_alloc ?_ _ | refine bl_drewN ?_ _ | refine bl_drew ?_ | refine bl_ext ?_ _ _ | refine bl_then0 ?_ (by assumption))))) ?_); rintro e w1 ⟨rfl, hb1⟩; obtain ⟨l6, d6, rfl⟩ := ext_of_below hb1; clear hb1))
  clear hHeld
  refine hK.out _ _ ?_ (fun hHeld => ?_)
  · refine ⟨?_, ?_, ?_, ?_, ?_, ?_, ?_, ?_, ?_, ?_, ?_, ?_, ?_, ?_, ?_⟩ <;> first | assumption | (go_simp; done)
  clear hK K
  try simp only [List.getElem_toArray, List.getElem_cons_zero, List.getElem_cons_succ, Act.put, List.setIfInBounds_toArray, List.set_cons_zero, List.set_cons_succ]
  refine wpAnyH_take (i := 19) (v := ?vq33x) rfl (by kernel_rfl) (by kernel_rfl) (by kernel_rfl) (fun _ _ _ h => h) (Or.inl ⟨by rfl, ?yq33x⟩) (by assumption) ?rq33x
  case yq33x =>
    intro w' hSw
    (try dsimp only at hSw)
    go_simp
    all_goals (try with_reducible rfl)
  try simp only [List.getElem_toArray, List.getElem_cons_zero, List.getElem_cons_succ, Act.put, List.setIfInBounds_toArray, List.set_cons_zero, List.set_cons_succ]
  refine wpAnyH_take (i := 20) (v := ?vq34x) rfl (by kernel_rfl) (by kernel_rfl) (by kernel_rfl) (fun _ _ _ h => h) (Or.inl ⟨by rfl, ?yq34x⟩) (by assumption) ?rq34x
  case yq34x =>
    intro w' hSw
    (try dsimp only at hSw)
    go_simp
    all_goals (try with_reducible rfl)
  try simp only [List.getElem_toArray, List.getElem_cons_zero, List.getElem_cons_succ, Act.put, List.setIfInBounds_toArray, List.set_cons_zero, List.set_cons_succ]
  refine wpAnyH_done (by kernel_rfl) ?_ _
  go_wp2
  go_ret
  exact ⟨rfl, (by repeat (with_reducible first | assumption | exact Below.refl _ _ | refine bl_alloc ?_ _ | refine bl_drewN ?_ _ | refine bl_drew ?_ | refine bl_ext ?_ _ _ | refine bl_then0 ?_ (by assumption)))⟩
theorem enters_calls (cf ce ff fa csp : Int) (ci cx cc : Value) (es : List SlotD) (ls : List ValD) (E L S : Option Addr) (ec lc sl sc : Nat) (hel : es.length ≤ 9223372036854775807) (hll : ls.length ≤ 9223372036854775807) (hsl : sl ≤ 9223372036854775807) (w : World) (hes : Els slotC 3 w E es) (hls : Els valC 2 w L ls) :
    Calls Try.prog 6 #[.agg #[.int .i64 cf, .int .i64 ce, ci, cx, cc, .slice E es.length ec, .int .i64 csp], .agg #[.int .i64 ff, .int .i64 fa, .slice L ls.length lc, .slice S sl sc]] w fun e w' => e = .returned (.bool true) ∧ Below w.heap.size w w' := by
  by_cases h : csp ≤ 8192
  · exact enters_lo cf ce ff fa csp ci cx cc es ls E L S ec lc sl sc hel hll hsl w hes hls h
  · exact enters_hi cf ce ff fa csp ci cx cc es ls E L S ec lc sl sc hel hll hsl w hes hls (by omega)
end Go.Proofs.Ytngpfbcjmlpplaa.M
