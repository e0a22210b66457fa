/- The walks: each function of layer 5 and of its reference returns what the Lean function of the text before says. -/
import Derived.Test.YtlnbekmlppmmmaaA1
import Derived.Test.YtlnbekmlppmmmaaRows
import Derived.WalkKit
import Derived.ProofKit
import Derived.OpenShut
import Derived.BigQuiet
import Derived.Deep.QuietTactic
namespace Go.Proofs.Ytlnbekmlppmmmaa.Ar
open Go.RowKit
set_option linter.unusedVariables false
set_option linter.unusedSimpArgs false
attribute [local go_sem] u64_t256 u64_t64 u64_t32 u64_t16 u64_tw w64_m256 w64_m16 w64_m32 and63 and31

theorem Gr.trans {a b c : World} (h : Grown a b) (g : Grown b c) : Grown a c :=
  ⟨World.keptBut_trans h.1 (World.keptBut_mono (fun _ f => f.elim) g.1), fun x => (g.2.1 x).trans (h.2.1 x), Nat.le_trans h.2.2 g.2.2⟩
theorem Gr.drewN {a b : World} (h : Grown a b) (n : Nat) : Grown a (b.drewN n) := by
  induction n generalizing b with
  | zero => exact h
  | succ n ih => rw [← World.drew_drewN]; exact ih (Grown.drew h)

theorem wrap_calls (a : Int) (w : World) : Calls Try.prog 11 #[.int .i64 a] w fun e w' => e = .returned (.int .i64 (wr a)) ∧ Grown w w' := by
  go_enter Try.func11, Try.ntmps11
  go_wp2
  go_ret
  exact ⟨ret_int (by unfold wr wrap64 wrap32; omega), (by repeat (with_reducible first | assumption | exact Grown.refl _ | apply Grown.drew | apply Gr.drewN | apply Grown.alloc | (refine Grown.setCell ?_ (by simp) _) | refine Gr.trans ?_ (by assumption)))⟩
theorem rwrap_calls (a : Int) (w : World) : Calls Try.prog 12 #[.int .i64 a] w fun e w' => e = .returned (.int .i64 (wr a)) ∧ Grown w w' := by
  by_cases h : 2147483648 ≤ a % 4294967296
  · go_enter Try.func12, Try.ntmps12
    go_wp2
    go_ret
    exact ⟨ret_int (by unfold wr wrap32; (try unfold wrap64); (try simp only [IntKind.wrap, IntKind.bits, IntKind.signed]); omega), (by repeat (with_reducible first | assumption | exact Grown.refl _ | apply Grown.drew | apply Gr.drewN | apply Grown.alloc | (refine Grown.setCell ?_ (by simp) _) | refine Gr.trans ?_ (by assumption)))⟩
  · go_enter Try.func12, Try.ntmps12
    go_wp2
    go_ret
    exact ⟨ret_int (by unfold wr wrap32; (try unfold wrap64); (try simp only [IntKind.wrap, IntKind.bits, IntKind.signed]); omega), (by repeat (with_reducible first | assumption | exact Grown.refl _ | apply Grown.drew | apply Gr.drewN | apply Grown.alloc | (refine Grown.setCell ?_ (by simp) _) | refine Gr.trans ?_ (by assumption)))⟩
theorem narrow_calls (k a : Int) (ha : -9223372036854775808 ≤ a) (ha' : a ≤ 9223372036854775807) (w : World) : Calls Try.prog 13 #[.int .i64 k, .int .i64 a] w fun e w' => e = .returned (.int .i64 (narV k a)) ∧ Grown w w' := by
  have hc : k = 1 ∨ k = 2 ∨ k = 3 ∨ (k ≠ 1 ∧ k ≠ 2 ∧ k ≠ 3) := by omega
  rcases hc with rfl | rfl | rfl | ⟨h1, h2, h3⟩
  · go_enter Try.func13, Try.ntmps13
    go_wp2
    go_ret
    exact ⟨ret_int (by (try unfold wrap64); (try simp [IntKind.wrap, IntKind.bits, IntKind.signed, narV]); (try omega)), (by repeat (with_reducible first | assumption | exact Grown.refl _ | apply Grown.drew | apply Gr.drewN | apply Grown.alloc | (refine Grown.setCell ?_ (by simp) _) | refine Gr.trans ?_ (by assumption)))⟩
  · go_enter Try.func13, Try.ntmps13
    go_wp2
    go_ret
    exact ⟨ret_int (by (try unfold wrap64); (try simp [IntKind.wrap, IntKind.bits, IntKind.signed, narV]); (try omega)), (by repeat (with_reducible first | assumption | exact Grown.refl _ | apply Grown.drew | apply Gr.drewN | apply Grown.alloc | (refine Grown.setCell ?_ (by simp) _) | refine Gr.trans ?_ (by assumption)))⟩
  · go_enter Try.func13, Try.ntmps13
    go_wp2
    go_ret
    exact ⟨ret_int (by (try unfold wrap64); (try simp [IntKind.wrap, IntKind.bits, IntKind.signed, narV]); (try omega)), (by repeat (with_reducible first | assumption | exact Grown.refl _ | apply Grown.drew | apply Gr.drewN | apply Grown.alloc | (refine Grown.setCell ?_ (by simp) _) | refine Gr.trans ?_ (by assumption)))⟩
  · go_enter Try.func13, Try.ntmps13
    go_wp2
    go_ret
    exact ⟨ret_int (by simp [narV, h1, h2, h3]), (by repeat (with_reducible first | assumption | exact Grown.refl _ | apply Grown.drew | apply Gr.drewN | apply Grown.alloc | (refine Grown.setCell ?_ (by simp) _) | refine Gr.trans ?_ (by assumption)))⟩
theorem rnarrow_calls (k a : Int) (ha : -9223372036854775808 ≤ a) (ha' : a ≤ 9223372036854775807) (w : World) : Calls Try.prog 14 #[.int .i64 k, .int .i64 a] w fun e w' => e = .returned (.int .i64 (narV k a)) ∧ Grown w w' := by
  have hc : k = 1 ∨ k = 2 ∨ k = 3 ∨ (k ≠ 1 ∧ k ≠ 2 ∧ k ≠ 3) := by omega
  rcases hc with rfl | rfl | rfl | ⟨h1, h2, h3⟩
  · by_cases h : 128 ≤ a % 256
    · go_enter Try.func14, Try.ntmps14
      go_wp2
      go_ret
      exact ⟨ret_int (by (try unfold wrap64); (try simp [IntKind.wrap, IntKind.bits, IntKind.signed, narV]); (try omega)), (by repeat (with_reducible first | assumption | exact Grown.refl _ | apply Grown.drew | apply Gr.drewN | apply Grown.alloc | (refine Grown.setCell ?_ (by simp) _) | refine Gr.trans ?_ (by assumption)))⟩
    · go_enter Try.func14, Try.ntmps14
      go_wp2
      go_ret
      exact ⟨ret_int (by (try unfold wrap64); (try simp [IntKind.wrap, IntKind.bits, IntKind.signed, narV]); (try omega)), (by repeat (with_reducible first | assumption | exact Grown.refl _ | apply Grown.drew | apply Gr.drewN | apply Grown.alloc | (refine Grown.setCell ?_ (by simp) _) | refine Gr.trans ?_ (by assumption)))⟩
  · go_enter Try.func14, Try.ntmps14
    go_wp2
    go_ret
    exact ⟨ret_int (by (try unfold wrap64); (try simp [IntKind.wrap, IntKind.bits, IntKind.signed, narV]); (try omega)), (by repeat (with_reducible first | assumption | exact Grown.refl _ | apply Grown.drew | apply Gr.drewN | apply Grown.alloc | (refine Grown.setCell ?_ (by simp) _) | refine Gr.trans ?_ (by assumption)))⟩
  · by_cases h : 32768 ≤ a % 65536
    · go_enter Try.func14, Try.ntmps14
      go_wp2
      go_ret
      exact ⟨ret_int (by (try unfold wrap64); (try simp [IntKind.wrap, IntKind.bits, IntKind.signed, narV]); (try omega)), (by repeat (with_reducible first | assumption | exact Grown.refl _ | apply Grown.drew | apply Gr.drewN | apply Grown.alloc | (refine Grown.setCell ?_ (by simp) _) | refine Gr.trans ?_ (by assumption)))⟩
    · go_enter Try.func14, Try.ntmps14
      go_wp2
      go_ret
      exact ⟨ret_int (by (try unfold wrap64); (try simp [IntKind.wrap, IntKind.bits, IntKind.signed, narV]); (try omega)), (by repeat (with_reducible first | assumption | exact Grown.refl _ | apply Grown.drew | apply Gr.drewN | apply Grown.alloc | (refine Grown.setCell ?_ (by simp) _) | refine Gr.trans ?_ (by assumption)))⟩
  · go_enter Try.func14, Try.ntmps14
    go_wp2
    go_ret
    exact ⟨ret_int (by simp [narV, h1, h2, h3]), (by repeat (with_reducible first | assumption | exact Grown.refl _ | apply Grown.drew | apply Gr.drewN | apply Grown.alloc | (refine Grown.setCell ?_ (by simp) _) | refine Gr.trans ?_ (by assumption)))⟩
theorem div_calls (a b : Int) (hb : b ≠ 0) (w : World) : Calls Try.prog 32 #[.int .i64 a, .int .i64 b] w fun e w' => e = .returned (.tuple #[.int .i64 (divV a b), .int .i64 (remV a b)]) ∧ Grown w w' := by
  by_cases h : b = -1
  · subst h
    go_enter Try.func32, Try.ntmps32
    go_wp2
    go_ret2
    exact ⟨ret_ii (by simp [divV]; try (unfold wrap64; simp [IntKind.wrap, IntKind.bits, IntKind.signed]; omega)) (by simp [remV]), (by repeat (with_reducible first | assumption | exact Grown.refl _ | apply Grown.drew | apply Gr.drewN | apply Grown.alloc | (refine Grown.setCell ?_ (by simp) _) | refine Gr.trans ?_ (by assumption)))⟩
  · go_enter Try.func32, Try.ntmps32
    go_wp2
    go_quiet (fail)
    go_wp2
    go_ret2
    exact ⟨ret_ii (by simp [divV, h]) (by simp [remV, h]), (by repeat (with_reducible first | assumption | exact Grown.refl _ | apply Grown.drew | apply Gr.drewN | apply Grown.alloc | (refine Grown.setCell ?_ (by simp) _) | refine Gr.trans ?_ (by assumption)))⟩
theorem rdiv_calls (a b : Int) (hb : b ≠ 0) (w : World) : Calls Try.prog 33 #[.int .i64 a, .int .i64 b] w fun e w' => e = .returned (.tuple #[.int .i64 (divV a b), .int .i64 (remV a b)]) ∧ Grown w w' := by
  by_cases h : b = -1
  · subst h
    go_enter Try.func33, Try.ntmps33
    go_wp2
    go_ret2
    exact ⟨ret_ii (by simp [divV]; try (unfold wrap64; simp [IntKind.wrap, IntKind.bits, IntKind.signed]; omega)) (by simp [remV]), (by repeat (with_reducible first | assumption | exact Grown.refl _ | apply Grown.drew | apply Gr.drewN | apply Grown.alloc | (refine Grown.setCell ?_ (by simp) _) | refine Gr.trans ?_ (by assumption)))⟩
  · go_enter Try.func33, Try.ntmps33
    go_wp2
    go_quiet (fail)
    go_wp2
    go_ret2
    exact ⟨ret_ii (by simp [divV, h]) (by simp [remV, h]), (by repeat (with_reducible first | assumption | exact Grown.refl _ | apply Grown.drew | apply Gr.drewN | apply Grown.alloc | (refine Grown.setCell ?_ (by simp) _) | refine Gr.trans ?_ (by assumption)))⟩
set_option maxHeartbeats 1000000 in
theorem long_calls (op a b : Int) (w : World) : Calls Try.prog 9 #[.int .i64 op, .int .i64 a, .int .i64 b] w fun e w' => e = .returned (.tuple #[.int .i64 (longV op a b), .bool (longB op b)]) ∧ Grown w w' := by
  have hm : 0 ≤ b % 64 ∧ b % 64 < 64 := by omega
  obtain ⟨hm0, hm1⟩ := hm
  rcases op_cases op with rfl | rfl | rfl | rfl | rfl | rfl | rfl | rfl | rfl | rfl | rfl | ⟨h1, h2, h3, h4, h5, h6, h7, h8, h9, h10, h11⟩
  · go_enter Try.func9, Try.ntmps9
    go_wp2
    go_ret2
    exact ⟨ret_ib (by simp only [longV]; (try simp); (first | done | exact w64_uadd _ _ | exact w64_usub _ _ | exact w64_umul _ _ | exact w64_ushl _ _ | exact w64_ushr _ _)) (by simp [longB]), (by repeat (with_reducible first | assumption | exact Grown.refl _ | apply Grown.drew | apply Gr.drewN | apply Grown.alloc | (refine Grown.setCell ?_ (by simp) _) | refine Gr.trans ?_ (by assumption)))⟩
  · go_enter Try.func9, Try.ntmps9
    go_wp2
    go_ret2
    exact ⟨ret_ib (by simp only [longV]; (try simp); (first | done | exact w64_uadd _ _ | exact w64_usub _ _ | exact w64_umul _ _ | exact w64_ushl _ _ | exact w64_ushr _ _)) (by simp [longB]), (by repeat (with_reducible first | assumption | exact Grown.refl _ | apply Grown.drew | apply Gr.drewN | apply Grown.alloc | (refine Grown.setCell ?_ (by simp) _) | refine Gr.trans ?_ (by assumption)))⟩
  · go_enter Try.func9, Try.ntmps9
    go_wp2
    go_ret2
    exact ⟨ret_ib (by simp only [longV]; (try simp); (first | done | exact w64_uadd _ _ | exact w64_usub _ _ | exact w64_umul _ _ | exact w64_ushl _ _ | exact w64_ushr _ _)) (by simp [longB]), (by repeat (with_reducible first | assumption | exact Grown.refl _ | apply Grown.drew | apply Gr.drewN | apply Grown.alloc | (refine Grown.setCell ?_ (by simp) _) | refine Gr.trans ?_ (by assumption)))⟩
  · by_cases hb : b = 0
    · subst hb
      go_enter Try.func9, Try.ntmps9
      go_wp2
      go_ret2
      exact ⟨ret_ib (by simp [longV]) (by simp [longB]), (by repeat (with_reducible first | assumption | exact Grown.refl _ | apply Grown.drew | apply Gr.drewN | apply Grown.alloc | (refine Grown.setCell ?_ (by simp) _) | refine Gr.trans ?_ (by assumption)))⟩
    · go_enter Try.func9, Try.ntmps9
      go_wp2_with (first | (go_at_call 32; (with_reducible refine (div_calls _ _ hb _).mono ?_); rintro e w32 ⟨rfl, hg32⟩))
      go_ret2
      exact ⟨ret_ib (by simp [longV, hb]) (by simp [longB, hb]), (by repeat (with_reducible first | assumption | exact Grown.refl _ | apply Grown.drew | apply Gr.drewN | apply Grown.alloc | (refine Grown.setCell ?_ (by simp) _) | refine Gr.trans ?_ (by assumption)))⟩
  · by_cases hb : b = 0
    · subst hb
      go_enter Try.func9, Try.ntmps9
      go_wp2
      go_ret2
      exact ⟨ret_ib (by simp [longV]) (by simp [longB]), (by repeat (with_reducible first | assumption | exact Grown.refl _ | apply Grown.drew | apply Gr.drewN | apply Grown.alloc | (refine Grown.setCell ?_ (by simp) _) | refine Gr.trans ?_ (by assumption)))⟩
    · go_enter Try.func9, Try.ntmps9
      go_wp2_with (first | (go_at_call 32; (with_reducible refine (div_calls _ _ hb _).mono ?_); rintro e w32 ⟨rfl, hg32⟩))
      go_ret2
      exact ⟨ret_ib (by simp [longV, hb]) (by simp [longB, hb]), (by repeat (with_reducible first | assumption | exact Grown.refl _ | apply Grown.drew | apply Gr.drewN | apply Grown.alloc | (refine Grown.setCell ?_ (by simp) _) | refine Gr.trans ?_ (by assumption)))⟩
  · go_enter Try.func9, Try.ntmps9
    go_wp2
    go_ret2
    exact ⟨ret_ib (by simp only [longV]; (try simp); (first | done | exact w64_uadd _ _ | exact w64_usub _ _ | exact w64_umul _ _ | exact w64_ushl _ _ | exact w64_ushr _ _)) (by simp [longB]), (by repeat (with_reducible first | assumption | exact Grown.refl _ | apply Grown.drew | apply Gr.drewN | apply Grown.alloc | (refine Grown.setCell ?_ (by simp) _) | refine Gr.trans ?_ (by assumption)))⟩
  · go_enter Try.func9, Try.ntmps9
    go_wp2
    go_ret2
    exact ⟨ret_ib (by simp only [longV]; (try simp); (first | done | exact w64_uadd _ _ | exact w64_usub _ _ | exact w64_umul _ _ | exact w64_ushl _ _ | exact w64_ushr _ _)) (by simp [longB]), (by repeat (with_reducible first | assumption | exact Grown.refl _ | apply Grown.drew | apply Gr.drewN | apply Grown.alloc | (refine Grown.setCell ?_ (by simp) _) | refine Gr.trans ?_ (by assumption)))⟩
  · go_enter Try.func9, Try.ntmps9
    go_wp2
    go_ret2
    exact ⟨ret_ib (by simp only [longV]; (try simp); (first | done | exact w64_uadd _ _ | exact w64_usub _ _ | exact w64_umul _ _ | exact w64_ushl _ _ | exact w64_ushr _ _)) (by simp [longB]), (by repeat (with_reducible first | assumption | exact Grown.refl _ | apply Grown.drew | apply Gr.drewN | apply Grown.alloc | (refine Grown.setCell ?_ (by simp) _) | refine Gr.trans ?_ (by assumption)))⟩
  · go_enter Try.func9, Try.ntmps9
    go_wp2
    go_ret2
    exact ⟨ret_ib (by simp only [longV]; (try simp); (first | done | exact w64_uadd _ _ | exact w64_usub _ _ | exact w64_umul _ _ | exact w64_ushl _ _ | exact w64_ushr _ _)) (by simp [longB]), (by repeat (with_reducible first | assumption | exact Grown.refl _ | apply Grown.drew | apply Gr.drewN | apply Grown.alloc | (refine Grown.setCell ?_ (by simp) _) | refine Gr.trans ?_ (by assumption)))⟩
  · go_enter Try.func9, Try.ntmps9
    go_wp2
    go_ret2
    exact ⟨ret_ib (by simp only [longV]; (try simp); (first | done | exact w64_uadd _ _ | exact w64_usub _ _ | exact w64_umul _ _ | exact w64_ushl _ _ | exact w64_ushr _ _)) (by simp [longB]), (by repeat (with_reducible first | assumption | exact Grown.refl _ | apply Grown.drew | apply Gr.drewN | apply Grown.alloc | (refine Grown.setCell ?_ (by simp) _) | refine Gr.trans ?_ (by assumption)))⟩
  · go_enter Try.func9, Try.ntmps9
    go_wp2
    go_ret2
    exact ⟨ret_ib (by simp only [longV]; (try simp); (first | done | exact w64_uadd _ _ | exact w64_usub _ _ | exact w64_umul _ _ | exact w64_ushl _ _ | exact w64_ushr _ _)) (by simp [longB]), (by repeat (with_reducible first | assumption | exact Grown.refl _ | apply Grown.drew | apply Gr.drewN | apply Grown.alloc | (refine Grown.setCell ?_ (by simp) _) | refine Gr.trans ?_ (by assumption)))⟩
  · go_enter Try.func9, Try.ntmps9
    go_wp2
    go_ret2
    exact ⟨ret_ib (by simp [longV, h1, h2, h3, h4, h5, h6, h7, h8, h9, h10, h11]) (by unfold longB; rw [if_neg (by omega)]), (by repeat (with_reducible first | assumption | exact Grown.refl _ | apply Grown.drew | apply Gr.drewN | apply Grown.alloc | (refine Grown.setCell ?_ (by simp) _) | refine Gr.trans ?_ (by assumption)))⟩
set_option maxHeartbeats 1000000 in
theorem rlong_calls (op a b : Int) (w : World) : Calls Try.prog 21 #[.int .i64 op, .int .i64 a, .int .i64 b] w fun e w' => e = .returned (.tuple #[.int .i64 (longV op a b), .bool (longB op b)]) ∧ Grown w w' := by
  have hm : 0 ≤ b % 64 ∧ b % 64 < 64 := by omega
  obtain ⟨hm0, hm1⟩ := hm
  rcases op_cases op with rfl | rfl | rfl | rfl | rfl | rfl | rfl | rfl | rfl | rfl | rfl | ⟨h1, h2, h3, h4, h5, h6, h7, h8, h9, h10, h11⟩
  · go_enter Try.func21, Try.ntmps21
    go_wp2
    go_ret2
    exact ⟨ret_ib (by simp only [longV]; (try simp); (first | done | exact w64_uadd _ _ | exact w64_usub _ _ | exact w64_umul _ _ | exact w64_ushl _ _ | exact w64_ushr _ _)) (by simp [longB]), (by repeat (with_reducible first | assumption | exact Grown.refl _ | apply Grown.drew | apply Gr.drewN | apply Grown.alloc | (refine Grown.setCell ?_ (by simp) _) | refine Gr.trans ?_ (by assumption)))⟩
  · go_enter Try.func21, Try.ntmps21
    go_wp2
    go_ret2
    exact ⟨ret_ib (by simp only [longV]; (try simp); (first | done | exact w64_uadd _ _ | exact w64_usub _ _ | exact w64_umul _ _ | exact w64_ushl _ _ | exact w64_ushr _ _)) (by simp [longB]), (by repeat (with_reducible first | assumption | exact Grown.refl _ | apply Grown.drew | apply Gr.drewN | apply Grown.alloc | (refine Grown.setCell ?_ (by simp) _) | refine Gr.trans ?_ (by assumption)))⟩
  · go_enter Try.func21, Try.ntmps21
    go_wp2
    go_ret2
    exact ⟨ret_ib (by simp only [longV]; (try simp); (first | done | exact w64_uadd _ _ | exact w64_usub _ _ | exact w64_umul _ _ | exact w64_ushl _ _ | exact w64_ushr _ _)) (by simp [longB]), (by repeat (with_reducible first | assumption | exact Grown.refl _ | apply Grown.drew | apply Gr.drewN | apply Grown.alloc | (refine Grown.setCell ?_ (by simp) _) | refine Gr.trans ?_ (by assumption)))⟩
  · by_cases hb : b = 0
    · subst hb
      go_enter Try.func21, Try.ntmps21
      go_wp2
      go_ret2
      exact ⟨ret_ib (by simp [longV]) (by simp [longB]), (by repeat (with_reducible first | assumption | exact Grown.refl _ | apply Grown.drew | apply Gr.drewN | apply Grown.alloc | (refine Grown.setCell ?_ (by simp) _) | refine Gr.trans ?_ (by assumption)))⟩
    · go_enter Try.func21, Try.ntmps21
      go_wp2_with (first | (go_at_call 33; (with_reducible refine (rdiv_calls _ _ hb _).mono ?_); rintro e w33 ⟨rfl, hg33⟩))
      go_ret2
      exact ⟨ret_ib (by simp [longV, hb]) (by simp [longB, hb]), (by repeat (with_reducible first | assumption | exact Grown.refl _ | apply Grown.drew | apply Gr.drewN | apply Grown.alloc | (refine Grown.setCell ?_ (by simp) _) | refine Gr.trans ?_ (by assumption)))⟩
  · by_cases hb : b = 0
    · subst hb
      go_enter Try.func21, Try.ntmps21
      go_wp2
      go_ret2
      exact ⟨ret_ib (by simp [longV]) (by simp [longB]), (by repeat (with_reducible first | assumption | exact Grown.refl _ | apply Grown.drew | apply Gr.drewN | apply Grown.alloc | (refine Grown.setCell ?_ (by simp) _) | refine Gr.trans ?_ (by assumption)))⟩
    · go_enter Try.func21, Try.ntmps21
      go_wp2_with (first | (go_at_call 33; (with_reducible refine (rdiv_calls _ _ hb _).mono ?_); rintro e w33 ⟨rfl, hg33⟩))
      go_ret2
      exact ⟨ret_ib (by simp [longV, hb]) (by simp [longB, hb]), (by repeat (with_reducible first | assumption | exact Grown.refl _ | apply Grown.drew | apply Gr.drewN | apply Grown.alloc | (refine Grown.setCell ?_ (by simp) _) | refine Gr.trans ?_ (by assumption)))⟩
  · go_enter Try.func21, Try.ntmps21
    go_wp2
    go_ret2
    exact ⟨ret_ib (by simp only [longV]; (try simp); (first | done | exact w64_uadd _ _ | exact w64_usub _ _ | exact w64_umul _ _ | exact w64_ushl _ _ | exact w64_ushr _ _)) (by simp [longB]), (by repeat (with_reducible first | assumption | exact Grown.refl _ | apply Grown.drew | apply Gr.drewN | apply Grown.alloc | (refine Grown.setCell ?_ (by simp) _) | refine Gr.trans ?_ (by assumption)))⟩
  · go_enter Try.func21, Try.ntmps21
    go_wp2
    go_ret2
    exact ⟨ret_ib (by simp only [longV]; (try simp); (first | done | exact w64_uadd _ _ | exact w64_usub _ _ | exact w64_umul _ _ | exact w64_ushl _ _ | exact w64_ushr _ _)) (by simp [longB]), (by repeat (with_reducible first | assumption | exact Grown.refl _ | apply Grown.drew | apply Gr.drewN | apply Grown.alloc | (refine Grown.setCell ?_ (by simp) _) | refine Gr.trans ?_ (by assumption)))⟩
  · go_enter Try.func21, Try.ntmps21
    go_wp2
    go_ret2
    exact ⟨ret_ib (by simp only [longV]; (try simp); (first | done | exact w64_uadd _ _ | exact w64_usub _ _ | exact w64_umul _ _ | exact w64_ushl _ _ | exact w64_ushr _ _)) (by simp [longB]), (by repeat (with_reducible first | assumption | exact Grown.refl _ | apply Grown.drew | apply Gr.drewN | apply Grown.alloc | (refine Grown.setCell ?_ (by simp) _) | refine Gr.trans ?_ (by assumption)))⟩
  · go_enter Try.func21, Try.ntmps21
    go_wp2
    go_ret2
    exact ⟨ret_ib (by simp only [longV]; (try simp); (first | done | exact w64_uadd _ _ | exact w64_usub _ _ | exact w64_umul _ _ | exact w64_ushl _ _ | exact w64_ushr _ _)) (by simp [longB]), (by repeat (with_reducible first | assumption | exact Grown.refl _ | apply Grown.drew | apply Gr.drewN | apply Grown.alloc | (refine Grown.setCell ?_ (by simp) _) | refine Gr.trans ?_ (by assumption)))⟩
  · go_enter Try.func21, Try.ntmps21
    go_wp2
    go_ret2
    exact ⟨ret_ib (by simp only [longV]; (try simp); (first | done | exact w64_uadd _ _ | exact w64_usub _ _ | exact w64_umul _ _ | exact w64_ushl _ _ | exact w64_ushr _ _)) (by simp [longB]), (by repeat (with_reducible first | assumption | exact Grown.refl _ | apply Grown.drew | apply Gr.drewN | apply Grown.alloc | (refine Grown.setCell ?_ (by simp) _) | refine Gr.trans ?_ (by assumption)))⟩
  · go_enter Try.func21, Try.ntmps21
    go_wp2
    go_ret2
    exact ⟨ret_ib (by simp only [longV]; (try simp); (first | done | exact w64_uadd _ _ | exact w64_usub _ _ | exact w64_umul _ _ | exact w64_ushl _ _ | exact w64_ushr _ _)) (by simp [longB]), (by repeat (with_reducible first | assumption | exact Grown.refl _ | apply Grown.drew | apply Gr.drewN | apply Grown.alloc | (refine Grown.setCell ?_ (by simp) _) | refine Gr.trans ?_ (by assumption)))⟩
  · go_enter Try.func21, Try.ntmps21
    go_wp2
    go_ret2
    exact ⟨ret_ib (by simp [longV, h1, h2, h3, h4, h5, h6, h7, h8, h9, h10, h11]) (by unfold longB; rw [if_neg (by omega)]), (by repeat (with_reducible first | assumption | exact Grown.refl _ | apply Grown.drew | apply Gr.drewN | apply Grown.alloc | (refine Grown.setCell ?_ (by simp) _) | refine Gr.trans ?_ (by assumption)))⟩
set_option maxHeartbeats 1000000 in
theorem int_calls (op a b : Int) (w : World) : Calls Try.prog 19 #[.int .i64 op, .int .i64 a, .int .i64 b] w fun e w' => e = .returned (.tuple #[.int .i64 (intV op a b), .bool (intB op b)]) ∧ Grown w w' := by
  have hm : 0 ≤ wr b % 32 ∧ wr b % 32 < 32 := by omega
  obtain ⟨hm0, hm1⟩ := hm
  have hl : 0 ≤ wr a % 4294967296 ∧ wr a % 4294967296 < 4294967296 := by omega
  obtain ⟨hl0, hl1⟩ := hl
  rcases (by omega : op = 9 ∨ op = 10 ∨ op = 11 ∨ (op ≠ 9 ∧ op ≠ 10 ∧ op ≠ 11)) with rfl | rfl | rfl | ⟨h1, h2, h3⟩
  · go_enter Try.func19, Try.ntmps19
    go_wp2_with (first | (go_at_call 11; (with_reducible refine (wrap_calls _ _).mono ?_); rintro e w11 ⟨rfl, hg11⟩)| (go_at_call 9; (with_reducible refine (long_calls _ _ _ _).mono ?_); rintro e w9 ⟨rfl, hg9⟩))
    go_ret2
    exact ⟨ret_ib (by simp [intV, wr_of64]) (by simp [intB, longB]), (by repeat (with_reducible first | assumption | exact Grown.refl _ | apply Grown.drew | apply Gr.drewN | apply Grown.alloc | (refine Grown.setCell ?_ (by simp) _) | refine Gr.trans ?_ (by assumption)))⟩
  · go_enter Try.func19, Try.ntmps19
    go_wp2_with (first | (go_at_call 11; (with_reducible refine (wrap_calls _ _).mono ?_); rintro e w11 ⟨rfl, hg11⟩)| (go_at_call 9; (with_reducible refine (long_calls _ _ _ _).mono ?_); rintro e w9 ⟨rfl, hg9⟩))
    go_ret2
    exact ⟨ret_ib (by simp [intV, wr_of64]) (by simp [intB, longB]), (by repeat (with_reducible first | assumption | exact Grown.refl _ | apply Grown.drew | apply Gr.drewN | apply Grown.alloc | (refine Grown.setCell ?_ (by simp) _) | refine Gr.trans ?_ (by assumption)))⟩
  · go_enter Try.func19, Try.ntmps19
    go_wp2_with (first | (go_at_call 11; (with_reducible refine (wrap_calls _ _).mono ?_); rintro e w11 ⟨rfl, hg11⟩)| (go_at_call 9; (with_reducible refine (long_calls _ _ _ _).mono ?_); rintro e w9 ⟨rfl, hg9⟩))
    go_ret2
    exact ⟨ret_ib (by simp [intV, wr_of64]) (by simp [intB, longB]), (by repeat (with_reducible first | assumption | exact Grown.refl _ | apply Grown.drew | apply Gr.drewN | apply Grown.alloc | (refine Grown.setCell ?_ (by simp) _) | refine Gr.trans ?_ (by assumption)))⟩
  · go_enter Try.func19, Try.ntmps19
    go_wp2_with (first | (go_at_call 11; (with_reducible refine (wrap_calls _ _).mono ?_); rintro e w11 ⟨rfl, hg11⟩)| (go_at_call 9; (with_reducible refine (long_calls _ _ _ _).mono ?_); rintro e w9 ⟨rfl, hg9⟩))
    go_ret2
    exact ⟨ret_ib (by simp [intV, h1, h2, h3]) (by simp [intB]), (by repeat (with_reducible first | assumption | exact Grown.refl _ | apply Grown.drew | apply Gr.drewN | apply Grown.alloc | (refine Grown.setCell ?_ (by simp) _) | refine Gr.trans ?_ (by assumption)))⟩
set_option maxHeartbeats 1000000 in
theorem rint_calls (op a b : Int) (w : World) : Calls Try.prog 20 #[.int .i64 op, .int .i64 a, .int .i64 b] w fun e w' => e = .returned (.tuple #[.int .i64 (intV op a b), .bool (intB op b)]) ∧ Grown w w' := by
  have hm : 0 ≤ wr b % 32 ∧ wr b % 32 < 32 := by omega
  obtain ⟨hm0, hm1⟩ := hm
  have hl : 0 ≤ wr a % 4294967296 ∧ wr a % 4294967296 < 4294967296 := by omega
  obtain ⟨hl0, hl1⟩ := hl
  rcases (by omega : op = 9 ∨ op = 10 ∨ op = 11 ∨ (op ≠ 9 ∧ op ≠ 10 ∧ op ≠ 11)) with rfl | rfl | rfl | ⟨h1, h2, h3⟩
  · go_enter Try.func20, Try.ntmps20
    go_wp2_with (first | (go_at_call 12; (with_reducible refine (rwrap_calls _ _).mono ?_); rintro e w12 ⟨rfl, hg12⟩)| (go_at_call 21; (with_reducible refine (rlong_calls _ _ _ _).mono ?_); rintro e w21 ⟨rfl, hg21⟩))
    go_ret2
    exact ⟨ret_ib (by simp [intV, wr_of64]) (by simp [intB, longB]), (by repeat (with_reducible first | assumption | exact Grown.refl _ | apply Grown.drew | apply Gr.drewN | apply Grown.alloc | (refine Grown.setCell ?_ (by simp) _) | refine Gr.trans ?_ (by assumption)))⟩
  · go_enter Try.func20, Try.ntmps20
    go_wp2_with (first | (go_at_call 12; (with_reducible refine (rwrap_calls _ _).mono ?_); rintro e w12 ⟨rfl, hg12⟩)| (go_at_call 21; (with_reducible refine (rlong_calls _ _ _ _).mono ?_); rintro e w21 ⟨rfl, hg21⟩))
    go_ret2
    exact ⟨ret_ib (by simp [intV, wr_of64]) (by simp [intB, longB]), (by repeat (with_reducible first | assumption | exact Grown.refl _ | apply Grown.drew | apply Gr.drewN | apply Grown.alloc | (refine Grown.setCell ?_ (by simp) _) | refine Gr.trans ?_ (by assumption)))⟩
  · go_enter Try.func20, Try.ntmps20
    go_wp2_with (first | (go_at_call 12; (with_reducible refine (rwrap_calls _ _).mono ?_); rintro e w12 ⟨rfl, hg12⟩)| (go_at_call 21; (with_reducible refine (rlong_calls _ _ _ _).mono ?_); rintro e w21 ⟨rfl, hg21⟩))
    go_ret2
    exact ⟨ret_ib (by simp [intV, wr_of64]) (by simp [intB, longB]), (by repeat (with_reducible first | assumption | exact Grown.refl _ | apply Grown.drew | apply Gr.drewN | apply Grown.alloc | (refine Grown.setCell ?_ (by simp) _) | refine Gr.trans ?_ (by assumption)))⟩
  · go_enter Try.func20, Try.ntmps20
    go_wp2_with (first | (go_at_call 12; (with_reducible refine (rwrap_calls _ _).mono ?_); rintro e w12 ⟨rfl, hg12⟩)| (go_at_call 21; (with_reducible refine (rlong_calls _ _ _ _).mono ?_); rintro e w21 ⟨rfl, hg21⟩))
    go_ret2
    exact ⟨ret_ib (by simp [intV, h1, h2, h3]) (by simp [intB]), (by repeat (with_reducible first | assumption | exact Grown.refl _ | apply Grown.drew | apply Gr.drewN | apply Grown.alloc | (refine Grown.setCell ?_ (by simp) _) | refine Gr.trans ?_ (by assumption)))⟩
theorem ineg_calls (a : Int) (w : World) : Calls Try.prog 15 #[.int .i64 a] w fun e w' => e = .returned (.int .i64 (wr (wrap64 (- wr a)))) ∧ Grown w w' := by
  go_enter Try.func15, Try.ntmps15
  go_wp2_with (first | (go_at_call 11; (with_reducible refine (wrap_calls _ _).mono ?_); rintro e w11 ⟨rfl, hg11⟩))
  go_ret
  exact ⟨ret_int (by rfl), (by repeat (with_reducible first | assumption | exact Grown.refl _ | apply Grown.drew | apply Gr.drewN | apply Grown.alloc | (refine Grown.setCell ?_ (by simp) _) | refine Gr.trans ?_ (by assumption)))⟩
theorem rineg_calls (a : Int) (w : World) : Calls Try.prog 16 #[.int .i64 a] w fun e w' => e = .returned (.int .i64 (wr (wrap64 (- wr a)))) ∧ Grown w w' := by
  go_enter Try.func16, Try.ntmps16
  go_wp2_with (first | (go_at_call 12; (with_reducible refine (rwrap_calls _ _).mono ?_); rintro e w12 ⟨rfl, hg12⟩))
  go_ret
  exact ⟨ret_int (by exact wr_w64neg a), (by repeat (with_reducible first | assumption | exact Grown.refl _ | apply Grown.drew | apply Gr.drewN | apply Grown.alloc | (refine Grown.setCell ?_ (by simp) _) | refine Gr.trans ?_ (by assumption)))⟩
theorem lneg_calls (a : Int) (w : World) : Calls Try.prog 17 #[.int .i64 a] w fun e w' => e = .returned (.int .i64 (wrap64 (-a))) ∧ Grown w w' := by
  go_enter Try.func17, Try.ntmps17
  go_wp2
  go_ret
  exact ⟨ret_int (by rfl), (by repeat (with_reducible first | assumption | exact Grown.refl _ | apply Grown.drew | apply Gr.drewN | apply Grown.alloc | (refine Grown.setCell ?_ (by simp) _) | refine Gr.trans ?_ (by assumption)))⟩
theorem rlneg_calls (a : Int) (w : World) : Calls Try.prog 18 #[.int .i64 a] w fun e w' => e = .returned (.int .i64 (wrap64 (-a))) ∧ Grown w w' := by
  go_enter Try.func18, Try.ntmps18
  go_wp2
  go_ret
  exact ⟨ret_int (by exact w64_uneg a), (by repeat (with_reducible first | assumption | exact Grown.refl _ | apply Grown.drew | apply Gr.drewN | apply Grown.alloc | (refine Grown.setCell ?_ (by simp) _) | refine Gr.trans ?_ (by assumption)))⟩
theorem pure_calls (op : Int) (w : World) : Calls Try.prog 22 #[.int .i64 op] w fun e w' => e = .returned (.bool (pureB op)) ∧ Grown w w' := by
  rcases op_cases op with rfl | rfl | rfl | rfl | rfl | rfl | rfl | rfl | rfl | rfl | rfl | ⟨h1, h2, h3, h4, h5, h6, h7, h8, h9, h10, h11⟩
  · go_enter Try.func22, Try.ntmps22
    go_wp2
    go_ret
    exact ⟨ret_bool (by decide), (by repeat (with_reducible first | assumption | exact Grown.refl _ | apply Grown.drew | apply Gr.drewN | apply Grown.alloc | (refine Grown.setCell ?_ (by simp) _) | refine Gr.trans ?_ (by assumption)))⟩
  · go_enter Try.func22, Try.ntmps22
    go_wp2
    go_ret
    exact ⟨ret_bool (by decide), (by repeat (with_reducible first | assumption | exact Grown.refl _ | apply Grown.drew | apply Gr.drewN | apply Grown.alloc | (refine Grown.setCell ?_ (by simp) _) | refine Gr.trans ?_ (by assumption)))⟩
  · go_enter Try.func22, Try.ntmps22
    go_wp2
    go_ret
    exact ⟨ret_bool (by decide), (by repeat (with_reducible first | assumption | exact Grown.refl _ | apply Grown.drew | apply Gr.drewN | apply Grown.alloc | (refine Grown.setCell ?_ (by simp) _) | refine Gr.trans ?_ (by assumption)))⟩
  · go_enter Try.func22, Try.ntmps22
    go_wp2
    go_ret
    exact ⟨ret_bool (by decide), (by repeat (with_reducible first | assumption | exact Grown.refl _ | apply Grown.drew | apply Gr.drewN | apply Grown.alloc | (refine Grown.setCell ?_ (by simp) _) | refine Gr.trans ?_ (by assumption)))⟩
  · go_enter Try.func22, Try.ntmps22
    go_wp2
    go_ret
    exact ⟨ret_bool (by decide), (by repeat (with_reducible first | assumption | exact Grown.refl _ | apply Grown.drew | apply Gr.drewN | apply Grown.alloc | (refine Grown.setCell ?_ (by simp) _) | refine Gr.trans ?_ (by assumption)))⟩
  · go_enter Try.func22, Try.ntmps22
    go_wp2
    go_ret
    exact ⟨ret_bool (by decide), (by repeat (with_reducible first | assumption | exact Grown.refl _ | apply Grown.drew | apply Gr.drewN | apply Grown.alloc | (refine Grown.setCell ?_ (by simp) _) | refine Gr.trans ?_ (by assumption)))⟩
  · go_enter Try.func22, Try.ntmps22
    go_wp2
    go_ret
    exact ⟨ret_bool (by decide), (by repeat (with_reducible first | assumption | exact Grown.refl _ | apply Grown.drew | apply Gr.drewN | apply Grown.alloc | (refine Grown.setCell ?_ (by simp) _) | refine Gr.trans ?_ (by assumption)))⟩
  · go_enter Try.func22, Try.ntmps22
    go_wp2
    go_ret
    exact ⟨ret_bool (by decide), (by repeat (with_reducible first | assumption | exact Grown.refl _ | apply Grown.drew | apply Gr.drewN | apply Grown.alloc | (refine Grown.setCell ?_ (by simp) _) | refine Gr.trans ?_ (by assumption)))⟩
  · go_enter Try.func22, Try.ntmps22
    go_wp2
    go_ret
    exact ⟨ret_bool (by decide), (by repeat (with_reducible first | assumption | exact Grown.refl _ | apply Grown.drew | apply Gr.drewN | apply Grown.alloc | (refine Grown.setCell ?_ (by simp) _) | refine Gr.trans ?_ (by assumption)))⟩
  · go_enter Try.func22, Try.ntmps22
    go_wp2
    go_ret
    exact ⟨ret_bool (by decide), (by repeat (with_reducible first | assumption | exact Grown.refl _ | apply Grown.drew | apply Gr.drewN | apply Grown.alloc | (refine Grown.setCell ?_ (by simp) _) | refine Gr.trans ?_ (by assumption)))⟩
  · go_enter Try.func22, Try.ntmps22
    go_wp2
    go_ret
    exact ⟨ret_bool (by decide), (by repeat (with_reducible first | assumption | exact Grown.refl _ | apply Grown.drew | apply Gr.drewN | apply Grown.alloc | (refine Grown.setCell ?_ (by simp) _) | refine Gr.trans ?_ (by assumption)))⟩
  · rcases (by omega : op < 1 ∨ 11 < op) with h | h
    · go_enter Try.func22, Try.ntmps22
      go_wp2
      go_ret
      exact ⟨ret_bool (by unfold pureB; rw [decide_eq_false (by omega)]), (by repeat (with_reducible first | assumption | exact Grown.refl _ | apply Grown.drew | apply Gr.drewN | apply Grown.alloc | (refine Grown.setCell ?_ (by simp) _) | refine Gr.trans ?_ (by assumption)))⟩
    · go_enter Try.func22, Try.ntmps22
      go_wp2
      go_ret
      exact ⟨ret_bool (by unfold pureB; rw [decide_eq_false (by omega)]), (by repeat (with_reducible first | assumption | exact Grown.refl _ | apply Grown.drew | apply Gr.drewN | apply Grown.alloc | (refine Grown.setCell ?_ (by simp) _) | refine Gr.trans ?_ (by assumption)))⟩
theorem rpure_calls (op : Int) (w : World) : Calls Try.prog 23 #[.int .i64 op] w fun e w' => e = .returned (.bool (pureB op)) ∧ Grown w w' := by
  rcases op_cases op with rfl | rfl | rfl | rfl | rfl | rfl | rfl | rfl | rfl | rfl | rfl | ⟨h1, h2, h3, h4, h5, h6, h7, h8, h9, h10, h11⟩
  · go_enter Try.func23, Try.ntmps23
    go_wp2
    go_ret
    exact ⟨ret_bool (by decide), (by repeat (with_reducible first | assumption | exact Grown.refl _ | apply Grown.drew | apply Gr.drewN | apply Grown.alloc | (refine Grown.setCell ?_ (by simp) _) | refine Gr.trans ?_ (by assumption)))⟩
  · go_enter Try.func23, Try.ntmps23
    go_wp2
    go_ret
    exact ⟨ret_bool (by decide), (by repeat (with_reducible first | assumption | exact Grown.refl _ | apply Grown.drew | apply Gr.drewN | apply Grown.alloc | (refine Grown.setCell ?_ (by simp) _) | refine Gr.trans ?_ (by assumption)))⟩
  · go_enter Try.func23, Try.ntmps23
    go_wp2
    go_ret
    exact ⟨ret_bool (by decide), (by repeat (with_reducible first | assumption | exact Grown.refl _ | apply Grown.drew | apply Gr.drewN | apply Grown.alloc | (refine Grown.setCell ?_ (by simp) _) | refine Gr.trans ?_ (by assumption)))⟩
  · go_enter Try.func23, Try.ntmps23
    go_wp2
    go_ret
    exact ⟨ret_bool (by decide), (by repeat (with_reducible first | assumption | exact Grown.refl _ | apply Grown.drew | apply Gr.drewN | apply Grown.alloc | (refine Grown.setCell ?_ (by simp) _) | refine Gr.trans ?_ (by assumption)))⟩
  · go_enter Try.func23, Try.ntmps23
    go_wp2
    go_ret
    exact ⟨ret_bool (by decide), (by repeat (with_reducible first | assumption | exact Grown.refl _ | apply Grown.drew | apply Gr.drewN | apply Grown.alloc | (refine Grown.setCell ?_ (by simp) _) | refine Gr.trans ?_ (by assumption)))⟩
  · go_enter Try.func23, Try.ntmps23
    go_wp2
    go_ret
    exact ⟨ret_bool (by decide), (by repeat (with_reducible first | assumption | exact Grown.refl _ | apply Grown.drew | apply Gr.drewN | apply Grown.alloc | (refine Grown.setCell ?_ (by simp) _) | refine Gr.trans ?_ (by assumption)))⟩
  · go_enter Try.func23, Try.ntmps23
    go_wp2
    go_ret
    exact ⟨ret_bool (by decide), (by repeat (with_reducible first | assumption | exact Grown.refl _ | apply Grown.drew | apply Gr.drewN | apply Grown.alloc | (refine Grown.setCell ?_ (by simp) _) | refine Gr.trans ?_ (by assumption)))⟩
  · go_enter Try.func23, Try.ntmps23
    go_wp2
    go_ret
    exact ⟨ret_bool (by decide), (by repeat (with_reducible first | assumption | exact Grown.refl _ | apply Grown.drew | apply Gr.drewN | apply Grown.alloc | (refine Grown.setCell ?_ (by simp) _) | refine Gr.trans ?_ (by assumption)))⟩
  · go_enter Try.func23, Try.ntmps23
    go_wp2
    go_ret
    exact ⟨ret_bool (by decide), (by repeat (with_reducible first | assumption | exact Grown.refl _ | apply Grown.drew | apply Gr.drewN | apply Grown.alloc | (refine Grown.setCell ?_ (by simp) _) | refine Gr.trans ?_ (by assumption)))⟩
  · go_enter Try.func23, Try.ntmps23
    go_wp2
    go_ret
    exact ⟨ret_bool (by decide), (by repeat (with_reducible first | assumption | exact Grown.refl _ | apply Grown.drew | apply Gr.drewN | apply Grown.alloc | (refine Grown.setCell ?_ (by simp) _) | refine Gr.trans ?_ (by assumption)))⟩
  · go_enter Try.func23, Try.ntmps23
    go_wp2
    go_ret
    exact ⟨ret_bool (by decide), (by repeat (with_reducible first | assumption | exact Grown.refl _ | apply Grown.drew | apply Gr.drewN | apply Grown.alloc | (refine Grown.setCell ?_ (by simp) _) | refine Gr.trans ?_ (by assumption)))⟩
  · rcases (by omega : op < 1 ∨ 11 < op) with h | h
    · go_enter Try.func23, Try.ntmps23
      go_wp2
      go_ret
      exact ⟨ret_bool (by unfold pureB; rw [decide_eq_false (by omega)]), (by repeat (with_reducible first | assumption | exact Grown.refl _ | apply Grown.drew | apply Gr.drewN | apply Grown.alloc | (refine Grown.setCell ?_ (by simp) _) | refine Gr.trans ?_ (by assumption)))⟩
    · go_enter Try.func23, Try.ntmps23
      go_wp2
      go_ret
      exact ⟨ret_bool (by unfold pureB; rw [decide_eq_false (by omega)]), (by repeat (with_reducible first | assumption | exact Grown.refl _ | apply Grown.drew | apply Gr.drewN | apply Grown.alloc | (refine Grown.setCell ?_ (by simp) _) | refine Gr.trans ?_ (by assumption)))⟩
theorem cmp_calls (a b : Int) (w : World) : Calls Try.prog 30 #[.int .i64 a, .int .i64 b] w fun e w' => e = .returned (.int .i64 (cmpV a b)) ∧ Grown w w' := by
  rcases (by omega : a < b ∨ b < a ∨ a = b) with h | h | rfl
  · go_enter Try.func30, Try.ntmps30
    go_wp2
    go_ret
    exact ⟨ret_int (by unfold cmpV; rw [if_pos h]), (by repeat (with_reducible first | assumption | exact Grown.refl _ | apply Grown.drew | apply Gr.drewN | apply Grown.alloc | (refine Grown.setCell ?_ (by simp) _) | refine Gr.trans ?_ (by assumption)))⟩
  · go_enter Try.func30, Try.ntmps30
    go_wp2
    go_ret
    exact ⟨ret_int (by unfold cmpV; rw [if_neg (by omega), if_pos h]), (by repeat (with_reducible first | assumption | exact Grown.refl _ | apply Grown.drew | apply Gr.drewN | apply Grown.alloc | (refine Grown.setCell ?_ (by simp) _) | refine Gr.trans ?_ (by assumption)))⟩
  · go_enter Try.func30, Try.ntmps30
    go_wp2
    go_ret
    exact ⟨ret_int (by unfold cmpV; rw [if_neg (by omega), if_neg (by omega)]), (by repeat (with_reducible first | assumption | exact Grown.refl _ | apply Grown.drew | apply Gr.drewN | apply Grown.alloc | (refine Grown.setCell ?_ (by simp) _) | refine Gr.trans ?_ (by assumption)))⟩
theorem rcmp_calls (a b : Int) (w : World) : Calls Try.prog 31 #[.int .i64 a, .int .i64 b] w fun e w' => e = .returned (.int .i64 (cmpV a b)) ∧ Grown w w' := by
  rcases (by omega : a < b ∨ b < a ∨ a = b) with h | h | rfl
  · go_enter Try.func31, Try.ntmps31
    go_wp2
    go_ret
    exact ⟨ret_int (by unfold cmpV; rw [if_pos h]), (by repeat (with_reducible first | assumption | exact Grown.refl _ | apply Grown.drew | apply Gr.drewN | apply Grown.alloc | (refine Grown.setCell ?_ (by simp) _) | refine Gr.trans ?_ (by assumption)))⟩
  · go_enter Try.func31, Try.ntmps31
    go_wp2
    go_ret
    exact ⟨ret_int (by unfold cmpV; rw [if_neg (by omega), if_pos h]), (by repeat (with_reducible first | assumption | exact Grown.refl _ | apply Grown.drew | apply Gr.drewN | apply Grown.alloc | (refine Grown.setCell ?_ (by simp) _) | refine Gr.trans ?_ (by assumption)))⟩
  · go_enter Try.func31, Try.ntmps31
    go_wp2
    go_ret
    exact ⟨ret_int (by unfold cmpV; rw [if_neg (by omega), if_neg (by omega)]), (by repeat (with_reducible first | assumption | exact Grown.refl _ | apply Grown.drew | apply Gr.drewN | apply Grown.alloc | (refine Grown.setCell ?_ (by simp) _) | refine Gr.trans ?_ (by assumption)))⟩
theorem rcond_calls (c a b : Int) (w : World) : Calls Try.prog 25 #[.int .i64 c, .int .i64 a, .int .i64 b] w fun e w' => e = .returned (.bool (condB c a b)) ∧ Grown w w' := by
  rcases (by omega : c = 1 ∨ c = 2 ∨ c = 3 ∨ c = 4 ∨ c = 5 ∨ c = 6 ∨ c = 0 ∨ c < 0 ∨ 6 < c) with rfl | rfl | rfl | rfl | rfl | rfl | rfl | h | h
  · go_enter Try.func25, Try.ntmps25
    go_wp2
    go_ret
    exact ⟨ret_bool (by simp [condB, Bool.beq_eq_decide_eq, bne, beq_eq_dec]), (by repeat (with_reducible first | assumption | exact Grown.refl _ | apply Grown.drew | apply Gr.drewN | apply Grown.alloc | (refine Grown.setCell ?_ (by simp) _) | refine Gr.trans ?_ (by assumption)))⟩
  · go_enter Try.func25, Try.ntmps25
    go_wp2
    go_ret
    exact ⟨ret_bool (by simp [condB, Bool.beq_eq_decide_eq, bne, beq_eq_dec]), (by repeat (with_reducible first | assumption | exact Grown.refl _ | apply Grown.drew | apply Gr.drewN | apply Grown.alloc | (refine Grown.setCell ?_ (by simp) _) | refine Gr.trans ?_ (by assumption)))⟩
  · go_enter Try.func25, Try.ntmps25
    go_wp2
    go_ret
    exact ⟨ret_bool (by simp [condB, Bool.beq_eq_decide_eq, bne, beq_eq_dec]), (by repeat (with_reducible first | assumption | exact Grown.refl _ | apply Grown.drew | apply Gr.drewN | apply Grown.alloc | (refine Grown.setCell ?_ (by simp) _) | refine Gr.trans ?_ (by assumption)))⟩
  · go_enter Try.func25, Try.ntmps25
    go_wp2
    go_ret
    exact ⟨ret_bool (by simp [condB, Bool.beq_eq_decide_eq, bne, beq_eq_dec]), (by repeat (with_reducible first | assumption | exact Grown.refl _ | apply Grown.drew | apply Gr.drewN | apply Grown.alloc | (refine Grown.setCell ?_ (by simp) _) | refine Gr.trans ?_ (by assumption)))⟩
  · go_enter Try.func25, Try.ntmps25
    go_wp2
    go_ret
    exact ⟨ret_bool (by simp [condB, Bool.beq_eq_decide_eq, bne, beq_eq_dec]), (by repeat (with_reducible first | assumption | exact Grown.refl _ | apply Grown.drew | apply Gr.drewN | apply Grown.alloc | (refine Grown.setCell ?_ (by simp) _) | refine Gr.trans ?_ (by assumption)))⟩
  · go_enter Try.func25, Try.ntmps25
    go_wp2
    go_ret
    exact ⟨ret_bool (by simp [condB, Bool.beq_eq_decide_eq, bne, beq_eq_dec]), (by repeat (with_reducible first | assumption | exact Grown.refl _ | apply Grown.drew | apply Gr.drewN | apply Grown.alloc | (refine Grown.setCell ?_ (by simp) _) | refine Gr.trans ?_ (by assumption)))⟩
  · go_enter Try.func25, Try.ntmps25
    go_wp2
    go_ret
    exact ⟨ret_bool (by unfold condB; (repeat rw [if_neg (by omega)])), (by repeat (with_reducible first | assumption | exact Grown.refl _ | apply Grown.drew | apply Gr.drewN | apply Grown.alloc | (refine Grown.setCell ?_ (by simp) _) | refine Gr.trans ?_ (by assumption)))⟩
  · go_enter Try.func25, Try.ntmps25
    go_wp2
    go_ret
    exact ⟨ret_bool (by unfold condB; (repeat rw [if_neg (by omega)])), (by repeat (with_reducible first | assumption | exact Grown.refl _ | apply Grown.drew | apply Gr.drewN | apply Grown.alloc | (refine Grown.setCell ?_ (by simp) _) | refine Gr.trans ?_ (by assumption)))⟩
  · go_enter Try.func25, Try.ntmps25
    go_wp2
    go_ret
    exact ⟨ret_bool (by unfold condB; (repeat rw [if_neg (by omega)])), (by repeat (with_reducible first | assumption | exact Grown.refl _ | apply Grown.drew | apply Gr.drewN | apply Grown.alloc | (refine Grown.setCell ?_ (by simp) _) | refine Gr.trans ?_ (by assumption)))⟩
theorem rnot_calls (c : Int) (w : World) : Calls Try.prog 27 #[.int .i64 c] w fun e w' => e = .returned (.int .i64 (notV c)) ∧ Grown w w' := by
  rcases (by omega : c = 1 ∨ c = 2 ∨ c = 3 ∨ c = 4 ∨ c = 5 ∨ c = 6 ∨ c = 0 ∨ c < 0 ∨ 6 < c) with rfl | rfl | rfl | rfl | rfl | rfl | rfl | h | h
  · go_enter Try.func27, Try.ntmps27
    go_wp2
    go_ret
    exact ⟨ret_int (by simp [notV]), (by repeat (with_reducible first | assumption | exact Grown.refl _ | apply Grown.drew | apply Gr.drewN | apply Grown.alloc | (refine Grown.setCell ?_ (by simp) _) | refine Gr.trans ?_ (by assumption)))⟩
  · go_enter Try.func27, Try.ntmps27
    go_wp2
    go_ret
    exact ⟨ret_int (by simp [notV]), (by repeat (with_reducible first | assumption | exact Grown.refl _ | apply Grown.drew | apply Gr.drewN | apply Grown.alloc | (refine Grown.setCell ?_ (by simp) _) | refine Gr.trans ?_ (by assumption)))⟩
  · go_enter Try.func27, Try.ntmps27
    go_wp2
    go_ret
    exact ⟨ret_int (by simp [notV]), (by repeat (with_reducible first | assumption | exact Grown.refl _ | apply Grown.drew | apply Gr.drewN | apply Grown.alloc | (refine Grown.setCell ?_ (by simp) _) | refine Gr.trans ?_ (by assumption)))⟩
  · go_enter Try.func27, Try.ntmps27
    go_wp2
    go_ret
    exact ⟨ret_int (by simp [notV]), (by repeat (with_reducible first | assumption | exact Grown.refl _ | apply Grown.drew | apply Gr.drewN | apply Grown.alloc | (refine Grown.setCell ?_ (by simp) _) | refine Gr.trans ?_ (by assumption)))⟩
  · go_enter Try.func27, Try.ntmps27
    go_wp2
    go_ret
    exact ⟨ret_int (by simp [notV]), (by repeat (with_reducible first | assumption | exact Grown.refl _ | apply Grown.drew | apply Gr.drewN | apply Grown.alloc | (refine Grown.setCell ?_ (by simp) _) | refine Gr.trans ?_ (by assumption)))⟩
  · go_enter Try.func27, Try.ntmps27
    go_wp2
    go_ret
    exact ⟨ret_int (by simp [notV]), (by repeat (with_reducible first | assumption | exact Grown.refl _ | apply Grown.drew | apply Gr.drewN | apply Grown.alloc | (refine Grown.setCell ?_ (by simp) _) | refine Gr.trans ?_ (by assumption)))⟩
  · go_enter Try.func27, Try.ntmps27
    go_wp2
    go_ret
    exact ⟨ret_int (by unfold notV; (repeat rw [if_neg (by omega)])), (by repeat (with_reducible first | assumption | exact Grown.refl _ | apply Grown.drew | apply Gr.drewN | apply Grown.alloc | (refine Grown.setCell ?_ (by simp) _) | refine Gr.trans ?_ (by assumption)))⟩
  · go_enter Try.func27, Try.ntmps27
    go_wp2
    go_ret
    exact ⟨ret_int (by unfold notV; (repeat rw [if_neg (by omega)])), (by repeat (with_reducible first | assumption | exact Grown.refl _ | apply Grown.drew | apply Gr.drewN | apply Grown.alloc | (refine Grown.setCell ?_ (by simp) _) | refine Gr.trans ?_ (by assumption)))⟩
  · go_enter Try.func27, Try.ntmps27
    go_wp2
    go_ret
    exact ⟨ret_int (by unfold notV; (repeat rw [if_neg (by omega)])), (by repeat (with_reducible first | assumption | exact Grown.refl _ | apply Grown.drew | apply Gr.drewN | apply Grown.alloc | (refine Grown.setCell ?_ (by simp) _) | refine Gr.trans ?_ (by assumption)))⟩
theorem rswap_calls (c : Int) (w : World) : Calls Try.prog 29 #[.int .i64 c] w fun e w' => e = .returned (.int .i64 (swapV c)) ∧ Grown w w' := by
  rcases (by omega : c = 1 ∨ c = 2 ∨ c = 3 ∨ c = 4 ∨ c = 5 ∨ c = 6 ∨ c = 0 ∨ c < 0 ∨ 6 < c) with rfl | rfl | rfl | rfl | rfl | rfl | rfl | h | h
  · go_enter Try.func29, Try.ntmps29
    go_wp2
    go_ret
    exact ⟨ret_int (by simp [swapV]), (by repeat (with_reducible first | assumption | exact Grown.refl _ | apply Grown.drew | apply Gr.drewN | apply Grown.alloc | (refine Grown.setCell ?_ (by simp) _) | refine Gr.trans ?_ (by assumption)))⟩
  · go_enter Try.func29, Try.ntmps29
    go_wp2
    go_ret
    exact ⟨ret_int (by simp [swapV]), (by repeat (with_reducible first | assumption | exact Grown.refl _ | apply Grown.drew | apply Gr.drewN | apply Grown.alloc | (refine Grown.setCell ?_ (by simp) _) | refine Gr.trans ?_ (by assumption)))⟩
  · go_enter Try.func29, Try.ntmps29
    go_wp2
    go_ret
    exact ⟨ret_int (by simp [swapV]), (by repeat (with_reducible first | assumption | exact Grown.refl _ | apply Grown.drew | apply Gr.drewN | apply Grown.alloc | (refine Grown.setCell ?_ (by simp) _) | refine Gr.trans ?_ (by assumption)))⟩
  · go_enter Try.func29, Try.ntmps29
    go_wp2
    go_ret
    exact ⟨ret_int (by simp [swapV]), (by repeat (with_reducible first | assumption | exact Grown.refl _ | apply Grown.drew | apply Gr.drewN | apply Grown.alloc | (refine Grown.setCell ?_ (by simp) _) | refine Gr.trans ?_ (by assumption)))⟩
  · go_enter Try.func29, Try.ntmps29
    go_wp2
    go_ret
    exact ⟨ret_int (by simp [swapV]), (by repeat (with_reducible first | assumption | exact Grown.refl _ | apply Grown.drew | apply Gr.drewN | apply Grown.alloc | (refine Grown.setCell ?_ (by simp) _) | refine Gr.trans ?_ (by assumption)))⟩
  · go_enter Try.func29, Try.ntmps29
    go_wp2
    go_ret
    exact ⟨ret_int (by simp [swapV]), (by repeat (with_reducible first | assumption | exact Grown.refl _ | apply Grown.drew | apply Gr.drewN | apply Grown.alloc | (refine Grown.setCell ?_ (by simp) _) | refine Gr.trans ?_ (by assumption)))⟩
  · go_enter Try.func29, Try.ntmps29
    go_wp2
    go_ret
    exact ⟨ret_int (by unfold swapV; (repeat rw [if_neg (by omega)])), (by repeat (with_reducible first | assumption | exact Grown.refl _ | apply Grown.drew | apply Gr.drewN | apply Grown.alloc | (refine Grown.setCell ?_ (by simp) _) | refine Gr.trans ?_ (by assumption)))⟩
  · go_enter Try.func29, Try.ntmps29
    go_wp2
    go_ret
    exact ⟨ret_int (by unfold swapV; (repeat rw [if_neg (by omega)])), (by repeat (with_reducible first | assumption | exact Grown.refl _ | apply Grown.drew | apply Gr.drewN | apply Grown.alloc | (refine Grown.setCell ?_ (by simp) _) | refine Gr.trans ?_ (by assumption)))⟩
  · go_enter Try.func29, Try.ntmps29
    go_wp2
    go_ret
    exact ⟨ret_int (by unfold swapV; (repeat rw [if_neg (by omega)])), (by repeat (with_reducible first | assumption | exact Grown.refl _ | apply Grown.drew | apply Gr.drewN | apply Grown.alloc | (refine Grown.setCell ?_ (by simp) _) | refine Gr.trans ?_ (by assumption)))⟩
theorem cond_calls (c a b : Int) (w : World) : Calls Try.prog 24 #[.int .i64 c, .int .i64 a, .int .i64 b] w fun e w' => e = .returned (.bool (condB c a b)) ∧ Grown w w' := by
  rcases (by omega : c = 1 ∨ c = 2 ∨ c = 3 ∨ c = 4 ∨ c = 5 ∨ c = 6 ∨ c = 0 ∨ c < 0 ∨ 6 < c) with rfl | rfl | rfl | rfl | rfl | rfl | rfl | h | h
  · go_enter Try.func24, Try.ntmps24
    go_wp2
    go_ret
    exact ⟨ret_bool (by simp [condB, Bool.beq_eq_decide_eq, bne, beq_eq_dec]), (by repeat (with_reducible first | assumption | exact Grown.refl _ | apply Grown.drew | apply Gr.drewN | apply Grown.alloc | (refine Grown.setCell ?_ (by simp) _) | refine Gr.trans ?_ (by assumption)))⟩
  · go_enter Try.func24, Try.ntmps24
    go_wp2
    go_ret
    exact ⟨ret_bool (by simp [condB, Bool.beq_eq_decide_eq, bne, beq_eq_dec]), (by repeat (with_reducible first | assumption | exact Grown.refl _ | apply Grown.drew | apply Gr.drewN | apply Grown.alloc | (refine Grown.setCell ?_ (by simp) _) | refine Gr.trans ?_ (by assumption)))⟩
  · go_enter Try.func24, Try.ntmps24
    go_wp2
    go_ret
    exact ⟨ret_bool (by simp [condB, Bool.beq_eq_decide_eq, bne, beq_eq_dec]), (by repeat (with_reducible first | assumption | exact Grown.refl _ | apply Grown.drew | apply Gr.drewN | apply Grown.alloc | (refine Grown.setCell ?_ (by simp) _) | refine Gr.trans ?_ (by assumption)))⟩
  · go_enter Try.func24, Try.ntmps24
    go_wp2
    go_ret
    exact ⟨ret_bool (by simp [condB, Bool.beq_eq_decide_eq, bne, beq_eq_dec]), (by repeat (with_reducible first | assumption | exact Grown.refl _ | apply Grown.drew | apply Gr.drewN | apply Grown.alloc | (refine Grown.setCell ?_ (by simp) _) | refine Gr.trans ?_ (by assumption)))⟩
  · go_enter Try.func24, Try.ntmps24
    go_wp2
    go_ret
    exact ⟨ret_bool (by simp [condB, Bool.beq_eq_decide_eq, bne, beq_eq_dec]), (by repeat (with_reducible first | assumption | exact Grown.refl _ | apply Grown.drew | apply Gr.drewN | apply Grown.alloc | (refine Grown.setCell ?_ (by simp) _) | refine Gr.trans ?_ (by assumption)))⟩
  · go_enter Try.func24, Try.ntmps24
    go_wp2
    go_ret
    exact ⟨ret_bool (by simp [condB, Bool.beq_eq_decide_eq, bne, beq_eq_dec]), (by repeat (with_reducible first | assumption | exact Grown.refl _ | apply Grown.drew | apply Gr.drewN | apply Grown.alloc | (refine Grown.setCell ?_ (by simp) _) | refine Gr.trans ?_ (by assumption)))⟩
  · go_enter Try.func24, Try.ntmps24
    go_wp2
    go_ret
    exact ⟨ret_bool (by unfold condB; (repeat rw [if_neg (by omega)])), (by repeat (with_reducible first | assumption | exact Grown.refl _ | apply Grown.drew | apply Gr.drewN | apply Grown.alloc | (refine Grown.setCell ?_ (by simp) _) | refine Gr.trans ?_ (by assumption)))⟩
  · go_enter Try.func24, Try.ntmps24
    go_wp2
    go_ret
    exact ⟨ret_bool (by unfold condB; (repeat rw [if_neg (by omega)])), (by repeat (with_reducible first | assumption | exact Grown.refl _ | apply Grown.drew | apply Gr.drewN | apply Grown.alloc | (refine Grown.setCell ?_ (by simp) _) | refine Gr.trans ?_ (by assumption)))⟩
  · go_enter Try.func24, Try.ntmps24
    go_wp2
    go_ret
    exact ⟨ret_bool (by unfold condB; (repeat rw [if_neg (by omega)])), (by repeat (with_reducible first | assumption | exact Grown.refl _ | apply Grown.drew | apply Gr.drewN | apply Grown.alloc | (refine Grown.setCell ?_ (by simp) _) | refine Gr.trans ?_ (by assumption)))⟩
theorem not_calls (c : Int) (w : World) : Calls Try.prog 26 #[.int .i64 c] w fun e w' => e = .returned (.int .i64 (notV c)) ∧ Grown w w' := by
  rcases (by omega : c = 1 ∨ c = 2 ∨ c = 3 ∨ c = 4 ∨ c = 5 ∨ c = 6 ∨ c = 0 ∨ c < 0 ∨ 6 < c) with rfl | rfl | rfl | rfl | rfl | rfl | rfl | h | h
  · go_enter Try.func26, Try.ntmps26
    go_wp2
    go_ret
    exact ⟨ret_int (by simp [notV]), (by repeat (with_reducible first | assumption | exact Grown.refl _ | apply Grown.drew | apply Gr.drewN | apply Grown.alloc | (refine Grown.setCell ?_ (by simp) _) | refine Gr.trans ?_ (by assumption)))⟩
  · go_enter Try.func26, Try.ntmps26
    go_wp2
    go_ret
    exact ⟨ret_int (by simp [notV]), (by repeat (with_reducible first | assumption | exact Grown.refl _ | apply Grown.drew | apply Gr.drewN | apply Grown.alloc | (refine Grown.setCell ?_ (by simp) _) | refine Gr.trans ?_ (by assumption)))⟩
  · go_enter Try.func26, Try.ntmps26
    go_wp2
    go_ret
    exact ⟨ret_int (by simp [notV]), (by repeat (with_reducible first | assumption | exact Grown.refl _ | apply Grown.drew | apply Gr.drewN | apply Grown.alloc | (refine Grown.setCell ?_ (by simp) _) | refine Gr.trans ?_ (by assumption)))⟩
  · go_enter Try.func26, Try.ntmps26
    go_wp2
    go_ret
    exact ⟨ret_int (by simp [notV]), (by repeat (with_reducible first | assumption | exact Grown.refl _ | apply Grown.drew | apply Gr.drewN | apply Grown.alloc | (refine Grown.setCell ?_ (by simp) _) | refine Gr.trans ?_ (by assumption)))⟩
  · go_enter Try.func26, Try.ntmps26
    go_wp2
    go_ret
    exact ⟨ret_int (by simp [notV]), (by repeat (with_reducible first | assumption | exact Grown.refl _ | apply Grown.drew | apply Gr.drewN | apply Grown.alloc | (refine Grown.setCell ?_ (by simp) _) | refine Gr.trans ?_ (by assumption)))⟩
  · go_enter Try.func26, Try.ntmps26
    go_wp2
    go_ret
    exact ⟨ret_int (by simp [notV]), (by repeat (with_reducible first | assumption | exact Grown.refl _ | apply Grown.drew | apply Gr.drewN | apply Grown.alloc | (refine Grown.setCell ?_ (by simp) _) | refine Gr.trans ?_ (by assumption)))⟩
  · go_enter Try.func26, Try.ntmps26
    go_wp2
    go_ret
    exact ⟨ret_int (by unfold notV; (repeat rw [if_neg (by omega)])), (by repeat (with_reducible first | assumption | exact Grown.refl _ | apply Grown.drew | apply Gr.drewN | apply Grown.alloc | (refine Grown.setCell ?_ (by simp) _) | refine Gr.trans ?_ (by assumption)))⟩
  · go_enter Try.func26, Try.ntmps26
    go_wp2
    go_ret
    exact ⟨ret_int (by unfold notV; (repeat rw [if_neg (by omega)])), (by repeat (with_reducible first | assumption | exact Grown.refl _ | apply Grown.drew | apply Gr.drewN | apply Grown.alloc | (refine Grown.setCell ?_ (by simp) _) | refine Gr.trans ?_ (by assumption)))⟩
  · go_enter Try.func26, Try.ntmps26
    go_wp2
    go_ret
    exact ⟨ret_int (by unfold notV; (repeat rw [if_neg (by omega)])), (by repeat (with_reducible first | assumption | exact Grown.refl _ | apply Grown.drew | apply Gr.drewN | apply Grown.alloc | (refine Grown.setCell ?_ (by simp) _) | refine Gr.trans ?_ (by assumption)))⟩
theorem swap_calls (c : Int) (w : World) : Calls Try.prog 28 #[.int .i64 c] w fun e w' => e = .returned (.int .i64 (swapV c)) ∧ Grown w w' := by
  rcases (by omega : c = 1 ∨ c = 2 ∨ c = 3 ∨ c = 4 ∨ c = 5 ∨ c = 6 ∨ c = 0 ∨ c < 0 ∨ 6 < c) with rfl | rfl | rfl | rfl | rfl | rfl | rfl | h | h
  · go_enter Try.func28, Try.ntmps28
    go_wp2
    go_ret
    exact ⟨ret_int (by simp [swapV]), (by repeat (with_reducible first | assumption | exact Grown.refl _ | apply Grown.drew | apply Gr.drewN | apply Grown.alloc | (refine Grown.setCell ?_ (by simp) _) | refine Gr.trans ?_ (by assumption)))⟩
  · go_enter Try.func28, Try.ntmps28
    go_wp2
    go_ret
    exact ⟨ret_int (by simp [swapV]), (by repeat (with_reducible first | assumption | exact Grown.refl _ | apply Grown.drew | apply Gr.drewN | apply Grown.alloc | (refine Grown.setCell ?_ (by simp) _) | refine Gr.trans ?_ (by assumption)))⟩
  · go_enter Try.func28, Try.ntmps28
    go_wp2
    go_ret
    exact ⟨ret_int (by simp [swapV]), (by repeat (with_reducible first | assumption | exact Grown.refl _ | apply Grown.drew | apply Gr.drewN | apply Grown.alloc | (refine Grown.setCell ?_ (by simp) _) | refine Gr.trans ?_ (by assumption)))⟩
  · go_enter Try.func28, Try.ntmps28
    go_wp2
    go_ret
    exact ⟨ret_int (by simp [swapV]), (by repeat (with_reducible first | assumption | exact Grown.refl _ | apply Grown.drew | apply Gr.drewN | apply Grown.alloc | (refine Grown.setCell ?_ (by simp) _) | refine Gr.trans ?_ (by assumption)))⟩
  · go_enter Try.func28, Try.ntmps28
    go_wp2
    go_ret
    exact ⟨ret_int (by simp [swapV]), (by repeat (with_reducible first | assumption | exact Grown.refl _ | apply Grown.drew | apply Gr.drewN | apply Grown.alloc | (refine Grown.setCell ?_ (by simp) _) | refine Gr.trans ?_ (by assumption)))⟩
  · go_enter Try.func28, Try.ntmps28
    go_wp2
    go_ret
    exact ⟨ret_int (by simp [swapV]), (by repeat (with_reducible first | assumption | exact Grown.refl _ | apply Grown.drew | apply Gr.drewN | apply Grown.alloc | (refine Grown.setCell ?_ (by simp) _) | refine Gr.trans ?_ (by assumption)))⟩
  · go_enter Try.func28, Try.ntmps28
    go_wp2
    go_ret
    exact ⟨ret_int (by unfold swapV; (repeat rw [if_neg (by omega)])), (by repeat (with_reducible first | assumption | exact Grown.refl _ | apply Grown.drew | apply Gr.drewN | apply Grown.alloc | (refine Grown.setCell ?_ (by simp) _) | refine Gr.trans ?_ (by assumption)))⟩
  · go_enter Try.func28, Try.ntmps28
    go_wp2
    go_ret
    exact ⟨ret_int (by unfold swapV; (repeat rw [if_neg (by omega)])), (by repeat (with_reducible first | assumption | exact Grown.refl _ | apply Grown.drew | apply Gr.drewN | apply Grown.alloc | (refine Grown.setCell ?_ (by simp) _) | refine Gr.trans ?_ (by assumption)))⟩
  · go_enter Try.func28, Try.ntmps28
    go_wp2
    go_ret
    exact ⟨ret_int (by unfold swapV; (repeat rw [if_neg (by omega)])), (by repeat (with_reducible first | assumption | exact Grown.refl _ | apply Grown.drew | apply Gr.drewN | apply Grown.alloc | (refine Grown.setCell ?_ (by simp) _) | refine Gr.trans ?_ (by assumption)))⟩
end Go.Proofs.Ytlnbekmlppmmmaa.Ar
