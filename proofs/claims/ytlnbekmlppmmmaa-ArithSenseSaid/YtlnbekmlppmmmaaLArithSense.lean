/- For every input the law ArithSense returns true, and each argument reads behind the call as it read before. No condition. The frame is a template of the kit; the walk is own work. -/
import Derived.Test.YtlnbekmlppmmmaaA3
import Derived.Test.YtlnbekmlppmmmaaRows
import Derived.WalkKit
import Derived.ProofKit
import Derived.OpenShut
namespace Go.Proofs.Ytlnbekmlppmmmaa.arithSense
open Go.Proofs.Ytlnbekmlppmmmaa.Ar
open Go.ChangeShapes Go.WideShapes Go.ChangeAt Go.RowKit
set_option linter.unusedSimpArgs false
set_option linter.unusedVariables false      -- a walk need not use every 'w<i>' (that an integer argument fits its kind)

theorem own : ownKnob Try.prog.godebug = none := by kernel_rfl

/-! ### STEP 1: THE WALK: the Go text returns true. 'Grown w w'': the world has at most new blocks (Derived/RowKit3.lean). Part the cases AHEAD of 'go_enter' where a test parts the walk; take each callee by a contract of your own. -/
set_option maxHeartbeats 2000000 in
theorem walk (a0 : Int) (a1 : Int) (a2 : Int) (w0 : (Lit.int .i64 a0).wf = true) (w1 : (Lit.int .i64 a1).wf = true) (w2 : (Lit.int .i64 a2).wf = true) (w : World) :
    Calls Try.prog 8 #[.int .i64 a0, .int .i64 a1, .int .i64 a2] w fun e w' => e = .returned (.bool true) ∧ Grown w w' := by
  rcases (by omega : a0 = 1 ∨ a0 = 2 ∨ a0 = 3 ∨ a0 = 4 ∨ a0 = 5 ∨ a0 = 6 ∨ a0 < 1 ∨ 6 < a0) with rfl | rfl | rfl | rfl | rfl | rfl | h | h
  · have k1 : notV 1 = 2 := by decide +kernel
    have k2 : notV 2 = 1 := by decide +kernel
    have k3 : swapV 1 = 1 := by decide +kernel
    have k4 : swapV 1 = 1 := by decide +kernel
    have g1 := not_is 1 2 k1
    have g2 := not_is 2 1 k2
    have g3 := swap_is 1 1 k3
    have g4 := swap_is 1 1 k4
    have G1 := Lib.hid g1
    have G2 := Lib.hid g2
    have G3 := Lib.hid g3
    have G4 := Lib.hid g4
    clear g1 g2 g3 g4 k1 k2 k3 k4
    cases hT : condB 1 a1 a2
    · have f1 := cond_is 1 a1 a2 false hT
      have f2 := cond_is 2 a1 a2 true (by simp [condB] at hT ⊢; omega)
      have f3 := cond_is 1 a2 a1 false (by simp [condB] at hT ⊢; omega)
      have F1 := Lib.hid f1
      have F2 := Lib.hid f2
      have F3 := Lib.hid f3
      clear f1 f2 f3 hT
      go_enter Try.func8, Try.ntmps8
      go_wp2_with (first | (go_at_call 10; (with_reducible refine (live_calls _).mono ?_); rintro e w10 ⟨rfl, hg10⟩)| (go_at_call 24; (with_reducible refine (F1.out _).mono ?_); rintro e w24 ⟨rfl, hg24⟩)| (go_at_call 24; (with_reducible refine (F2.out _).mono ?_); rintro e w24 ⟨rfl, hg24⟩)| (go_at_call 24; (with_reducible refine (F3.out _).mono ?_); rintro e w24 ⟨rfl, hg24⟩)| (go_at_call 26; (with_reducible refine (G1.out _).mono ?_); rintro e w26 ⟨rfl, hg26⟩)| (go_at_call 26; (with_reducible refine (G2.out _).mono ?_); rintro e w26 ⟨rfl, hg26⟩)| (go_at_call 28; (with_reducible refine (G3.out _).mono ?_); rintro e w28 ⟨rfl, hg28⟩)| (go_at_call 28; (with_reducible refine (G4.out _).mono ?_); rintro e w28 ⟨rfl, hg28⟩))
      go_ret
      exact ⟨ret_bool (by simp), (by repeat (with_reducible first | assumption | exact Grown.refl _ | apply Grown.drew | apply Gr.drewN | apply Grown.alloc | (refine Grown.setCell ?_ (by simp) _) | refine Gr.trans ?_ (by assumption)))⟩
    · have f1 := cond_is 1 a1 a2 true hT
      have f2 := cond_is 2 a1 a2 false (by simp [condB] at hT ⊢; omega)
      have f3 := cond_is 1 a2 a1 true (by simp [condB] at hT ⊢; omega)
      have F1 := Lib.hid f1
      have F2 := Lib.hid f2
      have F3 := Lib.hid f3
      clear f1 f2 f3 hT
      go_enter Try.func8, Try.ntmps8
      go_wp2_with (first | (go_at_call 10; (with_reducible refine (live_calls _).mono ?_); rintro e w10 ⟨rfl, hg10⟩)| (go_at_call 24; (with_reducible refine (F1.out _).mono ?_); rintro e w24 ⟨rfl, hg24⟩)| (go_at_call 24; (with_reducible refine (F2.out _).mono ?_); rintro e w24 ⟨rfl, hg24⟩)| (go_at_call 24; (with_reducible refine (F3.out _).mono ?_); rintro e w24 ⟨rfl, hg24⟩)| (go_at_call 26; (with_reducible refine (G1.out _).mono ?_); rintro e w26 ⟨rfl, hg26⟩)| (go_at_call 26; (with_reducible refine (G2.out _).mono ?_); rintro e w26 ⟨rfl, hg26⟩)| (go_at_call 28; (with_reducible refine (G3.out _).mono ?_); rintro e w28 ⟨rfl, hg28⟩)| (go_at_call 28; (with_reducible refine (G4.out _).mono ?_); rintro e w28 ⟨rfl, hg28⟩))
      go_ret
      exact ⟨ret_bool (by simp), (by repeat (with_reducible first | assumption | exact Grown.refl _ | apply Grown.drew | apply Gr.drewN | apply Grown.alloc | (refine Grown.setCell ?_ (by simp) _) | refine Gr.trans ?_ (by assumption)))⟩
  · have k1 : notV 2 = 1 := by decide +kernel
    have k2 : notV 1 = 2 := by decide +kernel
    have k3 : swapV 2 = 2 := by decide +kernel
    have k4 : swapV 2 = 2 := by decide +kernel
    have g1 := not_is 2 1 k1
    have g2 := not_is 1 2 k2
    have g3 := swap_is 2 2 k3
    have g4 := swap_is 2 2 k4
    have G1 := Lib.hid g1
    have G2 := Lib.hid g2
    have G3 := Lib.hid g3
    have G4 := Lib.hid g4
    clear g1 g2 g3 g4 k1 k2 k3 k4
    cases hT : condB 2 a1 a2
    · have f1 := cond_is 2 a1 a2 false hT
      have f2 := cond_is 1 a1 a2 true (by simp [condB] at hT ⊢; omega)
      have f3 := cond_is 2 a2 a1 false (by simp [condB] at hT ⊢; omega)
      have F1 := Lib.hid f1
      have F2 := Lib.hid f2
      have F3 := Lib.hid f3
      clear f1 f2 f3 hT
      go_enter Try.func8, Try.ntmps8
      go_wp2_with (first | (go_at_call 10; (with_reducible refine (live_calls _).mono ?_); rintro e w10 ⟨rfl, hg10⟩)| (go_at_call 24; (with_reducible refine (F1.out _).mono ?_); rintro e w24 ⟨rfl, hg24⟩)| (go_at_call 24; (with_reducible refine (F2.out _).mono ?_); rintro e w24 ⟨rfl, hg24⟩)| (go_at_call 24; (with_reducible refine (F3.out _).mono ?_); rintro e w24 ⟨rfl, hg24⟩)| (go_at_call 26; (with_reducible refine (G1.out _).mono ?_); rintro e w26 ⟨rfl, hg26⟩)| (go_at_call 26; (with_reducible refine (G2.out _).mono ?_); rintro e w26 ⟨rfl, hg26⟩)| (go_at_call 28; (with_reducible refine (G3.out _).mono ?_); rintro e w28 ⟨rfl, hg28⟩)| (go_at_call 28; (with_reducible refine (G4.out _).mono ?_); rintro e w28 ⟨rfl, hg28⟩))
      go_ret
      exact ⟨ret_bool (by simp), (by repeat (with_reducible first | assumption | exact Grown.refl _ | apply Grown.drew | apply Gr.drewN | apply Grown.alloc | (refine Grown.setCell ?_ (by simp) _) | refine Gr.trans ?_ (by assumption)))⟩
    · have f1 := cond_is 2 a1 a2 true hT
      have f2 := cond_is 1 a1 a2 false (by simp [condB] at hT ⊢; omega)
      have f3 := cond_is 2 a2 a1 true (by simp [condB] at hT ⊢; omega)
      have F1 := Lib.hid f1
      have F2 := Lib.hid f2
      have F3 := Lib.hid f3
      clear f1 f2 f3 hT
      go_enter Try.func8, Try.ntmps8
      go_wp2_with (first | (go_at_call 10; (with_reducible refine (live_calls _).mono ?_); rintro e w10 ⟨rfl, hg10⟩)| (go_at_call 24; (with_reducible refine (F1.out _).mono ?_); rintro e w24 ⟨rfl, hg24⟩)| (go_at_call 24; (with_reducible refine (F2.out _).mono ?_); rintro e w24 ⟨rfl, hg24⟩)| (go_at_call 24; (with_reducible refine (F3.out _).mono ?_); rintro e w24 ⟨rfl, hg24⟩)| (go_at_call 26; (with_reducible refine (G1.out _).mono ?_); rintro e w26 ⟨rfl, hg26⟩)| (go_at_call 26; (with_reducible refine (G2.out _).mono ?_); rintro e w26 ⟨rfl, hg26⟩)| (go_at_call 28; (with_reducible refine (G3.out _).mono ?_); rintro e w28 ⟨rfl, hg28⟩)| (go_at_call 28; (with_reducible refine (G4.out _).mono ?_); rintro e w28 ⟨rfl, hg28⟩))
      go_ret
      exact ⟨ret_bool (by simp), (by repeat (with_reducible first | assumption | exact Grown.refl _ | apply Grown.drew | apply Gr.drewN | apply Grown.alloc | (refine Grown.setCell ?_ (by simp) _) | refine Gr.trans ?_ (by assumption)))⟩
  · have k1 : notV 3 = 4 := by decide +kernel
    have k2 : notV 4 = 3 := by decide +kernel
    have k3 : swapV 3 = 5 := by decide +kernel
    have k4 : swapV 5 = 3 := by decide +kernel
    have g1 := not_is 3 4 k1
    have g2 := not_is 4 3 k2
    have g3 := swap_is 3 5 k3
    have g4 := swap_is 5 3 k4
    have G1 := Lib.hid g1
    have G2 := Lib.hid g2
    have G3 := Lib.hid g3
    have G4 := Lib.hid g4
    clear g1 g2 g3 g4 k1 k2 k3 k4
    cases hT : condB 3 a1 a2
    · have f1 := cond_is 3 a1 a2 false hT
      have f2 := cond_is 4 a1 a2 true (by simp [condB] at hT ⊢; omega)
      have f3 := cond_is 5 a2 a1 false (by simp [condB] at hT ⊢; omega)
      have F1 := Lib.hid f1
      have F2 := Lib.hid f2
      have F3 := Lib.hid f3
      clear f1 f2 f3 hT
      go_enter Try.func8, Try.ntmps8
      go_wp2_with (first | (go_at_call 10; (with_reducible refine (live_calls _).mono ?_); rintro e w10 ⟨rfl, hg10⟩)| (go_at_call 24; (with_reducible refine (F1.out _).mono ?_); rintro e w24 ⟨rfl, hg24⟩)| (go_at_call 24; (with_reducible refine (F2.out _).mono ?_); rintro e w24 ⟨rfl, hg24⟩)| (go_at_call 24; (with_reducible refine (F3.out _).mono ?_); rintro e w24 ⟨rfl, hg24⟩)| (go_at_call 26; (with_reducible refine (G1.out _).mono ?_); rintro e w26 ⟨rfl, hg26⟩)| (go_at_call 26; (with_reducible refine (G2.out _).mono ?_); rintro e w26 ⟨rfl, hg26⟩)| (go_at_call 28; (with_reducible refine (G3.out _).mono ?_); rintro e w28 ⟨rfl, hg28⟩)| (go_at_call 28; (with_reducible refine (G4.out _).mono ?_); rintro e w28 ⟨rfl, hg28⟩))
      go_ret
      exact ⟨ret_bool (by simp), (by repeat (with_reducible first | assumption | exact Grown.refl _ | apply Grown.drew | apply Gr.drewN | apply Grown.alloc | (refine Grown.setCell ?_ (by simp) _) | refine Gr.trans ?_ (by assumption)))⟩
    · have f1 := cond_is 3 a1 a2 true hT
      have f2 := cond_is 4 a1 a2 false (by simp [condB] at hT ⊢; omega)
      have f3 := cond_is 5 a2 a1 true (by simp [condB] at hT ⊢; omega)
      have F1 := Lib.hid f1
      have F2 := Lib.hid f2
      have F3 := Lib.hid f3
      clear f1 f2 f3 hT
      go_enter Try.func8, Try.ntmps8
      go_wp2_with (first | (go_at_call 10; (with_reducible refine (live_calls _).mono ?_); rintro e w10 ⟨rfl, hg10⟩)| (go_at_call 24; (with_reducible refine (F1.out _).mono ?_); rintro e w24 ⟨rfl, hg24⟩)| (go_at_call 24; (with_reducible refine (F2.out _).mono ?_); rintro e w24 ⟨rfl, hg24⟩)| (go_at_call 24; (with_reducible refine (F3.out _).mono ?_); rintro e w24 ⟨rfl, hg24⟩)| (go_at_call 26; (with_reducible refine (G1.out _).mono ?_); rintro e w26 ⟨rfl, hg26⟩)| (go_at_call 26; (with_reducible refine (G2.out _).mono ?_); rintro e w26 ⟨rfl, hg26⟩)| (go_at_call 28; (with_reducible refine (G3.out _).mono ?_); rintro e w28 ⟨rfl, hg28⟩)| (go_at_call 28; (with_reducible refine (G4.out _).mono ?_); rintro e w28 ⟨rfl, hg28⟩))
      go_ret
      exact ⟨ret_bool (by simp), (by repeat (with_reducible first | assumption | exact Grown.refl _ | apply Grown.drew | apply Gr.drewN | apply Grown.alloc | (refine Grown.setCell ?_ (by simp) _) | refine Gr.trans ?_ (by assumption)))⟩
  · have k1 : notV 4 = 3 := by decide +kernel
    have k2 : notV 3 = 4 := by decide +kernel
    have k3 : swapV 4 = 6 := by decide +kernel
    have k4 : swapV 6 = 4 := by decide +kernel
    have g1 := not_is 4 3 k1
    have g2 := not_is 3 4 k2
    have g3 := swap_is 4 6 k3
    have g4 := swap_is 6 4 k4
    have G1 := Lib.hid g1
    have G2 := Lib.hid g2
    have G3 := Lib.hid g3
    have G4 := Lib.hid g4
    clear g1 g2 g3 g4 k1 k2 k3 k4
    cases hT : condB 4 a1 a2
    · have f1 := cond_is 4 a1 a2 false hT
      have f2 := cond_is 3 a1 a2 true (by simp [condB] at hT ⊢; omega)
      have f3 := cond_is 6 a2 a1 false (by simp [condB] at hT ⊢; omega)
      have F1 := Lib.hid f1
      have F2 := Lib.hid f2
      have F3 := Lib.hid f3
      clear f1 f2 f3 hT
      go_enter Try.func8, Try.ntmps8
      go_wp2_with (first | (go_at_call 10; (with_reducible refine (live_calls _).mono ?_); rintro e w10 ⟨rfl, hg10⟩)| (go_at_call 24; (with_reducible refine (F1.out _).mono ?_); rintro e w24 ⟨rfl, hg24⟩)| (go_at_call 24; (with_reducible refine (F2.out _).mono ?_); rintro e w24 ⟨rfl, hg24⟩)| (go_at_call 24; (with_reducible refine (F3.out _).mono ?_); rintro e w24 ⟨rfl, hg24⟩)| (go_at_call 26; (with_reducible refine (G1.out _).mono ?_); rintro e w26 ⟨rfl, hg26⟩)| (go_at_call 26; (with_reducible refine (G2.out _).mono ?_); rintro e w26 ⟨rfl, hg26⟩)| (go_at_call 28; (with_reducible refine (G3.out _).mono ?_); rintro e w28 ⟨rfl, hg28⟩)| (go_at_call 28; (with_reducible refine (G4.out _).mono ?_); rintro e w28 ⟨rfl, hg28⟩))
      go_ret
      exact ⟨ret_bool (by simp), (by repeat (with_reducible first | assumption | exact Grown.refl _ | apply Grown.drew | apply Gr.drewN | apply Grown.alloc | (refine Grown.setCell ?_ (by simp) _) | refine Gr.trans ?_ (by assumption)))⟩
    · have f1 := cond_is 4 a1 a2 true hT
      have f2 := cond_is 3 a1 a2 false (by simp [condB] at hT ⊢; omega)
      have f3 := cond_is 6 a2 a1 true (by simp [condB] at hT ⊢; omega)
      have F1 := Lib.hid f1
      have F2 := Lib.hid f2
      have F3 := Lib.hid f3
      clear f1 f2 f3 hT
      go_enter Try.func8, Try.ntmps8
      go_wp2_with (first | (go_at_call 10; (with_reducible refine (live_calls _).mono ?_); rintro e w10 ⟨rfl, hg10⟩)| (go_at_call 24; (with_reducible refine (F1.out _).mono ?_); rintro e w24 ⟨rfl, hg24⟩)| (go_at_call 24; (with_reducible refine (F2.out _).mono ?_); rintro e w24 ⟨rfl, hg24⟩)| (go_at_call 24; (with_reducible refine (F3.out _).mono ?_); rintro e w24 ⟨rfl, hg24⟩)| (go_at_call 26; (with_reducible refine (G1.out _).mono ?_); rintro e w26 ⟨rfl, hg26⟩)| (go_at_call 26; (with_reducible refine (G2.out _).mono ?_); rintro e w26 ⟨rfl, hg26⟩)| (go_at_call 28; (with_reducible refine (G3.out _).mono ?_); rintro e w28 ⟨rfl, hg28⟩)| (go_at_call 28; (with_reducible refine (G4.out _).mono ?_); rintro e w28 ⟨rfl, hg28⟩))
      go_ret
      exact ⟨ret_bool (by simp), (by repeat (with_reducible first | assumption | exact Grown.refl _ | apply Grown.drew | apply Gr.drewN | apply Grown.alloc | (refine Grown.setCell ?_ (by simp) _) | refine Gr.trans ?_ (by assumption)))⟩
  · have k1 : notV 5 = 6 := by decide +kernel
    have k2 : notV 6 = 5 := by decide +kernel
    have k3 : swapV 5 = 3 := by decide +kernel
    have k4 : swapV 3 = 5 := by decide +kernel
    have g1 := not_is 5 6 k1
    have g2 := not_is 6 5 k2
    have g3 := swap_is 5 3 k3
    have g4 := swap_is 3 5 k4
    have G1 := Lib.hid g1
    have G2 := Lib.hid g2
    have G3 := Lib.hid g3
    have G4 := Lib.hid g4
    clear g1 g2 g3 g4 k1 k2 k3 k4
    cases hT : condB 5 a1 a2
    · have f1 := cond_is 5 a1 a2 false hT
      have f2 := cond_is 6 a1 a2 true (by simp [condB] at hT ⊢; omega)
      have f3 := cond_is 3 a2 a1 false (by simp [condB] at hT ⊢; omega)
      have F1 := Lib.hid f1
      have F2 := Lib.hid f2
      have F3 := Lib.hid f3
      clear f1 f2 f3 hT
      go_enter Try.func8, Try.ntmps8
      go_wp2_with (first | (go_at_call 10; (with_reducible refine (live_calls _).mono ?_); rintro e w10 ⟨rfl, hg10⟩)| (go_at_call 24; (with_reducible refine (F1.out _).mono ?_); rintro e w24 ⟨rfl, hg24⟩)| (go_at_call 24; (with_reducible refine (F2.out _).mono ?_); rintro e w24 ⟨rfl, hg24⟩)| (go_at_call 24; (with_reducible refine (F3.out _).mono ?_); rintro e w24 ⟨rfl, hg24⟩)| (go_at_call 26; (with_reducible refine (G1.out _).mono ?_); rintro e w26 ⟨rfl, hg26⟩)| (go_at_call 26; (with_reducible refine (G2.out _).mono ?_); rintro e w26 ⟨rfl, hg26⟩)| (go_at_call 28; (with_reducible refine (G3.out _).mono ?_); rintro e w28 ⟨rfl, hg28⟩)| (go_at_call 28; (with_reducible refine (G4.out _).mono ?_); rintro e w28 ⟨rfl, hg28⟩))
      go_ret
      exact ⟨ret_bool (by simp), (by repeat (with_reducible first | assumption | exact Grown.refl _ | apply Grown.drew | apply Gr.drewN | apply Grown.alloc | (refine Grown.setCell ?_ (by simp) _) | refine Gr.trans ?_ (by assumption)))⟩
    · have f1 := cond_is 5 a1 a2 true hT
      have f2 := cond_is 6 a1 a2 false (by simp [condB] at hT ⊢; omega)
      have f3 := cond_is 3 a2 a1 true (by simp [condB] at hT ⊢; omega)
      have F1 := Lib.hid f1
      have F2 := Lib.hid f2
      have F3 := Lib.hid f3
      clear f1 f2 f3 hT
      go_enter Try.func8, Try.ntmps8
      go_wp2_with (first | (go_at_call 10; (with_reducible refine (live_calls _).mono ?_); rintro e w10 ⟨rfl, hg10⟩)| (go_at_call 24; (with_reducible refine (F1.out _).mono ?_); rintro e w24 ⟨rfl, hg24⟩)| (go_at_call 24; (with_reducible refine (F2.out _).mono ?_); rintro e w24 ⟨rfl, hg24⟩)| (go_at_call 24; (with_reducible refine (F3.out _).mono ?_); rintro e w24 ⟨rfl, hg24⟩)| (go_at_call 26; (with_reducible refine (G1.out _).mono ?_); rintro e w26 ⟨rfl, hg26⟩)| (go_at_call 26; (with_reducible refine (G2.out _).mono ?_); rintro e w26 ⟨rfl, hg26⟩)| (go_at_call 28; (with_reducible refine (G3.out _).mono ?_); rintro e w28 ⟨rfl, hg28⟩)| (go_at_call 28; (with_reducible refine (G4.out _).mono ?_); rintro e w28 ⟨rfl, hg28⟩))
      go_ret
      exact ⟨ret_bool (by simp), (by repeat (with_reducible first | assumption | exact Grown.refl _ | apply Grown.drew | apply Gr.drewN | apply Grown.alloc | (refine Grown.setCell ?_ (by simp) _) | refine Gr.trans ?_ (by assumption)))⟩
  · have k1 : notV 6 = 5 := by decide +kernel
    have k2 : notV 5 = 6 := by decide +kernel
    have k3 : swapV 6 = 4 := by decide +kernel
    have k4 : swapV 4 = 6 := by decide +kernel
    have g1 := not_is 6 5 k1
    have g2 := not_is 5 6 k2
    have g3 := swap_is 6 4 k3
    have g4 := swap_is 4 6 k4
    have G1 := Lib.hid g1
    have G2 := Lib.hid g2
    have G3 := Lib.hid g3
    have G4 := Lib.hid g4
    clear g1 g2 g3 g4 k1 k2 k3 k4
    cases hT : condB 6 a1 a2
    · have f1 := cond_is 6 a1 a2 false hT
      have f2 := cond_is 5 a1 a2 true (by simp [condB] at hT ⊢; omega)
      have f3 := cond_is 4 a2 a1 false (by simp [condB] at hT ⊢; omega)
      have F1 := Lib.hid f1
      have F2 := Lib.hid f2
      have F3 := Lib.hid f3
      clear f1 f2 f3 hT
      go_enter Try.func8, Try.ntmps8
      go_wp2_with (first | (go_at_call 10; (with_reducible refine (live_calls _).mono ?_); rintro e w10 ⟨rfl, hg10⟩)| (go_at_call 24; (with_reducible refine (F1.out _).mono ?_); rintro e w24 ⟨rfl, hg24⟩)| (go_at_call 24; (with_reducible refine (F2.out _).mono ?_); rintro e w24 ⟨rfl, hg24⟩)| (go_at_call 24; (with_reducible refine (F3.out _).mono ?_); rintro e w24 ⟨rfl, hg24⟩)| (go_at_call 26; (with_reducible refine (G1.out _).mono ?_); rintro e w26 ⟨rfl, hg26⟩)| (go_at_call 26; (with_reducible refine (G2.out _).mono ?_); rintro e w26 ⟨rfl, hg26⟩)| (go_at_call 28; (with_reducible refine (G3.out _).mono ?_); rintro e w28 ⟨rfl, hg28⟩)| (go_at_call 28; (with_reducible refine (G4.out _).mono ?_); rintro e w28 ⟨rfl, hg28⟩))
      go_ret
      exact ⟨ret_bool (by simp), (by repeat (with_reducible first | assumption | exact Grown.refl _ | apply Grown.drew | apply Gr.drewN | apply Grown.alloc | (refine Grown.setCell ?_ (by simp) _) | refine Gr.trans ?_ (by assumption)))⟩
    · have f1 := cond_is 6 a1 a2 true hT
      have f2 := cond_is 5 a1 a2 false (by simp [condB] at hT ⊢; omega)
      have f3 := cond_is 4 a2 a1 true (by simp [condB] at hT ⊢; omega)
      have F1 := Lib.hid f1
      have F2 := Lib.hid f2
      have F3 := Lib.hid f3
      clear f1 f2 f3 hT
      go_enter Try.func8, Try.ntmps8
      go_wp2_with (first | (go_at_call 10; (with_reducible refine (live_calls _).mono ?_); rintro e w10 ⟨rfl, hg10⟩)| (go_at_call 24; (with_reducible refine (F1.out _).mono ?_); rintro e w24 ⟨rfl, hg24⟩)| (go_at_call 24; (with_reducible refine (F2.out _).mono ?_); rintro e w24 ⟨rfl, hg24⟩)| (go_at_call 24; (with_reducible refine (F3.out _).mono ?_); rintro e w24 ⟨rfl, hg24⟩)| (go_at_call 26; (with_reducible refine (G1.out _).mono ?_); rintro e w26 ⟨rfl, hg26⟩)| (go_at_call 26; (with_reducible refine (G2.out _).mono ?_); rintro e w26 ⟨rfl, hg26⟩)| (go_at_call 28; (with_reducible refine (G3.out _).mono ?_); rintro e w28 ⟨rfl, hg28⟩)| (go_at_call 28; (with_reducible refine (G4.out _).mono ?_); rintro e w28 ⟨rfl, hg28⟩))
      go_ret
      exact ⟨ret_bool (by simp), (by repeat (with_reducible first | assumption | exact Grown.refl _ | apply Grown.drew | apply Gr.drewN | apply Grown.alloc | (refine Grown.setCell ?_ (by simp) _) | refine Gr.trans ?_ (by assumption)))⟩
  · have k1 : notV a0 = 0 := by unfold notV; (repeat rw [if_neg (by omega)])
    have k2 : swapV a0 = 0 := by unfold swapV; (repeat rw [if_neg (by omega)])
    have k3 : ∀ x y, condB a0 x y = false := fun x y => by unfold condB; (repeat rw [if_neg (by omega)])
    have g1 := not_is a0 0 k1
    have g2 := swap_is a0 0 k2
    have g3 := cond_is a0 a1 a2 false (k3 _ _)
    have G1 := Lib.hid g1
    have G2 := Lib.hid g2
    have G3 := Lib.hid g3
    clear g1 g2 g3 k1 k2 k3
    go_enter Try.func8, Try.ntmps8
    go_wp2_with (first | (go_at_call 10; (with_reducible refine (live_calls _).mono ?_); rintro e w10 ⟨rfl, hg10⟩)| (go_at_call 24; (with_reducible refine (G3.out _).mono ?_); rintro e w24 ⟨rfl, hg24⟩)| (go_at_call 26; (with_reducible refine (G1.out _).mono ?_); rintro e w26 ⟨rfl, hg26⟩)| (go_at_call 28; (with_reducible refine (G2.out _).mono ?_); rintro e w28 ⟨rfl, hg28⟩))
    go_ret
    exact ⟨ret_bool (by simp [*]), (by repeat (with_reducible first | assumption | exact Grown.refl _ | apply Grown.drew | apply Gr.drewN | apply Grown.alloc | (refine Grown.setCell ?_ (by simp) _) | refine Gr.trans ?_ (by assumption)))⟩
  · have k1 : notV a0 = 0 := by unfold notV; (repeat rw [if_neg (by omega)])
    have k2 : swapV a0 = 0 := by unfold swapV; (repeat rw [if_neg (by omega)])
    have k3 : ∀ x y, condB a0 x y = false := fun x y => by unfold condB; (repeat rw [if_neg (by omega)])
    have g1 := not_is a0 0 k1
    have g2 := swap_is a0 0 k2
    have g3 := cond_is a0 a1 a2 false (k3 _ _)
    have G1 := Lib.hid g1
    have G2 := Lib.hid g2
    have G3 := Lib.hid g3
    clear g1 g2 g3 k1 k2 k3
    go_enter Try.func8, Try.ntmps8
    go_wp2_with (first | (go_at_call 10; (with_reducible refine (live_calls _).mono ?_); rintro e w10 ⟨rfl, hg10⟩)| (go_at_call 24; (with_reducible refine (G3.out _).mono ?_); rintro e w24 ⟨rfl, hg24⟩)| (go_at_call 26; (with_reducible refine (G1.out _).mono ?_); rintro e w26 ⟨rfl, hg26⟩)| (go_at_call 28; (with_reducible refine (G2.out _).mono ?_); rintro e w28 ⟨rfl, hg28⟩))
    go_ret
    exact ⟨ret_bool (by simp [*]), (by repeat (with_reducible first | assumption | exact Grown.refl _ | apply Grown.drew | apply Gr.drewN | apply Grown.alloc | (refine Grown.setCell ?_ (by simp) _) | refine Gr.trans ?_ (by assumption)))⟩

/-! ### THE ROW's STEP: WRITTEN OUT: LEAVE IT -/
set_option maxRecDepth 100000 in
theorem lifted (os : Os) (started : os.Started) (H : Type) (enc : TypeId × Value → H) :
    ReturnsInHanded {} Try.checked os 8 .any (Rows.arithSenseSpec.pre6 enc Try.prog Try.f8 Rows.arithSenseRow.domain false) (Rows.arithSenseSpec.post enc Try.prog Try.f8 false true false false) := by
  refine returnsInHanded_of_change (C := Try.checked) own started (by kernel_rfl) Try.func8
    (ChangeSpec.witness6 (enc := enc) (C := Try.checked) false ⟨#[], #[.int .i64 0, .int .i64 0, .int .i64 0], []⟩ 8 (by kernel_rfl) (by kernel_rfl) (by kernel_rfl) (by kernel_rfl)) ?_
  intro W base args ds gs before hval0 hW hcnd _
  have hval : ∀ (j : Nat) t v, Try.f8.params[j]? = some t → args[j]? = some v → Value.okWide Try.prog W .any base t v := hval0
  have hW' := hW
  obtain ⟨p, q, hA0, hV, rfl, hfz, hnd⟩ := hW
  have hA : DataW.TrodAll enc Try.prog W 0 (fun _ => true) true Try.f8.params.toList args.toList ds p := hA0
  rw [Try.params8] at hA hval
  obtain ⟨v0, vs0, d0, ds0, p0, q0, hargs, rfl, rfl, h0, r0⟩ := trodAll_cons hA
  obtain ⟨v1, vs1, d1, ds1, p1, q1, rfl, rfl, rfl, h1, r1⟩ := trodAll_cons r0
  obtain ⟨v2, vs2, d2, ds2, p2, q2, rfl, rfl, rfl, h2, r2⟩ := trodAll_cons r1
  obtain ⟨rfl, rfl, rfl⟩ := trodAll_nil r2
  obtain rfl : args = #[v0, v1, v2] := by cases args; simp_all
  obtain ⟨rfl, rfl⟩ := trodVars_none hV
  obtain ⟨a0, rfl, rfl, rfl, w0⟩ := open_int Try.underlying3 (hval 0 3 v0 rfl rfl) h0
  obtain ⟨a1, rfl, rfl, rfl, w1⟩ := open_int Try.underlying2 (hval 1 2 v1 rfl rfl) h1
  obtain ⟨a2, rfl, rfl, rfl, w2⟩ := open_int Try.underlying2 (hval 2 2 v2 rfl rfl) h2
  clear hA0 hval0
  simp only [List.append_nil] at hW'
  refine (walk a0 a1 a2 w0 w1 w2 W).mono fun e W' ⟨he, hg⟩ => ?_
  subst he
  exact ⟨_, rfl, post_of_same (pa := []) (pv := []) hW' (fun _ _ _ => (trodAll_cons_mk (shut_bool Try.underlying4 _) trodAll_mk0)) (fun sp _ => (trodAll_cons_mk (shut_int Try.underlying3 w0) (trodAll_cons_mk (shut_int Try.underlying2 w1) (trodAll_cons_mk (shut_int Try.underlying2 w2) trodAll_mk0)))) (fun _ _ => rfl) rfl
    (hg.frame _) hg.2.1 (ok_one (by kernel_rfl) rfl (okWide_bool_mk Try.underlying4 _))⟩

theorem over : Rows.arithSenseRow.holds Try.pinned (OpenSpec.ofChange Rows.arithSenseSpec) :=
  OpenClaim.holds_of_wide 8 Try.f8 rfl rfl rfl rfl rfl rfl rfl ⟨rfl, rfl, rfl, rfl, rfl⟩ rfl rfl rfl rfl rfl (by kernel_rfl) Try.func8 (by kernel_rfl)
    (of_decide_eq_true (by kernel_rfl)) (by unfold Func.isWrapper; first | (rw [if_pos (by decide +kernel)]; kernel_rfl) | (rw [if_neg (by decide +kernel)]; exact ⟨rfl, rfl⟩))
    (fun os started H enc _ => lifted os started H enc)

/-- ████ THE STATEMENT ████ -/
theorem proved : Rows.ArithSenseSaid :=
  over
#print axioms proved
end Go.Proofs.Ytlnbekmlppmmmaa.arithSense
