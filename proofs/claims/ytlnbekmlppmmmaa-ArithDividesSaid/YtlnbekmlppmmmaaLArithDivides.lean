/- For every input the law ArithDivides returns true, and each argument reads behind the call as it read before. No condition. The frame is a template of the kit; the walk is own work. -/
import Derived.Test.YtlnbekmlppmmmaaA3
import Derived.Test.YtlnbekmlppmmmaaRows
import Derived.WalkKit
import Derived.ProofKit
import Derived.OpenShut
namespace Go.Proofs.Ytlnbekmlppmmmaa.arithDivides
open Go.Proofs.Ytlnbekmlppmmmaa.Ar
open Go.ChangeShapes Go.WideShapes Go.ChangeAt Go.RowKit
set_option linter.unusedSimpArgs false
set_option linter.unusedVariables false      -- a walk need not use every 'w<i>' (that an integer argument fits its kind)

theorem own : ownKnob Try.prog.godebug = none := by kernel_rfl

/-! ### STEP 1: THE WALK: the Go text returns true. 'Grown w w'': the world has at most new blocks (Derived/RowKit3.lean). Part the cases AHEAD of 'go_enter' where a test parts the walk; take each callee by a contract of your own. -/
set_option maxHeartbeats 2000000 in
theorem walk (a0 : Int) (a1 : Int) (w0 : (Lit.int .i64 a0).wf = true) (w1 : (Lit.int .i64 a1).wf = true) (w : World) :
    Calls Try.prog 3 #[.int .i64 a0, .int .i64 a1] w fun e w' => e = .returned (.bool true) ∧ Grown w w' := by
  obtain ⟨b0, b1⟩ := bd64 w0
  obtain ⟨c0, c1⟩ := bd64 w1
  by_cases hb : a1 = 0
  · subst hb
    have g4 := long_is 4 a0 0 0 false (by simp [longV]) (by simp [longB])
    have g5 := long_is 5 a0 0 0 false (by simp [longV]) (by simp [longB])
    have G4 := Lib.hid g4
    have G5 := Lib.hid g5
    clear g4 g5
    go_enter Try.func3, Try.ntmps3
    go_wp2_with (first | (go_at_call 10; (with_reducible refine (live_calls _).mono ?_); rintro e w10 ⟨rfl, hg10⟩)| (go_at_call 9; (with_reducible refine (G4.out _).mono ?_); rintro e w9 ⟨rfl, hg9⟩)| (go_at_call 9; (with_reducible refine (G5.out _).mono ?_); rintro e w9 ⟨rfl, hg9⟩))
    go_ret
    exact ⟨ret_bool (by simp [*]), (by repeat (with_reducible first | assumption | exact Grown.refl _ | apply Grown.drew | apply Gr.drewN | apply Grown.alloc | (refine Grown.setCell ?_ (by simp) _) | refine Gr.trans ?_ (by assumption)))⟩
  · have z0 : (a1 == 0) = false := by simpa using hb
    have g4 := long_is 4 a0 a1 (divV a0 a1) true (by simp [longV, hb]) (by simp [longB, hb])
    have g5 := long_is 5 a0 a1 (remV a0 a1) true (by simp [longV, hb]) (by simp [longB, hb])
    have g3 := long_is 3 (divV a0 a1) a1 (wrap64 (divV a0 a1 * a1)) true (by simp [longV]) (by simp [longB])
    have g1 := long_is 1 (wrap64 (divV a0 a1 * a1)) (remV a0 a1) a0 true (by simp only [longV]; exact div_back a0 a1 b0 b1 hb) (by simp [longB])
    have hs := rem_sign a0 a1 hb
    have hn := rem_near a0 a1 hb
    obtain ⟨q, hq⟩ : ∃ q, q = divV a0 a1 := ⟨_, rfl⟩
    rw [← hq] at g4 g3 g1
    clear hq
    obtain ⟨m, hm⟩ : ∃ m, m = wrap64 (q * a1) := ⟨_, rfl⟩
    rw [← hm] at g3 g1
    clear hm
    obtain ⟨r, hr⟩ : ∃ r, r = remV a0 a1 := ⟨_, rfl⟩
    rw [← hr] at g5 g1 hs hn
    clear hr
    have G4 := Lib.hid g4
    have G5 := Lib.hid g5
    have G3 := Lib.hid g3
    have G1 := Lib.hid g1
    clear g4 g5 g3 g1
    rcases (by omega : r = 0 ∨ (r < 0 ∧ a1 = -9223372036854775808) ∨ (r < 0 ∧ a1 ≠ -9223372036854775808) ∨ (0 < r ∧ a1 = -9223372036854775808) ∨ (0 < r ∧ a1 ≠ -9223372036854775808)) with h | ⟨h, k⟩ | ⟨h, k⟩ | ⟨h, k⟩ | ⟨h, k⟩
    · subst h
      clear hs hn
      go_enter Try.func3, Try.ntmps3
      go_wp2_with (first | (go_at_call 10; (with_reducible refine (live_calls _).mono ?_); rintro e w10 ⟨rfl, hg10⟩)| (go_at_call 9; (with_reducible refine (G4.out _).mono ?_); rintro e w9 ⟨rfl, hg9⟩)| (go_at_call 9; (with_reducible refine (G5.out _).mono ?_); rintro e w9 ⟨rfl, hg9⟩)| (go_at_call 9; (with_reducible refine (G3.out _).mono ?_); rintro e w9 ⟨rfl, hg9⟩)| (go_at_call 9; (with_reducible refine (G1.out _).mono ?_); rintro e w9 ⟨rfl, hg9⟩))
      go_ret
      exact ⟨ret_bool (by simp [*]), (by repeat (with_reducible first | assumption | exact Grown.refl _ | apply Grown.drew | apply Gr.drewN | apply Grown.alloc | (refine Grown.setCell ?_ (by simp) _) | refine Gr.trans ?_ (by assumption)))⟩
    · have ha : a0 < 0 := hs.1 h
      subst k
      clear hs hn
      have r1 : ¬ 0 < r := by omega
      have r2 : (r == 0) = false := by rw [beq_eq_false_iff_ne]; omega
      go_enter Try.func3, Try.ntmps3
      go_wp2_with (first | (go_at_call 10; (with_reducible refine (live_calls _).mono ?_); rintro e w10 ⟨rfl, hg10⟩)| (go_at_call 9; (with_reducible refine (G4.out _).mono ?_); rintro e w9 ⟨rfl, hg9⟩)| (go_at_call 9; (with_reducible refine (G5.out _).mono ?_); rintro e w9 ⟨rfl, hg9⟩)| (go_at_call 9; (with_reducible refine (G3.out _).mono ?_); rintro e w9 ⟨rfl, hg9⟩)| (go_at_call 9; (with_reducible refine (G1.out _).mono ?_); rintro e w9 ⟨rfl, hg9⟩))
      go_ret
      exact ⟨ret_bool (by simp [*]), (by repeat (with_reducible first | assumption | exact Grown.refl _ | apply Grown.drew | apply Gr.drewN | apply Grown.alloc | (refine Grown.setCell ?_ (by simp) _) | refine Gr.trans ?_ (by assumption)))⟩
    · have ha : a0 < 0 := hs.1 h
      have t1 : (r == 0) = false := by rw [beq_eq_false_iff_ne]; omega
      have t2 : (a1 == -9223372036854775808) = false := by rw [beq_eq_false_iff_ne]; omega
      have t3 : (r != -9223372036854775808) = true := by rw [bne_iff_ne]; omega
      have u1 : -9223372036854775808 ≤ -r ∧ -r ≤ 9223372036854775807 := by omega
      have u2 : -9223372036854775808 ≤ -a1 ∧ -a1 ≤ 9223372036854775807 := by omega
      obtain ⟨u11, u12⟩ := u1
      obtain ⟨u21, u22⟩ := u2
      have n1 := near_yes r a1 (by omega) (by omega) hn
      clear hs hn
      go_enter Try.func3, Try.ntmps3
      go_wp2_with (first | (go_at_call 10; (with_reducible refine (live_calls _).mono ?_); rintro e w10 ⟨rfl, hg10⟩)| (go_at_call 9; (with_reducible refine (G4.out _).mono ?_); rintro e w9 ⟨rfl, hg9⟩)| (go_at_call 9; (with_reducible refine (G5.out _).mono ?_); rintro e w9 ⟨rfl, hg9⟩)| (go_at_call 9; (with_reducible refine (G3.out _).mono ?_); rintro e w9 ⟨rfl, hg9⟩)| (go_at_call 9; (with_reducible refine (G1.out _).mono ?_); rintro e w9 ⟨rfl, hg9⟩))
      all_goals go_ret
      all_goals exact ⟨ret_bool (by simp [*]; try omega), (by repeat (with_reducible first | assumption | exact Grown.refl _ | apply Grown.drew | apply Gr.drewN | apply Grown.alloc | (refine Grown.setCell ?_ (by simp) _) | refine Gr.trans ?_ (by assumption)))⟩
    · have ha : 0 < a0 := hs.2 h
      subst k
      clear hs hn
      have r1 : ¬ r < 0 := by omega
      have r2 : (r == 0) = false := by rw [beq_eq_false_iff_ne]; omega
      go_enter Try.func3, Try.ntmps3
      go_wp2_with (first | (go_at_call 10; (with_reducible refine (live_calls _).mono ?_); rintro e w10 ⟨rfl, hg10⟩)| (go_at_call 9; (with_reducible refine (G4.out _).mono ?_); rintro e w9 ⟨rfl, hg9⟩)| (go_at_call 9; (with_reducible refine (G5.out _).mono ?_); rintro e w9 ⟨rfl, hg9⟩)| (go_at_call 9; (with_reducible refine (G3.out _).mono ?_); rintro e w9 ⟨rfl, hg9⟩)| (go_at_call 9; (with_reducible refine (G1.out _).mono ?_); rintro e w9 ⟨rfl, hg9⟩))
      go_ret
      exact ⟨ret_bool (by simp [*]), (by repeat (with_reducible first | assumption | exact Grown.refl _ | apply Grown.drew | apply Gr.drewN | apply Grown.alloc | (refine Grown.setCell ?_ (by simp) _) | refine Gr.trans ?_ (by assumption)))⟩
    · have ha : 0 < a0 := hs.2 h
      have t1 : (r == 0) = false := by rw [beq_eq_false_iff_ne]; omega
      have t2 : (a1 == -9223372036854775808) = false := by rw [beq_eq_false_iff_ne]; omega
      have t3 : (r != -9223372036854775808) = true := by rw [bne_iff_ne]; omega
      have u1 : -9223372036854775808 ≤ -r ∧ -r ≤ 9223372036854775807 := by omega
      have u2 : -9223372036854775808 ≤ -a1 ∧ -a1 ≤ 9223372036854775807 := by omega
      obtain ⟨u11, u12⟩ := u1
      obtain ⟨u21, u22⟩ := u2
      have n1 := near_yes r a1 (by omega) (by omega) hn
      clear hs hn
      go_enter Try.func3, Try.ntmps3
      go_wp2_with (first | (go_at_call 10; (with_reducible refine (live_calls _).mono ?_); rintro e w10 ⟨rfl, hg10⟩)| (go_at_call 9; (with_reducible refine (G4.out _).mono ?_); rintro e w9 ⟨rfl, hg9⟩)| (go_at_call 9; (with_reducible refine (G5.out _).mono ?_); rintro e w9 ⟨rfl, hg9⟩)| (go_at_call 9; (with_reducible refine (G3.out _).mono ?_); rintro e w9 ⟨rfl, hg9⟩)| (go_at_call 9; (with_reducible refine (G1.out _).mono ?_); rintro e w9 ⟨rfl, hg9⟩))
      all_goals go_ret
      all_goals exact ⟨ret_bool (by simp [*]; try omega), (by repeat (with_reducible first | assumption | exact Grown.refl _ | apply Grown.drew | apply Gr.drewN | apply Grown.alloc | (refine Grown.setCell ?_ (by simp) _) | refine Gr.trans ?_ (by assumption)))⟩

/-! ### THE ROW's STEP: WRITTEN OUT: LEAVE IT -/
set_option maxRecDepth 100000 in
theorem lifted (os : Os) (started : os.Started) (H : Type) (enc : TypeId × Value → H) :
    ReturnsInHanded {} Try.checked os 3 .any (Rows.arithDividesSpec.pre6 enc Try.prog Try.f3 Rows.arithDividesRow.domain false) (Rows.arithDividesSpec.post enc Try.prog Try.f3 false true false false) := by
  refine returnsInHanded_of_change (C := Try.checked) own started (by kernel_rfl) Try.func3
    (ChangeSpec.witness6 (enc := enc) (C := Try.checked) false ⟨#[], #[.int .i64 0, .int .i64 0], []⟩ 8 (by kernel_rfl) (by kernel_rfl) (by kernel_rfl) (by kernel_rfl)) ?_
  intro W base args ds gs before hval0 hW hcnd _
  have hval : ∀ (j : Nat) t v, Try.f3.params[j]? = some t → args[j]? = some v → Value.okWide Try.prog W .any base t v := hval0
  have hW' := hW
  obtain ⟨p, q, hA0, hV, rfl, hfz, hnd⟩ := hW
  have hA : DataW.TrodAll enc Try.prog W 0 (fun _ => true) true Try.f3.params.toList args.toList ds p := hA0
  rw [Try.params3] at hA hval
  obtain ⟨v0, vs0, d0, ds0, p0, q0, hargs, rfl, rfl, h0, r0⟩ := trodAll_cons hA
  obtain ⟨v1, vs1, d1, ds1, p1, q1, rfl, rfl, rfl, h1, r1⟩ := trodAll_cons r0
  obtain ⟨rfl, rfl, rfl⟩ := trodAll_nil r1
  obtain rfl : args = #[v0, v1] := by cases args; simp_all
  obtain ⟨rfl, rfl⟩ := trodVars_none hV
  obtain ⟨a0, rfl, rfl, rfl, w0⟩ := open_int Try.underlying2 (hval 0 2 v0 rfl rfl) h0
  obtain ⟨a1, rfl, rfl, rfl, w1⟩ := open_int Try.underlying2 (hval 1 2 v1 rfl rfl) h1
  clear hA0 hval0
  simp only [List.append_nil] at hW'
  refine (walk a0 a1 w0 w1 W).mono fun e W' ⟨he, hg⟩ => ?_
  subst he
  exact ⟨_, rfl, post_of_same (pa := []) (pv := []) hW' (fun _ _ _ => (trodAll_cons_mk (shut_bool Try.underlying4 _) trodAll_mk0)) (fun sp _ => (trodAll_cons_mk (shut_int Try.underlying2 w0) (trodAll_cons_mk (shut_int Try.underlying2 w1) trodAll_mk0))) (fun _ _ => rfl) rfl
    (hg.frame _) hg.2.1 (ok_one (by kernel_rfl) rfl (okWide_bool_mk Try.underlying4 _))⟩

theorem over : Rows.arithDividesRow.holds Try.pinned (OpenSpec.ofChange Rows.arithDividesSpec) :=
  OpenClaim.holds_of_wide 3 Try.f3 rfl rfl rfl rfl rfl rfl rfl ⟨rfl, rfl, rfl, rfl, rfl⟩ rfl rfl rfl rfl rfl (by kernel_rfl) Try.func3 (by kernel_rfl)
    (of_decide_eq_true (by kernel_rfl)) (by unfold Func.isWrapper; first | (rw [if_pos (by decide +kernel)]; kernel_rfl) | (rw [if_neg (by decide +kernel)]; exact ⟨rfl, rfl⟩))
    (fun os started H enc _ => lifted os started H enc)

/-- ████ THE STATEMENT ████ -/
theorem proved : Rows.ArithDividesSaid :=
  over
#print axioms proved
end Go.Proofs.Ytlnbekmlppmmmaa.arithDivides
