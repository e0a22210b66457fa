/- For every input the law HierAsks returns true, and each argument reads behind the call as it read before. No condition. -/
import Derived.Test.YtnggnacaghcclaaH13
import Derived.Test.YtnggnacaghcclaaLibO
import Derived.Test.YtnggnacaghcclaaRows
import Derived.WalkKit
import Derived.ProofKit
import Derived.OpenShut
namespace Go.Proofs.Ytnggnacaghcclaa.hierAsks
open Go.Proofs.Ytnggnacaghcclaa.H1 Go.Proofs.Ytnggnacaghcclaa.H2 Go.Proofs.Ytnggnacaghcclaa.H3 Go.Proofs.Ytnggnacaghcclaa.LibC Go.Proofs.Ytnggnacaghcclaa.H13 Go.Proofs.Ytnggnacaghcclaa.LibL Go.Proofs.Ytnggnacaghcclaa.LibO
open Go.ChangeShapes Go.WideShapes Go.ChangeAt Go.RowKit Go.Joins
set_option linter.unusedSimpArgs false
set_option linter.unusedVariables false
theorem cl9 : Try.prog.cellsOf 9 = 1 := by kernel_rfl
theorem cl56 : Try.prog.cellsOf 56 = 2 := by kernel_rfl
theorem by56 : Try.prog.bytesOf 56 = 32 := by kernel_rfl
theorem dec_line {H : Type} {enc : TypeId × Value → H} {w : World} : ∀ n cs' (y : DataW H × List MemPlace), DataW.trod enc Try.prog w 0 (fun _ => true) true n 56 cs' = some y → Fit Try.prog 56 y.1 → ∃ v : LineD, cs' = lineC v ∧ (fun _ => True) v := by
  intro n cs y h hfit
  obtain ⟨hl, hs⟩ := struct_in Try.underlying56 h hfit
  rw [cl56] at hl
  obtain ⟨c0_, c1_, rfl⟩ := len2 hl
  obtain ⟨_, _, t1, f2⟩ := hs 0 _ rfl
  simp [cl9] at t1
  obtain ⟨s0_, e_, ws0_⟩ := string_in Try.underlying9 t1 f2
  simp only [List.cons.injEq, and_true] at e_
  subst e_
  obtain ⟨_, _, t3, f4⟩ := hs 1 _ rfl
  simp [cl9] at t3
  obtain ⟨s1_, e_, ws1_⟩ := string_in Try.underlying9 t3 f4
  simp only [List.cons.injEq, and_true] at e_
  subst e_
  exact ⟨(s0_, s1_), rfl, trivial⟩
theorem cl3 : Try.prog.cellsOf 3 = 1 := by kernel_rfl
theorem cl33 : Try.prog.cellsOf 33 = 3 := by kernel_rfl

theorem own : ownKnob Try.prog.godebug = none := by kernel_rfl
theorem laidOut : laidOutB Try.prog = true := by kernel_rfl
theorem readable : ∀ t ∈ Try.f5.params.toList, Try.prog.readableRec t = true ∧ t < Try.prog.types.size := by
  rw [Try.params5]
  intro t ht
  simp at ht
  rcases ht with rfl | rfl <;> exact ⟨by kernel_rfl, of_decide_eq_true (by kernel_rfl)⟩

set_option maxRecDepth 100000 in
theorem lifted (os : Os) (started : os.Started) (H : Type) (enc : TypeId × Value → H) :
    ReturnsInHanded {} Try.checked os 5 .any (Rows.hierAsksSpec.pre6 enc Try.prog Try.f5 Rows.hierAsksRow.domain false) (Rows.hierAsksSpec.post enc Try.prog Try.f5 false true false false) := by
  refine returnsInHanded_of_change_sized (C := Try.checked) own started (by kernel_rfl) Try.func5
    (ChangeSpec.witness6 (enc := enc) (C := Try.checked) false ⟨#[], #[.slice none 0 0, .agg #[.int .i64 0, .int .i64 0, .int .i64 0]], []⟩ 8 (by kernel_rfl) (by kernel_rfl) (by kernel_rfl) (by kernel_rfl)) ?_
  intro W base args ds gs before hval0 hW hcnd hsz0 _
  have hval : ∀ (j : Nat) t v, Try.f5.params[j]? = some t → args[j]? = some v → Value.okWide Try.prog W .any base t v := hval0
  have hsz : (DataW.weightsEach Try.prog (Try.f5.params.toList ++ Rows.hierAsksSpec.plain.varTypes Try.prog) (ds ++ gs)).all (· ≤ reachBytes) = true := hsz0
  have hW' := hW
  have hlt := fun x hx => hW'.lt x hx
  obtain ⟨p, q, hA0, hV, rfl, hfz, hnd⟩ := hW
  have hA : DataW.TrodAll enc Try.prog W 0 (fun _ => true) true Try.f5.params.toList args.toList ds p := hA0
  have hAk := hA
  obtain ⟨rfl, rfl⟩ := trodVars_none hV
  rw [Try.params5] at hA hval hsz
  obtain ⟨v0, vs0, d0, ds0, p0, q0, hargs, rfl, rfl, h0, r0⟩ := trodAll_cons hA
  obtain ⟨v1, vs1, d1, ds1, p1, q1, rfl, rfl, rfl, h1, r1⟩ := trodAll_cons r0
  obtain ⟨rfl, rfl, rfl⟩ := trodAll_nil r1
  obtain rfl : args = #[v0, v1] := by cases args; simp_all
  obtain ⟨LA, lc, l, rfl, h0LA, h1LA, h2LA, h3LA, h4LA, h5LA⟩ := slice_arg lineC (fun _ => True) Try.underlying22 (by rw [cl56]; decide) dec_line (hval 0 22 v0 rfl rfl) h0 (fit_arg hsz (j := 0) rfl rfl)
  rw [cl56] at h4LA
  rw [by56] at h3LA
  obtain ⟨cs1, rfl, hl1, hs1⟩ := agg_in Try.underlying33 (hval 1 33 v1 rfl rfl) h1 (fit_arg hsz (j := 1) rfl rfl)
  rw [cl33] at hl1
  obtain ⟨z1_0, z1_1, z1_2, rfl⟩ := len3 hl1
  obtain ⟨_, _, t5, f6⟩ := hs1 0 _ rfl
  simp [cl3] at t5
  obtain ⟨pa, e_, _, wpa⟩ := DataW.trod_int Try.underlying3 t5
  simp only [List.cons.injEq, and_true] at e_
  subst e_
  obtain ⟨_, _, t7, f8⟩ := hs1 1 _ rfl
  simp [cl3] at t7
  obtain ⟨pb, e_, _, wpb⟩ := DataW.trod_int Try.underlying3 t7
  simp only [List.cons.injEq, and_true] at e_
  subst e_
  obtain ⟨_, _, t9, f10⟩ := hs1 2 _ rfl
  simp [cl3] at t9
  obtain ⟨pc, e_, _, wpc⟩ := DataW.trod_int Try.underlying3 t9
  simp only [List.cons.injEq, and_true] at e_
  subst e_
  simp only [reachBytes] at *
  refine (asks_walk l LA lc pa pb pc (by omega) W h4LA).mono fun e W' ⟨he, hb⟩ => ?_
  subst he
  refine ⟨_, rfl, _, _, _, [], _, [], hW', ?_, trodAll_below laidOut hb _ _ _ _ readable hAk (fun x hx => ?_), rfl, hb.frame _, fun h => by cases h⟩
  · exact trodAll_cons_mk (shut_bool Try.underlying4 _) trodAll_mk0
  · simpa using hlt x (by simpa using hx)

theorem over : Rows.hierAsksRow.holds Try.pinned (OpenSpec.ofChange Rows.hierAsksSpec) :=
  OpenClaim.holds_of_wide 5 Try.f5 rfl rfl rfl rfl rfl rfl rfl ⟨rfl, rfl, rfl, rfl, rfl⟩ rfl rfl rfl rfl rfl (by kernel_rfl) Try.func5 (by kernel_rfl)
    (of_decide_eq_true (by kernel_rfl)) (by unfold Func.isWrapper; first | (rw [if_pos (by decide +kernel)]; kernel_rfl) | (rw [if_neg (by decide +kernel)]; exact ⟨rfl, rfl⟩))
    (fun os started H enc _ => lifted os started H enc)

/-- ████ THE STATEMENT ████ -/
theorem proved : Rows.HierAsksSaid :=
  over
#print axioms proved
end Go.Proofs.Ytnggnacaghcclaa.hierAsks

