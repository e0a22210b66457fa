/- For every input the law MapsEnters returns true, and each argument reads behind the call as it read before. No condition. -/
import Derived.Test.YtngpfbcjmlpplaaM25
import Derived.Test.YtngpfbcjmlpplaaLibO
import Derived.Test.YtngpfbcjmlpplaaRows
import Derived.WalkKit
import Derived.ProofKit
import Derived.OpenShut
namespace Go.Proofs.Ytngpfbcjmlpplaa.mapsEnters
open Go.Proofs.Ytngpfbcjmlpplaa.M Go.Proofs.Ytngpfbcjmlpplaa.LibC Go.Proofs.Ytngpfbcjmlpplaa.LibL Go.Proofs.Ytngpfbcjmlpplaa.LibO
open Go.ChangeShapes Go.WideShapes Go.ChangeAt Go.RowKit Go.Joins
set_option linter.unusedSimpArgs false
set_option linter.unusedVariables false
theorem cl2 : Try.prog.cellsOf 2 = 1 := by kernel_rfl
theorem cl3 : Try.prog.cellsOf 3 = 1 := by kernel_rfl
theorem cl23 : Try.prog.cellsOf 23 = 2 := by kernel_rfl
theorem cl37 : Try.prog.cellsOf 37 = 1 := by kernel_rfl
theorem cl40 : Try.prog.cellsOf 40 = 1 := by kernel_rfl
theorem cl42 : Try.prog.cellsOf 42 = 3 := by kernel_rfl
theorem cl43 : Try.prog.cellsOf 43 = 2 := by kernel_rfl
theorem cl45 : Try.prog.cellsOf 45 = 4 := by kernel_rfl
theorem cl62 : Try.prog.cellsOf 62 = 7 := by kernel_rfl
theorem by42 : Try.prog.bytesOf 42 = 24 := by kernel_rfl
theorem by43 : Try.prog.bytesOf 43 = 16 := by kernel_rfl
theorem dec_slot {H : Type} {enc : TypeId × Value → H} {w : World} : ∀ n cs' (y : DataW H × List MemPlace), DataW.trod enc Try.prog w 0 (fun _ => true) true n 42 cs' = some y → Fit Try.prog 42 y.1 → ∃ v : SlotD, cs' = slotC v ∧ (fun _ => True) v := by
  intro n cs y h hfit
  obtain ⟨hl, hs⟩ := struct_in Try.underlying42 h hfit
  rw [cl42] at hl
  obtain ⟨c0_, c1_, c2_, rfl⟩ := len3 hl
  obtain ⟨_, _, t1, f2⟩ := hs 0 _ rfl
  simp [cl3] at t1
  obtain ⟨k_, e_, _, wk_⟩ := DataW.trod_int Try.underlying3 t1
  simp only [List.cons.injEq, and_true] at e_
  subst e_
  obtain ⟨_, _, t3, f4⟩ := hs 1 _ rfl
  simp [cl23] at t3
  obtain ⟨_, hs5⟩ := struct_in Try.underlying23 t3 f4
  obtain ⟨_, _, t6, f7⟩ := hs5 0 _ rfl
  simp [cl3] at t6
  obtain ⟨lk_, e_, _, wlk_⟩ := DataW.trod_int Try.underlying3 t6
  simp only [List.cons.injEq, and_true] at e_
  subst e_
  obtain ⟨_, _, t8, f9⟩ := hs5 1 _ rfl
  simp [cl2] at t8
  obtain ⟨ln_, e_, _, wln_⟩ := DataW.trod_int Try.underlying2 t8
  simp only [List.cons.injEq, and_true] at e_
  subst e_
  exact ⟨(k_, lk_, ln_), rfl, trivial⟩
theorem dec_val {H : Type} {enc : TypeId × Value → H} {w : World} : ∀ n cs' (y : DataW H × List MemPlace), DataW.trod enc Try.prog w 0 (fun _ => true) true n 43 cs' = some y → Fit Try.prog 43 y.1 → ∃ v : ValD, cs' = valC v ∧ (fun _ => True) v := by
  intro n cs y h hfit
  obtain ⟨hl, hs⟩ := struct_in Try.underlying43 h hfit
  rw [cl43] at hl
  obtain ⟨c0_, c1_, rfl⟩ := len2 hl
  obtain ⟨_, _, t10, f11⟩ := hs 0 _ rfl
  simp [cl3] at t10
  obtain ⟨k_, e_, _, wk_⟩ := DataW.trod_int Try.underlying3 t10
  simp only [List.cons.injEq, and_true] at e_
  subst e_
  obtain ⟨_, _, t12, f13⟩ := hs 1 _ rfl
  simp [cl2] at t12
  obtain ⟨n_, e_, _, wn_⟩ := DataW.trod_int Try.underlying2 t12
  simp only [List.cons.injEq, and_true] at e_
  subst e_
  exact ⟨(k_, n_), rfl, trivial⟩

theorem own : ownKnob Try.prog.godebug = none := by kernel_rfl
theorem laidOut : laidOutB Try.prog = true := by kernel_rfl
theorem readable : ∀ t ∈ Try.f6.params.toList, Try.prog.readableRec t = true ∧ t < Try.prog.types.size := by
  rw [Try.params6]
  intro t ht
  simp at ht
  rcases ht with rfl | rfl <;> exact ⟨by kernel_rfl, of_decide_eq_true (by kernel_rfl)⟩

set_option maxRecDepth 100000 in
theorem lifted (os : Os) (started : os.Started) (H : Type) (enc : TypeId × Value → H) :
    ReturnsInHanded {} Try.checked os 6 .any (Rows.mapsEntersSpec.pre6 enc Try.prog Try.f6 Rows.mapsEntersRow.domain false) (Rows.mapsEntersSpec.post enc Try.prog Try.f6 false true false false) := by
  refine returnsInHanded_of_change_sized (C := Try.checked) own started (by kernel_rfl) Try.func6
    (ChangeSpec.witness6 (enc := enc) (C := Try.checked) false ⟨#[], #[.agg #[.int .i64 0, .int .i64 0, .slice none 0 0, .slice none 0 0, .slice none 0 0, .slice none 0 0, .int .i64 0], .agg #[.int .i64 0, .int .i64 0, .slice none 0 0, .slice none 0 0]], []⟩ 8 (by kernel_rfl) (by kernel_rfl) (by kernel_rfl) (by kernel_rfl)) ?_
  intro W base args ds gs before hval0 hW hcnd hsz0 _
  have hval : ∀ (j : Nat) t v, Try.f6.params[j]? = some t → args[j]? = some v → Value.okWide Try.prog W .any base t v := hval0
  have hsz : (DataW.weightsEach Try.prog (Try.f6.params.toList ++ Rows.mapsEntersSpec.plain.varTypes Try.prog) (ds ++ gs)).all (· ≤ reachBytes) = true := hsz0
  have hW' := hW
  have hlt := fun x hx => hW'.lt x hx
  obtain ⟨p, q, hA0, hV, rfl, hfz, hnd⟩ := hW
  have hA : DataW.TrodAll enc Try.prog W 0 (fun _ => true) true Try.f6.params.toList args.toList ds p := hA0
  have hAk := hA
  obtain ⟨rfl, rfl⟩ := trodVars_none hV
  rw [Try.params6] at hA hval hsz
  obtain ⟨v0, vs0, d0, ds0, p0, q0, hargs, rfl, rfl, h0, r0⟩ := trodAll_cons hA
  obtain ⟨v1, vs1, d1, ds1, p1, q1, rfl, rfl, rfl, h1, r1⟩ := trodAll_cons r0
  obtain ⟨rfl, rfl, rfl⟩ := trodAll_nil r1
  obtain rfl : args = #[v0, v1] := by cases args; simp_all
  obtain ⟨cs0, rfl, hl0, hs0⟩ := agg_in Try.underlying62 (hval 0 62 v0 rfl rfl) h0 (fit_arg hsz (j := 0) rfl rfl)
  rw [cl62] at hl0
  obtain ⟨z0_0, z0_1, z0_2, z0_3, z0_4, z0_5, z0_6, rfl⟩ := len7 hl0
  obtain ⟨_, _, t14, f15⟩ := hs0 0 _ rfl
  simp [cl3] at t14
  obtain ⟨cf, e_, _, wcf⟩ := DataW.trod_int Try.underlying3 t14
  simp only [List.cons.injEq, and_true] at e_
  subst e_
  obtain ⟨_, _, t16, f17⟩ := hs0 1 _ rfl
  simp [cl3] at t16
  obtain ⟨ce, e_, _, wce⟩ := DataW.trod_int Try.underlying3 t16
  simp only [List.cons.injEq, and_true] at e_
  subst e_
  obtain ⟨_, _, t24, f25⟩ := hs0 5 _ rfl
  simp [cl37] at t24
  obtain ⟨E, ec, es, e_, h0E, h1E, h2E, h3E, h4E, h5E⟩ := slice_in slotC (fun _ => True) Try.underlying37 (by rw [cl42]; decide) dec_slot t24 f25
  simp only [List.cons.injEq, and_true] at e_
  subst e_
  rw [cl42] at h4E
  rw [by42] at h3E
  obtain ⟨_, _, t26, f27⟩ := hs0 6 _ rfl
  simp [cl3] at t26
  obtain ⟨csp, e_, _, wcsp⟩ := DataW.trod_int Try.underlying3 t26
  simp only [List.cons.injEq, and_true] at e_
  subst e_
  obtain ⟨cs1, rfl, hl1, hs1⟩ := agg_in Try.underlying45 (hval 1 45 v1 rfl rfl) h1 (fit_arg hsz (j := 1) rfl rfl)
  rw [cl45] at hl1
  obtain ⟨z1_0, z1_1, z1_2, z1_3, rfl⟩ := len4 hl1
  obtain ⟨_, _, t28, f29⟩ := hs1 0 _ rfl
  simp [cl3] at t28
  obtain ⟨ff, e_, _, wff⟩ := DataW.trod_int Try.underlying3 t28
  simp only [List.cons.injEq, and_true] at e_
  subst e_
  obtain ⟨_, _, t30, f31⟩ := hs1 1 _ rfl
  simp [cl3] at t30
  obtain ⟨fa, e_, _, wfa⟩ := DataW.trod_int Try.underlying3 t30
  simp only [List.cons.injEq, and_true] at e_
  subst e_
  obtain ⟨_, _, t32, f33⟩ := hs1 2 _ rfl
  simp [cl40] at t32
  obtain ⟨L, lc, ls, e_, h0L, h1L, h2L, h3L, h4L, h5L⟩ := slice_in valC (fun _ => True) Try.underlying40 (by rw [cl43]; decide) dec_val t32 f33
  simp only [List.cons.injEq, and_true] at e_
  subst e_
  rw [cl43] at h4L
  rw [by43] at h3L
  obtain ⟨_, _, t34, f35⟩ := hs1 3 _ rfl
  simp [cl40] at t34
  obtain ⟨S, sc, ss, e_, h0S, h1S, h2S, h3S, h4S, h5S⟩ := slice_in valC (fun _ => True) Try.underlying40 (by rw [cl43]; decide) dec_val t34 f35
  simp only [List.cons.injEq, and_true] at e_
  subst e_
  rw [cl43] at h4S
  rw [by43] at h3S
  simp only [reachBytes] at *
  refine (enters_calls cf ce ff fa csp _ _ _ es ls E L S ec lc ss.length sc (by omega) (by omega) (by omega) W h4E h4L).mono fun e W' ⟨he, hb⟩ => ?_
  subst he
  refine ⟨_, rfl, _, _, _, [], _, [], hW', ?_, trodAll_below laidOut hb _ _ _ _ readable hAk (fun x hx => ?_), rfl, hb.frame _, fun h => by cases h⟩
  · exact trodAll_cons_mk (shut_bool Try.underlying4 _) trodAll_mk0
  · simpa using hlt x (by simpa using hx)

theorem over : Rows.mapsEntersRow.holds Try.pinned (OpenSpec.ofChange Rows.mapsEntersSpec) :=
  OpenClaim.holds_of_wide 6 Try.f6 rfl rfl rfl rfl rfl rfl rfl ⟨rfl, rfl, rfl, rfl, rfl⟩ rfl rfl rfl rfl rfl (by kernel_rfl) Try.func6 (by kernel_rfl)
    (of_decide_eq_true (by kernel_rfl)) (by unfold Func.isWrapper; first | (rw [if_pos (by decide +kernel)]; kernel_rfl) | (rw [if_neg (by decide +kernel)]; exact ⟨rfl, rfl⟩))
    (fun os started H enc _ => lifted os started H enc)

/-- ████ THE STATEMENT ████ -/
theorem proved : Rows.MapsEntersSaid :=
  over
#print axioms proved
end Go.Proofs.Ytngpfbcjmlpplaa.mapsEnters

