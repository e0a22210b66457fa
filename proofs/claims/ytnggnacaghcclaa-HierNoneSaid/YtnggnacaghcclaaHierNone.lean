/- For every input the law HierNone returns true, and each argument reads behind the call as it read before. No condition. -/
import Derived.Test.YtnggnacaghcclaaH15
import Derived.Test.YtnggnacaghcclaaLibO
import Derived.Test.YtnggnacaghcclaaRows
import Derived.WalkKit
import Derived.ProofKit
import Derived.OpenShut
namespace Go.Proofs.Ytnggnacaghcclaa.hierNone
open Go.Proofs.Ytnggnacaghcclaa.H1 Go.Proofs.Ytnggnacaghcclaa.H2 Go.Proofs.Ytnggnacaghcclaa.H3 Go.Proofs.Ytnggnacaghcclaa.LibC Go.Proofs.Ytnggnacaghcclaa.H15 Go.Proofs.Ytnggnacaghcclaa.LibL Go.Proofs.Ytnggnacaghcclaa.LibO
open Go.ChangeShapes Go.WideShapes Go.ChangeAt Go.RowKit Go.Joins
set_option linter.unusedSimpArgs false
set_option linter.unusedVariables false
theorem cl9 : Try.prog.cellsOf 9 = 1 := by kernel_rfl
theorem cl56 : Try.prog.cellsOf 56 = 2 := by kernel_rfl
theorem by56 : Try.prog.bytesOf 56 = 32 := by kernel_rfl
theorem dec_line {H : Type} {enc : TypeId × Value → H} {w : World} : ∀ n cs' (y : DataW H × List MemPlace), DataW.trod enc Try.prog w 0 (fun _ => true) true n 56 cs' = some y → Fit Try.prog 56 y.1 → ∃ v : LineD, cs' = lineC v ∧ (fun _ => True) v := by
  intro n cs y h hfit
  obtain ⟨hl, hs⟩ := struct_in Try.underlying56 h hfit
  rw [cl56] at hl
  obtain ⟨c0_, c1_, rfl⟩ := len2 hl
  obtain ⟨_, _, t1, f2⟩ := hs 0 _ rfl
  simp [cl9] at t1
  obtain ⟨s0_, e_, ws0_⟩ := string_in Try.underlying9 t1 f2
  simp only [List.cons.injEq, and_true] at e_
  subst e_
  obtain ⟨_, _, t3, f4⟩ := hs 1 _ rfl
  simp [cl9] at t3
  obtain ⟨s1_, e_, ws1_⟩ := string_in Try.underlying9 t3 f4
  simp only [List.cons.injEq, and_true] at e_
  subst e_
  exact ⟨(s0_, s1_), rfl, trivial⟩
theorem cl3 : Try.prog.cellsOf 3 = 1 := by kernel_rfl

theorem own : ownKnob Try.prog.godebug = none := by kernel_rfl
theorem laidOut : laidOutB Try.prog = true := by kernel_rfl
theorem readable : ∀ t ∈ Try.f6.params.toList, Try.prog.readableRec t = true ∧ t < Try.prog.types.size := by
  rw [Try.params6]
  intro t ht
  simp at ht
  rcases ht with rfl | rfl <;> exact ⟨by kernel_rfl, of_decide_eq_true (by kernel_rfl)⟩

set_option maxRecDepth 100000 in
theorem lifted (os : Os) (started : os.Started) (H : Type) (enc : TypeId × Value → H) :
    ReturnsInHanded {} Try.checked os 6 .any (Rows.hierNoneSpec.pre6 enc Try.prog Try.f6 Rows.hierNoneRow.domain false) (Rows.hierNoneSpec.post enc Try.prog Try.f6 false true false false) := by
  refine returnsInHanded_of_change_sized (C := Try.checked) own started (by kernel_rfl) Try.func6
    (ChangeSpec.witness6 (enc := enc) (C := Try.checked) false ⟨#[], #[.slice none 0 0, .int .i64 0], []⟩ 8 (by kernel_rfl) (by kernel_rfl) (by kernel_rfl) (by kernel_rfl)) ?_
  intro W base args ds gs before hval0 hW hcnd hsz0 _
  have hval : ∀ (j : Nat) t v, Try.f6.params[j]? = some t → args[j]? = some v → Value.okWide Try.prog W .any base t v := hval0
  have hsz : (DataW.weightsEach Try.prog (Try.f6.params.toList ++ Rows.hierNoneSpec.plain.varTypes Try.prog) (ds ++ gs)).all (· ≤ reachBytes) = true := hsz0
  have hW' := hW
  have hlt := fun x hx => hW'.lt x hx
  obtain ⟨p, q, hA0, hV, rfl, hfz, hnd⟩ := hW
  have hA : DataW.TrodAll enc Try.prog W 0 (fun _ => true) true Try.f6.params.toList args.toList ds p := hA0
  have hAk := hA
  obtain ⟨rfl, rfl⟩ := trodVars_none hV
  rw [Try.params6] at hA hval hsz
  obtain ⟨v0, vs0, d0, ds0, p0, q0, hargs, rfl, rfl, h0, r0⟩ := trodAll_cons hA
  obtain ⟨v1, vs1, d1, ds1, p1, q1, rfl, rfl, rfl, h1, r1⟩ := trodAll_cons r0
  obtain ⟨rfl, rfl, rfl⟩ := trodAll_nil r1
  obtain rfl : args = #[v0, v1] := by cases args; simp_all
  obtain ⟨LA, lc, l, rfl, h0LA, h1LA, h2LA, h3LA, h4LA, h5LA⟩ := slice_arg lineC (fun _ => True) Try.underlying22 (by rw [cl56]; decide) dec_line (hval 0 22 v0 rfl rfl) h0 (fit_arg hsz (j := 0) rfl rfl)
  rw [cl56] at h4LA
  rw [by56] at h3LA
  obtain ⟨n_, rfl, hd1, hp1, wn_⟩ := open_int Try.underlying3 (hval 1 3 v1 rfl rfl) h1
  simp only [reachBytes] at *
  refine (none_walk l LA lc n_ (by omega) (by omega) W h4LA).mono fun e W' ⟨he, hb⟩ => ?_
  subst he
  refine ⟨_, rfl, _, _, _, [], _, [], hW', ?_, trodAll_below laidOut hb _ _ _ _ readable hAk (fun x hx => ?_), rfl, hb.frame _, fun h => by cases h⟩
  · exact trodAll_cons_mk (shut_bool Try.underlying4 _) trodAll_mk0
  · simpa using hlt x (by simpa using hx)

theorem over : Rows.hierNoneRow.holds Try.pinned (OpenSpec.ofChange Rows.hierNoneSpec) :=
  OpenClaim.holds_of_wide 6 Try.f6 rfl rfl rfl rfl rfl rfl rfl ⟨rfl, rfl, rfl, rfl, rfl⟩ rfl rfl rfl rfl rfl (by kernel_rfl) Try.func6 (by kernel_rfl)
    (of_decide_eq_true (by kernel_rfl)) (by unfold Func.isWrapper; first | (rw [if_pos (by decide +kernel)]; kernel_rfl) | (rw [if_neg (by decide +kernel)]; exact ⟨rfl, rfl⟩))
    (fun os started H enc _ => lifted os started H enc)

/-- ████ THE STATEMENT ████ -/
theorem proved : Rows.HierNoneSaid :=
  over
#print axioms proved
end Go.Proofs.Ytnggnacaghcclaa.hierNone

