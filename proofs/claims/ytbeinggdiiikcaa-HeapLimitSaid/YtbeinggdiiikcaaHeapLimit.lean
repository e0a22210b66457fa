/- For every input the law HeapLimit returns true, and each argument reads behind the call as it read before. No condition. -/
import Derived.Test.YtbeinggdiiikcaaG6
import Derived.Test.YtbeinggdiiikcaaLibO
import Derived.Test.YtbeinggdiiikcaaRows
import Derived.WalkKit
import Derived.ProofKit
import Derived.OpenShut
namespace Go.Proofs.Ytbeinggdiiikcaa.heapLimit
open Go.Proofs.Ytbeinggdiiikcaa.G1 Go.Proofs.Ytbeinggdiiikcaa.G2 Go.Proofs.Ytbeinggdiiikcaa.G3 Go.Proofs.Ytbeinggdiiikcaa.G4 Go.Proofs.Ytbeinggdiiikcaa.G5 Go.Proofs.Ytbeinggdiiikcaa.G6 Go.Proofs.Ytbeinggdiiikcaa.LibC Go.Proofs.Ytbeinggdiiikcaa.LibL Go.Proofs.Ytbeinggdiiikcaa.LibO
open Go.ChangeShapes Go.WideShapes Go.ChangeAt Go.RowKit Go.Joins
set_option linter.unusedSimpArgs false
set_option linter.unusedVariables false
theorem cl22 : Try.prog.cellsOf 22 = 1 := by kernel_rfl
theorem by22 : Try.prog.bytesOf 22 = 2 := by kernel_rfl
theorem u16_of {x : Int} (wx : (Lit.int .u16 x).wf = true) : 0 ≤ x ∧ x ≤ 65535 := by
  simp only [Lit.wf, IntKind.min, IntKind.max, IntKind.signed, IntKind.bits, Bool.and_eq_true, decide_eq_true_eq] at wx
  simpa using wx
theorem dec_u16 {H : Type} {enc : TypeId × Value → H} {w : World} : ∀ n cs' (y : DataW H × List MemPlace), DataW.trod enc Try.prog w 0 (fun _ => true) true n 22 cs' = some y → Fit Try.prog 22 y.1 → ∃ v : Int, cs' = C16 v ∧ (fun v : Int => 0 ≤ v ∧ v ≤ 65535) v := by
  intro n cs y h hfit
  obtain ⟨x_, rfl, _, wx_⟩ := DataW.trod_int Try.underlying22 h
  exact ⟨x_, rfl, u16_of wx_⟩

theorem own : ownKnob Try.prog.godebug = none := by kernel_rfl
theorem laidOut : laidOutB Try.prog = true := by kernel_rfl
theorem readable : ∀ t ∈ Try.f3.params.toList, Try.prog.readableRec t = true ∧ t < Try.prog.types.size := by
  rw [Try.params3]
  intro t ht
  simp at ht
  rcases ht with rfl | rfl <;> exact ⟨by kernel_rfl, of_decide_eq_true (by kernel_rfl)⟩

set_option maxRecDepth 100000 in
theorem lifted (os : Os) (started : os.Started) (H : Type) (enc : TypeId × Value → H) :
    ReturnsInHanded {} Try.checked os 3 .any (Rows.heapLimitSpec.pre6 enc Try.prog Try.f3 Rows.heapLimitRow.domain false) (Rows.heapLimitSpec.post enc Try.prog Try.f3 false true false false) := by
  refine returnsInHanded_of_change_sized (C := Try.checked) own started (by kernel_rfl) Try.func3
    (ChangeSpec.witness6 (enc := enc) (C := Try.checked) false ⟨#[], #[.int .u16 0, .slice none 0 0], []⟩ 8 (by kernel_rfl) (by kernel_rfl) (by kernel_rfl) (by kernel_rfl)) ?_
  intro W base args ds gs before hval0 hW hcnd hsz0 _
  have hval : ∀ (j : Nat) t v, Try.f3.params[j]? = some t → args[j]? = some v → Value.okWide Try.prog W .any base t v := hval0
  have hsz : (DataW.weightsEach Try.prog (Try.f3.params.toList ++ Rows.heapLimitSpec.plain.varTypes Try.prog) (ds ++ gs)).all (· ≤ reachBytes) = true := hsz0
  have hW' := hW
  have hlt := fun x hx => hW'.lt x hx
  obtain ⟨p, q, hA0, hV, rfl, hfz, hnd⟩ := hW
  have hA : DataW.TrodAll enc Try.prog W 0 (fun _ => true) true Try.f3.params.toList args.toList ds p := hA0
  have hAk := hA
  obtain ⟨rfl, rfl⟩ := trodVars_none hV
  rw [Try.params3] at hA hval hsz
  obtain ⟨v0, vs0, d0, ds0, p0, q0, hargs, rfl, rfl, h0, r0⟩ := trodAll_cons hA
  obtain ⟨v1, vs1, d1, ds1, p1, q1, rfl, rfl, rfl, h1, r1⟩ := trodAll_cons r0
  obtain ⟨rfl, rfl, rfl⟩ := trodAll_nil r1
  obtain rfl : args = #[v0, v1] := by cases args; simp_all
  obtain ⟨lim_, rfl, hd0, hp0, wlim_⟩ := open_int Try.underlying22 (hval 0 22 v0 rfl rfl) h0
  obtain ⟨SA, sc, ss, rfl, h0SA, h1SA, h2SA, h3SA, h4SA, h5SA⟩ := slice_arg C16 (fun v : Int => 0 ≤ v ∧ v ≤ 65535) Try.underlying23 (by rw [cl22]; decide) dec_u16 (hval 1 23 v1 rfl rfl) h1 (fit_arg hsz (j := 1) rfl rfl)
  rw [cl22] at h4SA
  rw [by22] at h3SA
  simp only [reachBytes] at *
  refine (limit_walk lim_ (u16_of wlim_).1 (u16_of wlim_).2 ss h5SA SA sc (by omega) W h4SA).mono fun e W' ⟨he, hb⟩ => ?_
  subst he
  refine ⟨_, rfl, _, _, _, [], _, [], hW', ?_, trodAll_below laidOut hb _ _ _ _ readable hAk (fun x hx => ?_), rfl, hb.frame _, fun h => by cases h⟩
  · exact trodAll_cons_mk (shut_bool Try.underlying4 _) trodAll_mk0
  · simpa using hlt x (by simpa using hx)

theorem over : Rows.heapLimitRow.holds Try.pinned (OpenSpec.ofChange Rows.heapLimitSpec) :=
  OpenClaim.holds_of_wide 3 Try.f3 rfl rfl rfl rfl rfl rfl rfl ⟨rfl, rfl, rfl, rfl, rfl⟩ rfl rfl rfl rfl rfl (by kernel_rfl) Try.func3 (by kernel_rfl)
    (of_decide_eq_true (by kernel_rfl)) (by unfold Func.isWrapper; first | (rw [if_pos (by decide +kernel)]; kernel_rfl) | (rw [if_neg (by decide +kernel)]; exact ⟨rfl, rfl⟩))
    (fun os started H enc _ => lifted os started H enc)

/-- ████ THE STATEMENT ████ -/
theorem proved : Rows.HeapLimitSaid :=
  over
#print axioms proved
end Go.Proofs.Ytbeinggdiiikcaa.heapLimit

