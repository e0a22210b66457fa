/- For every input the law HeapNone returns true, and each argument reads behind the call as it read before. No condition. -/
import Derived.Test.YtbeinggdiiikcaaG7
import Derived.Test.YtbeinggdiiikcaaLibO
import Derived.Test.YtbeinggdiiikcaaRows
import Derived.WalkKit
import Derived.ProofKit
import Derived.OpenShut
namespace Go.Proofs.Ytbeinggdiiikcaa.heapNone
open Go.Proofs.Ytbeinggdiiikcaa.G1 Go.Proofs.Ytbeinggdiiikcaa.G2 Go.Proofs.Ytbeinggdiiikcaa.G3 Go.Proofs.Ytbeinggdiiikcaa.G4 Go.Proofs.Ytbeinggdiiikcaa.G5 Go.Proofs.Ytbeinggdiiikcaa.G6 Go.Proofs.Ytbeinggdiiikcaa.G7 Go.Proofs.Ytbeinggdiiikcaa.LibC Go.Proofs.Ytbeinggdiiikcaa.LibL Go.Proofs.Ytbeinggdiiikcaa.LibO
open Go.ChangeShapes Go.WideShapes Go.ChangeAt Go.RowKit Go.Joins
set_option linter.unusedSimpArgs false
set_option linter.unusedVariables false
theorem cl2 : Try.prog.cellsOf 2 = 1 := by kernel_rfl
theorem cl3 : Try.prog.cellsOf 3 = 1 := by kernel_rfl
theorem cl9 : Try.prog.cellsOf 9 = 1 := by kernel_rfl
theorem cl32 : Try.prog.cellsOf 32 = 2 := by kernel_rfl
theorem cl40 : Try.prog.cellsOf 40 = 1 := by kernel_rfl
theorem cl42 : Try.prog.cellsOf 42 = 2 := by kernel_rfl
theorem cl44 : Try.prog.cellsOf 44 = 9 := by kernel_rfl
theorem by32 : Try.prog.bytesOf 32 = 24 := by kernel_rfl
theorem len9 {α : Type} {l : List α} (h : l.length = 9) : ∃ a b c d e f g i j, l = [a, b, c, d, e, f, g, i, j] := by match l, h with | [a, b, c, d, e, f, g, i, j], _ => exact ⟨a, b, c, d, e, f, g, i, j, rfl⟩
theorem dec_typ {H : Type} {enc : TypeId × Value → H} {w : World} : ∀ n cs' (y : DataW H × List MemPlace), DataW.trod enc Try.prog w 0 (fun _ => true) true n 32 cs' = some y → Fit Try.prog 32 y.1 → ∃ v : TyD, cs' = typC v ∧ (fun _ => True) v := by
  intro n cs y h hfit
  obtain ⟨hl, hs⟩ := struct_in Try.underlying32 h hfit
  rw [cl32] at hl
  obtain ⟨c0_, c1_, rfl⟩ := len2 hl
  obtain ⟨_, _, t1, f2⟩ := hs 0 _ rfl
  simp [cl3] at t1
  obtain ⟨tk_, e_, _, wtk_⟩ := DataW.trod_int Try.underlying3 t1
  simp only [List.cons.injEq, and_true] at e_
  subst e_
  obtain ⟨_, _, t3, f4⟩ := hs 1 _ rfl
  simp [cl9] at t3
  obtain ⟨tn_, e_, wtn_⟩ := string_in Try.underlying9 t3 f4
  simp only [List.cons.injEq, and_true] at e_
  subst e_
  exact ⟨(tk_, tn_), rfl, trivial⟩

theorem own : ownKnob Try.prog.godebug = none := by kernel_rfl
theorem laidOut : laidOutB Try.prog = true := by kernel_rfl
theorem readable : ∀ t ∈ Try.f6.params.toList, Try.prog.readableRec t = true ∧ t < Try.prog.types.size := by
  rw [Try.params6]
  intro t ht
  simp at ht
  subst ht; exact ⟨by kernel_rfl, of_decide_eq_true (by kernel_rfl)⟩

set_option maxRecDepth 100000 in
theorem lifted (os : Os) (started : os.Started) (H : Type) (enc : TypeId × Value → H) :
    ReturnsInHanded {} Try.checked os 6 .any (Rows.heapNoneSpec.pre6 enc Try.prog Try.f6 Rows.heapNoneRow.domain false) (Rows.heapNoneSpec.post enc Try.prog Try.f6 false true false false) := by
  refine returnsInHanded_of_change_sized (C := Try.checked) own started (by kernel_rfl) Try.func6
    (ChangeSpec.witness6 (enc := enc) (C := Try.checked) false ⟨#[], #[.agg #[.int .i64 0, .int .i64 0, .slice none 0 0, .int .i64 0, .string ByteArray.empty, .int .i64 0, .int .i64 0, .int .i64 0, .int .i64 0]], []⟩ 8 (by kernel_rfl) (by kernel_rfl) (by kernel_rfl) (by kernel_rfl)) ?_
  intro W base args ds gs before hval0 hW hcnd hsz0 _
  have hval : ∀ (j : Nat) t v, Try.f6.params[j]? = some t → args[j]? = some v → Value.okWide Try.prog W .any base t v := hval0
  have hsz : (DataW.weightsEach Try.prog (Try.f6.params.toList ++ Rows.heapNoneSpec.plain.varTypes Try.prog) (ds ++ gs)).all (· ≤ reachBytes) = true := hsz0
  have hW' := hW
  have hlt := fun x hx => hW'.lt x hx
  obtain ⟨p, q, hA0, hV, rfl, hfz, hnd⟩ := hW
  have hA : DataW.TrodAll enc Try.prog W 0 (fun _ => true) true Try.f6.params.toList args.toList ds p := hA0
  have hAk := hA
  obtain ⟨rfl, rfl⟩ := trodVars_none hV
  rw [Try.params6] at hA hval hsz
  obtain ⟨v0, vs0, d0, ds0, p0, q0, hargs, rfl, rfl, h0, r0⟩ := trodAll_cons hA
  obtain ⟨rfl, rfl, rfl⟩ := trodAll_nil r0
  obtain rfl : args = #[v0] := by cases args; simp_all
  obtain ⟨cs0, rfl, hl0, hs0⟩ := agg_in Try.underlying44 (hval 0 44 v0 rfl rfl) h0 (fit_arg hsz (j := 0) rfl rfl)
  rw [cl44] at hl0
  obtain ⟨z0_0, z0_1, z0_2, z0_3, z0_4, z0_5, z0_6, z0_7, z0_8, rfl⟩ := len9 hl0
  obtain ⟨_, _, t5, f6⟩ := hs0 0 _ rfl
  simp [cl3] at t5
  obtain ⟨o0, e_, _, wo0⟩ := DataW.trod_int Try.underlying3 t5
  simp only [List.cons.injEq, and_true] at e_
  subst e_
  obtain ⟨_, _, t7, f8⟩ := hs0 1 _ rfl
  simp [cl3] at t7
  obtain ⟨o1, e_, _, wo1⟩ := DataW.trod_int Try.underlying3 t7
  simp only [List.cons.injEq, and_true] at e_
  subst e_
  obtain ⟨_, _, t9, f10⟩ := hs0 2 _ rfl
  simp [cl40] at t9
  obtain ⟨TA, tc, ts, e_, h0TA, h1TA, h2TA, h3TA, h4TA, h5TA⟩ := slice_in typC (fun _ => True) Try.underlying40 (by rw [cl32]; decide) dec_typ t9 f10
  simp only [List.cons.injEq, and_true] at e_
  subst e_
  rw [cl32] at h4TA
  rw [by32] at h3TA
  obtain ⟨_, _, t11, f12⟩ := hs0 3 _ rfl
  simp [cl32] at t11
  obtain ⟨_, hs13⟩ := struct_in Try.underlying32 t11 f12
  obtain ⟨_, _, t14, f15⟩ := hs13 0 _ rfl
  simp [cl3] at t14
  obtain ⟨ek, e_, _, wek⟩ := DataW.trod_int Try.underlying3 t14
  simp only [List.cons.injEq, and_true] at e_
  subst e_
  obtain ⟨_, _, t16, f17⟩ := hs13 1 _ rfl
  simp [cl9] at t16
  obtain ⟨en, e_, wen⟩ := string_in Try.underlying9 t16 f17
  simp only [List.cons.injEq, and_true] at e_
  subst e_
  obtain ⟨_, _, t18, f19⟩ := hs0 4 _ rfl
  simp [cl2] at t18
  obtain ⟨r, e_, _, wr⟩ := DataW.trod_int Try.underlying2 t18
  simp only [List.cons.injEq, and_true] at e_
  subst e_
  obtain ⟨_, _, t20, f21⟩ := hs0 5 _ rfl
  simp [cl2] at t20
  obtain ⟨oi, e_, _, woi⟩ := DataW.trod_int Try.underlying2 t20
  simp only [List.cons.injEq, and_true] at e_
  subst e_
  obtain ⟨_, _, t22, f23⟩ := hs0 6 _ rfl
  simp [cl42] at t22
  obtain ⟨_, hs24⟩ := struct_in Try.underlying42 t22 f23
  obtain ⟨_, _, t25, f26⟩ := hs24 0 _ rfl
  simp [cl3] at t25
  obtain ⟨vk, e_, _, wvk⟩ := DataW.trod_int Try.underlying3 t25
  simp only [List.cons.injEq, and_true] at e_
  subst e_
  obtain ⟨_, _, t27, f28⟩ := hs24 1 _ rfl
  simp [cl2] at t27
  obtain ⟨vn, e_, _, wvn⟩ := DataW.trod_int Try.underlying2 t27
  simp only [List.cons.injEq, and_true] at e_
  subst e_
  simp only [reachBytes] at *
  refine (none_walk o0 o1 TA ts.length tc ek en r oi vk vn W).mono fun e W' ⟨he, hb⟩ => ?_
  subst he
  refine ⟨_, rfl, _, _, _, [], _, [], hW', ?_, trodAll_below laidOut hb _ _ _ _ readable hAk (fun x hx => ?_), rfl, hb.frame _, fun h => by cases h⟩
  · exact trodAll_cons_mk (shut_bool Try.underlying4 _) trodAll_mk0
  · simpa using hlt x (by simpa using hx)

theorem over : Rows.heapNoneRow.holds Try.pinned (OpenSpec.ofChange Rows.heapNoneSpec) :=
  OpenClaim.holds_of_wide 6 Try.f6 rfl rfl rfl rfl rfl rfl rfl ⟨rfl, rfl, rfl, rfl, rfl⟩ rfl rfl rfl rfl rfl (by kernel_rfl) Try.func6 (by kernel_rfl)
    (of_decide_eq_true (by kernel_rfl)) (by unfold Func.isWrapper; first | (rw [if_pos (by decide +kernel)]; kernel_rfl) | (rw [if_neg (by decide +kernel)]; exact ⟨rfl, rfl⟩))
    (fun os started H enc _ => lifted os started H enc)

/-- ████ THE STATEMENT ████ -/
theorem proved : Rows.HeapNoneSaid :=
  over
#print axioms proved
end Go.Proofs.Ytbeinggdiiikcaa.heapNone

