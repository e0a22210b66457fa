/- For every input the law CpoolBack returns true, and each argument reads behind the call as it read before. No condition. -/
import Derived.Test.YtccagiflocnioaaC32
import Derived.Test.YtccagiflocnioaaLibO
import Derived.Test.YtccagiflocnioaaRows
import Derived.WalkKit
import Derived.ProofKit
import Derived.OpenShut
namespace Go.Proofs.Ytccagiflocnioaa.cpoolBack
open Go.Proofs.Ytccagiflocnioaa.C1 Go.Proofs.Ytccagiflocnioaa.C4 Go.Proofs.Ytccagiflocnioaa.C32 Go.Proofs.Ytccagiflocnioaa.LibC Go.Proofs.Ytccagiflocnioaa.LibL Go.Proofs.Ytccagiflocnioaa.LibO
open Go.ChangeShapes Go.WideShapes Go.ChangeAt Go.RowKit Go.Joins
set_option linter.unusedSimpArgs false
set_option linter.unusedVariables false
theorem cl2 : Try.prog.cellsOf 2 = 1 := by kernel_rfl
theorem cl3 : Try.prog.cellsOf 3 = 1 := by kernel_rfl
theorem cl5 : Try.prog.cellsOf 5 = 1 := by kernel_rfl
theorem cl9 : Try.prog.cellsOf 9 = 1 := by kernel_rfl
theorem cl48 : Try.prog.cellsOf 48 = 5 := by kernel_rfl
theorem by5 : Try.prog.bytesOf 5 = 1 := by kernel_rfl
theorem by48 : Try.prog.bytesOf 48 = 48 := by kernel_rfl
def W64 (x : Int) : Prop := -9223372036854775808 ≤ x ∧ x ≤ 9223372036854775807
theorem w64_of {x : Int} (wx : (Lit.int .i64 x).wf = true) : W64 x := by
  simp only [Lit.wf, IntKind.min, IntKind.max, IntKind.signed, IntKind.bits, Bool.and_eq_true, decide_eq_true_eq] at wx
  unfold W64
  simpa using wx
theorem dec_cst {H : Type} {enc : TypeId × Value → H} {w : World} : ∀ n cs' (y : DataW H × List MemPlace), DataW.trod enc Try.prog w 0 (fun _ => true) true n 48 cs' = some y → Fit Try.prog 48 y.1 → ∃ v : CstD, cs' = cstC v ∧ (fun v : CstD => v.2.1.size ≤ reachBytes ∧ W64 v.2.2.1) v := by
  intro n cs y h hfit
  obtain ⟨hl, hs⟩ := struct_in Try.underlying48 h hfit
  rw [cl48] at hl
  obtain ⟨c0_, c1_, c2_, c3_, c4_, rfl⟩ := len5 hl
  obtain ⟨_, _, t1, f2⟩ := hs 0 _ rfl
  simp [cl3] at t1
  obtain ⟨t_, e_, _, wt_⟩ := DataW.trod_int Try.underlying3 t1
  simp only [List.cons.injEq, and_true] at e_
  subst e_
  obtain ⟨_, _, t3, f4⟩ := hs 1 _ rfl
  simp [cl9] at t3
  obtain ⟨s_, e_, ws_⟩ := string_in Try.underlying9 t3 f4
  simp only [List.cons.injEq, and_true] at e_
  subst e_
  obtain ⟨_, _, t5, f6⟩ := hs 2 _ rfl
  simp [cl2] at t5
  obtain ⟨n_, e_, _, wn_⟩ := DataW.trod_int Try.underlying2 t5
  simp only [List.cons.injEq, and_true] at e_
  subst e_
  obtain ⟨_, _, t7, f8⟩ := hs 3 _ rfl
  simp [cl3] at t7
  obtain ⟨a_, e_, _, wa_⟩ := DataW.trod_int Try.underlying3 t7
  simp only [List.cons.injEq, and_true] at e_
  subst e_
  obtain ⟨_, _, t9, f10⟩ := hs 4 _ rfl
  simp [cl3] at t9
  obtain ⟨b_, e_, _, wb_⟩ := DataW.trod_int Try.underlying3 t9
  simp only [List.cons.injEq, and_true] at e_
  subst e_
  exact ⟨(t_, s_, n_, a_, b_), rfl, ⟨ws_, w64_of wn_⟩⟩
theorem dec_u8 {H : Type} {enc : TypeId × Value → H} {w : World} : ∀ n cs' (y : DataW H × List MemPlace), DataW.trod enc Try.prog w 0 (fun _ => true) true n 5 cs' = some y → Fit Try.prog 5 y.1 → ∃ v : UInt8, cs' = C8 v ∧ (fun _ => True) v := by
  intro n cs y h hfit
  obtain ⟨x, rfl, _, wx⟩ := DataW.trod_int Try.underlying5 h
  have hb : 0 ≤ x ∧ x ≤ 255 := by
    simp only [Lit.wf, IntKind.min, IntKind.max, IntKind.signed, IntKind.bits, Bool.and_eq_true, decide_eq_true_eq] at wx
    simpa using wx
  refine ⟨UInt8.ofNat x.toNat, ?_, trivial⟩
  have e : ((UInt8.ofNat x.toNat).toNat : Int) = x := by
    rw [UInt8.toNat_ofNat']
    omega
  unfold C8; rw [e]

theorem own : ownKnob Try.prog.godebug = none := by kernel_rfl
theorem laidOut : laidOutB Try.prog = true := by kernel_rfl
theorem readable : ∀ t ∈ Try.f5.params.toList, Try.prog.readableRec t = true ∧ t < Try.prog.types.size := by
  rw [Try.params5]
  intro t ht
  simp at ht
  rcases ht with rfl | rfl | rfl <;> exact ⟨by kernel_rfl, of_decide_eq_true (by kernel_rfl)⟩

set_option maxRecDepth 100000 in
theorem lifted (os : Os) (started : os.Started) (H : Type) (enc : TypeId × Value → H) :
    ReturnsInHanded {} Try.checked os 5 .any (Rows.cpoolBackSpec.pre6 enc Try.prog Try.f5 Rows.cpoolBackRow.domain false) (Rows.cpoolBackSpec.post enc Try.prog Try.f5 false true false false) := by
  refine returnsInHanded_of_change_sized (C := Try.checked) own started (by kernel_rfl) Try.func5
    (ChangeSpec.witness6 (enc := enc) (C := Try.checked) false ⟨#[], #[.slice none 0 0, .slice none 0 0, .slice none 0 0], []⟩ 8 (by kernel_rfl) (by kernel_rfl) (by kernel_rfl) (by kernel_rfl)) ?_
  intro W base args ds gs before hval0 hW hcnd hsz0 _
  have hval : ∀ (j : Nat) t v, Try.f5.params[j]? = some t → args[j]? = some v → Value.okWide Try.prog W .any base t v := hval0
  have hsz : (DataW.weightsEach Try.prog (Try.f5.params.toList ++ Rows.cpoolBackSpec.plain.varTypes Try.prog) (ds ++ gs)).all (· ≤ reachBytes) = true := hsz0
  have hW' := hW
  have hlt := fun x hx => hW'.lt x hx
  obtain ⟨p, q, hA0, hV, rfl, hfz, hnd⟩ := hW
  have hA : DataW.TrodAll enc Try.prog W 0 (fun _ => true) true Try.f5.params.toList args.toList ds p := hA0
  have hAk := hA
  obtain ⟨rfl, rfl⟩ := trodVars_none hV
  rw [Try.params5] at hA hval hsz
  obtain ⟨v0, vs0, d0, ds0, p0, q0, hargs, rfl, rfl, h0, r0⟩ := trodAll_cons hA
  obtain ⟨v1, vs1, d1, ds1, p1, q1, rfl, rfl, rfl, h1, r1⟩ := trodAll_cons r0
  obtain ⟨v2, vs2, d2, ds2, p2, q2, rfl, rfl, rfl, h2, r2⟩ := trodAll_cons r1
  obtain ⟨rfl, rfl, rfl⟩ := trodAll_nil r2
  obtain rfl : args = #[v0, v1, v2] := by cases args; simp_all
  obtain ⟨LA, lc, l, rfl, h0LA, h1LA, h2LA, h3LA, h4LA, h5LA⟩ := slice_arg cstC (fun v : CstD => v.2.1.size ≤ reachBytes ∧ W64 v.2.2.1) Try.underlying23 (by rw [cl48]; decide) dec_cst (hval 0 23 v0 rfl rfl) h0 (fit_arg hsz (j := 0) rfl rfl)
  rw [cl48] at h4LA
  rw [by48] at h3LA
  obtain ⟨BA, bc, bs, rfl, h0BA, h1BA, h2BA, h3BA, h4BA, h5BA⟩ := slice_arg C8 (fun _ => True) Try.underlying22 (by rw [cl5]; decide) dec_u8 (hval 1 22 v1 rfl rfl) h1 (fit_arg hsz (j := 1) rfl rfl)
  rw [cl5] at h4BA
  rw [by5] at h3BA
  obtain ⟨MA, mc, ms, rfl, h0MA, h1MA, h2MA, h3MA, h4MA, h5MA⟩ := slice_arg C8 (fun _ => True) Try.underlying22 (by rw [cl5]; decide) dec_u8 (hval 2 22 v2 rfl rfl) h2 (fit_arg hsz (j := 2) rfl rfl)
  rw [cl5] at h4MA
  rw [by5] at h3MA
  simp only [reachBytes] at *
  refine (back_walk l LA lc (by omega) (fun c hc => by rw [Array.length_toList]; exact Nat.le_trans (h5LA c hc).1 (by decide)) (fun c hc => (h5LA c hc).2) bs BA bc h1BA (by omega) ms MA mc (by omega) W h4LA h4BA h4MA).mono fun e W' ⟨he, hb⟩ => ?_
  subst he
  refine ⟨_, rfl, _, _, _, [], _, [], hW', ?_, trodAll_below laidOut hb _ _ _ _ readable hAk (fun x hx => ?_), rfl, hb.frame _, fun h => by cases h⟩
  · exact trodAll_cons_mk (shut_bool Try.underlying4 _) trodAll_mk0
  · simpa using hlt x (by simpa using hx)

theorem over : Rows.cpoolBackRow.holds Try.pinned (OpenSpec.ofChange Rows.cpoolBackSpec) :=
  OpenClaim.holds_of_wide 5 Try.f5 rfl rfl rfl rfl rfl rfl rfl ⟨rfl, rfl, rfl, rfl, rfl⟩ rfl rfl rfl rfl rfl (by kernel_rfl) Try.func5 (by kernel_rfl)
    (of_decide_eq_true (by kernel_rfl)) (by unfold Func.isWrapper; first | (rw [if_pos (by decide +kernel)]; kernel_rfl) | (rw [if_neg (by decide +kernel)]; exact ⟨rfl, rfl⟩))
    (fun os started H enc _ => lifted os started H enc)

/-- ████ THE STATEMENT ████ -/
theorem proved : Rows.CpoolBackSaid :=
  over
#print axioms proved
end Go.Proofs.Ytccagiflocnioaa.cpoolBack

