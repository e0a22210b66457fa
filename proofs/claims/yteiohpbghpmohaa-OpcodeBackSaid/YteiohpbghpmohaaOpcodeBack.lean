/- For every input the law OpcodeBack returns true, and each argument reads behind the call as it read before. No condition. -/
import Derived.Test.YteiohpbghpmohaaO18
import Derived.Test.YteiohpbghpmohaaLibO
import Derived.Test.YteiohpbghpmohaaRows
import Derived.WalkKit
import Derived.ProofKit
import Derived.OpenShut
namespace Go.Proofs.Yteiohpbghpmohaa.opcodeBack
open Go.Proofs.Yteiohpbghpmohaa.O1 Go.Proofs.Yteiohpbghpmohaa.O2 Go.Proofs.Yteiohpbghpmohaa.O3 Go.Proofs.Yteiohpbghpmohaa.O4 Go.Proofs.Yteiohpbghpmohaa.O6 Go.Proofs.Yteiohpbghpmohaa.O7 Go.Proofs.Yteiohpbghpmohaa.O8 Go.Proofs.Yteiohpbghpmohaa.O10 Go.Proofs.Yteiohpbghpmohaa.O11 Go.Proofs.Yteiohpbghpmohaa.O12 Go.Proofs.Yteiohpbghpmohaa.O16 Go.Proofs.Yteiohpbghpmohaa.O17 Go.Proofs.Yteiohpbghpmohaa.O18 Go.Proofs.Yteiohpbghpmohaa.LibC Go.Proofs.Yteiohpbghpmohaa.LibL Go.Proofs.Yteiohpbghpmohaa.LibO
open Go.ChangeShapes Go.WideShapes Go.ChangeAt Go.RowKit Go.Joins
set_option linter.unusedSimpArgs false
set_option linter.unusedVariables false
theorem cl3 : Try.prog.cellsOf 3 = 1 := by kernel_rfl
theorem cl5 : Try.prog.cellsOf 5 = 1 := by kernel_rfl
theorem cl29 : Try.prog.cellsOf 29 = 4 := by kernel_rfl
theorem by5 : Try.prog.bytesOf 5 = 1 := by kernel_rfl
theorem by29 : Try.prog.bytesOf 29 = 32 := by kernel_rfl
theorem dec_u8 {H : Type} {enc : TypeId × Value → H} {w : World} : ∀ n cs' (y : DataW H × List MemPlace), DataW.trod enc Try.prog w 0 (fun _ => true) true n 5 cs' = some y → Fit Try.prog 5 y.1 → ∃ v : UInt8, cs' = C8 v ∧ (fun _ => True) v := by
  intro n cs y h hfit
  obtain ⟨x, rfl, _, wx⟩ := DataW.trod_int Try.underlying5 h
  have hb : 0 ≤ x ∧ x ≤ 255 := by
    simp only [Lit.wf, IntKind.min, IntKind.max, IntKind.signed, IntKind.bits, Bool.and_eq_true, decide_eq_true_eq] at wx
    simpa using wx
  refine ⟨UInt8.ofNat x.toNat, ?_, trivial⟩
  have e : ((UInt8.ofNat x.toNat).toNat : Int) = x := by
    rw [UInt8.toNat_ofNat']
    omega
  unfold C8; rw [e]
theorem u8_of {x : Int} (wx : (Lit.int .u8 x).wf = true) : ∃ v : UInt8, x = (v.toNat : Int) := by
  have hb : 0 ≤ x ∧ x ≤ 255 := by
    simp only [Lit.wf, IntKind.min, IntKind.max, IntKind.signed, IntKind.bits, Bool.and_eq_true, decide_eq_true_eq] at wx
    simpa using wx
  refine ⟨UInt8.ofNat x.toNat, ?_⟩
  rw [UInt8.toNat_ofNat']
  omega
theorem w64_of {x : Int} (wx : (Lit.int .i64 x).wf = true) : W64 x := by
  simp only [Lit.wf, IntKind.min, IntKind.max, IntKind.signed, IntKind.bits, Bool.and_eq_true, decide_eq_true_eq] at wx
  unfold W64
  simpa using wx
theorem dec_ins {H : Type} {enc : TypeId × Value → H} {w : World} : ∀ n cs' (y : DataW H × List MemPlace), DataW.trod enc Try.prog w 0 (fun _ => true) true n 29 cs' = some y → Fit Try.prog 29 y.1 → ∃ v : InsD, cs' = insC v ∧ (fun v : InsD => W64 v.2.2.1) v := by
  intro n cs y h hfit
  obtain ⟨hl, hs⟩ := struct_in Try.underlying29 h hfit
  rw [cl29] at hl
  obtain ⟨c0_, c1_, c2_, c3_, rfl⟩ := len4 hl
  obtain ⟨_, _, t1, f2⟩ := hs 0 _ rfl
  simp [cl3] at t1
  obtain ⟨a_, e_, _, wa_⟩ := DataW.trod_int Try.underlying3 t1
  simp only [List.cons.injEq, and_true] at e_
  subst e_
  obtain ⟨_, _, t3, f4⟩ := hs 1 _ rfl
  simp [cl3] at t3
  obtain ⟨o_, e_, _, wo_⟩ := DataW.trod_int Try.underlying3 t3
  simp only [List.cons.injEq, and_true] at e_
  subst e_
  obtain ⟨_, _, t5, f6⟩ := hs 2 _ rfl
  simp [cl3] at t5
  obtain ⟨x_, e_, _, wx_⟩ := DataW.trod_int Try.underlying3 t5
  simp only [List.cons.injEq, and_true] at e_
  subst e_
  obtain ⟨_, _, t7, f8⟩ := hs 3 _ rfl
  simp [cl3] at t7
  obtain ⟨y_, e_, _, wy_⟩ := DataW.trod_int Try.underlying3 t7
  simp only [List.cons.injEq, and_true] at e_
  subst e_
  exact ⟨(a_, o_, x_, y_), rfl, w64_of wx_⟩

theorem own : ownKnob Try.prog.godebug = none := by kernel_rfl
theorem laidOut : laidOutB Try.prog = true := by kernel_rfl
theorem readable : ∀ t ∈ Try.f7.params.toList, Try.prog.readableRec t = true ∧ t < Try.prog.types.size := by
  rw [Try.params7]
  intro t ht
  simp at ht
  rcases ht with rfl | rfl <;> exact ⟨by kernel_rfl, of_decide_eq_true (by kernel_rfl)⟩

set_option maxRecDepth 100000 in
theorem lifted (os : Os) (started : os.Started) (H : Type) (enc : TypeId × Value → H) :
    ReturnsInHanded {} Try.checked os 7 .any (Rows.opcodeBackSpec.pre6 enc Try.prog Try.f7 Rows.opcodeBackRow.domain false) (Rows.opcodeBackSpec.post enc Try.prog Try.f7 false true false false) := by
  refine returnsInHanded_of_change_sized (C := Try.checked) own started (by kernel_rfl) Try.func7
    (ChangeSpec.witness6 (enc := enc) (C := Try.checked) false ⟨#[], #[.slice none 0 0, .slice none 0 0], []⟩ 8 (by kernel_rfl) (by kernel_rfl) (by kernel_rfl) (by kernel_rfl)) ?_
  intro W base args ds gs before hval0 hW hcnd hsz0 _
  have hval : ∀ (j : Nat) t v, Try.f7.params[j]? = some t → args[j]? = some v → Value.okWide Try.prog W .any base t v := hval0
  have hsz : (DataW.weightsEach Try.prog (Try.f7.params.toList ++ Rows.opcodeBackSpec.plain.varTypes Try.prog) (ds ++ gs)).all (· ≤ reachBytes) = true := hsz0
  have hW' := hW
  have hlt := fun x hx => hW'.lt x hx
  obtain ⟨p, q, hA0, hV, rfl, hfz, hnd⟩ := hW
  have hA : DataW.TrodAll enc Try.prog W 0 (fun _ => true) true Try.f7.params.toList args.toList ds p := hA0
  have hAk := hA
  obtain ⟨rfl, rfl⟩ := trodVars_none hV
  rw [Try.params7] at hA hval hsz
  obtain ⟨v0, vs0, d0, ds0, p0, q0, hargs, rfl, rfl, h0, r0⟩ := trodAll_cons hA
  obtain ⟨v1, vs1, d1, ds1, p1, q1, rfl, rfl, rfl, h1, r1⟩ := trodAll_cons r0
  obtain ⟨rfl, rfl, rfl⟩ := trodAll_nil r1
  obtain rfl : args = #[v0, v1] := by cases args; simp_all
  obtain ⟨BA, bc, bs, rfl, h0BA, h1BA, h2BA, h3BA, h4BA, h5BA⟩ := slice_arg C8 (fun _ => True) Try.underlying22 (by rw [cl5]; decide) dec_u8 (hval 0 22 v0 rfl rfl) h0 (fit_arg hsz (j := 0) rfl rfl)
  rw [cl5] at h4BA
  rw [by5] at h3BA
  obtain ⟨LA, lc, l, rfl, h0LA, h1LA, h2LA, h3LA, h4LA, h5LA⟩ := slice_arg insC (fun v : InsD => W64 v.2.2.1) Try.underlying24 (by rw [cl29]; decide) dec_ins (hval 1 24 v1 rfl rfl) h1 (fit_arg hsz (j := 1) rfl rfl)
  rw [cl29] at h4LA
  rw [by29] at h3LA
  simp only [reachBytes] at *
  refine (back_walk bs BA bc l LA lc (by omega) (by omega) (by omega) h5LA W h4BA h4LA).mono fun e W' ⟨he, hb⟩ => ?_
  subst he
  refine ⟨_, rfl, _, _, _, [], _, [], hW', ?_, trodAll_below laidOut hb _ _ _ _ readable hAk (fun x hx => ?_), rfl, hb.frame _, fun h => by cases h⟩
  · exact trodAll_cons_mk (shut_bool Try.underlying4 _) trodAll_mk0
  · simpa using hlt x (by simpa using hx)

theorem over : Rows.opcodeBackRow.holds Try.pinned (OpenSpec.ofChange Rows.opcodeBackSpec) :=
  OpenClaim.holds_of_wide 7 Try.f7 rfl rfl rfl rfl rfl rfl rfl ⟨rfl, rfl, rfl, rfl, rfl⟩ rfl rfl rfl rfl rfl (by kernel_rfl) Try.func7 (by kernel_rfl)
    (of_decide_eq_true (by kernel_rfl)) (by unfold Func.isWrapper; first | (rw [if_pos (by decide +kernel)]; kernel_rfl) | (rw [if_neg (by decide +kernel)]; exact ⟨rfl, rfl⟩))
    (fun os started H enc _ => lifted os started H enc)

/-- ████ THE STATEMENT ████ -/
theorem proved : Rows.OpcodeBackSaid :=
  over
#print axioms proved
end Go.Proofs.Yteiohpbghpmohaa.opcodeBack

