/- For every input the law MapsBack returns true, and each argument reads behind the call as it read before. No condition. -/
import Derived.Test.YtngpfbcjmlpplaaY5
import Derived.Test.YtngpfbcjmlpplaaLibO
import Derived.Test.YtngpfbcjmlpplaaRows
import Derived.WalkKit
import Derived.ProofKit
import Derived.OpenShut
namespace Go.Proofs.Ytngpfbcjmlpplaa.mapsBack
open Go.Proofs.Ytngpfbcjmlpplaa.M Go.Proofs.Ytngpfbcjmlpplaa.Y Go.Proofs.Ytngpfbcjmlpplaa.Y3 Go.Proofs.Ytngpfbcjmlpplaa.Y5 Go.Proofs.Ytngpfbcjmlpplaa.LibC Go.Proofs.Ytngpfbcjmlpplaa.LibL Go.Proofs.Ytngpfbcjmlpplaa.LibO
open Go.ChangeShapes Go.WideShapes Go.ChangeAt Go.RowKit Go.Joins
set_option linter.unusedSimpArgs false
set_option linter.unusedVariables false
theorem cl2 : Try.prog.cellsOf 2 = 1 := by kernel_rfl
theorem cl5 : Try.prog.cellsOf 5 = 1 := by kernel_rfl
theorem by2 : Try.prog.bytesOf 2 = 8 := by kernel_rfl
theorem by5 : Try.prog.bytesOf 5 = 1 := by kernel_rfl
theorem dec_u8 {H : Type} {enc : TypeId × Value → H} {w : World} : ∀ n cs' (y : DataW H × List MemPlace), DataW.trod enc Try.prog w 0 (fun _ => true) true n 5 cs' = some y → Fit Try.prog 5 y.1 → ∃ v : UInt8, cs' = C8 v ∧ (fun _ => True) v := by
  intro n cs y h hfit
  obtain ⟨x, rfl, _, wx⟩ := DataW.trod_int Try.underlying5 h
  have hb : 0 ≤ x ∧ x ≤ 255 := by
    simp only [Lit.wf, IntKind.min, IntKind.max, IntKind.signed, IntKind.bits, Bool.and_eq_true, decide_eq_true_eq] at wx
    simpa using wx
  refine ⟨UInt8.ofNat x.toNat, ?_, trivial⟩
  have e : ((UInt8.ofNat x.toNat).toNat : Int) = x := by
    rw [UInt8.toNat_ofNat']
    omega
  unfold C8; rw [e]
theorem u8_of {x : Int} (wx : (Lit.int .u8 x).wf = true) : ∃ v : UInt8, x = (v.toNat : Int) := by
  have hb : 0 ≤ x ∧ x ≤ 255 := by
    simp only [Lit.wf, IntKind.min, IntKind.max, IntKind.signed, IntKind.bits, Bool.and_eq_true, decide_eq_true_eq] at wx
    simpa using wx
  refine ⟨UInt8.ofNat x.toNat, ?_⟩
  rw [UInt8.toNat_ofNat']
  omega
theorem dec_i64 {H : Type} {enc : TypeId × Value → H} {w : World} : ∀ n cs' (y : DataW H × List MemPlace), DataW.trod enc Try.prog w 0 (fun _ => true) true n 2 cs' = some y → Fit Try.prog 2 y.1 → ∃ v : Int, cs' = CI v ∧ (fun _ => True) v := by
  intro n cs y h hfit
  obtain ⟨x, rfl, _, wx⟩ := DataW.trod_int Try.underlying2 h
  exact ⟨x, rfl, trivial⟩

theorem own : ownKnob Try.prog.godebug = none := by kernel_rfl
theorem laidOut : laidOutB Try.prog = true := by kernel_rfl
theorem readable : ∀ t ∈ Try.f4.params.toList, Try.prog.readableRec t = true ∧ t < Try.prog.types.size := by
  rw [Try.params4]
  intro t ht
  simp at ht
  rcases ht with rfl | rfl | rfl <;> exact ⟨by kernel_rfl, of_decide_eq_true (by kernel_rfl)⟩

set_option maxRecDepth 100000 in
theorem lifted (os : Os) (started : os.Started) (H : Type) (enc : TypeId × Value → H) :
    ReturnsInHanded {} Try.checked os 4 .any (Rows.mapsBackSpec.pre6 enc Try.prog Try.f4 Rows.mapsBackRow.domain false) (Rows.mapsBackSpec.post enc Try.prog Try.f4 false true false false) := by
  refine returnsInHanded_of_change_sized (C := Try.checked) own started (by kernel_rfl) Try.func4
    (ChangeSpec.witness6 (enc := enc) (C := Try.checked) false ⟨#[], #[.slice none 0 0, .slice none 0 0, .int .u8 0], []⟩ 8 (by kernel_rfl) (by kernel_rfl) (by kernel_rfl) (by kernel_rfl)) ?_
  intro W base args ds gs before hval0 hW hcnd hsz0 _
  have hval : ∀ (j : Nat) t v, Try.f4.params[j]? = some t → args[j]? = some v → Value.okWide Try.prog W .any base t v := hval0
  have hsz : (DataW.weightsEach Try.prog (Try.f4.params.toList ++ Rows.mapsBackSpec.plain.varTypes Try.prog) (ds ++ gs)).all (· ≤ reachBytes) = true := hsz0
  have hW' := hW
  have hlt := fun x hx => hW'.lt x hx
  obtain ⟨p, q, hA0, hV, rfl, hfz, hnd⟩ := hW
  have hA : DataW.TrodAll enc Try.prog W 0 (fun _ => true) true Try.f4.params.toList args.toList ds p := hA0
  have hAk := hA
  obtain ⟨rfl, rfl⟩ := trodVars_none hV
  rw [Try.params4] at hA hval hsz
  obtain ⟨v0, vs0, d0, ds0, p0, q0, hargs, rfl, rfl, h0, r0⟩ := trodAll_cons hA
  obtain ⟨v1, vs1, d1, ds1, p1, q1, rfl, rfl, rfl, h1, r1⟩ := trodAll_cons r0
  obtain ⟨v2, vs2, d2, ds2, p2, q2, rfl, rfl, rfl, h2, r2⟩ := trodAll_cons r1
  obtain ⟨rfl, rfl, rfl⟩ := trodAll_nil r2
  obtain rfl : args = #[v0, v1, v2] := by cases args; simp_all
  obtain ⟨KA, kc, ks, rfl, h0KA, h1KA, h2KA, h3KA, h4KA, h5KA⟩ := slice_arg C8 (fun _ => True) Try.underlying36 (by rw [cl5]; decide) dec_u8 (hval 0 36 v0 rfl rfl) h0 (fit_arg hsz (j := 0) rfl rfl)
  rw [cl5] at h4KA
  rw [by5] at h3KA
  obtain ⟨VA, vc, vs, rfl, h0VA, h1VA, h2VA, h3VA, h4VA, h5VA⟩ := slice_arg CI (fun _ => True) Try.underlying25 (by rw [cl2]; decide) dec_i64 (hval 1 25 v1 rfl rfl) h1 (fit_arg hsz (j := 1) rfl rfl)
  rw [cl2] at h4VA
  rw [by2] at h3VA
  obtain ⟨s_, rfl, hd2, hp2, ws_⟩ := open_int Try.underlying5 (hval 2 5 v2 rfl rfl) h2
  obtain ⟨sb, rfl⟩ := u8_of ws_
  simp only [reachBytes] at *
  refine (back_walk ks vs sb KA VA kc vc (by omega) (by omega) W h4KA h4VA).mono fun e W' ⟨he, hb⟩ => ?_
  subst he
  refine ⟨_, rfl, _, _, _, [], _, [], hW', ?_, trodAll_below laidOut hb _ _ _ _ readable hAk (fun x hx => ?_), rfl, hb.frame _, fun h => by cases h⟩
  · exact trodAll_cons_mk (shut_bool Try.underlying4 _) trodAll_mk0
  · simpa using hlt x (by simpa using hx)

theorem over : Rows.mapsBackRow.holds Try.pinned (OpenSpec.ofChange Rows.mapsBackSpec) :=
  OpenClaim.holds_of_wide 4 Try.f4 rfl rfl rfl rfl rfl rfl rfl ⟨rfl, rfl, rfl, rfl, rfl⟩ rfl rfl rfl rfl rfl (by kernel_rfl) Try.func4 (by kernel_rfl)
    (of_decide_eq_true (by kernel_rfl)) (by unfold Func.isWrapper; first | (rw [if_pos (by decide +kernel)]; kernel_rfl) | (rw [if_neg (by decide +kernel)]; exact ⟨rfl, rfl⟩))
    (fun os started H enc _ => lifted os started H enc)

/-- ████ THE STATEMENT ████ -/
theorem proved : Rows.MapsBackSaid :=
  over
#print axioms proved
end Go.Proofs.Ytngpfbcjmlpplaa.mapsBack

