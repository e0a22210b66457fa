import Derived.Test.YtngpfbcjmlpplaaM16
import Derived.Test.YtngpfbcjmlpplaaLibL
set_option linter.unusedVariables false
set_option linter.unusedSimpArgs false
namespace Go.Proofs.Ytngpfbcjmlpplaa.M
open Go.RowKit Go.ChangeShapes Go.WideShapes Go.ChangeAt Go.Joins Go.Proofs.Ytngpfbcjmlpplaa.LibL
section
variable {H : Type} {enc : TypeId × Value → H}
theorem arr24_in {fuel : Nat} {cs : List Value} {x : DataW H × List MemPlace} {w : World} (h : DataW.trod enc Try.prog w 0 (fun _ => true) true fuel 24 cs = some x) :
    ∃ rs : List Int, rs.length = 16 ∧ cs = rs.map (Value.int .i64) ∧ ∀ n ∈ rs, (Lit.int .i64 n).wf = true := by
  obtain ⟨xs, m, _, rfl, hl, hn, hx⟩ := DataW.trod_array Try.underlying24 h
  have hc : Try.prog.cellsOf 24 = 16 := by kernel_rfl
  have h2 : Try.prog.cellsOf 2 = 1 := by kernel_rfl
  rw [hc] at hl
  have each : ∀ i, i < 16 → ∃ n, cs[i]? = some (.int .i64 n) ∧ (Lit.int .i64 n).wf = true := by
    intro i hi
    have := hx i hi
    rw [h2, Nat.mul_one, List.getElem?_eq_getElem (by omega)] at this
    obtain ⟨n, e, _, hw⟩ := DataW.trod_int Try.underlying2 this
    refine ⟨n, ?_, hw⟩
    have e2 := congrArg (·[0]?) e
    simpa [List.getElem?_take, List.getElem?_drop] using e2
  refine ⟨cs.map intOf, by simp [hl], ?_, ?_⟩
  · apply List.ext_getElem?
    intro i
    by_cases hi : i < 16
    · obtain ⟨n, e, _⟩ := each i hi
      simp [e, intOf]
    · rw [List.getElem?_eq_none (by omega), List.getElem?_eq_none (by simp; omega)]
  · intro n hn2
    obtain ⟨v, hv, rfl⟩ := List.mem_map.1 hn2
    obtain ⟨i, hi⟩ := List.getElem?_of_mem hv
    obtain ⟨n, e, hw⟩ := each i (by have := (List.getElem?_eq_some_iff.1 hi).1; omega)
    rw [e] at hi
    cases hi
    exact hw
theorem regs_in {v : Value} {d : DataW H} {p : List MemPlace} {w : World} {r : Reach} {b0 : Nat} (hv : Value.okWide Try.prog w r b0 27 v) (h : DataW.Trod enc Try.prog w 0 (fun _ => true) true 27 v d p) :
    ∃ (rs sp : List Int) (A : Option Addr) (c : Nat), rs.length = 16 ∧ v = .agg (regsC rs (.slice A sp.length c)) ∧ (A = none → c = 0) ∧ sp.length ≤ c ∧ Ints w A sp ∧ ((∀ m ∈ d.weights Try.prog 27, m ≤ reachBytes) → c * 8 ≤ reachBytes) := by
  obtain ⟨cs, rfl, hsz⟩ := okWide_struct Try.underlying27 hv
  obtain ⟨fuel, hf⟩ := h
  obtain ⟨y0, y1, n, hx, hl, h0, h1⟩ := trod_struct2 Try.underlying27 hf
  simp only [Prod.mk.injEq] at hx
  obtain ⟨rfl, rfl⟩ := hx
  obtain ⟨rs, hr, e0, _⟩ := arr24_in h0
  have c24 : Try.prog.cellsOf 24 = 16 := by kernel_rfl
  have c25 : Try.prog.cellsOf 25 = 1 := by kernel_rfl
  have c27 : Try.prog.cellsOf 27 = 17 := by kernel_rfl
  have b2 : Try.prog.bytesOf 2 = 8 := by kernel_rfl
  obtain ⟨A, c, sp, e1, hA, hle, hm, hc, hw, hwt⟩ := ints_in Try.underlying25 Try.underlying2 (by kernel_rfl) h1
  have hcs : cs.toList.length = 17 := by rw [← c27]; exact hl
  have e0' : cs.toList.take 16 = rs.map (Value.int .i64) := by simpa [Value.cells, c24] using e0
  have e1' : (cs.toList.drop 16) = [.slice A sp.length c] := by
    have : (cs.toList.drop 16).take 1 = [.slice A sp.length c] := by simpa [Value.cells, c25] using e1
    rwa [List.take_of_length_le (by rw [List.length_drop, hcs]; decide)] at this
  refine ⟨rs, sp, A, c, hr, ?_, hA, hle, hc, fun hmm => ?_⟩
  · congr 1
    apply Array.ext'
    rw [← List.take_append_drop 16 cs.toList, e0', e1']
    simp [regsC]
  · have := hwt (weights_field Try.underlying27 hmm (j := 1) rfl rfl)
    rwa [b2] at this
end
end Go.Proofs.Ytngpfbcjmlpplaa.M
