import Derived.Test.YtngpfbcjmlpplaaM2
set_option linter.unusedVariables false
set_option linter.unusedSimpArgs false
namespace Go.Proofs.Ytngpfbcjmlpplaa.M
open Go.RowKit Go.Proofs.Ytngpfbcjmlpplaa.LibA Go.Proofs.Ytngpfbcjmlpplaa.LibB

def numsI (xs : List Int) : List Value := xs.map (Value.int .i64)
theorem numsI_one (xs : List Int) : ∀ v ∈ numsI xs, v.oneCell' = true := by intro v hv; simp [numsI] at hv; obtain ⟨x, _, rfl⟩ := hv; rfl
/-- A slice of ints in a row of its own, made by the call. -/
def OwnI (w : World) (base : Nat) (v : Value) (xs : List Int) : Prop :=
  ∃ g, base ≤ g ∧ v = .slice (some ⟨g, 0, none⟩) xs.length xs.length ∧ w.heap[g]? = some (.cells (numsI xs).toArray 2 (0, 0))
theorem OwnI.ints {w : World} {base : Nat} {v : Value} {xs : List Int} (h : OwnI w base v xs) : ∃ A, v = .slice A xs.length xs.length ∧ Ints w A xs := by
  obtain ⟨g, _, rfl, hg⟩ := h
  refine ⟨_, rfl, fun i hi => ⟨g, 0, rfl, ?_⟩⟩
  rw [cell_of_row w g _ _ _ _ hg]
  simp [numsI, hi]
theorem regsC_set16 (rs : List Int) (sp v : Value) (h : rs.length = 16) : (regsC rs sp).setIfInBounds 16 v = regsC rs v := by
  apply Array.ext_getElem?
  intro i
  simp only [regsC, List.setIfInBounds_toArray, List.getElem?_toArray, List.getElem?_set, List.length_append, List.length_map, List.length_singleton, h]
  by_cases hi : i = 16
  · subst hi; simp [List.getElem?_append, h]
  · rw [if_neg (Ne.symm hi)]
    simp only [List.getElem?_append, List.length_map, h]
    split
    · rfl
    · have h1 : 1 ≤ i - 16 := by omega
      rw [List.getElem?_eq_none (by simp; omega), List.getElem?_eq_none (by simp; omega)]
theorem regsC_seti (rs : List Int) (sp : Value) (n : Nat) (v : Int) (hn : n < rs.length) : (regsC rs sp).setIfInBounds n (.int .i64 v) = regsC (rs.set n v) sp := by
  apply Array.ext_getElem?
  intro i
  simp only [regsC, List.setIfInBounds_toArray, List.getElem?_toArray, List.getElem?_set, List.length_append, List.length_map, List.length_singleton, List.getElem?_append, List.length_set, List.map_set]
  by_cases hi : n = i
  · subst hi; simp [hn]; omega
  · simp [hi]
theorem regsC_one (rs : List Int) (sp : Value) (h : sp.oneCell' = true) : ∀ v ∈ (regsC rs sp).toList, v.oneCell' = true := by
  intro v hv
  simp [regsC] at hv
  rcases hv with ⟨x, _, rfl⟩ | rfl
  · rfl
  · exact h
theorem ints_src {w W : World} {A : Option Addr} {xs : List Int} (h : Ints w A xs) (hB : Below w.heap.size w W) :
    ∀ j v, (numsI xs)[j]? = some v → ∃ ad, A = some ad ∧ W.cell? (ad.add j) = some v := by
  intro j v hv
  have hj : j < xs.length := by
    have := (List.getElem?_eq_some_iff.1 hv).1
    simpa [numsI] using this
  obtain ⟨b, off, e, hc⟩ := h j hj
  refine ⟨_, e, ?_⟩
  have e2 : v = .int .i64 (xs.getD j 0) := by
    simp [numsI, hj] at hv
    simp [hj, hv]
  rw [e2]
  have hadd : (⟨b, off, none⟩ : Addr).add j = ⟨b, off + j, none⟩ := by unfold Addr.add; split <;> simp_all
  rw [hadd]
  exact cell_b hB hc
def putR (k n v : Int) (rs : List Int) : List Int := if k = 1 then rs.set n.toNat v else rs
def putS (k n v : Int) (sp : List Int) : List Int := if k = 2 then sp.set n.toNat v else sp

theorem numsI_set (xs : List Int) (n : Nat) (v : Int) : (numsI xs).toArray.setIfInBounds n (.int .i64 v) = (numsI (xs.set n v)).toArray := by
  simp [numsI, List.map_set]
theorem regsC_zero : regsC (List.replicate 16 0) (.slice none 0 0) = #[.int .i64 0, .int .i64 0, .int .i64 0, .int .i64 0, .int .i64 0, .int .i64 0, .int .i64 0, .int .i64 0, .int .i64 0, .int .i64 0, .int .i64 0, .int .i64 0, .int .i64 0, .int .i64 0, .int .i64 0, .int .i64 0, .slice none 0 0] := rfl
theorem numsI_set' (xs : List Int) (n : Nat) (v : Int) : (numsI xs).set n (.int .i64 v) = numsI (xs.set n v) := by simp [numsI, List.map_set]
attribute [local go_sem] regsC_set16 regsC_seti numsI_set numsI_set'

theorem put_no (k n v : Int) (rs sp : List Int) (A : Option Addr) (c : Nat) (hr : rs.length = 16) (hl : sp.length * 8 ≤ 140737488351232) (hA : A = none → c = 0) (w : World) (hs : Ints w A sp) (hb : liesB k n sp.length = false) :
    Calls Try.prog 11 #[.agg #[.int .i64 k, .int .i64 n], .int .i64 v, .agg (regsC rs (.slice A sp.length c))] w fun e w' => e = .returned (.tuple #[.agg (regsC (List.replicate 16 0) (.slice none 0 0)), .int .i64 250]) ∧ Below w.heap.size w w' := by
  have h16 := regsC_16 rs (.slice A sp.length c) hr
  have L' := Lib.hid (lies_is k n sp.length _ hb)
  have hmk := fun W : World => run_make_row' (P := Try.prog) 25 2 (.int .i64 0) 8 Try.underlying25 (by kernel_rfl) rfl .i64 .i64 sp.length (by omega) (by omega) W
  go_enter Try.func11, Try.ntmps11
  go_wp2_with (first | ((with_reducible refine gate_dst (N := 16) rfl ?_); refine cp_all rfl _ _ 25 25 2 rfl Try.underlying25 (by kernel_rfl) _ sp.length c _ A _ _ (numsI sp) rfl rfl (heap_at _ _ _ (by simp)) (by simp [size_madeCells]) (by simp [numsI]) (ints_src hs (by repeat (with_reducible first | assumption | exact Below.refl _ _ | refine bl_alloc ?_ _ | refine bl_drewN ?_ _ | refine bl_then0 ?_ (by assumption)))) (numsI_one sp) (fun _ h => hA h) _ (by repeat (first | (refine setRow_alloc_at _ _ _ _ ?_; (simp; done)) | (apply setRow_past'; focus (simp; done)) | apply setRow_drewN')) ?_) | (go_at_call 33; (with_reducible refine (L'.out _).mono ?_); rintro e w1 ⟨rfl, rfl⟩))
  refine bodyPost_ret (results_ct rfl _ (w.heap.size + 1 + 1) _ _ (0, 0) _ rfl (by repeat (first | (refine heap_at _ _ _ ?_; (simp; done)) | (refine (heap_past _ _ ?_).trans ?_; focus (simp; done)))) Try.underlying27 rfl (by kernel_rfl)) rfl ⟨by rw [regsC_zero]; rfl, (by repeat (with_reducible first | assumption | exact Below.refl _ _ | refine bl_alloc ?_ _ | refine bl_drewN ?_ _ | refine bl_then0 ?_ (by assumption)))⟩

theorem put_yes (k n v : Int) (rs sp : List Int) (A : Option Addr) (c : Nat) (hr : rs.length = 16) (hl : sp.length * 8 ≤ 140737488351232) (hA : A = none → c = 0) (w : World) (hs : Ints w A sp) (hb : liesB k n sp.length = true) :
    Calls Try.prog 11 #[.agg #[.int .i64 k, .int .i64 n], .int .i64 v, .agg (regsC rs (.slice A sp.length c))] w fun e w' => ∃ v', e = .returned (.tuple #[.agg (regsC (putR k n v rs) v'), .int .i64 0]) ∧ OwnI w' w.heap.size v' (putS k n v sp) ∧ Below w.heap.size w w' := by
  have h16 := regsC_16 rs (.slice A sp.length c) hr
  have h16' := regsC_16 rs (.slice (some ⟨w.heap.size + 1 + 1 + 1, 0, none⟩) sp.length sp.length) hr
  have hmk := fun W : World => run_make_row' (P := Try.prog) 25 2 (.int .i64 0) 8 Try.underlying25 (by kernel_rfl) rfl .i64 .i64 sp.length (by omega) (by omega) W
  rcases lies_split k n sp.length hb with ⟨rfl, h0, h1⟩ | ⟨rfl, h0, h1⟩
  · have L' := Lib.hid (lies_is _ n sp.length _ hb)
    have hn : n.toNat < rs.length := by omega
    have hi := regsC_i rs (.slice (some ⟨w.heap.size + 1 + 1 + 1, 0, none⟩) sp.length sp.length) hr n h0 h1
    go_enter Try.func11, Try.ntmps11
    go_wp2_with (first | ((with_reducible refine gate_dst (N := 16) rfl ?_); refine cp_all rfl _ _ 25 25 2 rfl Try.underlying25 (by kernel_rfl) _ sp.length c _ A _ _ (numsI sp) rfl rfl (heap_at _ _ _ (by simp)) (by simp [size_madeCells]) (by simp [numsI]) (ints_src hs (by repeat (with_reducible first | assumption | exact Below.refl _ _ | refine bl_alloc ?_ _ | refine bl_drewN ?_ _ | refine bl_then0 ?_ (by assumption)))) (numsI_one sp) (fun _ h => hA h) _ (by repeat (first | (refine setRow_alloc_at _ _ _ _ ?_; (simp; done)) | (apply setRow_past'; focus (simp; done)) | apply setRow_drewN')) ?_) | (go_at_call 33; (with_reducible refine (L'.out _).mono ?_); rintro e w1 ⟨rfl, rfl⟩) | ((with_reducible refine gate_dst (N := 41) rfl ?_); refine wpList_load_row rfl 27 _ rfl (w.heap.size + 1) rfl 27 _ (0, 0) _ (by repeat (first | (refine heap_at _ _ _ ?_; (simp; done)) | (refine (heap_past _ _ ?_).trans ?_; focus (simp; done)))) Try.underlying27 rfl (by rw [regsC_size _ _ (by simp [hr])]; kernel_rfl) ?_) | ((with_reducible refine gate_store (t := 27) (p := 6) rfl ?_); refine st_row rfl 27 _ _ rfl (w.heap.size + 1 + 1) rfl _ rfl 27 _ (by repeat (first | (refine heap_at _ _ _ ?_; (simp; done)) | (refine (heap_past _ _ ?_).trans ?_; focus (simp; done)))) (by rw [regsC_size _ _ (by simp [hr])]; rfl) (by rw [regsC_size _ _ (by simp [hr])]; kernel_rfl) (regsC_one _ _ rfl) _ (by repeat (first | (refine setRow_alloc_at _ _ _ _ ?_; (simp; done)) | (apply setRow_past'; focus (simp; done)) | apply setRow_drewN')) ?_))
    refine bodyPost_ret (results_ct rfl _ (w.heap.size + 1 + 1) 27 (regsC (rs.set n.toNat v) (.slice (some ⟨w.heap.size + 1 + 1 + 1, 0, none⟩) sp.length sp.length)) (0, 0) _ rfl ?_ Try.underlying27 rfl ?_) rfl ?_
    · exact (by repeat (first | (refine heap_at _ _ _ ?_; (simp; done)) | (refine (heap_past _ _ ?_).trans ?_; focus (simp; done))))
    · rw [regsC_size _ _ (by simp [hr])]; kernel_rfl
    · refine ⟨.slice (some ⟨w.heap.size + 1 + 1 + 1, 0, none⟩) sp.length sp.length, ?_, ⟨w.heap.size + 1 + 1 + 1, by omega, ?_, ?_⟩, ?_⟩
      · simp [putR]
      · simp [putS]
      · rw [show putS 1 n v sp = sp from rfl]
        exact (by repeat (first | (refine heap_at _ _ _ ?_; (simp; done)) | (refine (heap_past _ _ ?_).trans ?_; focus (simp; done))))
      · exact (by repeat (with_reducible first | assumption | exact Below.refl _ _ | refine bl_alloc ?_ _ | refine bl_drewN ?_ _ | refine bl_then0 ?_ (by assumption)))
  · have L' := Lib.hid (lies_is _ n sp.length _ hb)
    have hn : n.toNat < sp.length := by omega
    have hi : (numsI sp).toArray[n.toNat]? = some (.int .i64 (rdI sp n)) := by simp [numsI, rdI, hn]
    go_enter Try.func11, Try.ntmps11
    go_wp2_with (first | ((with_reducible refine gate_dst (N := 16) rfl ?_); refine cp_all rfl _ _ 25 25 2 rfl Try.underlying25 (by kernel_rfl) _ sp.length c _ A _ _ (numsI sp) rfl rfl (heap_at _ _ _ (by simp)) (by simp [size_madeCells]) (by simp [numsI]) (ints_src hs (by repeat (with_reducible first | assumption | exact Below.refl _ _ | refine bl_alloc ?_ _ | refine bl_drewN ?_ _ | refine bl_then0 ?_ (by assumption)))) (numsI_one sp) (fun _ h => hA h) _ (by repeat (first | (refine setRow_alloc_at _ _ _ _ ?_; (simp; done)) | (apply setRow_past'; focus (simp; done)) | apply setRow_drewN')) ?_) | (go_at_call 33; (with_reducible refine (L'.out _).mono ?_); rintro e w1 ⟨rfl, rfl⟩) | ((with_reducible refine gate_dst (N := 41) rfl ?_); refine wpList_load_row rfl 27 _ rfl (w.heap.size + 1) rfl 27 _ (0, 0) _ (by repeat (first | (refine heap_at _ _ _ ?_; (simp; done)) | (refine (heap_past _ _ ?_).trans ?_; focus (simp; done)))) Try.underlying27 rfl (by rw [regsC_size _ _ (by simp [hr])]; kernel_rfl) ?_) | ((with_reducible refine gate_store (t := 27) (p := 6) rfl ?_); refine st_row rfl 27 _ _ rfl (w.heap.size + 1 + 1) rfl _ rfl 27 _ (by repeat (first | (refine heap_at _ _ _ ?_; (simp; done)) | (refine (heap_past _ _ ?_).trans ?_; focus (simp; done)))) (by rw [regsC_size _ _ (by simp [hr])]; rfl) (by rw [regsC_size _ _ (by simp [hr])]; kernel_rfl) (regsC_one _ _ rfl) _ (by repeat (first | (refine setRow_alloc_at _ _ _ _ ?_; (simp; done)) | (apply setRow_past'; focus (simp; done)) | apply setRow_drewN')) ?_))
    refine bodyPost_ret (results_ct rfl _ (w.heap.size + 1 + 1) 27 (regsC (rs) (.slice (some ⟨w.heap.size + 1 + 1 + 1, 0, none⟩) sp.length sp.length)) (0, 0) _ rfl ?_ Try.underlying27 rfl ?_) rfl ?_
    · exact (by repeat (first | (refine heap_at _ _ _ ?_; (simp; done)) | (refine (heap_past _ _ ?_).trans ?_; focus (simp; done))))
    · rw [regsC_size _ _ (by simp [hr])]; kernel_rfl
    · refine ⟨.slice (some ⟨w.heap.size + 1 + 1 + 1, 0, none⟩) sp.length sp.length, ?_, ⟨w.heap.size + 1 + 1 + 1, by omega, ?_, ?_⟩, ?_⟩
      · simp [putR]
      · simp [putS]
      · rw [show putS 2 n v sp = sp.set n.toNat v from rfl]
        exact (by repeat (first | (refine heap_at _ _ _ ?_; (simp; done)) | (refine (heap_past _ _ ?_).trans ?_; focus (simp; done))))
      · exact (by repeat (with_reducible first | assumption | exact Below.refl _ _ | refine bl_alloc ?_ _ | refine bl_drewN ?_ _ | refine bl_then0 ?_ (by assumption)))
end Go.Proofs.Ytngpfbcjmlpplaa.M
