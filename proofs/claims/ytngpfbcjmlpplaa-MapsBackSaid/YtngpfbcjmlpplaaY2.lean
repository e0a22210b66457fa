/- The plain law of MapsRound: what is put at places of their own is told again. -/
import Derived.Test.YtngpfbcjmlpplaaM25
set_option linter.unusedVariables false
set_option linter.unusedSimpArgs false
namespace Go.Proofs.Ytngpfbcjmlpplaa.Y
open Go.RowKit Go.Proofs.Ytngpfbcjmlpplaa.M
def kdR (ks : List UInt8) (i : Nat) : Int := (((ks.getD i 0).toNat % 4 : Nat) : Int)
def slotR (ks : List UInt8) (i : Nat) : SlotD := if i < 14 then (kdR ks i, 1, ((i % 14 : Nat) : Int)) else (kdR ks i, 2, (i : Int))
def valR (ks : List UInt8) (vs : List Int) (i : Nat) : ValD := (if (1 : Int) > kdR ks i then 1 else kdR ks i, vs.getD i 0)
def wantR (ks : List UInt8) (vs : List Int) (i : Nat) : ValD := if kdR ks i = 0 then (0, 0) else valR ks vs i
theorem kdR_bd (ks : List UInt8) (i : Nat) : 0 ≤ kdR ks i ∧ kdR ks i ≤ 3 := by unfold kdR; omega
theorem slotR_1 (ks : List UInt8) (i : Nat) : (slotR ks i).1 = kdR ks i := by unfold slotR; split <;> rfl
theorem slotR_lo (ks : List UInt8) {i : Nat} (h : i < 14) : slotR ks i = (kdR ks i, 1, (i : Int)) := by unfold slotR; rw [if_pos h, Nat.mod_eq_of_lt h]
theorem slotR_hi (ks : List UInt8) {i : Nat} (h : ¬ i < 14) : slotR ks i = (kdR ks i, 2, (i : Int)) := by unfold slotR; rw [if_neg h]
theorem valR_1 (ks : List UInt8) (vs : List Int) (i : Nat) (h : kdR ks i ≠ 0) : (valR ks vs i).1 = kdR ks i := by
  have := kdR_bd ks i
  unfold valR
  simp only
  split <;> omega
theorem getD_map {α : Type} (f : Nat → α) (m j : Nat) (d : α) (h : j < m) : ((List.range m).map f).getD j d = f j := by
  rw [List.getD_eq_getElem?_getD, List.getElem?_map, List.getElem?_range h]; rfl
theorem round_fits (ks : List UInt8) (vs : List Int) (m : Nat) : fitsB 0 0 0 0 0 ((List.range m).map (slotR ks)) ((List.range m).map (valR ks vs)) = true := by
  simp only [fitsB, fitsAll, List.length_map, List.length_range, beq_self_eq_true, Bool.true_and, List.all_eq_true, List.mem_range]
  intro j hj
  unfold fitAt
  rw [getD_map _ _ _ _ hj, getD_map _ _ _ _ hj, slotR_1]
  by_cases h : kdR ks j = 0
  · simp [h]
  · rw [valR_1 ks vs j h]; simp
theorem liesR (ks : List UInt8) (i : Nat) (h : i < 30) : liesB (slotR ks i).2.1 (slotR ks i).2.2 30 = true := by
  by_cases h14 : i < 14
  · rw [slotR_lo ks h14]; simp [liesB]; omega
  · rw [slotR_hi ks h14]; simp [liesB]; omega
theorem round_E (ks : List UInt8) (m : Nat) (hm : m ≤ 30) : entE true ((30 : Nat) : Int) ((List.range m).map (slotR ks)) = 0 := by
  unfold entE
  rw [if_neg (by simp), if_neg (by omega), if_neg]
  rw [Int.toNat_natCast, entAny_no]
  · simp
  · intro j hj
    have hj' : j < m := by simpa using hj
    simp only [List.getElem_map, List.getElem_range]
    have := liesR ks j (by omega)
    unfold entBad
    simp [this]
/-- after k rounds: what stands at each place -/
theorem round_K (ks : List UInt8) (vs : List Int) (m : Nat) (hm : m ≤ 30) : ∀ k, k ≤ m → ∀ i, i < k → kdR ks i ≠ 0 →
    (if i < 14 then (entK ((List.range m).map (slotR ks)) ((List.range m).map (valR ks vs)) 30 k).1.getD i 0 else (entK ((List.range m).map (slotR ks)) ((List.range m).map (valR ks vs)) 30 k).2.getD i 0) = vs.getD i 0
  | 0, _, i, hi, _ => absurd hi (Nat.not_lt_zero _)
  | k + 1, hk, i, hi, h0 => by
    have hlen := entK_len ((List.range m).map (slotR ks)) ((List.range m).map (valR ks vs)) 30 k
    have ih := round_K ks vs m hm k (by omega) i
    unfold entK
    rw [getD_map _ _ _ _ (by omega : k < m), getD_map _ _ _ _ (by omega : k < m)]
    generalize entK ((List.range m).map (slotR ks)) ((List.range m).map (valR ks vs)) 30 k = st at hlen ih
    obtain ⟨R, S⟩ := st
    simp only at hlen ih
    by_cases hkd : kdR ks k = 0
    · have e : entStep (slotR ks k) (valR ks vs k).2 (R, S) = (R, S) := by unfold entStep; rw [if_pos (.inl (by rw [slotR_1]; exact hkd))]
      rw [e]
      have : i ≠ k := fun e => h0 (by rw [e]; exact hkd)
      exact ih (by omega) h0
    · by_cases hk14 : k < 14
      · have e : entStep (slotR ks k) (valR ks vs k).2 (R, S) = (R.set k (vs.getD k 0), S) := by
          rw [slotR_lo ks hk14]
          unfold entStep
          rw [if_neg (by simp [hkd])]
          simp [putR, putS, valR]
        rw [e]
        simp only
        by_cases e : i = k
        · subst e
          rw [if_pos hk14, List.getD_eq_getElem?_getD, List.getElem?_set_self (by omega)]
          rfl
        · have := ih (by omega) h0
          rw [List.getD_eq_getElem?_getD (l := R.set k _), List.getElem?_set_ne (by omega), ← List.getD_eq_getElem?_getD]
          exact this
      · have e : entStep (slotR ks k) (valR ks vs k).2 (R, S) = (R, S.set k (vs.getD k 0)) := by
          rw [slotR_hi ks hk14]
          unfold entStep
          rw [if_neg (by simp [hkd])]
          simp [putR, putS, valR]
        rw [e]
        simp only
        by_cases e : i = k
        · subst e
          rw [if_neg hk14, List.getD_eq_getElem?_getD, List.getElem?_set_self (by omega)]
          rfl
        · have := ih (by omega) h0
          rw [List.getD_eq_getElem?_getD (l := S.set k _), List.getElem?_set_ne (by omega), ← List.getD_eq_getElem?_getD]
          exact this
theorem round_law (ks : List UInt8) (vs : List Int) (m : Nat) (hm : m ≤ 30) (R SP : List Int)
    (hv : entV (fitsB 0 0 0 0 0 ((List.range m).map (slotR ks)) ((List.range m).map (valR ks vs))) ((30 : Nat) : Int) ((List.range m).map (slotR ks)) ((List.range m).map (valR ks vs)) = (R, SP)) :
    R.length = 16 ∧ SP.length = 30 ∧ frE SP ((List.range m).map (slotR ks)) [] = 0 ∧ ((List.range m).map (slotR ks)).map (slotV R SP) = (List.range m).map (wantR ks vs) := by
  rw [round_fits] at hv
  unfold entV at hv
  rw [if_pos (round_E ks m hm), Int.toNat_natCast, List.length_map, List.length_range] at hv
  have hlen := entK_len ((List.range m).map (slotR ks)) ((List.range m).map (valR ks vs)) 30 m
  have hK := round_K ks vs m hm m (Nat.le_refl _)
  rw [hv] at hlen hK
  simp only at hlen hK
  refine ⟨hlen.1, hlen.2, ?_, ?_⟩
  · have h : ∀ s ∈ (List.range m).map (slotR ks), slotE SP s = 0 := by
      intro s hs
      obtain ⟨i, hi, rfl⟩ := List.mem_map.1 hs
      have hi' := List.mem_range.1 hi
      have hb := kdR_bd ks i
      have hl := liesR ks i (by omega)
      unfold slotE
      rw [slotR_1, if_neg (by omega)]
      split
      · rfl
      · unfold atE
        rw [hlen.2]
        split
        · rfl
        · rw [show ((30 : Nat) : Int) = 30 from rfl, if_pos hl]
    have e1 : errF SP 0 ((List.range m).map (slotR ks)) = 0 := by unfold errF; rw [if_neg (by simp), if_pos h]
    have e2 : errF SP 0 [] = 0 := by unfold errF; simp
    unfold frE
    rw [e1, e2]
    simp
  · rw [List.map_map]
    refine List.map_congr_left fun i hi => ?_
    have hi' := List.mem_range.1 hi
    have hl := liesR ks i (by omega)
    simp only [Function.comp]
    unfold slotV wantR
    rw [slotR_1]
    by_cases h0 : kdR ks i = 0
    · simp [h0]
    · rw [if_neg h0, if_neg h0]
      have hat := hK i hi' h0
      have e1 := valR_1 ks vs i h0
      have e2 : (valR ks vs i).2 = vs.getD i 0 := rfl
      refine Prod.ext e1.symm ?_
      rw [e2, ← hat]
      simp only
      unfold atV
      rw [hlen.2, show ((30 : Nat) : Int) = 30 from rfl, if_pos hl]
      by_cases h14 : i < 14
      · rw [slotR_lo ks h14, if_pos h14]; simp [rdI]
      · rw [slotR_hi ks h14, if_neg h14]; simp [rdI]
end Go.Proofs.Ytngpfbcjmlpplaa.Y
