/- The plain law of MapsBack: what is put at places of their own is what the frame has. -/
import Derived.Test.YtngpfbcjmlpplaaY2
set_option linter.unusedVariables false
set_option linter.unusedSimpArgs false
namespace Go.Proofs.Ytngpfbcjmlpplaa.Y
open Go.RowKit Go.Proofs.Ytngpfbcjmlpplaa.M
def kdB (ks : List UInt8) (i : Nat) : Int := ((1 + (ks.getD i 0).toNat % 3 : Nat) : Int)
def locB (i : Nat) : Int × Int := if i % 2 = 1 then (2, (i : Int)) else (1, ((i / 2 : Nat) : Int))
def slotB (ks : List UInt8) (i : Nat) : SlotD := (kdB ks i, locB i)
def wantB (ks : List UInt8) (vs : List Int) (i : Nat) : ValD := (kdB ks i, vs.getD i 0)
def bK (vs : List Int) : Nat → List Int × List Int
  | 0 => (List.replicate 16 0, List.replicate 30 0)
  | k + 1 => (putR (locB k).1 (locB k).2 (vs.getD k 0) (bK vs k).1, putS (locB k).1 (locB k).2 (vs.getD k 0) (bK vs k).2)
theorem bK_len (vs : List Int) : ∀ k, (bK vs k).1.length = 16 ∧ (bK vs k).2.length = 30
  | 0 => by simp [bK]
  | k + 1 => by have := bK_len vs k; simp [bK, putR_length, putS_length, this]
theorem locB_odd {i : Nat} (h : i % 2 = 1) : locB i = (2, (i : Int)) := by unfold locB; rw [if_pos h]
theorem locB_even {i : Nat} (h : ¬ i % 2 = 1) : locB i = (1, ((i / 2 : Nat) : Int)) := by unfold locB; rw [if_neg h]
theorem locB_lies (i : Nat) (h : i < 30) : liesB (locB i).1 (locB i).2 30 = true := by
  by_cases h2 : i % 2 = 1
  · rw [locB_odd h2]; simp [liesB]; omega
  · rw [locB_even h2]; simp [liesB]; omega
theorem bK_at (vs : List Int) : ∀ k, k ≤ 30 → ∀ i, i < k → (if i % 2 = 1 then (bK vs k).2.getD i 0 else (bK vs k).1.getD (i / 2) 0) = vs.getD i 0
  | 0, _, i, hi => absurd hi (Nat.not_lt_zero _)
  | k + 1, hk, i, hi => by
    have hl := bK_len vs k
    have ih := bK_at vs k (by omega) i
    unfold bK
    generalize bK vs k = st at hl ih
    obtain ⟨R, S⟩ := st
    simp only at hl ih ⊢
    by_cases hk2 : k % 2 = 1
    · rw [locB_odd hk2]
      simp only [putR, putS, if_neg (by decide : ¬ (2 : Int) = 1), if_pos, Int.toNat_natCast]
      by_cases e : i = k
      · subst e
        rw [if_pos hk2, List.getD_eq_getElem?_getD, List.getElem?_set_self (by omega)]
        rfl
      · have := ih (by omega)
        by_cases hi2 : i % 2 = 1
        · rw [if_pos hi2] at this ⊢
          rw [List.getD_eq_getElem?_getD, List.getElem?_set_ne (by omega), ← List.getD_eq_getElem?_getD]
          exact this
        · rw [if_neg hi2] at this ⊢; exact this
    · rw [locB_even hk2]
      simp only [putR, putS, if_neg (by decide : ¬ (1 : Int) = 2), if_pos, Int.toNat_natCast]
      by_cases e : i = k
      · subst e
        rw [if_neg hk2, List.getD_eq_getElem?_getD, List.getElem?_set_self (by omega)]
        rfl
      · have := ih (by omega)
        by_cases hi2 : i % 2 = 1
        · rw [if_pos hi2] at this ⊢; exact this
        · rw [if_neg hi2] at this ⊢
          rw [List.getD_eq_getElem?_getD, List.getElem?_set_ne (by omega), ← List.getD_eq_getElem?_getD]
          exact this
theorem atB (vs : List Int) (k i : Nat) (hk : k ≤ 30) (hi : i < k) : atV (locB i).1 (locB i).2 (bK vs k).1 (bK vs k).2 = vs.getD i 0 := by
  have hl := bK_len vs k
  have hat := bK_at vs k hk i hi
  have hlies := locB_lies i (by omega)
  unfold atV
  rw [hl.2, show ((30 : Nat) : Int) = 30 from rfl, if_pos hlies]
  by_cases h2 : i % 2 = 1
  · rw [locB_odd h2]; rw [if_pos h2] at hat; simp only; rw [if_neg (by decide), if_neg (by decide)]; unfold rdI; rw [Int.toNat_natCast]; exact hat
  · rw [locB_even h2]; rw [if_neg h2] at hat; simp only; rw [if_neg (by decide), if_pos trivial]; unfold rdI; rw [Int.toNat_natCast]; exact hat
/-- the indices of the stack's slots, of the locals' -/
def stI (s k : Nat) : List Nat := (List.range k).filter fun i => decide (i < s)
def loI (s k : Nat) : List Nat := (List.range k).filter fun i => decide (¬ i < s)
theorem stI_y {s k : Nat} (h : k < s) : stI s (k + 1) = stI s k ++ [k] ∧ loI s (k + 1) = loI s k := by simp [stI, loI, List.range_succ, h]
theorem stI_n {s k : Nat} (h : ¬ k < s) : stI s (k + 1) = stI s k ∧ loI s (k + 1) = loI s k ++ [k] := by simp [stI, loI, List.range_succ, h]; omega
theorem stI_len (s k : Nat) : (stI s k).length ≤ k ∧ (loI s k).length ≤ k := ⟨by simpa [stI] using List.length_filter_le (fun i => decide (i < s)) (List.range k), by simpa [loI] using List.length_filter_le (fun i => decide (¬ i < s)) (List.range k)⟩
theorem stI_mem {s k i : Nat} (h : i ∈ stI s k) : i < k := by simp [stI] at h; exact h.1
theorem loI_mem {s k i : Nat} (h : i ∈ loI s k) : i < k := by simp [loI] at h; exact h.1
theorem stI_app (s : Nat) : ∀ k, stI s k ++ loI s k = List.range k
  | 0 => rfl
  | k + 1 => by
    have ih := stI_app s k
    by_cases h : k < s
    · obtain ⟨h1, h2⟩ := stI_y h
      have : loI s k = [] := by
        rw [loI, List.filter_eq_nil_iff]
        intro a ha
        have := List.mem_range.1 ha
        simp; omega
      rw [h1, h2, List.range_succ, ← ih, this]; simp
    · obtain ⟨h1, h2⟩ := stI_n h
      rw [h1, h2, List.range_succ, ← ih, List.append_assoc]
theorem kdB_bd (ks : List UInt8) (i : Nat) : 1 ≤ kdB ks i ∧ kdB ks i ≤ 3 := by unfold kdB; omega
theorem slotsB (ks : List UInt8) (vs : List Int) (k : Nat) (hk : k ≤ 30) (l : List Nat) (hl : ∀ i ∈ l, i < k) :
    errF (bK vs k).2 0 (l.map (slotB ks)) = 0 ∧ (l.map (slotB ks)).map (slotV (bK vs k).1 (bK vs k).2) = l.map (wantB ks vs) := by
  have hlen := bK_len vs k
  constructor
  · unfold errF
    rw [if_neg (by simp), if_pos]
    intro s hs
    obtain ⟨i, hi, rfl⟩ := List.mem_map.1 hs
    have hi' := hl i hi
    have hb := kdB_bd ks i
    have hlies := locB_lies i (by omega)
    unfold slotE slotB
    simp only
    rw [if_neg (by omega), if_neg (by omega)]
    unfold atE
    rw [hlen.2, show ((30 : Nat) : Int) = 30 from rfl, if_pos hlies]
    split <;> rfl
  · rw [List.map_map]
    refine List.map_congr_left fun i hi => ?_
    have hi' := hl i hi
    have hb := kdB_bd ks i
    simp only [Function.comp]
    unfold slotV slotB wantB
    simp only
    rw [if_neg (by omega), atB vs k i hk hi']
theorem back_law (ks : List UInt8) (vs : List Int) (s k : Nat) (hk : k ≤ 30) :
    frE (bK vs k).2 ((loI s k).map (slotB ks)) ((stI s k).map (slotB ks)) = 0 ∧ ((loI s k).map (slotB ks)).map (slotV (bK vs k).1 (bK vs k).2) = (loI s k).map (wantB ks vs) ∧ ((stI s k).map (slotB ks)).map (slotV (bK vs k).1 (bK vs k).2) = (stI s k).map (wantB ks vs) ∧
      (stI s k).map (wantB ks vs) ++ (loI s k).map (wantB ks vs) = (List.range k).map (wantB ks vs) := by
  obtain ⟨a1, a2⟩ := slotsB ks vs k hk (loI s k) (fun i hi => loI_mem hi)
  obtain ⟨b1, b2⟩ := slotsB ks vs k hk (stI s k) (fun i hi => stI_mem hi)
  refine ⟨?_, a2, b2, ?_⟩
  · unfold frE; rw [a1, b1]; simp
  · rw [← List.map_append, stI_app]
end Go.Proofs.Ytngpfbcjmlpplaa.Y
