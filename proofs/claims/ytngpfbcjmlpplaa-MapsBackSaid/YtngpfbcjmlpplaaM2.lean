import Derived.Test.YtngpfbcjmlpplaaM1
set_option linter.unusedVariables false
set_option linter.unusedSimpArgs false
namespace Go.Proofs.Ytngpfbcjmlpplaa.M
open Go.RowKit Go.Proofs.Ytngpfbcjmlpplaa.LibA

def regsC (rs : List Int) (sp : Value) : Array Value := ((rs.map (Value.int .i64)) ++ [sp]).toArray
def rdI (xs : List Int) (i : Int) : Int := xs.getD i.toNat 0
theorem regsC_size (rs : List Int) (sp : Value) (h : rs.length = 16) : (regsC rs sp).size = 17 := by simp [regsC, h]
theorem regsC_16 (rs : List Int) (sp : Value) (h : rs.length = 16) : (regsC rs sp)[16]? = some sp := by simp [regsC, h]
theorem regsC_i (rs : List Int) (sp : Value) (h : rs.length = 16) (n : Int) (h0 : 0 ≤ n) (h1 : n < 16) : (regsC rs sp)[n.toNat]? = some (.int .i64 (rdI rs n)) := by
  have h2 : n.toNat < rs.length := by omega
  simp [regsC, rdI, List.getElem?_append, h2]

/-- A slice of ints read in a world: its cells. -/
def Ints (w : World) (A : Option Addr) (xs : List Int) : Prop :=
  ∀ i : Nat, i < xs.length → ∃ b off, A = some ⟨b, off, none⟩ ∧ w.cell? ⟨b, off + i, none⟩ = some (.int .i64 (xs.getD i 0))
theorem Ints.at_ {w : World} {A : Option Addr} {xs : List Int} (h : Ints w A xs) (i : Int) (h0 : 0 ≤ i) (h1 : i < xs.length) :
    ∃ b off, A = some ⟨b, off, none⟩ ∧ b < w.heap.size ∧ w.cell? ⟨b, off + i.toNat, none⟩ = some (.int .i64 (rdI xs i)) := by
  obtain ⟨b, off, e, hc⟩ := h i.toNat (by omega)
  exact ⟨b, off, e, World.block_lt_of_cell? w _ hc, hc⟩

theorem Ints.nat {w : World} {A : Option Addr} {xs : List Int} (h : Ints w A xs) (k : Nat) (h1 : k < xs.length) :
    ∃ b off x, A = some ⟨b, off, none⟩ ∧ b < w.heap.size ∧ w.cell? ⟨b, off + k, none⟩ = some (.int .i64 x) ∧ Hid (xs.getD k 0 = x) := by
  obtain ⟨b, off, e, hc⟩ := h k h1
  exact ⟨b, off, _, e, World.block_lt_of_cell? w _ hc, hc, rfl⟩
def atV (k n : Int) (rs sp : List Int) : Int := if k = 3 then n else if liesB k n sp.length then (if k = 1 then rdI rs n else rdI sp n) else 0
def atE (k n : Int) (sp : List Int) : Int := if k = 3 then 0 else if liesB k n sp.length then 0 else 250

theorem lies_split (k n s : Int) (h : liesB k n s = true) : (k = 1 ∧ 0 ≤ n ∧ n < 16) ∨ (k = 2 ∧ 0 ≤ n ∧ n < s) := by
  simp [liesB] at h; omega

theorem at_calls (k n : Int) (rs sp : List Int) (A : Option Addr) (c : Nat) (hr : rs.length = 16) (w : World) (hs : Ints w A sp) :
    Calls Try.prog 9 #[.agg #[.int .i64 k, .int .i64 n], .agg (regsC rs (.slice A sp.length c))] w fun e w' => e = .returned (.tuple #[.int .i64 (atV k n rs sp), .int .i64 (atE k n sp)]) ∧ Below w.heap.size w w' := by
  have h16 := regsC_16 rs (.slice A sp.length c) hr
  by_cases hk : k = 3
  · subst hk
    go_enter Try.func9, Try.ntmps9
    go_wp2
    go_ret2
    refine ⟨by simp [atV, atE], (by repeat (with_reducible first | assumption | exact Below.refl _ _ | refine bl_alloc ?_ _ | refine bl_drewN ?_ _ | refine bl_then0 ?_ (by assumption)))⟩
  · cases hb : liesB k n sp.length with
    | false =>
      have L' := Lib.hid (lies_is k n sp.length _ hb)
      go_enter Try.func9, Try.ntmps9
      go_wp2_with (go_at_call 33; (with_reducible refine (L'.out _).mono ?_); rintro e w1 ⟨rfl, rfl⟩)
      go_ret2
      refine ⟨by simp [atV, atE, hk, hb], (by repeat (with_reducible first | assumption | exact Below.refl _ _ | refine bl_alloc ?_ _ | refine bl_drewN ?_ _ | refine bl_then0 ?_ (by assumption)))⟩
    | true =>
      rcases lies_split k n sp.length hb with ⟨rfl, h0, h1⟩ | ⟨rfl, h0, h1⟩
      · have L' := Lib.hid (lies_is _ n sp.length _ hb)
        have hi := regsC_i rs (.slice A sp.length c) hr n h0 h1
        go_enter Try.func9, Try.ntmps9
        go_wp2_with (go_at_call 33; (with_reducible refine (L'.out _).mono ?_); rintro e w1 ⟨rfl, rfl⟩)
        go_ret2
        refine ⟨by simp [atV, atE, hb], (by repeat (with_reducible first | assumption | exact Below.refl _ _ | refine bl_alloc ?_ _ | refine bl_drewN ?_ _ | refine bl_then0 ?_ (by assumption)))⟩
      · have L' := Lib.hid (lies_is _ n sp.length _ hb)
        obtain ⟨bs, os, rfl, hlt, had⟩ := hs.at_ n h0 h1
        obtain ⟨g1, g2, g3, g4, g5, g6, g7⟩ := lt_all hlt
        go_enter Try.func9, Try.ntmps9
        go_wp2_with (go_at_call 33; (with_reducible refine (L'.out _).mono ?_); rintro e w1 ⟨rfl, rfl⟩)
        go_ret2
        refine ⟨by simp [atV, atE, hb], (by repeat (with_reducible first | assumption | exact Below.refl _ _ | refine bl_alloc ?_ _ | refine bl_drewN ?_ _ | refine bl_then0 ?_ (by assumption)))⟩

theorem rat_calls (k n : Int) (rs sp : List Int) (A : Option Addr) (c : Nat) (hr : rs.length = 16) (w : World) (hs : Ints w A sp) :
    Calls Try.prog 10 #[.agg #[.int .i64 k, .int .i64 n], .agg (regsC rs (.slice A sp.length c))] w fun e w' => e = .returned (.tuple #[.int .i64 (atV k n rs sp), .int .i64 (atE k n sp)]) ∧ Below w.heap.size w w' := by
  have h16 := regsC_16 rs (.slice A sp.length c) hr
  have hl : 0 ≤ (sp.length : Int) := by omega
  rcases (by omega : (k = 1 ∧ 0 ≤ n ∧ n < 16) ∨ (k = 1 ∧ n < 0) ∨ (k = 1 ∧ 0 ≤ n ∧ 16 ≤ n) ∨ (k = 2 ∧ 0 ≤ n ∧ n < sp.length) ∨ (k = 2 ∧ n < 0) ∨ (k = 2 ∧ 0 ≤ n ∧ sp.length ≤ n) ∨ k = 3 ∨ (k ≠ 1 ∧ k ≠ 2 ∧ k ≠ 3)) with ⟨rfl, h1, h2⟩ | ⟨rfl, h1⟩ | ⟨rfl, h1, h2⟩ | ⟨rfl, h1, h2⟩ | ⟨rfl, h1⟩ | ⟨rfl, h1, h2⟩ | rfl | ⟨h1, h2, h3⟩
  · have hi := regsC_i rs (.slice A sp.length c) hr n h1 h2
    go_enter Try.func10, Try.ntmps10
    go_wp2
    go_ret2
    refine ⟨by simp [atV, atE, liesB]; try omega, (by repeat (with_reducible first | assumption | exact Below.refl _ _ | refine bl_alloc ?_ _ | refine bl_drewN ?_ _ | refine bl_then0 ?_ (by assumption)))⟩
  · go_enter Try.func10, Try.ntmps10
    go_wp2
    go_ret2
    refine ⟨by simp [atV, atE, liesB]; try omega, (by repeat (with_reducible first | assumption | exact Below.refl _ _ | refine bl_alloc ?_ _ | refine bl_drewN ?_ _ | refine bl_then0 ?_ (by assumption)))⟩
  · go_enter Try.func10, Try.ntmps10
    go_wp2
    go_ret2
    refine ⟨by simp [atV, atE, liesB]; try omega, (by repeat (with_reducible first | assumption | exact Below.refl _ _ | refine bl_alloc ?_ _ | refine bl_drewN ?_ _ | refine bl_then0 ?_ (by assumption)))⟩
  · obtain ⟨bs, os, rfl, hlt, had⟩ := hs.at_ n h1 h2
    go_enter Try.func10, Try.ntmps10
    go_wp2
    go_ret2
    refine ⟨by simp [atV, atE, liesB]; try omega, (by repeat (with_reducible first | assumption | exact Below.refl _ _ | refine bl_alloc ?_ _ | refine bl_drewN ?_ _ | refine bl_then0 ?_ (by assumption)))⟩
  · go_enter Try.func10, Try.ntmps10
    go_wp2
    go_ret2
    refine ⟨by simp [atV, atE, liesB]; try omega, (by repeat (with_reducible first | assumption | exact Below.refl _ _ | refine bl_alloc ?_ _ | refine bl_drewN ?_ _ | refine bl_then0 ?_ (by assumption)))⟩
  · go_enter Try.func10, Try.ntmps10
    go_wp2
    go_ret2
    refine ⟨by simp [atV, atE, liesB]; try omega, (by repeat (with_reducible first | assumption | exact Below.refl _ _ | refine bl_alloc ?_ _ | refine bl_drewN ?_ _ | refine bl_then0 ?_ (by assumption)))⟩
  · go_enter Try.func10, Try.ntmps10
    go_wp2
    go_ret2
    refine ⟨by simp [atV, atE, liesB]; try omega, (by repeat (with_reducible first | assumption | exact Below.refl _ _ | refine bl_alloc ?_ _ | refine bl_drewN ?_ _ | refine bl_then0 ?_ (by assumption)))⟩
  · go_enter Try.func10, Try.ntmps10
    go_wp2
    go_ret2
    refine ⟨by simp [atV, atE, liesB, h1, h2, h3]; try omega, (by repeat (with_reducible first | assumption | exact Below.refl _ _ | refine bl_alloc ?_ _ | refine bl_drewN ?_ _ | refine bl_then0 ?_ (by assumption)))⟩
end Go.Proofs.Ytngpfbcjmlpplaa.M
