import Derived.Test.YtngpfbcjmlpplaaM3
set_option linter.unusedVariables false
set_option linter.unusedSimpArgs false
namespace Go.Proofs.Ytngpfbcjmlpplaa.M
open Go.RowKit Go.Proofs.Ytngpfbcjmlpplaa.LibA Go.Proofs.Ytngpfbcjmlpplaa.LibB

theorem list_eq_of_getD {xs ys : List Int} (hl : xs.length = ys.length) (h : ∀ j, j < xs.length → xs.getD j 0 = ys.getD j 0) : xs = ys := by
  apply List.ext_getElem hl
  intro i h1 h2
  have := h i h1
  simpa [List.getD_eq_getElem?_getD, h1, h2] using this

theorem eqI_calls (xs ys : List Int) (A B : Option Addr) (c d : Nat) (hx : xs.length ≤ 9223372036854775807) (hy : ys.length ≤ 9223372036854775807) (w : World) (ha : Ints w A xs) (hb : Ints w B ys) :
    Calls Try.prog 21 #[.slice A xs.length c, .slice B ys.length d] w fun e w' => e = .returned (.bool (decide (xs = ys))) ∧ ∃ n, w' = w.drewN n := by
  by_cases hl : xs.length = ys.length
  · have hl1 : decide (xs.length = ys.length) = true := by simpa using hl
    have hl2 : ((xs.length : Int) != (ys.length : Int)) = false := by simp [hl]
    have HL := Lib.hid hl
    clear hl
    go_enter Try.func21, Try.ntmps21
    go_wp2
    go_loopw [5, 13] (fun _ v wr => ∃ k nd : Nat, k ≤ xs.length ∧ v = .int .i64 k ∧ Hid (∀ j, j < k → xs.getD j 0 = ys.getD j 0) ∧ wr = w.drewN nd) (fun _ v _ => xs.length - (intOf v).toNat)
    case atStart => exact ⟨0, 0, Nat.zero_le _, rfl, fun j hj => absurd hj (Nat.not_lt_zero _), rfl⟩
    case round =>
      obtain ⟨k, nd, hk, rfl, HJ, rfl⟩ := hrel
      by_cases hlt : k < xs.length
      · obtain ⟨b1, o1, x, rfl, hb1, hc1, hx1⟩ := ha.nat k hlt
        obtain ⟨b2, o2, y, rfl, hb2, hc2, hy1⟩ := hb.nat k (by have := HL.out; omega)
        have hlt2 : (k : Int) < (ys.length : Int) := by have := HL.out; omega
        by_cases he : x = y
        · subst he
          go_wp2
          go_quiet (fail)
          go_wp2
          go_roundw
          case rel =>
            refine ⟨k + 1, _, by omega, by go_num, ?_, rfl⟩
            intro j hj
            rcases (by omega : j < k ∨ j = k) with h | rfl
            · exact HJ j h
            · exact hx1.trans hy1.symm
          case measure => simp [intOf]; omega
        · have he1 : (x != y) = true := by simpa using he
          have HE := Lib.hid he
          clear he
          go_wp2
          go_quiet (fail)
          go_wp2
          go_ret
          exact ⟨ret_bool (by rw [eq_comm, decide_eq_false_iff_not]; intro e; exact HE.out (by rw [← hx1.out, ← hy1.out, e])), _, World.drewN_drewN ..⟩
      · go_wp2
        go_ret
        exact ⟨ret_bool (by rw [eq_comm, decide_eq_true_iff]; exact list_eq_of_getD HL.out (fun j hj => HJ j (by omega))), _, rfl⟩
  · have hl2 : ((xs.length : Int) != (ys.length : Int)) = true := by rw [bne_iff_ne]; omega
    go_enter Try.func21, Try.ntmps21
    go_wp2
    go_ret
    exact ⟨ret_bool (by rw [eq_comm, decide_eq_false_iff_not]; exact fun e => hl (by rw [e])), 0, rfl⟩
end Go.Proofs.Ytngpfbcjmlpplaa.M
