import Derived.Test.YtngpfbcjmlpplaaM6
set_option linter.unusedVariables false
set_option linter.unusedSimpArgs false
namespace Go.Proofs.Ytngpfbcjmlpplaa.M
open Go.RowKit Go.Proofs.Ytngpfbcjmlpplaa.LibA Go.Proofs.Ytngpfbcjmlpplaa.LibB Go.Proofs.Ytngpfbcjmlpplaa.LibC Go.Proofs.Ytngpfbcjmlpplaa.LibD

theorem els_val {w : World} {A : Option Addr} {xs : List ValD} (h : Els valC 2 w A xs) (k : Nat) (hk : k < xs.length) :
    ∃ b off a b1, A = some ⟨b, off, none⟩ ∧ b < w.heap.size ∧ w.cell? ⟨b, off + k * 2, none⟩ = some (.int .i64 a) ∧ w.cell? ⟨b, off + k * 2 + 1, none⟩ = some (.int .i64 b1) ∧ Hid (xs[k] = (a, b1)) := by
  obtain ⟨b, off, e, hc⟩ := h k hk
  have h0 := hc 0 _ rfl
  exact ⟨b, off, _, _, e, World.block_lt_of_cell? w _ h0, h0, hc 1 _ rfl, rfl⟩
set_option maxHeartbeats 1000000 in
theorem eqVal_calls (xs ys : List ValD) (A B : Option Addr) (c d : Nat) (hx : xs.length ≤ 9223372036854775807) (hy : ys.length ≤ 9223372036854775807) (w : World) (ha : Els valC 2 w A xs) (hb : Els valC 2 w B ys) :
    Calls Try.prog 16 #[.slice A xs.length c, .slice B ys.length d] w fun e w' => e = .returned (.bool (decide (xs = ys))) ∧ ∃ n, w' = w.drewN n := by
  by_cases hl : xs.length = ys.length
  · have hl1 : decide (xs.length = ys.length) = true := by simpa using hl
    have hl2 : ((xs.length : Int) != (ys.length : Int)) = false := by simp [hl]
    have HL := Lib.hid hl
    clear hl
    go_enter Try.func16, Try.ntmps16
    go_wp2
    go_loopw [5, 13] (fun _ v wr => ∃ k nd : Nat, k ≤ xs.length ∧ v = .int .i64 k ∧ Hid (∀ j, j < k → ∀ (h1 : j < xs.length) (h2 : j < ys.length), xs[j] = ys[j]) ∧ wr = w.drewN nd) (fun _ v _ => xs.length - (intOf v).toNat)
    case atStart => exact ⟨0, 0, Nat.zero_le _, rfl, fun j hj => absurd hj (Nat.not_lt_zero _), rfl⟩
    case round =>
      obtain ⟨k, nd, hk, rfl, HJ, rfl⟩ := hrel
      by_cases hlt : k < xs.length
      · obtain ⟨pb, po, x0, x1, pE, pl, pc0, pc1, px⟩ := els_val ha k hlt
        subst pE
        obtain ⟨qb, qo, y0, y1, qE, ql, qc0, qc1, qx⟩ := els_val hb k (by have := HL.out; omega)
        subst qE
        have hlt2 : (k : Int) < (ys.length : Int) := by have := HL.out; omega
        by_cases he0 : x0 = y0
        · subst he0
          by_cases he1 : x1 = y1
          · subst he1
            go_wp2
            go_quiet (fail)
            go_wp2
            go_roundw
            case rel =>
              refine ⟨k + 1, _, by omega, by go_num, ?_, rfl⟩
              intro j hj
              rcases (by omega : j < k ∨ j = k) with h | rfl
              · exact HJ j h
              · intro h1 h2; exact px.out.trans qx.out.symm
            case measure => simp [intOf]; omega
          · have HE := Lib.hid he1
            go_wp2
            go_quiet (fail)
            go_wp2
            go_ret
            exact ⟨ret_bool (by rw [eq_comm, decide_eq_false_iff_not]; intro e; subst e; have := px.out.symm.trans qx.out; simp at this; exact HE.out (by simp [this])), _, World.drewN_drewN ..⟩
        · have HE := Lib.hid he0
          go_wp2
          go_quiet (fail)
          go_wp2
          go_ret
          exact ⟨ret_bool (by rw [eq_comm, decide_eq_false_iff_not]; intro e; subst e; have := px.out.symm.trans qx.out; simp at this; exact HE.out (by simp [this])), _, World.drewN_drewN ..⟩
      · go_wp2
        go_ret
        exact ⟨ret_bool (by rw [eq_comm, decide_eq_true_iff]; exact List.ext_getElem HL.out (fun j h1 h2 => HJ j (by omega) h1 h2)), _, rfl⟩
  · have hl2 : ((xs.length : Int) != (ys.length : Int)) = true := by rw [bne_iff_ne]; omega
    go_enter Try.func16, Try.ntmps16
    go_wp2
    go_ret
    exact ⟨ret_bool (by rw [eq_comm, decide_eq_false_iff_not]; exact fun e => hl (by rw [e])), 0, rfl⟩
set_option maxHeartbeats 1000000 in
theorem eqSlot_calls (xs ys : List SlotD) (A B : Option Addr) (c d : Nat) (hx : xs.length ≤ 9223372036854775807) (hy : ys.length ≤ 9223372036854775807) (w : World) (ha : Els slotC 3 w A xs) (hb : Els slotC 3 w B ys) :
    Calls Try.prog 44 #[.slice A xs.length c, .slice B ys.length d] w fun e w' => e = .returned (.bool (decide (xs = ys))) ∧ ∃ n, w' = w.drewN n := by
  by_cases hl : xs.length = ys.length
  · have hl1 : decide (xs.length = ys.length) = true := by simpa using hl
    have hl2 : ((xs.length : Int) != (ys.length : Int)) = false := by simp [hl]
    have HL := Lib.hid hl
    clear hl
    go_enter Try.func44, Try.ntmps44
    go_wp2
    go_loopw [5, 13] (fun _ v wr => ∃ k nd : Nat, k ≤ xs.length ∧ v = .int .i64 k ∧ Hid (∀ j, j < k → ∀ (h1 : j < xs.length) (h2 : j < ys.length), xs[j] = ys[j]) ∧ wr = w.drewN nd) (fun _ v _ => xs.length - (intOf v).toNat)
    case atStart => exact ⟨0, 0, Nat.zero_le _, rfl, fun j hj => absurd hj (Nat.not_lt_zero _), rfl⟩
    case round =>
      obtain ⟨k, nd, hk, rfl, HJ, rfl⟩ := hrel
      by_cases hlt : k < xs.length
      · obtain ⟨pb, po, x0, x1, x2, pE, pl, pc0, pc1, pc2, px⟩ := els_slot ha k hlt
        subst pE
        obtain ⟨qb, qo, y0, y1, y2, qE, ql, qc0, qc1, qc2, qx⟩ := els_slot hb k (by have := HL.out; omega)
        subst qE
        have hlt2 : (k : Int) < (ys.length : Int) := by have := HL.out; omega
        by_cases he0 : x0 = y0
        · subst he0
          by_cases he1 : x1 = y1
          · subst he1
            by_cases he2 : x2 = y2
            · subst he2
              go_wp2
              go_quiet (fail)
              go_wp2
              go_roundw
              case rel =>
                refine ⟨k + 1, _, by omega, by go_num, ?_, rfl⟩
                intro j hj
                rcases (by omega : j < k ∨ j = k) with h | rfl
                · exact HJ j h
                · intro h1 h2; exact px.out.trans qx.out.symm
              case measure => simp [intOf]; omega
            · have HE := Lib.hid he2
              go_wp2
              go_quiet (fail)
              go_wp2
              go_ret
              exact ⟨ret_bool (by rw [eq_comm, decide_eq_false_iff_not]; intro e; subst e; have := px.out.symm.trans qx.out; simp at this; exact HE.out (by simp [this])), _, World.drewN_drewN ..⟩
          · have HE := Lib.hid he1
            go_wp2
            go_quiet (fail)
            go_wp2
            go_ret
            exact ⟨ret_bool (by rw [eq_comm, decide_eq_false_iff_not]; intro e; subst e; have := px.out.symm.trans qx.out; simp at this; exact HE.out (by simp [this])), _, World.drewN_drewN ..⟩
        · have HE := Lib.hid he0
          go_wp2
          go_quiet (fail)
          go_wp2
          go_ret
          exact ⟨ret_bool (by rw [eq_comm, decide_eq_false_iff_not]; intro e; subst e; have := px.out.symm.trans qx.out; simp at this; exact HE.out (by simp [this])), _, World.drewN_drewN ..⟩
      · go_wp2
        go_ret
        exact ⟨ret_bool (by rw [eq_comm, decide_eq_true_iff]; exact List.ext_getElem HL.out (fun j h1 h2 => HJ j (by omega) h1 h2)), _, rfl⟩
  · have hl2 : ((xs.length : Int) != (ys.length : Int)) = true := by rw [bne_iff_ne]; omega
    go_enter Try.func44, Try.ntmps44
    go_wp2
    go_ret
    exact ⟨ret_bool (by rw [eq_comm, decide_eq_false_iff_not]; exact fun e => hl (by rw [e])), 0, rfl⟩
end Go.Proofs.Ytngpfbcjmlpplaa.M
