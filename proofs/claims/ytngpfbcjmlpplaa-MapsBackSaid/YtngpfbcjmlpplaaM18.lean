import Derived.Test.YtngpfbcjmlpplaaM16
set_option linter.unusedVariables false
set_option linter.unusedSimpArgs false
namespace Go.Proofs.Ytngpfbcjmlpplaa.M
open Go.RowKit Go.Proofs.Ytngpfbcjmlpplaa.LibA Go.Proofs.Ytngpfbcjmlpplaa.LibB Go.Proofs.Ytngpfbcjmlpplaa.LibC Go.Proofs.Ytngpfbcjmlpplaa.LibD Go.Proofs.Ytngpfbcjmlpplaa.LibE Go.Proofs.Ytngpfbcjmlpplaa.LibF Go.Proofs.Ytngpfbcjmlpplaa.LibG
def codeC (cf ce : Int) (ci cx cc : Value) (E : Option Addr) (n ec : Nat) (sp : Int) : Array Value := #[.int .i64 cf, .int .i64 ce, ci, cx, cc, .slice E n ec, .int .i64 sp]
def frmC (ff fa : Int) (L : Option Addr) (n lc : Nat) (S : Option Addr) (sl sc : Nat) : Array Value := #[.int .i64 ff, .int .i64 fa, .slice L n lc, .slice S sl sc]
/-- the slots from k on fit the values -/
def fitAt (es : List SlotD) (ls : List ValD) (j : Nat) : Bool := (es.getD j (0, 0, 0)).1 == 0 || (ls.getD j (0, 0)).1 == (es.getD j (0, 0, 0)).1
def fitsAll (es : List SlotD) (ls : List ValD) : Bool := (List.range es.length).all (fitAt es ls)
def fitsB (cf ce ff fa : Int) (sl : Nat) (es : List SlotD) (ls : List ValD) : Bool := ff == cf && (fa == ce && (sl == 0 && (ls.length == es.length && fitsAll es ls)))
theorem fitsAll_yes {es : List SlotD} {ls : List ValD} (h : ∀ j, j < es.length → fitAt es ls j = true) : fitsAll es ls = true := by
  simp only [fitsAll, List.all_eq_true, List.mem_range]; exact h
theorem fitsAll_no {es : List SlotD} {ls : List ValD} {j : Nat} (hj : j < es.length) (h : fitAt es ls j = false) : fitsAll es ls = false := by
  rw [Bool.eq_false_iff]; intro e
  simp only [fitsAll, List.all_eq_true, List.mem_range] at e
  rw [e j hj] at h; cases h
set_option maxHeartbeats 1000000 in
theorem fits_calls (cf ce ff fa csp : Int) (ci cx cc : Value) (es : List SlotD) (ls : List ValD) (E L S : Option Addr) (ec lc sl sc : Nat) (hel : es.length ≤ 9223372036854775807) (hll : ls.length ≤ 9223372036854775807) (hsl : sl ≤ 9223372036854775807) (w : World) (hes : Els slotC 3 w E es) (hls : Els valC 2 w L ls) :
    Calls Try.prog 24 #[.agg #[.int .i64 cf, .int .i64 ce, ci, cx, cc, .slice E es.length ec, .int .i64 csp], .agg #[.int .i64 ff, .int .i64 fa, .slice L ls.length lc, .slice S sl sc]] w fun e w' => e = .returned (.bool (fitsB cf ce ff fa sl es ls)) ∧ Below w.heap.size w w' := by
  by_cases h1 : ff = cf
  · by_cases h2 : fa = ce
    · by_cases h3 : sl = 0
      · by_cases h4 : ls.length = es.length
        · subst h1 h2 h3
          have hl2 : ((ls.length : Int) != (es.length : Int)) = false := by simp [h4]
          have HL := Lib.hid h4
          clear h4
          go_enter Try.func24, Try.ntmps24
          go_wp2
          go_loopw [37] (fun v wr => ∃ k : Nat, k ≤ es.length ∧ v = .int .i64 k ∧ Hid (∀ j, j < k → fitAt es ls j = true) ∧ ∃ l d, wr = ext ((w.alloc (.cells #[.int .i64 ff, .int .i64 fa, ci, cx, cc, .slice E es.length ec, .int .i64 csp] 62)).alloc (.cells #[.int .i64 ff, .int .i64 fa, .slice L ls.length lc, .slice S 0 sc] 45)) l d) (fun v _ => es.length - (intOf v).toNat)
          case atStart => exact ⟨0, Nat.zero_le _, rfl, fun j hj => absurd hj (Nat.not_lt_zero _), ext_of_below (by repeat (with_reducible first | assumption | exact Below.refl _ _ | refine bl_alloc ?_ _ | refine bl_drewN ?_ _ | refine bl_drew ?_ | refine bl_ext ?_ _ _ | refine bl_then0 ?_ (by assumption)))⟩
          case round =>
            obtain ⟨k, hk, rfl, HJ, l, d, rfl⟩ := hrel
            by_cases hlt : k < es.length
            · obtain ⟨b, off, ka, lk, ln, hE, hbl, c0, c1, c2, hx⟩ := els_slot hes k hlt
              obtain ⟨b2, off2, va, vn, hL, hbl2, e0, e1, hy⟩ := els_val hls k (by have := HL.out; omega)
              subst hE hL
              have hlt2 : (k : Int) < (ls.length : Int) := by have := HL.out; omega
              have f0 : b < w.heap.size := by omega
              obtain ⟨f1, f2, f3, f4, f5, f6, f7⟩ := lt_all f0
              have g0 : b2 < w.heap.size := by omega
              obtain ⟨g1, g2, g3, g4, g5, g6, g7⟩ := lt_all g0
              by_cases h0 : ka = 0
              · subst h0
                have hfit : fitAt es ls k = true := by
                  have j1 : es.getD k (0, 0, 0) = (0, lk, ln) := by rw [List.getD_eq_getElem?_getD, List.getElem?_eq_getElem hlt, hx.out]; rfl
                  have j2 : ls.getD k (0, 0) = (va, vn) := by rw [List.getD_eq_getElem?_getD, List.getElem?_eq_getElem (by have := HL.out; omega), hy.out]; rfl
                  unfold fitAt; rw [j1, j2]; simp
                have HF := Lib.hid hfit
                clear hfit
                go_wp2
                go_quiet (fail)
                go_wp2
                go_roundw
                case rel => exact ⟨k + 1, by omega, by go_num, fun j hj => (Nat.lt_succ_iff_lt_or_eq.1 hj).elim (HJ j) (fun e => e ▸ HF.out), ext_of_below (by repeat (with_reducible first | assumption | exact Below.refl _ _ | refine bl_alloc ?_ _ | refine bl_drewN ?_ _ | refine bl_drew ?_ | refine bl_ext ?_ _ _ | refine bl_then0 ?_ (by assumption)))⟩
                case measure => simp [intOf]; omega
              · have hnk : (ka != 0) = true := by simpa using h0
                by_cases h1 : va = ka
                · subst h1
                  have hfit : fitAt es ls k = true := by
                    have j1 : es.getD k (0, 0, 0) = (va, lk, ln) := by rw [List.getD_eq_getElem?_getD, List.getElem?_eq_getElem hlt, hx.out]; rfl
                    have j2 : ls.getD k (0, 0) = (va, vn) := by rw [List.getD_eq_getElem?_getD, List.getElem?_eq_getElem (by have := HL.out; omega), hy.out]; rfl
                    unfold fitAt; rw [j1, j2]; simp
                  have HF := Lib.hid hfit
                  clear hfit
                  go_wp2
                  go_quiet (fail)
                  go_wp2
                  go_roundw
                  case rel => exact ⟨k + 1, by omega, by go_num, fun j hj => (Nat.lt_succ_iff_lt_or_eq.1 hj).elim (HJ j) (fun e => e ▸ HF.out), ext_of_below (by repeat (with_reducible first | assumption | exact Below.refl _ _ | refine bl_alloc ?_ _ | refine bl_drewN ?_ _ | refine bl_drew ?_ | refine bl_ext ?_ _ _ | refine bl_then0 ?_ (by assumption)))⟩
                  case measure => simp [intOf]; omega
                · have hne : (va != ka) = true := by simpa using h1
                  have hnk : (ka != 0) = true := by simpa using h0
                  have hfit : fitAt es ls k = false := by
                    have j1 : es.getD k (0, 0, 0) = (ka, lk, ln) := by rw [List.getD_eq_getElem?_getD, List.getElem?_eq_getElem hlt, hx.out]; rfl
                    have j2 : ls.getD k (0, 0) = (va, vn) := by rw [List.getD_eq_getElem?_getD, List.getElem?_eq_getElem (by have := HL.out; omega), hy.out]; rfl
                    unfold fitAt; rw [j1, j2]; simp [h0, h1]
                  have HF := Lib.hid hfit
                  clear hfit
                  clear h1
                  go_wp2
                  go_quiet (fail)
                  go_wp2
                  go_ret
                  exact ⟨ret_bool (by simp [fitsB, fitsAll_no hlt HF.out]), (by repeat (with_reducible first | assumption | exact Below.refl _ _ | refine bl_alloc ?_ _ | refine bl_drewN ?_ _ | refine bl_drew ?_ | refine bl_ext ?_ _ _ | refine bl_then0 ?_ (by assumption)))⟩
            · go_wp2
              go_ret
              exact ⟨ret_bool (by rw [eq_comm]; simp only [fitsB, beq_self_eq_true, Bool.true_and, HL.out]; exact fitsAll_yes (fun j hj => HJ j (by omega))), (by repeat (with_reducible first | assumption | exact Below.refl _ _ | refine bl_alloc ?_ _ | refine bl_drewN ?_ _ | refine bl_drew ?_ | refine bl_ext ?_ _ _ | refine bl_then0 ?_ (by assumption)))⟩
        · subst h1 h2 h3
          have hn : ((ls.length : Int) != (es.length : Int)) = true := by rw [bne_iff_ne]; omega
          go_enter Try.func24, Try.ntmps24
          go_wp2
          go_ret
          exact ⟨ret_bool (by simp [fitsB, h4]), (by repeat (with_reducible first | assumption | exact Below.refl _ _ | refine bl_alloc ?_ _ | refine bl_drewN ?_ _ | refine bl_drew ?_ | refine bl_ext ?_ _ _ | refine bl_then0 ?_ (by assumption)))⟩
      · subst h1 h2
        have hn : ((sl : Int) != 0) = true := by rw [bne_iff_ne]; omega
        go_enter Try.func24, Try.ntmps24
        go_wp2
        go_ret
        exact ⟨ret_bool (by simp [fitsB, h3]), (by repeat (with_reducible first | assumption | exact Below.refl _ _ | refine bl_alloc ?_ _ | refine bl_drewN ?_ _ | refine bl_drew ?_ | refine bl_ext ?_ _ _ | refine bl_then0 ?_ (by assumption)))⟩
    · subst h1
      have hn : (fa != ce) = true := by rw [bne_iff_ne]; omega
      go_enter Try.func24, Try.ntmps24
      go_wp2
      go_ret
      exact ⟨ret_bool (by simp [fitsB, h2]), (by repeat (with_reducible first | assumption | exact Below.refl _ _ | refine bl_alloc ?_ _ | refine bl_drewN ?_ _ | refine bl_drew ?_ | refine bl_ext ?_ _ _ | refine bl_then0 ?_ (by assumption)))⟩
  · have hn : (ff != cf) = true := by rw [bne_iff_ne]; omega
    go_enter Try.func24, Try.ntmps24
    go_wp2
    go_ret
    exact ⟨ret_bool (by simp [fitsB, h1]), (by repeat (with_reducible first | assumption | exact Below.refl _ _ | refine bl_alloc ?_ _ | refine bl_drewN ?_ _ | refine bl_drew ?_ | refine bl_ext ?_ _ _ | refine bl_then0 ?_ (by assumption)))⟩
end Go.Proofs.Ytngpfbcjmlpplaa.M
