import Derived.Test.YtngpfbcjmlpplaaM7
set_option linter.unusedVariables false
set_option linter.unusedSimpArgs false
namespace Go.Proofs.Ytngpfbcjmlpplaa.M
open Go.RowKit Go.Proofs.Ytngpfbcjmlpplaa.LibA Go.Proofs.Ytngpfbcjmlpplaa.LibB Go.Proofs.Ytngpfbcjmlpplaa.LibC Go.Proofs.Ytngpfbcjmlpplaa.LibD

abbrev MapD := Int × Int × List SlotD × List SlotD
instance decMapD : DecidableEq MapD := fun a b => inferInstanceAs (Decidable (a = b))
def mapEqB (a b : MapD) : Bool := decide (a = b)
def lenOk (m : MapD) : Prop := m.2.2.1.length * 24 ≤ 140737488351232 ∧ m.2.2.2.length * 24 ≤ 140737488351232
/-- A slice of maps, read: at each place its four cells, and its two lists of slots. -/
def MapsAt (w : World) (A : Option Addr) (ms : List MapD) : Prop :=
  ∀ i (h : i < ms.length), ∃ b off, A = some ⟨b, off, none⟩ ∧ ∃ L lc S sc, w.cell? ⟨b, off + i * 4, none⟩ = some (.int .i64 ms[i].1) ∧ w.cell? ⟨b, off + i * 4 + 1, none⟩ = some (.int .i64 ms[i].2.1) ∧
    w.cell? ⟨b, off + i * 4 + 2, none⟩ = some (.slice L ms[i].2.2.1.length lc) ∧ w.cell? ⟨b, off + i * 4 + 3, none⟩ = some (.slice S ms[i].2.2.2.length sc) ∧
    Els slotC 3 w L ms[i].2.2.1 ∧ Els slotC 3 w S ms[i].2.2.2 ∧ lenOk ms[i]
theorem MapsAt.below {w W : World} {A : Option Addr} {ms : List MapD} (h : MapsAt w A ms) (hB : Below w.heap.size w W) : MapsAt W A ms := by
  intro i hi
  obtain ⟨b, off, e, L, lc, S, sc, c0, c1, c2, c3, h1, h2, h3⟩ := h i hi
  exact ⟨b, off, e, L, lc, S, sc, cell_b hB c0, cell_b hB c1, cell_b hB c2, cell_b hB c3, Els.below h1 hB, Els.below h2 hB, h3⟩
theorem maps_get {w : World} {A : Option Addr} {ms : List MapD} (h : MapsAt w A ms) (k : Nat) (hk : k < ms.length) :
    ∃ b off f at_ ls ss L lc S sc, A = some ⟨b, off, none⟩ ∧ b < w.heap.size ∧ w.cell? ⟨b, off + k * 4, none⟩ = some (.int .i64 f) ∧ w.cell? ⟨b, off + k * 4 + 1, none⟩ = some (.int .i64 at_) ∧
    w.cell? ⟨b, off + k * 4 + 2, none⟩ = some (.slice L ls.length lc) ∧ w.cell? ⟨b, off + k * 4 + 3, none⟩ = some (.slice S ss.length sc) ∧
    Els slotC 3 w L ls ∧ Els slotC 3 w S ss ∧ ls.length * 24 ≤ 140737488351232 ∧ ss.length * 24 ≤ 140737488351232 ∧ Hid (ms[k] = (f, at_, ls, ss)) := by
  obtain ⟨b, off, e, L, lc, S, sc, c0, c1, c2, c3, h1, h2, h3⟩ := h k hk
  exact ⟨b, off, _, _, _, _, L, lc, S, sc, e, World.block_lt_of_cell? w _ c0, c0, c1, c2, c3, h1, h2, h3.1, h3.2, rfl⟩
set_option maxHeartbeats 1000000 in
theorem same1_calls (f1 a1 f2 a2 : Int) (l1 s1 l2 s2 : List SlotD) (L1 S1 L2 S2 : Option Addr) (lc1 sc1 lc2 sc2 : Nat) (h1 : l1.length * 24 ≤ 140737488351232) (h2 : s1.length * 24 ≤ 140737488351232) (h3 : l2.length * 24 ≤ 140737488351232) (h4 : s2.length * 24 ≤ 140737488351232) (w : World) (hl1 : Els slotC 3 w L1 l1) (hs1 : Els slotC 3 w S1 s1) (hl2 : Els slotC 3 w L2 l2) (hs2 : Els slotC 3 w S2 s2) :
    Calls Try.prog 43 #[.agg #[.int .i64 f1, .int .i64 a1, .slice L1 l1.length lc1, .slice S1 s1.length sc1], .agg #[.int .i64 f2, .int .i64 a2, .slice L2 l2.length lc2, .slice S2 s2.length sc2]] w fun e w' => e = .returned (.bool (mapEqB (f1, a1, l1, s1) (f2, a2, l2, s2))) ∧ Below w.heap.size w w' := by
  by_cases e1 : f1 = f2
  · subst e1
    by_cases e2 : a1 = a2
    · subst e2
      by_cases e3 : l1 = l2
      · have d3 : decide (l1 = l2) = true := by simpa using e3
        have H3 := Lib.hid e3
        clear e3
        by_cases e4 : s1 = s2
        · have d4 : decide (s1 = s2) = true := by simpa using e4
          have H4 := Lib.hid e4
          clear e4
          go_enter Try.func43, Try.ntmps43
          go_wp2_with (first | (go_at_call 44; (with_reducible refine Calls.mono (eqSlot_calls l1 l2 L1 L2 lc1 lc2 (by omega) (by omega) _ (Els.below hl1 (by repeat (with_reducible first | assumption | exact Below.refl _ _ | refine bl_alloc ?_ _ | refine bl_drewN ?_ _ | refine bl_drew ?_ | refine bl_ext ?_ _ _ | refine bl_then0 ?_ (by assumption)))) (Els.below hl2 (by repeat (with_reducible first | assumption | exact Below.refl _ _ | refine bl_alloc ?_ _ | refine bl_drewN ?_ _ | refine bl_drew ?_ | refine bl_ext ?_ _ _ | refine bl_then0 ?_ (by assumption))))) ?_); rintro e w1 ⟨rfl, n1, rfl⟩) | (go_at_call 44; (with_reducible refine Calls.mono (eqSlot_calls s1 s2 S1 S2 sc1 sc2 (by omega) (by omega) _ (Els.below hs1 (by repeat (with_reducible first | assumption | exact Below.refl _ _ | refine bl_alloc ?_ _ | refine bl_drewN ?_ _ | refine bl_drew ?_ | refine bl_ext ?_ _ _ | refine bl_then0 ?_ (by assumption)))) (Els.below hs2 (by repeat (with_reducible first | assumption | exact Below.refl _ _ | refine bl_alloc ?_ _ | refine bl_drewN ?_ _ | refine bl_drew ?_ | refine bl_ext ?_ _ _ | refine bl_then0 ?_ (by assumption))))) ?_); rintro e w1 ⟨rfl, n1, rfl⟩))
          go_ret
          exact ⟨ret_bool (by simp [mapEqB, H3.out, H4.out]), (by repeat (with_reducible first | assumption | exact Below.refl _ _ | refine bl_alloc ?_ _ | refine bl_drewN ?_ _ | refine bl_drew ?_ | refine bl_ext ?_ _ _ | refine bl_then0 ?_ (by assumption)))⟩
        · have d4 : decide (s1 = s2) = false := by simpa using e4
          have H4 := Lib.hid e4
          clear e4
          go_enter Try.func43, Try.ntmps43
          go_wp2_with (first | (go_at_call 44; (with_reducible refine Calls.mono (eqSlot_calls l1 l2 L1 L2 lc1 lc2 (by omega) (by omega) _ (Els.below hl1 (by repeat (with_reducible first | assumption | exact Below.refl _ _ | refine bl_alloc ?_ _ | refine bl_drewN ?_ _ | refine bl_drew ?_ | refine bl_ext ?_ _ _ | refine bl_then0 ?_ (by assumption)))) (Els.below hl2 (by repeat (with_reducible first | assumption | exact Below.refl _ _ | refine bl_alloc ?_ _ | refine bl_drewN ?_ _ | refine bl_drew ?_ | refine bl_ext ?_ _ _ | refine bl_then0 ?_ (by assumption))))) ?_); rintro e w1 ⟨rfl, n1, rfl⟩) | (go_at_call 44; (with_reducible refine Calls.mono (eqSlot_calls s1 s2 S1 S2 sc1 sc2 (by omega) (by omega) _ (Els.below hs1 (by repeat (with_reducible first | assumption | exact Below.refl _ _ | refine bl_alloc ?_ _ | refine bl_drewN ?_ _ | refine bl_drew ?_ | refine bl_ext ?_ _ _ | refine bl_then0 ?_ (by assumption)))) (Els.below hs2 (by repeat (with_reducible first | assumption | exact Below.refl _ _ | refine bl_alloc ?_ _ | refine bl_drewN ?_ _ | refine bl_drew ?_ | refine bl_ext ?_ _ _ | refine bl_then0 ?_ (by assumption))))) ?_); rintro e w1 ⟨rfl, n1, rfl⟩))
          go_ret
          exact ⟨ret_bool (by simp [mapEqB, H4.out]), (by repeat (with_reducible first | assumption | exact Below.refl _ _ | refine bl_alloc ?_ _ | refine bl_drewN ?_ _ | refine bl_drew ?_ | refine bl_ext ?_ _ _ | refine bl_then0 ?_ (by assumption)))⟩
      · have d3 : decide (l1 = l2) = false := by simpa using e3
        have H3 := Lib.hid e3
        clear e3
        go_enter Try.func43, Try.ntmps43
        go_wp2_with (first | (go_at_call 44; (with_reducible refine Calls.mono (eqSlot_calls l1 l2 L1 L2 lc1 lc2 (by omega) (by omega) _ (Els.below hl1 (by repeat (with_reducible first | assumption | exact Below.refl _ _ | refine bl_alloc ?_ _ | refine bl_drewN ?_ _ | refine bl_drew ?_ | refine bl_ext ?_ _ _ | refine bl_then0 ?_ (by assumption)))) (Els.below hl2 (by repeat (with_reducible first | assumption | exact Below.refl _ _ | refine bl_alloc ?_ _ | refine bl_drewN ?_ _ | refine bl_drew ?_ | refine bl_ext ?_ _ _ | refine bl_then0 ?_ (by assumption))))) ?_); rintro e w1 ⟨rfl, n1, rfl⟩) | (go_at_call 44; (with_reducible refine Calls.mono (eqSlot_calls s1 s2 S1 S2 sc1 sc2 (by omega) (by omega) _ (Els.below hs1 (by repeat (with_reducible first | assumption | exact Below.refl _ _ | refine bl_alloc ?_ _ | refine bl_drewN ?_ _ | refine bl_drew ?_ | refine bl_ext ?_ _ _ | refine bl_then0 ?_ (by assumption)))) (Els.below hs2 (by repeat (with_reducible first | assumption | exact Below.refl _ _ | refine bl_alloc ?_ _ | refine bl_drewN ?_ _ | refine bl_drew ?_ | refine bl_ext ?_ _ _ | refine bl_then0 ?_ (by assumption))))) ?_); rintro e w1 ⟨rfl, n1, rfl⟩))
        go_ret
        exact ⟨ret_bool (by simp [mapEqB, H3.out]), (by repeat (with_reducible first | assumption | exact Below.refl _ _ | refine bl_alloc ?_ _ | refine bl_drewN ?_ _ | refine bl_drew ?_ | refine bl_ext ?_ _ _ | refine bl_then0 ?_ (by assumption)))⟩
    · have d2 : (a1 == a2) = false := by simpa using e2
      go_enter Try.func43, Try.ntmps43
      go_wp2_with (first | (go_at_call 44; (with_reducible refine Calls.mono (eqSlot_calls l1 l2 L1 L2 lc1 lc2 (by omega) (by omega) _ (Els.below hl1 (by repeat (with_reducible first | assumption | exact Below.refl _ _ | refine bl_alloc ?_ _ | refine bl_drewN ?_ _ | refine bl_drew ?_ | refine bl_ext ?_ _ _ | refine bl_then0 ?_ (by assumption)))) (Els.below hl2 (by repeat (with_reducible first | assumption | exact Below.refl _ _ | refine bl_alloc ?_ _ | refine bl_drewN ?_ _ | refine bl_drew ?_ | refine bl_ext ?_ _ _ | refine bl_then0 ?_ (by assumption))))) ?_); rintro e w1 ⟨rfl, n1, rfl⟩) | (go_at_call 44; (with_reducible refine Calls.mono (eqSlot_calls s1 s2 S1 S2 sc1 sc2 (by omega) (by omega) _ (Els.below hs1 (by repeat (with_reducible first | assumption | exact Below.refl _ _ | refine bl_alloc ?_ _ | refine bl_drewN ?_ _ | refine bl_drew ?_ | refine bl_ext ?_ _ _ | refine bl_then0 ?_ (by assumption)))) (Els.below hs2 (by repeat (with_reducible first | assumption | exact Below.refl _ _ | refine bl_alloc ?_ _ | refine bl_drewN ?_ _ | refine bl_drew ?_ | refine bl_ext ?_ _ _ | refine bl_then0 ?_ (by assumption))))) ?_); rintro e w1 ⟨rfl, n1, rfl⟩))
      go_ret
      exact ⟨ret_bool (by simp [mapEqB, e2]), (by repeat (with_reducible first | assumption | exact Below.refl _ _ | refine bl_alloc ?_ _ | refine bl_drewN ?_ _ | refine bl_drew ?_ | refine bl_ext ?_ _ _ | refine bl_then0 ?_ (by assumption)))⟩
  · have d1 : (f1 == f2) = false := by simpa using e1
    go_enter Try.func43, Try.ntmps43
    go_wp2_with (first | (go_at_call 44; (with_reducible refine Calls.mono (eqSlot_calls l1 l2 L1 L2 lc1 lc2 (by omega) (by omega) _ (Els.below hl1 (by repeat (with_reducible first | assumption | exact Below.refl _ _ | refine bl_alloc ?_ _ | refine bl_drewN ?_ _ | refine bl_drew ?_ | refine bl_ext ?_ _ _ | refine bl_then0 ?_ (by assumption)))) (Els.below hl2 (by repeat (with_reducible first | assumption | exact Below.refl _ _ | refine bl_alloc ?_ _ | refine bl_drewN ?_ _ | refine bl_drew ?_ | refine bl_ext ?_ _ _ | refine bl_then0 ?_ (by assumption))))) ?_); rintro e w1 ⟨rfl, n1, rfl⟩) | (go_at_call 44; (with_reducible refine Calls.mono (eqSlot_calls s1 s2 S1 S2 sc1 sc2 (by omega) (by omega) _ (Els.below hs1 (by repeat (with_reducible first | assumption | exact Below.refl _ _ | refine bl_alloc ?_ _ | refine bl_drewN ?_ _ | refine bl_drew ?_ | refine bl_ext ?_ _ _ | refine bl_then0 ?_ (by assumption)))) (Els.below hs2 (by repeat (with_reducible first | assumption | exact Below.refl _ _ | refine bl_alloc ?_ _ | refine bl_drewN ?_ _ | refine bl_drew ?_ | refine bl_ext ?_ _ _ | refine bl_then0 ?_ (by assumption))))) ?_); rintro e w1 ⟨rfl, n1, rfl⟩))
    go_ret
    exact ⟨ret_bool (by simp [mapEqB, e1]), (by repeat (with_reducible first | assumption | exact Below.refl _ _ | refine bl_alloc ?_ _ | refine bl_drewN ?_ _ | refine bl_drew ?_ | refine bl_ext ?_ _ _ | refine bl_then0 ?_ (by assumption)))⟩
set_option maxHeartbeats 1000000 in
theorem equalFunc_calls (xs ys : List MapD) (A B : Option Addr) (c d : Nat) (hx : xs.length ≤ 9223372036854775807) (hy : ys.length ≤ 9223372036854775807) (w : World) (ha : MapsAt w A xs) (hbB : MapsAt w B ys) :
    Calls Try.prog 42 #[.slice A xs.length c, .slice B ys.length d, .func (.func 43) #[] #[]] w fun e w' => e = .returned (.bool (decide (xs = ys))) ∧ Below w.heap.size w w' := by
  by_cases hl : xs.length = ys.length
  · have hl1 : decide (xs.length = ys.length) = true := by simpa using hl
    have hl2 : ((xs.length : Int) != (ys.length : Int)) = false := by simp [hl]
    have HL := Lib.hid hl
    clear hl
    go_enter Try.func42, Try.ntmps42
    go_wp2
    go_loopw [7, 17] (fun _ v wr => ∃ k : Nat, k ≤ xs.length ∧ v = .int .i64 k ∧ Hid (∀ j, j < k → ∀ (h1 : j < xs.length) (h2 : j < ys.length), xs[j] = ys[j]) ∧ Below w.heap.size w wr) (fun _ v _ => xs.length - (intOf v).toNat)
    case atStart => exact ⟨0, Nat.zero_le _, rfl, fun j hj => absurd hj (Nat.not_lt_zero _), Below.refl _ _⟩
    case round =>
      obtain ⟨k, hk, rfl, HJ, hb⟩ := hrel
      by_cases hlt : k < xs.length
      · obtain ⟨b1, o1, f1, a1, l1, s1, L1, lc1, S1, sc1, E1, hb1, c10, c11, c12, c13, hl1, hs1, hh1, hg1, X1⟩ := maps_get (MapsAt.below ha hb) k hlt
        subst E1
        obtain ⟨b2, o2, f2, a2, l2, s2, L2, lc2, S2, sc2, E2, hb2, c20, c21, c22, c23, hl2, hs2, hh2, hg2, X2⟩ := maps_get (MapsAt.below hbB hb) k (by have := HL.out; omega)
        subst E2
        have hlt2 : (k : Int) < (ys.length : Int) := by have := HL.out; omega
        by_cases he : ((f1, a1, l1, s1) : MapD) = (f2, a2, l2, s2)
        · have de : mapEqB (f1, a1, l1, s1) (f2, a2, l2, s2) = true := decide_eq_true he
          have HE := Lib.hid he
          clear he
          go_wp2_with (first | (go_at_call 43; (with_reducible refine Calls.mono (same1_calls f1 a1 f2 a2 l1 s1 l2 s2 L1 S1 L2 S2 lc1 sc1 lc2 sc2 (by omega) (by omega) (by omega) (by omega) _ (Els.below hl1 (by repeat (with_reducible first | assumption | exact Below.refl _ _ | refine bl_alloc ?_ _ | refine bl_drewN ?_ _ | refine bl_drew ?_ | refine bl_ext ?_ _ _ | refine bl_then0 ?_ (by assumption)))) (Els.below hs1 (by repeat (with_reducible first | assumption | exact Below.refl _ _ | refine bl_alloc ?_ _ | refine bl_drewN ?_ _ | refine bl_drew ?_ | refine bl_ext ?_ _ _ | refine bl_then0 ?_ (by assumption)))) (Els.below hl2 (by repeat (with_reducible first | assumption | exact Below.refl _ _ | refine bl_alloc ?_ _ | refine bl_drewN ?_ _ | refine bl_drew ?_ | refine bl_ext ?_ _ _ | refine bl_then0 ?_ (by assumption)))) (Els.below hs2 (by repeat (with_reducible first | assumption | exact Below.refl _ _ | refine bl_alloc ?_ _ | refine bl_drewN ?_ _ | refine bl_drew ?_ | refine bl_ext ?_ _ _ | refine bl_then0 ?_ (by assumption))))) ?_); rintro e w1 ⟨rfl, hb1⟩; obtain ⟨x1, y1, rfl⟩ := ext_of_below hb1; clear hb1))
          go_roundw
          case rel =>
            refine ⟨k + 1, by omega, by go_num, ?_, (by repeat (with_reducible first | assumption | exact Below.refl _ _ | refine bl_alloc ?_ _ | refine bl_drewN ?_ _ | refine bl_drew ?_ | refine bl_ext ?_ _ _ | refine bl_then0 ?_ (by assumption)))⟩
            intro j hj
            rcases (by omega : j < k ∨ j = k) with h | rfl
            · exact HJ j h
            · intro h1 h2; exact X1.out.trans (HE.out.trans X2.out.symm)
          case measure => simp [intOf]; omega
        · have de : mapEqB (f1, a1, l1, s1) (f2, a2, l2, s2) = false := decide_eq_false he
          have HE := Lib.hid he
          clear he
          go_wp2_with (first | (go_at_call 43; (with_reducible refine Calls.mono (same1_calls f1 a1 f2 a2 l1 s1 l2 s2 L1 S1 L2 S2 lc1 sc1 lc2 sc2 (by omega) (by omega) (by omega) (by omega) _ (Els.below hl1 (by repeat (with_reducible first | assumption | exact Below.refl _ _ | refine bl_alloc ?_ _ | refine bl_drewN ?_ _ | refine bl_drew ?_ | refine bl_ext ?_ _ _ | refine bl_then0 ?_ (by assumption)))) (Els.below hs1 (by repeat (with_reducible first | assumption | exact Below.refl _ _ | refine bl_alloc ?_ _ | refine bl_drewN ?_ _ | refine bl_drew ?_ | refine bl_ext ?_ _ _ | refine bl_then0 ?_ (by assumption)))) (Els.below hl2 (by repeat (with_reducible first | assumption | exact Below.refl _ _ | refine bl_alloc ?_ _ | refine bl_drewN ?_ _ | refine bl_drew ?_ | refine bl_ext ?_ _ _ | refine bl_then0 ?_ (by assumption)))) (Els.below hs2 (by repeat (with_reducible first | assumption | exact Below.refl _ _ | refine bl_alloc ?_ _ | refine bl_drewN ?_ _ | refine bl_drew ?_ | refine bl_ext ?_ _ _ | refine bl_then0 ?_ (by assumption))))) ?_); rintro e w1 ⟨rfl, hb1⟩; obtain ⟨x1, y1, rfl⟩ := ext_of_below hb1; clear hb1))
          go_ret
          exact ⟨ret_bool (by rw [eq_comm, decide_eq_false_iff_not]; intro e; subst e; exact HE.out (X1.out.symm.trans X2.out)), (by repeat (with_reducible first | assumption | exact Below.refl _ _ | refine bl_alloc ?_ _ | refine bl_drewN ?_ _ | refine bl_drew ?_ | refine bl_ext ?_ _ _ | refine bl_then0 ?_ (by assumption)))⟩
      · go_wp2
        go_ret
        exact ⟨ret_bool (by rw [eq_comm, decide_eq_true_iff]; exact List.ext_getElem HL.out (fun j h1 h2 => HJ j (by omega) h1 h2)), (by repeat (with_reducible first | assumption | exact Below.refl _ _ | refine bl_alloc ?_ _ | refine bl_drewN ?_ _ | refine bl_drew ?_ | refine bl_ext ?_ _ _ | refine bl_then0 ?_ (by assumption)))⟩
  · have hl2 : ((xs.length : Int) != (ys.length : Int)) = true := by rw [bne_iff_ne]; omega
    go_enter Try.func42, Try.ntmps42
    go_wp2
    go_ret
    exact ⟨ret_bool (by rw [eq_comm, decide_eq_false_iff_not]; exact fun e => hl (by rw [e])), Below.refl _ _⟩
theorem same_calls (xs ys : List MapD) (A B : Option Addr) (c d : Nat) (hx : xs.length ≤ 9223372036854775807) (hy : ys.length ≤ 9223372036854775807) (w : World) (ha : MapsAt w A xs) (hbB : MapsAt w B ys) :
    Calls Try.prog 32 #[.slice A xs.length c, .slice B ys.length d] w fun e w' => e = .returned (.bool (decide (xs = ys))) ∧ Below w.heap.size w w' := by
  go_enter Try.func32, Try.ntmps32
  go_wp2_with (first | (go_at_call 42; (with_reducible refine Calls.mono (equalFunc_calls xs ys A B c d hx hy _ (MapsAt.below ha (by repeat (with_reducible first | assumption | exact Below.refl _ _ | refine bl_alloc ?_ _ | refine bl_drewN ?_ _ | refine bl_drew ?_ | refine bl_ext ?_ _ _ | refine bl_then0 ?_ (by assumption)))) (MapsAt.below hbB (by repeat (with_reducible first | assumption | exact Below.refl _ _ | refine bl_alloc ?_ _ | refine bl_drewN ?_ _ | refine bl_drew ?_ | refine bl_ext ?_ _ _ | refine bl_then0 ?_ (by assumption))))) ?_); rintro e w1 ⟨rfl, hb1⟩))
  go_ret
  exact ⟨rfl, (by repeat (with_reducible first | assumption | exact Below.refl _ _ | refine bl_alloc ?_ _ | refine bl_drewN ?_ _ | refine bl_drew ?_ | refine bl_ext ?_ _ _ | refine bl_then0 ?_ (by assumption)))⟩
end Go.Proofs.Ytngpfbcjmlpplaa.M
