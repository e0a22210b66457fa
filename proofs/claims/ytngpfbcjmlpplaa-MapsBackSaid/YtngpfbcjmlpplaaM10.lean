import Derived.Test.YtngpfbcjmlpplaaM9
import Derived.Test.YtngpfbcjmlpplaaLibE
set_option linter.unusedVariables false
set_option linter.unusedSimpArgs false
namespace Go.Proofs.Ytngpfbcjmlpplaa.M
open Go.RowKit Go.Proofs.Ytngpfbcjmlpplaa.LibA Go.Proofs.Ytngpfbcjmlpplaa.LibB Go.Proofs.Ytngpfbcjmlpplaa.LibC Go.Proofs.Ytngpfbcjmlpplaa.LibD Go.Proofs.Ytngpfbcjmlpplaa.LibE

theorem info2 : (Try.prog.info? 2).map (fun i => (i.zero, i.size, i.bytes)) = some (some (.int .i64 0), 1, 8) := by kernel_rfl
theorem list16 (rs : List Int) (h : rs.length = 16) : ∃ r0 r1 r2 r3 r4 r5 r6 r7 r8 r9 ra rb rc rd re rf, rs = [r0, r1, r2, r3, r4, r5, r6, r7, r8, r9, ra, rb, rc, rd, re, rf] := by
  match rs, h with
  | [r0, r1, r2, r3, r4, r5, r6, r7, r8, r9, ra, rb, rc, rd, re, rf], _ => exact ⟨r0, r1, r2, r3, r4, r5, r6, r7, r8, r9, ra, rb, rc, rd, re, rf, rfl⟩
attribute [local go_sem] regsC_set16 regsC_seti numsI_set numsI_set'

theorem rput_no (k n v : Int) (rs sp : List Int) (A : Option Addr) (c : Nat) (hr : rs.length = 16) (hl : sp.length * 8 ≤ 140737488351232) (w : World) (hs : Ints w A sp) (hb : liesB k n sp.length = false) :
    Calls Try.prog 12 #[.agg #[.int .i64 k, .int .i64 n], .int .i64 v, .agg (regsC rs (.slice A sp.length c))] w fun e w' => e = .returned (.tuple #[.agg (regsC (List.replicate 16 0) (.slice none 0 0)), .int .i64 250]) ∧ Below w.heap.size w w' := by
  by_cases hk : k = 3
  · subst hk
    have he : (atE 3 n sp != 0) = false := by simp [atE]
    have h16 := regsC_16 rs (.slice A sp.length c) hr
    go_enter Try.func12, Try.ntmps12
    go_wp2_with (first | (go_at_call 10; (with_reducible refine Calls.mono (rat_calls _ n rs sp A c hr _ (Ints.below hs (by repeat (with_reducible first | assumption | exact Below.refl _ _ | refine bl_alloc ?_ _ | refine bl_drewN ?_ _ | refine bl_drew ?_ | refine bl_ext ?_ _ _ | refine bl_then0 ?_ (by assumption))))) ?_); rintro e w1 ⟨rfl, hb1⟩; obtain ⟨l1, d1, rfl⟩ := ext_of_below hb1; clear hb1) | ((with_reducible refine gate_dst (N := 14) rfl ?_); refine wpList_load_row rfl 27 _ rfl (w.heap.size + 1) rfl 27 _ (0, 0) _ (by repeat (first | assumption | (refine heap_at _ _ _ ?_; (first | omega | (simp; done) | (simp; omega))) | (refine (heap_past _ _ ?_).trans ?_; focus (first | omega | (simp; done) | (simp; omega))) | (refine (ext_heap ?_).trans ?_; focus (first | omega | (simp; done) | (simp; omega))))) Try.underlying27 rfl (by rw [regsC_size _ _ hr]; kernel_rfl) ?_))
    refine bodyPost_ret (results_ct rfl _ (w.heap.size + 1 + 1) 27 (regsC (List.replicate 16 0) (.slice none 0 0)) (0, 0) _ rfl ?_ Try.underlying27 rfl (by kernel_rfl)) rfl ?_
    · exact (by repeat (first | assumption | (refine heap_at _ _ _ ?_; (first | omega | (simp; done) | (simp; omega))) | (refine (heap_past _ _ ?_).trans ?_; focus (first | omega | (simp; done) | (simp; omega))) | (refine (ext_heap ?_).trans ?_; focus (first | omega | (simp; done) | (simp; omega)))))
    · exact ⟨rfl, (by repeat (with_reducible first | assumption | exact Below.refl _ _ | refine bl_alloc ?_ _ | refine bl_drewN ?_ _ | refine bl_drew ?_ | refine bl_ext ?_ _ _ | refine bl_then0 ?_ (by assumption)))⟩
  · have he : (atE k n sp != 0) = true := by simp [atE, hk, hb]
    have h16 := regsC_16 rs (.slice A sp.length c) hr
    go_enter Try.func12, Try.ntmps12
    go_wp2_with (first | (go_at_call 10; (with_reducible refine Calls.mono (rat_calls _ n rs sp A c hr _ (Ints.below hs (by repeat (with_reducible first | assumption | exact Below.refl _ _ | refine bl_alloc ?_ _ | refine bl_drewN ?_ _ | refine bl_drew ?_ | refine bl_ext ?_ _ _ | refine bl_then0 ?_ (by assumption))))) ?_); rintro e w1 ⟨rfl, hb1⟩; obtain ⟨l1, d1, rfl⟩ := ext_of_below hb1; clear hb1) | ((with_reducible refine gate_dst (N := 14) rfl ?_); refine wpList_load_row rfl 27 _ rfl (w.heap.size + 1) rfl 27 _ (0, 0) _ (by repeat (first | assumption | (refine heap_at _ _ _ ?_; (first | omega | (simp; done) | (simp; omega))) | (refine (heap_past _ _ ?_).trans ?_; focus (first | omega | (simp; done) | (simp; omega))) | (refine (ext_heap ?_).trans ?_; focus (first | omega | (simp; done) | (simp; omega))))) Try.underlying27 rfl (by rw [regsC_size _ _ hr]; kernel_rfl) ?_))
    refine bodyPost_ret (results_ct rfl _ (w.heap.size + 1 + 1) 27 (regsC (List.replicate 16 0) (.slice none 0 0)) (0, 0) _ rfl ?_ Try.underlying27 rfl (by kernel_rfl)) rfl ?_
    · exact (by repeat (first | assumption | (refine heap_at _ _ _ ?_; (first | omega | (simp; done) | (simp; omega))) | (refine (heap_past _ _ ?_).trans ?_; focus (first | omega | (simp; done) | (simp; omega))) | (refine (ext_heap ?_).trans ?_; focus (first | omega | (simp; done) | (simp; omega)))))
    · exact ⟨rfl, (by repeat (with_reducible first | assumption | exact Below.refl _ _ | refine bl_alloc ?_ _ | refine bl_drewN ?_ _ | refine bl_drew ?_ | refine bl_ext ?_ _ _ | refine bl_then0 ?_ (by assumption)))⟩
end Go.Proofs.Ytngpfbcjmlpplaa.M
