import Derived.Test.YtngpfbcjmlpplaaM8
set_option linter.unusedVariables false
set_option linter.unusedSimpArgs false
namespace Go.Proofs.Ytngpfbcjmlpplaa.M
open Go.RowKit Go.Proofs.Ytngpfbcjmlpplaa.LibA Go.Proofs.Ytngpfbcjmlpplaa.LibB Go.Proofs.Ytngpfbcjmlpplaa.LibC Go.Proofs.Ytngpfbcjmlpplaa.LibD

def liveR : List Int := [0, 0, 0, 7, 0, 0, 0, 0, 0, 0, 0, 0, 0, 0, 0, 0]
def liveM : MapD := (0, 0, [(1, 1, 3)], [])
theorem live_fr : frE [] [(1, 1, 3)] [] = 0 := by decide +kernel
theorem live_v : ([(1, 1, 3)] : List SlotD).map (slotV liveR []) = [(1, 7)] := by decide +kernel
theorem live_maps {w : World} {g g2 : Nat} (h : w.heap[g]? = some (.cells #[.int .i64 0, .int .i64 0, .slice (some ⟨g2, 0, none⟩) 1 1, .slice none 0 0] 39 (0, 0))) (h2 : w.heap[g2]? = some (.cells #[.int .i64 1, .int .i64 1, .int .i64 3] 42 (0, 0))) : MapsAt w (some ⟨g, 0, none⟩) [liveM] := by
  intro i hi
  obtain rfl : i = 0 := by simp at hi; omega
  refine ⟨g, 0, rfl, some ⟨g2, 0, none⟩, 1, none, 0, ?_, ?_, ?_, ?_, els_heap slotC_len [(1, 1, 3)] h2 rfl, Els.nil _ _ _ _, ?_⟩
  · rw [cell_of_row w g _ _ _ _ h]; rfl
  · rw [cell_of_row w g _ _ _ _ h]; rfl
  · rw [cell_of_row w g _ _ _ _ h]; rfl
  · rw [cell_of_row w g _ _ _ _ h]; rfl
  · exact ⟨by show 1 * 24 ≤ _; omega, by show 0 * 24 ≤ _; omega⟩
set_option maxHeartbeats 1000000 in
theorem live_calls (w : World) : Calls Try.prog 13 #[] w fun e w' => e = .returned (.bool true) ∧ Below w.heap.size w w' := by
  go_enter Try.func13, Try.ntmps13
  go_wp2_with fail
  refine Calls.mono (frame_calls 0 0 [(1, 1, 3)] [] liveR [] (some ⟨w.heap.size + 1, 0, none⟩) none none 1 0 0 rfl (by simp) (by simp) _ (els_heap slotC_len [(1, 1, 3)] (by repeat (first | assumption | (refine heap_at _ _ _ ?_; (first | omega | (simp; done) | (simp; omega))) | (refine (heap_past _ _ ?_).trans ?_; focus (first | omega | (simp; done) | (simp; omega))) | (refine (ext_heap ?_).trans ?_; focus (first | omega | (simp; done) | (simp; omega))))) rfl) (Els.nil _ _ _ _) (fun i hi => absurd hi (by simp))) ?_
  rintro e w1 hp
  rcases hp with ⟨_, v1, v2, rfl, ho1, ho2, hb1⟩ | ⟨h, _⟩
  · rw [live_v] at ho1
    have ho2n : w1.ownsRow _ 43 2 v2 ([] : List ValD).length (flat valC []) := ho2
    obtain ⟨A1, c1, hv1, hc1, hn1, hr1⟩ := own_rows valC_len ho1
    obtain ⟨A2, c2, hv2, hc2, hn2, hr2⟩ := own_rows valC_len ho2n
    have hs1 : v1 = .slice A1 1 c1 := hv1
    have hs2 : v2 = .slice A2 0 c2 := hv2
    subst hs1
    subst hs2
    clear hv1 hv2 ho1 ho2 ho2n hr2
    obtain ⟨l1, d1, rfl⟩ := ext_of_below hb1
    clear hb1
    have g0 : w.heap.size < w.heap.size + 1 + 1 + 1 + l1.length := by omega
    obtain ⟨g1, g2, g3, g4, g5, g6, g7⟩ := lt_all g0
    have f0 : w.heap.size + 1 < w.heap.size + 1 + 1 + 1 + l1.length := by omega
    obtain ⟨f1, f2, f3, f4, f5, f6, f7⟩ := lt_all f0
    have e0 : w.heap.size + 1 + 1 < w.heap.size + 1 + 1 + 1 + l1.length := by omega
    obtain ⟨e1, e2, e3, e4, e5, e6, e7⟩ := lt_all e0
    go_wp2_with (first | (go_at_call 16; (refine Calls.mono (eqVal_calls [(1, 7)] [(1, 7)] A1 _ c1 1 (by simp) (by simp) _ (Els.below hr1 (by repeat (with_reducible first | assumption | exact Below.refl _ _ | refine bl_alloc ?_ _ | refine bl_drewN ?_ _ | refine bl_drew ?_ | refine bl_ext ?_ _ _ | refine bl_then0 ?_ (by assumption)))) (els_heap valC_len [(1, 7)] (by repeat (first | assumption | (refine heap_at _ _ _ ?_; (first | omega | (simp; done) | (simp; omega))) | (refine (heap_past _ _ ?_).trans ?_; focus (first | omega | (simp; done) | (simp; omega))) | (refine (ext_heap ?_).trans ?_; focus (first | omega | (simp; done) | (simp; omega))))) rfl)) ?_); rintro e w1 ⟨rfl, n1, rfl⟩) | (go_at_call 32; (refine Calls.mono (same_calls [liveM] [liveM] _ _ 1 1 (by simp) (by simp) _ (live_maps (by repeat (first | assumption | (refine heap_at _ _ _ ?_; (first | omega | (simp; done) | (simp; omega))) | (refine (heap_past _ _ ?_).trans ?_; focus (first | omega | (simp; done) | (simp; omega))) | (refine (ext_heap ?_).trans ?_; focus (first | omega | (simp; done) | (simp; omega))))) (by repeat (first | assumption | (refine heap_at _ _ _ ?_; (first | omega | (simp; done) | (simp; omega))) | (refine (heap_past _ _ ?_).trans ?_; focus (first | omega | (simp; done) | (simp; omega))) | (refine (ext_heap ?_).trans ?_; focus (first | omega | (simp; done) | (simp; omega)))))) (live_maps (by repeat (first | assumption | (refine heap_at _ _ _ ?_; (first | omega | (simp; done) | (simp; omega))) | (refine (heap_past _ _ ?_).trans ?_; focus (first | omega | (simp; done) | (simp; omega))) | (refine (ext_heap ?_).trans ?_; focus (first | omega | (simp; done) | (simp; omega))))) (by repeat (first | assumption | (refine heap_at _ _ _ ?_; (first | omega | (simp; done) | (simp; omega))) | (refine (heap_past _ _ ?_).trans ?_; focus (first | omega | (simp; done) | (simp; omega))) | (refine (ext_heap ?_).trans ?_; focus (first | omega | (simp; done) | (simp; omega))))))) ?_); rintro e w1 ⟨rfl, hb1⟩))
    go_ret
    exact ⟨ret_bool (by simp), (by repeat (with_reducible first | assumption | exact Below.refl _ _ | refine bl_alloc ?_ _ | refine bl_drewN ?_ _ | refine bl_drew ?_ | refine bl_ext ?_ _ _ | refine bl_then0 ?_ (by assumption)))⟩
  · rw [live_fr] at h; omega
end Go.Proofs.Ytngpfbcjmlpplaa.M
