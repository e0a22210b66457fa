import Derived.Test.YtngpfbcjmlpplaaM6
set_option linter.unusedVariables false
set_option linter.unusedSimpArgs false
namespace Go.Proofs.Ytngpfbcjmlpplaa.M
open Go.RowKit Go.Proofs.Ytngpfbcjmlpplaa.LibA Go.Proofs.Ytngpfbcjmlpplaa.LibB Go.Proofs.Ytngpfbcjmlpplaa.LibC Go.Proofs.Ytngpfbcjmlpplaa.LibD
theorem apart_rows {w1 w2 : World} {b1 b2 e sz n m : Nat} {v1 v2 : Value} {xs ys : List Value} (h1 : w1.ownsRow b1 e sz v1 n xs) (h2 : w2.ownsRow b2 e sz v2 m ys) (h : w1.heap.size ≤ b2) : ∀ g, v1.ownBlock = some g → v2.ownBlock ≠ some g := by
  intro g hg hg2
  rcases h1.2 with ⟨rfl, _⟩ | ⟨g1, _, _, rfl, _, hh, _⟩
  · cases hg
  · rcases h2.2 with ⟨rfl, _⟩ | ⟨g2, _, _, rfl, hb, _⟩
    · cases hg2
    · simp [Value.ownBlock] at hg hg2
      subst hg hg2
      have := (Array.getElem?_eq_some_iff.1 hh).1
      omega
def FramePost2 (fn at_ : Int) (ls ss : List SlotD) (rs sp : List Int) (w : World) (e : Ending) (w' : World) : Prop :=
  (frE sp ls ss = 0 ∧ ∃ v1 v2, e = .returned (.tuple #[.agg #[.int .i64 fn, .int .i64 at_, v1, v2], .int .i64 0]) ∧ w'.ownsRow w.heap.size 43 2 v1 ls.length (flat valC (ls.map (slotV rs sp))) ∧ w'.ownsRow w.heap.size 43 2 v2 ss.length (flat valC (ss.map (slotV rs sp))) ∧ Below w.heap.size w w' ∧ (∀ g, v1.ownBlock = some g → v2.ownBlock ≠ some g)) ∨
  (frE sp ls ss = 250 ∧ e = .returned (.tuple #[.agg #[.int .i64 0, .int .i64 0, .slice none 0 0, .slice none 0 0], .int .i64 250]) ∧ Below w.heap.size w w')
set_option maxHeartbeats 1000000 in
theorem frame_calls2 (fn at_ : Int) (ls ss : List SlotD) (rs sp : List Int) (L S A : Option Addr) (lc sc c : Nat) (hr : rs.length = 16) (hl : ls.length * 24 ≤ 140737488351232) (hl2 : ss.length * 24 ≤ 140737488351232) (w : World) (hls : Els slotC 3 w L ls) (hss : Els slotC 3 w S ss) (hs : Ints w A sp) :
    Calls Try.prog 15 #[.agg #[.int .i64 fn, .int .i64 at_, .slice L ls.length lc, .slice S ss.length sc], .agg (regsC rs (.slice A sp.length c))] w (FramePost2 fn at_ ls ss rs sp w) := by
  go_enter Try.func15, Try.ntmps15
  go_wp2_with fail
  refine Calls.mono (vals_ok ls rs sp L A lc c (w.heap.size + 1 + 1 + 1 + 1) (w.heap.size + 1) hr hl _ (Els.below hls (by repeat (with_reducible first | assumption | exact Below.refl _ _ | refine bl_alloc ?_ _ | refine bl_drewN ?_ _ | refine bl_drew ?_ | refine bl_ext ?_ _ _ | refine bl_then0 ?_ (by assumption)))) (Ints.below hs (by repeat (with_reducible first | assumption | exact Below.refl _ _ | refine bl_alloc ?_ _ | refine bl_drewN ?_ _ | refine bl_drew ?_ | refine bl_ext ?_ _ _ | refine bl_then0 ?_ (by assumption)))) (by repeat (first | assumption | (refine heap_at _ _ _ ?_; (first | omega | (simp; done) | (simp; omega))) | (refine (heap_past _ _ ?_).trans ?_; focus (first | omega | (simp; done) | (simp; omega))) | (refine (ext_heap ?_).trans ?_; focus (first | omega | (simp; done) | (simp; omega))))) (fun hp a h => by have := els_lt hls h hp; (first | omega | (simp; omega))) (fun hp a h => by have := ints_lt hs h hp; (first | omega | (simp; omega))) (by simp) (by repeat (first | assumption | (refine heap_at _ _ _ ?_; (first | omega | (simp; done) | (simp; omega))) | (refine (heap_past _ _ ?_).trans ?_; focus (first | omega | (simp; done) | (simp; omega))) | (refine (ext_heap ?_).trans ?_; focus (first | omega | (simp; done) | (simp; omega)))))) ?_
  rintro e w1 ⟨v1, vs1, e1, rfl, ho1, he1, hE1, hV1, hg1⟩
  obtain ⟨l1, d1, rfl⟩ := ext_of_grown hg1 (by repeat (first | assumption | (refine heap_at _ _ _ ?_; (first | omega | (simp; done) | (simp; omega))) | (refine (heap_past _ _ ?_).trans ?_; focus (first | omega | (simp; done) | (simp; omega))) | (refine (ext_heap ?_).trans ?_; focus (first | omega | (simp; done) | (simp; omega))))) he1 _ (by repeat (first | (refine setRow_alloc_at _ _ _ _ ?_; (first | omega | (simp; done) | (simp; omega))) | (apply setRow_past'; focus (first | omega | (simp; done) | (simp; omega))) | (apply ext_setRow'; focus (first | omega | (simp; done) | (simp; omega))) | apply setRow_drewN'))
  clear hg1 he1
  obtain ⟨A1, c1, hv1, hc1, hn1, _⟩ := own_rows valC_len ho1
  subst hv1
  have HE1 := Lib.hid hE1
  have HV1 := Lib.hid hV1
  clear hE1 hV1
  by_cases h1 : e1 = 0
  · subst h1
    go_wp2_with fail
    refine Calls.mono (vals_ok ss rs sp S A sc c (w.heap.size + 1 + 1 + 1 + 1) (w.heap.size + 1) hr hl2 _ (Els.below hss (by repeat (with_reducible first | assumption | exact Below.refl _ _ | refine bl_alloc ?_ _ | refine bl_drewN ?_ _ | refine bl_drew ?_ | refine bl_ext ?_ _ _ | refine bl_then0 ?_ (by assumption)))) (Ints.below hs (by repeat (with_reducible first | assumption | exact Below.refl _ _ | refine bl_alloc ?_ _ | refine bl_drewN ?_ _ | refine bl_drew ?_ | refine bl_ext ?_ _ _ | refine bl_then0 ?_ (by assumption)))) (by repeat (first | assumption | (refine heap_at _ _ _ ?_; (first | omega | (simp; done) | (simp; omega))) | (refine (heap_past _ _ ?_).trans ?_; focus (first | omega | (simp; done) | (simp; omega))) | (refine (ext_heap ?_).trans ?_; focus (first | omega | (simp; done) | (simp; omega))))) (fun hp a h => by have := els_lt hss h hp; (first | omega | (simp; omega))) (fun hp a h => by have := ints_lt hs h hp; (first | omega | (simp; omega))) (by simp) (by repeat (first | assumption | (refine heap_at _ _ _ ?_; (first | omega | (simp; done) | (simp; omega))) | (refine (heap_past _ _ ?_).trans ?_; focus (first | omega | (simp; done) | (simp; omega))) | (refine (ext_heap ?_).trans ?_; focus (first | omega | (simp; done) | (simp; omega)))))) ?_
    rintro e w1 ⟨v2, vs2, e2, rfl, ho2, he2, hE2, hV2, hg2⟩
    obtain ⟨l2, d2, rfl⟩ := ext_of_grown hg2 (by repeat (first | assumption | (refine heap_at _ _ _ ?_; (first | omega | (simp; done) | (simp; omega))) | (refine (heap_past _ _ ?_).trans ?_; focus (first | omega | (simp; done) | (simp; omega))) | (refine (ext_heap ?_).trans ?_; focus (first | omega | (simp; done) | (simp; omega))))) he2 _ (by repeat (first | (refine setRow_alloc_at _ _ _ _ ?_; (first | omega | (simp; done) | (simp; omega))) | (apply setRow_past'; focus (first | omega | (simp; done) | (simp; omega))) | (apply ext_setRow'; focus (first | omega | (simp; done) | (simp; omega))) | apply setRow_drewN'))
    clear hg2 he2
    obtain ⟨A2, c2, hv2, hc2, hn2, _⟩ := own_rows valC_len ho2
    subst hv2
    have HE2 := Lib.hid hE2
    have HV2 := Lib.hid hV2
    clear hE2 hV2
    by_cases h2 : e2 = 0
    · subst h2
      go_wp2
      refine bodyPost_ret (results_ct rfl _ (w.heap.size + 1 + 1) 45 #[.int .i64 fn, .int .i64 at_, .slice A1 vs1.length c1, .slice A2 vs2.length c2] (0, 0) _ rfl ?_ Try.underlying45 rfl (by kernel_rfl)) rfl ?_
      · exact (by repeat (first | assumption | (refine heap_at _ _ _ ?_; (first | omega | (simp; done) | (simp; omega))) | (refine (heap_past _ _ ?_).trans ?_; focus (first | omega | (simp; done) | (simp; omega))) | (refine (ext_heap ?_).trans ?_; focus (first | omega | (simp; done) | (simp; omega)))))
      · have q1 := HV1.out (by simp)
        have q2 := HV2.out (by simp)
        have z1 : ls.length = vs1.length := by rw [q1]; simp
        have z2 : ss.length = vs2.length := by rw [q2]; simp
        rw [ext_ext] at ho2
        refine .inl ⟨by unfold frE; rw [← HE1.out, if_neg (by simp), ← HE2.out], .slice A1 vs1.length c1, .slice A2 vs2.length c2, rfl, ?_, ?_, (by repeat (with_reducible first | assumption | exact Below.refl _ _ | refine bl_alloc ?_ _ | refine bl_drewN ?_ _ | refine bl_drew ?_ | refine bl_ext ?_ _ _ | refine bl_then0 ?_ (by assumption))), ?_⟩
        · rw [← q1, z1]
          exact own_low (B := w.heap.size) (own_ext_app (own_swap ho1 (by simp) (by simp)) l2 _) (by simp; omega)
        · rw [← q2, z2]
          exact own_low (B := w.heap.size) (own_swap ho2 (by simp) (by simp)) (by simp; omega)
        · exact apart_rows ho1 ho2 (by simp)
    · have h2z : (e2 != 0) = true := by simpa using h2
      have e250 : e2 = 250 := HE2.out ▸ (errF_or sp ss).resolve_left (fun h => h2 (HE2.out.trans h))
      subst e250
      have HN2 := Lib.hid h2
      clear h2
      go_wp2
      go_region
      all_goals go_wp2
      refine bodyPost_ret (results_ct rfl _ (w.heap.size + 1 + 1) 45 #[.int .i64 0, .int .i64 0, .slice none 0 0, .slice none 0 0] (0, 0) _ rfl ?_ Try.underlying45 rfl (by kernel_rfl)) rfl ?_
      · exact (by repeat (first | assumption | (refine heap_at _ _ _ ?_; (first | omega | (simp; done) | (simp; omega))) | (refine (heap_past _ _ ?_).trans ?_; focus (first | omega | (simp; done) | (simp; omega))) | (refine (ext_heap ?_).trans ?_; focus (first | omega | (simp; done) | (simp; omega)))))
      · exact .inr ⟨(by unfold frE; rw [← HE1.out, if_neg (by simp)]; exact (errF_or sp ss).resolve_left (fun h => HN2.out (HE2.out.trans h))), rfl, (by repeat (with_reducible first | assumption | exact Below.refl _ _ | refine bl_alloc ?_ _ | refine bl_drewN ?_ _ | refine bl_drew ?_ | refine bl_ext ?_ _ _ | refine bl_then0 ?_ (by assumption)))⟩
  · have h2z : (e1 != 0) = true := by simpa using h1
    have e250 : e1 = 250 := HE1.out ▸ (errF_or sp ls).resolve_left (fun h => h1 (HE1.out.trans h))
    subst e250
    have HN1 := Lib.hid h1
    clear h1
    go_wp2_with fail
    refine Calls.mono (vals_err 0 sc S ss (w.heap.size + 1 + 1 + 1 + 1) (w.heap.size + 1) 250 (by omega) hl2 _ (Els.below hss (by repeat (with_reducible first | assumption | exact Below.refl _ _ | refine bl_alloc ?_ _ | refine bl_drewN ?_ _ | refine bl_drew ?_ | refine bl_ext ?_ _ _ | refine bl_then0 ?_ (by assumption)))) (by repeat (first | assumption | (refine heap_at _ _ _ ?_; (first | omega | (simp; done) | (simp; omega))) | (refine (heap_past _ _ ?_).trans ?_; focus (first | omega | (simp; done) | (simp; omega))) | (refine (ext_heap ?_).trans ?_; focus (first | omega | (simp; done) | (simp; omega)))))) ?_
    rintro e w1 ⟨rfl, hb2⟩
    obtain ⟨l2, d2, rfl⟩ := ext_of_below hb2
    clear hb2
    go_wp2
    go_region
    all_goals go_wp2
    refine bodyPost_ret (results_ct rfl _ (w.heap.size + 1 + 1) 45 #[.int .i64 0, .int .i64 0, .slice none 0 0, .slice none 0 0] (0, 0) _ rfl ?_ Try.underlying45 rfl (by kernel_rfl)) rfl ?_
    · exact (by repeat (first | assumption | (refine heap_at _ _ _ ?_; (first | omega | (simp; done) | (simp; omega))) | (refine (heap_past _ _ ?_).trans ?_; focus (first | omega | (simp; done) | (simp; omega))) | (refine (ext_heap ?_).trans ?_; focus (first | omega | (simp; done) | (simp; omega)))))
    · exact .inr ⟨(by unfold frE; rw [if_pos (by rw [← HE1.out]; exact HN1.out)]), rfl, (by repeat (with_reducible first | assumption | exact Below.refl _ _ | refine bl_alloc ?_ _ | refine bl_drewN ?_ _ | refine bl_drew ?_ | refine bl_ext ?_ _ _ | refine bl_then0 ?_ (by assumption)))⟩
end Go.Proofs.Ytngpfbcjmlpplaa.M
