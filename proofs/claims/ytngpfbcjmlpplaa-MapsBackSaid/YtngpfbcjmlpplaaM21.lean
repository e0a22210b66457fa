import Derived.Test.YtngpfbcjmlpplaaM20
import Derived.StillTailTactics
set_option linter.unusedVariables false
set_option linter.unusedSimpArgs false
namespace Go.Proofs.Ytngpfbcjmlpplaa.M
open Go.RowKit Go.Proofs.Ytngpfbcjmlpplaa.LibA Go.Proofs.Ytngpfbcjmlpplaa.LibB Go.Proofs.Ytngpfbcjmlpplaa.LibC Go.Proofs.Ytngpfbcjmlpplaa.LibD Go.Proofs.Ytngpfbcjmlpplaa.LibE Go.Proofs.Ytngpfbcjmlpplaa.LibF Go.Proofs.Ytngpfbcjmlpplaa.LibG
attribute [local go_sem] setRow_alloc_at setRow_alloc_past ext_setRow lt_r6 lt_r7 lt_r0 lt_r1 lt_r2 lt_r3 lt_r4 lt_r5
attribute [local go_sem ↓] Go.wp_at_zero Go.wp_at_succ ld27 ld24 st27 xbl27 xld27
set_option maxHeartbeats 1000000 in
theorem enter_no (cf ce ff fa csp : Int) (ci cx cc : Value) (es : List SlotD) (ls : List ValD) (E L S : Option Addr) (ec lc sl sc : Nat) (hel : es.length ≤ 9223372036854775807) (hll : ls.length ≤ 9223372036854775807) (hsl : sl ≤ 9223372036854775807) (w : World) (hes : Els slotC 3 w E es) (hls : Els valC 2 w L ls) (hno : fitsB cf ce ff fa sl es ls = false ∨ csp < 0 ∨ 4096 < csp) :
    Calls Try.prog 22 #[.agg #[.int .i64 cf, .int .i64 ce, ci, cx, cc, .slice E es.length ec, .int .i64 csp], .agg #[.int .i64 ff, .int .i64 fa, .slice L ls.length lc, .slice S sl sc]] w fun e w' => ∃ A c, e = .returned (.tuple #[.agg (regsC (entV (fitsB cf ce ff fa sl es ls) csp es ls).1 (.slice A (entV (fitsB cf ce ff fa sl es ls) csp es ls).2.length c)), .int .i64 (entE (fitsB cf ce ff fa sl es ls) csp es)]) ∧ Ints w' A (entV (fitsB cf ce ff fa sl es ls) csp es ls).2 ∧ Below w.heap.size w w' := by
  cases hf : fitsB cf ce ff fa sl es ls
  · rw [← hf]
    have hE : entE (fitsB cf ce ff fa sl es ls) csp es = 1 := by unfold entE; rw [if_pos hf]
    have hV : entV (fitsB cf ce ff fa sl es ls) csp es ls = (List.replicate 16 0, []) := by unfold entV; rw [hE]; rfl
    have HE := Lib.hid hE
    have HV := Lib.hid hV
    clear hE hV
    go_enter Try.func22, Try.ntmps22
    go_wp2_with (first | (go_at_call 24; (with_reducible refine Calls.mono (fits_calls cf ce ff fa _ ci cx cc es ls E L S ec lc sl sc hel hll hsl _ (Els.below hes (by repeat (with_reducible first | assumption | exact Below.refl _ _ | refine bl_alloc ?_ _ | refine bl_drewN ?_ _ | refine bl_drew ?_ | refine bl_ext ?_ _ _ | refine bl_then0 ?_ (by assumption)))) (Els.below hls (by repeat (with_reducible first | assumption | exact Below.refl _ _ | refine bl_alloc ?_ _ | refine bl_drewN ?_ _ | refine bl_drew ?_ | refine bl_ext ?_ _ _ | refine bl_then0 ?_ (by assumption))))) ?_); rintro e w1 ⟨rfl, hb1⟩; obtain ⟨l1, d1, rfl⟩ := ext_of_below hb1; clear hb1))
    refine bodyPost_ret (results_ct rfl _ (w.heap.size + 1 + 1) 27 (regsC (List.replicate 16 0) (.slice none 0 0)) (0, 0) _ rfl ?_ Try.underlying27 rfl (by kernel_rfl)) rfl ?_
    · exact (by repeat (first | assumption | (refine heap_at _ _ _ ?_; (first | omega | (simp; done) | (simp; omega))) | (refine (heap_past _ _ ?_).trans ?_; focus (first | omega | (simp; done) | (simp; omega))) | (refine (ext_heap ?_).trans ?_; focus (first | omega | (simp; done) | (simp; omega)))))
    · exact ⟨none, 0, by rw [HE.out, HV.out]; rfl, by rw [HV.out]; exact fun i hi => absurd hi (by simp), (by repeat (with_reducible first | assumption | exact Below.refl _ _ | refine bl_alloc ?_ _ | refine bl_drewN ?_ _ | refine bl_drew ?_ | refine bl_ext ?_ _ _ | refine bl_then0 ?_ (by assumption)))⟩
  · rcases hno with h | h | h
    · rw [h] at hf; cases hf
    · rw [← hf]
      have hE : entE (fitsB cf ce ff fa sl es ls) csp es = 250 := by unfold entE; rw [if_neg (by rw [hf]; simp), if_pos (by omega)]
      have hV : entV (fitsB cf ce ff fa sl es ls) csp es ls = (List.replicate 16 0, []) := by unfold entV; rw [hE]; rfl
      have HE := Lib.hid hE
      have HV := Lib.hid hV
      clear hE hV
      go_enter Try.func22, Try.ntmps22
      go_wp2_with (first | (go_at_call 24; (with_reducible refine Calls.mono (fits_calls cf ce ff fa _ ci cx cc es ls E L S ec lc sl sc hel hll hsl _ (Els.below hes (by repeat (with_reducible first | assumption | exact Below.refl _ _ | refine bl_alloc ?_ _ | refine bl_drewN ?_ _ | refine bl_drew ?_ | refine bl_ext ?_ _ _ | refine bl_then0 ?_ (by assumption)))) (Els.below hls (by repeat (with_reducible first | assumption | exact Below.refl _ _ | refine bl_alloc ?_ _ | refine bl_drewN ?_ _ | refine bl_drew ?_ | refine bl_ext ?_ _ _ | refine bl_then0 ?_ (by assumption))))) ?_); rintro e w1 ⟨rfl, hb1⟩; obtain ⟨l1, d1, rfl⟩ := ext_of_below hb1; clear hb1))
      refine bodyPost_ret (results_ct rfl _ (w.heap.size + 1 + 1) 27 (regsC (List.replicate 16 0) (.slice none 0 0)) (0, 0) _ rfl ?_ Try.underlying27 rfl (by kernel_rfl)) rfl ?_
      · exact (by repeat (first | assumption | (refine heap_at _ _ _ ?_; (first | omega | (simp; done) | (simp; omega))) | (refine (heap_past _ _ ?_).trans ?_; focus (first | omega | (simp; done) | (simp; omega))) | (refine (ext_heap ?_).trans ?_; focus (first | omega | (simp; done) | (simp; omega)))))
      · exact ⟨none, 0, by rw [HE.out, HV.out]; rfl, by rw [HV.out]; exact fun i hi => absurd hi (by simp), (by repeat (with_reducible first | assumption | exact Below.refl _ _ | refine bl_alloc ?_ _ | refine bl_drewN ?_ _ | refine bl_drew ?_ | refine bl_ext ?_ _ _ | refine bl_then0 ?_ (by assumption)))⟩
    · rw [← hf]
      have h2 : ¬ csp < 0 := by omega
      have hE : entE (fitsB cf ce ff fa sl es ls) csp es = 250 := by unfold entE; rw [if_neg (by rw [hf]; simp), if_pos (by omega)]
      have hV : entV (fitsB cf ce ff fa sl es ls) csp es ls = (List.replicate 16 0, []) := by unfold entV; rw [hE]; rfl
      have HE := Lib.hid hE
      have HV := Lib.hid hV
      clear hE hV
      go_enter Try.func22, Try.ntmps22
      go_wp2_with (first | (go_at_call 24; (with_reducible refine Calls.mono (fits_calls cf ce ff fa _ ci cx cc es ls E L S ec lc sl sc hel hll hsl _ (Els.below hes (by repeat (with_reducible first | assumption | exact Below.refl _ _ | refine bl_alloc ?_ _ | refine bl_drewN ?_ _ | refine bl_drew ?_ | refine bl_ext ?_ _ _ | refine bl_then0 ?_ (by assumption)))) (Els.below hls (by repeat (with_reducible first | assumption | exact Below.refl _ _ | refine bl_alloc ?_ _ | refine bl_drewN ?_ _ | refine bl_drew ?_ | refine bl_ext ?_ _ _ | refine bl_then0 ?_ (by assumption))))) ?_); rintro e w1 ⟨rfl, hb1⟩; obtain ⟨l1, d1, rfl⟩ := ext_of_below hb1; clear hb1))
      refine bodyPost_ret (results_ct rfl _ (w.heap.size + 1 + 1) 27 (regsC (List.replicate 16 0) (.slice none 0 0)) (0, 0) _ rfl ?_ Try.underlying27 rfl (by kernel_rfl)) rfl ?_
      · exact (by repeat (first | assumption | (refine heap_at _ _ _ ?_; (first | omega | (simp; done) | (simp; omega))) | (refine (heap_past _ _ ?_).trans ?_; focus (first | omega | (simp; done) | (simp; omega))) | (refine (ext_heap ?_).trans ?_; focus (first | omega | (simp; done) | (simp; omega)))))
      · exact ⟨none, 0, by rw [HE.out, HV.out]; rfl, by rw [HV.out]; exact fun i hi => absurd hi (by simp), (by repeat (with_reducible first | assumption | exact Below.refl _ _ | refine bl_alloc ?_ _ | refine bl_drewN ?_ _ | refine bl_drew ?_ | refine bl_ext ?_ _ _ | refine bl_then0 ?_ (by assumption)))⟩
end Go.Proofs.Ytngpfbcjmlpplaa.M
