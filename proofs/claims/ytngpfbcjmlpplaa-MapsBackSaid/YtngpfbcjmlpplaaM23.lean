import Derived.Test.YtngpfbcjmlpplaaM21
import Derived.StillTailTactics
import Derived.Outline
set_option linter.unusedVariables false
set_option linter.unusedSimpArgs false
namespace Go.Proofs.Ytngpfbcjmlpplaa.M
open Go.RowKit Go.Proofs.Ytngpfbcjmlpplaa.LibA Go.Proofs.Ytngpfbcjmlpplaa.LibB Go.Proofs.Ytngpfbcjmlpplaa.LibC Go.Proofs.Ytngpfbcjmlpplaa.LibD Go.Proofs.Ytngpfbcjmlpplaa.LibE Go.Proofs.Ytngpfbcjmlpplaa.LibF Go.Proofs.Ytngpfbcjmlpplaa.LibG
attribute [local go_sem] setRow_alloc_at setRow_alloc_past ext_setRow lt_r6 lt_r7 lt_r0 lt_r1 lt_r2 lt_r3 lt_r4 lt_r5
attribute [local go_sem ↓] Go.wp_at_zero Go.wp_at_succ ld27 ld24 st27 xbl27 xld27
theorem heap_ne3 {W : World} {o o' x y : Obj} {l l2 : List Obj} {d d' d2 d2' : Nat} (n : Nat) (hn : n ≠ W.heap.size) : ((ext ((ext (W.alloc o') l d').alloc x) l2 d2').alloc y).heap[n]? = ((ext ((ext (W.alloc o) l d).alloc x) l2 d2).alloc y).heap[n]? := by
  show (((((W.heap.push o') ++ l.toArray).push x) ++ l2.toArray).push y)[n]? = (((((W.heap.push o) ++ l.toArray).push x) ++ l2.toArray).push y)[n]?
  simp only [Array.getElem?_append, Array.getElem?_push, Array.size_push, Array.size_append]
  simp only [if_neg hn]
theorem heap_rowB {W : World} {C : Array Value} {m : Nat} {x y : Obj} {l : List Obj} {d d' : Nat} (n : Nat) (hn : n ≠ m) : (ext (((W.setRow m C).alloc x).alloc y) l d').heap[n]? = (ext ((W.alloc x).alloc y) l d).heap[n]? := by
  have hs : (W.setRow m C).heap.size = W.heap.size := by simp
  have hh : ∀ k, k ≠ m → (W.setRow m C).heap[k]? = W.heap[k]? := fun k hk => setRow_other W m k C hk
  show (((((W.setRow m C).heap.push x).push y) ++ l.toArray)[n]?) = ((((W.heap.push x).push y) ++ l.toArray)[n]?)
  simp only [Array.getElem?_append, Array.getElem?_push, Array.size_push, hs, hh n hn]
theorem ints_late {V V' : World} {l : List Obj} {d d' : Nat} {A : Option Addr} {xs : List Int} (h : Ints (ext V l d) A xs) (hA : ∀ a, A = some a → V.heap.size ≤ a.block) (hs : V'.heap.size = V.heap.size) : Ints (ext V' l d') A xs := fun i hi => by
  obtain ⟨b, off, e, hc⟩ := h i hi
  refine ⟨b, off, e, ?_⟩
  have hb := hA _ e
  refine (World.cell?_of_block (w := ext V l d) (a := ⟨b, off + i, none⟩) ?_).trans hc
  show (V'.heap ++ l.toArray)[b]? = (V.heap ++ l.toArray)[b]?
  rw [Array.getElem?_append_right (by rw [hs]; exact hb), Array.getElem?_append_right hb, hs]
theorem regs_beq (rs : List Int) (v : Value) (h : rs.length = 16) : ((regsC rs v).size == 17) = true := by rw [regsC_size _ _ h]; rfl
attribute [local go_sem] regs_beq
set_option maxHeartbeats 4000000 in
theorem renter_go (cf ce ff fa : Int) (N : Nat) (hN : N ≤ 4096) (ci cx cc : Value) (es : List SlotD) (ls : List ValD) (E L S : Option Addr) (ec lc sl sc : Nat) (hel : es.length ≤ 9223372036854775807) (hll : ls.length ≤ 9223372036854775807) (hsl : sl ≤ 9223372036854775807) (w : World) (hes : Els slotC 3 w E es) (hls : Els valC 2 w L ls) (hf : fitsB cf ce ff fa sl es ls = true) :
    Calls Try.prog 23 #[.agg #[.int .i64 cf, .int .i64 ce, ci, cx, cc, .slice E es.length ec, .int .i64 (N : Int)], .agg #[.int .i64 ff, .int .i64 fa, .slice L ls.length lc, .slice S sl sc]] w fun e w' => ∃ A c, e = .returned (.tuple #[.agg (regsC (entV (fitsB cf ce ff fa sl es ls) (N : Int) es ls).1 (.slice A (entV (fitsB cf ce ff fa sl es ls) (N : Int) es ls).2.length c)), .int .i64 (entE (fitsB cf ce ff fa sl es ls) (N : Int) es)]) ∧ Ints w' A (entV (fitsB cf ce ff fa sl es ls) (N : Int) es ls).2 ∧ Below w.heap.size w w' := by
  have hfl : ls.length = es.length := by simp [fitsB] at hf; omega
  have HF := Lib.hid hf
  have HL := Lib.hid hfl
  clear hfl
  have hmk := make_nums N hN
  go_enter Try.func23, Try.ntmps23
  go_wp2_with (first | (go_at_call 25; (with_reducible refine Calls.mono (rfits_calls cf ce ff fa _ ci cx cc es ls E L S ec lc sl sc hel hll hsl _ (Els.below hes (by repeat (with_reducible first | assumption | exact Below.refl _ _ | refine bl_alloc ?_ _ | refine bl_drewN ?_ _ | refine bl_drew ?_ | refine bl_ext ?_ _ _ | refine bl_then0 ?_ (by assumption)))) (Els.below hls (by repeat (with_reducible first | assumption | exact Below.refl _ _ | refine bl_alloc ?_ _ | refine bl_drewN ?_ _ | refine bl_drew ?_ | refine bl_ext ?_ _ _ | refine bl_then0 ?_ (by assumption))))) ?_); rintro e w1 ⟨rfl, hb1⟩; obtain ⟨l1, d1, rfl⟩ := ext_of_below hb1; clear hb1; generalize hW : ext _ l1 d1 = W0; have hB : Below w.heap.size w W0 := (by (rw [← hW]; exact (by repeat (with_reducible first | assumption | exact Below.refl _ _ | refine bl_alloc ?_ _ | refine bl_drewN ?_ _ | refine bl_drew ?_ | refine bl_ext ?_ _ _ | refine bl_then0 ?_ (by assumption))))); have b0 : W0.heap[w.heap.size]? = some (.cells #[.int .i64 cf, .int .i64 ce, ci, cx, cc, .slice E es.length ec, .int .i64 (N : Int)] 62 (0, 0)) := (by (rw [← hW]; exact (by repeat (first | assumption | (refine heap_at _ _ _ ?_; (first | omega | (simp; done) | (simp; omega))) | (refine (heap_past _ _ ?_).trans ?_; focus (first | omega | (simp; done) | (simp; omega))) | (refine (ext_heap ?_).trans ?_; focus (first | omega | (simp; done) | (simp; omega))))))); have b1 : W0.heap[w.heap.size + 1]? = some (.cells #[.int .i64 ff, .int .i64 fa, .slice L ls.length lc, .slice S sl sc] 45 (0, 0)) := (by (rw [← hW]; exact (by repeat (first | assumption | (refine heap_at _ _ _ ?_; (first | omega | (simp; done) | (simp; omega))) | (refine (heap_past _ _ ?_).trans ?_; focus (first | omega | (simp; done) | (simp; omega))) | (refine (ext_heap ?_).trans ?_; focus (first | omega | (simp; done) | (simp; omega))))))); have b2 : W0.heap[w.heap.size + 1 + 1]? = some (.cells (regsC (List.replicate 16 0) (.slice none 0 0)) 27 (0, 0)) := (by (rw [← hW, regsC_zero]; exact (by repeat (first | assumption | (refine heap_at _ _ _ ?_; (first | omega | (simp; done) | (simp; omega))) | (refine (heap_past _ _ ?_).trans ?_; focus (first | omega | (simp; done) | (simp; omega))) | (refine (ext_heap ?_).trans ?_; focus (first | omega | (simp; done) | (simp; omega))))))); clear hW; have B0 := Lib.hid b0; have B1 := Lib.hid b1; have B2 := Lib.hid b2; have c05 : W0.cell? ⟨w.heap.size, 5, none⟩ = some (.slice E es.length ec) := (cell_of_row W0 _ 5 _ _ _ b0); have c06 : W0.cell? ⟨w.heap.size, 6, none⟩ = some (.int .i64 (N : Int)) := (cell_of_row W0 _ 6 _ _ _ b0); have c12 : W0.cell? ⟨w.heap.size + 1, 2, none⟩ = some (.slice L ls.length lc) := (cell_of_row W0 _ 2 _ _ _ b1); have z2 : w.heap.size + 1 + 1 < W0.heap.size := (Array.getElem?_eq_some_iff.1 b2).1; have Z2 := Lib.hid z2; clear b0 b1 b2; have f0 : w.heap.size < W0.heap.size := (by omega); obtain ⟨f1, f2, f3, f4, f5, f6, f7⟩ := lt_all f0; have g0 : w.heap.size + 1 < W0.heap.size := (by omega); obtain ⟨g1, g2, g3, g4, g5, g6, g7⟩ := lt_all g0; have h0 : w.heap.size + 1 + 1 < W0.heap.size := (by omega); obtain ⟨h1, h2, h3, h4, h5, h6, h7⟩ := lt_all h0; clear z2))
  clear hmk
  go_loopw [7] (fun v wr => ∃ (k : Nat) (rs sp : List Int) (A : Option Addr) (c : Nat), k ≤ es.length ∧ v = .int .i64 k ∧ rs.length = 16 ∧ Hid (sp.length = N) ∧ Hid (entK es ls N k = (rs, sp)) ∧ Hid (∀ j, j < k → ∀ h : j < es.length, entBad N es[j] = false) ∧ Hid (Ints wr A sp) ∧ Hid (∀ a, A = some a → W0.heap.size ≤ a.block ∧ a.block ≠ W0.heap.size + 1) ∧ ∃ l d, wr = ext ((W0.alloc (.cells (numsI (List.replicate N 0)).toArray 2)).alloc (.cells (regsC rs (.slice A sp.length c)) 27)) l d) (fun v _ => es.length - (intOf v).toNat)
  case atStart =>
    refine ⟨0, List.replicate 16 0, List.replicate N 0, some ⟨W0.heap.size, 0, none⟩, N, Nat.zero_le _, rfl, rfl, Lib.hid (by simp), rfl, Lib.hid (fun j hj => absurd hj (Nat.not_lt_zero _)), ?_, ?_, ?_⟩
    · have := ints_row (w := (W0.alloc (.cells (numsI (List.replicate N 0)).toArray 2)).alloc (.cells (regsC (List.replicate 16 0) (.slice (some ⟨W0.heap.size, 0, none⟩) N N)) 27)) W0.heap.size (xs := List.replicate N 0) (Z := #[]) (t := 2) (by rw [Array.append_empty]; exact (heap_past _ _ (by simp)).trans (heap_at _ _ _ rfl))
      exact this
    · refine Lib.hid (fun a ha => ?_)
      cases ha
      show W0.heap.size ≤ W0.heap.size ∧ W0.heap.size ≠ W0.heap.size + 1
      omega
    · exact ⟨[], _, by rw [List.length_replicate]; exact (ext_nil _).symm⟩
  case round =>
    obtain ⟨k, rs, sp, A, c, hk, rfl, hr, HSL, HK, HJ, HI, HT, l, d, rfl⟩ := hrel
    by_cases hlt : k < es.length
    · obtain ⟨b, off, ka, lk, ln, hE, hbl, c0, c1, c2, hx⟩ := els_slot hes k hlt
      obtain ⟨bb, off2, va, vn, hL, hbl2, e0, e1, hy⟩ := els_val hls k (by have := HL.out; omega)
      subst hE hL
      have hlt2 : (k : Int) < (ls.length : Int) := by have := HL.out; omega
      have hWs := hB.size
      have z2 := Z2.out
      have q2 := (isRw_of (k := 17) B2.out (regsC_size _ _ rfl)).1
      have d0 := cell_b hB c0
      have d1 := cell_b hB c1
      have d2 := cell_b hB c2
      have d3 := cell_b hB e0
      have d4 := cell_b hB e1
      have y1 : b < W0.heap.size := by omega
      have y2 : bb < W0.heap.size := by omega
      obtain ⟨p1, p2, p3, p4, p5, p6, p7⟩ := lt_all y1
      obtain ⟨s1, s2, s3, s4, s5, s6, s7⟩ := lt_all y2
      clear c0 c1 c2 e0 e1 hbl hbl2 hWs
      have uf0 : w.heap.size + 1 + 1 < W0.heap.size + 1 + 1 + l.length := by omega
      have uf1 : w.heap.size + 1 + 1 < W0.heap.size + 1 + 1 + l.length + 1 := by omega
      have ua0 : bb < W0.heap.size + 1 + 1 + l.length := by omega
      have ua1 : bb < W0.heap.size + 1 + 1 + l.length + 1 := by omega
      have ub0 : w.heap.size + 1 < W0.heap.size + 1 + 1 + l.length := by omega
      have ub1 : w.heap.size + 1 < W0.heap.size + 1 + 1 + l.length + 1 := by omega
      have uc0 : w.heap.size < W0.heap.size + 1 + 1 + l.length := by omega
      have uc1 : w.heap.size < W0.heap.size + 1 + 1 + l.length + 1 := by omega
      have ud0 : b < W0.heap.size + 1 + 1 + l.length := by omega
      have ud1 : b < W0.heap.size + 1 + 1 + l.length + 1 := by omega
      have ue0 : W0.heap.size + 1 < W0.heap.size + 1 + 1 + l.length := by omega
      have ue1 : W0.heap.size + 1 < W0.heap.size + 1 + 1 + l.length + 1 := by omega
      have hz0 : isAggN (.agg #[.int .i64 0, .int .i64 0, .int .i64 0, .int .i64 0, .int .i64 0, .int .i64 0, .int .i64 0, .int .i64 0, .int .i64 0, .int .i64 0, .int .i64 0, .int .i64 0, .int .i64 0, .int .i64 0, .int .i64 0, .int .i64 0, .slice none 0 0]) 17 = true := by rw [← regsC_zero]; exact isAggN_regs _ _ _ _ rfl
      clear z2
      have hr2 : (putR lk ln vn rs).length = 16 := by rw [putR_length, hr]
      by_cases h0 : ka = 0
      · have g0' : (ka == 0) = true := by simpa using h0
        have H0 := Lib.hid h0
        clear h0
        go_wp2
        go_roundw
        case rel =>
          refine ⟨k + 1, rs, sp, A, c, by omega, by go_num, hr, HSL, Lib.hid ?_, Lib.hid ?_, Lib.hid (Ints.below HI.out (by repeat (with_reducible first | assumption | exact Below.refl _ _ | refine bl_alloc ?_ _ | refine bl_drewN ?_ _ | refine bl_drew ?_ | refine bl_ext ?_ _ _ | refine bl_then0 ?_ (by assumption)))), HT, ext_of_below (by repeat (with_reducible first | assumption | exact Below.refl _ _ | refine bl_alloc ?_ _ | refine bl_drewN ?_ _ | refine bl_drew ?_ | refine bl_ext ?_ _ _ | refine bl_then0 ?_ (by assumption)))⟩
          · rw [entK_succ hlt (by have := HL.out; omega) hx.out hy.out HK.out]
            unfold entStep
            rw [if_pos (by simp [H0.out])]
          · intro j hj hjl
            rcases (by omega : j < k ∨ j = k) with h | rfl
            · exact HJ.out j h hjl
            · rw [hx.out]
              simp [entBad, H0.out]
        case measure => simp [intOf]; omega
      · by_cases h1 : lk = 0
        · have g0' : (ka == 0) = false := by simpa using h0
          have g1' : (lk == 0) = true := by simpa using h1
          have H0 := Lib.hid h1
          clear h0 h1
          go_wp2
          go_roundw
          case rel =>
            refine ⟨k + 1, rs, sp, A, c, by omega, by go_num, hr, HSL, Lib.hid ?_, Lib.hid ?_, Lib.hid (Ints.below HI.out (by repeat (with_reducible first | assumption | exact Below.refl _ _ | refine bl_alloc ?_ _ | refine bl_drewN ?_ _ | refine bl_drew ?_ | refine bl_ext ?_ _ _ | refine bl_then0 ?_ (by assumption)))), HT, ext_of_below (by repeat (with_reducible first | assumption | exact Below.refl _ _ | refine bl_alloc ?_ _ | refine bl_drewN ?_ _ | refine bl_drew ?_ | refine bl_ext ?_ _ _ | refine bl_then0 ?_ (by assumption)))⟩
            · rw [entK_succ hlt (by have := HL.out; omega) hx.out hy.out HK.out]
              unfold entStep
              rw [if_pos (by simp [H0.out])]
            · intro j hj hjl
              rcases (by omega : j < k ∨ j = k) with h | rfl
              · exact HJ.out j h hjl
              · rw [hx.out]
                simp [entBad, H0.out]
          case measure => simp [intOf]; omega
        · have g0' : (ka == 0) = false := by simpa using h0
          have g1' : (lk == 0) = false := by simpa using h1
          have H0 := Lib.hid h0
          have H1 := Lib.hid h1
          clear h0 h1
          go_wp2
          cases hb : liesB lk ln sp.length
          · refine wp_region_held_drew (S := (fun w' => w'.cell? ⟨W0.heap.size + 1 + 1 + l.length, 1, none⟩ = some (.int .i64 lk) ∧ w'.cell? ⟨W0.heap.size + 1 + 1 + l.length, 2, none⟩ = some (.int .i64 ln) ∧ w'.cell? ⟨w.heap.size + 1, 2, none⟩ = some (.slice (some ⟨bb, off2, none⟩) ls.length lc) ∧ w'.cell? ⟨bb, off2 + k * 2 + 1, none⟩ = some (.int .i64 vn) ∧ isRw w' (W0.heap.size + 1) 17 = true ∧ rwAt w' (W0.heap.size + 1) = regsC rs (.slice A sp.length c))) (by kernel_rfl) ?_ (fun hHeld => ?_)
            · refine ⟨?_, ?_, ?_, ?_, ?_, ?_⟩ <;> first | assumption | (go_simp; done)
            refine wpAnyH_take (i := 0) (v := ?vq1x) rfl (by kernel_rfl) (by kernel_rfl) (by kernel_rfl) (fun _ _ _ h => h) (Or.inl ⟨by rfl, ?yq1x⟩) (by assumption) ?rq1x
            case yq1x =>
              intro w' hSw
              (try dsimp only at hSw)
              go_simp
              all_goals (try with_reducible rfl)
            try simp only [List.getElem_toArray, List.getElem_cons_zero, List.getElem_cons_succ, Act.put, List.setIfInBounds_toArray, List.set_cons_zero, List.set_cons_succ]
            refine wpAnyH_take (i := 1) (v := ?vq2x) rfl (by kernel_rfl) (by kernel_rfl) (by kernel_rfl) (fun _ _ _ h => h) (Or.inl ⟨by rfl, ?yq2x⟩) (by assumption) ?rq2x
            case yq2x =>
              intro w' hSw
              (try dsimp only at hSw)
              go_simp
              all_goals (try with_reducible rfl)
            try simp only [List.getElem_toArray, List.getElem_cons_zero, List.getElem_cons_succ, Act.put, List.setIfInBounds_toArray, List.set_cons_zero, List.set_cons_succ]
            refine wpAnyH_take (i := 2) (v := ?vq3x) rfl (by kernel_rfl) (by kernel_rfl) (by kernel_rfl) (fun _ _ _ h => h) (Or.inl ⟨by rfl, ?yq3x⟩) (by assumption) ?rq3x
            case yq3x =>
              intro w' hSw
              (try dsimp only at hSw)
              go_simp
              all_goals (try with_reducible rfl)
            try simp only [List.getElem_toArray, List.getElem_cons_zero, List.getElem_cons_succ, Act.put, List.setIfInBounds_toArray, List.set_cons_zero, List.set_cons_succ]
            refine wpAnyH_take (i := 3) (v := ?vq4x) rfl (by kernel_rfl) (by kernel_rfl) (by kernel_rfl) (fun _ _ _ h => h) (Or.inl ⟨by rfl, ?yq4x⟩) (by assumption) ?rq4x
            case yq4x =>
              intro w' hSw
              (try dsimp only at hSw)
              go_simp
              all_goals (try with_reducible rfl)
            try simp only [List.getElem_toArray, List.getElem_cons_zero, List.getElem_cons_succ, Act.put, List.setIfInBounds_toArray, List.set_cons_zero, List.set_cons_succ]
            refine wpAnyH_take (i := 4) (v := ?vq5x) rfl (by kernel_rfl) (by kernel_rfl) (by kernel_rfl) (fun _ _ _ h => h) (Or.inl ⟨by rfl, ?yq5x⟩) (by assumption) ?rq5x
            case yq5x =>
              intro w' hSw
              (try dsimp only at hSw)
              go_simp
              all_goals (try with_reducible rfl)
            try simp only [List.getElem_toArray, List.getElem_cons_zero, List.getElem_cons_succ, Act.put, List.setIfInBounds_toArray, List.set_cons_zero, List.set_cons_succ]
            refine wpAnyH_take (i := 5) (v := ?vq6x) rfl (by kernel_rfl) (by kernel_rfl) (by kernel_rfl) (fun _ _ _ h => h) (Or.inl ⟨by rfl, ?yq6x⟩) (by assumption) ?rq6x
            case yq6x =>
              intro w' hSw
              (try dsimp only at hSw)
              go_simp
              all_goals (try with_reducible rfl)
            try simp only [List.getElem_toArray, List.getElem_cons_zero, List.getElem_cons_succ, Act.put, List.setIfInBounds_toArray, List.set_cons_zero, List.set_cons_succ]
            refine wpAnyH_take (i := 6) (v := ?vq7x) rfl (by kernel_rfl) (by kernel_rfl) (by kernel_rfl) (fun _ _ _ h => h) (Or.inl ⟨by rfl, ?yq7x⟩) (by assumption) ?rq7x
            case yq7x =>
              intro w' hSw
              (try dsimp only at hSw)
              go_simp
              all_goals (try with_reducible rfl)
            try simp only [List.getElem_toArray, List.getElem_cons_zero, List.getElem_cons_succ, Act.put, List.setIfInBounds_toArray, List.set_cons_zero, List.set_cons_succ]
            refine wpAnyH_take (i := 7) (v := ?vq8x) rfl (by kernel_rfl) (by kernel_rfl) (by kernel_rfl) (fun _ _ _ h => h) (Or.inl ⟨by rfl, ?yq8x⟩) (by assumption) ?rq8x
            case yq8x =>
              intro w' hSw
              (try dsimp only at hSw)
              go_simp
              all_goals (try with_reducible rfl)
            try simp only [List.getElem_toArray, List.getElem_cons_zero, List.getElem_cons_succ, Act.put, List.setIfInBounds_toArray, List.set_cons_zero, List.set_cons_succ]
            refine wpAnyH_take (i := 8) (v := .agg (regsC rs (.slice A sp.length c))) rfl (by kernel_rfl) (by kernel_rfl) (by kernel_rfl) (fun _ _ _ h => h) (Or.inl ⟨by rfl, ?yq9x⟩) (by assumption) ?rq9x
            case yq9x =>
              intro w' hSw
              exact (xld27 rfl hSw.2.2.2.2.1).trans (by show Result.ok (Next.value (.agg (rwAt w' (W0.heap.size + 1)))) w' = _; rw [hSw.2.2.2.2.2])
            try simp only [List.getElem_toArray, List.getElem_cons_zero, List.getElem_cons_succ, Act.put, List.setIfInBounds_toArray, List.set_cons_zero, List.set_cons_succ]
            refine wpAnyH_ready (rs := [9, 13]) (by kernel_rfl) (by simp) (AllReadyH.cons rfl (fun K hK => ?_) (AllReadyH.cons rfl (fun K hK => ?_) AllReadyH.nil))
            · go_simp
              go_wp2_with (go_at_call 12; (with_reducible refine Calls.mono (rput_no lk ln vn rs sp A c hr (by have := HSL.out; omega) _ (Ints.below HI.out (by repeat (with_reducible first | assumption | exact Below.refl _ _ | refine bl_alloc ?_ _ | refine bl_drewN ?_ _ | refine bl_drew ?_ | refine bl_ext ?_ _ _ | refine bl_then0 ?_ (by assumption)))) hb) ?_); rintro e w1 ⟨rfl, hb1⟩; obtain ⟨l2, d2, rfl⟩ := ext_of_below hb1; clear hb1)
              clear hHeld
              refine hK.out _ _ ?_ (fun hHeld => ?_)
              · refine ⟨?_, ?_, ?_, ?_, ?_, ?_⟩ <;> first | assumption | (go_simp; done)
              clear hK K
              try simp only [List.getElem_toArray, List.getElem_cons_zero, List.getElem_cons_succ, Act.put, List.setIfInBounds_toArray, List.set_cons_zero, List.set_cons_succ]
              refine wpAnyH_take (i := 10) (v := ?vq10x) rfl (by kernel_rfl) (by kernel_rfl) (by kernel_rfl) (fun _ _ _ h => h) (Or.inl ⟨by rfl, ?yq10x⟩) (by assumption) ?rq10x
              case yq10x =>
                intro w' hSw
                (try dsimp only at hSw)
                go_simp
                all_goals (try with_reducible rfl)
              try simp only [List.getElem_toArray, List.getElem_cons_zero, List.getElem_cons_succ, Act.put, List.setIfInBounds_toArray, List.set_cons_zero, List.set_cons_succ]
              refine wpAnyH_take (i := 11) (v := ?vq11x) rfl (by kernel_rfl) (by kernel_rfl) (by kernel_rfl) (fun _ _ _ h => h) (Or.inl ⟨by rfl, ?yq11x⟩) (by assumption) ?rq11x
              case yq11x =>
                intro w' hSw
                (try dsimp only at hSw)
                go_simp
                all_goals (try with_reducible rfl)
              try simp only [List.getElem_toArray, List.getElem_cons_zero, List.getElem_cons_succ, Act.put, List.setIfInBounds_toArray, List.set_cons_zero, List.set_cons_succ]
              refine wpAnyH_take (i := 12) (v := ?vq12x) rfl (by kernel_rfl) (by kernel_rfl) (by kernel_rfl) (fun _ _ _ h => h) (Or.inl ⟨by rfl, ?yq12x⟩) (by assumption) ?rq12x
              case yq12x =>
                intro w' hSw
                (try dsimp only at hSw)
                go_simp
                all_goals (try with_reducible rfl)
              try simp only [List.getElem_toArray, List.getElem_cons_zero, List.getElem_cons_succ, Act.put, List.setIfInBounds_toArray, List.set_cons_zero, List.set_cons_succ]
              refine wpAnyH_ready (rs := [13]) (by kernel_rfl) (by simp) (AllReadyH.cons rfl (fun K hK => ?_) AllReadyH.nil)
              go_simp
              clear hHeld
              refine hK.out _ _ ?_ (fun hHeld => ?_)
              · refine ⟨?_, ?_, ?_, ?_, ?_, ?_⟩ <;> first | assumption | (go_simp; done)
              clear hK K
              try simp only [List.getElem_toArray, List.getElem_cons_zero, List.getElem_cons_succ, Act.put, List.setIfInBounds_toArray, List.set_cons_zero, List.set_cons_succ]
              refine wpAnyH_ready (rs := [14]) (by kernel_rfl) (by simp) (AllReadyH.cons rfl (fun K hK => ?_) AllReadyH.nil)
              go_simp
              clear hHeld
              refine hK.out _ _ ?_ (fun hHeld => ?_)
              · refine ⟨?_, ?_, ?_, ?_, ?_, ?_⟩ <;> first | assumption | (go_simp; done)
              clear hK K
              try simp only [List.getElem_toArray, List.getElem_cons_zero, List.getElem_cons_succ, Act.put, List.setIfInBounds_toArray, List.set_cons_zero, List.set_cons_succ]
              refine wpAnyH_take (i := 15) (v := ?vq13x) rfl (by kernel_rfl) (by kernel_rfl) (by kernel_rfl) (fun _ _ _ h => h) (Or.inl ⟨by rfl, ?yq13x⟩) (by assumption) ?rq13x
              case yq13x =>
                intro w' hSw
                (try dsimp only at hSw)
                go_simp
                all_goals (try with_reducible rfl)
              try simp only [List.getElem_toArray, List.getElem_cons_zero, List.getElem_cons_succ, Act.put, List.setIfInBounds_toArray, List.set_cons_zero, List.set_cons_succ]
              refine wpAnyH_done (by kernel_rfl) ?_ _
              have vf00 : w.heap.size + 1 + 1 < W0.heap.size + 1 + 1 + l.length + 1 + l2.length := by omega
              have vf01 : w.heap.size + 1 + 1 < W0.heap.size + 1 + 1 + l.length + 1 + l2.length + 1 := by omega
              have vf10 : w.heap.size + 1 + 1 < W0.heap.size + 1 + 1 + l.length + 1 + 1 + l2.length := by omega
              have vf11 : w.heap.size + 1 + 1 < W0.heap.size + 1 + 1 + l.length + 1 + 1 + l2.length + 1 := by omega
              have ve00 : W0.heap.size + 1 < W0.heap.size + 1 + 1 + l.length + 1 + l2.length := by omega
              have ve01 : W0.heap.size + 1 < W0.heap.size + 1 + 1 + l.length + 1 + l2.length + 1 := by omega
              have ve10 : W0.heap.size + 1 < W0.heap.size + 1 + 1 + l.length + 1 + 1 + l2.length := by omega
              have ve11 : W0.heap.size + 1 < W0.heap.size + 1 + 1 + l.length + 1 + 1 + l2.length + 1 := by omega
              go_wp2
              refine bodyPost_ret (results_ct rfl _ (w.heap.size + 1 + 1) 27 (regsC (List.replicate 16 0) (.slice none 0 0)) (0, 0) _ rfl ?_ Try.underlying27 rfl (by kernel_rfl)) rfl ?_
              · exact (by repeat (first | assumption | exact setRow_heap _ _ _ _ _ (0, 0) B2.out | (refine heap_at _ _ _ ?_; (first | omega | (simp; done) | (simp; omega))) | (refine (heap_past _ _ ?_).trans ?_; focus (first | omega | (simp; done) | (simp; omega))) | (refine (ext_heap ?_).trans ?_; focus (first | omega | (simp; done) | (simp; omega)))))
              · have hE : entE (fitsB cf ce ff fa sl es ls) (N : Int) es = 250 := by
                  unfold entE
                  rw [HF.out, if_neg (by simp), if_neg (by omega), if_pos (entAny_yes hlt hx.out (by
                    have h3 : liesB lk ln (N : Int) = false := by rw [← HSL.out]; exact hb
                    simp [entBad, H0.out, H1.out, h3]))]
                have hV : entV (fitsB cf ce ff fa sl es ls) (N : Int) es ls = (List.replicate 16 0, []) := by unfold entV; rw [hE]; rfl
                exact ⟨none, 0, by rw [hE, hV]; rfl, by rw [hV]; exact fun i hi => absurd hi (by simp), (by repeat (with_reducible first | assumption | exact Below.refl _ _ | refine below_setRow ?_ (by omega) _ | refine bl_alloc ?_ _ | refine bl_drewN ?_ _ | refine bl_drew ?_ | refine bl_ext ?_ _ _ | refine bl_then0 ?_ (by assumption)))⟩
            · go_simp
              clear hHeld
              refine hK.out _ _ ?_ (fun hHeld => ?_)
              · refine ⟨?_, ?_, ?_, ?_, ?_, ?_⟩ <;> first | assumption | (go_simp; done)
              clear hK K
              try simp only [List.getElem_toArray, List.getElem_cons_zero, List.getElem_cons_succ, Act.put, List.setIfInBounds_toArray, List.set_cons_zero, List.set_cons_succ]
              refine wpAnyH_ready (rs := [9]) (by kernel_rfl) (by simp) (AllReadyH.cons rfl (fun K hK => ?_) AllReadyH.nil)
              go_simp
              go_wp2_with (go_at_call 12; (with_reducible refine Calls.mono (rput_no lk ln vn rs sp A c hr (by have := HSL.out; omega) _ (Ints.below HI.out (by repeat (with_reducible first | assumption | exact Below.refl _ _ | refine bl_alloc ?_ _ | refine bl_drewN ?_ _ | refine bl_drew ?_ | refine bl_ext ?_ _ _ | refine bl_then0 ?_ (by assumption)))) hb) ?_); rintro e w1 ⟨rfl, hb1⟩; obtain ⟨l2, d2, rfl⟩ := ext_of_below hb1; clear hb1)
              clear hHeld
              refine hK.out _ _ ?_ (fun hHeld => ?_)
              · refine ⟨?_, ?_, ?_, ?_, ?_, ?_⟩ <;> first | assumption | (go_simp; done)
              clear hK K
              try simp only [List.getElem_toArray, List.getElem_cons_zero, List.getElem_cons_succ, Act.put, List.setIfInBounds_toArray, List.set_cons_zero, List.set_cons_succ]
              refine wpAnyH_take (i := 10) (v := ?vq14x) rfl (by kernel_rfl) (by kernel_rfl) (by kernel_rfl) (fun _ _ _ h => h) (Or.inl ⟨by rfl, ?yq14x⟩) (by assumption) ?rq14x
              case yq14x =>
                intro w' hSw
                (try dsimp only at hSw)
                go_simp
                all_goals (try with_reducible rfl)
              try simp only [List.getElem_toArray, List.getElem_cons_zero, List.getElem_cons_succ, Act.put, List.setIfInBounds_toArray, List.set_cons_zero, List.set_cons_succ]
              refine wpAnyH_take (i := 11) (v := ?vq15x) rfl (by kernel_rfl) (by kernel_rfl) (by kernel_rfl) (fun _ _ _ h => h) (Or.inl ⟨by rfl, ?yq15x⟩) (by assumption) ?rq15x
              case yq15x =>
                intro w' hSw
                (try dsimp only at hSw)
                go_simp
                all_goals (try with_reducible rfl)
              try simp only [List.getElem_toArray, List.getElem_cons_zero, List.getElem_cons_succ, Act.put, List.setIfInBounds_toArray, List.set_cons_zero, List.set_cons_succ]
              refine wpAnyH_take (i := 12) (v := ?vq16x) rfl (by kernel_rfl) (by kernel_rfl) (by kernel_rfl) (fun _ _ _ h => h) (Or.inl ⟨by rfl, ?yq16x⟩) (by assumption) ?rq16x
              case yq16x =>
                intro w' hSw
                (try dsimp only at hSw)
                go_simp
                all_goals (try with_reducible rfl)
              try simp only [List.getElem_toArray, List.getElem_cons_zero, List.getElem_cons_succ, Act.put, List.setIfInBounds_toArray, List.set_cons_zero, List.set_cons_succ]
              refine wpAnyH_ready (rs := [14]) (by kernel_rfl) (by simp) (AllReadyH.cons rfl (fun K hK => ?_) AllReadyH.nil)
              go_simp
              clear hHeld
              refine hK.out _ _ ?_ (fun hHeld => ?_)
              · refine ⟨?_, ?_, ?_, ?_, ?_, ?_⟩ <;> first | assumption | (go_simp; done)
              clear hK K
              try simp only [List.getElem_toArray, List.getElem_cons_zero, List.getElem_cons_succ, Act.put, List.setIfInBounds_toArray, List.set_cons_zero, List.set_cons_succ]
              refine wpAnyH_take (i := 15) (v := ?vq17x) rfl (by kernel_rfl) (by kernel_rfl) (by kernel_rfl) (fun _ _ _ h => h) (Or.inl ⟨by rfl, ?yq17x⟩) (by assumption) ?rq17x
              case yq17x =>
                intro w' hSw
                (try dsimp only at hSw)
                go_simp
                all_goals (try with_reducible rfl)
              try simp only [List.getElem_toArray, List.getElem_cons_zero, List.getElem_cons_succ, Act.put, List.setIfInBounds_toArray, List.set_cons_zero, List.set_cons_succ]
              refine wpAnyH_done (by kernel_rfl) ?_ _
              have vf00 : w.heap.size + 1 + 1 < W0.heap.size + 1 + 1 + l.length + 1 + l2.length := by omega
              have vf01 : w.heap.size + 1 + 1 < W0.heap.size + 1 + 1 + l.length + 1 + l2.length + 1 := by omega
              have vf10 : w.heap.size + 1 + 1 < W0.heap.size + 1 + 1 + l.length + 1 + 1 + l2.length := by omega
              have vf11 : w.heap.size + 1 + 1 < W0.heap.size + 1 + 1 + l.length + 1 + 1 + l2.length + 1 := by omega
              have ve00 : W0.heap.size + 1 < W0.heap.size + 1 + 1 + l.length + 1 + l2.length := by omega
              have ve01 : W0.heap.size + 1 < W0.heap.size + 1 + 1 + l.length + 1 + l2.length + 1 := by omega
              have ve10 : W0.heap.size + 1 < W0.heap.size + 1 + 1 + l.length + 1 + 1 + l2.length := by omega
              have ve11 : W0.heap.size + 1 < W0.heap.size + 1 + 1 + l.length + 1 + 1 + l2.length + 1 := by omega
              go_wp2
              refine bodyPost_ret (results_ct rfl _ (w.heap.size + 1 + 1) 27 (regsC (List.replicate 16 0) (.slice none 0 0)) (0, 0) _ rfl ?_ Try.underlying27 rfl (by kernel_rfl)) rfl ?_
              · exact (by repeat (first | assumption | exact setRow_heap _ _ _ _ _ (0, 0) B2.out | (refine heap_at _ _ _ ?_; (first | omega | (simp; done) | (simp; omega))) | (refine (heap_past _ _ ?_).trans ?_; focus (first | omega | (simp; done) | (simp; omega))) | (refine (ext_heap ?_).trans ?_; focus (first | omega | (simp; done) | (simp; omega)))))
              · have hE : entE (fitsB cf ce ff fa sl es ls) (N : Int) es = 250 := by
                  unfold entE
                  rw [HF.out, if_neg (by simp), if_neg (by omega), if_pos (entAny_yes hlt hx.out (by
                    have h3 : liesB lk ln (N : Int) = false := by rw [← HSL.out]; exact hb
                    simp [entBad, H0.out, H1.out, h3]))]
                have hV : entV (fitsB cf ce ff fa sl es ls) (N : Int) es ls = (List.replicate 16 0, []) := by unfold entV; rw [hE]; rfl
                exact ⟨none, 0, by rw [hE, hV]; rfl, by rw [hV]; exact fun i hi => absurd hi (by simp), (by repeat (with_reducible first | assumption | exact Below.refl _ _ | refine below_setRow ?_ (by omega) _ | refine bl_alloc ?_ _ | refine bl_drewN ?_ _ | refine bl_drew ?_ | refine bl_ext ?_ _ _ | refine bl_then0 ?_ (by assumption)))⟩
          · refine wp_region_held_drew (S := (fun w' => w'.cell? ⟨W0.heap.size + 1 + 1 + l.length, 1, none⟩ = some (.int .i64 lk) ∧ w'.cell? ⟨W0.heap.size + 1 + 1 + l.length, 2, none⟩ = some (.int .i64 ln) ∧ w'.cell? ⟨w.heap.size + 1, 2, none⟩ = some (.slice (some ⟨bb, off2, none⟩) ls.length lc) ∧ w'.cell? ⟨bb, off2 + k * 2 + 1, none⟩ = some (.int .i64 vn) ∧ isRw w' (W0.heap.size + 1) 17 = true ∧ rwAt w' (W0.heap.size + 1) = regsC rs (.slice A sp.length c))) (by kernel_rfl) ?_ (fun hHeld => ?_)
            · refine ⟨?_, ?_, ?_, ?_, ?_, ?_⟩ <;> first | assumption | (go_simp; done)
            refine wpAnyH_take (i := 0) (v := ?vq18x) rfl (by kernel_rfl) (by kernel_rfl) (by kernel_rfl) (fun _ _ _ h => h) (Or.inl ⟨by rfl, ?yq18x⟩) (by assumption) ?rq18x
            case yq18x =>
              intro w' hSw
              (try dsimp only at hSw)
              go_simp
              all_goals (try with_reducible rfl)
            try simp only [List.getElem_toArray, List.getElem_cons_zero, List.getElem_cons_succ, Act.put, List.setIfInBounds_toArray, List.set_cons_zero, List.set_cons_succ]
            refine wpAnyH_take (i := 1) (v := ?vq19x) rfl (by kernel_rfl) (by kernel_rfl) (by kernel_rfl) (fun _ _ _ h => h) (Or.inl ⟨by rfl, ?yq19x⟩) (by assumption) ?rq19x
            case yq19x =>
              intro w' hSw
              (try dsimp only at hSw)
              go_simp
              all_goals (try with_reducible rfl)
            try simp only [List.getElem_toArray, List.getElem_cons_zero, List.getElem_cons_succ, Act.put, List.setIfInBounds_toArray, List.set_cons_zero, List.set_cons_succ]
            refine wpAnyH_take (i := 2) (v := ?vq20x) rfl (by kernel_rfl) (by kernel_rfl) (by kernel_rfl) (fun _ _ _ h => h) (Or.inl ⟨by rfl, ?yq20x⟩) (by assumption) ?rq20x
            case yq20x =>
              intro w' hSw
              (try dsimp only at hSw)
              go_simp
              all_goals (try with_reducible rfl)
            try simp only [List.getElem_toArray, List.getElem_cons_zero, List.getElem_cons_succ, Act.put, List.setIfInBounds_toArray, List.set_cons_zero, List.set_cons_succ]
            refine wpAnyH_take (i := 3) (v := ?vq21x) rfl (by kernel_rfl) (by kernel_rfl) (by kernel_rfl) (fun _ _ _ h => h) (Or.inl ⟨by rfl, ?yq21x⟩) (by assumption) ?rq21x
            case yq21x =>
              intro w' hSw
              (try dsimp only at hSw)
              go_simp
              all_goals (try with_reducible rfl)
            try simp only [List.getElem_toArray, List.getElem_cons_zero, List.getElem_cons_succ, Act.put, List.setIfInBounds_toArray, List.set_cons_zero, List.set_cons_succ]
            refine wpAnyH_take (i := 4) (v := ?vq22x) rfl (by kernel_rfl) (by kernel_rfl) (by kernel_rfl) (fun _ _ _ h => h) (Or.inl ⟨by rfl, ?yq22x⟩) (by assumption) ?rq22x
            case yq22x =>
              intro w' hSw
              (try dsimp only at hSw)
              go_simp
              all_goals (try with_reducible rfl)
            try simp only [List.getElem_toArray, List.getElem_cons_zero, List.getElem_cons_succ, Act.put, List.setIfInBounds_toArray, List.set_cons_zero, List.set_cons_succ]
            refine wpAnyH_take (i := 5) (v := ?vq23x) rfl (by kernel_rfl) (by kernel_rfl) (by kernel_rfl) (fun _ _ _ h => h) (Or.inl ⟨by rfl, ?yq23x⟩) (by assumption) ?rq23x
            case yq23x =>
              intro w' hSw
              (try dsimp only at hSw)
              go_simp
              all_goals (try with_reducible rfl)
            try simp only [List.getElem_toArray, List.getElem_cons_zero, List.getElem_cons_succ, Act.put, List.setIfInBounds_toArray, List.set_cons_zero, List.set_cons_succ]
            refine wpAnyH_take (i := 6) (v := ?vq24x) rfl (by kernel_rfl) (by kernel_rfl) (by kernel_rfl) (fun _ _ _ h => h) (Or.inl ⟨by rfl, ?yq24x⟩) (by assumption) ?rq24x
            case yq24x =>
              intro w' hSw
              (try dsimp only at hSw)
              go_simp
              all_goals (try with_reducible rfl)
            try simp only [List.getElem_toArray, List.getElem_cons_zero, List.getElem_cons_succ, Act.put, List.setIfInBounds_toArray, List.set_cons_zero, List.set_cons_succ]
            refine wpAnyH_take (i := 7) (v := ?vq25x) rfl (by kernel_rfl) (by kernel_rfl) (by kernel_rfl) (fun _ _ _ h => h) (Or.inl ⟨by rfl, ?yq25x⟩) (by assumption) ?rq25x
            case yq25x =>
              intro w' hSw
              (try dsimp only at hSw)
              go_simp
              all_goals (try with_reducible rfl)
            try simp only [List.getElem_toArray, List.getElem_cons_zero, List.getElem_cons_succ, Act.put, List.setIfInBounds_toArray, List.set_cons_zero, List.set_cons_succ]
            refine wpAnyH_take (i := 8) (v := .agg (regsC rs (.slice A sp.length c))) rfl (by kernel_rfl) (by kernel_rfl) (by kernel_rfl) (fun _ _ _ h => h) (Or.inl ⟨by rfl, ?yq26x⟩) (by assumption) ?rq26x
            case yq26x =>
              intro w' hSw
              exact (xld27 rfl hSw.2.2.2.2.1).trans (by show Result.ok (Next.value (.agg (rwAt w' (W0.heap.size + 1)))) w' = _; rw [hSw.2.2.2.2.2])
            try simp only [List.getElem_toArray, List.getElem_cons_zero, List.getElem_cons_succ, Act.put, List.setIfInBounds_toArray, List.set_cons_zero, List.set_cons_succ]
            refine wpAnyH_ready (rs := [9, 13]) (by kernel_rfl) (by simp) (AllReadyH.cons rfl (fun K hK => ?_) (AllReadyH.cons rfl (fun K hK => ?_) AllReadyH.nil))
            · go_simp
              go_wp2_with (go_at_call 12; (with_reducible refine Calls.mono (rput_own lk ln vn rs sp A c hr (by have := HSL.out; omega) _ (Ints.below HI.out (by repeat (with_reducible first | assumption | exact Below.refl _ _ | refine bl_alloc ?_ _ | refine bl_drewN ?_ _ | refine bl_drew ?_ | refine bl_ext ?_ _ _ | refine bl_then0 ?_ (by assumption)))) hb) ?_); rintro e w1 ⟨A1, c1, rfl, hi1, hn1, hb1⟩; obtain ⟨l2, d2, rfl⟩ := ext_of_below hb1; have HI1 := Lib.hid hi1; have HN1 := Lib.hid hn1; clear hi1 hn1 hb1)
              clear hHeld
              refine hK.out _ _ ?_ (fun hHeld => ?_)
              · refine ⟨?_, ?_, ?_, ?_, ?_, ?_⟩ <;> first | assumption | (go_simp; done)
              clear hK K
              try simp only [List.getElem_toArray, List.getElem_cons_zero, List.getElem_cons_succ, Act.put, List.setIfInBounds_toArray, List.set_cons_zero, List.set_cons_succ]
              refine wpAnyH_take (i := 10) (v := ?vq27x) rfl (by kernel_rfl) (by kernel_rfl) (by kernel_rfl) (fun _ _ _ h => h) (Or.inl ⟨by rfl, ?yq27x⟩) (by assumption) ?rq27x
              case yq27x =>
                intro w' hSw
                (try dsimp only at hSw)
                go_simp
                all_goals (try with_reducible rfl)
              try simp only [List.getElem_toArray, List.getElem_cons_zero, List.getElem_cons_succ, Act.put, List.setIfInBounds_toArray, List.set_cons_zero, List.set_cons_succ]
              refine wpAnyH_take (i := 11) (v := ?vq28x) rfl (by kernel_rfl) (by kernel_rfl) (by kernel_rfl) (fun _ _ _ h => h) (Or.inl ⟨by rfl, ?yq28x⟩) (by assumption) ?rq28x
              case yq28x =>
                intro w' hSw
                (try dsimp only at hSw)
                go_simp
                all_goals (try with_reducible rfl)
              try simp only [List.getElem_toArray, List.getElem_cons_zero, List.getElem_cons_succ, Act.put, List.setIfInBounds_toArray, List.set_cons_zero, List.set_cons_succ]
              refine wpAnyH_take (i := 12) (v := ?vq29x) rfl (by kernel_rfl) (by kernel_rfl) (by kernel_rfl) (fun _ _ _ h => h) (Or.inl ⟨by rfl, ?yq29x⟩) (by assumption) ?rq29x
              case yq29x =>
                intro w' hSw
                (try dsimp only at hSw)
                go_simp
                all_goals (try with_reducible rfl)
              try simp only [List.getElem_toArray, List.getElem_cons_zero, List.getElem_cons_succ, Act.put, List.setIfInBounds_toArray, List.set_cons_zero, List.set_cons_succ]
              refine wpAnyH_ready (rs := [13]) (by kernel_rfl) (by simp) (AllReadyH.cons rfl (fun K hK => ?_) AllReadyH.nil)
              go_simp
              clear hHeld
              refine hK.out _ _ ?_ (fun hHeld => ?_)
              · refine ⟨?_, ?_, ?_, ?_, ?_, ?_⟩ <;> first | assumption | (go_simp; done)
              clear hK K
              try simp only [List.getElem_toArray, List.getElem_cons_zero, List.getElem_cons_succ, Act.put, List.setIfInBounds_toArray, List.set_cons_zero, List.set_cons_succ]
              refine wpAnyH_ready (rs := [14]) (by kernel_rfl) (by simp) (AllReadyH.cons rfl (fun K hK => ?_) AllReadyH.nil)
              go_simp
              clear hHeld
              refine hK.out _ _ ?_ (fun hHeld => ?_)
              · refine ⟨?_, ?_, ?_, ?_, ?_, ?_⟩ <;> first | assumption | (go_simp; done)
              clear hK K
              try simp only [List.getElem_toArray, List.getElem_cons_zero, List.getElem_cons_succ, Act.put, List.setIfInBounds_toArray, List.set_cons_zero, List.set_cons_succ]
              refine wpAnyH_take (i := 15) (v := ?vq30x) rfl (by kernel_rfl) (by kernel_rfl) (by kernel_rfl) (fun _ _ _ h => h) (Or.inl ⟨by rfl, ?yq30x⟩) (by assumption) ?rq30x
              case yq30x =>
                intro w' hSw
                (try dsimp only at hSw)
                go_simp
                all_goals (try with_reducible rfl)
              try simp only [List.getElem_toArray, List.getElem_cons_zero, List.getElem_cons_succ, Act.put, List.setIfInBounds_toArray, List.set_cons_zero, List.set_cons_succ]
              refine wpAnyH_done (by kernel_rfl) ?_ _
              have vf00 : w.heap.size + 1 + 1 < W0.heap.size + 1 + 1 + l.length + 1 + l2.length := by omega
              have vf01 : w.heap.size + 1 + 1 < W0.heap.size + 1 + 1 + l.length + 1 + l2.length + 1 := by omega
              have vf10 : w.heap.size + 1 + 1 < W0.heap.size + 1 + 1 + l.length + 1 + 1 + l2.length := by omega
              have vf11 : w.heap.size + 1 + 1 < W0.heap.size + 1 + 1 + l.length + 1 + 1 + l2.length + 1 := by omega
              have ve00 : W0.heap.size + 1 < W0.heap.size + 1 + 1 + l.length + 1 + l2.length := by omega
              have ve01 : W0.heap.size + 1 < W0.heap.size + 1 + 1 + l.length + 1 + l2.length + 1 := by omega
              have ve10 : W0.heap.size + 1 < W0.heap.size + 1 + 1 + l.length + 1 + 1 + l2.length := by omega
              have ve11 : W0.heap.size + 1 < W0.heap.size + 1 + 1 + l.length + 1 + 1 + l2.length + 1 := by omega
              go_wp2
              go_roundw
              case rel =>
                refine ⟨k + 1, putR lk ln vn rs, putS lk ln vn sp, A1, c1, by omega, by go_num, hr2, Lib.hid (by rw [putS_length]; exact HSL.out), Lib.hid ?_, Lib.hid ?_, Lib.hid ?_, Lib.hid ?_, ext_of_below (by repeat (with_reducible first | assumption | exact Below.refl _ _ | refine bl_alloc ?_ _ | refine bl_drewN ?_ _ | refine bl_drew ?_ | refine bl_ext ?_ _ _ | refine bl_then0 ?_ (by assumption)))⟩
                · rw [entK_succ hlt (by have := HL.out; omega) hx.out hy.out HK.out]
                  unfold entStep
                  rw [if_neg (by simp [H0.out, H1.out])]
                · intro j hj hjl
                  rcases (by omega : j < k ∨ j = k) with h | rfl
                  · exact HJ.out j h hjl
                  · rw [hx.out]
                    have h3 : liesB lk ln (N : Int) = true := by rw [← HSL.out]; exact hb
                    simp [entBad, h3]
                · first | exact ints_late HI1.out HN1.out (by simp) | exact Ints.below (ints_late HI1.out HN1.out (by simp)) (bl_alloc (Below.refl _ _) _)
                · intro a ha
                  have := HN1.out a ha
                  simp at this
                  omega
              case measure => simp [intOf]; omega
            · go_simp
              clear hHeld
              refine hK.out _ _ ?_ (fun hHeld => ?_)
              · refine ⟨?_, ?_, ?_, ?_, ?_, ?_⟩ <;> first | assumption | (go_simp; done)
              clear hK K
              try simp only [List.getElem_toArray, List.getElem_cons_zero, List.getElem_cons_succ, Act.put, List.setIfInBounds_toArray, List.set_cons_zero, List.set_cons_succ]
              refine wpAnyH_ready (rs := [9]) (by kernel_rfl) (by simp) (AllReadyH.cons rfl (fun K hK => ?_) AllReadyH.nil)
              go_simp
              go_wp2_with (go_at_call 12; (with_reducible refine Calls.mono (rput_own lk ln vn rs sp A c hr (by have := HSL.out; omega) _ (Ints.below HI.out (by repeat (with_reducible first | assumption | exact Below.refl _ _ | refine bl_alloc ?_ _ | refine bl_drewN ?_ _ | refine bl_drew ?_ | refine bl_ext ?_ _ _ | refine bl_then0 ?_ (by assumption)))) hb) ?_); rintro e w1 ⟨A1, c1, rfl, hi1, hn1, hb1⟩; obtain ⟨l2, d2, rfl⟩ := ext_of_below hb1; have HI1 := Lib.hid hi1; have HN1 := Lib.hid hn1; clear hi1 hn1 hb1)
              clear hHeld
              refine hK.out _ _ ?_ (fun hHeld => ?_)
              · refine ⟨?_, ?_, ?_, ?_, ?_, ?_⟩ <;> first | assumption | (go_simp; done)
              clear hK K
              try simp only [List.getElem_toArray, List.getElem_cons_zero, List.getElem_cons_succ, Act.put, List.setIfInBounds_toArray, List.set_cons_zero, List.set_cons_succ]
              refine wpAnyH_take (i := 10) (v := ?vq31x) rfl (by kernel_rfl) (by kernel_rfl) (by kernel_rfl) (fun _ _ _ h => h) (Or.inl ⟨by rfl, ?yq31x⟩) (by assumption) ?rq31x
              case yq31x =>
                intro w' hSw
                (try dsimp only at hSw)
                go_simp
                all_goals (try with_reducible rfl)
              try simp only [List.getElem_toArray, List.getElem_cons_zero, List.getElem_cons_succ, Act.put, List.setIfInBounds_toArray, List.set_cons_zero, List.set_cons_succ]
              refine wpAnyH_take (i := 11) (v := ?vq32x) rfl (by kernel_rfl) (by kernel_rfl) (by kernel_rfl) (fun _ _ _ h => h) (Or.inl ⟨by rfl, ?yq32x⟩) (by assumption) ?rq32x
              case yq32x =>
                intro w' hSw
                (try dsimp only at hSw)
                go_simp
                all_goals (try with_reducible rfl)
              try simp only [List.getElem_toArray, List.getElem_cons_zero, List.getElem_cons_succ, Act.put, List.setIfInBounds_toArray, List.set_cons_zero, List.set_cons_succ]
              refine wpAnyH_take (i := 12) (v := ?vq33x) rfl (by kernel_rfl) (by kernel_rfl) (by kernel_rfl) (fun _ _ _ h => h) (Or.inl ⟨by rfl, ?yq33x⟩) (by assumption) ?rq33x
              case yq33x =>
                intro w' hSw
                (try dsimp only at hSw)
                go_simp
                all_goals (try with_reducible rfl)
              try simp only [List.getElem_toArray, List.getElem_cons_zero, List.getElem_cons_succ, Act.put, List.setIfInBounds_toArray, List.set_cons_zero, List.set_cons_succ]
              refine wpAnyH_ready (rs := [14]) (by kernel_rfl) (by simp) (AllReadyH.cons rfl (fun K hK => ?_) AllReadyH.nil)
              go_simp
              clear hHeld
              refine hK.out _ _ ?_ (fun hHeld => ?_)
              · refine ⟨?_, ?_, ?_, ?_, ?_, ?_⟩ <;> first | assumption | (go_simp; done)
              clear hK K
              try simp only [List.getElem_toArray, List.getElem_cons_zero, List.getElem_cons_succ, Act.put, List.setIfInBounds_toArray, List.set_cons_zero, List.set_cons_succ]
              refine wpAnyH_take (i := 15) (v := ?vq34x) rfl (by kernel_rfl) (by kernel_rfl) (by kernel_rfl) (fun _ _ _ h => h) (Or.inl ⟨by rfl, ?yq34x⟩) (by assumption) ?rq34x
              case yq34x =>
                intro w' hSw
                (try dsimp only at hSw)
                go_simp
                all_goals (try with_reducible rfl)
              try simp only [List.getElem_toArray, List.getElem_cons_zero, List.getElem_cons_succ, Act.put, List.setIfInBounds_toArray, List.set_cons_zero, List.set_cons_succ]
              refine wpAnyH_done (by kernel_rfl) ?_ _
              have vf00 : w.heap.size + 1 + 1 < W0.heap.size + 1 + 1 + l.length + 1 + l2.length := by omega
              have vf01 : w.heap.size + 1 + 1 < W0.heap.size + 1 + 1 + l.length + 1 + l2.length + 1 := by omega
              have vf10 : w.heap.size + 1 + 1 < W0.heap.size + 1 + 1 + l.length + 1 + 1 + l2.length := by omega
              have vf11 : w.heap.size + 1 + 1 < W0.heap.size + 1 + 1 + l.length + 1 + 1 + l2.length + 1 := by omega
              have ve00 : W0.heap.size + 1 < W0.heap.size + 1 + 1 + l.length + 1 + l2.length := by omega
              have ve01 : W0.heap.size + 1 < W0.heap.size + 1 + 1 + l.length + 1 + l2.length + 1 := by omega
              have ve10 : W0.heap.size + 1 < W0.heap.size + 1 + 1 + l.length + 1 + 1 + l2.length := by omega
              have ve11 : W0.heap.size + 1 < W0.heap.size + 1 + 1 + l.length + 1 + 1 + l2.length + 1 := by omega
              go_wp2
              go_roundw
              case rel =>
                refine ⟨k + 1, putR lk ln vn rs, putS lk ln vn sp, A1, c1, by omega, by go_num, hr2, Lib.hid (by rw [putS_length]; exact HSL.out), Lib.hid ?_, Lib.hid ?_, Lib.hid ?_, Lib.hid ?_, ext_of_below (by repeat (with_reducible first | assumption | exact Below.refl _ _ | refine bl_alloc ?_ _ | refine bl_drewN ?_ _ | refine bl_drew ?_ | refine bl_ext ?_ _ _ | refine bl_then0 ?_ (by assumption)))⟩
                · rw [entK_succ hlt (by have := HL.out; omega) hx.out hy.out HK.out]
                  unfold entStep
                  rw [if_neg (by simp [H0.out, H1.out])]
                · intro j hj hjl
                  rcases (by omega : j < k ∨ j = k) with h | rfl
                  · exact HJ.out j h hjl
                  · rw [hx.out]
                    have h3 : liesB lk ln (N : Int) = true := by rw [← HSL.out]; exact hb
                    simp [entBad, h3]
                · first | exact ints_late HI1.out HN1.out (by simp) | exact Ints.below (ints_late HI1.out HN1.out (by simp)) (bl_alloc (Below.refl _ _) _)
                · intro a ha
                  have := HN1.out a ha
                  simp at this
                  omega
              case measure => simp [intOf]; omega
    · obtain rfl : k = es.length := by omega
      have z2 := Z2.out
      have q2 := (isRw_of (k := 17) B2.out (regsC_size _ _ rfl)).1
      have ha0 : isAggN (.agg (regsC rs (.slice A sp.length c))) 17 = true := isAggN_regs _ _ _ _ hr
      have uf0 : w.heap.size + 1 + 1 < W0.heap.size + 1 + 1 + l.length := by omega
      have uf1 : w.heap.size + 1 + 1 < W0.heap.size + 1 + 1 + l.length + 1 := by omega
      have ub0 : w.heap.size + 1 < W0.heap.size + 1 + 1 + l.length := by omega
      have ub1 : w.heap.size + 1 < W0.heap.size + 1 + 1 + l.length + 1 := by omega
      have uc0 : w.heap.size < W0.heap.size + 1 + 1 + l.length := by omega
      have uc1 : w.heap.size < W0.heap.size + 1 + 1 + l.length + 1 := by omega
      have ue0 : W0.heap.size + 1 < W0.heap.size + 1 + 1 + l.length := by omega
      have ue1 : W0.heap.size + 1 < W0.heap.size + 1 + 1 + l.length + 1 := by omega
      clear z2
      go_wp2
      refine bodyPost_ret (results_ct rfl _ (w.heap.size + 1 + 1) 27 (regsC rs (.slice A sp.length c)) (0, 0) _ rfl ?_ Try.underlying27 rfl (by rw [regsC_size _ _ hr]; kernel_rfl)) rfl ?_
      · exact (by repeat (first | assumption | exact setRow_heap _ _ _ _ _ (0, 0) B2.out | (refine heap_at _ _ _ ?_; (first | omega | (simp; done) | (simp; omega))) | (refine (heap_past _ _ ?_).trans ?_; focus (first | omega | (simp; done) | (simp; omega))) | (refine (ext_heap ?_).trans ?_; focus (first | omega | (simp; done) | (simp; omega)))))
      · have hE : entE (fitsB cf ce ff fa sl es ls) (N : Int) es = 0 := by
          unfold entE
          rw [HF.out, if_neg (by simp), if_neg (by omega), if_neg (by rw [Int.toNat_natCast, entAny_no (fun j hj => HJ.out j hj hj)]; simp)]
        have hV : entV (fitsB cf ce ff fa sl es ls) (N : Int) es ls = (rs, sp) := by unfold entV; rw [hE, if_pos rfl, Int.toNat_natCast]; exact HK.out
        exact ⟨A, c, by rw [hE, hV]; rfl, by rw [hV]; exact ints_ne (T := w.heap.size + 1 + 1) HI.out (fun a ha e => by have := (HT.out a ha).1; omega) (fun n hn => heap_rowB n hn), (by repeat (with_reducible first | assumption | exact Below.refl _ _ | refine below_setRow ?_ (by omega) _ | refine bl_alloc ?_ _ | refine bl_drewN ?_ _ | refine bl_drew ?_ | refine bl_ext ?_ _ _ | refine bl_then0 ?_ (by assumption)))⟩
end Go.Proofs.Ytngpfbcjmlpplaa.M
