import Derived.Test.YtnggnacaghcclaaH7
set_option linter.unusedVariables false
set_option linter.unusedSimpArgs false
namespace Go.Proofs.Ytnggnacaghcclaa.H8
open Go.RowKit Go.Proofs.Ytnggnacaghcclaa.LibA Go.Proofs.Ytnggnacaghcclaa.LibC Go.Proofs.Ytnggnacaghcclaa.LibS Go.Proofs.Ytnggnacaghcclaa.LibR Go.Proofs.Ytnggnacaghcclaa.LibT Go.Proofs.Ytnggnacaghcclaa.LibU Go.Proofs.Ytnggnacaghcclaa.LibV Go.Proofs.Ytnggnacaghcclaa.LibW Go.Proofs.Ytnggnacaghcclaa.LibX Go.Proofs.Ytnggnacaghcclaa.H1 Go.Proofs.Ytnggnacaghcclaa.H2 Go.Proofs.Ytnggnacaghcclaa.H3 Go.Proofs.Ytnggnacaghcclaa.H4 Go.Proofs.Ytnggnacaghcclaa.H5 Go.Proofs.Ytnggnacaghcclaa.H6 Go.Proofs.Ytnggnacaghcclaa.H7
/-- the classes right under n, of the first k -/
def subL (ss : List Int) (n : Int) (k : Nat) : List Int := ((List.range k).filter fun i => ss.getD i (-9) == n).map fun i => ((i : Nat) : Int)
theorem subL_y {ss : List Int} {n : Int} {k : Nat} (h : ss.getD k (-9) = n) : subL ss n k ++ [((k : Nat) : Int)] = subL ss n (k + 1) := by
  unfold subL
  rw [List.range_succ, List.filter_append]
  simp only [List.filter_cons, h, beq_self_eq_true, if_true, List.filter_nil, List.map_append, List.map_cons, List.map_nil]
theorem subL_n {ss : List Int} {n : Int} {k : Nat} (h : ss.getD k (-9) ≠ n) : subL ss n k = subL ss n (k + 1) := by
  unfold subL
  rw [List.range_succ, List.filter_append]
  simp only [List.filter_cons, beq_eq_false_iff_ne.2 h, List.filter_nil, List.append_nil, Bool.false_eq_true, if_false]
theorem subL_len (ss : List Int) (n : Int) (k : Nat) : (subL ss n k).length ≤ k := by
  unfold subL
  rw [List.length_map]
  simpa using List.length_filter_le (fun i => ss.getD i (-9) == n) (List.range k)


theorem equal_ints (xs ys : List Int) (A B : Option Addr) (c d : Nat) (hx : xs.length ≤ 9223372036854775807) (hy : ys.length ≤ 9223372036854775807) (w0 : World) (ha : Els CI 1 w0 A xs) (hb : Els CI 1 w0 B ys) :
    Calls Try.prog 25 #[.slice A xs.length c, .slice B ys.length d] w0 fun e w' => e = .returned (.bool (decide (xs = ys))) ∧ Agr [] w0 w' := by
  have st : St w0 [] w0 [els CI 1 A xs, els CI 1 B ys] := (add_ro (add_ro (start0 w0 []) (by simp [els, It.wr]) rfl (els_ok (C := CI) (sz := 1) (by decide) (fun x => rfl) hb)) (by simp [els, It.wr]) rfl (els_ok (C := CI) (sz := 1) (by decide) (fun x => rfl) ha))
  clear ha hb
  by_cases hl : xs.length = ys.length
  · refine enter Try.func25 rfl Try.ntmps25 (by simp) ?_
    intro a fr
    refine wp_seq ?_
    refine reg ?_
    refine lst rfl (ow_v fr (rn_assign (fr.ev rfl)) rfl rfl ?_)
    intro a fr
    refine wpList_nil ?_
    refine then_n ?_
    refine wp_seq ?_
    refine wp_seq ?_
    refine reg ?_
    refine lst rfl (ow_v fr (rn_move (fr.ev rfl)) rfl rfl ?_)
    intro a fr
    refine lst rfl (ow_v fr (rn_len (fr.ev rfl) Try.underlying43) rfl rfl ?_)
    intro a fr
    refine lst rfl (ow_v fr (rn_move (fr.ev rfl)) rfl rfl ?_)
    intro a fr
    refine lst rfl (ow_v fr (rn_len (fr.ev rfl) Try.underlying43) rfl rfl ?_)
    intro a fr
    refine lst rfl (ow_v fr (rn_as (v' := .bool false) (rn_neq (fr.ev rfl) (fr.ev rfl)) (congrArg Value.bool (by simp [hl]))) rfl rfl ?_)
    intro a fr
    refine wpList_nil ?_
    refine then_n ?_
    refine cond_f fr rfl rfl ?_
    refine wp_skip ?_
    refine then_n ?_
    refine wp_seq ?_
    refine wp_seq ?_
    refine reg ?_
    refine lst rfl (ow_v fr (rn_move (fr.ev rfl)) rfl rfl ?_)
    intro a fr
    refine lst rfl (ow_v fr (rn_len (fr.ev rfl) Try.underlying43) rfl rfl ?_)
    intro a fr
    refine lst rfl (ow_v fr (rn_move (fr.ev rfl)) rfl rfl ?_)
    intro a fr
    refine wpList_nil ?_
    refine then_n ?_
    refine wp_block ?_
    refine wp_loop_ghost (fun mz a w => ∃ (k : Nat), (k ≤ xs.length) ∧ (∀ j, j < k → ∀ (h1 : j < xs.length) (h2 : j < ys.length), xs[j] = ys[j]) ∧ mz = xs.length - k ∧ FrL 26 a [(0, .slice A xs.length c), (1, .slice B ys.length d), (12, .int .i64 ((xs.length : Nat))), (13, .int .i64 ((k : Nat)))] ∧ St w0 [] w [els CI 1 A xs, els CI 1 B ys]) _ ⟨0, (Nat.zero_le _), (fun j hj => absurd hj (Nat.not_lt_zero _)), rfl, fr.prune ⟨rfl, rfl, rfl, rfl, trivial⟩, st⟩ ?_
    clear fr st
    intro mz a w hI
    obtain ⟨k, hk, hJ, hmz, fr, st⟩ := hI
    by_cases hlt : k < xs.length
    · have hlt2 : k < ys.length := by omega
      by_cases he : xs[k] = ys[k]
      · obtain ⟨b1, o2, eA, st_⟩ := st.elem 0 rfl k hlt (by simp [CI])
        have fr_ := fr
        cases eA
        have st := st_
        have fr := fr_
        clear st_ fr_
        obtain ⟨x0, hx_xs_x0⟩ : ∃ x0, xs[k] = x0 := ⟨_, rfl⟩
        rw [hx_xs_x0] at st
        replace st : St _ [] w [ro b1 (o2 + k * 1) [.int .i64 (x0)], els CI 1 (some ⟨b1, o2, none⟩) xs, els CI 1 B ys] := st
        obtain ⟨b3, o4, eA, st_⟩ := st.elem 2 rfl k (by omega) (by simp [CI])
        have fr_ := fr
        cases eA
        have st := st_
        have fr := fr_
        clear st_ fr_
        obtain ⟨y0, hx_ys_y0⟩ : ∃ y0, ys[k] = y0 := ⟨_, rfl⟩
        rw [hx_ys_y0] at st
        replace st : St _ [] w [ro b3 (o4 + k * 1) [.int .i64 (y0)], ro b1 (o2 + k * 1) [.int .i64 (x0)], els CI 1 (some ⟨b1, o2, none⟩) xs, els CI 1 (some ⟨b3, o4, none⟩) ys] := st
        refine wp_seq ?_
        refine reg ?_
        refine lst rfl (ow_v fr (rn_as (v' := .bool true) (rn_lss (fr.ev rfl) (fr.ev rfl)) (congrArg Value.bool (decide_eq_true (by omega)))) rfl rfl ?_)
        intro a fr
        refine wpList_nil ?_
        refine then_n ?_
        refine wp_seq ?_
        refine cond_t fr rfl rfl ?_
        refine wp_skip ?_
        refine then_n ?_
        refine wp_seq ?_
        refine wp_block ?_
        refine wp_seq ?_
        refine reg ?_
        refine lst rfl (ow_v fr (rn_move (fr.ev rfl)) rfl rfl ?_)
        intro a fr
        refine lst rfl (ow_v fr (rn_assign (fr.ev rfl)) rfl rfl ?_)
        intro a fr
        refine wpList_nil ?_
        refine then_n ?_
        refine wp_seq ?_
        refine dr_start (by kernel_rfl) st (.cons_cons _ (.cons_cons _ (.cons_cons _ (.cons_cons _ .slnil)))) ?_
        intro w st
        refine dr_take 0 rfl (by kernel_rfl) (by kernel_rfl) (by kernel_rfl) (fun _ _ _ h => h) fr rfl (st.sub (.cons_cons _ (.cons_cons _ (.cons_cons _ (.cons_cons _ .slnil))))) (fun w st => rn_move (fr.ev rfl)) rfl rfl ?_
        intro a fr
        refine dr_take 1 rfl (by kernel_rfl) (by kernel_rfl) (by kernel_rfl) (fun _ _ _ h => h) fr rfl (st.sub (.cons_cons _ (.cons_cons _ (.cons_cons _ (.cons_cons _ .slnil))))) (fun w st => rn_move (fr.ev rfl)) rfl rfl ?_
        intro a fr
        refine dr_take 2 rfl (by kernel_rfl) (by kernel_rfl) (by kernel_rfl) (fun _ _ _ h => h) fr rfl (st.sub (.cons_cons _ (.cons_cons _ (.cons_cons _ (.cons_cons _ .slnil))))) (fun w st => rn_at (i := k) (fr.ev rfl) (fr.ev rfl) Try.underlying43 sz_3 (by omega) (by rfl)) rfl rfl ?_
        intro a fr
        refine dr_take 3 rfl (by kernel_rfl) (by kernel_rfl) (by kernel_rfl) (fun _ _ _ h => h) fr rfl (st.sub (.cons_cons _ (.cons_cons _ (.cons_cons _ (.cons_cons _ .slnil))))) (fun w st => rn_load (fr.ev rfl) Try.underlying3 rfl (st.rocell 1 rfl (j := 0) rfl)) rfl rfl ?_
        intro a fr
        refine dr_take 4 rfl (by kernel_rfl) (by kernel_rfl) (by kernel_rfl) (fun _ _ _ h => h) fr rfl (st.sub (.cons_cons _ (.cons_cons _ (.cons_cons _ (.cons_cons _ .slnil))))) (fun w st => rn_move (fr.ev rfl)) rfl rfl ?_
        intro a fr
        refine dr_take 5 rfl (by kernel_rfl) (by kernel_rfl) (by kernel_rfl) (fun _ _ _ h => h) fr rfl (st.sub (.cons_cons _ (.cons_cons _ (.cons_cons _ (.cons_cons _ .slnil))))) (fun w st => rn_move (fr.ev rfl)) rfl rfl ?_
        intro a fr
        refine dr_take 6 rfl (by kernel_rfl) (by kernel_rfl) (by kernel_rfl) (fun _ _ _ h => h) fr rfl (st.sub (.cons_cons _ (.cons_cons _ (.cons_cons _ (.cons_cons _ .slnil))))) (fun w st => rn_at (i := k) (fr.ev rfl) (fr.ev rfl) Try.underlying43 sz_3 (by omega) (by rfl)) rfl rfl ?_
        intro a fr
        refine dr_take 7 rfl (by kernel_rfl) (by kernel_rfl) (by kernel_rfl) (fun _ _ _ h => h) fr rfl (st.sub (.cons_cons _ (.cons_cons _ (.cons_cons _ (.cons_cons _ .slnil))))) (fun w st => rn_load (fr.ev rfl) Try.underlying3 rfl (st.rocell 0 rfl (j := 0) rfl)) rfl rfl ?_
        intro a fr
        refine dr_take 8 rfl (by kernel_rfl) (by kernel_rfl) (by kernel_rfl) (fun _ _ _ h => h) fr rfl (st.sub (.cons_cons _ (.cons_cons _ (.cons_cons _ (.cons_cons _ .slnil))))) (fun w st => rn_as (v' := .bool false) (rn_neq (fr.ev rfl) (fr.ev rfl)) (congrArg Value.bool (by have := hx_xs_x0.symm.trans (he.trans hx_ys_y0); simp [this]))) rfl rfl ?_
        intro a fr
        refine dr_done (by kernel_rfl) ?_
        refine then_n ?_
        refine cond_f fr rfl rfl ?_
        refine wp_skip ?_
        refine blk_n ?_
        refine then_n ?_
        refine reg ?_
        refine lst rfl (ow_v fr (rn_add (c := ((k + 1 : Nat) : Int)) (fr.ev rfl) (fr.ev rfl) (wr_i64e (by omega) (by omega) (by omega))) rfl rfl ?_)
        intro a fr
        refine lst rfl (ow_v fr (rn_move (fr.ev rfl)) rfl rfl ?_)
        intro a fr
        refine wpList_nil ?_
        refine then_n ⟨xs.length - (k + 1), ?_, k + 1, (by omega), (fun j hj h1 h2 => by rcases (by omega : j < k ∨ j = k) with h | rfl; exact hJ j h h1 h2; exact he), rfl, fr.prune ⟨rfl, rfl, rfl, rfl, trivial⟩, st.sub (.cons _ (.cons _ (.cons_cons _ (.cons_cons _ .slnil))))⟩
        omega
      · obtain ⟨b1, o2, eA, st_⟩ := st.elem 0 rfl k hlt (by simp [CI])
        have fr_ := fr
        cases eA
        have st := st_
        have fr := fr_
        clear st_ fr_
        obtain ⟨x0, hx_xs_x0⟩ : ∃ x0, xs[k] = x0 := ⟨_, rfl⟩
        rw [hx_xs_x0] at st
        replace st : St _ [] w [ro b1 (o2 + k * 1) [.int .i64 (x0)], els CI 1 (some ⟨b1, o2, none⟩) xs, els CI 1 B ys] := st
        obtain ⟨b3, o4, eA, st_⟩ := st.elem 2 rfl k (by omega) (by simp [CI])
        have fr_ := fr
        cases eA
        have st := st_
        have fr := fr_
        clear st_ fr_
        obtain ⟨y0, hx_ys_y0⟩ : ∃ y0, ys[k] = y0 := ⟨_, rfl⟩
        rw [hx_ys_y0] at st
        replace st : St _ [] w [ro b3 (o4 + k * 1) [.int .i64 (y0)], ro b1 (o2 + k * 1) [.int .i64 (x0)], els CI 1 (some ⟨b1, o2, none⟩) xs, els CI 1 (some ⟨b3, o4, none⟩) ys] := st
        have hne : ¬ xs = ys := fun h => he (by subst h; rfl)
        refine wp_seq ?_
        refine reg ?_
        refine lst rfl (ow_v fr (rn_as (v' := .bool true) (rn_lss (fr.ev rfl) (fr.ev rfl)) (congrArg Value.bool (decide_eq_true (by omega)))) rfl rfl ?_)
        intro a fr
        refine wpList_nil ?_
        refine then_n ?_
        refine wp_seq ?_
        refine cond_t fr rfl rfl ?_
        refine wp_skip ?_
        refine then_n ?_
        refine wp_seq ?_
        refine wp_block ?_
        refine wp_seq ?_
        refine reg ?_
        refine lst rfl (ow_v fr (rn_move (fr.ev rfl)) rfl rfl ?_)
        intro a fr
        refine lst rfl (ow_v fr (rn_assign (fr.ev rfl)) rfl rfl ?_)
        intro a fr
        refine wpList_nil ?_
        refine then_n ?_
        refine wp_seq ?_
        refine dr_start (by kernel_rfl) st (.cons_cons _ (.cons_cons _ (.cons_cons _ (.cons_cons _ .slnil)))) ?_
        intro w st
        refine dr_take 0 rfl (by kernel_rfl) (by kernel_rfl) (by kernel_rfl) (fun _ _ _ h => h) fr rfl (st.sub (.cons_cons _ (.cons_cons _ (.cons_cons _ (.cons_cons _ .slnil))))) (fun w st => rn_move (fr.ev rfl)) rfl rfl ?_
        intro a fr
        refine dr_take 1 rfl (by kernel_rfl) (by kernel_rfl) (by kernel_rfl) (fun _ _ _ h => h) fr rfl (st.sub (.cons_cons _ (.cons_cons _ (.cons_cons _ (.cons_cons _ .slnil))))) (fun w st => rn_move (fr.ev rfl)) rfl rfl ?_
        intro a fr
        refine dr_take 2 rfl (by kernel_rfl) (by kernel_rfl) (by kernel_rfl) (fun _ _ _ h => h) fr rfl (st.sub (.cons_cons _ (.cons_cons _ (.cons_cons _ (.cons_cons _ .slnil))))) (fun w st => rn_at (i := k) (fr.ev rfl) (fr.ev rfl) Try.underlying43 sz_3 (by omega) (by rfl)) rfl rfl ?_
        intro a fr
        refine dr_take 3 rfl (by kernel_rfl) (by kernel_rfl) (by kernel_rfl) (fun _ _ _ h => h) fr rfl (st.sub (.cons_cons _ (.cons_cons _ (.cons_cons _ (.cons_cons _ .slnil))))) (fun w st => rn_load (fr.ev rfl) Try.underlying3 rfl (st.rocell 1 rfl (j := 0) rfl)) rfl rfl ?_
        intro a fr
        refine dr_take 4 rfl (by kernel_rfl) (by kernel_rfl) (by kernel_rfl) (fun _ _ _ h => h) fr rfl (st.sub (.cons_cons _ (.cons_cons _ (.cons_cons _ (.cons_cons _ .slnil))))) (fun w st => rn_move (fr.ev rfl)) rfl rfl ?_
        intro a fr
        refine dr_take 5 rfl (by kernel_rfl) (by kernel_rfl) (by kernel_rfl) (fun _ _ _ h => h) fr rfl (st.sub (.cons_cons _ (.cons_cons _ (.cons_cons _ (.cons_cons _ .slnil))))) (fun w st => rn_move (fr.ev rfl)) rfl rfl ?_
        intro a fr
        refine dr_take 6 rfl (by kernel_rfl) (by kernel_rfl) (by kernel_rfl) (fun _ _ _ h => h) fr rfl (st.sub (.cons_cons _ (.cons_cons _ (.cons_cons _ (.cons_cons _ .slnil))))) (fun w st => rn_at (i := k) (fr.ev rfl) (fr.ev rfl) Try.underlying43 sz_3 (by omega) (by rfl)) rfl rfl ?_
        intro a fr
        refine dr_take 7 rfl (by kernel_rfl) (by kernel_rfl) (by kernel_rfl) (fun _ _ _ h => h) fr rfl (st.sub (.cons_cons _ (.cons_cons _ (.cons_cons _ (.cons_cons _ .slnil))))) (fun w st => rn_load (fr.ev rfl) Try.underlying3 rfl (st.rocell 0 rfl (j := 0) rfl)) rfl rfl ?_
        intro a fr
        refine dr_take 8 rfl (by kernel_rfl) (by kernel_rfl) (by kernel_rfl) (fun _ _ _ h => h) fr rfl (st.sub (.cons_cons _ (.cons_cons _ (.cons_cons _ (.cons_cons _ .slnil))))) (fun w st => rn_as (v' := .bool true) (rn_neq (fr.ev rfl) (fr.ev rfl)) (congrArg Value.bool (by have h2 : ¬ x0 = y0 := fun h => he (hx_xs_x0.trans (h.trans hx_ys_y0.symm)); simp [h2]))) rfl rfl ?_
        intro a fr
        refine dr_done (by kernel_rfl) ?_
        refine then_n ?_
        refine cond_t fr rfl rfl ?_
        refine wp_seq ?_
        refine reg ?_
        refine lst rfl (ow_v fr (rn_assign (fr.ev rfl)) rfl rfl ?_)
        intro a fr
        refine wpList_nil ?_
        refine then_n ?_
        refine wp_ret ?_
        refine blk_r ?_
        refine then_r ?_
        refine then_r ?_
        refine blk_r ?_
        refine then_r ?_
        refine ret1 Try.results25 fr (rv_tmp fr rfl) ?_
        refine ⟨ret_bool ?_, st.agr⟩
        first | exact (decide_eq_false hne).symm | (refine (decide_eq_true ?_).symm; exact List.ext_getElem hl (fun j h1 h2 => hJ j (by omega) h1 h2)) | exact (decide_eq_false (fun h => hl (by rw [h]))).symm
    · refine wp_seq ?_
      refine reg ?_
      refine lst rfl (ow_v fr (rn_as (v' := .bool false) (rn_lss (fr.ev rfl) (fr.ev rfl)) (congrArg Value.bool (decide_eq_false (by omega)))) rfl rfl ?_)
      intro a fr
      refine wpList_nil ?_
      refine then_n ?_
      refine wp_seq ?_
      refine cond_f fr rfl rfl ?_
      refine wp_exit ?_
      refine then_x ?_
      refine then_x ?_
      refine blk_x ?_
      refine then_n ?_
      refine wp_seq ?_
      refine reg ?_
      refine lst rfl (ow_v fr (rn_assign (fr.ev rfl)) rfl rfl ?_)
      intro a fr
      refine wpList_nil ?_
      refine then_n ?_
      refine wp_ret ?_
      refine ret1 Try.results25 fr (rv_tmp fr rfl) ?_
      refine ⟨ret_bool ?_, st.agr⟩
      first | exact (decide_eq_false hne).symm | (refine (decide_eq_true ?_).symm; exact List.ext_getElem hl (fun j h1 h2 => hJ j (by omega) h1 h2)) | exact (decide_eq_false (fun h => hl (by rw [h]))).symm
  · refine enter Try.func25 rfl Try.ntmps25 (by simp) ?_
    intro a fr
    refine wp_seq ?_
    refine reg ?_
    refine lst rfl (ow_v fr (rn_assign (fr.ev rfl)) rfl rfl ?_)
    intro a fr
    refine wpList_nil ?_
    refine then_n ?_
    refine wp_seq ?_
    refine wp_seq ?_
    refine reg ?_
    refine lst rfl (ow_v fr (rn_move (fr.ev rfl)) rfl rfl ?_)
    intro a fr
    refine lst rfl (ow_v fr (rn_len (fr.ev rfl) Try.underlying43) rfl rfl ?_)
    intro a fr
    refine lst rfl (ow_v fr (rn_move (fr.ev rfl)) rfl rfl ?_)
    intro a fr
    refine lst rfl (ow_v fr (rn_len (fr.ev rfl) Try.underlying43) rfl rfl ?_)
    intro a fr
    refine lst rfl (ow_v fr (rn_as (v' := .bool true) (rn_neq (fr.ev rfl) (fr.ev rfl)) (congrArg Value.bool (by simp; omega))) rfl rfl ?_)
    intro a fr
    refine wpList_nil ?_
    refine then_n ?_
    refine cond_t fr rfl rfl ?_
    refine wp_seq ?_
    refine reg ?_
    refine lst rfl (ow_v fr (rn_assign (fr.ev rfl)) rfl rfl ?_)
    intro a fr
    refine wpList_nil ?_
    refine then_n ?_
    refine wp_ret ?_
    refine then_r ?_
    refine ret1 Try.results25 fr (rv_tmp fr rfl) ?_
    refine ⟨ret_bool ?_, st.agr⟩
    first | exact (decide_eq_false hne).symm | (refine (decide_eq_true ?_).symm; exact List.ext_getElem hl (fun j h1 h2 => hJ j (by omega) h1 h2)) | exact (decide_eq_false (fun h => hl (by rw [h]))).symm

theorem name_t (g m : Nat) (A1 A2 : Option Addr) (c1 c2 : Nat) (ns : List ByteArray) (ss : List Int) (q : Nat) (h : q < ns.length) (w0 : World) (hok : HOk g m A1 A2 c1 c2 ns ss w0) : Calls Try.prog 21 #[.pointer (some ⟨g, 0, none⟩), .int .i64 (q : Nat)] w0 fun e w' => e = .returned (.string ns[q]) ∧ Agr [] w0 w' := by
  have st : St w0 [] w0 [ro g 0 [.slice A1 ns.length c1, .slice A2 ss.length c2, (.map (some m))], els CS 1 A1 ns, els CI 1 A2 ss, mapRo kS vN m ((mL ns))] := hok.st
  clear hok
  refine enter Try.func21 rfl Try.ntmps21 (by simp) ?_
  intro a fr
  refine wp_seq ?_
  refine reg ?_
  refine lst rfl (ow_v fr (rn_assign (fr.ev rfl)) rfl rfl ?_)
  intro a fr
  refine wpList_nil ?_
  refine then_n ?_
  refine wp_seq ?_
  refine wp_seq ?_
  refine reg ?_
  refine lst rfl (ow_v fr (rn_move (fr.ev rfl)) rfl rfl ?_)
  intro a fr
  refine lst rfl (ow_v fr (rn_move (fr.ev rfl)) rfl rfl ?_)
  intro a fr
  refine lst rfl (ow_call fr rfl rfl Try.call27 (is_t g m _ _ c1 c2 ns ss ((q : Nat)) (by omega) _ (hok4 (st.get 0 rfl) (st.get 1 rfl) (st.get 2 rfl) (st.get 3 rfl))) rfl rfl ?_)
  rintro e w ⟨rfl, hag⟩
  refine ⟨_, rfl, ?_⟩
  intro a fr
  have st := st.keep hag
  clear hag
  refine lst rfl (ow_v fr (rn_not (fr.ev rfl)) rfl rfl ?_)
  intro a fr
  refine wpList_nil ?_
  refine then_n ?_
  refine cond_f fr rfl rfl ?_
  refine wp_skip ?_
  refine then_n ?_
  refine wp_seq ?_
  refine reg ?_
  refine lst rfl (ow_v fr (rn_move (fr.ev rfl)) rfl rfl ?_)
  intro a fr
  refine lst rfl (ow_v fr (rn_nilCheck (fr.ev rfl)) rfl rfl ?_)
  intro a fr
  refine lst rfl (ow_v fr (fa_48_0 (fr.ev rfl)) rfl rfl ?_)
  intro a fr
  refine lst rfl (ow_v fr (rn_load (fr.ev rfl) Try.underlying45 rfl (st.rocell 0 rfl (j := 0) rfl)) rfl rfl ?_)
  intro a fr
  refine lst rfl (ow_v fr (rn_move (fr.ev rfl)) rfl rfl ?_)
  intro a fr
  obtain ⟨b1, o2, eA, st_⟩ := st.elem 1 rfl q h (by simp [CS])
  have fr_ := fr
  cases eA
  have st := st_
  have fr := fr_
  clear st_ fr_
  obtain ⟨y, hx_ns_y⟩ : ∃ y, ns[q] = y := ⟨_, rfl⟩
  rw [hx_ns_y] at st
  replace st : St _ [] w [ro b1 (o2 + q * 1) [(.string y)], ro g 0 [.slice (some ⟨b1, o2, none⟩) ns.length c1, .slice A2 ss.length c2, (.map (some m))], els CS 1 (some ⟨b1, o2, none⟩) ns, els CI 1 A2 ss, mapRo kS vN m ((mL ns))] := st
  refine lst rfl (ow_v fr (rn_at (i := q) (fr.ev rfl) (fr.ev rfl) Try.underlying45 sz_9 (by omega) (by rfl)) rfl rfl ?_)
  intro a fr
  refine lst rfl (ow_v fr (rn_load (fr.ev rfl) Try.underlying9 rfl (st.rocell 0 rfl (j := 0) rfl)) rfl rfl ?_)
  intro a fr
  refine lst rfl (ow_v fr (rn_assign (fr.ev rfl)) rfl rfl ?_)
  intro a fr
  refine wpList_nil ?_
  refine then_n ?_
  refine wp_ret ?_
  refine ret1 Try.results21 fr (rv_tmp fr rfl) ?_
  exact ⟨by rw [hx_ns_y], st.agr⟩

theorem name_f (g m : Nat) (A1 A2 : Option Addr) (c1 c2 : Nat) (ns : List ByteArray) (ss : List Int) (n : Int) (h : ¬ (0 ≤ n ∧ n < ns.length)) (w0 : World) (hok : HOk g m A1 A2 c1 c2 ns ss w0) : Calls Try.prog 21 #[.pointer (some ⟨g, 0, none⟩), .int .i64 n] w0 fun e w' => e = .returned (.string ⟨#[]⟩) ∧ Agr [] w0 w' := by
  have st : St w0 [] w0 [ro g 0 [.slice A1 ns.length c1, .slice A2 ss.length c2, (.map (some m))], els CS 1 A1 ns, els CI 1 A2 ss, mapRo kS vN m ((mL ns))] := hok.st
  clear hok
  refine enter Try.func21 rfl Try.ntmps21 (by simp) ?_
  intro a fr
  refine wp_seq ?_
  refine reg ?_
  refine lst rfl (ow_v fr (rn_assign (fr.ev rfl)) rfl rfl ?_)
  intro a fr
  refine wpList_nil ?_
  refine then_n ?_
  refine wp_seq ?_
  refine wp_seq ?_
  refine reg ?_
  refine lst rfl (ow_v fr (rn_move (fr.ev rfl)) rfl rfl ?_)
  intro a fr
  refine lst rfl (ow_v fr (rn_move (fr.ev rfl)) rfl rfl ?_)
  intro a fr
  refine lst rfl (ow_call fr rfl rfl Try.call27 (is_f g m _ _ c1 c2 ns ss (n) (h) _ (hok4 (st.get 0 rfl) (st.get 1 rfl) (st.get 2 rfl) (st.get 3 rfl))) rfl rfl ?_)
  rintro e w ⟨rfl, hag⟩
  refine ⟨_, rfl, ?_⟩
  intro a fr
  have st := st.keep hag
  clear hag
  refine lst rfl (ow_v fr (rn_not (fr.ev rfl)) rfl rfl ?_)
  intro a fr
  refine wpList_nil ?_
  refine then_n ?_
  refine cond_t fr rfl rfl ?_
  refine wp_seq ?_
  refine reg ?_
  refine lst rfl (ow_v fr (rn_assign (fr.ev rfl)) rfl rfl ?_)
  intro a fr
  refine wpList_nil ?_
  refine then_n ?_
  refine wp_ret ?_
  refine then_r ?_
  refine ret1 Try.results21 fr (rv_tmp fr rfl) ?_
  exact ⟨rfl, st.agr⟩

theorem rname_t (g : Nat) (A1 A2 : Option Addr) (c1 c2 : Nat) (ns : List ByteArray) (ss : List Int) (q : Nat) (h : q < ns.length) (w0 : World) (hok : RHOk g A1 A2 c1 c2 ns ss w0) : Calls Try.prog 24 #[.pointer (some ⟨g, 0, none⟩), .int .i64 (q : Nat)] w0 fun e w' => e = .returned (.string ns[q]) ∧ Agr [] w0 w' := by
  have st : St w0 [] w0 [ro g 0 [.slice A1 ns.length c1, .slice A2 ss.length c2], els CS 1 A1 ns, els CI 1 A2 ss] := hok.st
  clear hok
  refine enter Try.func24 rfl Try.ntmps24 (by simp) ?_
  intro a fr
  refine wp_seq ?_
  refine reg ?_
  refine lst rfl (ow_v fr (rn_assign (fr.ev rfl)) rfl rfl ?_)
  intro a fr
  refine wpList_nil ?_
  refine then_n ?_
  refine wp_seq ?_
  refine wp_seq ?_
  refine reg ?_
  refine lst rfl (ow_v fr (rn_move (fr.ev rfl)) rfl rfl ?_)
  intro a fr
  refine lst rfl (ow_v fr (rn_move (fr.ev rfl)) rfl rfl ?_)
  intro a fr
  refine lst rfl (ow_call fr rfl rfl Try.call30 (ris_t g _ _ c1 c2 ns ss ((q : Nat)) (by omega) _ (rhok3 (st.get 0 rfl) (st.get 1 rfl) (st.get 2 rfl))) rfl rfl ?_)
  rintro e w ⟨rfl, hag⟩
  refine ⟨_, rfl, ?_⟩
  intro a fr
  have st := st.keep hag
  clear hag
  refine lst rfl (ow_v fr (rn_not (fr.ev rfl)) rfl rfl ?_)
  intro a fr
  refine wpList_nil ?_
  refine then_n ?_
  refine cond_f fr rfl rfl ?_
  refine wp_skip ?_
  refine then_n ?_
  refine wp_seq ?_
  refine reg ?_
  refine lst rfl (ow_v fr (rn_move (fr.ev rfl)) rfl rfl ?_)
  intro a fr
  refine lst rfl (ow_v fr (rn_nilCheck (fr.ev rfl)) rfl rfl ?_)
  intro a fr
  refine lst rfl (ow_v fr (fa_62_0 (fr.ev rfl)) rfl rfl ?_)
  intro a fr
  refine lst rfl (ow_v fr (rn_load (fr.ev rfl) Try.underlying45 rfl (st.rocell 0 rfl (j := 0) rfl)) rfl rfl ?_)
  intro a fr
  refine lst rfl (ow_v fr (rn_move (fr.ev rfl)) rfl rfl ?_)
  intro a fr
  obtain ⟨b1, o2, eA, st_⟩ := st.elem 1 rfl q h (by simp [CS])
  have fr_ := fr
  cases eA
  have st := st_
  have fr := fr_
  clear st_ fr_
  obtain ⟨y, hx_ns_y⟩ : ∃ y, ns[q] = y := ⟨_, rfl⟩
  rw [hx_ns_y] at st
  replace st : St _ [] w [ro b1 (o2 + q * 1) [(.string y)], ro g 0 [.slice (some ⟨b1, o2, none⟩) ns.length c1, .slice A2 ss.length c2], els CS 1 (some ⟨b1, o2, none⟩) ns, els CI 1 A2 ss] := st
  refine lst rfl (ow_v fr (rn_at (i := q) (fr.ev rfl) (fr.ev rfl) Try.underlying45 sz_9 (by omega) (by rfl)) rfl rfl ?_)
  intro a fr
  refine lst rfl (ow_v fr (rn_load (fr.ev rfl) Try.underlying9 rfl (st.rocell 0 rfl (j := 0) rfl)) rfl rfl ?_)
  intro a fr
  refine lst rfl (ow_v fr (rn_assign (fr.ev rfl)) rfl rfl ?_)
  intro a fr
  refine wpList_nil ?_
  refine then_n ?_
  refine wp_ret ?_
  refine ret1 Try.results24 fr (rv_tmp fr rfl) ?_
  exact ⟨by rw [hx_ns_y], st.agr⟩

theorem rname_f (g : Nat) (A1 A2 : Option Addr) (c1 c2 : Nat) (ns : List ByteArray) (ss : List Int) (n : Int) (h : ¬ (0 ≤ n ∧ n < ns.length)) (w0 : World) (hok : RHOk g A1 A2 c1 c2 ns ss w0) : Calls Try.prog 24 #[.pointer (some ⟨g, 0, none⟩), .int .i64 n] w0 fun e w' => e = .returned (.string ⟨#[]⟩) ∧ Agr [] w0 w' := by
  have st : St w0 [] w0 [ro g 0 [.slice A1 ns.length c1, .slice A2 ss.length c2], els CS 1 A1 ns, els CI 1 A2 ss] := hok.st
  clear hok
  refine enter Try.func24 rfl Try.ntmps24 (by simp) ?_
  intro a fr
  refine wp_seq ?_
  refine reg ?_
  refine lst rfl (ow_v fr (rn_assign (fr.ev rfl)) rfl rfl ?_)
  intro a fr
  refine wpList_nil ?_
  refine then_n ?_
  refine wp_seq ?_
  refine wp_seq ?_
  refine reg ?_
  refine lst rfl (ow_v fr (rn_move (fr.ev rfl)) rfl rfl ?_)
  intro a fr
  refine lst rfl (ow_v fr (rn_move (fr.ev rfl)) rfl rfl ?_)
  intro a fr
  refine lst rfl (ow_call fr rfl rfl Try.call30 (ris_f g _ _ c1 c2 ns ss (n) (h) _ (rhok3 (st.get 0 rfl) (st.get 1 rfl) (st.get 2 rfl))) rfl rfl ?_)
  rintro e w ⟨rfl, hag⟩
  refine ⟨_, rfl, ?_⟩
  intro a fr
  have st := st.keep hag
  clear hag
  refine lst rfl (ow_v fr (rn_not (fr.ev rfl)) rfl rfl ?_)
  intro a fr
  refine wpList_nil ?_
  refine then_n ?_
  refine cond_t fr rfl rfl ?_
  refine wp_seq ?_
  refine reg ?_
  refine lst rfl (ow_v fr (rn_assign (fr.ev rfl)) rfl rfl ?_)
  intro a fr
  refine wpList_nil ?_
  refine then_n ?_
  refine wp_ret ?_
  refine then_r ?_
  refine ret1 Try.results24 fr (rv_tmp fr rfl) ?_
  exact ⟨rfl, st.agr⟩

theorem rsubs_calls (g : Nat) (A1 A2 : Option Addr) (c1 c2 : Nat) (ns : List ByteArray) (ss : List Int) (hf : HF ns.length ss) (n : Int) (hn : 0 ≤ n) (w0 : World) (hok : RHOk g A1 A2 c1 c2 ns ss w0) : Calls Try.prog 26 #[.pointer (some ⟨g, 0, none⟩), .int .i64 n] w0 fun e w' => ∃ A c, e = .returned (.slice A (subL ss n ss.length).length c) ∧ Row CI 1 3 w0.heap.size (.slice A (subL ss n ss.length).length c) (subL ss n ss.length) w' ∧ Agr [] w0 w' := by
  have st : St w0 [] w0 [ro g 0 [.slice A1 ns.length c1, .slice A2 ss.length c2], els CS 1 A1 ns, els CI 1 A2 ss] := hok.st
  clear hok
  refine enter Try.func26 rfl Try.ntmps26 (by simp) ?_
  intro a fr
  refine wp_seq ?_
  refine reg ?_
  refine lst rfl (ow_v fr (rn_assign (fr.ev rfl)) rfl rfl ?_)
  intro a fr
  refine wpList_nil ?_
  refine then_n ?_
  refine wp_seq ?_
  refine reg ?_
  refine lst rfl (ow_v fr (rn_assign (fr.ev rfl)) rfl rfl ?_)
  intro a fr
  refine wpList_nil ?_
  refine then_n ?_
  refine wp_seq ?_
  refine wp_seq ?_
  refine reg ?_
  refine lst rfl (ow_v fr (rn_assign (fr.ev rfl)) rfl rfl ?_)
  intro a fr
  refine wpList_nil ?_
  refine then_n ?_
  refine wp_block ?_
  have hfl := hf.len
  have hfh := hf.high
  have st := st.nil (E := Int) CI 1 3 w0.heap.size (Nat.le_refl _)
  refine wp_loop_ghost (fun mz a w => ∃ (k : Nat) (A : Option Addr) (c : Nat), (k ≤ ss.length) ∧ mz = ss.length - k ∧ FrL 34 a [(0, .pointer (some ⟨g, 0, none⟩)), (1, .int .i64 (n)), (5, .slice A ((subL ss n k).length) c), (6, .int .i64 ((k : Nat)))] ∧ St w0 [] w [row CI 1 3 w0.heap.size (.slice A ((subL ss n k).length) c) ((subL ss n k)), ro g 0 [.slice A1 ns.length c1, .slice A2 ss.length c2], els CS 1 A1 ns, els CI 1 A2 ss]) _ ⟨0, none, 0, (Nat.zero_le _), rfl, fr.prune ⟨rfl, rfl, rfl, rfl, trivial⟩, st⟩ ?_
  clear fr st
  intro mz a w hI
  obtain ⟨k, A, c, hk, hmz, fr, st⟩ := hI
  by_cases hlt : k < ss.length
  · have hgd : ss.getD k (-9) = ss[k] := by simp [hlt]
    by_cases hy : ss[k] = n
    · refine wp_seq ?_
      refine wp_seq ?_
      refine reg ?_
      refine lst rfl (ow_v fr (rn_move (fr.ev rfl)) rfl rfl ?_)
      intro a fr
      refine lst rfl (ow_v fr (rn_move (fr.ev rfl)) rfl rfl ?_)
      intro a fr
      refine lst rfl (ow_v fr (rn_nilCheck (fr.ev rfl)) rfl rfl ?_)
      intro a fr
      refine lst rfl (ow_v fr (fa_62_1 (fr.ev rfl)) rfl rfl ?_)
      intro a fr
      refine lst rfl (ow_v fr (rn_load (fr.ev rfl) Try.underlying43 rfl (st.rocell 1 rfl (j := 1) rfl)) rfl rfl ?_)
      intro a fr
      refine lst rfl (ow_v fr (rn_len (fr.ev rfl) Try.underlying43) rfl rfl ?_)
      intro a fr
      refine lst rfl (ow_v fr (rn_as (v' := .bool true) (rn_lss (fr.ev rfl) (fr.ev rfl)) (congrArg Value.bool (decide_eq_true (by omega)))) rfl rfl ?_)
      intro a fr
      refine wpList_nil ?_
      refine then_n ?_
      refine cond_t fr rfl rfl ?_
      refine wp_skip ?_
      refine then_n ?_
      refine wp_seq ?_
      refine wp_block ?_
      refine wp_seq ?_
      refine reg ?_
      refine lst rfl (ow_v fr (rn_move (fr.ev rfl)) rfl rfl ?_)
      intro a fr
      refine lst rfl (ow_v fr (rn_nilCheck (fr.ev rfl)) rfl rfl ?_)
      intro a fr
      refine lst rfl (ow_v fr (fa_62_1 (fr.ev rfl)) rfl rfl ?_)
      intro a fr
      refine lst rfl (ow_v fr (rn_load (fr.ev rfl) Try.underlying43 rfl (st.rocell 1 rfl (j := 1) rfl)) rfl rfl ?_)
      intro a fr
      refine lst rfl (ow_v fr (rn_move (fr.ev rfl)) rfl rfl ?_)
      intro a fr
      obtain ⟨b1, o2, eA, st_⟩ := st.elem 3 rfl k hlt (by simp [CI])
      have fr_ := fr
      cases eA
      have st := st_
      have fr := fr_
      clear st_ fr_
      obtain ⟨y, hx_ss_y⟩ : ∃ y, ss[k] = y := ⟨_, rfl⟩
      rw [hx_ss_y] at st
      replace st : St _ [] w [ro b1 (o2 + k * 1) [.int .i64 (y)], row CI 1 3 w0.heap.size (.slice A ((subL ss n k).length) c) ((subL ss n k)), ro g 0 [.slice A1 ns.length c1, .slice (some ⟨b1, o2, none⟩) ss.length c2], els CS 1 A1 ns, els CI 1 (some ⟨b1, o2, none⟩) ss] := st
      refine lst rfl (ow_v fr (rn_at (i := k) (fr.ev rfl) (fr.ev rfl) Try.underlying43 sz_3 (by omega) (by rfl)) rfl rfl ?_)
      intro a fr
      refine lst rfl (ow_v fr (rn_load (fr.ev rfl) Try.underlying3 rfl (st.rocell 0 rfl (j := 0) rfl)) rfl rfl ?_)
      intro a fr
      refine lst rfl (ow_v fr (rn_move (fr.ev rfl)) rfl rfl ?_)
      intro a fr
      refine lst rfl (ow_v fr (rn_as (v' := .bool true) (rn_eql (fr.ev rfl) (fr.ev rfl)) (congrArg Value.bool (by rw [← hx_ss_y, hy]; simp))) rfl rfl ?_)
      intro a fr
      refine lst rfl (ow_v fr (rn_move (fr.ev rfl)) rfl rfl ?_)
      intro a fr
      refine lst_y (wanted_of fr rfl rfl rfl rfl) (ow_v fr (rn_move (fr.ev rfl)) rfl rfl ?_)
      intro a fr
      refine lst_y (wanted_of fr rfl rfl rfl rfl) (ow_v fr (rn_as (v' := .bool true) (rn_geq (fr.ev rfl) (fr.ev rfl)) (congrArg Value.bool (decide_eq_true (by omega)))) rfl rfl ?_)
      intro a fr
      refine lst rfl (ow_v fr (rn_pick_t (fr.ev rfl) (fr.ev rfl)) rfl rfl ?_)
      intro a fr
      refine wpList_nil ?_
      refine then_n ?_
      refine cond_t fr rfl rfl ?_
      refine reg ?_
      refine lst rfl (ow_v fr (rn_move (fr.ev rfl)) rfl rfl ?_)
      intro a fr
      refine lst rfl (ow_v fr (rn_move (fr.ev rfl)) rfl rfl ?_)
      intro a fr
      refine lst rfl (ow_bslice (E := 3) fr st rfl [.int .i64 ((k : Nat))] (fun w => by simp only [List.map_toArray, List.map_cons, List.map_nil]; rw [fr.ev (x := .tmp 30) rfl]; kernel_rfl) rfl rfl ?_)
      intro a w b3 fr st
      refine lst rfl (ow_append1 fr st 2 0 ((((k : Nat)) : Int)) rfl rfl rfl rfl rfl Try.underlying43 inf_3 (by rfl) (by decide) (fun _ => rfl) rfl (by (have := subL_len ss n k; have := hf.len; have := hf.high; simp; omega)) (by unfold maxLen; (have := subL_len ss n k; have := hf.len; have := hf.high; simp; omega)) (Nat.le_refl _) st.agr.size rfl rfl ?_)
      intro a w Ax4 cx5 fr (st : St _ [] w [.blk b3 [.int .i64 ((k : Nat))] 3, ro b1 (o2 + k * 1) [.int .i64 (y)], row CI 1 3 w0.heap.size (.slice Ax4 (((subL ss n k) ++ [(((k : Nat)) : Int)]).length) cx5) (((subL ss n k) ++ [(((k : Nat)) : Int)])), ro g 0 [.slice A1 ns.length c1, .slice (some ⟨b1, o2, none⟩) ss.length c2], els CS 1 A1 ns, els CI 1 (some ⟨b1, o2, none⟩) ss])
      refine lst rfl (ow_v fr (rn_assign (fr.ev rfl)) rfl rfl ?_)
      intro a fr
      refine wpList_nil ?_
      refine blk_n ?_
      refine then_n ?_
      refine reg ?_
      refine lst rfl (ow_v fr (rn_move (fr.ev rfl)) rfl rfl ?_)
      intro a fr
      refine lst rfl (ow_v fr (rn_add (c := ((k + 1 : Nat) : Int)) (fr.ev rfl) (fr.ev rfl) (wr_i64e (by omega) (by omega) (by omega))) rfl rfl ?_)
      intro a fr
      refine lst rfl (ow_v fr (rn_assign (fr.ev rfl)) rfl rfl ?_)
      intro a fr
      refine wpList_nil ?_
      rw [subL_y (hgd.trans hy)] at st
      rw [subL_y (hgd.trans hy)] at fr
      refine then_n ⟨ss.length - (k + 1), ?_, k + 1, Ax4, cx5, (by omega), rfl, fr.prune ⟨rfl, rfl, rfl, rfl, trivial⟩, st.sub (.cons _ (.cons _ (.cons_cons _ (.cons_cons _ (.cons_cons _ (.cons_cons _ .slnil))))))⟩
      omega
    · refine wp_seq ?_
      refine wp_seq ?_
      refine reg ?_
      refine lst rfl (ow_v fr (rn_move (fr.ev rfl)) rfl rfl ?_)
      intro a fr
      refine lst rfl (ow_v fr (rn_move (fr.ev rfl)) rfl rfl ?_)
      intro a fr
      refine lst rfl (ow_v fr (rn_nilCheck (fr.ev rfl)) rfl rfl ?_)
      intro a fr
      refine lst rfl (ow_v fr (fa_62_1 (fr.ev rfl)) rfl rfl ?_)
      intro a fr
      refine lst rfl (ow_v fr (rn_load (fr.ev rfl) Try.underlying43 rfl (st.rocell 1 rfl (j := 1) rfl)) rfl rfl ?_)
      intro a fr
      refine lst rfl (ow_v fr (rn_len (fr.ev rfl) Try.underlying43) rfl rfl ?_)
      intro a fr
      refine lst rfl (ow_v fr (rn_as (v' := .bool true) (rn_lss (fr.ev rfl) (fr.ev rfl)) (congrArg Value.bool (decide_eq_true (by omega)))) rfl rfl ?_)
      intro a fr
      refine wpList_nil ?_
      refine then_n ?_
      refine cond_t fr rfl rfl ?_
      refine wp_skip ?_
      refine then_n ?_
      refine wp_seq ?_
      refine wp_block ?_
      refine wp_seq ?_
      refine reg ?_
      refine lst rfl (ow_v fr (rn_move (fr.ev rfl)) rfl rfl ?_)
      intro a fr
      refine lst rfl (ow_v fr (rn_nilCheck (fr.ev rfl)) rfl rfl ?_)
      intro a fr
      refine lst rfl (ow_v fr (fa_62_1 (fr.ev rfl)) rfl rfl ?_)
      intro a fr
      refine lst rfl (ow_v fr (rn_load (fr.ev rfl) Try.underlying43 rfl (st.rocell 1 rfl (j := 1) rfl)) rfl rfl ?_)
      intro a fr
      refine lst rfl (ow_v fr (rn_move (fr.ev rfl)) rfl rfl ?_)
      intro a fr
      obtain ⟨b6, o7, eA, st_⟩ := st.elem 3 rfl k hlt (by simp [CI])
      have fr_ := fr
      cases eA
      have st := st_
      have fr := fr_
      clear st_ fr_
      obtain ⟨y, hx_ss_y⟩ : ∃ y, ss[k] = y := ⟨_, rfl⟩
      rw [hx_ss_y] at st
      replace st : St _ [] w [ro b6 (o7 + k * 1) [.int .i64 (y)], row CI 1 3 w0.heap.size (.slice A ((subL ss n k).length) c) ((subL ss n k)), ro g 0 [.slice A1 ns.length c1, .slice (some ⟨b6, o7, none⟩) ss.length c2], els CS 1 A1 ns, els CI 1 (some ⟨b6, o7, none⟩) ss] := st
      refine lst rfl (ow_v fr (rn_at (i := k) (fr.ev rfl) (fr.ev rfl) Try.underlying43 sz_3 (by omega) (by rfl)) rfl rfl ?_)
      intro a fr
      refine lst rfl (ow_v fr (rn_load (fr.ev rfl) Try.underlying3 rfl (st.rocell 0 rfl (j := 0) rfl)) rfl rfl ?_)
      intro a fr
      refine lst rfl (ow_v fr (rn_move (fr.ev rfl)) rfl rfl ?_)
      intro a fr
      refine lst rfl (ow_v fr (rn_as (v' := .bool false) (rn_eql (fr.ev rfl) (fr.ev rfl)) (congrArg Value.bool (by rw [← hx_ss_y]; simp [hy]))) rfl rfl ?_)
      intro a fr
      refine lst rfl (ow_v fr (rn_move (fr.ev rfl)) rfl rfl ?_)
      intro a fr
      refine lst_n (unwanted_of fr rfl rfl rfl rfl) fr rfl rfl ?_
      intro a fr
      refine lst_n (unwanted_of fr rfl rfl rfl rfl) fr rfl rfl ?_
      intro a fr
      refine lst rfl (ow_v fr (rn_pick_f (fr.ev rfl) (fr.ev rfl)) rfl rfl ?_)
      intro a fr
      refine wpList_nil ?_
      refine then_n ?_
      refine cond_f fr rfl rfl ?_
      refine wp_skip ?_
      refine blk_n ?_
      refine then_n ?_
      refine reg ?_
      refine lst rfl (ow_v fr (rn_move (fr.ev rfl)) rfl rfl ?_)
      intro a fr
      refine lst rfl (ow_v fr (rn_add (c := ((k + 1 : Nat) : Int)) (fr.ev rfl) (fr.ev rfl) (wr_i64e (by omega) (by omega) (by omega))) rfl rfl ?_)
      intro a fr
      refine lst rfl (ow_v fr (rn_assign (fr.ev rfl)) rfl rfl ?_)
      intro a fr
      refine wpList_nil ?_
      rw [subL_n (fun h => hy (hgd.symm.trans h))] at st
      rw [subL_n (fun h => hy (hgd.symm.trans h))] at fr
      refine then_n ⟨ss.length - (k + 1), ?_, k + 1, A, c, (by omega), rfl, fr.prune ⟨rfl, rfl, rfl, rfl, trivial⟩, st.sub (.cons _ (.cons_cons _ (.cons_cons _ (.cons_cons _ (.cons_cons _ .slnil)))))⟩
      omega
  · have hke : k = ss.length := by omega
    subst hke
    refine wp_seq ?_
    refine wp_seq ?_
    refine reg ?_
    refine lst rfl (ow_v fr (rn_move (fr.ev rfl)) rfl rfl ?_)
    intro a fr
    refine lst rfl (ow_v fr (rn_move (fr.ev rfl)) rfl rfl ?_)
    intro a fr
    refine lst rfl (ow_v fr (rn_nilCheck (fr.ev rfl)) rfl rfl ?_)
    intro a fr
    refine lst rfl (ow_v fr (fa_62_1 (fr.ev rfl)) rfl rfl ?_)
    intro a fr
    refine lst rfl (ow_v fr (rn_load (fr.ev rfl) Try.underlying43 rfl (st.rocell 1 rfl (j := 1) rfl)) rfl rfl ?_)
    intro a fr
    refine lst rfl (ow_v fr (rn_len (fr.ev rfl) Try.underlying43) rfl rfl ?_)
    intro a fr
    refine lst rfl (ow_v fr (rn_as (v' := .bool false) (rn_lss (fr.ev rfl) (fr.ev rfl)) (congrArg Value.bool (decide_eq_false (by omega)))) rfl rfl ?_)
    intro a fr
    refine wpList_nil ?_
    refine then_n ?_
    refine cond_f fr rfl rfl ?_
    refine wp_exit ?_
    refine then_x ?_
    refine then_x ?_
    refine blk_x ?_
    refine then_n ?_
    refine wp_seq ?_
    refine reg ?_
    refine lst rfl (ow_v fr (rn_move (fr.ev rfl)) rfl rfl ?_)
    intro a fr
    refine lst rfl (ow_v fr (rn_assign (fr.ev rfl)) rfl rfl ?_)
    intro a fr
    refine wpList_nil ?_
    refine then_n ?_
    refine wp_ret ?_
    refine ret1 Try.results26 fr (rv_tmp fr rfl) ?_
    exact ⟨A, c, rfl, (st.get 0 rfl).1, st.agr⟩

end Go.Proofs.Ytnggnacaghcclaa.H8
