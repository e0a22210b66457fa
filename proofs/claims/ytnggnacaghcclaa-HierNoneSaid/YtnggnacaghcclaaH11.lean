import Derived.Test.YtnggnacaghcclaaH10
set_option linter.unusedVariables false
set_option linter.unusedSimpArgs false
namespace Go.Proofs.Ytnggnacaghcclaa.H11
open Go.RowKit Go.Proofs.Ytnggnacaghcclaa.LibA Go.Proofs.Ytnggnacaghcclaa.LibC Go.Proofs.Ytnggnacaghcclaa.LibS Go.Proofs.Ytnggnacaghcclaa.LibR Go.Proofs.Ytnggnacaghcclaa.LibT Go.Proofs.Ytnggnacaghcclaa.LibU Go.Proofs.Ytnggnacaghcclaa.LibV Go.Proofs.Ytnggnacaghcclaa.LibW Go.Proofs.Ytnggnacaghcclaa.LibX Go.Proofs.Ytnggnacaghcclaa.LibZ Go.Proofs.Ytnggnacaghcclaa.H1 Go.Proofs.Ytnggnacaghcclaa.H2 Go.Proofs.Ytnggnacaghcclaa.H3 Go.Proofs.Ytnggnacaghcclaa.H8 Go.Proofs.Ytnggnacaghcclaa.H10

theorem subs_t (g m : Nat) (A1 A2 : Option Addr) (c1 c2 : Nat) (ns : List ByteArray) (ss : List Int) (hf : HF ns.length ss) (n : Int) (hn : 0 ≤ n ∧ n < ns.length) (w0 : World) (hok : HOk g m A1 A2 c1 c2 ns ss w0) : Calls Try.prog 22 #[.pointer (some ⟨g, 0, none⟩), .int .i64 n] w0 fun e w' => ∃ A c, e = .returned (.slice A (subL ss n ss.length).length (subL ss n ss.length).length) ∧ Row CI 1 3 w0.heap.size (.slice A (subL ss n ss.length).length c) (subL ss n ss.length) w' ∧ Agr [] w0 w' := by
  have st : St w0 [] w0 [ro g 0 [.slice A1 ns.length c1, .slice A2 ss.length c2, (.map (some m))], els CS 1 A1 ns, els CI 1 A2 ss, mapRo kS vN m ((mL ns))] := hok.st
  clear hok
  refine enter Try.func22 rfl Try.ntmps22 (by simp) ?_
  intro a fr
  refine wp_seq ?_
  refine reg ?_
  refine lst rfl (ow_v fr (rn_assign (fr.ev rfl)) rfl rfl ?_)
  intro a fr
  refine wpList_nil ?_
  refine then_n ?_
  refine wp_seq ?_
  refine wp_seq ?_
  refine reg ?_
  refine lst rfl (ow_v fr (rn_move (fr.ev rfl)) rfl rfl ?_)
  intro a fr
  refine lst rfl (ow_v fr (rn_move (fr.ev rfl)) rfl rfl ?_)
  intro a fr
  refine lst rfl (ow_call fr rfl rfl Try.call27 (is_t g m _ _ c1 c2 ns ss n hn _ (hok4 (st.get 0 rfl) (st.get 1 rfl) (st.get 2 rfl) (st.get 3 rfl))) rfl rfl ?_)
  rintro e w ⟨rfl, hag⟩
  refine ⟨_, rfl, ?_⟩
  intro a fr
  have st := st.keep hag
  clear hag
  refine lst rfl (ow_v fr (rn_not (fr.ev rfl)) rfl rfl ?_)
  intro a fr
  refine wpList_nil ?_
  refine then_n ?_
  refine cond_f fr rfl rfl ?_
  refine wp_skip ?_
  refine then_n ?_
  refine wp_seq ?_
  refine reg ?_
  refine lst rfl (ow_v fr (rn_assign (fr.ev rfl)) rfl rfl ?_)
  intro a fr
  refine wpList_nil ?_
  refine then_n ?_
  refine wp_seq ?_
  refine wp_seq ?_
  refine reg ?_
  refine lst rfl (ow_v fr (rn_move (fr.ev rfl)) rfl rfl ?_)
  intro a fr
  refine lst rfl (ow_v fr (rn_nilCheck (fr.ev rfl)) rfl rfl ?_)
  intro a fr
  refine lst rfl (ow_v fr (fa_48_1 (fr.ev rfl)) rfl rfl ?_)
  intro a fr
  refine lst rfl (ow_v fr (rn_load (fr.ev rfl) Try.underlying43 rfl (st.rocell 0 rfl (j := 1) rfl)) rfl rfl ?_)
  intro a fr
  refine lst rfl (ow_v fr (rn_len (fr.ev rfl) Try.underlying43) rfl rfl ?_)
  intro a fr
  refine lst rfl (ow_v fr (rn_move (fr.ev rfl)) rfl rfl ?_)
  intro a fr
  refine wpList_nil ?_
  refine then_n ?_
  refine wp_block ?_
  have hfl := hf.len
  have hfh := hf.high
  have st := st.nil (E := Int) CI 1 3 w0.heap.size (Nat.le_refl _)
  refine wp_loop_ghost (fun mz a w => ∃ (k : Nat) (A : Option Addr) (c : Nat), (k ≤ ss.length) ∧ mz = ss.length - k ∧ FrL 32 a [(1, .int .i64 (n)), (5, .slice A ((subL ss n k).length) c), (15, .slice A2 ss.length c2), (16, .int .i64 ((ss.length : Nat))), (17, .int .i64 ((k : Nat)))] ∧ St w0 [] w [row CI 1 3 w0.heap.size (.slice A ((subL ss n k).length) c) ((subL ss n k)), ro g 0 [.slice A1 ns.length c1, .slice A2 ss.length c2, (.map (some m))], els CS 1 A1 ns, els CI 1 A2 ss, mapRo kS vN m ((mL ns))]) _ ⟨0, none, 0, (Nat.zero_le _), rfl, fr.prune ⟨rfl, rfl, rfl, rfl, rfl, trivial⟩, st⟩ ?_
  clear fr st
  intro mz a w hI
  obtain ⟨k, A, c, hk, hmz, fr, st⟩ := hI
  by_cases hlt : k < ss.length
  · have hgd : ss.getD k (-9) = ss[k] := by simp [hlt]
    by_cases hy : ss[k] = n
    · refine wp_seq ?_
      refine reg ?_
      refine lst rfl (ow_v fr (rn_as (v' := .bool true) (rn_lss (fr.ev rfl) (fr.ev rfl)) (congrArg Value.bool (decide_eq_true (by omega)))) rfl rfl ?_)
      intro a fr
      refine wpList_nil ?_
      refine then_n ?_
      refine wp_seq ?_
      refine cond_t fr rfl rfl ?_
      refine wp_skip ?_
      refine then_n ?_
      refine wp_seq ?_
      refine wp_block ?_
      refine wp_seq ?_
      refine reg ?_
      refine lst rfl (ow_v fr (rn_move (fr.ev rfl)) rfl rfl ?_)
      intro a fr
      obtain ⟨b1, o2, eA, st_⟩ := st.elem 3 rfl k hlt (by simp [CI])
      have fr_ := fr
      cases eA
      have st := st_
      have fr := fr_
      clear st_ fr_
      obtain ⟨y, hx_ss_y⟩ : ∃ y, ss[k] = y := ⟨_, rfl⟩
      rw [hx_ss_y] at st
      replace st : St _ [] w [ro b1 (o2 + k * 1) [.int .i64 (y)], row CI 1 3 w0.heap.size (.slice A ((subL ss n k).length) c) ((subL ss n k)), ro g 0 [.slice A1 ns.length c1, .slice (some ⟨b1, o2, none⟩) ss.length c2, (.map (some m))], els CS 1 A1 ns, els CI 1 (some ⟨b1, o2, none⟩) ss, mapRo kS vN m ((mL ns))] := st
      refine lst rfl (ow_v fr (rn_at (i := k) (fr.ev rfl) (fr.ev rfl) Try.underlying43 sz_3 (by omega) (by rfl)) rfl rfl ?_)
      intro a fr
      refine lst rfl (ow_v fr (rn_load (fr.ev rfl) Try.underlying3 rfl (st.rocell 0 rfl (j := 0) rfl)) rfl rfl ?_)
      intro a fr
      refine lst rfl (ow_v fr (rn_assign (fr.ev rfl)) rfl rfl ?_)
      intro a fr
      refine lst rfl (ow_v fr (rn_assign (fr.ev rfl)) rfl rfl ?_)
      intro a fr
      refine wpList_nil ?_
      refine then_n ?_
      refine wp_seq ?_
      refine reg ?_
      refine lst rfl (ow_v fr (rn_move (fr.ev rfl)) rfl rfl ?_)
      intro a fr
      refine lst rfl (ow_v fr (rn_move (fr.ev rfl)) rfl rfl ?_)
      intro a fr
      refine lst rfl (ow_v fr (rn_as (v' := .bool true) (rn_eql (fr.ev rfl) (fr.ev rfl)) (congrArg Value.bool (by rw [← hx_ss_y, hy]; simp))) rfl rfl ?_)
      intro a fr
      refine wpList_nil ?_
      refine then_n ?_
      refine cond_t fr rfl rfl ?_
      refine reg ?_
      refine lst rfl (ow_v fr (rn_move (fr.ev rfl)) rfl rfl ?_)
      intro a fr
      refine lst rfl (ow_v fr (rn_move (fr.ev rfl)) rfl rfl ?_)
      intro a fr
      refine lst rfl (ow_bslice (E := 3) fr st rfl [.int .i64 ((k : Nat))] (fun w => by simp only [List.map_toArray, List.map_cons, List.map_nil]; rw [fr.ev (x := .tmp 26) rfl]; kernel_rfl) rfl rfl ?_)
      intro a w b3 fr st
      refine lst rfl (ow_append1 fr st 2 0 ((((k : Nat)) : Int)) rfl rfl rfl rfl rfl Try.underlying43 inf_3 (by rfl) (by decide) (fun _ => rfl) rfl (by (have := subL_len ss n k; have := hf.len; have := hf.high; simp; omega)) (by unfold maxLen; (have := subL_len ss n k; have := hf.len; have := hf.high; simp; omega)) (Nat.le_refl _) st.agr.size rfl rfl ?_)
      intro a w Ax4 cx5 fr (st : St _ [] w [.blk b3 [.int .i64 ((k : Nat))] 3, ro b1 (o2 + k * 1) [.int .i64 (y)], row CI 1 3 w0.heap.size (.slice Ax4 (((subL ss n k) ++ [(((k : Nat)) : Int)]).length) cx5) (((subL ss n k) ++ [(((k : Nat)) : Int)])), ro g 0 [.slice A1 ns.length c1, .slice (some ⟨b1, o2, none⟩) ss.length c2, (.map (some m))], els CS 1 A1 ns, els CI 1 (some ⟨b1, o2, none⟩) ss, mapRo kS vN m ((mL ns))])
      refine lst rfl (ow_v fr (rn_assign (fr.ev rfl)) rfl rfl ?_)
      intro a fr
      refine wpList_nil ?_
      refine blk_n ?_
      refine then_n ?_
      refine reg ?_
      refine lst rfl (ow_v fr (rn_add (c := ((k + 1 : Nat) : Int)) (fr.ev rfl) (fr.ev rfl) (wr_i64e (by omega) (by omega) (by omega))) rfl rfl ?_)
      intro a fr
      refine lst rfl (ow_v fr (rn_move (fr.ev rfl)) rfl rfl ?_)
      intro a fr
      refine wpList_nil ?_
      rw [subL_y (hgd.trans hy)] at st
      rw [subL_y (hgd.trans hy)] at fr
      refine then_n ⟨ss.length - (k + 1), ?_, k + 1, Ax4, cx5, (by omega), rfl, fr.prune ⟨rfl, rfl, rfl, rfl, rfl, trivial⟩, st.sub (.cons _ (.cons _ (.cons_cons _ (.cons_cons _ (.cons_cons _ (.cons_cons _ (.cons_cons _ .slnil)))))))⟩
      omega
    · refine wp_seq ?_
      refine reg ?_
      refine lst rfl (ow_v fr (rn_as (v' := .bool true) (rn_lss (fr.ev rfl) (fr.ev rfl)) (congrArg Value.bool (decide_eq_true (by omega)))) rfl rfl ?_)
      intro a fr
      refine wpList_nil ?_
      refine then_n ?_
      refine wp_seq ?_
      refine cond_t fr rfl rfl ?_
      refine wp_skip ?_
      refine then_n ?_
      refine wp_seq ?_
      refine wp_block ?_
      refine wp_seq ?_
      refine reg ?_
      refine lst rfl (ow_v fr (rn_move (fr.ev rfl)) rfl rfl ?_)
      intro a fr
      obtain ⟨b6, o7, eA, st_⟩ := st.elem 3 rfl k hlt (by simp [CI])
      have fr_ := fr
      cases eA
      have st := st_
      have fr := fr_
      clear st_ fr_
      obtain ⟨y, hx_ss_y⟩ : ∃ y, ss[k] = y := ⟨_, rfl⟩
      rw [hx_ss_y] at st
      replace st : St _ [] w [ro b6 (o7 + k * 1) [.int .i64 (y)], row CI 1 3 w0.heap.size (.slice A ((subL ss n k).length) c) ((subL ss n k)), ro g 0 [.slice A1 ns.length c1, .slice (some ⟨b6, o7, none⟩) ss.length c2, (.map (some m))], els CS 1 A1 ns, els CI 1 (some ⟨b6, o7, none⟩) ss, mapRo kS vN m ((mL ns))] := st
      refine lst rfl (ow_v fr (rn_at (i := k) (fr.ev rfl) (fr.ev rfl) Try.underlying43 sz_3 (by omega) (by rfl)) rfl rfl ?_)
      intro a fr
      refine lst rfl (ow_v fr (rn_load (fr.ev rfl) Try.underlying3 rfl (st.rocell 0 rfl (j := 0) rfl)) rfl rfl ?_)
      intro a fr
      refine lst rfl (ow_v fr (rn_assign (fr.ev rfl)) rfl rfl ?_)
      intro a fr
      refine lst rfl (ow_v fr (rn_assign (fr.ev rfl)) rfl rfl ?_)
      intro a fr
      refine wpList_nil ?_
      refine then_n ?_
      refine wp_seq ?_
      refine reg ?_
      refine lst rfl (ow_v fr (rn_move (fr.ev rfl)) rfl rfl ?_)
      intro a fr
      refine lst rfl (ow_v fr (rn_move (fr.ev rfl)) rfl rfl ?_)
      intro a fr
      refine lst rfl (ow_v fr (rn_as (v' := .bool false) (rn_eql (fr.ev rfl) (fr.ev rfl)) (congrArg Value.bool (by rw [← hx_ss_y]; simp [hy]))) rfl rfl ?_)
      intro a fr
      refine wpList_nil ?_
      refine then_n ?_
      refine cond_f fr rfl rfl ?_
      refine wp_skip ?_
      refine blk_n ?_
      refine then_n ?_
      refine reg ?_
      refine lst rfl (ow_v fr (rn_add (c := ((k + 1 : Nat) : Int)) (fr.ev rfl) (fr.ev rfl) (wr_i64e (by omega) (by omega) (by omega))) rfl rfl ?_)
      intro a fr
      refine lst rfl (ow_v fr (rn_move (fr.ev rfl)) rfl rfl ?_)
      intro a fr
      refine wpList_nil ?_
      rw [subL_n (fun h => hy (hgd.symm.trans h))] at st
      rw [subL_n (fun h => hy (hgd.symm.trans h))] at fr
      refine then_n ⟨ss.length - (k + 1), ?_, k + 1, A, c, (by omega), rfl, fr.prune ⟨rfl, rfl, rfl, rfl, rfl, trivial⟩, st.sub (.cons _ (.cons_cons _ (.cons_cons _ (.cons_cons _ (.cons_cons _ (.cons_cons _ .slnil))))))⟩
      omega
  · have hke : k = ss.length := by omega
    subst hke
    refine wp_seq ?_
    refine reg ?_
    refine lst rfl (ow_v fr (rn_as (v' := .bool false) (rn_lss (fr.ev rfl) (fr.ev rfl)) (congrArg Value.bool (decide_eq_false (by omega)))) rfl rfl ?_)
    intro a fr
    refine wpList_nil ?_
    refine then_n ?_
    refine wp_seq ?_
    refine cond_f fr rfl rfl ?_
    refine wp_exit ?_
    refine then_x ?_
    refine then_x ?_
    refine blk_x ?_
    refine then_n ?_
    refine wp_seq ?_
    refine reg ?_
    refine lst rfl (ow_v fr (rn_move (fr.ev rfl)) rfl rfl ?_)
    intro a fr
    have hcap := (row_cap CI_len (st.get 0 rfl).1).2.1
    refine lst rfl (ow_call fr rfl rfl Try.call33 (clip_calls _ _ _ hcap _) rfl rfl ?_)
    rintro e w ⟨rfl, hag⟩
    refine ⟨_, rfl, ?_⟩
    intro a fr
    have st := st.keep hag
    clear hag
    refine lst rfl (ow_v fr (rn_assign (fr.ev rfl)) rfl rfl ?_)
    intro a fr
    refine wpList_nil ?_
    refine then_n ?_
    refine wp_ret ?_
    refine ret1 Try.results22 fr (rv_tmp fr rfl) ?_
    exact ⟨A, c, rfl, (st.get 0 rfl).1, st.agr⟩

end Go.Proofs.Ytnggnacaghcclaa.H11
