import Derived.Test.YtnggnacaghcclaaH14
set_option linter.unusedVariables false
set_option linter.unusedSimpArgs false
namespace Go.Proofs.Ytnggnacaghcclaa.H15
open Go.RowKit Go.Proofs.Ytnggnacaghcclaa.LibA Go.Proofs.Ytnggnacaghcclaa.LibC Go.Proofs.Ytnggnacaghcclaa.LibS Go.Proofs.Ytnggnacaghcclaa.LibR Go.Proofs.Ytnggnacaghcclaa.LibT Go.Proofs.Ytnggnacaghcclaa.LibU Go.Proofs.Ytnggnacaghcclaa.LibV Go.Proofs.Ytnggnacaghcclaa.LibW Go.Proofs.Ytnggnacaghcclaa.LibX Go.Proofs.Ytnggnacaghcclaa.LibY Go.Proofs.Ytnggnacaghcclaa.LibZ Go.Proofs.Ytnggnacaghcclaa.LibQ Go.Proofs.Ytnggnacaghcclaa.LibP Go.Proofs.Ytnggnacaghcclaa.H1 Go.Proofs.Ytnggnacaghcclaa.H2 Go.Proofs.Ytnggnacaghcclaa.H3 Go.Proofs.Ytnggnacaghcclaa.H4 Go.Proofs.Ytnggnacaghcclaa.H5 Go.Proofs.Ytnggnacaghcclaa.H6 Go.Proofs.Ytnggnacaghcclaa.H7 Go.Proofs.Ytnggnacaghcclaa.H8 Go.Proofs.Ytnggnacaghcclaa.H9 Go.Proofs.Ytnggnacaghcclaa.H10 Go.Proofs.Ytnggnacaghcclaa.H11 Go.Proofs.Ytnggnacaghcclaa.H12 Go.Proofs.Ytnggnacaghcclaa.H13 Go.Proofs.Ytnggnacaghcclaa.H14
theorem st_one {w0 w : World} {K : List Nat} {b : Nat} {cs : List Value} {t : TypeId} (h : (It.blk b cs t).ok w0 K w) : St w [] w [ro b 0 cs] :=
  St.start_ro fun it hi => by
    simp only [List.mem_singleton] at hi
    subst hi
    exact ⟨ro_of_blk h, rfl⟩
theorem st_two {w0 w : World} {K : List Nat} {b b2 : Nat} {cs cs2 : List Value} {t t2 : TypeId} (h : (It.blk b cs t).ok w0 K w) (h2 : (It.blk b2 cs2 t2).ok w0 K w) : St w [] w [ro b 0 cs, ro b2 0 cs2] :=
  St.start_ro fun it hi => by
    simp only [List.mem_cons, List.not_mem_nil, or_false] at hi
    rcases hi with rfl | rfl
    · exact ⟨ro_of_blk h, rfl⟩
    · exact ⟨ro_of_blk h2, rfl⟩


set_option maxHeartbeats 1000000 in
theorem none_walk (l : List LineD) (LA : Option Addr) (lc : Nat) (n : Int) (hl : l.length ≤ 9223372036854775807) (hl32 : l.length * 32 ≤ 140737488355328) (w0 : World) (ha0 : Els lineC 2 w0 LA l) : Calls Try.prog 6 #[.slice LA l.length lc, .int .i64 n] w0 fun e w' => e = .returned (.bool true) ∧ Below w0.heap.size w0 w' := by
  have st : St w0 [] w0 [els lineC 2 LA l] := (add_ro (start0 w0 []) (by simp [els, It.wr]) rfl (els_ok (C := lineC) (sz := 2) (by decide) (fun x => rfl) ha0))
  clear ha0
  by_cases hfi : Fine l
  · refine enter Try.func6 rfl Try.ntmps6 (by simp) ?_
    intro a fr
    refine wp_seq ?_
    refine reg ?_
    refine lst rfl (ow_v fr (rn_assign (fr.ev rfl)) rfl rfl ?_)
    intro a fr
    refine wpList_nil ?_
    refine then_n ?_
    refine wp_seq ?_
    refine wp_seq ?_
    refine reg ?_
    refine lst rfl (ow_call fr rfl rfl Try.call8 (live_calls _) rfl rfl ?_)
    rintro e w ⟨rfl, hag⟩
    refine ⟨_, rfl, ?_⟩
    intro a fr
    have st := st.keep hag
    clear hag
    refine lst rfl (ow_v fr (rn_not (fr.ev rfl)) rfl rfl ?_)
    intro a fr
    refine wpList_nil ?_
    refine then_n ?_
    refine cond_f fr rfl rfl ?_
    refine wp_skip ?_
    refine then_n ?_
    refine wp_seq ?_
    refine wp_seq ?_
    refine reg ?_
    refine lst rfl (ow_v fr (rn_build (cells := #[.slice none 0 0, .slice none 0 0, .map none]) (by simp only [List.map_toArray, List.map_cons, List.map_nil]; rfl)) rfl rfl ?_)
    intro a fr
    refine lst rfl (ow_box fr st rfl rfl rfl rfl ([.slice none 0 0, .slice none 0 0, .map none]) (by rfl) ?_)
    intro a w b1 fr st
    refine lst rfl (ow_bslice (E := 23) fr st rfl [.pointer none, .pointer (some ⟨b1, 0, none⟩)] (fun w => by simp only [List.map_toArray, List.map_cons, List.map_nil]; rw [fr.ev (x := .tmp 20) rfl]; kernel_rfl) rfl rfl ?_)
    intro a w b2 fr st
    refine lst rfl (ow_v fr (rn_len (fr.ev rfl) Try.underlying49) rfl rfl ?_)
    intro a fr
    refine lst rfl (ow_v fr (rn_move (fr.ev rfl)) rfl rfl ?_)
    intro a fr
    refine wpList_nil ?_
    refine then_n ?_
    refine wp_block ?_
    refine wp_loop_ghost (fun mz a w => ∃ (k : Nat), (k ≤ 2) ∧ mz = 2 - k ∧ FrL 134 a [(0, .slice LA l.length lc), (1, .int .i64 (n)), (21, .slice (some ⟨b2, 0, none⟩) 2 2), (22, .int .i64 2), (23, .int .i64 ((k : Nat)))] ∧ St w0 [] w [.blk b2 [.pointer none, .pointer (some ⟨b1, 0, none⟩)] 23, .blk b1 [.slice none 0 0, .slice none 0 0, .map none] 48, els lineC 2 LA l]) _ ⟨0, (Nat.zero_le _), rfl, fr.prune ⟨rfl, rfl, rfl, rfl, rfl, trivial⟩, st⟩ ?_
    clear fr st
    intro mz a w hI
    obtain ⟨k, hk, hmz, fr, st⟩ := hI
    rcases (by omega : k = 0 ∨ k = 1 ∨ k = 2) with rfl | rfl | rfl
    · replace fr : FrL 134 a [(0, .slice LA l.length lc), (1, .int .i64 (n)), (21, .slice (some ⟨b2, 0, none⟩) 2 2), (22, .int .i64 2), (23, .int .i64 0)] := fr
      refine wp_seq ?_
      refine reg ?_
      refine lst rfl (ow_v fr (rn_as (rn_lss (fr.ev rfl) (fr.ev rfl)) (by rfl)) rfl rfl ?_)
      intro a fr
      refine wpList_nil ?_
      refine then_n ?_
      refine wp_seq ?_
      refine cond_t fr rfl rfl ?_
      refine wp_skip ?_
      refine then_n ?_
      refine wp_seq ?_
      refine wp_block ?_
      refine wp_seq ?_
      refine reg ?_
      refine lst rfl (ow_v fr (rn_at (i := 0) (fr.ev rfl) (fr.ev rfl) Try.underlying49 sz_23 (by omega) (by rfl)) rfl rfl ?_)
      intro a fr
      refine lst rfl (ow_v fr (rn_load (fr.ev rfl) Try.underlying23 rfl (st.cell 0 rfl rfl)) rfl rfl ?_)
      intro a fr
      refine lst rfl (ow_v fr (rn_assign (fr.ev rfl)) rfl rfl ?_)
      intro a fr
      refine wpList_nil ?_
      refine then_n ?_
      refine wp_seq ?_
      refine reg ?_
      refine lst rfl (ow_v fr (rn_move (fr.ev rfl)) rfl rfl ?_)
      intro a fr
      refine lst rfl (ow_call fr rfl rfl Try.call20 (nfind _ _) rfl rfl ?_)
      rintro e w ⟨rfl, hag⟩
      refine ⟨_, rfl, ?_⟩
      intro a fr
      have st := st.keep hag
      clear hag
      refine lst rfl (ow_v fr (rn_move (fr.ev rfl)) rfl rfl ?_)
      intro a fr
      refine lst rfl (ow_v fr (rn_extract (fr.ev rfl) rfl) rfl rfl ?_)
      intro a fr
      refine lst rfl (ow_v fr (rn_extract (fr.ev rfl) rfl) rfl rfl ?_)
      intro a fr
      refine lst rfl (ow_v fr (rn_assign (fr.ev rfl)) rfl rfl ?_)
      intro a fr
      refine lst rfl (ow_v fr (rn_assign (fr.ev rfl)) rfl rfl ?_)
      intro a fr
      refine wpList_nil ?_
      refine then_n ?_
      refine wp_seq ?_
      refine reg ?_
      refine lst rfl (ow_v fr (rn_move (fr.ev rfl)) rfl rfl ?_)
      intro a fr
      refine lst rfl (ow_call fr rfl rfl Try.call9 (nlen _) rfl rfl ?_)
      rintro e w ⟨rfl, hag⟩
      refine ⟨_, rfl, ?_⟩
      intro a fr
      have st := st.keep hag
      clear hag
      refine lst rfl (ow_v fr (rn_as (rn_neq (fr.ev rfl) (fr.ev rfl)) (by rfl)) rfl rfl ?_)
      intro a fr
      refine lst rfl (ow_v fr (rn_move (fr.ev rfl)) rfl rfl ?_)
      intro a fr
      refine lst_y (wanted_of fr rfl rfl rfl rfl) (ow_v fr (rn_move (fr.ev rfl)) rfl rfl ?_)
      intro a fr
      refine lst_y (wanted_of fr rfl rfl rfl rfl) (ow_v fr (rn_move (fr.ev rfl)) rfl rfl ?_)
      intro a fr
      refine lst_y (wanted_of fr rfl rfl rfl rfl) (ow_call fr rfl rfl Try.call21 (nname _ _) rfl rfl ?_)
      rintro e w ⟨rfl, hag⟩
      refine ⟨_, rfl, ?_⟩
      intro a fr
      have st := st.keep hag
      clear hag
      refine lst_y (wanted_of fr rfl rfl rfl rfl) (ow_v fr (rn_as (v' := .bool false) (rn_nes Try.underlying9 (fr.ev rfl) (fr.ev rfl)) (congrArg Value.bool (by rw [(bytes_beq _ _).2 rfl]; rfl))) rfl rfl ?_)
      intro a fr
      refine lst rfl (ow_v fr (rn_pick_f (fr.ev rfl) (fr.ev rfl)) rfl rfl ?_)
      intro a fr
      refine lst rfl (ow_v fr (rn_move (fr.ev rfl)) rfl rfl ?_)
      intro a fr
      refine lst_y (wanted_of fr rfl rfl rfl rfl) (ow_v fr (rn_move (fr.ev rfl)) rfl rfl ?_)
      intro a fr
      refine lst rfl (ow_v fr (rn_pick_f (fr.ev rfl) (fr.ev rfl)) rfl rfl ?_)
      intro a fr
      refine lst rfl (ow_v fr (rn_move (fr.ev rfl)) rfl rfl ?_)
      intro a fr
      refine lst_y (wanted_of fr rfl rfl rfl rfl) (ow_v fr (rn_move (fr.ev rfl)) rfl rfl ?_)
      intro a fr
      refine lst_y (wanted_of fr rfl rfl rfl rfl) (ow_v fr (rn_move (fr.ev rfl)) rfl rfl ?_)
      intro a fr
      refine lst_y (wanted_of fr rfl rfl rfl rfl) (ow_call fr rfl rfl Try.call11 (nsuper _ _) rfl rfl ?_)
      rintro e w ⟨rfl, hag⟩
      refine ⟨_, rfl, ?_⟩
      intro a fr
      have st := st.keep hag
      clear hag
      refine lst_y (wanted_of fr rfl rfl rfl rfl) (ow_v fr (rn_as (rn_neq (fr.ev rfl) (fr.ev rfl)) (by rfl)) rfl rfl ?_)
      intro a fr
      refine lst rfl (ow_v fr (rn_pick_f (fr.ev rfl) (fr.ev rfl)) rfl rfl ?_)
      intro a fr
      refine lst rfl (ow_v fr (rn_move (fr.ev rfl)) rfl rfl ?_)
      intro a fr
      refine lst_y (wanted_of fr rfl rfl rfl rfl) (ow_v fr (rn_move (fr.ev rfl)) rfl rfl ?_)
      intro a fr
      refine lst_y (wanted_of fr rfl rfl rfl rfl) (ow_v fr (rn_move (fr.ev rfl)) rfl rfl ?_)
      intro a fr
      refine lst_y (wanted_of fr rfl rfl rfl rfl) (ow_v fr (rn_move (fr.ev rfl)) rfl rfl ?_)
      intro a fr
      refine lst_y (wanted_of fr rfl rfl rfl rfl) (ow_call fr rfl rfl Try.call10 (nunder _ _ _) rfl rfl ?_)
      rintro e w ⟨rfl, hag⟩
      refine ⟨_, rfl, ?_⟩
      intro a fr
      have st := st.keep hag
      clear hag
      refine lst rfl (ow_v fr (rn_pick_f (fr.ev rfl) (fr.ev rfl)) rfl rfl ?_)
      intro a fr
      refine lst rfl (ow_v fr (rn_move (fr.ev rfl)) rfl rfl ?_)
      intro a fr
      refine lst_y (wanted_of fr rfl rfl rfl rfl) (ow_v fr (rn_move (fr.ev rfl)) rfl rfl ?_)
      intro a fr
      refine lst_y (wanted_of fr rfl rfl rfl rfl) (ow_v fr (rn_move (fr.ev rfl)) rfl rfl ?_)
      intro a fr
      refine lst_y (wanted_of fr rfl rfl rfl rfl) (ow_v fr (rn_move (fr.ev rfl)) rfl rfl ?_)
      intro a fr
      refine lst_y (wanted_of fr rfl rfl rfl rfl) (ow_call fr rfl rfl Try.call13 (ncommon _ _ _) rfl rfl ?_)
      rintro e w ⟨rfl, hag⟩
      refine ⟨_, rfl, ?_⟩
      intro a fr
      have st := st.keep hag
      clear hag
      refine lst_y (wanted_of fr rfl rfl rfl rfl) (ow_v fr (rn_as (rn_neq (fr.ev rfl) (fr.ev rfl)) (by rfl)) rfl rfl ?_)
      intro a fr
      refine lst rfl (ow_v fr (rn_pick_f (fr.ev rfl) (fr.ev rfl)) rfl rfl ?_)
      intro a fr
      refine lst rfl (ow_v fr (rn_move (fr.ev rfl)) rfl rfl ?_)
      intro a fr
      refine lst_y (wanted_of fr rfl rfl rfl rfl) (ow_v fr (rn_move (fr.ev rfl)) rfl rfl ?_)
      intro a fr
      refine lst_y (wanted_of fr rfl rfl rfl rfl) (ow_v fr (rn_move (fr.ev rfl)) rfl rfl ?_)
      intro a fr
      refine lst_y (wanted_of fr rfl rfl rfl rfl) (ow_call fr rfl rfl Try.call12 (ndepth _ _) rfl rfl ?_)
      rintro e w ⟨rfl, hag⟩
      refine ⟨_, rfl, ?_⟩
      intro a fr
      have st := st.keep hag
      clear hag
      refine lst_y (wanted_of fr rfl rfl rfl rfl) (ow_v fr (rn_as (rn_neq (fr.ev rfl) (fr.ev rfl)) (by rfl)) rfl rfl ?_)
      intro a fr
      refine lst rfl (ow_v fr (rn_pick_f (fr.ev rfl) (fr.ev rfl)) rfl rfl ?_)
      intro a fr
      refine lst rfl (ow_v fr (rn_move (fr.ev rfl)) rfl rfl ?_)
      intro a fr
      refine lst_y (wanted_of fr rfl rfl rfl rfl) (ow_v fr (rn_move (fr.ev rfl)) rfl rfl ?_)
      intro a fr
      refine lst_y (wanted_of fr rfl rfl rfl rfl) (ow_v fr (rn_move (fr.ev rfl)) rfl rfl ?_)
      intro a fr
      refine lst_y (wanted_of fr rfl rfl rfl rfl) (ow_call fr rfl rfl Try.call22 (nsubs _ _) rfl rfl ?_)
      rintro e w ⟨rfl, hag⟩
      refine ⟨_, rfl, ?_⟩
      intro a fr
      have st := st.keep hag
      clear hag
      refine lst_y (wanted_of fr rfl rfl rfl rfl) (ow_v fr (rn_len (fr.ev rfl) Try.underlying43) rfl rfl ?_)
      intro a fr
      refine lst_y (wanted_of fr rfl rfl rfl rfl) (ow_v fr (rn_as (rn_neq (fr.ev rfl) (fr.ev rfl)) (by rfl)) rfl rfl ?_)
      intro a fr
      refine lst rfl (ow_v fr (rn_pick_f (fr.ev rfl) (fr.ev rfl)) rfl rfl ?_)
      intro a fr
      refine lst rfl (ow_v fr (rn_move (fr.ev rfl)) rfl rfl ?_)
      intro a fr
      refine lst_y (wanted_of fr rfl rfl rfl rfl) (ow_v fr (rn_move (fr.ev rfl)) rfl rfl ?_)
      intro a fr
      refine lst_y (wanted_of fr rfl rfl rfl rfl) (ow_call fr rfl rfl Try.call18 (order_calls _ _) rfl rfl ?_)
      rintro e w ⟨q3, rfl, st2, hnw⟩
      refine ⟨_, rfl, ?_⟩
      intro a fr
      have st := st.join st2 (by intro it hi b hb; simp at hi; subst hi; simp [It.fp] at hb; subst hb; exact hnw)
      clear st2 hnw
      replace st : St _ [] w [.blk q3 [.pointer none] 23, .blk b2 [.pointer none, .pointer (some ⟨b1, 0, none⟩)] 23, .blk b1 [.slice none 0 0, .slice none 0 0, .map none] 48, els lineC 2 LA l] := st
      refine lst_y (wanted_of fr rfl rfl rfl rfl) (ow_call fr rfl rfl Try.call17 (tells_none0 (st_one (st.get 0 rfl))) rfl rfl ?_)
      rintro e w ⟨rfl, hag⟩
      refine ⟨_, rfl, ?_⟩
      intro a fr
      have st := st.keep hag
      clear hag
      refine lst_y (wanted_of fr rfl rfl rfl rfl) (ow_v fr (rn_not (fr.ev rfl)) rfl rfl ?_)
      intro a fr
      refine lst rfl (ow_v fr (rn_pick_f (fr.ev rfl) (fr.ev rfl)) rfl rfl ?_)
      intro a fr
      refine wpList_nil ?_
      refine then_n ?_
      refine cond_f fr rfl rfl ?_
      refine wp_skip ?_
      refine blk_n ?_
      refine then_n ?_
      refine reg ?_
      refine lst rfl (ow_v fr (rn_add (c := 1) (fr.ev rfl) (fr.ev rfl) (wr_i64e (by omega) (by omega) (by omega))) rfl rfl ?_)
      intro a fr
      refine lst rfl (ow_v fr (rn_move (fr.ev rfl)) rfl rfl ?_)
      intro a fr
      refine wpList_nil ?_
      refine then_n ⟨2 - 1, ?_, 1, (by omega), rfl, fr.prune ⟨rfl, rfl, rfl, rfl, rfl, trivial⟩, st.sub (.cons _ (.cons_cons _ (.cons_cons _ (.cons_cons _ .slnil))))⟩
      omega
    · replace fr : FrL 134 a [(0, .slice LA l.length lc), (1, .int .i64 (n)), (21, .slice (some ⟨b2, 0, none⟩) 2 2), (22, .int .i64 2), (23, .int .i64 1)] := fr
      refine wp_seq ?_
      refine reg ?_
      refine lst rfl (ow_v fr (rn_as (rn_lss (fr.ev rfl) (fr.ev rfl)) (by rfl)) rfl rfl ?_)
      intro a fr
      refine wpList_nil ?_
      refine then_n ?_
      refine wp_seq ?_
      refine cond_t fr rfl rfl ?_
      refine wp_skip ?_
      refine then_n ?_
      refine wp_seq ?_
      refine wp_block ?_
      refine wp_seq ?_
      refine reg ?_
      refine lst rfl (ow_v fr (rn_at (i := 1) (fr.ev rfl) (fr.ev rfl) Try.underlying49 sz_23 (by omega) (by rfl)) rfl rfl ?_)
      intro a fr
      refine lst rfl (ow_v fr (rn_load (fr.ev rfl) Try.underlying23 rfl (st.cell 0 rfl rfl)) rfl rfl ?_)
      intro a fr
      refine lst rfl (ow_v fr (rn_assign (fr.ev rfl)) rfl rfl ?_)
      intro a fr
      refine wpList_nil ?_
      refine then_n ?_
      refine wp_seq ?_
      refine reg ?_
      refine lst rfl (ow_v fr (rn_move (fr.ev rfl)) rfl rfl ?_)
      intro a fr
      refine lst rfl (ow_call fr rfl rfl Try.call20 (zfind _ _ _ (ro_of_blk (st.get 1 rfl))) rfl rfl ?_)
      rintro e w ⟨rfl, hag⟩
      refine ⟨_, rfl, ?_⟩
      intro a fr
      have st := st.keep hag
      clear hag
      refine lst rfl (ow_v fr (rn_move (fr.ev rfl)) rfl rfl ?_)
      intro a fr
      refine lst rfl (ow_v fr (rn_extract (fr.ev rfl) rfl) rfl rfl ?_)
      intro a fr
      refine lst rfl (ow_v fr (rn_extract (fr.ev rfl) rfl) rfl rfl ?_)
      intro a fr
      refine lst rfl (ow_v fr (rn_assign (fr.ev rfl)) rfl rfl ?_)
      intro a fr
      refine lst rfl (ow_v fr (rn_assign (fr.ev rfl)) rfl rfl ?_)
      intro a fr
      refine wpList_nil ?_
      refine then_n ?_
      refine wp_seq ?_
      refine reg ?_
      refine lst rfl (ow_v fr (rn_move (fr.ev rfl)) rfl rfl ?_)
      intro a fr
      refine lst rfl (ow_call fr rfl rfl Try.call9 (zlen _ _ (ro_of_blk (st.get 1 rfl))) rfl rfl ?_)
      rintro e w ⟨rfl, hag⟩
      refine ⟨_, rfl, ?_⟩
      intro a fr
      have st := st.keep hag
      clear hag
      refine lst rfl (ow_v fr (rn_as (rn_neq (fr.ev rfl) (fr.ev rfl)) (by rfl)) rfl rfl ?_)
      intro a fr
      refine lst rfl (ow_v fr (rn_move (fr.ev rfl)) rfl rfl ?_)
      intro a fr
      refine lst_y (wanted_of fr rfl rfl rfl rfl) (ow_v fr (rn_move (fr.ev rfl)) rfl rfl ?_)
      intro a fr
      refine lst_y (wanted_of fr rfl rfl rfl rfl) (ow_v fr (rn_move (fr.ev rfl)) rfl rfl ?_)
      intro a fr
      refine lst_y (wanted_of fr rfl rfl rfl rfl) (ow_call fr rfl rfl Try.call21 (zname _ _ _ (ro_of_blk (st.get 1 rfl))) rfl rfl ?_)
      rintro e w ⟨rfl, hag⟩
      refine ⟨_, rfl, ?_⟩
      intro a fr
      have st := st.keep hag
      clear hag
      refine lst_y (wanted_of fr rfl rfl rfl rfl) (ow_v fr (rn_as (v' := .bool false) (rn_nes Try.underlying9 (fr.ev rfl) (fr.ev rfl)) (congrArg Value.bool (by rw [(bytes_beq _ _).2 rfl]; rfl))) rfl rfl ?_)
      intro a fr
      refine lst rfl (ow_v fr (rn_pick_f (fr.ev rfl) (fr.ev rfl)) rfl rfl ?_)
      intro a fr
      refine lst rfl (ow_v fr (rn_move (fr.ev rfl)) rfl rfl ?_)
      intro a fr
      refine lst_y (wanted_of fr rfl rfl rfl rfl) (ow_v fr (rn_move (fr.ev rfl)) rfl rfl ?_)
      intro a fr
      refine lst rfl (ow_v fr (rn_pick_f (fr.ev rfl) (fr.ev rfl)) rfl rfl ?_)
      intro a fr
      refine lst rfl (ow_v fr (rn_move (fr.ev rfl)) rfl rfl ?_)
      intro a fr
      refine lst_y (wanted_of fr rfl rfl rfl rfl) (ow_v fr (rn_move (fr.ev rfl)) rfl rfl ?_)
      intro a fr
      refine lst_y (wanted_of fr rfl rfl rfl rfl) (ow_v fr (rn_move (fr.ev rfl)) rfl rfl ?_)
      intro a fr
      refine lst_y (wanted_of fr rfl rfl rfl rfl) (ow_call fr rfl rfl Try.call11 (zsuper _ _ _ (ro_of_blk (st.get 1 rfl))) rfl rfl ?_)
      rintro e w ⟨rfl, hag⟩
      refine ⟨_, rfl, ?_⟩
      intro a fr
      have st := st.keep hag
      clear hag
      refine lst_y (wanted_of fr rfl rfl rfl rfl) (ow_v fr (rn_as (rn_neq (fr.ev rfl) (fr.ev rfl)) (by rfl)) rfl rfl ?_)
      intro a fr
      refine lst rfl (ow_v fr (rn_pick_f (fr.ev rfl) (fr.ev rfl)) rfl rfl ?_)
      intro a fr
      refine lst rfl (ow_v fr (rn_move (fr.ev rfl)) rfl rfl ?_)
      intro a fr
      refine lst_y (wanted_of fr rfl rfl rfl rfl) (ow_v fr (rn_move (fr.ev rfl)) rfl rfl ?_)
      intro a fr
      refine lst_y (wanted_of fr rfl rfl rfl rfl) (ow_v fr (rn_move (fr.ev rfl)) rfl rfl ?_)
      intro a fr
      refine lst_y (wanted_of fr rfl rfl rfl rfl) (ow_v fr (rn_move (fr.ev rfl)) rfl rfl ?_)
      intro a fr
      refine lst_y (wanted_of fr rfl rfl rfl rfl) (ow_call fr rfl rfl Try.call10 (zunder _ _ _ _ (ro_of_blk (st.get 1 rfl))) rfl rfl ?_)
      rintro e w ⟨rfl, hag⟩
      refine ⟨_, rfl, ?_⟩
      intro a fr
      have st := st.keep hag
      clear hag
      refine lst rfl (ow_v fr (rn_pick_f (fr.ev rfl) (fr.ev rfl)) rfl rfl ?_)
      intro a fr
      refine lst rfl (ow_v fr (rn_move (fr.ev rfl)) rfl rfl ?_)
      intro a fr
      refine lst_y (wanted_of fr rfl rfl rfl rfl) (ow_v fr (rn_move (fr.ev rfl)) rfl rfl ?_)
      intro a fr
      refine lst_y (wanted_of fr rfl rfl rfl rfl) (ow_v fr (rn_move (fr.ev rfl)) rfl rfl ?_)
      intro a fr
      refine lst_y (wanted_of fr rfl rfl rfl rfl) (ow_v fr (rn_move (fr.ev rfl)) rfl rfl ?_)
      intro a fr
      refine lst_y (wanted_of fr rfl rfl rfl rfl) (ow_call fr rfl rfl Try.call13 (zcommon _ _ _ _ (ro_of_blk (st.get 1 rfl))) rfl rfl ?_)
      rintro e w ⟨rfl, hag⟩
      refine ⟨_, rfl, ?_⟩
      intro a fr
      have st := st.keep hag
      clear hag
      refine lst_y (wanted_of fr rfl rfl rfl rfl) (ow_v fr (rn_as (rn_neq (fr.ev rfl) (fr.ev rfl)) (by rfl)) rfl rfl ?_)
      intro a fr
      refine lst rfl (ow_v fr (rn_pick_f (fr.ev rfl) (fr.ev rfl)) rfl rfl ?_)
      intro a fr
      refine lst rfl (ow_v fr (rn_move (fr.ev rfl)) rfl rfl ?_)
      intro a fr
      refine lst_y (wanted_of fr rfl rfl rfl rfl) (ow_v fr (rn_move (fr.ev rfl)) rfl rfl ?_)
      intro a fr
      refine lst_y (wanted_of fr rfl rfl rfl rfl) (ow_v fr (rn_move (fr.ev rfl)) rfl rfl ?_)
      intro a fr
      refine lst_y (wanted_of fr rfl rfl rfl rfl) (ow_call fr rfl rfl Try.call12 (zdepth _ _ _ (ro_of_blk (st.get 1 rfl))) rfl rfl ?_)
      rintro e w ⟨rfl, hag⟩
      refine ⟨_, rfl, ?_⟩
      intro a fr
      have st := st.keep hag
      clear hag
      refine lst_y (wanted_of fr rfl rfl rfl rfl) (ow_v fr (rn_as (rn_neq (fr.ev rfl) (fr.ev rfl)) (by rfl)) rfl rfl ?_)
      intro a fr
      refine lst rfl (ow_v fr (rn_pick_f (fr.ev rfl) (fr.ev rfl)) rfl rfl ?_)
      intro a fr
      refine lst rfl (ow_v fr (rn_move (fr.ev rfl)) rfl rfl ?_)
      intro a fr
      refine lst_y (wanted_of fr rfl rfl rfl rfl) (ow_v fr (rn_move (fr.ev rfl)) rfl rfl ?_)
      intro a fr
      refine lst_y (wanted_of fr rfl rfl rfl rfl) (ow_v fr (rn_move (fr.ev rfl)) rfl rfl ?_)
      intro a fr
      refine lst_y (wanted_of fr rfl rfl rfl rfl) (ow_call fr rfl rfl Try.call22 (zsubs _ _ _ (ro_of_blk (st.get 1 rfl))) rfl rfl ?_)
      rintro e w ⟨rfl, hag⟩
      refine ⟨_, rfl, ?_⟩
      intro a fr
      have st := st.keep hag
      clear hag
      refine lst_y (wanted_of fr rfl rfl rfl rfl) (ow_v fr (rn_len (fr.ev rfl) Try.underlying43) rfl rfl ?_)
      intro a fr
      refine lst_y (wanted_of fr rfl rfl rfl rfl) (ow_v fr (rn_as (rn_neq (fr.ev rfl) (fr.ev rfl)) (by rfl)) rfl rfl ?_)
      intro a fr
      refine lst rfl (ow_v fr (rn_pick_f (fr.ev rfl) (fr.ev rfl)) rfl rfl ?_)
      intro a fr
      refine lst rfl (ow_v fr (rn_move (fr.ev rfl)) rfl rfl ?_)
      intro a fr
      refine lst_y (wanted_of fr rfl rfl rfl rfl) (ow_v fr (rn_move (fr.ev rfl)) rfl rfl ?_)
      intro a fr
      refine lst_y (wanted_of fr rfl rfl rfl rfl) (ow_call fr rfl rfl Try.call18 (order_calls _ _) rfl rfl ?_)
      rintro e w ⟨q4, rfl, st2, hnw⟩
      refine ⟨_, rfl, ?_⟩
      intro a fr
      have st := st.join st2 (by intro it hi b hb; simp at hi; subst hi; simp [It.fp] at hb; subst hb; exact hnw)
      clear st2 hnw
      replace st : St _ [] w [.blk q4 [.pointer (some ⟨b1, 0, none⟩)] 23, .blk b2 [.pointer none, .pointer (some ⟨b1, 0, none⟩)] 23, .blk b1 [.slice none 0 0, .slice none 0 0, .map none] 48, els lineC 2 LA l] := st
      refine lst_y (wanted_of fr rfl rfl rfl rfl) (ow_call fr rfl rfl Try.call17 (tells_none1 (st_two (st.get 0 rfl) (st.get 2 rfl))) rfl rfl ?_)
      rintro e w ⟨rfl, hag⟩
      refine ⟨_, rfl, ?_⟩
      intro a fr
      have st := st.keep hag
      clear hag
      refine lst_y (wanted_of fr rfl rfl rfl rfl) (ow_v fr (rn_not (fr.ev rfl)) rfl rfl ?_)
      intro a fr
      refine lst rfl (ow_v fr (rn_pick_f (fr.ev rfl) (fr.ev rfl)) rfl rfl ?_)
      intro a fr
      refine wpList_nil ?_
      refine then_n ?_
      refine cond_f fr rfl rfl ?_
      refine wp_skip ?_
      refine blk_n ?_
      refine then_n ?_
      refine reg ?_
      refine lst rfl (ow_v fr (rn_add (c := 2) (fr.ev rfl) (fr.ev rfl) (wr_i64e (by omega) (by omega) (by omega))) rfl rfl ?_)
      intro a fr
      refine lst rfl (ow_v fr (rn_move (fr.ev rfl)) rfl rfl ?_)
      intro a fr
      refine wpList_nil ?_
      refine then_n ⟨2 - 2, ?_, 2, (by omega), rfl, fr.prune ⟨rfl, rfl, rfl, rfl, rfl, trivial⟩, st.sub (.cons _ (.cons_cons _ (.cons_cons _ (.cons_cons _ .slnil))))⟩
      omega
    · replace fr : FrL 134 a [(0, .slice LA l.length lc), (1, .int .i64 (n)), (21, .slice (some ⟨b2, 0, none⟩) 2 2), (22, .int .i64 2), (23, .int .i64 2)] := fr
      refine wp_seq ?_
      refine reg ?_
      refine lst rfl (ow_v fr (rn_as (rn_lss (fr.ev rfl) (fr.ev rfl)) (by rfl)) rfl rfl ?_)
      intro a fr
      refine wpList_nil ?_
      refine then_n ?_
      refine wp_seq ?_
      refine cond_f fr rfl rfl ?_
      refine wp_exit ?_
      refine then_x ?_
      refine then_x ?_
      refine blk_x ?_
      refine then_n ?_
      refine wp_seq ?_
      refine reg ?_
      refine lst rfl (ow_v fr (rn_move (fr.ev rfl)) rfl rfl ?_)
      intro a fr
      refine lst rfl (ow_call fr rfl rfl Try.call23 (clone_lines _ _ _ hl32 _ (st.get 2 rfl).1) rfl rfl ?_)
      rintro e w ⟨MA, mc, rfl, hrow, hag⟩
      refine ⟨_, rfl, ?_⟩
      intro a fr
      have st := st.call_row hag hrow
      clear hag hrow
      replace st : St _ [] w [row lineC 2 56 w0.heap.size (.slice MA l.length mc) l, .blk b2 [.pointer none, .pointer (some ⟨b1, 0, none⟩)] 23, .blk b1 [.slice none 0 0, .slice none 0 0, .map none] 48, els lineC 2 LA l] := st
      refine lst rfl (ow_v fr (rn_assign (fr.ev rfl)) rfl rfl ?_)
      intro a fr
      refine wpList_nil ?_
      refine then_n ?_
      refine wp_seq ?_
      refine reg ?_
      refine lst rfl (ow_v fr (rn_move (fr.ev rfl)) rfl rfl ?_)
      intro a fr
      refine lst rfl (ow_call fr rfl rfl Try.call7 (new_fine hfi _ _ hl _ (row_els (fun _ => rfl) (st.get 0 rfl).1)) rfl rfl ?_)
      rintro e w ⟨ns, ss, g, m, A1, A2, c1, c2, rfl, hf, hes, st2, hnw⟩
      refine ⟨_, rfl, ?_⟩
      intro a fr
      have st := st.join st2 hnw
      clear st2 hnw
      replace st : St _ [] w [ro g 0 [.slice A1 ns.length c1, .slice A2 ss.length c2, (.map (some m))], els CS 1 A1 ns, els CI 1 A2 ss, mapRo kS vN m ((mL ns)), row lineC 2 56 w0.heap.size (.slice MA l.length mc) l, .blk b2 [.pointer none, .pointer (some ⟨b1, 0, none⟩)] 23, .blk b1 [.slice none 0 0, .slice none 0 0, .map none] 48, els lineC 2 LA l] := st
      refine lst rfl (ow_v fr (rn_move (fr.ev rfl)) rfl rfl ?_)
      intro a fr
      refine lst rfl (ow_v fr (rn_extract (fr.ev rfl) rfl) rfl rfl ?_)
      intro a fr
      refine lst rfl (ow_v fr (rn_extract (fr.ev rfl) rfl) rfl rfl ?_)
      intro a fr
      refine lst rfl (ow_v fr (rn_assign (fr.ev rfl)) rfl rfl ?_)
      intro a fr
      refine lst rfl (ow_v fr (rn_assign (fr.ev rfl)) rfl rfl ?_)
      intro a fr
      refine wpList_nil ?_
      refine then_n ?_
      refine wp_seq ?_
      refine reg ?_
      refine lst rfl (ow_v fr (rn_move (fr.ev rfl)) rfl rfl ?_)
      intro a fr
      refine lst rfl (ow_call fr rfl rfl Try.call14 (rnew_fine hfi _ _ hl hes _ (st.get 7 rfl).1) rfl rfl ?_)
      rintro e w ⟨rg, B1, B2, d1, d2, rfl, st2, hnw⟩
      refine ⟨_, rfl, ?_⟩
      intro a fr
      have st := st.join st2 hnw
      clear st2 hnw
      replace st : St _ [] w [ro rg 0 [.slice B1 ns.length d1, .slice B2 ss.length d2], els CS 1 B1 ns, els CI 1 B2 ss, ro g 0 [.slice A1 ns.length c1, .slice A2 ss.length c2, (.map (some m))], els CS 1 A1 ns, els CI 1 A2 ss, mapRo kS vN m ((mL ns)), row lineC 2 56 w0.heap.size (.slice MA l.length mc) l, .blk b2 [.pointer none, .pointer (some ⟨b1, 0, none⟩)] 23, .blk b1 [.slice none 0 0, .slice none 0 0, .map none] 48, els lineC 2 LA l] := st
      refine lst rfl (ow_v fr (rn_move (fr.ev rfl)) rfl rfl ?_)
      intro a fr
      refine lst rfl (ow_v fr (rn_extract (fr.ev rfl) rfl) rfl rfl ?_)
      intro a fr
      refine lst rfl (ow_v fr (rn_extract (fr.ev rfl) rfl) rfl rfl ?_)
      intro a fr
      refine lst rfl (ow_v fr (rn_assign (fr.ev rfl)) rfl rfl ?_)
      intro a fr
      refine lst rfl (ow_v fr (rn_assign (fr.ev rfl)) rfl rfl ?_)
      intro a fr
      refine wpList_nil ?_
      refine then_n ?_
      refine wp_seq ?_
      refine wp_seq ?_
      refine reg ?_
      refine lst rfl (ow_v fr (rn_move (fr.ev rfl)) rfl rfl ?_)
      intro a fr
      refine lst rfl (ow_v fr (rn_as (rn_neq (fr.ev rfl) (fr.ev rfl)) (by rfl)) rfl rfl ?_)
      intro a fr
      refine wpList_nil ?_
      refine then_n ?_
      refine cond_f fr rfl rfl ?_
      refine wp_skip ?_
      refine then_n ?_
      refine wp_seq ?_
      refine wp_seq ?_
      refine reg ?_
      refine lst rfl (ow_v fr (rn_move (fr.ev rfl)) rfl rfl ?_)
      intro a fr
      refine lst rfl (ow_v fr (rn_len (fr.ev rfl) Try.underlying22) rfl rfl ?_)
      intro a fr
      refine lst rfl (ow_v fr (rn_move (fr.ev rfl)) rfl rfl ?_)
      intro a fr
      refine wpList_nil ?_
      refine then_n ?_
      refine wp_block ?_
      have st := st.weaken 7 rfl (it := bufO MA (l.length * 2) 56) (fun _ => rfl) (fun b hb => (bufO_fp (C := lineC) (sz := 2) (e := 56) (base := w0.heap.size) (n := l.length) (c := mc) (xs := l)) ▸ hb) (bufO_ok (st.get 7 rfl))
      replace st : St _ [] w [ro rg 0 [.slice B1 ns.length d1, .slice B2 ss.length d2], els CS 1 B1 ns, els CI 1 B2 ss, ro g 0 [.slice A1 ns.length c1, .slice A2 ss.length c2, (.map (some m))], els CS 1 A1 ns, els CI 1 A2 ss, mapRo kS vN m ((mL ns)), bufO MA (l.length * 2) 56, .blk b2 [.pointer none, .pointer (some ⟨b1, 0, none⟩)] 23, .blk b1 [.slice none 0 0, .slice none 0 0, .map none] 48, els lineC 2 LA l] := st
      refine wp_loop_ghost (fun mz a w => ∃ (k : Nat), (k ≤ l.length) ∧ mz = l.length - k ∧ FrL 134 a [(0, .slice LA l.length lc), (1, .int .i64 (n)), (9, .slice MA l.length mc), (10, .pointer (some ⟨g, 0, none⟩)), (12, .pointer (some ⟨rg, 0, none⟩)), (100, .int .i64 ((l.length : Nat))), (101, .int .i64 ((k : Nat)))] ∧ St w0 [] w [ro rg 0 [.slice B1 ns.length d1, .slice B2 ss.length d2], els CS 1 B1 ns, els CI 1 B2 ss, ro g 0 [.slice A1 ns.length c1, .slice A2 ss.length c2, (.map (some m))], els CS 1 A1 ns, els CI 1 A2 ss, mapRo kS vN m ((mL ns)), bufO MA (l.length * 2) 56, .blk b2 [.pointer none, .pointer (some ⟨b1, 0, none⟩)] 23, .blk b1 [.slice none 0 0, .slice none 0 0, .map none] 48, els lineC 2 LA l]) _ ⟨0, (Nat.zero_le _), rfl, fr.prune ⟨rfl, rfl, rfl, rfl, rfl, rfl, rfl, trivial⟩, st⟩ ?_
      clear fr st
      intro mz a w hI
      obtain ⟨k, hk, hmz, fr, st⟩ := hI
      by_cases hlt : k < l.length
      · refine wp_seq ?_
        refine reg ?_
        refine lst rfl (ow_v fr (rn_as (v' := .bool true) (rn_lss (fr.ev rfl) (fr.ev rfl)) (congrArg Value.bool (decide_eq_true (by omega)))) rfl rfl ?_)
        intro a fr
        refine wpList_nil ?_
        refine then_n ?_
        refine wp_seq ?_
        refine cond_t fr rfl rfl ?_
        refine wp_skip ?_
        refine then_n ?_
        refine wp_seq ?_
        refine wp_block ?_
        refine wp_seq ?_
        refine reg ?_
        refine lst rfl (ow_v fr (rn_move (fr.ev rfl)) rfl rfl ?_)
        intro a fr
        refine lst rfl (ow_v fr (rn_assign (fr.ev rfl)) rfl rfl ?_)
        intro a fr
        refine wpList_nil ?_
        refine then_n ?_
        refine reg ?_
        refine lst rfl (ow_v fr (rn_move (fr.ev rfl)) rfl rfl ?_)
        intro a fr
        refine lst rfl (ow_v fr (rn_move (fr.ev rfl)) rfl rfl ?_)
        intro a fr
        obtain ⟨g5, eA⟩ := bufO_at (st.get 7 rfl) (by omega)
        have st_ := st
        have fr_ := fr
        cases eA
        have st := st_
        have fr := fr_
        clear st_ fr_
        replace st : St _ [] w [ro rg 0 [.slice B1 ns.length d1, .slice B2 ss.length d2], els CS 1 B1 ns, els CI 1 B2 ss, ro g 0 [.slice A1 ns.length c1, .slice A2 ss.length c2, (.map (some m))], els CS 1 A1 ns, els CI 1 A2 ss, mapRo kS vN m ((mL ns)), bufO (some ⟨g5, 0, none⟩) (l.length * 2) 56, .blk b2 [.pointer none, .pointer (some ⟨b1, 0, none⟩)] 23, .blk b1 [.slice none 0 0, .slice none 0 0, .map none] 48, els lineC 2 LA l] := st
        refine lst rfl (ow_v fr (rn_at (i := k) (fr.ev rfl) (fr.ev rfl) Try.underlying22 sz_56 (by omega) (by rfl)) rfl rfl ?_)
        intro a fr
        refine lst rfl (ow_v fr (fa_56_0 (fr.ev rfl)) rfl rfl ?_)
        intro a fr
        refine lst rfl (ow_st_buf fr st 7 rfl rfl rfl rfl sz_9 rfl (by omega) rfl ?_)
        intro w (st : St _ [] w [ro rg 0 [.slice B1 ns.length d1, .slice B2 ss.length d2], els CS 1 B1 ns, els CI 1 B2 ss, ro g 0 [.slice A1 ns.length c1, .slice A2 ss.length c2, (.map (some m))], els CS 1 A1 ns, els CI 1 A2 ss, mapRo kS vN m ((mL ns)), bufO (some ⟨g5, 0, none⟩) (l.length * 2) 56, .blk b2 [.pointer none, .pointer (some ⟨b1, 0, none⟩)] 23, .blk b1 [.slice none 0 0, .slice none 0 0, .map none] 48, els lineC 2 LA l])
        refine wpList_nil ?_
        refine blk_n ?_
        refine then_n ?_
        refine reg ?_
        refine lst rfl (ow_v fr (rn_add (c := ((k + 1 : Nat) : Int)) (fr.ev rfl) (fr.ev rfl) (wr_i64e (by omega) (by omega) (by omega))) rfl rfl ?_)
        intro a fr
        refine lst rfl (ow_v fr (rn_move (fr.ev rfl)) rfl rfl ?_)
        intro a fr
        refine wpList_nil ?_
        refine then_n ⟨l.length - (k + 1), ?_, k + 1, (by omega), rfl, fr.prune ⟨rfl, rfl, rfl, rfl, rfl, rfl, rfl, trivial⟩, st.sub (.cons_cons _ (.cons_cons _ (.cons_cons _ (.cons_cons _ (.cons_cons _ (.cons_cons _ (.cons_cons _ (.cons_cons _ (.cons_cons _ (.cons_cons _ (.cons_cons _ .slnil)))))))))))⟩
        omega
      · refine wp_seq ?_
        refine reg ?_
        refine lst rfl (ow_v fr (rn_as (v' := .bool false) (rn_lss (fr.ev rfl) (fr.ev rfl)) (congrArg Value.bool (decide_eq_false (by omega)))) rfl rfl ?_)
        intro a fr
        refine wpList_nil ?_
        refine then_n ?_
        refine wp_seq ?_
        refine cond_f fr rfl rfl ?_
        refine wp_exit ?_
        refine then_x ?_
        refine then_x ?_
        refine blk_x ?_
        refine then_n ?_
        refine wp_seq ?_
        have hfh := hf.high
        have hfl := hf.low
        have hsb : (subL ss 0 ss.length).length ≤ 9223372036854775807 := by have := subL_len ss 0 ss.length; have := hf.len; omega
        refine reg ?_
        refine lst rfl (ow_v fr (rn_move (fr.ev rfl)) rfl rfl ?_)
        intro a fr
        refine lst rfl (ow_call fr rfl rfl Try.call22 (subs_t g m _ _ c1 c2 ns ss hf 0 (by omega) _ (hok4 (st.get 3 rfl) (st.get 4 rfl) (st.get 5 rfl) (st.get 6 rfl))) rfl rfl ?_)
        rintro e w ⟨SA6, sc7, rfl, hrow, hag⟩
        refine ⟨_, rfl, ?_⟩
        intro a fr
        have st := st.call_row hag hrow
        clear hag hrow
        replace st : St _ [] w [row CI 1 3 w0.heap.size (.slice SA6 ((subL ss 0 ss.length).length) sc7) ((subL ss 0 ss.length)), ro rg 0 [.slice B1 ns.length d1, .slice B2 ss.length d2], els CS 1 B1 ns, els CI 1 B2 ss, ro g 0 [.slice A1 ns.length c1, .slice A2 ss.length c2, (.map (some m))], els CS 1 A1 ns, els CI 1 A2 ss, mapRo kS vN m ((mL ns)), bufO MA (l.length * 2) 56, .blk b2 [.pointer none, .pointer (some ⟨b1, 0, none⟩)] 23, .blk b1 [.slice none 0 0, .slice none 0 0, .map none] 48, els lineC 2 LA l] := st
        refine lst rfl (ow_v fr (rn_assign (fr.ev rfl)) rfl rfl ?_)
        intro a fr
        refine wpList_nil ?_
        refine then_n ?_
        refine wp_seq ?_
        refine wp_seq ?_
        refine reg ?_
        refine lst rfl (ow_v fr (rn_move (fr.ev rfl)) rfl rfl ?_)
        intro a fr
        refine lst rfl (ow_v fr (rn_len (fr.ev rfl) Try.underlying43) rfl rfl ?_)
        intro a fr
        refine lst rfl (ow_v fr (rn_move (fr.ev rfl)) rfl rfl ?_)
        intro a fr
        refine wpList_nil ?_
        refine then_n ?_
        refine wp_block ?_
        have st := st.weaken 0 rfl (it := bufO SA6 ((subL ss 0 ss.length).length * 1) 3) (fun _ => rfl) (fun b hb => (bufO_fp (C := CI) (sz := 1) (e := 3) (base := w0.heap.size) (n := (subL ss 0 ss.length).length) (c := sc7) (xs := (subL ss 0 ss.length))) ▸ hb) (bufO_ok (st.get 0 rfl))
        replace st : St _ [] w [bufO SA6 ((subL ss 0 ss.length).length * 1) 3, ro rg 0 [.slice B1 ns.length d1, .slice B2 ss.length d2], els CS 1 B1 ns, els CI 1 B2 ss, ro g 0 [.slice A1 ns.length c1, .slice A2 ss.length c2, (.map (some m))], els CS 1 A1 ns, els CI 1 A2 ss, mapRo kS vN m ((mL ns)), bufO MA (l.length * 2) 56, .blk b2 [.pointer none, .pointer (some ⟨b1, 0, none⟩)] 23, .blk b1 [.slice none 0 0, .slice none 0 0, .map none] 48, els lineC 2 LA l] := st
        refine wp_loop_ghost (fun mz a w => ∃ (k : Nat), (k ≤ (subL ss 0 ss.length).length) ∧ mz = (subL ss 0 ss.length).length - k ∧ FrL 134 a [(0, .slice LA l.length lc), (1, .int .i64 (n)), (10, .pointer (some ⟨g, 0, none⟩)), (12, .pointer (some ⟨rg, 0, none⟩)), (15, .slice SA6 ((subL ss 0 ss.length).length) ((subL ss 0 ss.length).length)), (112, .int .i64 (((subL ss 0 ss.length).length : Nat))), (113, .int .i64 ((k : Nat)))] ∧ St w0 [] w [bufO SA6 ((subL ss 0 ss.length).length * 1) 3, ro rg 0 [.slice B1 ns.length d1, .slice B2 ss.length d2], els CS 1 B1 ns, els CI 1 B2 ss, ro g 0 [.slice A1 ns.length c1, .slice A2 ss.length c2, (.map (some m))], els CS 1 A1 ns, els CI 1 A2 ss, mapRo kS vN m ((mL ns)), bufO MA (l.length * 2) 56, .blk b2 [.pointer none, .pointer (some ⟨b1, 0, none⟩)] 23, .blk b1 [.slice none 0 0, .slice none 0 0, .map none] 48, els lineC 2 LA l]) _ ⟨0, (Nat.zero_le _), rfl, fr.prune ⟨rfl, rfl, rfl, rfl, rfl, rfl, rfl, trivial⟩, st⟩ ?_
        clear fr st
        intro mz a w hI
        obtain ⟨k, hk, hmz, fr, st⟩ := hI
        by_cases hlt : k < (subL ss 0 ss.length).length
        · refine wp_seq ?_
          refine reg ?_
          refine lst rfl (ow_v fr (rn_as (v' := .bool true) (rn_lss (fr.ev rfl) (fr.ev rfl)) (congrArg Value.bool (decide_eq_true (by omega)))) rfl rfl ?_)
          intro a fr
          refine wpList_nil ?_
          refine then_n ?_
          refine wp_seq ?_
          refine cond_t fr rfl rfl ?_
          refine wp_skip ?_
          refine then_n ?_
          refine wp_seq ?_
          refine wp_block ?_
          refine wp_seq ?_
          refine reg ?_
          refine lst rfl (ow_v fr (rn_move (fr.ev rfl)) rfl rfl ?_)
          intro a fr
          refine lst rfl (ow_v fr (rn_assign (fr.ev rfl)) rfl rfl ?_)
          intro a fr
          refine wpList_nil ?_
          refine then_n ?_
          refine reg ?_
          refine lst rfl (ow_v fr (rn_move (fr.ev rfl)) rfl rfl ?_)
          intro a fr
          refine lst rfl (ow_v fr (rn_move (fr.ev rfl)) rfl rfl ?_)
          intro a fr
          obtain ⟨g8, eA⟩ := bufO_at (st.get 0 rfl) (by omega)
          have st_ := st
          have fr_ := fr
          cases eA
          have st := st_
          have fr := fr_
          clear st_ fr_
          replace st : St _ [] w [bufO (some ⟨g8, 0, none⟩) ((subL ss 0 ss.length).length * 1) 3, ro rg 0 [.slice B1 ns.length d1, .slice B2 ss.length d2], els CS 1 B1 ns, els CI 1 B2 ss, ro g 0 [.slice A1 ns.length c1, .slice A2 ss.length c2, (.map (some m))], els CS 1 A1 ns, els CI 1 A2 ss, mapRo kS vN m ((mL ns)), bufO MA (l.length * 2) 56, .blk b2 [.pointer none, .pointer (some ⟨b1, 0, none⟩)] 23, .blk b1 [.slice none 0 0, .slice none 0 0, .map none] 48, els lineC 2 LA l] := st
          refine lst rfl (ow_v fr (rn_at (i := k) (fr.ev rfl) (fr.ev rfl) Try.underlying43 sz_3 (by omega) (by rfl)) rfl rfl ?_)
          intro a fr
          refine lst rfl (ow_st_buf fr st 0 rfl rfl rfl rfl sz_3 rfl (by omega) rfl ?_)
          intro w (st : St _ [] w [bufO (some ⟨g8, 0, none⟩) ((subL ss 0 ss.length).length * 1) 3, ro rg 0 [.slice B1 ns.length d1, .slice B2 ss.length d2], els CS 1 B1 ns, els CI 1 B2 ss, ro g 0 [.slice A1 ns.length c1, .slice A2 ss.length c2, (.map (some m))], els CS 1 A1 ns, els CI 1 A2 ss, mapRo kS vN m ((mL ns)), bufO MA (l.length * 2) 56, .blk b2 [.pointer none, .pointer (some ⟨b1, 0, none⟩)] 23, .blk b1 [.slice none 0 0, .slice none 0 0, .map none] 48, els lineC 2 LA l])
          refine wpList_nil ?_
          refine blk_n ?_
          refine then_n ?_
          refine reg ?_
          refine lst rfl (ow_v fr (rn_add (c := ((k + 1 : Nat) : Int)) (fr.ev rfl) (fr.ev rfl) (wr_i64e (by omega) (by omega) (by omega))) rfl rfl ?_)
          intro a fr
          refine lst rfl (ow_v fr (rn_move (fr.ev rfl)) rfl rfl ?_)
          intro a fr
          refine wpList_nil ?_
          refine then_n ⟨(subL ss 0 ss.length).length - (k + 1), ?_, k + 1, (by omega), rfl, fr.prune ⟨rfl, rfl, rfl, rfl, rfl, rfl, rfl, trivial⟩, st.sub (.cons_cons _ (.cons_cons _ (.cons_cons _ (.cons_cons _ (.cons_cons _ (.cons_cons _ (.cons_cons _ (.cons_cons _ (.cons_cons _ (.cons_cons _ (.cons_cons _ (.cons_cons _ .slnil))))))))))))⟩
          omega
        · refine wp_seq ?_
          refine reg ?_
          refine lst rfl (ow_v fr (rn_as (v' := .bool false) (rn_lss (fr.ev rfl) (fr.ev rfl)) (congrArg Value.bool (decide_eq_false (by omega)))) rfl rfl ?_)
          intro a fr
          refine wpList_nil ?_
          refine then_n ?_
          refine wp_seq ?_
          refine cond_f fr rfl rfl ?_
          refine wp_exit ?_
          refine then_x ?_
          refine then_x ?_
          refine blk_x ?_
          refine then_n ?_
          refine wp_seq ?_
          by_cases hn : 0 ≤ n ∧ n < ns.length
          · obtain ⟨q, rfl⟩ : ∃ q : Nat, n = (q : Int) := ⟨n.toNat, by omega⟩
            have hq : q < ns.length := by omega
            refine reg ?_
            refine lst rfl (ow_v fr (rn_move (fr.ev rfl)) rfl rfl ?_)
            intro a fr
            refine lst rfl (ow_v fr (rn_move (fr.ev rfl)) rfl rfl ?_)
            intro a fr
            refine lst rfl (ow_call fr rfl rfl Try.call21 (name_t g m _ _ c1 c2 ns ss q hq _ (hok4 (st.get 4 rfl) (st.get 5 rfl) (st.get 6 rfl) (st.get 7 rfl))) rfl rfl ?_)
            rintro e w ⟨rfl, hag⟩
            refine ⟨_, rfl, ?_⟩
            intro a fr
            have st := st.keep hag
            clear hag
            refine lst rfl (ow_v fr (rn_move (fr.ev rfl)) rfl rfl ?_)
            intro a fr
            refine lst rfl (ow_v fr (rn_move (fr.ev rfl)) rfl rfl ?_)
            intro a fr
            refine lst rfl (ow_call fr rfl rfl Try.call24 (rname_t rg _ _ d1 d2 ns ss q hq _ (rhok3 (st.get 1 rfl) (st.get 2 rfl) (st.get 3 rfl))) rfl rfl ?_)
            rintro e w ⟨rfl, hag⟩
            refine ⟨_, rfl, ?_⟩
            intro a fr
            have st := st.keep hag
            clear hag
            refine lst rfl (ow_v fr (rn_as (v' := .bool true) (rn_eqs Try.underlying9 (fr.ev rfl) (fr.ev rfl)) (congrArg Value.bool ((bytes_beq _ _).2 rfl))) rfl rfl ?_)
            intro a fr
            refine lst rfl (ow_v fr (rn_move (fr.ev rfl)) rfl rfl ?_)
            intro a fr
            refine lst_y (wanted_of fr rfl rfl rfl rfl) (ow_v fr (rn_move (fr.ev rfl)) rfl rfl ?_)
            intro a fr
            refine lst_y (wanted_of fr rfl rfl rfl rfl) (ow_call fr rfl rfl Try.call22 (subs_t g m _ _ c1 c2 ns ss hf 0 (by omega) _ (hok4 (st.get 4 rfl) (st.get 5 rfl) (st.get 6 rfl) (st.get 7 rfl))) rfl rfl ?_)
            rintro e w ⟨SA9, sc10, rfl, hrow, hag⟩
            refine ⟨_, rfl, ?_⟩
            intro a fr
            have st := st.call_row hag hrow
            clear hag hrow
            replace st : St _ [] w [row CI 1 3 w0.heap.size (.slice SA9 ((subL ss 0 ss.length).length) sc10) ((subL ss 0 ss.length)), bufO SA6 ((subL ss 0 ss.length).length * 1) 3, ro rg 0 [.slice B1 ns.length d1, .slice B2 ss.length d2], els CS 1 B1 ns, els CI 1 B2 ss, ro g 0 [.slice A1 ns.length c1, .slice A2 ss.length c2, (.map (some m))], els CS 1 A1 ns, els CI 1 A2 ss, mapRo kS vN m ((mL ns)), bufO MA (l.length * 2) 56, .blk b2 [.pointer none, .pointer (some ⟨b1, 0, none⟩)] 23, .blk b1 [.slice none 0 0, .slice none 0 0, .map none] 48, els lineC 2 LA l] := st
            refine lst_y (wanted_of fr rfl rfl rfl rfl) (ow_v fr (rn_move (fr.ev rfl)) rfl rfl ?_)
            intro a fr
            refine lst_y (wanted_of fr rfl rfl rfl rfl) (ow_call fr rfl rfl Try.call26 (rsubs_calls rg _ _ d1 d2 ns ss hf 0 (by omega) _ (rhok3 (st.get 2 rfl) (st.get 3 rfl) (st.get 4 rfl))) rfl rfl ?_)
            rintro e w ⟨SA11, sc12, rfl, hrow, hag⟩
            refine ⟨_, rfl, ?_⟩
            intro a fr
            have st := st.call_row hag hrow
            clear hag hrow
            replace st : St _ [] w [row CI 1 3 w0.heap.size (.slice SA11 ((subL ss 0 ss.length).length) sc12) ((subL ss 0 ss.length)), row CI 1 3 w0.heap.size (.slice SA9 ((subL ss 0 ss.length).length) sc10) ((subL ss 0 ss.length)), bufO SA6 ((subL ss 0 ss.length).length * 1) 3, ro rg 0 [.slice B1 ns.length d1, .slice B2 ss.length d2], els CS 1 B1 ns, els CI 1 B2 ss, ro g 0 [.slice A1 ns.length c1, .slice A2 ss.length c2, (.map (some m))], els CS 1 A1 ns, els CI 1 A2 ss, mapRo kS vN m ((mL ns)), bufO MA (l.length * 2) 56, .blk b2 [.pointer none, .pointer (some ⟨b1, 0, none⟩)] 23, .blk b1 [.slice none 0 0, .slice none 0 0, .map none] 48, els lineC 2 LA l] := st
            refine lst_y (wanted_of fr rfl rfl rfl rfl) (ow_call fr rfl rfl Try.call25 (equal_same _ _ _ _ _ hsb _ (row_els (fun _ => rfl) (st.get 1 rfl).1) (row_els (fun _ => rfl) (st.get 0 rfl).1)) rfl rfl ?_)
            rintro e w ⟨rfl, hag⟩
            refine ⟨_, rfl, ?_⟩
            intro a fr
            have st := st.keep hag
            clear hag
            refine lst rfl (ow_v fr (rn_pick_t (fr.ev rfl) (fr.ev rfl)) rfl rfl ?_)
            intro a fr
            refine lst rfl (ow_v fr (rn_assign (fr.ev rfl)) rfl rfl ?_)
            intro a fr
            refine wpList_nil ?_
            refine then_n ?_
            refine wp_ret ?_
            refine ret1 Try.results6 fr (rv_tmp fr rfl) ?_
            exact ⟨rfl, st.agr.below⟩
          · refine reg ?_
            refine lst rfl (ow_v fr (rn_move (fr.ev rfl)) rfl rfl ?_)
            intro a fr
            refine lst rfl (ow_v fr (rn_move (fr.ev rfl)) rfl rfl ?_)
            intro a fr
            refine lst rfl (ow_call fr rfl rfl Try.call21 (name_f g m _ _ c1 c2 ns ss n hn _ (hok4 (st.get 4 rfl) (st.get 5 rfl) (st.get 6 rfl) (st.get 7 rfl))) rfl rfl ?_)
            rintro e w ⟨rfl, hag⟩
            refine ⟨_, rfl, ?_⟩
            intro a fr
            have st := st.keep hag
            clear hag
            refine lst rfl (ow_v fr (rn_move (fr.ev rfl)) rfl rfl ?_)
            intro a fr
            refine lst rfl (ow_v fr (rn_move (fr.ev rfl)) rfl rfl ?_)
            intro a fr
            refine lst rfl (ow_call fr rfl rfl Try.call24 (rname_f rg _ _ d1 d2 ns ss n hn _ (rhok3 (st.get 1 rfl) (st.get 2 rfl) (st.get 3 rfl))) rfl rfl ?_)
            rintro e w ⟨rfl, hag⟩
            refine ⟨_, rfl, ?_⟩
            intro a fr
            have st := st.keep hag
            clear hag
            refine lst rfl (ow_v fr (rn_as (v' := .bool true) (rn_eqs Try.underlying9 (fr.ev rfl) (fr.ev rfl)) (congrArg Value.bool ((bytes_beq _ _).2 rfl))) rfl rfl ?_)
            intro a fr
            refine lst rfl (ow_v fr (rn_move (fr.ev rfl)) rfl rfl ?_)
            intro a fr
            refine lst_y (wanted_of fr rfl rfl rfl rfl) (ow_v fr (rn_move (fr.ev rfl)) rfl rfl ?_)
            intro a fr
            refine lst_y (wanted_of fr rfl rfl rfl rfl) (ow_call fr rfl rfl Try.call22 (subs_t g m _ _ c1 c2 ns ss hf 0 (by omega) _ (hok4 (st.get 4 rfl) (st.get 5 rfl) (st.get 6 rfl) (st.get 7 rfl))) rfl rfl ?_)
            rintro e w ⟨SA13, sc14, rfl, hrow, hag⟩
            refine ⟨_, rfl, ?_⟩
            intro a fr
            have st := st.call_row hag hrow
            clear hag hrow
            replace st : St _ [] w [row CI 1 3 w0.heap.size (.slice SA13 ((subL ss 0 ss.length).length) sc14) ((subL ss 0 ss.length)), bufO SA6 ((subL ss 0 ss.length).length * 1) 3, ro rg 0 [.slice B1 ns.length d1, .slice B2 ss.length d2], els CS 1 B1 ns, els CI 1 B2 ss, ro g 0 [.slice A1 ns.length c1, .slice A2 ss.length c2, (.map (some m))], els CS 1 A1 ns, els CI 1 A2 ss, mapRo kS vN m ((mL ns)), bufO MA (l.length * 2) 56, .blk b2 [.pointer none, .pointer (some ⟨b1, 0, none⟩)] 23, .blk b1 [.slice none 0 0, .slice none 0 0, .map none] 48, els lineC 2 LA l] := st
            refine lst_y (wanted_of fr rfl rfl rfl rfl) (ow_v fr (rn_move (fr.ev rfl)) rfl rfl ?_)
            intro a fr
            refine lst_y (wanted_of fr rfl rfl rfl rfl) (ow_call fr rfl rfl Try.call26 (rsubs_calls rg _ _ d1 d2 ns ss hf 0 (by omega) _ (rhok3 (st.get 2 rfl) (st.get 3 rfl) (st.get 4 rfl))) rfl rfl ?_)
            rintro e w ⟨SA15, sc16, rfl, hrow, hag⟩
            refine ⟨_, rfl, ?_⟩
            intro a fr
            have st := st.call_row hag hrow
            clear hag hrow
            replace st : St _ [] w [row CI 1 3 w0.heap.size (.slice SA15 ((subL ss 0 ss.length).length) sc16) ((subL ss 0 ss.length)), row CI 1 3 w0.heap.size (.slice SA13 ((subL ss 0 ss.length).length) sc14) ((subL ss 0 ss.length)), bufO SA6 ((subL ss 0 ss.length).length * 1) 3, ro rg 0 [.slice B1 ns.length d1, .slice B2 ss.length d2], els CS 1 B1 ns, els CI 1 B2 ss, ro g 0 [.slice A1 ns.length c1, .slice A2 ss.length c2, (.map (some m))], els CS 1 A1 ns, els CI 1 A2 ss, mapRo kS vN m ((mL ns)), bufO MA (l.length * 2) 56, .blk b2 [.pointer none, .pointer (some ⟨b1, 0, none⟩)] 23, .blk b1 [.slice none 0 0, .slice none 0 0, .map none] 48, els lineC 2 LA l] := st
            refine lst_y (wanted_of fr rfl rfl rfl rfl) (ow_call fr rfl rfl Try.call25 (equal_same _ _ _ _ _ hsb _ (row_els (fun _ => rfl) (st.get 1 rfl).1) (row_els (fun _ => rfl) (st.get 0 rfl).1)) rfl rfl ?_)
            rintro e w ⟨rfl, hag⟩
            refine ⟨_, rfl, ?_⟩
            intro a fr
            have st := st.keep hag
            clear hag
            refine lst rfl (ow_v fr (rn_pick_t (fr.ev rfl) (fr.ev rfl)) rfl rfl ?_)
            intro a fr
            refine lst rfl (ow_v fr (rn_assign (fr.ev rfl)) rfl rfl ?_)
            intro a fr
            refine wpList_nil ?_
            refine then_n ?_
            refine wp_ret ?_
            refine ret1 Try.results6 fr (rv_tmp fr rfl) ?_
            exact ⟨rfl, st.agr.below⟩
  · refine enter Try.func6 rfl Try.ntmps6 (by simp) ?_
    intro a fr
    refine wp_seq ?_
    refine reg ?_
    refine lst rfl (ow_v fr (rn_assign (fr.ev rfl)) rfl rfl ?_)
    intro a fr
    refine wpList_nil ?_
    refine then_n ?_
    refine wp_seq ?_
    refine wp_seq ?_
    refine reg ?_
    refine lst rfl (ow_call fr rfl rfl Try.call8 (live_calls _) rfl rfl ?_)
    rintro e w ⟨rfl, hag⟩
    refine ⟨_, rfl, ?_⟩
    intro a fr
    have st := st.keep hag
    clear hag
    refine lst rfl (ow_v fr (rn_not (fr.ev rfl)) rfl rfl ?_)
    intro a fr
    refine wpList_nil ?_
    refine then_n ?_
    refine cond_f fr rfl rfl ?_
    refine wp_skip ?_
    refine then_n ?_
    refine wp_seq ?_
    refine wp_seq ?_
    refine reg ?_
    refine lst rfl (ow_v fr (rn_build (cells := #[.slice none 0 0, .slice none 0 0, .map none]) (by simp only [List.map_toArray, List.map_cons, List.map_nil]; rfl)) rfl rfl ?_)
    intro a fr
    refine lst rfl (ow_box fr st rfl rfl rfl rfl ([.slice none 0 0, .slice none 0 0, .map none]) (by rfl) ?_)
    intro a w b1 fr st
    refine lst rfl (ow_bslice (E := 23) fr st rfl [.pointer none, .pointer (some ⟨b1, 0, none⟩)] (fun w => by simp only [List.map_toArray, List.map_cons, List.map_nil]; rw [fr.ev (x := .tmp 20) rfl]; kernel_rfl) rfl rfl ?_)
    intro a w b2 fr st
    refine lst rfl (ow_v fr (rn_len (fr.ev rfl) Try.underlying49) rfl rfl ?_)
    intro a fr
    refine lst rfl (ow_v fr (rn_move (fr.ev rfl)) rfl rfl ?_)
    intro a fr
    refine wpList_nil ?_
    refine then_n ?_
    refine wp_block ?_
    refine wp_loop_ghost (fun mz a w => ∃ (k : Nat), (k ≤ 2) ∧ mz = 2 - k ∧ FrL 134 a [(0, .slice LA l.length lc), (1, .int .i64 (n)), (21, .slice (some ⟨b2, 0, none⟩) 2 2), (22, .int .i64 2), (23, .int .i64 ((k : Nat)))] ∧ St w0 [] w [.blk b2 [.pointer none, .pointer (some ⟨b1, 0, none⟩)] 23, .blk b1 [.slice none 0 0, .slice none 0 0, .map none] 48, els lineC 2 LA l]) _ ⟨0, (Nat.zero_le _), rfl, fr.prune ⟨rfl, rfl, rfl, rfl, rfl, trivial⟩, st⟩ ?_
    clear fr st
    intro mz a w hI
    obtain ⟨k, hk, hmz, fr, st⟩ := hI
    rcases (by omega : k = 0 ∨ k = 1 ∨ k = 2) with rfl | rfl | rfl
    · replace fr : FrL 134 a [(0, .slice LA l.length lc), (1, .int .i64 (n)), (21, .slice (some ⟨b2, 0, none⟩) 2 2), (22, .int .i64 2), (23, .int .i64 0)] := fr
      refine wp_seq ?_
      refine reg ?_
      refine lst rfl (ow_v fr (rn_as (rn_lss (fr.ev rfl) (fr.ev rfl)) (by rfl)) rfl rfl ?_)
      intro a fr
      refine wpList_nil ?_
      refine then_n ?_
      refine wp_seq ?_
      refine cond_t fr rfl rfl ?_
      refine wp_skip ?_
      refine then_n ?_
      refine wp_seq ?_
      refine wp_block ?_
      refine wp_seq ?_
      refine reg ?_
      refine lst rfl (ow_v fr (rn_at (i := 0) (fr.ev rfl) (fr.ev rfl) Try.underlying49 sz_23 (by omega) (by rfl)) rfl rfl ?_)
      intro a fr
      refine lst rfl (ow_v fr (rn_load (fr.ev rfl) Try.underlying23 rfl (st.cell 0 rfl rfl)) rfl rfl ?_)
      intro a fr
      refine lst rfl (ow_v fr (rn_assign (fr.ev rfl)) rfl rfl ?_)
      intro a fr
      refine wpList_nil ?_
      refine then_n ?_
      refine wp_seq ?_
      refine reg ?_
      refine lst rfl (ow_v fr (rn_move (fr.ev rfl)) rfl rfl ?_)
      intro a fr
      refine lst rfl (ow_call fr rfl rfl Try.call20 (nfind _ _) rfl rfl ?_)
      rintro e w ⟨rfl, hag⟩
      refine ⟨_, rfl, ?_⟩
      intro a fr
      have st := st.keep hag
      clear hag
      refine lst rfl (ow_v fr (rn_move (fr.ev rfl)) rfl rfl ?_)
      intro a fr
      refine lst rfl (ow_v fr (rn_extract (fr.ev rfl) rfl) rfl rfl ?_)
      intro a fr
      refine lst rfl (ow_v fr (rn_extract (fr.ev rfl) rfl) rfl rfl ?_)
      intro a fr
      refine lst rfl (ow_v fr (rn_assign (fr.ev rfl)) rfl rfl ?_)
      intro a fr
      refine lst rfl (ow_v fr (rn_assign (fr.ev rfl)) rfl rfl ?_)
      intro a fr
      refine wpList_nil ?_
      refine then_n ?_
      refine wp_seq ?_
      refine reg ?_
      refine lst rfl (ow_v fr (rn_move (fr.ev rfl)) rfl rfl ?_)
      intro a fr
      refine lst rfl (ow_call fr rfl rfl Try.call9 (nlen _) rfl rfl ?_)
      rintro e w ⟨rfl, hag⟩
      refine ⟨_, rfl, ?_⟩
      intro a fr
      have st := st.keep hag
      clear hag
      refine lst rfl (ow_v fr (rn_as (rn_neq (fr.ev rfl) (fr.ev rfl)) (by rfl)) rfl rfl ?_)
      intro a fr
      refine lst rfl (ow_v fr (rn_move (fr.ev rfl)) rfl rfl ?_)
      intro a fr
      refine lst_y (wanted_of fr rfl rfl rfl rfl) (ow_v fr (rn_move (fr.ev rfl)) rfl rfl ?_)
      intro a fr
      refine lst_y (wanted_of fr rfl rfl rfl rfl) (ow_v fr (rn_move (fr.ev rfl)) rfl rfl ?_)
      intro a fr
      refine lst_y (wanted_of fr rfl rfl rfl rfl) (ow_call fr rfl rfl Try.call21 (nname _ _) rfl rfl ?_)
      rintro e w ⟨rfl, hag⟩
      refine ⟨_, rfl, ?_⟩
      intro a fr
      have st := st.keep hag
      clear hag
      refine lst_y (wanted_of fr rfl rfl rfl rfl) (ow_v fr (rn_as (v' := .bool false) (rn_nes Try.underlying9 (fr.ev rfl) (fr.ev rfl)) (congrArg Value.bool (by rw [(bytes_beq _ _).2 rfl]; rfl))) rfl rfl ?_)
      intro a fr
      refine lst rfl (ow_v fr (rn_pick_f (fr.ev rfl) (fr.ev rfl)) rfl rfl ?_)
      intro a fr
      refine lst rfl (ow_v fr (rn_move (fr.ev rfl)) rfl rfl ?_)
      intro a fr
      refine lst_y (wanted_of fr rfl rfl rfl rfl) (ow_v fr (rn_move (fr.ev rfl)) rfl rfl ?_)
      intro a fr
      refine lst rfl (ow_v fr (rn_pick_f (fr.ev rfl) (fr.ev rfl)) rfl rfl ?_)
      intro a fr
      refine lst rfl (ow_v fr (rn_move (fr.ev rfl)) rfl rfl ?_)
      intro a fr
      refine lst_y (wanted_of fr rfl rfl rfl rfl) (ow_v fr (rn_move (fr.ev rfl)) rfl rfl ?_)
      intro a fr
      refine lst_y (wanted_of fr rfl rfl rfl rfl) (ow_v fr (rn_move (fr.ev rfl)) rfl rfl ?_)
      intro a fr
      refine lst_y (wanted_of fr rfl rfl rfl rfl) (ow_call fr rfl rfl Try.call11 (nsuper _ _) rfl rfl ?_)
      rintro e w ⟨rfl, hag⟩
      refine ⟨_, rfl, ?_⟩
      intro a fr
      have st := st.keep hag
      clear hag
      refine lst_y (wanted_of fr rfl rfl rfl rfl) (ow_v fr (rn_as (rn_neq (fr.ev rfl) (fr.ev rfl)) (by rfl)) rfl rfl ?_)
      intro a fr
      refine lst rfl (ow_v fr (rn_pick_f (fr.ev rfl) (fr.ev rfl)) rfl rfl ?_)
      intro a fr
      refine lst rfl (ow_v fr (rn_move (fr.ev rfl)) rfl rfl ?_)
      intro a fr
      refine lst_y (wanted_of fr rfl rfl rfl rfl) (ow_v fr (rn_move (fr.ev rfl)) rfl rfl ?_)
      intro a fr
      refine lst_y (wanted_of fr rfl rfl rfl rfl) (ow_v fr (rn_move (fr.ev rfl)) rfl rfl ?_)
      intro a fr
      refine lst_y (wanted_of fr rfl rfl rfl rfl) (ow_v fr (rn_move (fr.ev rfl)) rfl rfl ?_)
      intro a fr
      refine lst_y (wanted_of fr rfl rfl rfl rfl) (ow_call fr rfl rfl Try.call10 (nunder _ _ _) rfl rfl ?_)
      rintro e w ⟨rfl, hag⟩
      refine ⟨_, rfl, ?_⟩
      intro a fr
      have st := st.keep hag
      clear hag
      refine lst rfl (ow_v fr (rn_pick_f (fr.ev rfl) (fr.ev rfl)) rfl rfl ?_)
      intro a fr
      refine lst rfl (ow_v fr (rn_move (fr.ev rfl)) rfl rfl ?_)
      intro a fr
      refine lst_y (wanted_of fr rfl rfl rfl rfl) (ow_v fr (rn_move (fr.ev rfl)) rfl rfl ?_)
      intro a fr
      refine lst_y (wanted_of fr rfl rfl rfl rfl) (ow_v fr (rn_move (fr.ev rfl)) rfl rfl ?_)
      intro a fr
      refine lst_y (wanted_of fr rfl rfl rfl rfl) (ow_v fr (rn_move (fr.ev rfl)) rfl rfl ?_)
      intro a fr
      refine lst_y (wanted_of fr rfl rfl rfl rfl) (ow_call fr rfl rfl Try.call13 (ncommon _ _ _) rfl rfl ?_)
      rintro e w ⟨rfl, hag⟩
      refine ⟨_, rfl, ?_⟩
      intro a fr
      have st := st.keep hag
      clear hag
      refine lst_y (wanted_of fr rfl rfl rfl rfl) (ow_v fr (rn_as (rn_neq (fr.ev rfl) (fr.ev rfl)) (by rfl)) rfl rfl ?_)
      intro a fr
      refine lst rfl (ow_v fr (rn_pick_f (fr.ev rfl) (fr.ev rfl)) rfl rfl ?_)
      intro a fr
      refine lst rfl (ow_v fr (rn_move (fr.ev rfl)) rfl rfl ?_)
      intro a fr
      refine lst_y (wanted_of fr rfl rfl rfl rfl) (ow_v fr (rn_move (fr.ev rfl)) rfl rfl ?_)
      intro a fr
      refine lst_y (wanted_of fr rfl rfl rfl rfl) (ow_v fr (rn_move (fr.ev rfl)) rfl rfl ?_)
      intro a fr
      refine lst_y (wanted_of fr rfl rfl rfl rfl) (ow_call fr rfl rfl Try.call12 (ndepth _ _) rfl rfl ?_)
      rintro e w ⟨rfl, hag⟩
      refine ⟨_, rfl, ?_⟩
      intro a fr
      have st := st.keep hag
      clear hag
      refine lst_y (wanted_of fr rfl rfl rfl rfl) (ow_v fr (rn_as (rn_neq (fr.ev rfl) (fr.ev rfl)) (by rfl)) rfl rfl ?_)
      intro a fr
      refine lst rfl (ow_v fr (rn_pick_f (fr.ev rfl) (fr.ev rfl)) rfl rfl ?_)
      intro a fr
      refine lst rfl (ow_v fr (rn_move (fr.ev rfl)) rfl rfl ?_)
      intro a fr
      refine lst_y (wanted_of fr rfl rfl rfl rfl) (ow_v fr (rn_move (fr.ev rfl)) rfl rfl ?_)
      intro a fr
      refine lst_y (wanted_of fr rfl rfl rfl rfl) (ow_v fr (rn_move (fr.ev rfl)) rfl rfl ?_)
      intro a fr
      refine lst_y (wanted_of fr rfl rfl rfl rfl) (ow_call fr rfl rfl Try.call22 (nsubs _ _) rfl rfl ?_)
      rintro e w ⟨rfl, hag⟩
      refine ⟨_, rfl, ?_⟩
      intro a fr
      have st := st.keep hag
      clear hag
      refine lst_y (wanted_of fr rfl rfl rfl rfl) (ow_v fr (rn_len (fr.ev rfl) Try.underlying43) rfl rfl ?_)
      intro a fr
      refine lst_y (wanted_of fr rfl rfl rfl rfl) (ow_v fr (rn_as (rn_neq (fr.ev rfl) (fr.ev rfl)) (by rfl)) rfl rfl ?_)
      intro a fr
      refine lst rfl (ow_v fr (rn_pick_f (fr.ev rfl) (fr.ev rfl)) rfl rfl ?_)
      intro a fr
      refine lst rfl (ow_v fr (rn_move (fr.ev rfl)) rfl rfl ?_)
      intro a fr
      refine lst_y (wanted_of fr rfl rfl rfl rfl) (ow_v fr (rn_move (fr.ev rfl)) rfl rfl ?_)
      intro a fr
      refine lst_y (wanted_of fr rfl rfl rfl rfl) (ow_call fr rfl rfl Try.call18 (order_calls _ _) rfl rfl ?_)
      rintro e w ⟨q3, rfl, st2, hnw⟩
      refine ⟨_, rfl, ?_⟩
      intro a fr
      have st := st.join st2 (by intro it hi b hb; simp at hi; subst hi; simp [It.fp] at hb; subst hb; exact hnw)
      clear st2 hnw
      replace st : St _ [] w [.blk q3 [.pointer none] 23, .blk b2 [.pointer none, .pointer (some ⟨b1, 0, none⟩)] 23, .blk b1 [.slice none 0 0, .slice none 0 0, .map none] 48, els lineC 2 LA l] := st
      refine lst_y (wanted_of fr rfl rfl rfl rfl) (ow_call fr rfl rfl Try.call17 (tells_none0 (st_one (st.get 0 rfl))) rfl rfl ?_)
      rintro e w ⟨rfl, hag⟩
      refine ⟨_, rfl, ?_⟩
      intro a fr
      have st := st.keep hag
      clear hag
      refine lst_y (wanted_of fr rfl rfl rfl rfl) (ow_v fr (rn_not (fr.ev rfl)) rfl rfl ?_)
      intro a fr
      refine lst rfl (ow_v fr (rn_pick_f (fr.ev rfl) (fr.ev rfl)) rfl rfl ?_)
      intro a fr
      refine wpList_nil ?_
      refine then_n ?_
      refine cond_f fr rfl rfl ?_
      refine wp_skip ?_
      refine blk_n ?_
      refine then_n ?_
      refine reg ?_
      refine lst rfl (ow_v fr (rn_add (c := 1) (fr.ev rfl) (fr.ev rfl) (wr_i64e (by omega) (by omega) (by omega))) rfl rfl ?_)
      intro a fr
      refine lst rfl (ow_v fr (rn_move (fr.ev rfl)) rfl rfl ?_)
      intro a fr
      refine wpList_nil ?_
      refine then_n ⟨2 - 1, ?_, 1, (by omega), rfl, fr.prune ⟨rfl, rfl, rfl, rfl, rfl, trivial⟩, st.sub (.cons _ (.cons_cons _ (.cons_cons _ (.cons_cons _ .slnil))))⟩
      omega
    · replace fr : FrL 134 a [(0, .slice LA l.length lc), (1, .int .i64 (n)), (21, .slice (some ⟨b2, 0, none⟩) 2 2), (22, .int .i64 2), (23, .int .i64 1)] := fr
      refine wp_seq ?_
      refine reg ?_
      refine lst rfl (ow_v fr (rn_as (rn_lss (fr.ev rfl) (fr.ev rfl)) (by rfl)) rfl rfl ?_)
      intro a fr
      refine wpList_nil ?_
      refine then_n ?_
      refine wp_seq ?_
      refine cond_t fr rfl rfl ?_
      refine wp_skip ?_
      refine then_n ?_
      refine wp_seq ?_
      refine wp_block ?_
      refine wp_seq ?_
      refine reg ?_
      refine lst rfl (ow_v fr (rn_at (i := 1) (fr.ev rfl) (fr.ev rfl) Try.underlying49 sz_23 (by omega) (by rfl)) rfl rfl ?_)
      intro a fr
      refine lst rfl (ow_v fr (rn_load (fr.ev rfl) Try.underlying23 rfl (st.cell 0 rfl rfl)) rfl rfl ?_)
      intro a fr
      refine lst rfl (ow_v fr (rn_assign (fr.ev rfl)) rfl rfl ?_)
      intro a fr
      refine wpList_nil ?_
      refine then_n ?_
      refine wp_seq ?_
      refine reg ?_
      refine lst rfl (ow_v fr (rn_move (fr.ev rfl)) rfl rfl ?_)
      intro a fr
      refine lst rfl (ow_call fr rfl rfl Try.call20 (zfind _ _ _ (ro_of_blk (st.get 1 rfl))) rfl rfl ?_)
      rintro e w ⟨rfl, hag⟩
      refine ⟨_, rfl, ?_⟩
      intro a fr
      have st := st.keep hag
      clear hag
      refine lst rfl (ow_v fr (rn_move (fr.ev rfl)) rfl rfl ?_)
      intro a fr
      refine lst rfl (ow_v fr (rn_extract (fr.ev rfl) rfl) rfl rfl ?_)
      intro a fr
      refine lst rfl (ow_v fr (rn_extract (fr.ev rfl) rfl) rfl rfl ?_)
      intro a fr
      refine lst rfl (ow_v fr (rn_assign (fr.ev rfl)) rfl rfl ?_)
      intro a fr
      refine lst rfl (ow_v fr (rn_assign (fr.ev rfl)) rfl rfl ?_)
      intro a fr
      refine wpList_nil ?_
      refine then_n ?_
      refine wp_seq ?_
      refine reg ?_
      refine lst rfl (ow_v fr (rn_move (fr.ev rfl)) rfl rfl ?_)
      intro a fr
      refine lst rfl (ow_call fr rfl rfl Try.call9 (zlen _ _ (ro_of_blk (st.get 1 rfl))) rfl rfl ?_)
      rintro e w ⟨rfl, hag⟩
      refine ⟨_, rfl, ?_⟩
      intro a fr
      have st := st.keep hag
      clear hag
      refine lst rfl (ow_v fr (rn_as (rn_neq (fr.ev rfl) (fr.ev rfl)) (by rfl)) rfl rfl ?_)
      intro a fr
      refine lst rfl (ow_v fr (rn_move (fr.ev rfl)) rfl rfl ?_)
      intro a fr
      refine lst_y (wanted_of fr rfl rfl rfl rfl) (ow_v fr (rn_move (fr.ev rfl)) rfl rfl ?_)
      intro a fr
      refine lst_y (wanted_of fr rfl rfl rfl rfl) (ow_v fr (rn_move (fr.ev rfl)) rfl rfl ?_)
      intro a fr
      refine lst_y (wanted_of fr rfl rfl rfl rfl) (ow_call fr rfl rfl Try.call21 (zname _ _ _ (ro_of_blk (st.get 1 rfl))) rfl rfl ?_)
      rintro e w ⟨rfl, hag⟩
      refine ⟨_, rfl, ?_⟩
      intro a fr
      have st := st.keep hag
      clear hag
      refine lst_y (wanted_of fr rfl rfl rfl rfl) (ow_v fr (rn_as (v' := .bool false) (rn_nes Try.underlying9 (fr.ev rfl) (fr.ev rfl)) (congrArg Value.bool (by rw [(bytes_beq _ _).2 rfl]; rfl))) rfl rfl ?_)
      intro a fr
      refine lst rfl (ow_v fr (rn_pick_f (fr.ev rfl) (fr.ev rfl)) rfl rfl ?_)
      intro a fr
      refine lst rfl (ow_v fr (rn_move (fr.ev rfl)) rfl rfl ?_)
      intro a fr
      refine lst_y (wanted_of fr rfl rfl rfl rfl) (ow_v fr (rn_move (fr.ev rfl)) rfl rfl ?_)
      intro a fr
      refine lst rfl (ow_v fr (rn_pick_f (fr.ev rfl) (fr.ev rfl)) rfl rfl ?_)
      intro a fr
      refine lst rfl (ow_v fr (rn_move (fr.ev rfl)) rfl rfl ?_)
      intro a fr
      refine lst_y (wanted_of fr rfl rfl rfl rfl) (ow_v fr (rn_move (fr.ev rfl)) rfl rfl ?_)
      intro a fr
      refine lst_y (wanted_of fr rfl rfl rfl rfl) (ow_v fr (rn_move (fr.ev rfl)) rfl rfl ?_)
      intro a fr
      refine lst_y (wanted_of fr rfl rfl rfl rfl) (ow_call fr rfl rfl Try.call11 (zsuper _ _ _ (ro_of_blk (st.get 1 rfl))) rfl rfl ?_)
      rintro e w ⟨rfl, hag⟩
      refine ⟨_, rfl, ?_⟩
      intro a fr
      have st := st.keep hag
      clear hag
      refine lst_y (wanted_of fr rfl rfl rfl rfl) (ow_v fr (rn_as (rn_neq (fr.ev rfl) (fr.ev rfl)) (by rfl)) rfl rfl ?_)
      intro a fr
      refine lst rfl (ow_v fr (rn_pick_f (fr.ev rfl) (fr.ev rfl)) rfl rfl ?_)
      intro a fr
      refine lst rfl (ow_v fr (rn_move (fr.ev rfl)) rfl rfl ?_)
      intro a fr
      refine lst_y (wanted_of fr rfl rfl rfl rfl) (ow_v fr (rn_move (fr.ev rfl)) rfl rfl ?_)
      intro a fr
      refine lst_y (wanted_of fr rfl rfl rfl rfl) (ow_v fr (rn_move (fr.ev rfl)) rfl rfl ?_)
      intro a fr
      refine lst_y (wanted_of fr rfl rfl rfl rfl) (ow_v fr (rn_move (fr.ev rfl)) rfl rfl ?_)
      intro a fr
      refine lst_y (wanted_of fr rfl rfl rfl rfl) (ow_call fr rfl rfl Try.call10 (zunder _ _ _ _ (ro_of_blk (st.get 1 rfl))) rfl rfl ?_)
      rintro e w ⟨rfl, hag⟩
      refine ⟨_, rfl, ?_⟩
      intro a fr
      have st := st.keep hag
      clear hag
      refine lst rfl (ow_v fr (rn_pick_f (fr.ev rfl) (fr.ev rfl)) rfl rfl ?_)
      intro a fr
      refine lst rfl (ow_v fr (rn_move (fr.ev rfl)) rfl rfl ?_)
      intro a fr
      refine lst_y (wanted_of fr rfl rfl rfl rfl) (ow_v fr (rn_move (fr.ev rfl)) rfl rfl ?_)
      intro a fr
      refine lst_y (wanted_of fr rfl rfl rfl rfl) (ow_v fr (rn_move (fr.ev rfl)) rfl rfl ?_)
      intro a fr
      refine lst_y (wanted_of fr rfl rfl rfl rfl) (ow_v fr (rn_move (fr.ev rfl)) rfl rfl ?_)
      intro a fr
      refine lst_y (wanted_of fr rfl rfl rfl rfl) (ow_call fr rfl rfl Try.call13 (zcommon _ _ _ _ (ro_of_blk (st.get 1 rfl))) rfl rfl ?_)
      rintro e w ⟨rfl, hag⟩
      refine ⟨_, rfl, ?_⟩
      intro a fr
      have st := st.keep hag
      clear hag
      refine lst_y (wanted_of fr rfl rfl rfl rfl) (ow_v fr (rn_as (rn_neq (fr.ev rfl) (fr.ev rfl)) (by rfl)) rfl rfl ?_)
      intro a fr
      refine lst rfl (ow_v fr (rn_pick_f (fr.ev rfl) (fr.ev rfl)) rfl rfl ?_)
      intro a fr
      refine lst rfl (ow_v fr (rn_move (fr.ev rfl)) rfl rfl ?_)
      intro a fr
      refine lst_y (wanted_of fr rfl rfl rfl rfl) (ow_v fr (rn_move (fr.ev rfl)) rfl rfl ?_)
      intro a fr
      refine lst_y (wanted_of fr rfl rfl rfl rfl) (ow_v fr (rn_move (fr.ev rfl)) rfl rfl ?_)
      intro a fr
      refine lst_y (wanted_of fr rfl rfl rfl rfl) (ow_call fr rfl rfl Try.call12 (zdepth _ _ _ (ro_of_blk (st.get 1 rfl))) rfl rfl ?_)
      rintro e w ⟨rfl, hag⟩
      refine ⟨_, rfl, ?_⟩
      intro a fr
      have st := st.keep hag
      clear hag
      refine lst_y (wanted_of fr rfl rfl rfl rfl) (ow_v fr (rn_as (rn_neq (fr.ev rfl) (fr.ev rfl)) (by rfl)) rfl rfl ?_)
      intro a fr
      refine lst rfl (ow_v fr (rn_pick_f (fr.ev rfl) (fr.ev rfl)) rfl rfl ?_)
      intro a fr
      refine lst rfl (ow_v fr (rn_move (fr.ev rfl)) rfl rfl ?_)
      intro a fr
      refine lst_y (wanted_of fr rfl rfl rfl rfl) (ow_v fr (rn_move (fr.ev rfl)) rfl rfl ?_)
      intro a fr
      refine lst_y (wanted_of fr rfl rfl rfl rfl) (ow_v fr (rn_move (fr.ev rfl)) rfl rfl ?_)
      intro a fr
      refine lst_y (wanted_of fr rfl rfl rfl rfl) (ow_call fr rfl rfl Try.call22 (zsubs _ _ _ (ro_of_blk (st.get 1 rfl))) rfl rfl ?_)
      rintro e w ⟨rfl, hag⟩
      refine ⟨_, rfl, ?_⟩
      intro a fr
      have st := st.keep hag
      clear hag
      refine lst_y (wanted_of fr rfl rfl rfl rfl) (ow_v fr (rn_len (fr.ev rfl) Try.underlying43) rfl rfl ?_)
      intro a fr
      refine lst_y (wanted_of fr rfl rfl rfl rfl) (ow_v fr (rn_as (rn_neq (fr.ev rfl) (fr.ev rfl)) (by rfl)) rfl rfl ?_)
      intro a fr
      refine lst rfl (ow_v fr (rn_pick_f (fr.ev rfl) (fr.ev rfl)) rfl rfl ?_)
      intro a fr
      refine lst rfl (ow_v fr (rn_move (fr.ev rfl)) rfl rfl ?_)
      intro a fr
      refine lst_y (wanted_of fr rfl rfl rfl rfl) (ow_v fr (rn_move (fr.ev rfl)) rfl rfl ?_)
      intro a fr
      refine lst_y (wanted_of fr rfl rfl rfl rfl) (ow_call fr rfl rfl Try.call18 (order_calls _ _) rfl rfl ?_)
      rintro e w ⟨q4, rfl, st2, hnw⟩
      refine ⟨_, rfl, ?_⟩
      intro a fr
      have st := st.join st2 (by intro it hi b hb; simp at hi; subst hi; simp [It.fp] at hb; subst hb; exact hnw)
      clear st2 hnw
      replace st : St _ [] w [.blk q4 [.pointer (some ⟨b1, 0, none⟩)] 23, .blk b2 [.pointer none, .pointer (some ⟨b1, 0, none⟩)] 23, .blk b1 [.slice none 0 0, .slice none 0 0, .map none] 48, els lineC 2 LA l] := st
      refine lst_y (wanted_of fr rfl rfl rfl rfl) (ow_call fr rfl rfl Try.call17 (tells_none1 (st_two (st.get 0 rfl) (st.get 2 rfl))) rfl rfl ?_)
      rintro e w ⟨rfl, hag⟩
      refine ⟨_, rfl, ?_⟩
      intro a fr
      have st := st.keep hag
      clear hag
      refine lst_y (wanted_of fr rfl rfl rfl rfl) (ow_v fr (rn_not (fr.ev rfl)) rfl rfl ?_)
      intro a fr
      refine lst rfl (ow_v fr (rn_pick_f (fr.ev rfl) (fr.ev rfl)) rfl rfl ?_)
      intro a fr
      refine wpList_nil ?_
      refine then_n ?_
      refine cond_f fr rfl rfl ?_
      refine wp_skip ?_
      refine blk_n ?_
      refine then_n ?_
      refine reg ?_
      refine lst rfl (ow_v fr (rn_add (c := 2) (fr.ev rfl) (fr.ev rfl) (wr_i64e (by omega) (by omega) (by omega))) rfl rfl ?_)
      intro a fr
      refine lst rfl (ow_v fr (rn_move (fr.ev rfl)) rfl rfl ?_)
      intro a fr
      refine wpList_nil ?_
      refine then_n ⟨2 - 2, ?_, 2, (by omega), rfl, fr.prune ⟨rfl, rfl, rfl, rfl, rfl, trivial⟩, st.sub (.cons _ (.cons_cons _ (.cons_cons _ (.cons_cons _ .slnil))))⟩
      omega
    · replace fr : FrL 134 a [(0, .slice LA l.length lc), (1, .int .i64 (n)), (21, .slice (some ⟨b2, 0, none⟩) 2 2), (22, .int .i64 2), (23, .int .i64 2)] := fr
      refine wp_seq ?_
      refine reg ?_
      refine lst rfl (ow_v fr (rn_as (rn_lss (fr.ev rfl) (fr.ev rfl)) (by rfl)) rfl rfl ?_)
      intro a fr
      refine wpList_nil ?_
      refine then_n ?_
      refine wp_seq ?_
      refine cond_f fr rfl rfl ?_
      refine wp_exit ?_
      refine then_x ?_
      refine then_x ?_
      refine blk_x ?_
      refine then_n ?_
      refine wp_seq ?_
      refine reg ?_
      refine lst rfl (ow_v fr (rn_move (fr.ev rfl)) rfl rfl ?_)
      intro a fr
      refine lst rfl (ow_call fr rfl rfl Try.call23 (clone_lines _ _ _ hl32 _ (st.get 2 rfl).1) rfl rfl ?_)
      rintro e w ⟨MA, mc, rfl, hrow, hag⟩
      refine ⟨_, rfl, ?_⟩
      intro a fr
      have st := st.call_row hag hrow
      clear hag hrow
      replace st : St _ [] w [row lineC 2 56 w0.heap.size (.slice MA l.length mc) l, .blk b2 [.pointer none, .pointer (some ⟨b1, 0, none⟩)] 23, .blk b1 [.slice none 0 0, .slice none 0 0, .map none] 48, els lineC 2 LA l] := st
      refine lst rfl (ow_v fr (rn_assign (fr.ev rfl)) rfl rfl ?_)
      intro a fr
      refine wpList_nil ?_
      refine then_n ?_
      refine wp_seq ?_
      refine reg ?_
      refine lst rfl (ow_v fr (rn_move (fr.ev rfl)) rfl rfl ?_)
      intro a fr
      refine lst rfl (ow_call fr rfl rfl Try.call7 (new_err hfi _ _ hl _ (row_els (fun _ => rfl) (st.get 0 rfl).1)) rfl rfl ?_)
      rintro e w ⟨er, rfl, her, hag⟩
      refine ⟨_, rfl, ?_⟩
      intro a fr
      have st := st.keep hag
      clear hag
      refine lst rfl (ow_v fr (rn_move (fr.ev rfl)) rfl rfl ?_)
      intro a fr
      refine lst rfl (ow_v fr (rn_extract (fr.ev rfl) rfl) rfl rfl ?_)
      intro a fr
      refine lst rfl (ow_v fr (rn_extract (fr.ev rfl) rfl) rfl rfl ?_)
      intro a fr
      refine lst rfl (ow_v fr (rn_assign (fr.ev rfl)) rfl rfl ?_)
      intro a fr
      refine lst rfl (ow_v fr (rn_assign (fr.ev rfl)) rfl rfl ?_)
      intro a fr
      refine wpList_nil ?_
      refine then_n ?_
      refine wp_seq ?_
      refine reg ?_
      refine lst rfl (ow_v fr (rn_move (fr.ev rfl)) rfl rfl ?_)
      intro a fr
      refine lst rfl (ow_call fr rfl rfl Try.call14 (rnew_err hfi _ _ hl her _ (st.get 3 rfl).1) rfl rfl ?_)
      rintro e w ⟨rfl, hag⟩
      refine ⟨_, rfl, ?_⟩
      intro a fr
      have st := st.keep hag
      clear hag
      refine lst rfl (ow_v fr (rn_move (fr.ev rfl)) rfl rfl ?_)
      intro a fr
      refine lst rfl (ow_v fr (rn_extract (fr.ev rfl) rfl) rfl rfl ?_)
      intro a fr
      refine lst rfl (ow_v fr (rn_extract (fr.ev rfl) rfl) rfl rfl ?_)
      intro a fr
      refine lst rfl (ow_v fr (rn_assign (fr.ev rfl)) rfl rfl ?_)
      intro a fr
      refine lst rfl (ow_v fr (rn_assign (fr.ev rfl)) rfl rfl ?_)
      intro a fr
      refine wpList_nil ?_
      refine then_n ?_
      refine wp_seq ?_
      refine wp_seq ?_
      refine reg ?_
      refine lst rfl (ow_v fr (rn_move (fr.ev rfl)) rfl rfl ?_)
      intro a fr
      refine lst rfl (ow_v fr (rn_as (v' := .bool true) (rn_neq (fr.ev rfl) (fr.ev rfl)) (congrArg Value.bool (by simpa using errC_ne her))) rfl rfl ?_)
      intro a fr
      refine wpList_nil ?_
      refine then_n ?_
      refine cond_t fr rfl rfl ?_
      refine wp_seq ?_
      refine reg ?_
      refine lst rfl (ow_v fr (rn_move (fr.ev rfl)) rfl rfl ?_)
      intro a fr
      refine lst rfl (ow_v fr (rn_eql_nn (fr.ev rfl) (fr.ev rfl) Try.underlying23) rfl rfl ?_)
      intro a fr
      refine lst rfl (ow_v fr (rn_assign (fr.ev rfl)) rfl rfl ?_)
      intro a fr
      refine wpList_nil ?_
      refine then_n ?_
      refine wp_ret ?_
      refine then_r ?_
      refine ret1 Try.results6 fr (rv_tmp fr rfl) ?_
      exact ⟨rfl, st.agr.below⟩

end Go.Proofs.Ytnggnacaghcclaa.H15
