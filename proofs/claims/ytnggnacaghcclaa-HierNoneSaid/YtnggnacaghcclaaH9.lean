import Derived.Test.YtnggnacaghcclaaH8
set_option linter.unusedVariables false
set_option linter.unusedSimpArgs false
namespace Go.Proofs.Ytnggnacaghcclaa.H9
open Go.RowKit Go.Proofs.Ytnggnacaghcclaa.LibA Go.Proofs.Ytnggnacaghcclaa.LibC Go.Proofs.Ytnggnacaghcclaa.LibS Go.Proofs.Ytnggnacaghcclaa.LibR Go.Proofs.Ytnggnacaghcclaa.LibT Go.Proofs.Ytnggnacaghcclaa.LibU Go.Proofs.Ytnggnacaghcclaa.LibV Go.Proofs.Ytnggnacaghcclaa.LibW Go.Proofs.Ytnggnacaghcclaa.LibX Go.Proofs.Ytnggnacaghcclaa.H1 Go.Proofs.Ytnggnacaghcclaa.H2 Go.Proofs.Ytnggnacaghcclaa.H3 Go.Proofs.Ytnggnacaghcclaa.H4 Go.Proofs.Ytnggnacaghcclaa.H5 Go.Proofs.Ytnggnacaghcclaa.H6 Go.Proofs.Ytnggnacaghcclaa.H7 Go.Proofs.Ytnggnacaghcclaa.H8
section
variable {P : Program} {w : World} {ρ : Operand → Value} {dst : Option Tmp} {ty : TypeId} {pos : String} {aft : Array Edge} {gd : Option (Nat × Bool)} {x y : Operand} {T kt et : TypeId} {kd : TypeDesc} {z : Value} {k : Value}
theorem rn_lookup_nil (hx : ρ x = .map none) (hy : ρ y = k) (hT : P.underlying T = some (.map kt et)) (hkt : P.underlying kt = some kd) (hck : ∀ e (w : World), (Instr.checkKey e 10000 kt k).run P w = .ok () w) (hz : ∀ w, (zeroValue et).run P w = .ok z w) :
    (execOp ρ ⟨dst, .lookup T x y true, ty, pos, aft, gd⟩).run P w = .ok (.value (.tuple #[z, .bool false])) w := by
  have hfk : (Instr.findKey kt k []).run P w = .ok none w := by
    unfold Instr.findKey
    simp only [Sem.run_bind, run_underlying hkt, Result.andThen_ok]
    rfl
  simp [execOp, hx, hy, Instr.lookup, Sem.run_bind, run_underlying hT, hck, hz w, hfk]
end


theorem nis (n : Int) (w0 : World) : Calls Try.prog 27 #[.pointer none, .int .i64 (n)] w0 fun e w' => e = .returned (.bool false) ∧ Agr [] w0 w' := by
  have st := St.start w0 []
  refine enter Try.func27 rfl Try.ntmps27 (by simp) ?_
  intro a fr
  refine wp_seq ?_
  refine reg ?_
  refine lst rfl (ow_v fr (rn_assign (fr.ev rfl)) rfl rfl ?_)
  intro a fr
  refine wpList_nil ?_
  refine then_n ?_
  refine wp_seq ?_
  refine reg ?_
  refine lst rfl (ow_v fr (rn_move (fr.ev rfl)) rfl rfl ?_)
  intro a fr
  refine lst rfl (ow_v fr (rn_neq_nn (fr.ev rfl) (fr.ev rfl) Try.underlying23) rfl rfl ?_)
  intro a fr
  refine lst rfl (ow_v fr (rn_move (fr.ev rfl)) rfl rfl ?_)
  intro a fr
  refine lst_n (unwanted_of fr rfl rfl rfl rfl) fr rfl rfl ?_
  intro a fr
  refine lst_n (unwanted_of fr rfl rfl rfl rfl) fr rfl rfl ?_
  intro a fr
  refine lst rfl (ow_v fr (rn_pick_f (fr.ev rfl) (fr.ev rfl)) rfl rfl ?_)
  intro a fr
  refine lst rfl (ow_v fr (rn_move (fr.ev rfl)) rfl rfl ?_)
  intro a fr
  refine lst_n (unwanted_of fr rfl rfl rfl rfl) fr rfl rfl ?_
  intro a fr
  refine lst_n (unwanted_of fr rfl rfl rfl rfl) fr rfl rfl ?_
  intro a fr
  refine lst_n (unwanted_of fr rfl rfl rfl rfl) fr rfl rfl ?_
  intro a fr
  refine lst_n (unwanted_of fr rfl rfl rfl rfl) fr rfl rfl ?_
  intro a fr
  refine lst_n (unwanted_of fr rfl rfl rfl rfl) fr rfl rfl ?_
  intro a fr
  refine lst_n (unwanted_of fr rfl rfl rfl rfl) fr rfl rfl ?_
  intro a fr
  refine lst_n (unwanted_of fr rfl rfl rfl rfl) fr rfl rfl ?_
  intro a fr
  refine lst rfl (ow_v fr (rn_pick_f (fr.ev rfl) (fr.ev rfl)) rfl rfl ?_)
  intro a fr
  refine lst rfl (ow_v fr (rn_assign (fr.ev rfl)) rfl rfl ?_)
  intro a fr
  refine wpList_nil ?_
  refine then_n ?_
  refine wp_ret ?_
  refine ret1 Try.results27 fr (rv_tmp fr rfl) ?_
  exact ⟨rfl, st.agr⟩

theorem nlen  (w0 : World) : Calls Try.prog 9 #[.pointer none] w0 fun e w' => e = .returned (.int .i64 0) ∧ Agr [] w0 w' := by
  have st := St.start w0 []
  refine enter Try.func9 rfl Try.ntmps9 (by simp) ?_
  intro a fr
  refine wp_seq ?_
  refine reg ?_
  refine lst rfl (ow_v fr (rn_assign (fr.ev rfl)) rfl rfl ?_)
  intro a fr
  refine wpList_nil ?_
  refine then_n ?_
  refine wp_seq ?_
  refine wp_seq ?_
  refine reg ?_
  refine lst rfl (ow_v fr (rn_move (fr.ev rfl)) rfl rfl ?_)
  intro a fr
  refine lst rfl (ow_v fr (rn_eql_nn (fr.ev rfl) (fr.ev rfl) Try.underlying23) rfl rfl ?_)
  intro a fr
  refine wpList_nil ?_
  refine then_n ?_
  refine cond_t fr rfl rfl ?_
  refine wp_seq ?_
  refine reg ?_
  refine lst rfl (ow_v fr (rn_assign (fr.ev rfl)) rfl rfl ?_)
  intro a fr
  refine wpList_nil ?_
  refine then_n ?_
  refine wp_ret ?_
  refine then_r ?_
  refine ret1 Try.results9 fr (rv_tmp fr rfl) ?_
  exact ⟨rfl, st.agr⟩

theorem nfind (x : ByteArray) (w0 : World) : Calls Try.prog 20 #[.pointer none, (.string x)] w0 fun e w' => e = .returned (.tuple #[.int .i64 0, .bool false]) ∧ Agr [] w0 w' := by
  have st := St.start w0 []
  refine enter Try.func20 rfl Try.ntmps20 (by simp) ?_
  intro a fr
  refine wp_seq ?_
  refine reg ?_
  refine lst rfl (ow_v fr (rn_assign (fr.ev rfl)) rfl rfl ?_)
  intro a fr
  refine lst rfl (ow_v fr (rn_assign (fr.ev rfl)) rfl rfl ?_)
  intro a fr
  refine wpList_nil ?_
  refine then_n ?_
  refine wp_seq ?_
  refine wp_seq ?_
  refine reg ?_
  refine lst rfl (ow_v fr (rn_move (fr.ev rfl)) rfl rfl ?_)
  intro a fr
  refine lst rfl (ow_v fr (rn_eql_nn (fr.ev rfl) (fr.ev rfl) Try.underlying23) rfl rfl ?_)
  intro a fr
  refine wpList_nil ?_
  refine then_n ?_
  refine cond_t fr rfl rfl ?_
  refine wp_seq ?_
  refine reg ?_
  refine lst rfl (ow_v fr (rn_assign (fr.ev rfl)) rfl rfl ?_)
  intro a fr
  refine lst rfl (ow_v fr (rn_assign (fr.ev rfl)) rfl rfl ?_)
  intro a fr
  refine wpList_nil ?_
  refine then_n ?_
  refine wp_ret ?_
  refine then_r ?_
  refine ret2 Try.results20 fr (rv_tmp fr rfl) (rv_tmp fr rfl) ?_
  exact ⟨rfl, st.agr⟩

theorem nname (n : Int) (w0 : World) : Calls Try.prog 21 #[.pointer none, .int .i64 (n)] w0 fun e w' => e = .returned (.string ⟨#[]⟩) ∧ Agr [] w0 w' := by
  have st := St.start w0 []
  refine enter Try.func21 rfl Try.ntmps21 (by simp) ?_
  intro a fr
  refine wp_seq ?_
  refine reg ?_
  refine lst rfl (ow_v fr (rn_assign (fr.ev rfl)) rfl rfl ?_)
  intro a fr
  refine wpList_nil ?_
  refine then_n ?_
  refine wp_seq ?_
  refine wp_seq ?_
  refine reg ?_
  refine lst rfl (ow_v fr (rn_move (fr.ev rfl)) rfl rfl ?_)
  intro a fr
  refine lst rfl (ow_v fr (rn_move (fr.ev rfl)) rfl rfl ?_)
  intro a fr
  refine lst rfl (ow_call fr rfl rfl Try.call27 (nis (n) _) rfl rfl ?_)
  rintro e w ⟨rfl, hag⟩
  refine ⟨_, rfl, ?_⟩
  intro a fr
  have st := st.keep hag
  clear hag
  refine lst rfl (ow_v fr (rn_not (fr.ev rfl)) rfl rfl ?_)
  intro a fr
  refine wpList_nil ?_
  refine then_n ?_
  refine cond_t fr rfl rfl ?_
  refine wp_seq ?_
  refine reg ?_
  refine lst rfl (ow_v fr (rn_assign (fr.ev rfl)) rfl rfl ?_)
  intro a fr
  refine wpList_nil ?_
  refine then_n ?_
  refine wp_ret ?_
  refine then_r ?_
  refine ret1 Try.results21 fr (rv_tmp fr rfl) ?_
  exact ⟨rfl, st.agr⟩

theorem nsuper (n : Int) (w0 : World) : Calls Try.prog 11 #[.pointer none, .int .i64 (n)] w0 fun e w' => e = .returned (.int .i64 (-1)) ∧ Agr [] w0 w' := by
  have st := St.start w0 []
  refine enter Try.func11 rfl Try.ntmps11 (by simp) ?_
  intro a fr
  refine wp_seq ?_
  refine reg ?_
  refine lst rfl (ow_v fr (rn_assign (fr.ev rfl)) rfl rfl ?_)
  intro a fr
  refine wpList_nil ?_
  refine then_n ?_
  refine wp_seq ?_
  refine wp_seq ?_
  refine reg ?_
  refine lst rfl (ow_v fr (rn_move (fr.ev rfl)) rfl rfl ?_)
  intro a fr
  refine lst rfl (ow_v fr (rn_move (fr.ev rfl)) rfl rfl ?_)
  intro a fr
  refine lst rfl (ow_call fr rfl rfl Try.call27 (nis (n) _) rfl rfl ?_)
  rintro e w ⟨rfl, hag⟩
  refine ⟨_, rfl, ?_⟩
  intro a fr
  have st := st.keep hag
  clear hag
  refine lst rfl (ow_v fr (rn_not (fr.ev rfl)) rfl rfl ?_)
  intro a fr
  refine wpList_nil ?_
  refine then_n ?_
  refine cond_t fr rfl rfl ?_
  refine wp_seq ?_
  refine reg ?_
  refine lst rfl (ow_v fr (rn_assign (fr.ev rfl)) rfl rfl ?_)
  intro a fr
  refine wpList_nil ?_
  refine then_n ?_
  refine wp_ret ?_
  refine then_r ?_
  refine ret1 Try.results11 fr (rv_tmp fr rfl) ?_
  exact ⟨rfl, st.agr⟩

theorem nunder (n m : Int) (w0 : World) : Calls Try.prog 10 #[.pointer none, .int .i64 (n), .int .i64 (m)] w0 fun e w' => e = .returned (.bool false) ∧ Agr [] w0 w' := by
  have st := St.start w0 []
  refine enter Try.func10 rfl Try.ntmps10 (by simp) ?_
  intro a fr
  refine wp_seq ?_
  refine reg ?_
  refine lst rfl (ow_v fr (rn_assign (fr.ev rfl)) rfl rfl ?_)
  intro a fr
  refine wpList_nil ?_
  refine then_n ?_
  refine wp_seq ?_
  refine wp_seq ?_
  refine reg ?_
  refine lst rfl (ow_v fr (rn_move (fr.ev rfl)) rfl rfl ?_)
  intro a fr
  refine lst rfl (ow_v fr (rn_move (fr.ev rfl)) rfl rfl ?_)
  intro a fr
  refine lst rfl (ow_call fr rfl rfl Try.call27 (nis (n) _) rfl rfl ?_)
  rintro e w ⟨rfl, hag⟩
  refine ⟨_, rfl, ?_⟩
  intro a fr
  have st := st.keep hag
  clear hag
  refine lst rfl (ow_v fr (rn_not (fr.ev rfl)) rfl rfl ?_)
  intro a fr
  refine lst rfl (ow_v fr (rn_move (fr.ev rfl)) rfl rfl ?_)
  intro a fr
  refine lst_n (unwanted_of fr rfl rfl rfl rfl) fr rfl rfl ?_
  intro a fr
  refine lst_n (unwanted_of fr rfl rfl rfl rfl) fr rfl rfl ?_
  intro a fr
  refine lst_n (unwanted_of fr rfl rfl rfl rfl) fr rfl rfl ?_
  intro a fr
  refine lst_n (unwanted_of fr rfl rfl rfl rfl) fr rfl rfl ?_
  intro a fr
  refine lst rfl (ow_v fr (rn_pick_t (fr.ev rfl) (fr.ev rfl)) rfl rfl ?_)
  intro a fr
  refine wpList_nil ?_
  refine then_n ?_
  refine cond_t fr rfl rfl ?_
  refine wp_seq ?_
  refine reg ?_
  refine lst rfl (ow_v fr (rn_assign (fr.ev rfl)) rfl rfl ?_)
  intro a fr
  refine wpList_nil ?_
  refine then_n ?_
  refine wp_ret ?_
  refine then_r ?_
  refine ret1 Try.results10 fr (rv_tmp fr rfl) ?_
  exact ⟨rfl, st.agr⟩

theorem ncommon (n m : Int) (w0 : World) : Calls Try.prog 13 #[.pointer none, .int .i64 (n), .int .i64 (m)] w0 fun e w' => e = .returned (.int .i64 (-1)) ∧ Agr [] w0 w' := by
  have st := St.start w0 []
  refine enter Try.func13 rfl Try.ntmps13 (by simp) ?_
  intro a fr
  refine wp_seq ?_
  refine reg ?_
  refine lst rfl (ow_v fr (rn_assign (fr.ev rfl)) rfl rfl ?_)
  intro a fr
  refine wpList_nil ?_
  refine then_n ?_
  refine wp_seq ?_
  refine wp_seq ?_
  refine reg ?_
  refine lst rfl (ow_v fr (rn_move (fr.ev rfl)) rfl rfl ?_)
  intro a fr
  refine lst rfl (ow_v fr (rn_move (fr.ev rfl)) rfl rfl ?_)
  intro a fr
  refine lst rfl (ow_call fr rfl rfl Try.call27 (nis (n) _) rfl rfl ?_)
  rintro e w ⟨rfl, hag⟩
  refine ⟨_, rfl, ?_⟩
  intro a fr
  have st := st.keep hag
  clear hag
  refine lst rfl (ow_v fr (rn_not (fr.ev rfl)) rfl rfl ?_)
  intro a fr
  refine lst rfl (ow_v fr (rn_move (fr.ev rfl)) rfl rfl ?_)
  intro a fr
  refine lst_n (unwanted_of fr rfl rfl rfl rfl) fr rfl rfl ?_
  intro a fr
  refine lst_n (unwanted_of fr rfl rfl rfl rfl) fr rfl rfl ?_
  intro a fr
  refine lst_n (unwanted_of fr rfl rfl rfl rfl) fr rfl rfl ?_
  intro a fr
  refine lst_n (unwanted_of fr rfl rfl rfl rfl) fr rfl rfl ?_
  intro a fr
  refine lst rfl (ow_v fr (rn_pick_t (fr.ev rfl) (fr.ev rfl)) rfl rfl ?_)
  intro a fr
  refine wpList_nil ?_
  refine then_n ?_
  refine cond_t fr rfl rfl ?_
  refine wp_seq ?_
  refine reg ?_
  refine lst rfl (ow_v fr (rn_assign (fr.ev rfl)) rfl rfl ?_)
  intro a fr
  refine wpList_nil ?_
  refine then_n ?_
  refine wp_ret ?_
  refine then_r ?_
  refine ret1 Try.results13 fr (rv_tmp fr rfl) ?_
  exact ⟨rfl, st.agr⟩

theorem ndepth (n : Int) (w0 : World) : Calls Try.prog 12 #[.pointer none, .int .i64 (n)] w0 fun e w' => e = .returned (.int .i64 (-1)) ∧ Agr [] w0 w' := by
  have st := St.start w0 []
  refine enter Try.func12 rfl Try.ntmps12 (by simp) ?_
  intro a fr
  refine wp_seq ?_
  refine reg ?_
  refine lst rfl (ow_v fr (rn_assign (fr.ev rfl)) rfl rfl ?_)
  intro a fr
  refine wpList_nil ?_
  refine then_n ?_
  refine wp_seq ?_
  refine reg ?_
  refine lst rfl (ow_v fr (rn_assign (fr.ev rfl)) rfl rfl ?_)
  intro a fr
  refine wpList_nil ?_
  refine then_n ?_
  refine wp_seq ?_
  refine wp_block ?_
  refine wp_loop_ghost (fun mz a w => ∃ (k : Nat), mz = k ∧ FrL 19 a [(0, .pointer none), (1, .int .i64 (n)), (4, .int .i64 0), (5, .int .i64 (-1))] ∧ St w0 [] w []) _ ⟨0, rfl, fr.prune ⟨rfl, rfl, rfl, rfl, trivial⟩, st⟩ ?_
  clear fr st
  intro mz a w hI
  obtain ⟨k, hmz, fr, st⟩ := hI
  refine wp_seq ?_
  refine wp_seq ?_
  refine reg ?_
  refine lst rfl (ow_v fr (rn_move (fr.ev rfl)) rfl rfl ?_)
  intro a fr
  refine lst rfl (ow_v fr (rn_move (fr.ev rfl)) rfl rfl ?_)
  intro a fr
  refine lst rfl (ow_call fr rfl rfl Try.call27 (nis (n) _) rfl rfl ?_)
  rintro e w ⟨rfl, hag⟩
  refine ⟨_, rfl, ?_⟩
  intro a fr
  have st := st.keep hag
  clear hag
  refine wpList_nil ?_
  refine then_n ?_
  refine cond_f fr rfl rfl ?_
  refine wp_exit ?_
  refine then_x ?_
  refine then_x ?_
  refine blk_x ?_
  refine then_n ?_
  refine wp_seq ?_
  refine reg ?_
  refine lst rfl (ow_v fr (rn_move (fr.ev rfl)) rfl rfl ?_)
  intro a fr
  refine lst rfl (ow_v fr (rn_assign (fr.ev rfl)) rfl rfl ?_)
  intro a fr
  refine wpList_nil ?_
  refine then_n ?_
  refine wp_ret ?_
  refine ret1 Try.results12 fr (rv_tmp fr rfl) ?_
  exact ⟨rfl, st.agr⟩

theorem nsubs (n : Int) (w0 : World) : Calls Try.prog 22 #[.pointer none, .int .i64 (n)] w0 fun e w' => e = .returned (.slice none 0 0) ∧ Agr [] w0 w' := by
  have st := St.start w0 []
  refine enter Try.func22 rfl Try.ntmps22 (by simp) ?_
  intro a fr
  refine wp_seq ?_
  refine reg ?_
  refine lst rfl (ow_v fr (rn_assign (fr.ev rfl)) rfl rfl ?_)
  intro a fr
  refine wpList_nil ?_
  refine then_n ?_
  refine wp_seq ?_
  refine wp_seq ?_
  refine reg ?_
  refine lst rfl (ow_v fr (rn_move (fr.ev rfl)) rfl rfl ?_)
  intro a fr
  refine lst rfl (ow_v fr (rn_move (fr.ev rfl)) rfl rfl ?_)
  intro a fr
  refine lst rfl (ow_call fr rfl rfl Try.call27 (nis (n) _) rfl rfl ?_)
  rintro e w ⟨rfl, hag⟩
  refine ⟨_, rfl, ?_⟩
  intro a fr
  have st := st.keep hag
  clear hag
  refine lst rfl (ow_v fr (rn_not (fr.ev rfl)) rfl rfl ?_)
  intro a fr
  refine wpList_nil ?_
  refine then_n ?_
  refine cond_t fr rfl rfl ?_
  refine wp_seq ?_
  refine reg ?_
  refine lst rfl (ow_v fr (rn_assign (fr.ev rfl)) rfl rfl ?_)
  intro a fr
  refine wpList_nil ?_
  refine then_n ?_
  refine wp_ret ?_
  refine then_r ?_
  refine ret1 Try.results22 fr (rv_tmp fr rfl) ?_
  exact ⟨rfl, st.agr⟩

theorem zis (g : Nat) (n : Int) (w0 : World) (hok : (ro g 0 [.slice none 0 0, .slice none 0 0, .map none]).ok w0 [] w0) : Calls Try.prog 27 #[.pointer (some ⟨g, 0, none⟩), .int .i64 (n)] w0 fun e w' => e = .returned (.bool false) ∧ Agr [] w0 w' := by
  have st : St w0 [] w0 [ro g 0 [.slice none 0 0, .slice none 0 0, .map none]] := of_ro (Agr.refl _ _) (by intro it hi; simp at hi; subst hi; exact ⟨hok, rfl⟩)
  by_cases h0 : 0 ≤ n
  · refine enter Try.func27 rfl Try.ntmps27 (by simp) ?_
    intro a fr
    refine wp_seq ?_
    refine reg ?_
    refine lst rfl (ow_v fr (rn_assign (fr.ev rfl)) rfl rfl ?_)
    intro a fr
    refine wpList_nil ?_
    refine then_n ?_
    refine wp_seq ?_
    refine reg ?_
    refine lst rfl (ow_v fr (rn_move (fr.ev rfl)) rfl rfl ?_)
    intro a fr
    refine lst rfl (ow_v fr (rn_neq_pn (fr.ev rfl) (fr.ev rfl) Try.underlying23) rfl rfl ?_)
    intro a fr
    refine lst rfl (ow_v fr (rn_move (fr.ev rfl)) rfl rfl ?_)
    intro a fr
    refine lst_y (wanted_of fr rfl rfl rfl rfl) (ow_v fr (rn_move (fr.ev rfl)) rfl rfl ?_)
    intro a fr
    refine lst_y (wanted_of fr rfl rfl rfl rfl) (ow_v fr (rn_as (v' := .bool true) (rn_geq (fr.ev rfl) (fr.ev rfl)) (congrArg Value.bool (decide_eq_true (by omega)))) rfl rfl ?_)
    intro a fr
    refine lst rfl (ow_v fr (rn_pick_t (fr.ev rfl) (fr.ev rfl)) rfl rfl ?_)
    intro a fr
    refine lst rfl (ow_v fr (rn_move (fr.ev rfl)) rfl rfl ?_)
    intro a fr
    refine lst_y (wanted_of fr rfl rfl rfl rfl) (ow_v fr (rn_move (fr.ev rfl)) rfl rfl ?_)
    intro a fr
    refine lst_y (wanted_of fr rfl rfl rfl rfl) (ow_v fr (rn_move (fr.ev rfl)) rfl rfl ?_)
    intro a fr
    refine lst_y (wanted_of fr rfl rfl rfl rfl) (ow_v fr (rn_nilCheck (fr.ev rfl)) rfl rfl ?_)
    intro a fr
    refine lst_y (wanted_of fr rfl rfl rfl rfl) (ow_v fr (fa_48_0 (fr.ev rfl)) rfl rfl ?_)
    intro a fr
    refine lst_y (wanted_of fr rfl rfl rfl rfl) (ow_v fr (rn_load (fr.ev rfl) Try.underlying45 rfl (st.rocell 0 rfl (j := 0) rfl)) rfl rfl ?_)
    intro a fr
    refine lst_y (wanted_of fr rfl rfl rfl rfl) (ow_v fr (rn_len (fr.ev rfl) Try.underlying45) rfl rfl ?_)
    intro a fr
    refine lst_y (wanted_of fr rfl rfl rfl rfl) (ow_v fr (rn_as (v' := .bool false) (rn_lss (fr.ev rfl) (fr.ev rfl)) (congrArg Value.bool (decide_eq_false (by omega)))) rfl rfl ?_)
    intro a fr
    refine lst rfl (ow_v fr (rn_pick_t (fr.ev rfl) (fr.ev rfl)) rfl rfl ?_)
    intro a fr
    refine lst rfl (ow_v fr (rn_assign (fr.ev rfl)) rfl rfl ?_)
    intro a fr
    refine wpList_nil ?_
    refine then_n ?_
    refine wp_ret ?_
    refine ret1 Try.results27 fr (rv_tmp fr rfl) ?_
    exact ⟨rfl, st.agr⟩
  · refine enter Try.func27 rfl Try.ntmps27 (by simp) ?_
    intro a fr
    refine wp_seq ?_
    refine reg ?_
    refine lst rfl (ow_v fr (rn_assign (fr.ev rfl)) rfl rfl ?_)
    intro a fr
    refine wpList_nil ?_
    refine then_n ?_
    refine wp_seq ?_
    refine reg ?_
    refine lst rfl (ow_v fr (rn_move (fr.ev rfl)) rfl rfl ?_)
    intro a fr
    refine lst rfl (ow_v fr (rn_neq_pn (fr.ev rfl) (fr.ev rfl) Try.underlying23) rfl rfl ?_)
    intro a fr
    refine lst rfl (ow_v fr (rn_move (fr.ev rfl)) rfl rfl ?_)
    intro a fr
    refine lst_y (wanted_of fr rfl rfl rfl rfl) (ow_v fr (rn_move (fr.ev rfl)) rfl rfl ?_)
    intro a fr
    refine lst_y (wanted_of fr rfl rfl rfl rfl) (ow_v fr (rn_as (v' := .bool false) (rn_geq (fr.ev rfl) (fr.ev rfl)) (congrArg Value.bool (decide_eq_false (by omega)))) rfl rfl ?_)
    intro a fr
    refine lst rfl (ow_v fr (rn_pick_t (fr.ev rfl) (fr.ev rfl)) rfl rfl ?_)
    intro a fr
    refine lst rfl (ow_v fr (rn_move (fr.ev rfl)) rfl rfl ?_)
    intro a fr
    refine lst_n (unwanted_of fr rfl rfl rfl rfl) fr rfl rfl ?_
    intro a fr
    refine lst_n (unwanted_of fr rfl rfl rfl rfl) fr rfl rfl ?_
    intro a fr
    refine lst_n (unwanted_of fr rfl rfl rfl rfl) fr rfl rfl ?_
    intro a fr
    refine lst_n (unwanted_of fr rfl rfl rfl rfl) fr rfl rfl ?_
    intro a fr
    refine lst_n (unwanted_of fr rfl rfl rfl rfl) fr rfl rfl ?_
    intro a fr
    refine lst_n (unwanted_of fr rfl rfl rfl rfl) fr rfl rfl ?_
    intro a fr
    refine lst_n (unwanted_of fr rfl rfl rfl rfl) fr rfl rfl ?_
    intro a fr
    refine lst rfl (ow_v fr (rn_pick_f (fr.ev rfl) (fr.ev rfl)) rfl rfl ?_)
    intro a fr
    refine lst rfl (ow_v fr (rn_assign (fr.ev rfl)) rfl rfl ?_)
    intro a fr
    refine wpList_nil ?_
    refine then_n ?_
    refine wp_ret ?_
    refine ret1 Try.results27 fr (rv_tmp fr rfl) ?_
    exact ⟨rfl, st.agr⟩

theorem zlen (g : Nat)  (w0 : World) (hok : (ro g 0 [.slice none 0 0, .slice none 0 0, .map none]).ok w0 [] w0) : Calls Try.prog 9 #[.pointer (some ⟨g, 0, none⟩)] w0 fun e w' => e = .returned (.int .i64 0) ∧ Agr [] w0 w' := by
  have st : St w0 [] w0 [ro g 0 [.slice none 0 0, .slice none 0 0, .map none]] := of_ro (Agr.refl _ _) (by intro it hi; simp at hi; subst hi; exact ⟨hok, rfl⟩)
  refine enter Try.func9 rfl Try.ntmps9 (by simp) ?_
  intro a fr
  refine wp_seq ?_
  refine reg ?_
  refine lst rfl (ow_v fr (rn_assign (fr.ev rfl)) rfl rfl ?_)
  intro a fr
  refine wpList_nil ?_
  refine then_n ?_
  refine wp_seq ?_
  refine wp_seq ?_
  refine reg ?_
  refine lst rfl (ow_v fr (rn_move (fr.ev rfl)) rfl rfl ?_)
  intro a fr
  refine lst rfl (ow_v fr (rn_eql_pn (fr.ev rfl) (fr.ev rfl) Try.underlying23) rfl rfl ?_)
  intro a fr
  refine wpList_nil ?_
  refine then_n ?_
  refine cond_f fr rfl rfl ?_
  refine wp_skip ?_
  refine then_n ?_
  refine wp_seq ?_
  refine reg ?_
  refine lst rfl (ow_v fr (rn_move (fr.ev rfl)) rfl rfl ?_)
  intro a fr
  refine lst rfl (ow_v fr (rn_nilCheck (fr.ev rfl)) rfl rfl ?_)
  intro a fr
  refine lst rfl (ow_v fr (fa_48_0 (fr.ev rfl)) rfl rfl ?_)
  intro a fr
  refine lst rfl (ow_v fr (rn_load (fr.ev rfl) Try.underlying45 rfl (st.rocell 0 rfl (j := 0) rfl)) rfl rfl ?_)
  intro a fr
  refine lst rfl (ow_v fr (rn_len (fr.ev rfl) Try.underlying45) rfl rfl ?_)
  intro a fr
  refine lst rfl (ow_v fr (rn_assign (fr.ev rfl)) rfl rfl ?_)
  intro a fr
  refine wpList_nil ?_
  refine then_n ?_
  refine wp_ret ?_
  refine ret1 Try.results9 fr (rv_tmp fr rfl) ?_
  exact ⟨rfl, st.agr⟩

theorem zfind (g : Nat) (x : ByteArray) (w0 : World) (hok : (ro g 0 [.slice none 0 0, .slice none 0 0, .map none]).ok w0 [] w0) : Calls Try.prog 20 #[.pointer (some ⟨g, 0, none⟩), (.string x)] w0 fun e w' => e = .returned (.tuple #[.int .i64 0, .bool false]) ∧ Agr [] w0 w' := by
  have st : St w0 [] w0 [ro g 0 [.slice none 0 0, .slice none 0 0, .map none]] := of_ro (Agr.refl _ _) (by intro it hi; simp at hi; subst hi; exact ⟨hok, rfl⟩)
  refine enter Try.func20 rfl Try.ntmps20 (by simp) ?_
  intro a fr
  refine wp_seq ?_
  refine reg ?_
  refine lst rfl (ow_v fr (rn_assign (fr.ev rfl)) rfl rfl ?_)
  intro a fr
  refine lst rfl (ow_v fr (rn_assign (fr.ev rfl)) rfl rfl ?_)
  intro a fr
  refine wpList_nil ?_
  refine then_n ?_
  refine wp_seq ?_
  refine wp_seq ?_
  refine reg ?_
  refine lst rfl (ow_v fr (rn_move (fr.ev rfl)) rfl rfl ?_)
  intro a fr
  refine lst rfl (ow_v fr (rn_eql_pn (fr.ev rfl) (fr.ev rfl) Try.underlying23) rfl rfl ?_)
  intro a fr
  refine wpList_nil ?_
  refine then_n ?_
  refine cond_f fr rfl rfl ?_
  refine wp_skip ?_
  refine then_n ?_
  refine wp_seq ?_
  refine reg ?_
  refine lst rfl (ow_v fr (rn_move (fr.ev rfl)) rfl rfl ?_)
  intro a fr
  refine lst rfl (ow_v fr (rn_nilCheck (fr.ev rfl)) rfl rfl ?_)
  intro a fr
  refine lst rfl (ow_v fr (fa_48_2 (fr.ev rfl)) rfl rfl ?_)
  intro a fr
  refine lst rfl (ow_v fr (rn_load (fr.ev rfl) Try.underlying46 rfl (st.rocell 0 rfl (j := 2) rfl)) rfl rfl ?_)
  intro a fr
  refine lst rfl (ow_v fr (rn_move (fr.ev rfl)) rfl rfl ?_)
  intro a fr
  refine lst rfl (ow_v fr (rn_lookup_nil (fr.ev rfl) (fr.ev rfl) Try.underlying46 Try.underlying9 (fun e w => by kernel_rfl) zv_3) rfl rfl ?_)
  intro a fr
  refine lst rfl (ow_v fr (rn_move (fr.ev rfl)) rfl rfl ?_)
  intro a fr
  refine lst rfl (ow_v fr (rn_extract (fr.ev rfl) rfl) rfl rfl ?_)
  intro a fr
  refine lst rfl (ow_v fr (rn_extract (fr.ev rfl) rfl) rfl rfl ?_)
  intro a fr
  refine lst rfl (ow_v fr (rn_assign (fr.ev rfl)) rfl rfl ?_)
  intro a fr
  refine lst rfl (ow_v fr (rn_assign (fr.ev rfl)) rfl rfl ?_)
  intro a fr
  refine wpList_nil ?_
  refine then_n ?_
  refine wp_seq ?_
  refine reg ?_
  refine lst rfl (ow_v fr (rn_move (fr.ev rfl)) rfl rfl ?_)
  intro a fr
  refine lst rfl (ow_v fr (rn_move (fr.ev rfl)) rfl rfl ?_)
  intro a fr
  refine lst rfl (ow_v fr (rn_assign (fr.ev rfl)) rfl rfl ?_)
  intro a fr
  refine lst rfl (ow_v fr (rn_assign (fr.ev rfl)) rfl rfl ?_)
  intro a fr
  refine wpList_nil ?_
  refine then_n ?_
  refine wp_ret ?_
  refine ret2 Try.results20 fr (rv_tmp fr rfl) (rv_tmp fr rfl) ?_
  exact ⟨rfl, st.agr⟩

theorem zname (g : Nat) (n : Int) (w0 : World) (hok : (ro g 0 [.slice none 0 0, .slice none 0 0, .map none]).ok w0 [] w0) : Calls Try.prog 21 #[.pointer (some ⟨g, 0, none⟩), .int .i64 (n)] w0 fun e w' => e = .returned (.string ⟨#[]⟩) ∧ Agr [] w0 w' := by
  have st : St w0 [] w0 [ro g 0 [.slice none 0 0, .slice none 0 0, .map none]] := of_ro (Agr.refl _ _) (by intro it hi; simp at hi; subst hi; exact ⟨hok, rfl⟩)
  refine enter Try.func21 rfl Try.ntmps21 (by simp) ?_
  intro a fr
  refine wp_seq ?_
  refine reg ?_
  refine lst rfl (ow_v fr (rn_assign (fr.ev rfl)) rfl rfl ?_)
  intro a fr
  refine wpList_nil ?_
  refine then_n ?_
  refine wp_seq ?_
  refine wp_seq ?_
  refine reg ?_
  refine lst rfl (ow_v fr (rn_move (fr.ev rfl)) rfl rfl ?_)
  intro a fr
  refine lst rfl (ow_v fr (rn_move (fr.ev rfl)) rfl rfl ?_)
  intro a fr
  refine lst rfl (ow_call fr rfl rfl Try.call27 (zis g (n) _ (ro_now (st.get 0 rfl) rfl)) rfl rfl ?_)
  rintro e w ⟨rfl, hag⟩
  refine ⟨_, rfl, ?_⟩
  intro a fr
  have st := st.keep hag
  clear hag
  refine lst rfl (ow_v fr (rn_not (fr.ev rfl)) rfl rfl ?_)
  intro a fr
  refine wpList_nil ?_
  refine then_n ?_
  refine cond_t fr rfl rfl ?_
  refine wp_seq ?_
  refine reg ?_
  refine lst rfl (ow_v fr (rn_assign (fr.ev rfl)) rfl rfl ?_)
  intro a fr
  refine wpList_nil ?_
  refine then_n ?_
  refine wp_ret ?_
  refine then_r ?_
  refine ret1 Try.results21 fr (rv_tmp fr rfl) ?_
  exact ⟨rfl, st.agr⟩

theorem zsuper (g : Nat) (n : Int) (w0 : World) (hok : (ro g 0 [.slice none 0 0, .slice none 0 0, .map none]).ok w0 [] w0) : Calls Try.prog 11 #[.pointer (some ⟨g, 0, none⟩), .int .i64 (n)] w0 fun e w' => e = .returned (.int .i64 (-1)) ∧ Agr [] w0 w' := by
  have st : St w0 [] w0 [ro g 0 [.slice none 0 0, .slice none 0 0, .map none]] := of_ro (Agr.refl _ _) (by intro it hi; simp at hi; subst hi; exact ⟨hok, rfl⟩)
  refine enter Try.func11 rfl Try.ntmps11 (by simp) ?_
  intro a fr
  refine wp_seq ?_
  refine reg ?_
  refine lst rfl (ow_v fr (rn_assign (fr.ev rfl)) rfl rfl ?_)
  intro a fr
  refine wpList_nil ?_
  refine then_n ?_
  refine wp_seq ?_
  refine wp_seq ?_
  refine reg ?_
  refine lst rfl (ow_v fr (rn_move (fr.ev rfl)) rfl rfl ?_)
  intro a fr
  refine lst rfl (ow_v fr (rn_move (fr.ev rfl)) rfl rfl ?_)
  intro a fr
  refine lst rfl (ow_call fr rfl rfl Try.call27 (zis g (n) _ (ro_now (st.get 0 rfl) rfl)) rfl rfl ?_)
  rintro e w ⟨rfl, hag⟩
  refine ⟨_, rfl, ?_⟩
  intro a fr
  have st := st.keep hag
  clear hag
  refine lst rfl (ow_v fr (rn_not (fr.ev rfl)) rfl rfl ?_)
  intro a fr
  refine wpList_nil ?_
  refine then_n ?_
  refine cond_t fr rfl rfl ?_
  refine wp_seq ?_
  refine reg ?_
  refine lst rfl (ow_v fr (rn_assign (fr.ev rfl)) rfl rfl ?_)
  intro a fr
  refine wpList_nil ?_
  refine then_n ?_
  refine wp_ret ?_
  refine then_r ?_
  refine ret1 Try.results11 fr (rv_tmp fr rfl) ?_
  exact ⟨rfl, st.agr⟩

theorem zunder (g : Nat) (n m : Int) (w0 : World) (hok : (ro g 0 [.slice none 0 0, .slice none 0 0, .map none]).ok w0 [] w0) : Calls Try.prog 10 #[.pointer (some ⟨g, 0, none⟩), .int .i64 (n), .int .i64 (m)] w0 fun e w' => e = .returned (.bool false) ∧ Agr [] w0 w' := by
  have st : St w0 [] w0 [ro g 0 [.slice none 0 0, .slice none 0 0, .map none]] := of_ro (Agr.refl _ _) (by intro it hi; simp at hi; subst hi; exact ⟨hok, rfl⟩)
  refine enter Try.func10 rfl Try.ntmps10 (by simp) ?_
  intro a fr
  refine wp_seq ?_
  refine reg ?_
  refine lst rfl (ow_v fr (rn_assign (fr.ev rfl)) rfl rfl ?_)
  intro a fr
  refine wpList_nil ?_
  refine then_n ?_
  refine wp_seq ?_
  refine wp_seq ?_
  refine reg ?_
  refine lst rfl (ow_v fr (rn_move (fr.ev rfl)) rfl rfl ?_)
  intro a fr
  refine lst rfl (ow_v fr (rn_move (fr.ev rfl)) rfl rfl ?_)
  intro a fr
  refine lst rfl (ow_call fr rfl rfl Try.call27 (zis g (n) _ (ro_now (st.get 0 rfl) rfl)) rfl rfl ?_)
  rintro e w ⟨rfl, hag⟩
  refine ⟨_, rfl, ?_⟩
  intro a fr
  have st := st.keep hag
  clear hag
  refine lst rfl (ow_v fr (rn_not (fr.ev rfl)) rfl rfl ?_)
  intro a fr
  refine lst rfl (ow_v fr (rn_move (fr.ev rfl)) rfl rfl ?_)
  intro a fr
  refine lst_n (unwanted_of fr rfl rfl rfl rfl) fr rfl rfl ?_
  intro a fr
  refine lst_n (unwanted_of fr rfl rfl rfl rfl) fr rfl rfl ?_
  intro a fr
  refine lst_n (unwanted_of fr rfl rfl rfl rfl) fr rfl rfl ?_
  intro a fr
  refine lst_n (unwanted_of fr rfl rfl rfl rfl) fr rfl rfl ?_
  intro a fr
  refine lst rfl (ow_v fr (rn_pick_t (fr.ev rfl) (fr.ev rfl)) rfl rfl ?_)
  intro a fr
  refine wpList_nil ?_
  refine then_n ?_
  refine cond_t fr rfl rfl ?_
  refine wp_seq ?_
  refine reg ?_
  refine lst rfl (ow_v fr (rn_assign (fr.ev rfl)) rfl rfl ?_)
  intro a fr
  refine wpList_nil ?_
  refine then_n ?_
  refine wp_ret ?_
  refine then_r ?_
  refine ret1 Try.results10 fr (rv_tmp fr rfl) ?_
  exact ⟨rfl, st.agr⟩

theorem zcommon (g : Nat) (n m : Int) (w0 : World) (hok : (ro g 0 [.slice none 0 0, .slice none 0 0, .map none]).ok w0 [] w0) : Calls Try.prog 13 #[.pointer (some ⟨g, 0, none⟩), .int .i64 (n), .int .i64 (m)] w0 fun e w' => e = .returned (.int .i64 (-1)) ∧ Agr [] w0 w' := by
  have st : St w0 [] w0 [ro g 0 [.slice none 0 0, .slice none 0 0, .map none]] := of_ro (Agr.refl _ _) (by intro it hi; simp at hi; subst hi; exact ⟨hok, rfl⟩)
  refine enter Try.func13 rfl Try.ntmps13 (by simp) ?_
  intro a fr
  refine wp_seq ?_
  refine reg ?_
  refine lst rfl (ow_v fr (rn_assign (fr.ev rfl)) rfl rfl ?_)
  intro a fr
  refine wpList_nil ?_
  refine then_n ?_
  refine wp_seq ?_
  refine wp_seq ?_
  refine reg ?_
  refine lst rfl (ow_v fr (rn_move (fr.ev rfl)) rfl rfl ?_)
  intro a fr
  refine lst rfl (ow_v fr (rn_move (fr.ev rfl)) rfl rfl ?_)
  intro a fr
  refine lst rfl (ow_call fr rfl rfl Try.call27 (zis g (n) _ (ro_now (st.get 0 rfl) rfl)) rfl rfl ?_)
  rintro e w ⟨rfl, hag⟩
  refine ⟨_, rfl, ?_⟩
  intro a fr
  have st := st.keep hag
  clear hag
  refine lst rfl (ow_v fr (rn_not (fr.ev rfl)) rfl rfl ?_)
  intro a fr
  refine lst rfl (ow_v fr (rn_move (fr.ev rfl)) rfl rfl ?_)
  intro a fr
  refine lst_n (unwanted_of fr rfl rfl rfl rfl) fr rfl rfl ?_
  intro a fr
  refine lst_n (unwanted_of fr rfl rfl rfl rfl) fr rfl rfl ?_
  intro a fr
  refine lst_n (unwanted_of fr rfl rfl rfl rfl) fr rfl rfl ?_
  intro a fr
  refine lst_n (unwanted_of fr rfl rfl rfl rfl) fr rfl rfl ?_
  intro a fr
  refine lst rfl (ow_v fr (rn_pick_t (fr.ev rfl) (fr.ev rfl)) rfl rfl ?_)
  intro a fr
  refine wpList_nil ?_
  refine then_n ?_
  refine cond_t fr rfl rfl ?_
  refine wp_seq ?_
  refine reg ?_
  refine lst rfl (ow_v fr (rn_assign (fr.ev rfl)) rfl rfl ?_)
  intro a fr
  refine wpList_nil ?_
  refine then_n ?_
  refine wp_ret ?_
  refine then_r ?_
  refine ret1 Try.results13 fr (rv_tmp fr rfl) ?_
  exact ⟨rfl, st.agr⟩

theorem zdepth (g : Nat) (n : Int) (w0 : World) (hok : (ro g 0 [.slice none 0 0, .slice none 0 0, .map none]).ok w0 [] w0) : Calls Try.prog 12 #[.pointer (some ⟨g, 0, none⟩), .int .i64 (n)] w0 fun e w' => e = .returned (.int .i64 (-1)) ∧ Agr [] w0 w' := by
  have st : St w0 [] w0 [ro g 0 [.slice none 0 0, .slice none 0 0, .map none]] := of_ro (Agr.refl _ _) (by intro it hi; simp at hi; subst hi; exact ⟨hok, rfl⟩)
  refine enter Try.func12 rfl Try.ntmps12 (by simp) ?_
  intro a fr
  refine wp_seq ?_
  refine reg ?_
  refine lst rfl (ow_v fr (rn_assign (fr.ev rfl)) rfl rfl ?_)
  intro a fr
  refine wpList_nil ?_
  refine then_n ?_
  refine wp_seq ?_
  refine reg ?_
  refine lst rfl (ow_v fr (rn_assign (fr.ev rfl)) rfl rfl ?_)
  intro a fr
  refine wpList_nil ?_
  refine then_n ?_
  refine wp_seq ?_
  refine wp_block ?_
  refine wp_loop_ghost (fun mz a w => ∃ (k : Nat), mz = k ∧ FrL 19 a [(0, .pointer (some ⟨g, 0, none⟩)), (1, .int .i64 (n)), (4, .int .i64 0), (5, .int .i64 (-1))] ∧ St w0 [] w [ro g 0 [.slice none 0 0, .slice none 0 0, .map none]]) _ ⟨0, rfl, fr.prune ⟨rfl, rfl, rfl, rfl, trivial⟩, st⟩ ?_
  clear fr st
  intro mz a w hI
  obtain ⟨k, hmz, fr, st⟩ := hI
  refine wp_seq ?_
  refine wp_seq ?_
  refine reg ?_
  refine lst rfl (ow_v fr (rn_move (fr.ev rfl)) rfl rfl ?_)
  intro a fr
  refine lst rfl (ow_v fr (rn_move (fr.ev rfl)) rfl rfl ?_)
  intro a fr
  refine lst rfl (ow_call fr rfl rfl Try.call27 (zis g (n) _ (ro_now (st.get 0 rfl) rfl)) rfl rfl ?_)
  rintro e w ⟨rfl, hag⟩
  refine ⟨_, rfl, ?_⟩
  intro a fr
  have st := st.keep hag
  clear hag
  refine wpList_nil ?_
  refine then_n ?_
  refine cond_f fr rfl rfl ?_
  refine wp_exit ?_
  refine then_x ?_
  refine then_x ?_
  refine blk_x ?_
  refine then_n ?_
  refine wp_seq ?_
  refine reg ?_
  refine lst rfl (ow_v fr (rn_move (fr.ev rfl)) rfl rfl ?_)
  intro a fr
  refine lst rfl (ow_v fr (rn_assign (fr.ev rfl)) rfl rfl ?_)
  intro a fr
  refine wpList_nil ?_
  refine then_n ?_
  refine wp_ret ?_
  refine ret1 Try.results12 fr (rv_tmp fr rfl) ?_
  exact ⟨rfl, st.agr⟩

theorem zsubs (g : Nat) (n : Int) (w0 : World) (hok : (ro g 0 [.slice none 0 0, .slice none 0 0, .map none]).ok w0 [] w0) : Calls Try.prog 22 #[.pointer (some ⟨g, 0, none⟩), .int .i64 (n)] w0 fun e w' => e = .returned (.slice none 0 0) ∧ Agr [] w0 w' := by
  have st : St w0 [] w0 [ro g 0 [.slice none 0 0, .slice none 0 0, .map none]] := of_ro (Agr.refl _ _) (by intro it hi; simp at hi; subst hi; exact ⟨hok, rfl⟩)
  refine enter Try.func22 rfl Try.ntmps22 (by simp) ?_
  intro a fr
  refine wp_seq ?_
  refine reg ?_
  refine lst rfl (ow_v fr (rn_assign (fr.ev rfl)) rfl rfl ?_)
  intro a fr
  refine wpList_nil ?_
  refine then_n ?_
  refine wp_seq ?_
  refine wp_seq ?_
  refine reg ?_
  refine lst rfl (ow_v fr (rn_move (fr.ev rfl)) rfl rfl ?_)
  intro a fr
  refine lst rfl (ow_v fr (rn_move (fr.ev rfl)) rfl rfl ?_)
  intro a fr
  refine lst rfl (ow_call fr rfl rfl Try.call27 (zis g (n) _ (ro_now (st.get 0 rfl) rfl)) rfl rfl ?_)
  rintro e w ⟨rfl, hag⟩
  refine ⟨_, rfl, ?_⟩
  intro a fr
  have st := st.keep hag
  clear hag
  refine lst rfl (ow_v fr (rn_not (fr.ev rfl)) rfl rfl ?_)
  intro a fr
  refine wpList_nil ?_
  refine then_n ?_
  refine cond_t fr rfl rfl ?_
  refine wp_seq ?_
  refine reg ?_
  refine lst rfl (ow_v fr (rn_assign (fr.ev rfl)) rfl rfl ?_)
  intro a fr
  refine wpList_nil ?_
  refine then_n ?_
  refine wp_ret ?_
  refine then_r ?_
  refine ret1 Try.results22 fr (rv_tmp fr rfl) ?_
  exact ⟨rfl, st.agr⟩

end Go.Proofs.Ytnggnacaghcclaa.H9
