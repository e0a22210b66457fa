import Derived.Test.YtnggnacaghcclaaH13
import Derived.Test.YtnggnacaghcclaaH9
import Derived.Test.YtnggnacaghcclaaLibP
set_option linter.unusedVariables false
set_option linter.unusedSimpArgs false
namespace Go.Proofs.Ytnggnacaghcclaa.H14
open Go.RowKit Go.Proofs.Ytnggnacaghcclaa.LibA Go.Proofs.Ytnggnacaghcclaa.LibC Go.Proofs.Ytnggnacaghcclaa.LibS Go.Proofs.Ytnggnacaghcclaa.LibR Go.Proofs.Ytnggnacaghcclaa.LibT Go.Proofs.Ytnggnacaghcclaa.LibU Go.Proofs.Ytnggnacaghcclaa.LibV Go.Proofs.Ytnggnacaghcclaa.LibW Go.Proofs.Ytnggnacaghcclaa.LibX Go.Proofs.Ytnggnacaghcclaa.LibY Go.Proofs.Ytnggnacaghcclaa.LibZ Go.Proofs.Ytnggnacaghcclaa.LibQ Go.Proofs.Ytnggnacaghcclaa.LibP Go.Proofs.Ytnggnacaghcclaa.H1 Go.Proofs.Ytnggnacaghcclaa.H2 Go.Proofs.Ytnggnacaghcclaa.H3 Go.Proofs.Ytnggnacaghcclaa.H4 Go.Proofs.Ytnggnacaghcclaa.H5 Go.Proofs.Ytnggnacaghcclaa.H6 Go.Proofs.Ytnggnacaghcclaa.H7 Go.Proofs.Ytnggnacaghcclaa.H8 Go.Proofs.Ytnggnacaghcclaa.H9 Go.Proofs.Ytnggnacaghcclaa.H10 Go.Proofs.Ytnggnacaghcclaa.H12 Go.Proofs.Ytnggnacaghcclaa.H13
theorem equal_same (xs : List Int) (A B : Option Addr) (c d : Nat) (hx : xs.length ≤ 9223372036854775807) (w0 : World) (ha : Els CI 1 w0 A xs) (hb : Els CI 1 w0 B xs) :
    Calls Try.prog 25 #[.slice A xs.length c, .slice B xs.length d] w0 fun e w' => e = .returned (.bool true) ∧ Agr [] w0 w' :=
  (equal_ints xs xs A B c d hx hx w0 ha hb).mono fun e w' ⟨h1, h2⟩ => ⟨by rw [h1]; simp, h2⟩

theorem inf_56 : (Try.prog.info? 56).map (fun i => (i.zero, i.size, i.bytes)) = some (some (.agg #[.string ByteArray.empty, .string ByteArray.empty]), 2, 32) := by kernel_rfl
theorem clone_lines (xs : List LineD) (A : Option Addr) (c : Nat) (hl : xs.length * 32 ≤ 140737488355328) (w0 : World) (hx : Els lineC 2 w0 A xs) : Calls Try.prog 23 #[.slice A xs.length c] w0 fun e w' => ∃ A' c', e = .returned (.slice A' xs.length c') ∧ Row lineC 2 56 w0.heap.size (.slice A' xs.length c') xs w' ∧ Agr [] w0 w' := by
  cases A with
  | none =>
    have hx0 := els_nil hx
    have st : St w0 [] w0 [els lineC 2 none xs] := (add_ro (start0 w0 []) (by simp [els, It.wr]) rfl (els_ok (C := lineC) (sz := 2) (by decide) (fun x => rfl) hx))
    refine enter Try.func23 rfl Try.ntmps23 (by simp) ?_
    intro a fr
    refine wp_seq ?_
    refine reg ?_
    refine lst rfl (ow_v fr (rn_assign (fr.ev rfl)) rfl rfl ?_)
    intro a fr
    refine wpList_nil ?_
    refine then_n ?_
    refine wp_seq ?_
    refine wp_seq ?_
    refine reg ?_
    refine lst rfl (ow_v fr (rn_move (fr.ev rfl)) rfl rfl ?_)
    intro a fr
    refine lst rfl (ow_v fr (rn_as (v' := .bool true) (rn_eqsn (fr.ev rfl) (fr.ev rfl) Try.underlying22) rfl) rfl rfl ?_)
    intro a fr
    refine wpList_nil ?_
    refine then_n ?_
    refine cond_t fr rfl rfl ?_
    refine wp_seq ?_
    refine reg ?_
    refine lst rfl (ow_v fr (rn_assign (fr.ev rfl)) rfl rfl ?_)
    intro a fr
    refine wpList_nil ?_
    refine then_n ?_
    refine wp_ret ?_
    refine then_r ?_
    refine ret1 Try.results23 fr (rv_tmp fr rfl) ?_
    subst hx0
    exact ⟨none, 0, rfl, row_nil lineC 2 56 _ _, st.agr⟩
  | some Aa =>
    have st : St w0 [] w0 [els lineC 2 (some Aa) xs] := (add_ro (start0 w0 []) (by simp [els, It.wr]) rfl (els_ok (C := lineC) (sz := 2) (by decide) (fun x => rfl) hx))
    refine enter Try.func23 rfl Try.ntmps23 (by simp) ?_
    intro a fr
    refine wp_seq ?_
    refine reg ?_
    refine lst rfl (ow_v fr (rn_assign (fr.ev rfl)) rfl rfl ?_)
    intro a fr
    refine wpList_nil ?_
    refine then_n ?_
    refine wp_seq ?_
    refine wp_seq ?_
    refine reg ?_
    refine lst rfl (ow_v fr (rn_move (fr.ev rfl)) rfl rfl ?_)
    intro a fr
    refine lst rfl (ow_v fr (rn_as (v' := .bool false) (rn_eqsn (fr.ev rfl) (fr.ev rfl) Try.underlying22) rfl) rfl rfl ?_)
    intro a fr
    refine wpList_nil ?_
    refine then_n ?_
    refine cond_f fr rfl rfl ?_
    refine wp_skip ?_
    refine then_n ?_
    refine wp_seq ?_
    refine reg ?_
    refine lst rfl (ow_bslice (E := 56) fr st rfl [] (fun w => by simp only [List.map_toArray, List.map_cons, List.map_nil]; kernel_rfl) rfl rfl ?_)
    intro a w b1 fr st
    refine lst rfl (ow_v fr (rn_move (fr.ev rfl)) rfl rfl ?_)
    intro a fr
    have st := st.weaken 0 rfl (it := row lineC 2 56 w0.heap.size (.slice (some ⟨b1, 0, none⟩) 0 0) (([] : List LineD))) (fun _ => rfl) (fun b hb => by simpa [row, It.fp, Value.ownBlock] using hb) (row_ok (row_of_blk (C := lineC) (fun _ => rfl) (st.get 0 rfl) (by rfl) (by rfl) (by unfold maxLen; decide) ((st.get 0 rfl).1.resolve_right (by simp))) (Nat.le_refl _))
    replace st : St _ [] w [row lineC 2 56 w0.heap.size (.slice (some ⟨b1, 0, none⟩) 0 0) (([] : List LineD)), els lineC 2 (some Aa) xs] := st
    refine lst rfl (ow_appendE fr st 0 (ys := xs) ((st.get 1 rfl).1) rfl rfl rfl rfl Try.underlying22 inf_56 (by rfl) (by decide) (fun _ => rfl) (fun _ => rfl) (by (simp; omega)) (by unfold maxLen; (simp; omega)) (Nat.le_refl _) st.agr.size rfl rfl ?_)
    intro a w Ax2 cx3 fr (st : St _ [] w [row lineC 2 56 w0.heap.size (.slice Ax2 ((([] : List LineD) ++ xs).length) cx3) ((([] : List LineD) ++ xs)), els lineC 2 (some Aa) xs])
    refine lst rfl (ow_v fr (rn_assign (fr.ev rfl)) rfl rfl ?_)
    intro a fr
    refine wpList_nil ?_
    refine then_n ?_
    refine wp_ret ?_
    refine ret1 Try.results23 fr (rv_tmp fr rfl) ?_
    simp only [List.nil_append] at st
    exact ⟨Ax2, cx3, by rw [List.nil_append], (st.get 0 rfl).1, st.agr⟩

theorem order_seq0 (b n0 : Nat) (wq : World) (st : St wq [] wq [ro b 0 [.pointer none]]) (k : Nat) : SeqStopsK Fence.wide k Try.prog 31 #[.pointer (some ⟨b, 0, none⟩)] (fun x : Int => #[.int .i64 x]) (Below n0) (fun xs => xs = ([] : List Int)) (fun pre => pre <+: ([] : List Int)) ([] : List Int).length wq := by
  intro l J Jx w0 hW hJA hJx hY h0
  have st : St w0 [] w0 [ro b 0 [.pointer none]] := (st.keep (Agr.of_below hW)).reroot
  refine seq_calls (vs := [.func (.yield l) #[] #[], .pointer (some ⟨b, 0, none⟩)]) ?_ _
  refine enter Try.func31 rfl Try.ntmps31 (by simp) ?_
  intro a fr
  refine wp_seq ?_
  refine reg ?_
  refine lst rfl (ow_v fr (rn_load (fr.ev rfl) Try.underlying23 rfl (st.rocell 0 rfl (j := 0) rfl)) rfl rfl ?_)
  intro a fr
  refine lst rfl (ow_call fr rfl rfl Try.call9 (nlen _) rfl rfl ?_)
  rintro e w ⟨rfl, hag⟩
  refine ⟨_, rfl, ?_⟩
  intro a fr
  have st := st.keep hag
  clear hag
  refine lst rfl (ow_v fr (rn_assign (fr.ev rfl)) rfl rfl ?_)
  intro a fr
  refine wpList_nil ?_
  refine then_n ?_
  refine wp_seq ?_
  refine reg ?_
  refine lst rfl (ow_v fr (rn_assign (fr.ev rfl)) rfl rfl ?_)
  intro a fr
  refine wpList_nil ?_
  refine then_n ?_
  refine wp_block ?_
  refine wp_loop_ghost (fun mz a w => ∃ (k : Nat), mz = k ∧ FrL 29 a [(0, (.func (.yield l) #[] #[])), (1, .pointer (some ⟨b, 0, none⟩)), (3, .int .i64 0), (4, .int .i64 0), (6, .pointer none), (7, .int .i64 0)] ∧ St w0 [] w [ro b 0 [.pointer none]]) _ ⟨0, rfl, fr.prune ⟨rfl, rfl, rfl, rfl, rfl, rfl, trivial⟩, st⟩ ?_
  clear fr st
  intro mz a w hI
  obtain ⟨k, hmz, fr, st⟩ := hI
  refine wp_seq ?_
  refine wp_seq ?_
  refine reg ?_
  refine lst rfl (ow_v fr (rn_move (fr.ev rfl)) rfl rfl ?_)
  intro a fr
  refine lst rfl (ow_v fr (rn_as (rn_gtr (fr.ev rfl) (fr.ev rfl)) (by rfl)) rfl rfl ?_)
  intro a fr
  refine wpList_nil ?_
  refine then_n ?_
  refine cond_f fr rfl rfl ?_
  refine wp_exit ?_
  refine then_x ?_
  refine then_x ?_
  refine blk_x ?_
  refine ret_end ?_
  refine ret0 Try.results31 fr  ?_
  exact ⟨⟨_, rfl⟩, .inl ⟨_, rfl, abide hJA h0 st⟩⟩

theorem tells_none0 {b : Nat} {w : World} (st : St w [] w [ro b 0 [.pointer none]]) : Calls Try.prog 17 #[(.func (.func 31) #[] #[.pointer (some ⟨b, 0, none⟩)]), .slice none 0 0, .int .i64 0] w fun e w' => e = .returned (.bool true) ∧ Agr [] w w' :=
  tells_calls ([] : List Int) none 0 b 0 (by simp) w (fun w1 hb k => order_seq0 b _ w1 (st_over st hb (all_ro rfl) (ro_lt st (Nat.le_refl _))) k) (fun i hi => absurd hi (by simp))

theorem order_seq1 (g b n0 : Nat) (wq : World) (st : St wq [] wq [ro b 0 [.pointer (some ⟨g, 0, none⟩)], ro g 0 [.slice none 0 0, .slice none 0 0, .map none]]) (k : Nat) : SeqStopsK Fence.wide k Try.prog 31 #[.pointer (some ⟨b, 0, none⟩)] (fun x : Int => #[.int .i64 x]) (Below n0) (fun xs => xs = ([] : List Int)) (fun pre => pre <+: ([] : List Int)) ([] : List Int).length wq := by
  intro l J Jx w0 hW hJA hJx hY h0
  have st : St w0 [] w0 [ro b 0 [.pointer (some ⟨g, 0, none⟩)], ro g 0 [.slice none 0 0, .slice none 0 0, .map none]] := (st.keep (Agr.of_below hW)).reroot
  refine seq_calls (vs := [.func (.yield l) #[] #[], .pointer (some ⟨b, 0, none⟩)]) ?_ _
  refine enter Try.func31 rfl Try.ntmps31 (by simp) ?_
  intro a fr
  refine wp_seq ?_
  refine reg ?_
  refine lst rfl (ow_v fr (rn_load (fr.ev rfl) Try.underlying23 rfl (st.rocell 0 rfl (j := 0) rfl)) rfl rfl ?_)
  intro a fr
  refine lst rfl (ow_call fr rfl rfl Try.call9 (zlen g _ (ro_now (st.get 1 rfl) rfl)) rfl rfl ?_)
  rintro e w ⟨rfl, hag⟩
  refine ⟨_, rfl, ?_⟩
  intro a fr
  have st := st.keep hag
  clear hag
  refine lst rfl (ow_v fr (rn_assign (fr.ev rfl)) rfl rfl ?_)
  intro a fr
  refine wpList_nil ?_
  refine then_n ?_
  refine wp_seq ?_
  refine reg ?_
  refine lst rfl (ow_v fr (rn_assign (fr.ev rfl)) rfl rfl ?_)
  intro a fr
  refine wpList_nil ?_
  refine then_n ?_
  refine wp_block ?_
  refine wp_loop_ghost (fun mz a w => ∃ (k : Nat), mz = k ∧ FrL 29 a [(0, (.func (.yield l) #[] #[])), (1, .pointer (some ⟨b, 0, none⟩)), (3, .int .i64 0), (4, .int .i64 0), (6, .pointer (some ⟨g, 0, none⟩)), (7, .int .i64 0)] ∧ St w0 [] w [ro b 0 [.pointer (some ⟨g, 0, none⟩)], ro g 0 [.slice none 0 0, .slice none 0 0, .map none]]) _ ⟨0, rfl, fr.prune ⟨rfl, rfl, rfl, rfl, rfl, rfl, trivial⟩, st⟩ ?_
  clear fr st
  intro mz a w hI
  obtain ⟨k, hmz, fr, st⟩ := hI
  refine wp_seq ?_
  refine wp_seq ?_
  refine reg ?_
  refine lst rfl (ow_v fr (rn_move (fr.ev rfl)) rfl rfl ?_)
  intro a fr
  refine lst rfl (ow_v fr (rn_as (rn_gtr (fr.ev rfl) (fr.ev rfl)) (by rfl)) rfl rfl ?_)
  intro a fr
  refine wpList_nil ?_
  refine then_n ?_
  refine cond_f fr rfl rfl ?_
  refine wp_exit ?_
  refine then_x ?_
  refine then_x ?_
  refine blk_x ?_
  refine ret_end ?_
  refine ret0 Try.results31 fr  ?_
  exact ⟨⟨_, rfl⟩, .inl ⟨_, rfl, abide hJA h0 st⟩⟩

theorem tells_none1 {g b : Nat} {w : World} (st : St w [] w [ro b 0 [.pointer (some ⟨g, 0, none⟩)], ro g 0 [.slice none 0 0, .slice none 0 0, .map none]]) : Calls Try.prog 17 #[(.func (.func 31) #[] #[.pointer (some ⟨b, 0, none⟩)]), .slice none 0 0, .int .i64 0] w fun e w' => e = .returned (.bool true) ∧ Agr [] w w' :=
  tells_calls ([] : List Int) none 0 b 0 (by simp) w (fun w1 hb k => order_seq1 g b _ w1 (st_over st hb (all_ro rfl) (ro_lt st (Nat.le_refl _))) k) (fun i hi => absurd hi (by simp))

end Go.Proofs.Ytnggnacaghcclaa.H14
