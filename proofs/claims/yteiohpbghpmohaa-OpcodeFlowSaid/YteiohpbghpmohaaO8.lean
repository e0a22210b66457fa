import Derived.Test.YteiohpbghpmohaaO7
set_option linter.unusedVariables false
set_option linter.unusedSimpArgs false
namespace Go.Proofs.Yteiohpbghpmohaa.O8
open Go.RowKit Go.Proofs.Yteiohpbghpmohaa.LibA Go.Proofs.Yteiohpbghpmohaa.LibC Go.Proofs.Yteiohpbghpmohaa.LibS Go.Proofs.Yteiohpbghpmohaa.LibR Go.Proofs.Yteiohpbghpmohaa.LibT Go.Proofs.Yteiohpbghpmohaa.LibU Go.Proofs.Yteiohpbghpmohaa.LibV Go.Proofs.Yteiohpbghpmohaa.LibW Go.Proofs.Yteiohpbghpmohaa.LibX Go.Proofs.Yteiohpbghpmohaa.LibY Go.Proofs.Yteiohpbghpmohaa.LibZ Go.Proofs.Yteiohpbghpmohaa.LibQ Go.Proofs.Yteiohpbghpmohaa.LibP Go.Proofs.Yteiohpbghpmohaa.LibN Go.Proofs.Yteiohpbghpmohaa.LibH Go.Proofs.Yteiohpbghpmohaa.LibI Go.Proofs.Yteiohpbghpmohaa.LibJ Go.Proofs.Yteiohpbghpmohaa.O1 Go.Proofs.Yteiohpbghpmohaa.O2 Go.Proofs.Yteiohpbghpmohaa.O3 Go.Proofs.Yteiohpbghpmohaa.O4 Go.Proofs.Yteiohpbghpmohaa.O5 Go.Proofs.Yteiohpbghpmohaa.O6 Go.Proofs.Yteiohpbghpmohaa.O7
/-- what may come behind the i-th -/
def nx (l : List InsD) (i k : Nat) : Bool := match l[i]?, l[k]? with
  | some y, some x => (k == i + 1 && !endsF y.2.1) || (jmp y.2.1 && x.1 == y.2.2.1)
  | _, _ => false
theorem nx_at {l : List InsD} {i k : Nat} {y x : InsD} (hi : i < l.length) (hk : k < l.length) (hy : l[i] = y) (hx : l[k] = x) : nx l i k = ((k == i + 1 && !endsF y.2.1) || (jmp y.2.1 && x.1 == y.2.2.1)) := by
  unfold nx; simp [hi, hk, hy, hx]
def nxL (l : List InsD) (i k : Nat) : List Int := ((List.range k).filter (nx l i)).map fun n => ((n : Nat) : Int)
theorem nxL_y {l : List InsD} {i k : Nat} (h : nx l i k = true) : nxL l i k ++ [((k : Nat) : Int)] = nxL l i (k + 1) := by
  unfold nxL; rw [List.range_succ, List.filter_append]; simp [h]
theorem nxL_n {l : List InsD} {i k : Nat} (h : nx l i k = false) : nxL l i k = nxL l i (k + 1) := by
  unfold nxL; rw [List.range_succ, List.filter_append]; simp [h]
theorem nxL_len (l : List InsD) (i k : Nat) : (nxL l i k).length ≤ k := by
  unfold nxL; rw [List.length_map]; simpa using List.length_filter_le (nx l i) (List.range k)
def nextF (l : List InsD) (i : Int) : List Int := if 0 ≤ i ∧ i < l.length then nxL l i.toNat l.length else []
theorem ends_is (op : Int) (b : Bool) (h : endsF op = b) (w0 : World) : Calls Try.prog 27 #[.int .i64 op] w0 fun e w' => e = .returned (.bool b) ∧ Agr [] w0 w' := h ▸ ends_calls op w0
theorem rends_is (op : Int) (b : Bool) (h : endsF op = b) (w0 : World) : Calls Try.prog 28 #[.int .i64 op] w0 fun e w' => e = .returned (.bool b) ∧ Agr [] w0 w' := h ▸ rends_calls op w0

theorem fa_29_0 {ρ : Operand → Value} {w : World} {dst : Option Tmp} {ty : TypeId} {pos : String} {aft : Array Edge} {gd : Option (Nat × Bool)} {x : Operand} {b o : Nat} (hx : ρ x = .pointer (some ⟨b, o, none⟩)) : (execOp ρ ⟨dst, .fieldAddr 29 x 0, ty, pos, aft, gd⟩).run Try.prog w = .ok (.value (.pointer (some ⟨b, o + 0, none⟩))) w := rn_field hx Try.underlying29 rfl (by kernel_rfl) rfl
theorem inf_3 : (Try.prog.info? 3).map (fun i => (i.zero, i.size, i.bytes)) = some (some (.int .i64 0), 1, 8) := by kernel_rfl
set_option maxHeartbeats 1000000 in
theorem next_in (l : List InsD) (LA : Option Addr) (lc : Nat) (hl : l.length * 32 ≤ 140737488355328) (i : Nat) (hi : i < l.length) (w0 : World) (hx : Els insC 4 w0 LA l) : Calls Try.prog 29 #[.slice LA l.length lc, .int .i64 (i : Nat)] w0 fun e w' => ∃ A c, e = .returned (.slice A (nxL l i l.length).length c) ∧ Row CI 1 3 w0.heap.size (.slice A (nxL l i l.length).length c) (nxL l i l.length) w' ∧ Agr [] w0 w' := by
  have st : St w0 [] w0 [els insC 4 LA l] := (add_ro (start0 w0 []) (by simp [els, ro, It.wr]) rfl (els_ok (C := insC) (sz := 4) (by decide) (fun x => rfl) hx))
  clear hx
  refine enter Try.func29 rfl Try.ntmps29 (by simp) ?_
  intro a fr
  refine wp_seq ?_
  refine reg ?_
  refine lst rfl (ow_v fr (rn_assign (fr.ev rfl)) rfl rfl ?_)
  intro a fr
  refine wpList_nil ?_
  refine then_n ?_
  refine wp_seq ?_
  refine wp_seq ?_
  refine reg ?_
  refine lst rfl (ow_v fr (rn_move (fr.ev rfl)) rfl rfl ?_)
  intro a fr
  refine lst rfl (ow_v fr (rn_as (v' := .bool false) (rn_lss (fr.ev rfl) (fr.ev rfl)) (congrArg Value.bool (decide_eq_false (by omega)))) rfl rfl ?_)
  intro a fr
  refine lst rfl (ow_v fr (rn_move (fr.ev rfl)) rfl rfl ?_)
  intro a fr
  refine lst_y (wanted_of fr rfl rfl rfl rfl) (ow_v fr (rn_move (fr.ev rfl)) rfl rfl ?_)
  intro a fr
  refine lst_y (wanted_of fr rfl rfl rfl rfl) (ow_v fr (rn_move (fr.ev rfl)) rfl rfl ?_)
  intro a fr
  refine lst_y (wanted_of fr rfl rfl rfl rfl) (ow_v fr (rn_len (fr.ev rfl) Try.underlying24) rfl rfl ?_)
  intro a fr
  refine lst_y (wanted_of fr rfl rfl rfl rfl) (ow_v fr (rn_as (v' := .bool false) (rn_geq (fr.ev rfl) (fr.ev rfl)) (congrArg Value.bool (decide_eq_false (by omega)))) rfl rfl ?_)
  intro a fr
  refine lst rfl (ow_v fr (rn_pick_f (fr.ev rfl) (fr.ev rfl)) rfl rfl ?_)
  intro a fr
  refine wpList_nil ?_
  refine then_n ?_
  refine cond_f fr rfl rfl ?_
  refine wp_skip ?_
  refine then_n ?_
  refine wp_seq ?_
  refine reg ?_
  refine lst rfl (ow_v fr (rn_assign (fr.ev rfl)) rfl rfl ?_)
  intro a fr
  refine wpList_nil ?_
  refine then_n ?_
  refine wp_seq ?_
  refine wp_seq ?_
  obtain ⟨b1, o2, eA, st_⟩ := st.elem 0 rfl i hi (by simp [insC])
  have fr_ := fr
  cases eA
  have st := st_
  have fr := fr_
  clear st_ fr_
  obtain ⟨y0, y1, y2, y3, hx_l_y0⟩ : ∃ y0 y1 y2 y3, l[i] = (y0, y1, y2, y3) := ⟨_, _, _, _, rfl⟩
  rw [hx_l_y0] at st
  replace st : St _ [] _ [ro b1 (o2 + i * 4) [.int .i64 (y0), .int .i64 (y1), .int .i64 (y2), .int .i64 (y3)], els insC 4 (some ⟨b1, o2, none⟩) l] := st
  refine reg ?_
  refine lst rfl (ow_v fr (rn_move (fr.ev rfl)) rfl rfl ?_)
  intro a fr
  refine lst rfl (ow_v fr (rn_len (fr.ev rfl) Try.underlying24) rfl rfl ?_)
  intro a fr
  refine lst rfl (ow_v fr (rn_move (fr.ev rfl)) rfl rfl ?_)
  intro a fr
  refine wpList_nil ?_
  refine then_n ?_
  refine wp_block ?_
  have st := st.nil (E := Int) CI 1 3 w0.heap.size (Nat.le_refl _)
  refine wp_loop_ghost (fun mz a w => ∃ (k : Nat) (A : Option Addr) (c : Nat), (k ≤ l.length) ∧ mz = l.length - k ∧ FrL 60 a [(0, .slice (some ⟨b1, o2, none⟩) l.length lc), (1, .int .i64 ((i : Nat))), (5, .slice A ((nxL l i k).length) c), (16, .slice (some ⟨b1, o2, none⟩) l.length lc), (17, .int .i64 ((l.length : Nat))), (18, .int .i64 ((k : Nat)))] ∧ St w0 [] w [row CI 1 3 w0.heap.size (.slice A ((nxL l i k).length) c) ((nxL l i k)), ro b1 (o2 + i * 4) [.int .i64 (y0), .int .i64 (y1), .int .i64 (y2), .int .i64 (y3)], els insC 4 (some ⟨b1, o2, none⟩) l]) _ ⟨0, none, 0, (Nat.zero_le _), rfl, fr.prune ⟨rfl, rfl, rfl, rfl, rfl, rfl, trivial⟩, st⟩ ?_
  clear fr st
  intro mz a w hI
  obtain ⟨k, A, c, hk, hmz, fr, st⟩ := hI
  by_cases hlt : k < l.length
  · refine wp_seq ?_
    refine reg ?_
    refine lst rfl (ow_v fr (rn_as (v' := .bool true) (rn_lss (fr.ev rfl) (fr.ev rfl)) (congrArg Value.bool (decide_eq_true (by omega)))) rfl rfl ?_)
    intro a fr
    refine wpList_nil ?_
    refine then_n ?_
    refine wp_seq ?_
    refine cond_t fr rfl rfl ?_
    refine wp_skip ?_
    refine then_n ?_
    refine wp_seq ?_
    refine wp_block ?_
    refine wp_seq ?_
    refine reg ?_
    refine lst rfl (ow_v fr (rn_move (fr.ev rfl)) rfl rfl ?_)
    intro a fr
    obtain ⟨b_, o_, eA, st_⟩ := st.elem 2 rfl k hlt (by simp [insC])
    have fr_ := fr
    cases eA
    have st := st_
    have fr := fr_
    clear st_ fr_
    obtain ⟨x0, x1, x2, x3, hx_l_x0⟩ : ∃ x0 x1 x2 x3, l[k] = (x0, x1, x2, x3) := ⟨_, _, _, _, rfl⟩
    rw [hx_l_x0] at st
    replace st : St _ [] _ [ro b1 (o2 + k * 4) [.int .i64 (x0), .int .i64 (x1), .int .i64 (x2), .int .i64 (x3)], row CI 1 3 w0.heap.size (.slice A ((nxL l i k).length) c) ((nxL l i k)), ro b1 (o2 + i * 4) [.int .i64 (y0), .int .i64 (y1), .int .i64 (y2), .int .i64 (y3)], els insC 4 (some ⟨b1, o2, none⟩) l] := st
    refine lst rfl (ow_v fr (rn_at (i := k) (fr.ev rfl) (fr.ev rfl) Try.underlying24 sz_29 (by omega) (by rfl)) rfl rfl ?_)
    intro a fr
    refine lst rfl (ow_v fr (rn_loadN (cs := [.int .i64 (x0), .int .i64 (x1), .int .i64 (x2), .int .i64 (x3)]) (fr.ev rfl) Try.underlying29 rfl sz_29 (st.rorange 0 rfl 0 rfl)) rfl rfl ?_)
    intro a fr
    refine lst rfl (ow_alloc fr st rfl zv_29 rfl rfl _ (by rfl) ?_)
    intro a w b3 fr st
    refine lst rfl (ow_v fr (rn_assign (fr.ev rfl)) rfl rfl ?_)
    intro a fr
    refine lst rfl (ow_stN fr st 0 (vs := [.int .i64 (x0), .int .i64 (x1), .int .i64 (x2), .int .i64 (x3)]) rfl rfl rfl rfl sz_29 rfl (Nat.le_of_ble_eq_true rfl) rfl ?_)
    intro w (st : St _ [] w [.blk b3 [.int .i64 (x0), .int .i64 (x1), .int .i64 (x2), .int .i64 (x3)] 29, ro b1 (o2 + k * 4) [.int .i64 (x0), .int .i64 (x1), .int .i64 (x2), .int .i64 (x3)], row CI 1 3 w0.heap.size (.slice A ((nxL l i k).length) c) ((nxL l i k)), ro b1 (o2 + i * 4) [.int .i64 (y0), .int .i64 (y1), .int .i64 (y2), .int .i64 (y3)], els insC 4 (some ⟨b1, o2, none⟩) l])
    refine wpList_nil ?_
    refine then_n ?_
    refine wp_seq ?_
    have hnx := nx_at hi hlt hx_l_y0 hx_l_x0
    simp only at hnx
    by_cases e1 : k = i + 1
    · by_cases e2 : endsF y1 = true
      · by_cases e3 : jmp y1 = true
        · by_cases e4 : x0 = y2
          · have e1b : (k == i + 1) = true := by simp [e1]
            replace hnx : nx l i k = true := by rw [hnx]; simp [e1b, e2, e3, e4]
            refine dr_start (by kernel_rfl) st (.cons_cons _ (.cons_cons _ (.cons_cons _ (.cons_cons _ (.cons_cons _ .slnil))))) ?_
            intro w st
            refine dr_take 0 rfl (by kernel_rfl) (by kernel_rfl) (by kernel_rfl) (fun _ _ _ h => h) fr rfl (st.sub (.cons_cons _ (.cons_cons _ (.cons_cons _ (.cons_cons _ (.cons_cons _ .slnil)))))) (fun w st => rn_move (fr.ev rfl)) rfl rfl ?_
            intro a fr
            refine dr_take 1 rfl (by kernel_rfl) (by kernel_rfl) (by kernel_rfl) (fun _ _ _ h => h) fr rfl (st.sub (.cons_cons _ (.cons_cons _ (.cons_cons _ (.cons_cons _ (.cons_cons _ .slnil)))))) (fun w st => rn_move (fr.ev rfl)) rfl rfl ?_
            intro a fr
            refine dr_take 2 rfl (by kernel_rfl) (by kernel_rfl) (by kernel_rfl) (fun _ _ _ h => h) fr rfl (st.sub (.cons_cons _ (.cons_cons _ (.cons_cons _ (.cons_cons _ (.cons_cons _ .slnil)))))) (fun w st => rn_add (a := (i : Nat)) (b := 1) (c := ((i + 1 : Nat) : Int)) (fr.ev rfl) (fr.ev rfl) (wr_i64e (by omega) (by omega) (by omega))) rfl rfl ?_
            intro a fr
            refine dr_take 3 rfl (by kernel_rfl) (by kernel_rfl) (by kernel_rfl) (fun _ _ _ h => h) fr rfl (st.sub (.cons_cons _ (.cons_cons _ (.cons_cons _ (.cons_cons _ (.cons_cons _ .slnil)))))) (fun w st => rn_as (v' := .bool true) (rn_eql (fr.ev rfl) (fr.ev rfl)) (congrArg Value.bool (by simp only [beq_iff_eq]; omega))) rfl rfl ?_
            intro a fr
            refine dr_take 4 rfl (by kernel_rfl) (by kernel_rfl) (by kernel_rfl) (fun _ _ _ h => h) fr rfl (st.sub (.cons_cons _ (.cons_cons _ (.cons_cons _ (.cons_cons _ (.cons_cons _ .slnil)))))) (fun w st => rn_move (fr.ev rfl)) rfl rfl ?_
            intro a fr
            refine dr_take_y 5 rfl (by kernel_rfl) (by kernel_rfl) (by kernel_rfl) (fun _ _ _ h => h) fr (wanted_of fr rfl rfl rfl rfl) (st.sub (.cons_cons _ (.cons_cons _ (.cons_cons _ (.cons_cons _ (.cons_cons _ .slnil)))))) (fun w st => rn_move (fr.ev rfl)) rfl rfl ?_
            intro a fr
            refine dr_take_y 6 rfl (by kernel_rfl) (by kernel_rfl) (by kernel_rfl) (fun _ _ _ h => h) fr (wanted_of fr rfl rfl rfl rfl) (st.sub (.cons_cons _ (.cons_cons _ (.cons_cons _ (.cons_cons _ (.cons_cons _ .slnil)))))) (fun w st => rn_move (fr.ev rfl)) rfl rfl ?_
            intro a fr
            refine dr_take_y 7 rfl (by kernel_rfl) (by kernel_rfl) (by kernel_rfl) (fun _ _ _ h => h) fr (wanted_of fr rfl rfl rfl rfl) (st.sub (.cons_cons _ (.cons_cons _ (.cons_cons _ (.cons_cons _ (.cons_cons _ .slnil)))))) (fun w st => rn_at (i := i) (fr.ev rfl) (fr.ev rfl) Try.underlying24 sz_29 (by omega) (by rfl)) rfl rfl ?_
            intro a fr
            refine dr_take_y 8 rfl (by kernel_rfl) (by kernel_rfl) (by kernel_rfl) (fun _ _ _ h => h) fr (wanted_of fr rfl rfl rfl rfl) (st.sub (.cons_cons _ (.cons_cons _ (.cons_cons _ (.cons_cons _ (.cons_cons _ .slnil)))))) (fun w st => fa_29_1 (fr.ev rfl)) rfl rfl ?_
            intro a fr
            refine dr_take_y 9 rfl (by kernel_rfl) (by kernel_rfl) (by kernel_rfl) (fun _ _ _ h => h) fr (wanted_of fr rfl rfl rfl rfl) (st.sub (.cons_cons _ (.cons_cons _ (.cons_cons _ (.cons_cons _ (.cons_cons _ .slnil)))))) (fun w st => rn_load (fr.ev rfl) Try.underlying3 rfl (st.rocell 3 rfl (j := 1) rfl)) rfl rfl ?_
            intro a fr
            refine dr_one_y 10 (by kernel_rfl) rfl (wanted_of fr rfl rfl rfl rfl) (ow_call fr rfl rfl Try.call27 (ends_is y1 true e2 _) rfl rfl ?_)
            rintro e w ⟨rfl, hag⟩
            refine ⟨_, rfl, ?_⟩
            intro a fr
            have st := st.keep hag
            clear hag
            refine ⟨st.sub (.cons_cons _ (.cons_cons _ (.cons_cons _ (.cons_cons _ (.cons_cons _ .slnil))))), ?_⟩
            refine dr_take_y 11 rfl (by kernel_rfl) (by kernel_rfl) (by kernel_rfl) (fun _ _ _ h => h) fr (wanted_of fr rfl rfl rfl rfl) (st.sub (.cons_cons _ (.cons_cons _ (.cons_cons _ (.cons_cons _ (.cons_cons _ .slnil)))))) (fun w st => rn_not (fr.ev rfl)) rfl rfl ?_
            intro a fr
            refine dr_take 12 rfl (by kernel_rfl) (by kernel_rfl) (by kernel_rfl) (fun _ _ _ h => h) fr rfl (st.sub (.cons_cons _ (.cons_cons _ (.cons_cons _ (.cons_cons _ (.cons_cons _ .slnil)))))) (fun w st => rn_pick_t (fr.ev rfl) (fr.ev rfl)) rfl rfl ?_
            intro a fr
            refine dr_take 13 rfl (by kernel_rfl) (by kernel_rfl) (by kernel_rfl) (fun _ _ _ h => h) fr rfl (st.sub (.cons_cons _ (.cons_cons _ (.cons_cons _ (.cons_cons _ (.cons_cons _ .slnil)))))) (fun w st => rn_move (fr.ev rfl)) rfl rfl ?_
            intro a fr
            refine dr_take_y 14 rfl (by kernel_rfl) (by kernel_rfl) (by kernel_rfl) (fun _ _ _ h => h) fr (wanted_of fr rfl rfl rfl rfl) (st.sub (.cons_cons _ (.cons_cons _ (.cons_cons _ (.cons_cons _ (.cons_cons _ .slnil)))))) (fun w st => rn_move (fr.ev rfl)) rfl rfl ?_
            intro a fr
            refine dr_take_y 15 rfl (by kernel_rfl) (by kernel_rfl) (by kernel_rfl) (fun _ _ _ h => h) fr (wanted_of fr rfl rfl rfl rfl) (st.sub (.cons_cons _ (.cons_cons _ (.cons_cons _ (.cons_cons _ (.cons_cons _ .slnil)))))) (fun w st => rn_move (fr.ev rfl)) rfl rfl ?_
            intro a fr
            refine dr_take_y 16 rfl (by kernel_rfl) (by kernel_rfl) (by kernel_rfl) (fun _ _ _ h => h) fr (wanted_of fr rfl rfl rfl rfl) (st.sub (.cons_cons _ (.cons_cons _ (.cons_cons _ (.cons_cons _ (.cons_cons _ .slnil)))))) (fun w st => rn_at (i := i) (fr.ev rfl) (fr.ev rfl) Try.underlying24 sz_29 (by omega) (by rfl)) rfl rfl ?_
            intro a fr
            refine dr_take_y 17 rfl (by kernel_rfl) (by kernel_rfl) (by kernel_rfl) (fun _ _ _ h => h) fr (wanted_of fr rfl rfl rfl rfl) (st.sub (.cons_cons _ (.cons_cons _ (.cons_cons _ (.cons_cons _ (.cons_cons _ .slnil)))))) (fun w st => fa_29_1 (fr.ev rfl)) rfl rfl ?_
            intro a fr
            refine dr_take_y 18 rfl (by kernel_rfl) (by kernel_rfl) (by kernel_rfl) (fun _ _ _ h => h) fr (wanted_of fr rfl rfl rfl rfl) (st.sub (.cons_cons _ (.cons_cons _ (.cons_cons _ (.cons_cons _ (.cons_cons _ .slnil)))))) (fun w st => rn_load (fr.ev rfl) Try.underlying3 rfl (st.rocell 3 rfl (j := 1) rfl)) rfl rfl ?_
            intro a fr
            refine dr_one_y 19 (by kernel_rfl) rfl (wanted_of fr rfl rfl rfl rfl) (ow_call fr rfl rfl Try.call41 (jumps_is y1 true e3 _) rfl rfl ?_)
            rintro e w ⟨rfl, hag⟩
            refine ⟨_, rfl, ?_⟩
            intro a fr
            have st := st.keep hag
            clear hag
            refine ⟨st.sub (.cons_cons _ (.cons_cons _ (.cons_cons _ (.cons_cons _ (.cons_cons _ .slnil))))), ?_⟩
            refine dr_take_y 20 rfl (by kernel_rfl) (by kernel_rfl) (by kernel_rfl) (fun _ _ _ h => h) fr (wanted_of fr rfl rfl rfl rfl) (st.sub (.cons_cons _ (.cons_cons _ (.cons_cons _ (.cons_cons _ (.cons_cons _ .slnil)))))) (fun w st => rn_move (fr.ev rfl)) rfl rfl ?_
            intro a fr
            refine dr_take_y 21 rfl (by kernel_rfl) (by kernel_rfl) (by kernel_rfl) (fun _ _ _ h => h) fr (wanted_of fr rfl rfl rfl rfl) (st.sub (.cons_cons _ (.cons_cons _ (.cons_cons _ (.cons_cons _ (.cons_cons _ .slnil)))))) (fun w st => fa_29_0 (fr.ev rfl)) rfl rfl ?_
            intro a fr
            refine dr_take_y 22 rfl (by kernel_rfl) (by kernel_rfl) (by kernel_rfl) (fun _ _ _ h => h) fr (wanted_of fr rfl rfl rfl rfl) (st.sub (.cons_cons _ (.cons_cons _ (.cons_cons _ (.cons_cons _ (.cons_cons _ .slnil)))))) (fun w st => rn_load (fr.ev rfl) Try.underlying3 rfl (st.cell 0 rfl rfl)) rfl rfl ?_
            intro a fr
            refine dr_take_y 23 rfl (by kernel_rfl) (by kernel_rfl) (by kernel_rfl) (fun _ _ _ h => h) fr (wanted_of fr rfl rfl rfl rfl) (st.sub (.cons_cons _ (.cons_cons _ (.cons_cons _ (.cons_cons _ (.cons_cons _ .slnil)))))) (fun w st => rn_move (fr.ev rfl)) rfl rfl ?_
            intro a fr
            refine dr_take_y 24 rfl (by kernel_rfl) (by kernel_rfl) (by kernel_rfl) (fun _ _ _ h => h) fr (wanted_of fr rfl rfl rfl rfl) (st.sub (.cons_cons _ (.cons_cons _ (.cons_cons _ (.cons_cons _ (.cons_cons _ .slnil)))))) (fun w st => rn_move (fr.ev rfl)) rfl rfl ?_
            intro a fr
            refine dr_take_y 25 rfl (by kernel_rfl) (by kernel_rfl) (by kernel_rfl) (fun _ _ _ h => h) fr (wanted_of fr rfl rfl rfl rfl) (st.sub (.cons_cons _ (.cons_cons _ (.cons_cons _ (.cons_cons _ (.cons_cons _ .slnil)))))) (fun w st => rn_at (i := i) (fr.ev rfl) (fr.ev rfl) Try.underlying24 sz_29 (by omega) (by rfl)) rfl rfl ?_
            intro a fr
            refine dr_take_y 26 rfl (by kernel_rfl) (by kernel_rfl) (by kernel_rfl) (fun _ _ _ h => h) fr (wanted_of fr rfl rfl rfl rfl) (st.sub (.cons_cons _ (.cons_cons _ (.cons_cons _ (.cons_cons _ (.cons_cons _ .slnil)))))) (fun w st => fa_29_2 (fr.ev rfl)) rfl rfl ?_
            intro a fr
            refine dr_take_y 27 rfl (by kernel_rfl) (by kernel_rfl) (by kernel_rfl) (fun _ _ _ h => h) fr (wanted_of fr rfl rfl rfl rfl) (st.sub (.cons_cons _ (.cons_cons _ (.cons_cons _ (.cons_cons _ (.cons_cons _ .slnil)))))) (fun w st => rn_load (fr.ev rfl) Try.underlying3 rfl (st.rocell 3 rfl (j := 2) rfl)) rfl rfl ?_
            intro a fr
            refine dr_take_y 28 rfl (by kernel_rfl) (by kernel_rfl) (by kernel_rfl) (fun _ _ _ h => h) fr (wanted_of fr rfl rfl rfl rfl) (st.sub (.cons_cons _ (.cons_cons _ (.cons_cons _ (.cons_cons _ (.cons_cons _ .slnil)))))) (fun w st => rn_as (v' := .bool true) (rn_eql (fr.ev rfl) (fr.ev rfl)) (congrArg Value.bool (by simp [e4]))) rfl rfl ?_
            intro a fr
            refine dr_take_y 29 rfl (by kernel_rfl) (by kernel_rfl) (by kernel_rfl) (fun _ _ _ h => h) fr (wanted_of fr rfl rfl rfl rfl) (st.sub (.cons_cons _ (.cons_cons _ (.cons_cons _ (.cons_cons _ (.cons_cons _ .slnil)))))) (fun w st => rn_pick_t (fr.ev rfl) (fr.ev rfl)) rfl rfl ?_
            intro a fr
            refine dr_take 30 rfl (by kernel_rfl) (by kernel_rfl) (by kernel_rfl) (fun _ _ _ h => h) fr rfl (st.sub (.cons_cons _ (.cons_cons _ (.cons_cons _ (.cons_cons _ (.cons_cons _ .slnil)))))) (fun w st => rn_pick_f (fr.ev rfl) (fr.ev rfl)) rfl rfl ?_
            intro a fr
            refine dr_done (by kernel_rfl) ?_
            refine then_n ?_
            refine cond_t fr rfl rfl ?_
            refine reg ?_
            refine lst rfl (ow_v fr (rn_move (fr.ev rfl)) rfl rfl ?_)
            intro a fr
            refine lst rfl (ow_v fr (rn_move (fr.ev rfl)) rfl rfl ?_)
            intro a fr
            refine lst rfl (ow_bslice (E := 3) fr st rfl [.int .i64 ((k : Nat))] (fun w => by simp only [List.map_toArray, List.map_cons, List.map_nil]; rw [fr.ev (x := .tmp 55) rfl]; kernel_rfl) rfl rfl ?_)
            intro a w b4 fr st
            refine lst rfl (ow_append1 fr st 3 0 ((((k : Nat)) : Int)) rfl rfl rfl rfl rfl Try.underlying46 inf_3 (by rfl) (by decide) (fun _ => rfl) rfl (by (have := nxL_len l i k; omega)) (by unfold maxLen; (have := nxL_len l i k; omega)) (Nat.le_refl _) st.agr.size rfl rfl ?_)
            intro a w Ax5 cx6 fr (st : St _ [] w [.blk b4 [.int .i64 ((k : Nat))] 3, .blk b3 [.int .i64 (x0), .int .i64 (x1), .int .i64 (x2), .int .i64 (x3)] 29, ro b1 (o2 + k * 4) [.int .i64 (x0), .int .i64 (x1), .int .i64 (x2), .int .i64 (x3)], row CI 1 3 w0.heap.size (.slice Ax5 (((nxL l i k) ++ [(((k : Nat)) : Int)]).length) cx6) (((nxL l i k) ++ [(((k : Nat)) : Int)])), ro b1 (o2 + i * 4) [.int .i64 (y0), .int .i64 (y1), .int .i64 (y2), .int .i64 (y3)], els insC 4 (some ⟨b1, o2, none⟩) l])
            refine lst rfl (ow_v fr (rn_assign (fr.ev rfl)) rfl rfl ?_)
            intro a fr
            refine wpList_nil ?_
            refine blk_n ?_
            refine then_n ?_
            refine reg ?_
            refine lst rfl (ow_v fr (rn_add (a := (k : Nat)) (b := 1) (c := ((k + 1 : Nat) : Int)) (fr.ev rfl) (fr.ev rfl) (wr_i64e (by omega) (by omega) (by omega))) rfl rfl ?_)
            intro a fr
            refine lst rfl (ow_v fr (rn_move (fr.ev rfl)) rfl rfl ?_)
            intro a fr
            refine wpList_nil ?_
            rw [nxL_y hnx] at st
            rw [nxL_y hnx] at fr
            refine then_n ⟨l.length - (k + 1), ?_, k + 1, Ax5, cx6, (by omega), rfl, fr.prune ⟨rfl, rfl, rfl, rfl, rfl, rfl, trivial⟩, st.sub (.cons _ (.cons _ (.cons _ (.cons_cons _ (.cons_cons _ (.cons_cons _ .slnil))))))⟩
            omega
          · have e1b : (k == i + 1) = true := by simp [e1]
            replace hnx : nx l i k = false := by rw [hnx]; simp [e1b, e2, e3, e4]
            refine dr_start (by kernel_rfl) st (.cons_cons _ (.cons_cons _ (.cons_cons _ (.cons_cons _ (.cons_cons _ .slnil))))) ?_
            intro w st
            refine dr_take 0 rfl (by kernel_rfl) (by kernel_rfl) (by kernel_rfl) (fun _ _ _ h => h) fr rfl (st.sub (.cons_cons _ (.cons_cons _ (.cons_cons _ (.cons_cons _ (.cons_cons _ .slnil)))))) (fun w st => rn_move (fr.ev rfl)) rfl rfl ?_
            intro a fr
            refine dr_take 1 rfl (by kernel_rfl) (by kernel_rfl) (by kernel_rfl) (fun _ _ _ h => h) fr rfl (st.sub (.cons_cons _ (.cons_cons _ (.cons_cons _ (.cons_cons _ (.cons_cons _ .slnil)))))) (fun w st => rn_move (fr.ev rfl)) rfl rfl ?_
            intro a fr
            refine dr_take 2 rfl (by kernel_rfl) (by kernel_rfl) (by kernel_rfl) (fun _ _ _ h => h) fr rfl (st.sub (.cons_cons _ (.cons_cons _ (.cons_cons _ (.cons_cons _ (.cons_cons _ .slnil)))))) (fun w st => rn_add (a := (i : Nat)) (b := 1) (c := ((i + 1 : Nat) : Int)) (fr.ev rfl) (fr.ev rfl) (wr_i64e (by omega) (by omega) (by omega))) rfl rfl ?_
            intro a fr
            refine dr_take 3 rfl (by kernel_rfl) (by kernel_rfl) (by kernel_rfl) (fun _ _ _ h => h) fr rfl (st.sub (.cons_cons _ (.cons_cons _ (.cons_cons _ (.cons_cons _ (.cons_cons _ .slnil)))))) (fun w st => rn_as (v' := .bool true) (rn_eql (fr.ev rfl) (fr.ev rfl)) (congrArg Value.bool (by simp only [beq_iff_eq]; omega))) rfl rfl ?_
            intro a fr
            refine dr_take 4 rfl (by kernel_rfl) (by kernel_rfl) (by kernel_rfl) (fun _ _ _ h => h) fr rfl (st.sub (.cons_cons _ (.cons_cons _ (.cons_cons _ (.cons_cons _ (.cons_cons _ .slnil)))))) (fun w st => rn_move (fr.ev rfl)) rfl rfl ?_
            intro a fr
            refine dr_take_y 5 rfl (by kernel_rfl) (by kernel_rfl) (by kernel_rfl) (fun _ _ _ h => h) fr (wanted_of fr rfl rfl rfl rfl) (st.sub (.cons_cons _ (.cons_cons _ (.cons_cons _ (.cons_cons _ (.cons_cons _ .slnil)))))) (fun w st => rn_move (fr.ev rfl)) rfl rfl ?_
            intro a fr
            refine dr_take_y 6 rfl (by kernel_rfl) (by kernel_rfl) (by kernel_rfl) (fun _ _ _ h => h) fr (wanted_of fr rfl rfl rfl rfl) (st.sub (.cons_cons _ (.cons_cons _ (.cons_cons _ (.cons_cons _ (.cons_cons _ .slnil)))))) (fun w st => rn_move (fr.ev rfl)) rfl rfl ?_
            intro a fr
            refine dr_take_y 7 rfl (by kernel_rfl) (by kernel_rfl) (by kernel_rfl) (fun _ _ _ h => h) fr (wanted_of fr rfl rfl rfl rfl) (st.sub (.cons_cons _ (.cons_cons _ (.cons_cons _ (.cons_cons _ (.cons_cons _ .slnil)))))) (fun w st => rn_at (i := i) (fr.ev rfl) (fr.ev rfl) Try.underlying24 sz_29 (by omega) (by rfl)) rfl rfl ?_
            intro a fr
            refine dr_take_y 8 rfl (by kernel_rfl) (by kernel_rfl) (by kernel_rfl) (fun _ _ _ h => h) fr (wanted_of fr rfl rfl rfl rfl) (st.sub (.cons_cons _ (.cons_cons _ (.cons_cons _ (.cons_cons _ (.cons_cons _ .slnil)))))) (fun w st => fa_29_1 (fr.ev rfl)) rfl rfl ?_
            intro a fr
            refine dr_take_y 9 rfl (by kernel_rfl) (by kernel_rfl) (by kernel_rfl) (fun _ _ _ h => h) fr (wanted_of fr rfl rfl rfl rfl) (st.sub (.cons_cons _ (.cons_cons _ (.cons_cons _ (.cons_cons _ (.cons_cons _ .slnil)))))) (fun w st => rn_load (fr.ev rfl) Try.underlying3 rfl (st.rocell 3 rfl (j := 1) rfl)) rfl rfl ?_
            intro a fr
            refine dr_one_y 10 (by kernel_rfl) rfl (wanted_of fr rfl rfl rfl rfl) (ow_call fr rfl rfl Try.call27 (ends_is y1 true e2 _) rfl rfl ?_)
            rintro e w ⟨rfl, hag⟩
            refine ⟨_, rfl, ?_⟩
            intro a fr
            have st := st.keep hag
            clear hag
            refine ⟨st.sub (.cons_cons _ (.cons_cons _ (.cons_cons _ (.cons_cons _ (.cons_cons _ .slnil))))), ?_⟩
            refine dr_take_y 11 rfl (by kernel_rfl) (by kernel_rfl) (by kernel_rfl) (fun _ _ _ h => h) fr (wanted_of fr rfl rfl rfl rfl) (st.sub (.cons_cons _ (.cons_cons _ (.cons_cons _ (.cons_cons _ (.cons_cons _ .slnil)))))) (fun w st => rn_not (fr.ev rfl)) rfl rfl ?_
            intro a fr
            refine dr_take 12 rfl (by kernel_rfl) (by kernel_rfl) (by kernel_rfl) (fun _ _ _ h => h) fr rfl (st.sub (.cons_cons _ (.cons_cons _ (.cons_cons _ (.cons_cons _ (.cons_cons _ .slnil)))))) (fun w st => rn_pick_t (fr.ev rfl) (fr.ev rfl)) rfl rfl ?_
            intro a fr
            refine dr_take 13 rfl (by kernel_rfl) (by kernel_rfl) (by kernel_rfl) (fun _ _ _ h => h) fr rfl (st.sub (.cons_cons _ (.cons_cons _ (.cons_cons _ (.cons_cons _ (.cons_cons _ .slnil)))))) (fun w st => rn_move (fr.ev rfl)) rfl rfl ?_
            intro a fr
            refine dr_take_y 14 rfl (by kernel_rfl) (by kernel_rfl) (by kernel_rfl) (fun _ _ _ h => h) fr (wanted_of fr rfl rfl rfl rfl) (st.sub (.cons_cons _ (.cons_cons _ (.cons_cons _ (.cons_cons _ (.cons_cons _ .slnil)))))) (fun w st => rn_move (fr.ev rfl)) rfl rfl ?_
            intro a fr
            refine dr_take_y 15 rfl (by kernel_rfl) (by kernel_rfl) (by kernel_rfl) (fun _ _ _ h => h) fr (wanted_of fr rfl rfl rfl rfl) (st.sub (.cons_cons _ (.cons_cons _ (.cons_cons _ (.cons_cons _ (.cons_cons _ .slnil)))))) (fun w st => rn_move (fr.ev rfl)) rfl rfl ?_
            intro a fr
            refine dr_take_y 16 rfl (by kernel_rfl) (by kernel_rfl) (by kernel_rfl) (fun _ _ _ h => h) fr (wanted_of fr rfl rfl rfl rfl) (st.sub (.cons_cons _ (.cons_cons _ (.cons_cons _ (.cons_cons _ (.cons_cons _ .slnil)))))) (fun w st => rn_at (i := i) (fr.ev rfl) (fr.ev rfl) Try.underlying24 sz_29 (by omega) (by rfl)) rfl rfl ?_
            intro a fr
            refine dr_take_y 17 rfl (by kernel_rfl) (by kernel_rfl) (by kernel_rfl) (fun _ _ _ h => h) fr (wanted_of fr rfl rfl rfl rfl) (st.sub (.cons_cons _ (.cons_cons _ (.cons_cons _ (.cons_cons _ (.cons_cons _ .slnil)))))) (fun w st => fa_29_1 (fr.ev rfl)) rfl rfl ?_
            intro a fr
            refine dr_take_y 18 rfl (by kernel_rfl) (by kernel_rfl) (by kernel_rfl) (fun _ _ _ h => h) fr (wanted_of fr rfl rfl rfl rfl) (st.sub (.cons_cons _ (.cons_cons _ (.cons_cons _ (.cons_cons _ (.cons_cons _ .slnil)))))) (fun w st => rn_load (fr.ev rfl) Try.underlying3 rfl (st.rocell 3 rfl (j := 1) rfl)) rfl rfl ?_
            intro a fr
            refine dr_one_y 19 (by kernel_rfl) rfl (wanted_of fr rfl rfl rfl rfl) (ow_call fr rfl rfl Try.call41 (jumps_is y1 true e3 _) rfl rfl ?_)
            rintro e w ⟨rfl, hag⟩
            refine ⟨_, rfl, ?_⟩
            intro a fr
            have st := st.keep hag
            clear hag
            refine ⟨st.sub (.cons_cons _ (.cons_cons _ (.cons_cons _ (.cons_cons _ (.cons_cons _ .slnil))))), ?_⟩
            refine dr_take_y 20 rfl (by kernel_rfl) (by kernel_rfl) (by kernel_rfl) (fun _ _ _ h => h) fr (wanted_of fr rfl rfl rfl rfl) (st.sub (.cons_cons _ (.cons_cons _ (.cons_cons _ (.cons_cons _ (.cons_cons _ .slnil)))))) (fun w st => rn_move (fr.ev rfl)) rfl rfl ?_
            intro a fr
            refine dr_take_y 21 rfl (by kernel_rfl) (by kernel_rfl) (by kernel_rfl) (fun _ _ _ h => h) fr (wanted_of fr rfl rfl rfl rfl) (st.sub (.cons_cons _ (.cons_cons _ (.cons_cons _ (.cons_cons _ (.cons_cons _ .slnil)))))) (fun w st => fa_29_0 (fr.ev rfl)) rfl rfl ?_
            intro a fr
            refine dr_take_y 22 rfl (by kernel_rfl) (by kernel_rfl) (by kernel_rfl) (fun _ _ _ h => h) fr (wanted_of fr rfl rfl rfl rfl) (st.sub (.cons_cons _ (.cons_cons _ (.cons_cons _ (.cons_cons _ (.cons_cons _ .slnil)))))) (fun w st => rn_load (fr.ev rfl) Try.underlying3 rfl (st.cell 0 rfl rfl)) rfl rfl ?_
            intro a fr
            refine dr_take_y 23 rfl (by kernel_rfl) (by kernel_rfl) (by kernel_rfl) (fun _ _ _ h => h) fr (wanted_of fr rfl rfl rfl rfl) (st.sub (.cons_cons _ (.cons_cons _ (.cons_cons _ (.cons_cons _ (.cons_cons _ .slnil)))))) (fun w st => rn_move (fr.ev rfl)) rfl rfl ?_
            intro a fr
            refine dr_take_y 24 rfl (by kernel_rfl) (by kernel_rfl) (by kernel_rfl) (fun _ _ _ h => h) fr (wanted_of fr rfl rfl rfl rfl) (st.sub (.cons_cons _ (.cons_cons _ (.cons_cons _ (.cons_cons _ (.cons_cons _ .slnil)))))) (fun w st => rn_move (fr.ev rfl)) rfl rfl ?_
            intro a fr
            refine dr_take_y 25 rfl (by kernel_rfl) (by kernel_rfl) (by kernel_rfl) (fun _ _ _ h => h) fr (wanted_of fr rfl rfl rfl rfl) (st.sub (.cons_cons _ (.cons_cons _ (.cons_cons _ (.cons_cons _ (.cons_cons _ .slnil)))))) (fun w st => rn_at (i := i) (fr.ev rfl) (fr.ev rfl) Try.underlying24 sz_29 (by omega) (by rfl)) rfl rfl ?_
            intro a fr
            refine dr_take_y 26 rfl (by kernel_rfl) (by kernel_rfl) (by kernel_rfl) (fun _ _ _ h => h) fr (wanted_of fr rfl rfl rfl rfl) (st.sub (.cons_cons _ (.cons_cons _ (.cons_cons _ (.cons_cons _ (.cons_cons _ .slnil)))))) (fun w st => fa_29_2 (fr.ev rfl)) rfl rfl ?_
            intro a fr
            refine dr_take_y 27 rfl (by kernel_rfl) (by kernel_rfl) (by kernel_rfl) (fun _ _ _ h => h) fr (wanted_of fr rfl rfl rfl rfl) (st.sub (.cons_cons _ (.cons_cons _ (.cons_cons _ (.cons_cons _ (.cons_cons _ .slnil)))))) (fun w st => rn_load (fr.ev rfl) Try.underlying3 rfl (st.rocell 3 rfl (j := 2) rfl)) rfl rfl ?_
            intro a fr
            refine dr_take_y 28 rfl (by kernel_rfl) (by kernel_rfl) (by kernel_rfl) (fun _ _ _ h => h) fr (wanted_of fr rfl rfl rfl rfl) (st.sub (.cons_cons _ (.cons_cons _ (.cons_cons _ (.cons_cons _ (.cons_cons _ .slnil)))))) (fun w st => rn_as (v' := .bool false) (rn_eql (fr.ev rfl) (fr.ev rfl)) (congrArg Value.bool (by simp [e4]))) rfl rfl ?_
            intro a fr
            refine dr_take_y 29 rfl (by kernel_rfl) (by kernel_rfl) (by kernel_rfl) (fun _ _ _ h => h) fr (wanted_of fr rfl rfl rfl rfl) (st.sub (.cons_cons _ (.cons_cons _ (.cons_cons _ (.cons_cons _ (.cons_cons _ .slnil)))))) (fun w st => rn_pick_t (fr.ev rfl) (fr.ev rfl)) rfl rfl ?_
            intro a fr
            refine dr_take 30 rfl (by kernel_rfl) (by kernel_rfl) (by kernel_rfl) (fun _ _ _ h => h) fr rfl (st.sub (.cons_cons _ (.cons_cons _ (.cons_cons _ (.cons_cons _ (.cons_cons _ .slnil)))))) (fun w st => rn_pick_f (fr.ev rfl) (fr.ev rfl)) rfl rfl ?_
            intro a fr
            refine dr_done (by kernel_rfl) ?_
            refine then_n ?_
            refine cond_f fr rfl rfl ?_
            refine wp_skip ?_
            refine blk_n ?_
            refine then_n ?_
            refine reg ?_
            refine lst rfl (ow_v fr (rn_add (a := (k : Nat)) (b := 1) (c := ((k + 1 : Nat) : Int)) (fr.ev rfl) (fr.ev rfl) (wr_i64e (by omega) (by omega) (by omega))) rfl rfl ?_)
            intro a fr
            refine lst rfl (ow_v fr (rn_move (fr.ev rfl)) rfl rfl ?_)
            intro a fr
            refine wpList_nil ?_
            rw [nxL_n hnx] at st
            rw [nxL_n hnx] at fr
            refine then_n ⟨l.length - (k + 1), ?_, k + 1, A, c, (by omega), rfl, fr.prune ⟨rfl, rfl, rfl, rfl, rfl, rfl, trivial⟩, st.sub (.cons _ (.cons _ (.cons_cons _ (.cons_cons _ (.cons_cons _ .slnil)))))⟩
            omega
        · replace e3 := Bool.eq_false_iff.2 e3
          have e1b : (k == i + 1) = true := by simp [e1]
          replace hnx : nx l i k = false := by rw [hnx]; simp [e1b, e2, e3]
          refine dr_start (by kernel_rfl) st (.cons_cons _ (.cons_cons _ (.cons_cons _ (.cons_cons _ (.cons_cons _ .slnil))))) ?_
          intro w st
          refine dr_take 0 rfl (by kernel_rfl) (by kernel_rfl) (by kernel_rfl) (fun _ _ _ h => h) fr rfl (st.sub (.cons_cons _ (.cons_cons _ (.cons_cons _ (.cons_cons _ (.cons_cons _ .slnil)))))) (fun w st => rn_move (fr.ev rfl)) rfl rfl ?_
          intro a fr
          refine dr_take 1 rfl (by kernel_rfl) (by kernel_rfl) (by kernel_rfl) (fun _ _ _ h => h) fr rfl (st.sub (.cons_cons _ (.cons_cons _ (.cons_cons _ (.cons_cons _ (.cons_cons _ .slnil)))))) (fun w st => rn_move (fr.ev rfl)) rfl rfl ?_
          intro a fr
          refine dr_take 2 rfl (by kernel_rfl) (by kernel_rfl) (by kernel_rfl) (fun _ _ _ h => h) fr rfl (st.sub (.cons_cons _ (.cons_cons _ (.cons_cons _ (.cons_cons _ (.cons_cons _ .slnil)))))) (fun w st => rn_add (a := (i : Nat)) (b := 1) (c := ((i + 1 : Nat) : Int)) (fr.ev rfl) (fr.ev rfl) (wr_i64e (by omega) (by omega) (by omega))) rfl rfl ?_
          intro a fr
          refine dr_take 3 rfl (by kernel_rfl) (by kernel_rfl) (by kernel_rfl) (fun _ _ _ h => h) fr rfl (st.sub (.cons_cons _ (.cons_cons _ (.cons_cons _ (.cons_cons _ (.cons_cons _ .slnil)))))) (fun w st => rn_as (v' := .bool true) (rn_eql (fr.ev rfl) (fr.ev rfl)) (congrArg Value.bool (by simp only [beq_iff_eq]; omega))) rfl rfl ?_
          intro a fr
          refine dr_take 4 rfl (by kernel_rfl) (by kernel_rfl) (by kernel_rfl) (fun _ _ _ h => h) fr rfl (st.sub (.cons_cons _ (.cons_cons _ (.cons_cons _ (.cons_cons _ (.cons_cons _ .slnil)))))) (fun w st => rn_move (fr.ev rfl)) rfl rfl ?_
          intro a fr
          refine dr_take_y 5 rfl (by kernel_rfl) (by kernel_rfl) (by kernel_rfl) (fun _ _ _ h => h) fr (wanted_of fr rfl rfl rfl rfl) (st.sub (.cons_cons _ (.cons_cons _ (.cons_cons _ (.cons_cons _ (.cons_cons _ .slnil)))))) (fun w st => rn_move (fr.ev rfl)) rfl rfl ?_
          intro a fr
          refine dr_take_y 6 rfl (by kernel_rfl) (by kernel_rfl) (by kernel_rfl) (fun _ _ _ h => h) fr (wanted_of fr rfl rfl rfl rfl) (st.sub (.cons_cons _ (.cons_cons _ (.cons_cons _ (.cons_cons _ (.cons_cons _ .slnil)))))) (fun w st => rn_move (fr.ev rfl)) rfl rfl ?_
          intro a fr
          refine dr_take_y 7 rfl (by kernel_rfl) (by kernel_rfl) (by kernel_rfl) (fun _ _ _ h => h) fr (wanted_of fr rfl rfl rfl rfl) (st.sub (.cons_cons _ (.cons_cons _ (.cons_cons _ (.cons_cons _ (.cons_cons _ .slnil)))))) (fun w st => rn_at (i := i) (fr.ev rfl) (fr.ev rfl) Try.underlying24 sz_29 (by omega) (by rfl)) rfl rfl ?_
          intro a fr
          refine dr_take_y 8 rfl (by kernel_rfl) (by kernel_rfl) (by kernel_rfl) (fun _ _ _ h => h) fr (wanted_of fr rfl rfl rfl rfl) (st.sub (.cons_cons _ (.cons_cons _ (.cons_cons _ (.cons_cons _ (.cons_cons _ .slnil)))))) (fun w st => fa_29_1 (fr.ev rfl)) rfl rfl ?_
          intro a fr
          refine dr_take_y 9 rfl (by kernel_rfl) (by kernel_rfl) (by kernel_rfl) (fun _ _ _ h => h) fr (wanted_of fr rfl rfl rfl rfl) (st.sub (.cons_cons _ (.cons_cons _ (.cons_cons _ (.cons_cons _ (.cons_cons _ .slnil)))))) (fun w st => rn_load (fr.ev rfl) Try.underlying3 rfl (st.rocell 3 rfl (j := 1) rfl)) rfl rfl ?_
          intro a fr
          refine dr_one_y 10 (by kernel_rfl) rfl (wanted_of fr rfl rfl rfl rfl) (ow_call fr rfl rfl Try.call27 (ends_is y1 true e2 _) rfl rfl ?_)
          rintro e w ⟨rfl, hag⟩
          refine ⟨_, rfl, ?_⟩
          intro a fr
          have st := st.keep hag
          clear hag
          refine ⟨st.sub (.cons_cons _ (.cons_cons _ (.cons_cons _ (.cons_cons _ (.cons_cons _ .slnil))))), ?_⟩
          refine dr_take_y 11 rfl (by kernel_rfl) (by kernel_rfl) (by kernel_rfl) (fun _ _ _ h => h) fr (wanted_of fr rfl rfl rfl rfl) (st.sub (.cons_cons _ (.cons_cons _ (.cons_cons _ (.cons_cons _ (.cons_cons _ .slnil)))))) (fun w st => rn_not (fr.ev rfl)) rfl rfl ?_
          intro a fr
          refine dr_take 12 rfl (by kernel_rfl) (by kernel_rfl) (by kernel_rfl) (fun _ _ _ h => h) fr rfl (st.sub (.cons_cons _ (.cons_cons _ (.cons_cons _ (.cons_cons _ (.cons_cons _ .slnil)))))) (fun w st => rn_pick_t (fr.ev rfl) (fr.ev rfl)) rfl rfl ?_
          intro a fr
          refine dr_take 13 rfl (by kernel_rfl) (by kernel_rfl) (by kernel_rfl) (fun _ _ _ h => h) fr rfl (st.sub (.cons_cons _ (.cons_cons _ (.cons_cons _ (.cons_cons _ (.cons_cons _ .slnil)))))) (fun w st => rn_move (fr.ev rfl)) rfl rfl ?_
          intro a fr
          refine dr_take_y 14 rfl (by kernel_rfl) (by kernel_rfl) (by kernel_rfl) (fun _ _ _ h => h) fr (wanted_of fr rfl rfl rfl rfl) (st.sub (.cons_cons _ (.cons_cons _ (.cons_cons _ (.cons_cons _ (.cons_cons _ .slnil)))))) (fun w st => rn_move (fr.ev rfl)) rfl rfl ?_
          intro a fr
          refine dr_take_y 15 rfl (by kernel_rfl) (by kernel_rfl) (by kernel_rfl) (fun _ _ _ h => h) fr (wanted_of fr rfl rfl rfl rfl) (st.sub (.cons_cons _ (.cons_cons _ (.cons_cons _ (.cons_cons _ (.cons_cons _ .slnil)))))) (fun w st => rn_move (fr.ev rfl)) rfl rfl ?_
          intro a fr
          refine dr_take_y 16 rfl (by kernel_rfl) (by kernel_rfl) (by kernel_rfl) (fun _ _ _ h => h) fr (wanted_of fr rfl rfl rfl rfl) (st.sub (.cons_cons _ (.cons_cons _ (.cons_cons _ (.cons_cons _ (.cons_cons _ .slnil)))))) (fun w st => rn_at (i := i) (fr.ev rfl) (fr.ev rfl) Try.underlying24 sz_29 (by omega) (by rfl)) rfl rfl ?_
          intro a fr
          refine dr_take_y 17 rfl (by kernel_rfl) (by kernel_rfl) (by kernel_rfl) (fun _ _ _ h => h) fr (wanted_of fr rfl rfl rfl rfl) (st.sub (.cons_cons _ (.cons_cons _ (.cons_cons _ (.cons_cons _ (.cons_cons _ .slnil)))))) (fun w st => fa_29_1 (fr.ev rfl)) rfl rfl ?_
          intro a fr
          refine dr_take_y 18 rfl (by kernel_rfl) (by kernel_rfl) (by kernel_rfl) (fun _ _ _ h => h) fr (wanted_of fr rfl rfl rfl rfl) (st.sub (.cons_cons _ (.cons_cons _ (.cons_cons _ (.cons_cons _ (.cons_cons _ .slnil)))))) (fun w st => rn_load (fr.ev rfl) Try.underlying3 rfl (st.rocell 3 rfl (j := 1) rfl)) rfl rfl ?_
          intro a fr
          refine dr_one_y 19 (by kernel_rfl) rfl (wanted_of fr rfl rfl rfl rfl) (ow_call fr rfl rfl Try.call41 (jumps_is y1 false e3 _) rfl rfl ?_)
          rintro e w ⟨rfl, hag⟩
          refine ⟨_, rfl, ?_⟩
          intro a fr
          have st := st.keep hag
          clear hag
          refine ⟨st.sub (.cons_cons _ (.cons_cons _ (.cons_cons _ (.cons_cons _ (.cons_cons _ .slnil))))), ?_⟩
          refine dr_take_y 20 rfl (by kernel_rfl) (by kernel_rfl) (by kernel_rfl) (fun _ _ _ h => h) fr (wanted_of fr rfl rfl rfl rfl) (st.sub (.cons_cons _ (.cons_cons _ (.cons_cons _ (.cons_cons _ (.cons_cons _ .slnil)))))) (fun w st => rn_move (fr.ev rfl)) rfl rfl ?_
          intro a fr
          refine dr_take_n 21 rfl (by kernel_rfl) (by kernel_rfl) (by kernel_rfl) (fun _ _ _ h => h) fr (unwanted_of fr rfl rfl rfl rfl) (st.sub (.cons_cons _ (.cons_cons _ (.cons_cons _ (.cons_cons _ (.cons_cons _ .slnil)))))) rfl rfl ?_
          intro a fr
          refine dr_take_n 22 rfl (by kernel_rfl) (by kernel_rfl) (by kernel_rfl) (fun _ _ _ h => h) fr (unwanted_of fr rfl rfl rfl rfl) (st.sub (.cons_cons _ (.cons_cons _ (.cons_cons _ (.cons_cons _ (.cons_cons _ .slnil)))))) rfl rfl ?_
          intro a fr
          refine dr_take_n 23 rfl (by kernel_rfl) (by kernel_rfl) (by kernel_rfl) (fun _ _ _ h => h) fr (unwanted_of fr rfl rfl rfl rfl) (st.sub (.cons_cons _ (.cons_cons _ (.cons_cons _ (.cons_cons _ (.cons_cons _ .slnil)))))) rfl rfl ?_
          intro a fr
          refine dr_take_n 24 rfl (by kernel_rfl) (by kernel_rfl) (by kernel_rfl) (fun _ _ _ h => h) fr (unwanted_of fr rfl rfl rfl rfl) (st.sub (.cons_cons _ (.cons_cons _ (.cons_cons _ (.cons_cons _ (.cons_cons _ .slnil)))))) rfl rfl ?_
          intro a fr
          refine dr_take_n 25 rfl (by kernel_rfl) (by kernel_rfl) (by kernel_rfl) (fun _ _ _ h => h) fr (unwanted_of fr rfl rfl rfl rfl) (st.sub (.cons_cons _ (.cons_cons _ (.cons_cons _ (.cons_cons _ (.cons_cons _ .slnil)))))) rfl rfl ?_
          intro a fr
          refine dr_take_n 26 rfl (by kernel_rfl) (by kernel_rfl) (by kernel_rfl) (fun _ _ _ h => h) fr (unwanted_of fr rfl rfl rfl rfl) (st.sub (.cons_cons _ (.cons_cons _ (.cons_cons _ (.cons_cons _ (.cons_cons _ .slnil)))))) rfl rfl ?_
          intro a fr
          refine dr_take_n 27 rfl (by kernel_rfl) (by kernel_rfl) (by kernel_rfl) (fun _ _ _ h => h) fr (unwanted_of fr rfl rfl rfl rfl) (st.sub (.cons_cons _ (.cons_cons _ (.cons_cons _ (.cons_cons _ (.cons_cons _ .slnil)))))) rfl rfl ?_
          intro a fr
          refine dr_take_n 28 rfl (by kernel_rfl) (by kernel_rfl) (by kernel_rfl) (fun _ _ _ h => h) fr (unwanted_of fr rfl rfl rfl rfl) (st.sub (.cons_cons _ (.cons_cons _ (.cons_cons _ (.cons_cons _ (.cons_cons _ .slnil)))))) rfl rfl ?_
          intro a fr
          refine dr_take_y 29 rfl (by kernel_rfl) (by kernel_rfl) (by kernel_rfl) (fun _ _ _ h => h) fr (wanted_of fr rfl rfl rfl rfl) (st.sub (.cons_cons _ (.cons_cons _ (.cons_cons _ (.cons_cons _ (.cons_cons _ .slnil)))))) (fun w st => rn_pick_f (fr.ev rfl) (fr.ev rfl)) rfl rfl ?_
          intro a fr
          refine dr_take 30 rfl (by kernel_rfl) (by kernel_rfl) (by kernel_rfl) (fun _ _ _ h => h) fr rfl (st.sub (.cons_cons _ (.cons_cons _ (.cons_cons _ (.cons_cons _ (.cons_cons _ .slnil)))))) (fun w st => rn_pick_f (fr.ev rfl) (fr.ev rfl)) rfl rfl ?_
          intro a fr
          refine dr_done (by kernel_rfl) ?_
          refine then_n ?_
          refine cond_f fr rfl rfl ?_
          refine wp_skip ?_
          refine blk_n ?_
          refine then_n ?_
          refine reg ?_
          refine lst rfl (ow_v fr (rn_add (a := (k : Nat)) (b := 1) (c := ((k + 1 : Nat) : Int)) (fr.ev rfl) (fr.ev rfl) (wr_i64e (by omega) (by omega) (by omega))) rfl rfl ?_)
          intro a fr
          refine lst rfl (ow_v fr (rn_move (fr.ev rfl)) rfl rfl ?_)
          intro a fr
          refine wpList_nil ?_
          rw [nxL_n hnx] at st
          rw [nxL_n hnx] at fr
          refine then_n ⟨l.length - (k + 1), ?_, k + 1, A, c, (by omega), rfl, fr.prune ⟨rfl, rfl, rfl, rfl, rfl, rfl, trivial⟩, st.sub (.cons _ (.cons _ (.cons_cons _ (.cons_cons _ (.cons_cons _ .slnil)))))⟩
          omega
      · replace e2 := Bool.eq_false_iff.2 e2
        have e1b : (k == i + 1) = true := by simp [e1]
        replace hnx : nx l i k = true := by rw [hnx]; simp [e1b, e2]
        refine dr_start (by kernel_rfl) st (.cons_cons _ (.cons_cons _ (.cons_cons _ (.cons_cons _ (.cons_cons _ .slnil))))) ?_
        intro w st
        refine dr_take 0 rfl (by kernel_rfl) (by kernel_rfl) (by kernel_rfl) (fun _ _ _ h => h) fr rfl (st.sub (.cons_cons _ (.cons_cons _ (.cons_cons _ (.cons_cons _ (.cons_cons _ .slnil)))))) (fun w st => rn_move (fr.ev rfl)) rfl rfl ?_
        intro a fr
        refine dr_take 1 rfl (by kernel_rfl) (by kernel_rfl) (by kernel_rfl) (fun _ _ _ h => h) fr rfl (st.sub (.cons_cons _ (.cons_cons _ (.cons_cons _ (.cons_cons _ (.cons_cons _ .slnil)))))) (fun w st => rn_move (fr.ev rfl)) rfl rfl ?_
        intro a fr
        refine dr_take 2 rfl (by kernel_rfl) (by kernel_rfl) (by kernel_rfl) (fun _ _ _ h => h) fr rfl (st.sub (.cons_cons _ (.cons_cons _ (.cons_cons _ (.cons_cons _ (.cons_cons _ .slnil)))))) (fun w st => rn_add (a := (i : Nat)) (b := 1) (c := ((i + 1 : Nat) : Int)) (fr.ev rfl) (fr.ev rfl) (wr_i64e (by omega) (by omega) (by omega))) rfl rfl ?_
        intro a fr
        refine dr_take 3 rfl (by kernel_rfl) (by kernel_rfl) (by kernel_rfl) (fun _ _ _ h => h) fr rfl (st.sub (.cons_cons _ (.cons_cons _ (.cons_cons _ (.cons_cons _ (.cons_cons _ .slnil)))))) (fun w st => rn_as (v' := .bool true) (rn_eql (fr.ev rfl) (fr.ev rfl)) (congrArg Value.bool (by simp only [beq_iff_eq]; omega))) rfl rfl ?_
        intro a fr
        refine dr_take 4 rfl (by kernel_rfl) (by kernel_rfl) (by kernel_rfl) (fun _ _ _ h => h) fr rfl (st.sub (.cons_cons _ (.cons_cons _ (.cons_cons _ (.cons_cons _ (.cons_cons _ .slnil)))))) (fun w st => rn_move (fr.ev rfl)) rfl rfl ?_
        intro a fr
        refine dr_take_y 5 rfl (by kernel_rfl) (by kernel_rfl) (by kernel_rfl) (fun _ _ _ h => h) fr (wanted_of fr rfl rfl rfl rfl) (st.sub (.cons_cons _ (.cons_cons _ (.cons_cons _ (.cons_cons _ (.cons_cons _ .slnil)))))) (fun w st => rn_move (fr.ev rfl)) rfl rfl ?_
        intro a fr
        refine dr_take_y 6 rfl (by kernel_rfl) (by kernel_rfl) (by kernel_rfl) (fun _ _ _ h => h) fr (wanted_of fr rfl rfl rfl rfl) (st.sub (.cons_cons _ (.cons_cons _ (.cons_cons _ (.cons_cons _ (.cons_cons _ .slnil)))))) (fun w st => rn_move (fr.ev rfl)) rfl rfl ?_
        intro a fr
        refine dr_take_y 7 rfl (by kernel_rfl) (by kernel_rfl) (by kernel_rfl) (fun _ _ _ h => h) fr (wanted_of fr rfl rfl rfl rfl) (st.sub (.cons_cons _ (.cons_cons _ (.cons_cons _ (.cons_cons _ (.cons_cons _ .slnil)))))) (fun w st => rn_at (i := i) (fr.ev rfl) (fr.ev rfl) Try.underlying24 sz_29 (by omega) (by rfl)) rfl rfl ?_
        intro a fr
        refine dr_take_y 8 rfl (by kernel_rfl) (by kernel_rfl) (by kernel_rfl) (fun _ _ _ h => h) fr (wanted_of fr rfl rfl rfl rfl) (st.sub (.cons_cons _ (.cons_cons _ (.cons_cons _ (.cons_cons _ (.cons_cons _ .slnil)))))) (fun w st => fa_29_1 (fr.ev rfl)) rfl rfl ?_
        intro a fr
        refine dr_take_y 9 rfl (by kernel_rfl) (by kernel_rfl) (by kernel_rfl) (fun _ _ _ h => h) fr (wanted_of fr rfl rfl rfl rfl) (st.sub (.cons_cons _ (.cons_cons _ (.cons_cons _ (.cons_cons _ (.cons_cons _ .slnil)))))) (fun w st => rn_load (fr.ev rfl) Try.underlying3 rfl (st.rocell 3 rfl (j := 1) rfl)) rfl rfl ?_
        intro a fr
        refine dr_one_y 10 (by kernel_rfl) rfl (wanted_of fr rfl rfl rfl rfl) (ow_call fr rfl rfl Try.call27 (ends_is y1 false e2 _) rfl rfl ?_)
        rintro e w ⟨rfl, hag⟩
        refine ⟨_, rfl, ?_⟩
        intro a fr
        have st := st.keep hag
        clear hag
        refine ⟨st.sub (.cons_cons _ (.cons_cons _ (.cons_cons _ (.cons_cons _ (.cons_cons _ .slnil))))), ?_⟩
        refine dr_take_y 11 rfl (by kernel_rfl) (by kernel_rfl) (by kernel_rfl) (fun _ _ _ h => h) fr (wanted_of fr rfl rfl rfl rfl) (st.sub (.cons_cons _ (.cons_cons _ (.cons_cons _ (.cons_cons _ (.cons_cons _ .slnil)))))) (fun w st => rn_not (fr.ev rfl)) rfl rfl ?_
        intro a fr
        refine dr_take 12 rfl (by kernel_rfl) (by kernel_rfl) (by kernel_rfl) (fun _ _ _ h => h) fr rfl (st.sub (.cons_cons _ (.cons_cons _ (.cons_cons _ (.cons_cons _ (.cons_cons _ .slnil)))))) (fun w st => rn_pick_t (fr.ev rfl) (fr.ev rfl)) rfl rfl ?_
        intro a fr
        refine dr_take 13 rfl (by kernel_rfl) (by kernel_rfl) (by kernel_rfl) (fun _ _ _ h => h) fr rfl (st.sub (.cons_cons _ (.cons_cons _ (.cons_cons _ (.cons_cons _ (.cons_cons _ .slnil)))))) (fun w st => rn_move (fr.ev rfl)) rfl rfl ?_
        intro a fr
        refine dr_take_n 14 rfl (by kernel_rfl) (by kernel_rfl) (by kernel_rfl) (fun _ _ _ h => h) fr (unwanted_of fr rfl rfl rfl rfl) (st.sub (.cons_cons _ (.cons_cons _ (.cons_cons _ (.cons_cons _ (.cons_cons _ .slnil)))))) rfl rfl ?_
        intro a fr
        refine dr_take_n 15 rfl (by kernel_rfl) (by kernel_rfl) (by kernel_rfl) (fun _ _ _ h => h) fr (unwanted_of fr rfl rfl rfl rfl) (st.sub (.cons_cons _ (.cons_cons _ (.cons_cons _ (.cons_cons _ (.cons_cons _ .slnil)))))) rfl rfl ?_
        intro a fr
        refine dr_take_n 16 rfl (by kernel_rfl) (by kernel_rfl) (by kernel_rfl) (fun _ _ _ h => h) fr (unwanted_of fr rfl rfl rfl rfl) (st.sub (.cons_cons _ (.cons_cons _ (.cons_cons _ (.cons_cons _ (.cons_cons _ .slnil)))))) rfl rfl ?_
        intro a fr
        refine dr_take_n 17 rfl (by kernel_rfl) (by kernel_rfl) (by kernel_rfl) (fun _ _ _ h => h) fr (unwanted_of fr rfl rfl rfl rfl) (st.sub (.cons_cons _ (.cons_cons _ (.cons_cons _ (.cons_cons _ (.cons_cons _ .slnil)))))) rfl rfl ?_
        intro a fr
        refine dr_take_n 18 rfl (by kernel_rfl) (by kernel_rfl) (by kernel_rfl) (fun _ _ _ h => h) fr (unwanted_of fr rfl rfl rfl rfl) (st.sub (.cons_cons _ (.cons_cons _ (.cons_cons _ (.cons_cons _ (.cons_cons _ .slnil)))))) rfl rfl ?_
        intro a fr
        refine dr_one_n 19 (by kernel_rfl) rfl (unwanted_of fr rfl rfl rfl rfl) fr rfl rfl (st.sub (.cons_cons _ (.cons_cons _ (.cons_cons _ (.cons_cons _ (.cons_cons _ .slnil)))))) ?_
        intro a fr
        refine dr_take_n 20 rfl (by kernel_rfl) (by kernel_rfl) (by kernel_rfl) (fun _ _ _ h => h) fr (unwanted_of fr rfl rfl rfl rfl) (st.sub (.cons_cons _ (.cons_cons _ (.cons_cons _ (.cons_cons _ (.cons_cons _ .slnil)))))) rfl rfl ?_
        intro a fr
        refine dr_take_n 21 rfl (by kernel_rfl) (by kernel_rfl) (by kernel_rfl) (fun _ _ _ h => h) fr (unwanted_u fr rfl rfl rfl) (st.sub (.cons_cons _ (.cons_cons _ (.cons_cons _ (.cons_cons _ (.cons_cons _ .slnil)))))) rfl rfl ?_
        intro a fr
        refine dr_take_n 22 rfl (by kernel_rfl) (by kernel_rfl) (by kernel_rfl) (fun _ _ _ h => h) fr (unwanted_u fr rfl rfl rfl) (st.sub (.cons_cons _ (.cons_cons _ (.cons_cons _ (.cons_cons _ (.cons_cons _ .slnil)))))) rfl rfl ?_
        intro a fr
        refine dr_take_n 23 rfl (by kernel_rfl) (by kernel_rfl) (by kernel_rfl) (fun _ _ _ h => h) fr (unwanted_u fr rfl rfl rfl) (st.sub (.cons_cons _ (.cons_cons _ (.cons_cons _ (.cons_cons _ (.cons_cons _ .slnil)))))) rfl rfl ?_
        intro a fr
        refine dr_take_n 24 rfl (by kernel_rfl) (by kernel_rfl) (by kernel_rfl) (fun _ _ _ h => h) fr (unwanted_u fr rfl rfl rfl) (st.sub (.cons_cons _ (.cons_cons _ (.cons_cons _ (.cons_cons _ (.cons_cons _ .slnil)))))) rfl rfl ?_
        intro a fr
        refine dr_take_n 25 rfl (by kernel_rfl) (by kernel_rfl) (by kernel_rfl) (fun _ _ _ h => h) fr (unwanted_u fr rfl rfl rfl) (st.sub (.cons_cons _ (.cons_cons _ (.cons_cons _ (.cons_cons _ (.cons_cons _ .slnil)))))) rfl rfl ?_
        intro a fr
        refine dr_take_n 26 rfl (by kernel_rfl) (by kernel_rfl) (by kernel_rfl) (fun _ _ _ h => h) fr (unwanted_u fr rfl rfl rfl) (st.sub (.cons_cons _ (.cons_cons _ (.cons_cons _ (.cons_cons _ (.cons_cons _ .slnil)))))) rfl rfl ?_
        intro a fr
        refine dr_take_n 27 rfl (by kernel_rfl) (by kernel_rfl) (by kernel_rfl) (fun _ _ _ h => h) fr (unwanted_u fr rfl rfl rfl) (st.sub (.cons_cons _ (.cons_cons _ (.cons_cons _ (.cons_cons _ (.cons_cons _ .slnil)))))) rfl rfl ?_
        intro a fr
        refine dr_take_n 28 rfl (by kernel_rfl) (by kernel_rfl) (by kernel_rfl) (fun _ _ _ h => h) fr (unwanted_u fr rfl rfl rfl) (st.sub (.cons_cons _ (.cons_cons _ (.cons_cons _ (.cons_cons _ (.cons_cons _ .slnil)))))) rfl rfl ?_
        intro a fr
        refine dr_take_n 29 rfl (by kernel_rfl) (by kernel_rfl) (by kernel_rfl) (fun _ _ _ h => h) fr (unwanted_of fr rfl rfl rfl rfl) (st.sub (.cons_cons _ (.cons_cons _ (.cons_cons _ (.cons_cons _ (.cons_cons _ .slnil)))))) rfl rfl ?_
        intro a fr
        refine dr_take 30 rfl (by kernel_rfl) (by kernel_rfl) (by kernel_rfl) (fun _ _ _ h => h) fr rfl (st.sub (.cons_cons _ (.cons_cons _ (.cons_cons _ (.cons_cons _ (.cons_cons _ .slnil)))))) (fun w st => rn_pick_t (fr.ev rfl) (fr.ev rfl)) rfl rfl ?_
        intro a fr
        refine dr_done (by kernel_rfl) ?_
        refine then_n ?_
        refine cond_t fr rfl rfl ?_
        refine reg ?_
        refine lst rfl (ow_v fr (rn_move (fr.ev rfl)) rfl rfl ?_)
        intro a fr
        refine lst rfl (ow_v fr (rn_move (fr.ev rfl)) rfl rfl ?_)
        intro a fr
        refine lst rfl (ow_bslice (E := 3) fr st rfl [.int .i64 ((k : Nat))] (fun w => by simp only [List.map_toArray, List.map_cons, List.map_nil]; rw [fr.ev (x := .tmp 55) rfl]; kernel_rfl) rfl rfl ?_)
        intro a w b7 fr st
        refine lst rfl (ow_append1 fr st 3 0 ((((k : Nat)) : Int)) rfl rfl rfl rfl rfl Try.underlying46 inf_3 (by rfl) (by decide) (fun _ => rfl) rfl (by (have := nxL_len l i k; omega)) (by unfold maxLen; (have := nxL_len l i k; omega)) (Nat.le_refl _) st.agr.size rfl rfl ?_)
        intro a w Ax8 cx9 fr (st : St _ [] w [.blk b7 [.int .i64 ((k : Nat))] 3, .blk b3 [.int .i64 (x0), .int .i64 (x1), .int .i64 (x2), .int .i64 (x3)] 29, ro b1 (o2 + k * 4) [.int .i64 (x0), .int .i64 (x1), .int .i64 (x2), .int .i64 (x3)], row CI 1 3 w0.heap.size (.slice Ax8 (((nxL l i k) ++ [(((k : Nat)) : Int)]).length) cx9) (((nxL l i k) ++ [(((k : Nat)) : Int)])), ro b1 (o2 + i * 4) [.int .i64 (y0), .int .i64 (y1), .int .i64 (y2), .int .i64 (y3)], els insC 4 (some ⟨b1, o2, none⟩) l])
        refine lst rfl (ow_v fr (rn_assign (fr.ev rfl)) rfl rfl ?_)
        intro a fr
        refine wpList_nil ?_
        refine blk_n ?_
        refine then_n ?_
        refine reg ?_
        refine lst rfl (ow_v fr (rn_add (a := (k : Nat)) (b := 1) (c := ((k + 1 : Nat) : Int)) (fr.ev rfl) (fr.ev rfl) (wr_i64e (by omega) (by omega) (by omega))) rfl rfl ?_)
        intro a fr
        refine lst rfl (ow_v fr (rn_move (fr.ev rfl)) rfl rfl ?_)
        intro a fr
        refine wpList_nil ?_
        rw [nxL_y hnx] at st
        rw [nxL_y hnx] at fr
        refine then_n ⟨l.length - (k + 1), ?_, k + 1, Ax8, cx9, (by omega), rfl, fr.prune ⟨rfl, rfl, rfl, rfl, rfl, rfl, trivial⟩, st.sub (.cons _ (.cons _ (.cons _ (.cons_cons _ (.cons_cons _ (.cons_cons _ .slnil))))))⟩
        omega
    · by_cases e3 : jmp y1 = true
      · by_cases e4 : x0 = y2
        · have e1b : (k == i + 1) = false := by simp [e1]
          replace hnx : nx l i k = true := by rw [hnx]; simp [e1b, e3, e4]
          refine dr_start (by kernel_rfl) st (.cons_cons _ (.cons_cons _ (.cons_cons _ (.cons_cons _ (.cons_cons _ .slnil))))) ?_
          intro w st
          refine dr_take 0 rfl (by kernel_rfl) (by kernel_rfl) (by kernel_rfl) (fun _ _ _ h => h) fr rfl (st.sub (.cons_cons _ (.cons_cons _ (.cons_cons _ (.cons_cons _ (.cons_cons _ .slnil)))))) (fun w st => rn_move (fr.ev rfl)) rfl rfl ?_
          intro a fr
          refine dr_take 1 rfl (by kernel_rfl) (by kernel_rfl) (by kernel_rfl) (fun _ _ _ h => h) fr rfl (st.sub (.cons_cons _ (.cons_cons _ (.cons_cons _ (.cons_cons _ (.cons_cons _ .slnil)))))) (fun w st => rn_move (fr.ev rfl)) rfl rfl ?_
          intro a fr
          refine dr_take 2 rfl (by kernel_rfl) (by kernel_rfl) (by kernel_rfl) (fun _ _ _ h => h) fr rfl (st.sub (.cons_cons _ (.cons_cons _ (.cons_cons _ (.cons_cons _ (.cons_cons _ .slnil)))))) (fun w st => rn_add (a := (i : Nat)) (b := 1) (c := ((i + 1 : Nat) : Int)) (fr.ev rfl) (fr.ev rfl) (wr_i64e (by omega) (by omega) (by omega))) rfl rfl ?_
          intro a fr
          refine dr_take 3 rfl (by kernel_rfl) (by kernel_rfl) (by kernel_rfl) (fun _ _ _ h => h) fr rfl (st.sub (.cons_cons _ (.cons_cons _ (.cons_cons _ (.cons_cons _ (.cons_cons _ .slnil)))))) (fun w st => rn_as (v' := .bool false) (rn_eql (fr.ev rfl) (fr.ev rfl)) (congrArg Value.bool (by simp only [beq_eq_false_iff_ne, ne_eq]; omega))) rfl rfl ?_
          intro a fr
          refine dr_take 4 rfl (by kernel_rfl) (by kernel_rfl) (by kernel_rfl) (fun _ _ _ h => h) fr rfl (st.sub (.cons_cons _ (.cons_cons _ (.cons_cons _ (.cons_cons _ (.cons_cons _ .slnil)))))) (fun w st => rn_move (fr.ev rfl)) rfl rfl ?_
          intro a fr
          refine dr_take_n 5 rfl (by kernel_rfl) (by kernel_rfl) (by kernel_rfl) (fun _ _ _ h => h) fr (unwanted_of fr rfl rfl rfl rfl) (st.sub (.cons_cons _ (.cons_cons _ (.cons_cons _ (.cons_cons _ (.cons_cons _ .slnil)))))) rfl rfl ?_
          intro a fr
          refine dr_take_n 6 rfl (by kernel_rfl) (by kernel_rfl) (by kernel_rfl) (fun _ _ _ h => h) fr (unwanted_of fr rfl rfl rfl rfl) (st.sub (.cons_cons _ (.cons_cons _ (.cons_cons _ (.cons_cons _ (.cons_cons _ .slnil)))))) rfl rfl ?_
          intro a fr
          refine dr_take_n 7 rfl (by kernel_rfl) (by kernel_rfl) (by kernel_rfl) (fun _ _ _ h => h) fr (unwanted_of fr rfl rfl rfl rfl) (st.sub (.cons_cons _ (.cons_cons _ (.cons_cons _ (.cons_cons _ (.cons_cons _ .slnil)))))) rfl rfl ?_
          intro a fr
          refine dr_take_n 8 rfl (by kernel_rfl) (by kernel_rfl) (by kernel_rfl) (fun _ _ _ h => h) fr (unwanted_of fr rfl rfl rfl rfl) (st.sub (.cons_cons _ (.cons_cons _ (.cons_cons _ (.cons_cons _ (.cons_cons _ .slnil)))))) rfl rfl ?_
          intro a fr
          refine dr_take_n 9 rfl (by kernel_rfl) (by kernel_rfl) (by kernel_rfl) (fun _ _ _ h => h) fr (unwanted_of fr rfl rfl rfl rfl) (st.sub (.cons_cons _ (.cons_cons _ (.cons_cons _ (.cons_cons _ (.cons_cons _ .slnil)))))) rfl rfl ?_
          intro a fr
          refine dr_one_n 10 (by kernel_rfl) rfl (unwanted_of fr rfl rfl rfl rfl) fr rfl rfl (st.sub (.cons_cons _ (.cons_cons _ (.cons_cons _ (.cons_cons _ (.cons_cons _ .slnil)))))) ?_
          intro a fr
          refine dr_take_n 11 rfl (by kernel_rfl) (by kernel_rfl) (by kernel_rfl) (fun _ _ _ h => h) fr (unwanted_of fr rfl rfl rfl rfl) (st.sub (.cons_cons _ (.cons_cons _ (.cons_cons _ (.cons_cons _ (.cons_cons _ .slnil)))))) rfl rfl ?_
          intro a fr
          refine dr_take 12 rfl (by kernel_rfl) (by kernel_rfl) (by kernel_rfl) (fun _ _ _ h => h) fr rfl (st.sub (.cons_cons _ (.cons_cons _ (.cons_cons _ (.cons_cons _ (.cons_cons _ .slnil)))))) (fun w st => rn_pick_f (fr.ev rfl) (fr.ev rfl)) rfl rfl ?_
          intro a fr
          refine dr_take 13 rfl (by kernel_rfl) (by kernel_rfl) (by kernel_rfl) (fun _ _ _ h => h) fr rfl (st.sub (.cons_cons _ (.cons_cons _ (.cons_cons _ (.cons_cons _ (.cons_cons _ .slnil)))))) (fun w st => rn_move (fr.ev rfl)) rfl rfl ?_
          intro a fr
          refine dr_take_y 14 rfl (by kernel_rfl) (by kernel_rfl) (by kernel_rfl) (fun _ _ _ h => h) fr (wanted_of fr rfl rfl rfl rfl) (st.sub (.cons_cons _ (.cons_cons _ (.cons_cons _ (.cons_cons _ (.cons_cons _ .slnil)))))) (fun w st => rn_move (fr.ev rfl)) rfl rfl ?_
          intro a fr
          refine dr_take_y 15 rfl (by kernel_rfl) (by kernel_rfl) (by kernel_rfl) (fun _ _ _ h => h) fr (wanted_of fr rfl rfl rfl rfl) (st.sub (.cons_cons _ (.cons_cons _ (.cons_cons _ (.cons_cons _ (.cons_cons _ .slnil)))))) (fun w st => rn_move (fr.ev rfl)) rfl rfl ?_
          intro a fr
          refine dr_take_y 16 rfl (by kernel_rfl) (by kernel_rfl) (by kernel_rfl) (fun _ _ _ h => h) fr (wanted_of fr rfl rfl rfl rfl) (st.sub (.cons_cons _ (.cons_cons _ (.cons_cons _ (.cons_cons _ (.cons_cons _ .slnil)))))) (fun w st => rn_at (i := i) (fr.ev rfl) (fr.ev rfl) Try.underlying24 sz_29 (by omega) (by rfl)) rfl rfl ?_
          intro a fr
          refine dr_take_y 17 rfl (by kernel_rfl) (by kernel_rfl) (by kernel_rfl) (fun _ _ _ h => h) fr (wanted_of fr rfl rfl rfl rfl) (st.sub (.cons_cons _ (.cons_cons _ (.cons_cons _ (.cons_cons _ (.cons_cons _ .slnil)))))) (fun w st => fa_29_1 (fr.ev rfl)) rfl rfl ?_
          intro a fr
          refine dr_take_y 18 rfl (by kernel_rfl) (by kernel_rfl) (by kernel_rfl) (fun _ _ _ h => h) fr (wanted_of fr rfl rfl rfl rfl) (st.sub (.cons_cons _ (.cons_cons _ (.cons_cons _ (.cons_cons _ (.cons_cons _ .slnil)))))) (fun w st => rn_load (fr.ev rfl) Try.underlying3 rfl (st.rocell 3 rfl (j := 1) rfl)) rfl rfl ?_
          intro a fr
          refine dr_one_y 19 (by kernel_rfl) rfl (wanted_of fr rfl rfl rfl rfl) (ow_call fr rfl rfl Try.call41 (jumps_is y1 true e3 _) rfl rfl ?_)
          rintro e w ⟨rfl, hag⟩
          refine ⟨_, rfl, ?_⟩
          intro a fr
          have st := st.keep hag
          clear hag
          refine ⟨st.sub (.cons_cons _ (.cons_cons _ (.cons_cons _ (.cons_cons _ (.cons_cons _ .slnil))))), ?_⟩
          refine dr_take_y 20 rfl (by kernel_rfl) (by kernel_rfl) (by kernel_rfl) (fun _ _ _ h => h) fr (wanted_of fr rfl rfl rfl rfl) (st.sub (.cons_cons _ (.cons_cons _ (.cons_cons _ (.cons_cons _ (.cons_cons _ .slnil)))))) (fun w st => rn_move (fr.ev rfl)) rfl rfl ?_
          intro a fr
          refine dr_take_y 21 rfl (by kernel_rfl) (by kernel_rfl) (by kernel_rfl) (fun _ _ _ h => h) fr (wanted_of fr rfl rfl rfl rfl) (st.sub (.cons_cons _ (.cons_cons _ (.cons_cons _ (.cons_cons _ (.cons_cons _ .slnil)))))) (fun w st => fa_29_0 (fr.ev rfl)) rfl rfl ?_
          intro a fr
          refine dr_take_y 22 rfl (by kernel_rfl) (by kernel_rfl) (by kernel_rfl) (fun _ _ _ h => h) fr (wanted_of fr rfl rfl rfl rfl) (st.sub (.cons_cons _ (.cons_cons _ (.cons_cons _ (.cons_cons _ (.cons_cons _ .slnil)))))) (fun w st => rn_load (fr.ev rfl) Try.underlying3 rfl (st.cell 0 rfl rfl)) rfl rfl ?_
          intro a fr
          refine dr_take_y 23 rfl (by kernel_rfl) (by kernel_rfl) (by kernel_rfl) (fun _ _ _ h => h) fr (wanted_of fr rfl rfl rfl rfl) (st.sub (.cons_cons _ (.cons_cons _ (.cons_cons _ (.cons_cons _ (.cons_cons _ .slnil)))))) (fun w st => rn_move (fr.ev rfl)) rfl rfl ?_
          intro a fr
          refine dr_take_y 24 rfl (by kernel_rfl) (by kernel_rfl) (by kernel_rfl) (fun _ _ _ h => h) fr (wanted_of fr rfl rfl rfl rfl) (st.sub (.cons_cons _ (.cons_cons _ (.cons_cons _ (.cons_cons _ (.cons_cons _ .slnil)))))) (fun w st => rn_move (fr.ev rfl)) rfl rfl ?_
          intro a fr
          refine dr_take_y 25 rfl (by kernel_rfl) (by kernel_rfl) (by kernel_rfl) (fun _ _ _ h => h) fr (wanted_of fr rfl rfl rfl rfl) (st.sub (.cons_cons _ (.cons_cons _ (.cons_cons _ (.cons_cons _ (.cons_cons _ .slnil)))))) (fun w st => rn_at (i := i) (fr.ev rfl) (fr.ev rfl) Try.underlying24 sz_29 (by omega) (by rfl)) rfl rfl ?_
          intro a fr
          refine dr_take_y 26 rfl (by kernel_rfl) (by kernel_rfl) (by kernel_rfl) (fun _ _ _ h => h) fr (wanted_of fr rfl rfl rfl rfl) (st.sub (.cons_cons _ (.cons_cons _ (.cons_cons _ (.cons_cons _ (.cons_cons _ .slnil)))))) (fun w st => fa_29_2 (fr.ev rfl)) rfl rfl ?_
          intro a fr
          refine dr_take_y 27 rfl (by kernel_rfl) (by kernel_rfl) (by kernel_rfl) (fun _ _ _ h => h) fr (wanted_of fr rfl rfl rfl rfl) (st.sub (.cons_cons _ (.cons_cons _ (.cons_cons _ (.cons_cons _ (.cons_cons _ .slnil)))))) (fun w st => rn_load (fr.ev rfl) Try.underlying3 rfl (st.rocell 3 rfl (j := 2) rfl)) rfl rfl ?_
          intro a fr
          refine dr_take_y 28 rfl (by kernel_rfl) (by kernel_rfl) (by kernel_rfl) (fun _ _ _ h => h) fr (wanted_of fr rfl rfl rfl rfl) (st.sub (.cons_cons _ (.cons_cons _ (.cons_cons _ (.cons_cons _ (.cons_cons _ .slnil)))))) (fun w st => rn_as (v' := .bool true) (rn_eql (fr.ev rfl) (fr.ev rfl)) (congrArg Value.bool (by simp [e4]))) rfl rfl ?_
          intro a fr
          refine dr_take_y 29 rfl (by kernel_rfl) (by kernel_rfl) (by kernel_rfl) (fun _ _ _ h => h) fr (wanted_of fr rfl rfl rfl rfl) (st.sub (.cons_cons _ (.cons_cons _ (.cons_cons _ (.cons_cons _ (.cons_cons _ .slnil)))))) (fun w st => rn_pick_t (fr.ev rfl) (fr.ev rfl)) rfl rfl ?_
          intro a fr
          refine dr_take 30 rfl (by kernel_rfl) (by kernel_rfl) (by kernel_rfl) (fun _ _ _ h => h) fr rfl (st.sub (.cons_cons _ (.cons_cons _ (.cons_cons _ (.cons_cons _ (.cons_cons _ .slnil)))))) (fun w st => rn_pick_f (fr.ev rfl) (fr.ev rfl)) rfl rfl ?_
          intro a fr
          refine dr_done (by kernel_rfl) ?_
          refine then_n ?_
          refine cond_t fr rfl rfl ?_
          refine reg ?_
          refine lst rfl (ow_v fr (rn_move (fr.ev rfl)) rfl rfl ?_)
          intro a fr
          refine lst rfl (ow_v fr (rn_move (fr.ev rfl)) rfl rfl ?_)
          intro a fr
          refine lst rfl (ow_bslice (E := 3) fr st rfl [.int .i64 ((k : Nat))] (fun w => by simp only [List.map_toArray, List.map_cons, List.map_nil]; rw [fr.ev (x := .tmp 55) rfl]; kernel_rfl) rfl rfl ?_)
          intro a w b10 fr st
          refine lst rfl (ow_append1 fr st 3 0 ((((k : Nat)) : Int)) rfl rfl rfl rfl rfl Try.underlying46 inf_3 (by rfl) (by decide) (fun _ => rfl) rfl (by (have := nxL_len l i k; omega)) (by unfold maxLen; (have := nxL_len l i k; omega)) (Nat.le_refl _) st.agr.size rfl rfl ?_)
          intro a w Ax11 cx12 fr (st : St _ [] w [.blk b10 [.int .i64 ((k : Nat))] 3, .blk b3 [.int .i64 (x0), .int .i64 (x1), .int .i64 (x2), .int .i64 (x3)] 29, ro b1 (o2 + k * 4) [.int .i64 (x0), .int .i64 (x1), .int .i64 (x2), .int .i64 (x3)], row CI 1 3 w0.heap.size (.slice Ax11 (((nxL l i k) ++ [(((k : Nat)) : Int)]).length) cx12) (((nxL l i k) ++ [(((k : Nat)) : Int)])), ro b1 (o2 + i * 4) [.int .i64 (y0), .int .i64 (y1), .int .i64 (y2), .int .i64 (y3)], els insC 4 (some ⟨b1, o2, none⟩) l])
          refine lst rfl (ow_v fr (rn_assign (fr.ev rfl)) rfl rfl ?_)
          intro a fr
          refine wpList_nil ?_
          refine blk_n ?_
          refine then_n ?_
          refine reg ?_
          refine lst rfl (ow_v fr (rn_add (a := (k : Nat)) (b := 1) (c := ((k + 1 : Nat) : Int)) (fr.ev rfl) (fr.ev rfl) (wr_i64e (by omega) (by omega) (by omega))) rfl rfl ?_)
          intro a fr
          refine lst rfl (ow_v fr (rn_move (fr.ev rfl)) rfl rfl ?_)
          intro a fr
          refine wpList_nil ?_
          rw [nxL_y hnx] at st
          rw [nxL_y hnx] at fr
          refine then_n ⟨l.length - (k + 1), ?_, k + 1, Ax11, cx12, (by omega), rfl, fr.prune ⟨rfl, rfl, rfl, rfl, rfl, rfl, trivial⟩, st.sub (.cons _ (.cons _ (.cons _ (.cons_cons _ (.cons_cons _ (.cons_cons _ .slnil))))))⟩
          omega
        · have e1b : (k == i + 1) = false := by simp [e1]
          replace hnx : nx l i k = false := by rw [hnx]; simp [e1b, e3, e4]
          refine dr_start (by kernel_rfl) st (.cons_cons _ (.cons_cons _ (.cons_cons _ (.cons_cons _ (.cons_cons _ .slnil))))) ?_
          intro w st
          refine dr_take 0 rfl (by kernel_rfl) (by kernel_rfl) (by kernel_rfl) (fun _ _ _ h => h) fr rfl (st.sub (.cons_cons _ (.cons_cons _ (.cons_cons _ (.cons_cons _ (.cons_cons _ .slnil)))))) (fun w st => rn_move (fr.ev rfl)) rfl rfl ?_
          intro a fr
          refine dr_take 1 rfl (by kernel_rfl) (by kernel_rfl) (by kernel_rfl) (fun _ _ _ h => h) fr rfl (st.sub (.cons_cons _ (.cons_cons _ (.cons_cons _ (.cons_cons _ (.cons_cons _ .slnil)))))) (fun w st => rn_move (fr.ev rfl)) rfl rfl ?_
          intro a fr
          refine dr_take 2 rfl (by kernel_rfl) (by kernel_rfl) (by kernel_rfl) (fun _ _ _ h => h) fr rfl (st.sub (.cons_cons _ (.cons_cons _ (.cons_cons _ (.cons_cons _ (.cons_cons _ .slnil)))))) (fun w st => rn_add (a := (i : Nat)) (b := 1) (c := ((i + 1 : Nat) : Int)) (fr.ev rfl) (fr.ev rfl) (wr_i64e (by omega) (by omega) (by omega))) rfl rfl ?_
          intro a fr
          refine dr_take 3 rfl (by kernel_rfl) (by kernel_rfl) (by kernel_rfl) (fun _ _ _ h => h) fr rfl (st.sub (.cons_cons _ (.cons_cons _ (.cons_cons _ (.cons_cons _ (.cons_cons _ .slnil)))))) (fun w st => rn_as (v' := .bool false) (rn_eql (fr.ev rfl) (fr.ev rfl)) (congrArg Value.bool (by simp only [beq_eq_false_iff_ne, ne_eq]; omega))) rfl rfl ?_
          intro a fr
          refine dr_take 4 rfl (by kernel_rfl) (by kernel_rfl) (by kernel_rfl) (fun _ _ _ h => h) fr rfl (st.sub (.cons_cons _ (.cons_cons _ (.cons_cons _ (.cons_cons _ (.cons_cons _ .slnil)))))) (fun w st => rn_move (fr.ev rfl)) rfl rfl ?_
          intro a fr
          refine dr_take_n 5 rfl (by kernel_rfl) (by kernel_rfl) (by kernel_rfl) (fun _ _ _ h => h) fr (unwanted_of fr rfl rfl rfl rfl) (st.sub (.cons_cons _ (.cons_cons _ (.cons_cons _ (.cons_cons _ (.cons_cons _ .slnil)))))) rfl rfl ?_
          intro a fr
          refine dr_take_n 6 rfl (by kernel_rfl) (by kernel_rfl) (by kernel_rfl) (fun _ _ _ h => h) fr (unwanted_of fr rfl rfl rfl rfl) (st.sub (.cons_cons _ (.cons_cons _ (.cons_cons _ (.cons_cons _ (.cons_cons _ .slnil)))))) rfl rfl ?_
          intro a fr
          refine dr_take_n 7 rfl (by kernel_rfl) (by kernel_rfl) (by kernel_rfl) (fun _ _ _ h => h) fr (unwanted_of fr rfl rfl rfl rfl) (st.sub (.cons_cons _ (.cons_cons _ (.cons_cons _ (.cons_cons _ (.cons_cons _ .slnil)))))) rfl rfl ?_
          intro a fr
          refine dr_take_n 8 rfl (by kernel_rfl) (by kernel_rfl) (by kernel_rfl) (fun _ _ _ h => h) fr (unwanted_of fr rfl rfl rfl rfl) (st.sub (.cons_cons _ (.cons_cons _ (.cons_cons _ (.cons_cons _ (.cons_cons _ .slnil)))))) rfl rfl ?_
          intro a fr
          refine dr_take_n 9 rfl (by kernel_rfl) (by kernel_rfl) (by kernel_rfl) (fun _ _ _ h => h) fr (unwanted_of fr rfl rfl rfl rfl) (st.sub (.cons_cons _ (.cons_cons _ (.cons_cons _ (.cons_cons _ (.cons_cons _ .slnil)))))) rfl rfl ?_
          intro a fr
          refine dr_one_n 10 (by kernel_rfl) rfl (unwanted_of fr rfl rfl rfl rfl) fr rfl rfl (st.sub (.cons_cons _ (.cons_cons _ (.cons_cons _ (.cons_cons _ (.cons_cons _ .slnil)))))) ?_
          intro a fr
          refine dr_take_n 11 rfl (by kernel_rfl) (by kernel_rfl) (by kernel_rfl) (fun _ _ _ h => h) fr (unwanted_of fr rfl rfl rfl rfl) (st.sub (.cons_cons _ (.cons_cons _ (.cons_cons _ (.cons_cons _ (.cons_cons _ .slnil)))))) rfl rfl ?_
          intro a fr
          refine dr_take 12 rfl (by kernel_rfl) (by kernel_rfl) (by kernel_rfl) (fun _ _ _ h => h) fr rfl (st.sub (.cons_cons _ (.cons_cons _ (.cons_cons _ (.cons_cons _ (.cons_cons _ .slnil)))))) (fun w st => rn_pick_f (fr.ev rfl) (fr.ev rfl)) rfl rfl ?_
          intro a fr
          refine dr_take 13 rfl (by kernel_rfl) (by kernel_rfl) (by kernel_rfl) (fun _ _ _ h => h) fr rfl (st.sub (.cons_cons _ (.cons_cons _ (.cons_cons _ (.cons_cons _ (.cons_cons _ .slnil)))))) (fun w st => rn_move (fr.ev rfl)) rfl rfl ?_
          intro a fr
          refine dr_take_y 14 rfl (by kernel_rfl) (by kernel_rfl) (by kernel_rfl) (fun _ _ _ h => h) fr (wanted_of fr rfl rfl rfl rfl) (st.sub (.cons_cons _ (.cons_cons _ (.cons_cons _ (.cons_cons _ (.cons_cons _ .slnil)))))) (fun w st => rn_move (fr.ev rfl)) rfl rfl ?_
          intro a fr
          refine dr_take_y 15 rfl (by kernel_rfl) (by kernel_rfl) (by kernel_rfl) (fun _ _ _ h => h) fr (wanted_of fr rfl rfl rfl rfl) (st.sub (.cons_cons _ (.cons_cons _ (.cons_cons _ (.cons_cons _ (.cons_cons _ .slnil)))))) (fun w st => rn_move (fr.ev rfl)) rfl rfl ?_
          intro a fr
          refine dr_take_y 16 rfl (by kernel_rfl) (by kernel_rfl) (by kernel_rfl) (fun _ _ _ h => h) fr (wanted_of fr rfl rfl rfl rfl) (st.sub (.cons_cons _ (.cons_cons _ (.cons_cons _ (.cons_cons _ (.cons_cons _ .slnil)))))) (fun w st => rn_at (i := i) (fr.ev rfl) (fr.ev rfl) Try.underlying24 sz_29 (by omega) (by rfl)) rfl rfl ?_
          intro a fr
          refine dr_take_y 17 rfl (by kernel_rfl) (by kernel_rfl) (by kernel_rfl) (fun _ _ _ h => h) fr (wanted_of fr rfl rfl rfl rfl) (st.sub (.cons_cons _ (.cons_cons _ (.cons_cons _ (.cons_cons _ (.cons_cons _ .slnil)))))) (fun w st => fa_29_1 (fr.ev rfl)) rfl rfl ?_
          intro a fr
          refine dr_take_y 18 rfl (by kernel_rfl) (by kernel_rfl) (by kernel_rfl) (fun _ _ _ h => h) fr (wanted_of fr rfl rfl rfl rfl) (st.sub (.cons_cons _ (.cons_cons _ (.cons_cons _ (.cons_cons _ (.cons_cons _ .slnil)))))) (fun w st => rn_load (fr.ev rfl) Try.underlying3 rfl (st.rocell 3 rfl (j := 1) rfl)) rfl rfl ?_
          intro a fr
          refine dr_one_y 19 (by kernel_rfl) rfl (wanted_of fr rfl rfl rfl rfl) (ow_call fr rfl rfl Try.call41 (jumps_is y1 true e3 _) rfl rfl ?_)
          rintro e w ⟨rfl, hag⟩
          refine ⟨_, rfl, ?_⟩
          intro a fr
          have st := st.keep hag
          clear hag
          refine ⟨st.sub (.cons_cons _ (.cons_cons _ (.cons_cons _ (.cons_cons _ (.cons_cons _ .slnil))))), ?_⟩
          refine dr_take_y 20 rfl (by kernel_rfl) (by kernel_rfl) (by kernel_rfl) (fun _ _ _ h => h) fr (wanted_of fr rfl rfl rfl rfl) (st.sub (.cons_cons _ (.cons_cons _ (.cons_cons _ (.cons_cons _ (.cons_cons _ .slnil)))))) (fun w st => rn_move (fr.ev rfl)) rfl rfl ?_
          intro a fr
          refine dr_take_y 21 rfl (by kernel_rfl) (by kernel_rfl) (by kernel_rfl) (fun _ _ _ h => h) fr (wanted_of fr rfl rfl rfl rfl) (st.sub (.cons_cons _ (.cons_cons _ (.cons_cons _ (.cons_cons _ (.cons_cons _ .slnil)))))) (fun w st => fa_29_0 (fr.ev rfl)) rfl rfl ?_
          intro a fr
          refine dr_take_y 22 rfl (by kernel_rfl) (by kernel_rfl) (by kernel_rfl) (fun _ _ _ h => h) fr (wanted_of fr rfl rfl rfl rfl) (st.sub (.cons_cons _ (.cons_cons _ (.cons_cons _ (.cons_cons _ (.cons_cons _ .slnil)))))) (fun w st => rn_load (fr.ev rfl) Try.underlying3 rfl (st.cell 0 rfl rfl)) rfl rfl ?_
          intro a fr
          refine dr_take_y 23 rfl (by kernel_rfl) (by kernel_rfl) (by kernel_rfl) (fun _ _ _ h => h) fr (wanted_of fr rfl rfl rfl rfl) (st.sub (.cons_cons _ (.cons_cons _ (.cons_cons _ (.cons_cons _ (.cons_cons _ .slnil)))))) (fun w st => rn_move (fr.ev rfl)) rfl rfl ?_
          intro a fr
          refine dr_take_y 24 rfl (by kernel_rfl) (by kernel_rfl) (by kernel_rfl) (fun _ _ _ h => h) fr (wanted_of fr rfl rfl rfl rfl) (st.sub (.cons_cons _ (.cons_cons _ (.cons_cons _ (.cons_cons _ (.cons_cons _ .slnil)))))) (fun w st => rn_move (fr.ev rfl)) rfl rfl ?_
          intro a fr
          refine dr_take_y 25 rfl (by kernel_rfl) (by kernel_rfl) (by kernel_rfl) (fun _ _ _ h => h) fr (wanted_of fr rfl rfl rfl rfl) (st.sub (.cons_cons _ (.cons_cons _ (.cons_cons _ (.cons_cons _ (.cons_cons _ .slnil)))))) (fun w st => rn_at (i := i) (fr.ev rfl) (fr.ev rfl) Try.underlying24 sz_29 (by omega) (by rfl)) rfl rfl ?_
          intro a fr
          refine dr_take_y 26 rfl (by kernel_rfl) (by kernel_rfl) (by kernel_rfl) (fun _ _ _ h => h) fr (wanted_of fr rfl rfl rfl rfl) (st.sub (.cons_cons _ (.cons_cons _ (.cons_cons _ (.cons_cons _ (.cons_cons _ .slnil)))))) (fun w st => fa_29_2 (fr.ev rfl)) rfl rfl ?_
          intro a fr
          refine dr_take_y 27 rfl (by kernel_rfl) (by kernel_rfl) (by kernel_rfl) (fun _ _ _ h => h) fr (wanted_of fr rfl rfl rfl rfl) (st.sub (.cons_cons _ (.cons_cons _ (.cons_cons _ (.cons_cons _ (.cons_cons _ .slnil)))))) (fun w st => rn_load (fr.ev rfl) Try.underlying3 rfl (st.rocell 3 rfl (j := 2) rfl)) rfl rfl ?_
          intro a fr
          refine dr_take_y 28 rfl (by kernel_rfl) (by kernel_rfl) (by kernel_rfl) (fun _ _ _ h => h) fr (wanted_of fr rfl rfl rfl rfl) (st.sub (.cons_cons _ (.cons_cons _ (.cons_cons _ (.cons_cons _ (.cons_cons _ .slnil)))))) (fun w st => rn_as (v' := .bool false) (rn_eql (fr.ev rfl) (fr.ev rfl)) (congrArg Value.bool (by simp [e4]))) rfl rfl ?_
          intro a fr
          refine dr_take_y 29 rfl (by kernel_rfl) (by kernel_rfl) (by kernel_rfl) (fun _ _ _ h => h) fr (wanted_of fr rfl rfl rfl rfl) (st.sub (.cons_cons _ (.cons_cons _ (.cons_cons _ (.cons_cons _ (.cons_cons _ .slnil)))))) (fun w st => rn_pick_t (fr.ev rfl) (fr.ev rfl)) rfl rfl ?_
          intro a fr
          refine dr_take 30 rfl (by kernel_rfl) (by kernel_rfl) (by kernel_rfl) (fun _ _ _ h => h) fr rfl (st.sub (.cons_cons _ (.cons_cons _ (.cons_cons _ (.cons_cons _ (.cons_cons _ .slnil)))))) (fun w st => rn_pick_f (fr.ev rfl) (fr.ev rfl)) rfl rfl ?_
          intro a fr
          refine dr_done (by kernel_rfl) ?_
          refine then_n ?_
          refine cond_f fr rfl rfl ?_
          refine wp_skip ?_
          refine blk_n ?_
          refine then_n ?_
          refine reg ?_
          refine lst rfl (ow_v fr (rn_add (a := (k : Nat)) (b := 1) (c := ((k + 1 : Nat) : Int)) (fr.ev rfl) (fr.ev rfl) (wr_i64e (by omega) (by omega) (by omega))) rfl rfl ?_)
          intro a fr
          refine lst rfl (ow_v fr (rn_move (fr.ev rfl)) rfl rfl ?_)
          intro a fr
          refine wpList_nil ?_
          rw [nxL_n hnx] at st
          rw [nxL_n hnx] at fr
          refine then_n ⟨l.length - (k + 1), ?_, k + 1, A, c, (by omega), rfl, fr.prune ⟨rfl, rfl, rfl, rfl, rfl, rfl, trivial⟩, st.sub (.cons _ (.cons _ (.cons_cons _ (.cons_cons _ (.cons_cons _ .slnil)))))⟩
          omega
      · replace e3 := Bool.eq_false_iff.2 e3
        have e1b : (k == i + 1) = false := by simp [e1]
        replace hnx : nx l i k = false := by rw [hnx]; simp [e1b, e3]
        refine dr_start (by kernel_rfl) st (.cons_cons _ (.cons_cons _ (.cons_cons _ (.cons_cons _ (.cons_cons _ .slnil))))) ?_
        intro w st
        refine dr_take 0 rfl (by kernel_rfl) (by kernel_rfl) (by kernel_rfl) (fun _ _ _ h => h) fr rfl (st.sub (.cons_cons _ (.cons_cons _ (.cons_cons _ (.cons_cons _ (.cons_cons _ .slnil)))))) (fun w st => rn_move (fr.ev rfl)) rfl rfl ?_
        intro a fr
        refine dr_take 1 rfl (by kernel_rfl) (by kernel_rfl) (by kernel_rfl) (fun _ _ _ h => h) fr rfl (st.sub (.cons_cons _ (.cons_cons _ (.cons_cons _ (.cons_cons _ (.cons_cons _ .slnil)))))) (fun w st => rn_move (fr.ev rfl)) rfl rfl ?_
        intro a fr
        refine dr_take 2 rfl (by kernel_rfl) (by kernel_rfl) (by kernel_rfl) (fun _ _ _ h => h) fr rfl (st.sub (.cons_cons _ (.cons_cons _ (.cons_cons _ (.cons_cons _ (.cons_cons _ .slnil)))))) (fun w st => rn_add (a := (i : Nat)) (b := 1) (c := ((i + 1 : Nat) : Int)) (fr.ev rfl) (fr.ev rfl) (wr_i64e (by omega) (by omega) (by omega))) rfl rfl ?_
        intro a fr
        refine dr_take 3 rfl (by kernel_rfl) (by kernel_rfl) (by kernel_rfl) (fun _ _ _ h => h) fr rfl (st.sub (.cons_cons _ (.cons_cons _ (.cons_cons _ (.cons_cons _ (.cons_cons _ .slnil)))))) (fun w st => rn_as (v' := .bool false) (rn_eql (fr.ev rfl) (fr.ev rfl)) (congrArg Value.bool (by simp only [beq_eq_false_iff_ne, ne_eq]; omega))) rfl rfl ?_
        intro a fr
        refine dr_take 4 rfl (by kernel_rfl) (by kernel_rfl) (by kernel_rfl) (fun _ _ _ h => h) fr rfl (st.sub (.cons_cons _ (.cons_cons _ (.cons_cons _ (.cons_cons _ (.cons_cons _ .slnil)))))) (fun w st => rn_move (fr.ev rfl)) rfl rfl ?_
        intro a fr
        refine dr_take_n 5 rfl (by kernel_rfl) (by kernel_rfl) (by kernel_rfl) (fun _ _ _ h => h) fr (unwanted_of fr rfl rfl rfl rfl) (st.sub (.cons_cons _ (.cons_cons _ (.cons_cons _ (.cons_cons _ (.cons_cons _ .slnil)))))) rfl rfl ?_
        intro a fr
        refine dr_take_n 6 rfl (by kernel_rfl) (by kernel_rfl) (by kernel_rfl) (fun _ _ _ h => h) fr (unwanted_of fr rfl rfl rfl rfl) (st.sub (.cons_cons _ (.cons_cons _ (.cons_cons _ (.cons_cons _ (.cons_cons _ .slnil)))))) rfl rfl ?_
        intro a fr
        refine dr_take_n 7 rfl (by kernel_rfl) (by kernel_rfl) (by kernel_rfl) (fun _ _ _ h => h) fr (unwanted_of fr rfl rfl rfl rfl) (st.sub (.cons_cons _ (.cons_cons _ (.cons_cons _ (.cons_cons _ (.cons_cons _ .slnil)))))) rfl rfl ?_
        intro a fr
        refine dr_take_n 8 rfl (by kernel_rfl) (by kernel_rfl) (by kernel_rfl) (fun _ _ _ h => h) fr (unwanted_of fr rfl rfl rfl rfl) (st.sub (.cons_cons _ (.cons_cons _ (.cons_cons _ (.cons_cons _ (.cons_cons _ .slnil)))))) rfl rfl ?_
        intro a fr
        refine dr_take_n 9 rfl (by kernel_rfl) (by kernel_rfl) (by kernel_rfl) (fun _ _ _ h => h) fr (unwanted_of fr rfl rfl rfl rfl) (st.sub (.cons_cons _ (.cons_cons _ (.cons_cons _ (.cons_cons _ (.cons_cons _ .slnil)))))) rfl rfl ?_
        intro a fr
        refine dr_one_n 10 (by kernel_rfl) rfl (unwanted_of fr rfl rfl rfl rfl) fr rfl rfl (st.sub (.cons_cons _ (.cons_cons _ (.cons_cons _ (.cons_cons _ (.cons_cons _ .slnil)))))) ?_
        intro a fr
        refine dr_take_n 11 rfl (by kernel_rfl) (by kernel_rfl) (by kernel_rfl) (fun _ _ _ h => h) fr (unwanted_of fr rfl rfl rfl rfl) (st.sub (.cons_cons _ (.cons_cons _ (.cons_cons _ (.cons_cons _ (.cons_cons _ .slnil)))))) rfl rfl ?_
        intro a fr
        refine dr_take 12 rfl (by kernel_rfl) (by kernel_rfl) (by kernel_rfl) (fun _ _ _ h => h) fr rfl (st.sub (.cons_cons _ (.cons_cons _ (.cons_cons _ (.cons_cons _ (.cons_cons _ .slnil)))))) (fun w st => rn_pick_f (fr.ev rfl) (fr.ev rfl)) rfl rfl ?_
        intro a fr
        refine dr_take 13 rfl (by kernel_rfl) (by kernel_rfl) (by kernel_rfl) (fun _ _ _ h => h) fr rfl (st.sub (.cons_cons _ (.cons_cons _ (.cons_cons _ (.cons_cons _ (.cons_cons _ .slnil)))))) (fun w st => rn_move (fr.ev rfl)) rfl rfl ?_
        intro a fr
        refine dr_take_y 14 rfl (by kernel_rfl) (by kernel_rfl) (by kernel_rfl) (fun _ _ _ h => h) fr (wanted_of fr rfl rfl rfl rfl) (st.sub (.cons_cons _ (.cons_cons _ (.cons_cons _ (.cons_cons _ (.cons_cons _ .slnil)))))) (fun w st => rn_move (fr.ev rfl)) rfl rfl ?_
        intro a fr
        refine dr_take_y 15 rfl (by kernel_rfl) (by kernel_rfl) (by kernel_rfl) (fun _ _ _ h => h) fr (wanted_of fr rfl rfl rfl rfl) (st.sub (.cons_cons _ (.cons_cons _ (.cons_cons _ (.cons_cons _ (.cons_cons _ .slnil)))))) (fun w st => rn_move (fr.ev rfl)) rfl rfl ?_
        intro a fr
        refine dr_take_y 16 rfl (by kernel_rfl) (by kernel_rfl) (by kernel_rfl) (fun _ _ _ h => h) fr (wanted_of fr rfl rfl rfl rfl) (st.sub (.cons_cons _ (.cons_cons _ (.cons_cons _ (.cons_cons _ (.cons_cons _ .slnil)))))) (fun w st => rn_at (i := i) (fr.ev rfl) (fr.ev rfl) Try.underlying24 sz_29 (by omega) (by rfl)) rfl rfl ?_
        intro a fr
        refine dr_take_y 17 rfl (by kernel_rfl) (by kernel_rfl) (by kernel_rfl) (fun _ _ _ h => h) fr (wanted_of fr rfl rfl rfl rfl) (st.sub (.cons_cons _ (.cons_cons _ (.cons_cons _ (.cons_cons _ (.cons_cons _ .slnil)))))) (fun w st => fa_29_1 (fr.ev rfl)) rfl rfl ?_
        intro a fr
        refine dr_take_y 18 rfl (by kernel_rfl) (by kernel_rfl) (by kernel_rfl) (fun _ _ _ h => h) fr (wanted_of fr rfl rfl rfl rfl) (st.sub (.cons_cons _ (.cons_cons _ (.cons_cons _ (.cons_cons _ (.cons_cons _ .slnil)))))) (fun w st => rn_load (fr.ev rfl) Try.underlying3 rfl (st.rocell 3 rfl (j := 1) rfl)) rfl rfl ?_
        intro a fr
        refine dr_one_y 19 (by kernel_rfl) rfl (wanted_of fr rfl rfl rfl rfl) (ow_call fr rfl rfl Try.call41 (jumps_is y1 false e3 _) rfl rfl ?_)
        rintro e w ⟨rfl, hag⟩
        refine ⟨_, rfl, ?_⟩
        intro a fr
        have st := st.keep hag
        clear hag
        refine ⟨st.sub (.cons_cons _ (.cons_cons _ (.cons_cons _ (.cons_cons _ (.cons_cons _ .slnil))))), ?_⟩
        refine dr_take_y 20 rfl (by kernel_rfl) (by kernel_rfl) (by kernel_rfl) (fun _ _ _ h => h) fr (wanted_of fr rfl rfl rfl rfl) (st.sub (.cons_cons _ (.cons_cons _ (.cons_cons _ (.cons_cons _ (.cons_cons _ .slnil)))))) (fun w st => rn_move (fr.ev rfl)) rfl rfl ?_
        intro a fr
        refine dr_take_n 21 rfl (by kernel_rfl) (by kernel_rfl) (by kernel_rfl) (fun _ _ _ h => h) fr (unwanted_of fr rfl rfl rfl rfl) (st.sub (.cons_cons _ (.cons_cons _ (.cons_cons _ (.cons_cons _ (.cons_cons _ .slnil)))))) rfl rfl ?_
        intro a fr
        refine dr_take_n 22 rfl (by kernel_rfl) (by kernel_rfl) (by kernel_rfl) (fun _ _ _ h => h) fr (unwanted_of fr rfl rfl rfl rfl) (st.sub (.cons_cons _ (.cons_cons _ (.cons_cons _ (.cons_cons _ (.cons_cons _ .slnil)))))) rfl rfl ?_
        intro a fr
        refine dr_take_n 23 rfl (by kernel_rfl) (by kernel_rfl) (by kernel_rfl) (fun _ _ _ h => h) fr (unwanted_of fr rfl rfl rfl rfl) (st.sub (.cons_cons _ (.cons_cons _ (.cons_cons _ (.cons_cons _ (.cons_cons _ .slnil)))))) rfl rfl ?_
        intro a fr
        refine dr_take_n 24 rfl (by kernel_rfl) (by kernel_rfl) (by kernel_rfl) (fun _ _ _ h => h) fr (unwanted_of fr rfl rfl rfl rfl) (st.sub (.cons_cons _ (.cons_cons _ (.cons_cons _ (.cons_cons _ (.cons_cons _ .slnil)))))) rfl rfl ?_
        intro a fr
        refine dr_take_n 25 rfl (by kernel_rfl) (by kernel_rfl) (by kernel_rfl) (fun _ _ _ h => h) fr (unwanted_of fr rfl rfl rfl rfl) (st.sub (.cons_cons _ (.cons_cons _ (.cons_cons _ (.cons_cons _ (.cons_cons _ .slnil)))))) rfl rfl ?_
        intro a fr
        refine dr_take_n 26 rfl (by kernel_rfl) (by kernel_rfl) (by kernel_rfl) (fun _ _ _ h => h) fr (unwanted_of fr rfl rfl rfl rfl) (st.sub (.cons_cons _ (.cons_cons _ (.cons_cons _ (.cons_cons _ (.cons_cons _ .slnil)))))) rfl rfl ?_
        intro a fr
        refine dr_take_n 27 rfl (by kernel_rfl) (by kernel_rfl) (by kernel_rfl) (fun _ _ _ h => h) fr (unwanted_of fr rfl rfl rfl rfl) (st.sub (.cons_cons _ (.cons_cons _ (.cons_cons _ (.cons_cons _ (.cons_cons _ .slnil)))))) rfl rfl ?_
        intro a fr
        refine dr_take_n 28 rfl (by kernel_rfl) (by kernel_rfl) (by kernel_rfl) (fun _ _ _ h => h) fr (unwanted_of fr rfl rfl rfl rfl) (st.sub (.cons_cons _ (.cons_cons _ (.cons_cons _ (.cons_cons _ (.cons_cons _ .slnil)))))) rfl rfl ?_
        intro a fr
        refine dr_take_y 29 rfl (by kernel_rfl) (by kernel_rfl) (by kernel_rfl) (fun _ _ _ h => h) fr (wanted_of fr rfl rfl rfl rfl) (st.sub (.cons_cons _ (.cons_cons _ (.cons_cons _ (.cons_cons _ (.cons_cons _ .slnil)))))) (fun w st => rn_pick_f (fr.ev rfl) (fr.ev rfl)) rfl rfl ?_
        intro a fr
        refine dr_take 30 rfl (by kernel_rfl) (by kernel_rfl) (by kernel_rfl) (fun _ _ _ h => h) fr rfl (st.sub (.cons_cons _ (.cons_cons _ (.cons_cons _ (.cons_cons _ (.cons_cons _ .slnil)))))) (fun w st => rn_pick_f (fr.ev rfl) (fr.ev rfl)) rfl rfl ?_
        intro a fr
        refine dr_done (by kernel_rfl) ?_
        refine then_n ?_
        refine cond_f fr rfl rfl ?_
        refine wp_skip ?_
        refine blk_n ?_
        refine then_n ?_
        refine reg ?_
        refine lst rfl (ow_v fr (rn_add (a := (k : Nat)) (b := 1) (c := ((k + 1 : Nat) : Int)) (fr.ev rfl) (fr.ev rfl) (wr_i64e (by omega) (by omega) (by omega))) rfl rfl ?_)
        intro a fr
        refine lst rfl (ow_v fr (rn_move (fr.ev rfl)) rfl rfl ?_)
        intro a fr
        refine wpList_nil ?_
        rw [nxL_n hnx] at st
        rw [nxL_n hnx] at fr
        refine then_n ⟨l.length - (k + 1), ?_, k + 1, A, c, (by omega), rfl, fr.prune ⟨rfl, rfl, rfl, rfl, rfl, rfl, trivial⟩, st.sub (.cons _ (.cons _ (.cons_cons _ (.cons_cons _ (.cons_cons _ .slnil)))))⟩
        omega
  · have hke : k = l.length := by omega
    subst hke
    refine wp_seq ?_
    refine reg ?_
    refine lst rfl (ow_v fr (rn_as (v' := .bool false) (rn_lss (fr.ev rfl) (fr.ev rfl)) (congrArg Value.bool (decide_eq_false (by omega)))) rfl rfl ?_)
    intro a fr
    refine wpList_nil ?_
    refine then_n ?_
    refine wp_seq ?_
    refine cond_f fr rfl rfl ?_
    refine wp_exit ?_
    refine then_x ?_
    refine then_x ?_
    refine blk_x ?_
    refine then_n ?_
    refine wp_seq ?_
    refine reg ?_
    refine lst rfl (ow_v fr (rn_move (fr.ev rfl)) rfl rfl ?_)
    intro a fr
    refine lst rfl (ow_v fr (rn_assign (fr.ev rfl)) rfl rfl ?_)
    intro a fr
    refine wpList_nil ?_
    refine then_n ?_
    refine wp_ret ?_
    refine ret1 Try.results29 fr (rv_tmp fr rfl) ?_
    exact ⟨A, c, rfl, (st.get 0 rfl).1, st.agr⟩

theorem next_out (l : List InsD) (LA : Option Addr) (lc : Nat) (hl : l.length * 32 ≤ 140737488355328) (i : Int) (hi : ¬ (0 ≤ i ∧ i < l.length)) (w0 : World) (hx : Els insC 4 w0 LA l) : Calls Try.prog 29 #[.slice LA l.length lc, .int .i64 i] w0 fun e w' => ∃ A c, e = .returned (.slice A (([] : List Int)).length c) ∧ Row CI 1 3 w0.heap.size (.slice A (([] : List Int)).length c) (([] : List Int)) w' ∧ Agr [] w0 w' := by
  have st : St w0 [] w0 [els insC 4 LA l] := (add_ro (start0 w0 []) (by simp [els, ro, It.wr]) rfl (els_ok (C := insC) (sz := 4) (by decide) (fun x => rfl) hx))
  clear hx
  by_cases h0 : i < 0
  · refine enter Try.func29 rfl Try.ntmps29 (by simp) ?_
    intro a fr
    refine wp_seq ?_
    refine reg ?_
    refine lst rfl (ow_v fr (rn_assign (fr.ev rfl)) rfl rfl ?_)
    intro a fr
    refine wpList_nil ?_
    refine then_n ?_
    refine wp_seq ?_
    refine wp_seq ?_
    refine reg ?_
    refine lst rfl (ow_v fr (rn_move (fr.ev rfl)) rfl rfl ?_)
    intro a fr
    refine lst rfl (ow_v fr (rn_as (v' := .bool true) (rn_lss (fr.ev rfl) (fr.ev rfl)) (congrArg Value.bool (decide_eq_true (by omega)))) rfl rfl ?_)
    intro a fr
    refine lst rfl (ow_v fr (rn_move (fr.ev rfl)) rfl rfl ?_)
    intro a fr
    refine lst_n (unwanted_of fr rfl rfl rfl rfl) fr rfl rfl ?_
    intro a fr
    refine lst_n (unwanted_of fr rfl rfl rfl rfl) fr rfl rfl ?_
    intro a fr
    refine lst_n (unwanted_of fr rfl rfl rfl rfl) fr rfl rfl ?_
    intro a fr
    refine lst_n (unwanted_of fr rfl rfl rfl rfl) fr rfl rfl ?_
    intro a fr
    refine lst rfl (ow_v fr (rn_pick_t (fr.ev rfl) (fr.ev rfl)) rfl rfl ?_)
    intro a fr
    refine wpList_nil ?_
    refine then_n ?_
    refine cond_t fr rfl rfl ?_
    refine wp_seq ?_
    refine reg ?_
    refine lst rfl (ow_v fr (rn_assign (fr.ev rfl)) rfl rfl ?_)
    intro a fr
    refine wpList_nil ?_
    refine then_n ?_
    refine wp_ret ?_
    refine then_r ?_
    refine ret1 Try.results29 fr (rv_tmp fr rfl) ?_
    exact ⟨none, 0, rfl, row_nil CI 1 3 _ _, st.agr⟩
  · refine enter Try.func29 rfl Try.ntmps29 (by simp) ?_
    intro a fr
    refine wp_seq ?_
    refine reg ?_
    refine lst rfl (ow_v fr (rn_assign (fr.ev rfl)) rfl rfl ?_)
    intro a fr
    refine wpList_nil ?_
    refine then_n ?_
    refine wp_seq ?_
    refine wp_seq ?_
    refine reg ?_
    refine lst rfl (ow_v fr (rn_move (fr.ev rfl)) rfl rfl ?_)
    intro a fr
    refine lst rfl (ow_v fr (rn_as (v' := .bool false) (rn_lss (fr.ev rfl) (fr.ev rfl)) (congrArg Value.bool (decide_eq_false (by omega)))) rfl rfl ?_)
    intro a fr
    refine lst rfl (ow_v fr (rn_move (fr.ev rfl)) rfl rfl ?_)
    intro a fr
    refine lst_y (wanted_of fr rfl rfl rfl rfl) (ow_v fr (rn_move (fr.ev rfl)) rfl rfl ?_)
    intro a fr
    refine lst_y (wanted_of fr rfl rfl rfl rfl) (ow_v fr (rn_move (fr.ev rfl)) rfl rfl ?_)
    intro a fr
    refine lst_y (wanted_of fr rfl rfl rfl rfl) (ow_v fr (rn_len (fr.ev rfl) Try.underlying24) rfl rfl ?_)
    intro a fr
    refine lst_y (wanted_of fr rfl rfl rfl rfl) (ow_v fr (rn_as (v' := .bool true) (rn_geq (fr.ev rfl) (fr.ev rfl)) (congrArg Value.bool (decide_eq_true (by omega)))) rfl rfl ?_)
    intro a fr
    refine lst rfl (ow_v fr (rn_pick_f (fr.ev rfl) (fr.ev rfl)) rfl rfl ?_)
    intro a fr
    refine wpList_nil ?_
    refine then_n ?_
    refine cond_t fr rfl rfl ?_
    refine wp_seq ?_
    refine reg ?_
    refine lst rfl (ow_v fr (rn_assign (fr.ev rfl)) rfl rfl ?_)
    intro a fr
    refine wpList_nil ?_
    refine then_n ?_
    refine wp_ret ?_
    refine then_r ?_
    refine ret1 Try.results29 fr (rv_tmp fr rfl) ?_
    exact ⟨none, 0, rfl, row_nil CI 1 3 _ _, st.agr⟩

theorem next_calls (l : List InsD) (LA : Option Addr) (lc : Nat) (hl : l.length * 32 ≤ 140737488355328) (i : Int) (w0 : World) (hx : Els insC 4 w0 LA l) : Calls Try.prog 29 #[.slice LA l.length lc, .int .i64 i] w0 fun e w' => ∃ A c, e = .returned (.slice A (nextF l i).length c) ∧ Row CI 1 3 w0.heap.size (.slice A (nextF l i).length c) (nextF l i) w' ∧ Agr [] w0 w' := by
  unfold nextF
  by_cases hi : 0 ≤ i ∧ i < l.length
  · obtain ⟨n, rfl⟩ : ∃ n : Nat, i = n := ⟨i.toNat, by omega⟩
    rw [if_pos hi, Int.toNat_natCast]
    exact next_in l LA lc hl n (by omega) w0 hx
  · rw [if_neg hi]
    exact next_out l LA lc hl i hi w0 hx

set_option maxHeartbeats 1000000 in
theorem rnext_in (l : List InsD) (LA : Option Addr) (lc : Nat) (hl : l.length * 32 ≤ 140737488355328) (i : Nat) (hi : i < l.length) (w0 : World) (hx : Els insC 4 w0 LA l) : Calls Try.prog 35 #[.slice LA l.length lc, .int .i64 (i : Nat)] w0 fun e w' => ∃ A c, e = .returned (.slice A (nxL l i l.length).length c) ∧ Row CI 1 3 w0.heap.size (.slice A (nxL l i l.length).length c) (nxL l i l.length) w' ∧ Agr [] w0 w' := by
  have st : St w0 [] w0 [els insC 4 LA l] := (add_ro (start0 w0 []) (by simp [els, ro, It.wr]) rfl (els_ok (C := insC) (sz := 4) (by decide) (fun x => rfl) hx))
  clear hx
  refine enter Try.func35 rfl Try.ntmps35 (by simp) ?_
  intro a fr
  refine wp_seq ?_
  refine reg ?_
  refine lst rfl (ow_v fr (rn_assign (fr.ev rfl)) rfl rfl ?_)
  intro a fr
  refine wpList_nil ?_
  refine then_n ?_
  refine wp_seq ?_
  refine reg ?_
  refine lst rfl (ow_v fr (rn_assign (fr.ev rfl)) rfl rfl ?_)
  intro a fr
  refine wpList_nil ?_
  refine then_n ?_
  refine wp_seq ?_
  refine wp_seq ?_
  obtain ⟨b1, o2, eA, st_⟩ := st.elem 0 rfl i hi (by simp [insC])
  have fr_ := fr
  cases eA
  have st := st_
  have fr := fr_
  clear st_ fr_
  obtain ⟨y0, y1, y2, y3, hx_l_y0⟩ : ∃ y0 y1 y2 y3, l[i] = (y0, y1, y2, y3) := ⟨_, _, _, _, rfl⟩
  rw [hx_l_y0] at st
  replace st : St _ [] _ [ro b1 (o2 + i * 4) [.int .i64 (y0), .int .i64 (y1), .int .i64 (y2), .int .i64 (y3)], els insC 4 (some ⟨b1, o2, none⟩) l] := st
  refine reg ?_
  refine lst rfl (ow_v fr (rn_assign (fr.ev rfl)) rfl rfl ?_)
  intro a fr
  refine wpList_nil ?_
  refine then_n ?_
  refine wp_block ?_
  have st := st.nil (E := Int) CI 1 3 w0.heap.size (Nat.le_refl _)
  refine wp_loop_ghost (fun mz a w => ∃ (k : Nat) (A : Option Addr) (c : Nat), (k ≤ l.length) ∧ mz = l.length - k ∧ FrL 62 a [(0, .slice (some ⟨b1, o2, none⟩) l.length lc), (1, .int .i64 ((i : Nat))), (5, .slice A ((nxL l i k).length) c), (6, .int .i64 ((k : Nat)))] ∧ St w0 [] w [row CI 1 3 w0.heap.size (.slice A ((nxL l i k).length) c) ((nxL l i k)), ro b1 (o2 + i * 4) [.int .i64 (y0), .int .i64 (y1), .int .i64 (y2), .int .i64 (y3)], els insC 4 (some ⟨b1, o2, none⟩) l]) _ ⟨0, none, 0, (Nat.zero_le _), rfl, fr.prune ⟨rfl, rfl, rfl, rfl, trivial⟩, st⟩ ?_
  clear fr st
  intro mz a w hI
  obtain ⟨k, A, c, hk, hmz, fr, st⟩ := hI
  by_cases hlt : k < l.length
  · refine wp_seq ?_
    refine wp_seq ?_
    refine reg ?_
    refine lst rfl (ow_v fr (rn_move (fr.ev rfl)) rfl rfl ?_)
    intro a fr
    refine lst rfl (ow_v fr (rn_move (fr.ev rfl)) rfl rfl ?_)
    intro a fr
    refine lst rfl (ow_v fr (rn_len (fr.ev rfl) Try.underlying24) rfl rfl ?_)
    intro a fr
    refine lst rfl (ow_v fr (rn_as (v' := .bool true) (rn_lss (fr.ev rfl) (fr.ev rfl)) (congrArg Value.bool (decide_eq_true (by omega)))) rfl rfl ?_)
    intro a fr
    refine lst rfl (ow_v fr (rn_move (fr.ev rfl)) rfl rfl ?_)
    intro a fr
    refine lst_y (wanted_of fr rfl rfl rfl rfl) (ow_v fr (rn_move (fr.ev rfl)) rfl rfl ?_)
    intro a fr
    refine lst_y (wanted_of fr rfl rfl rfl rfl) (ow_v fr (rn_as (v' := .bool true) (rn_geq (fr.ev rfl) (fr.ev rfl)) (congrArg Value.bool (decide_eq_true (by omega)))) rfl rfl ?_)
    intro a fr
    refine lst rfl (ow_v fr (rn_pick_t (fr.ev rfl) (fr.ev rfl)) rfl rfl ?_)
    intro a fr
    refine lst rfl (ow_v fr (rn_move (fr.ev rfl)) rfl rfl ?_)
    intro a fr
    refine lst_y (wanted_of fr rfl rfl rfl rfl) (ow_v fr (rn_move (fr.ev rfl)) rfl rfl ?_)
    intro a fr
    refine lst_y (wanted_of fr rfl rfl rfl rfl) (ow_v fr (rn_move (fr.ev rfl)) rfl rfl ?_)
    intro a fr
    refine lst_y (wanted_of fr rfl rfl rfl rfl) (ow_v fr (rn_len (fr.ev rfl) Try.underlying24) rfl rfl ?_)
    intro a fr
    refine lst_y (wanted_of fr rfl rfl rfl rfl) (ow_v fr (rn_as (v' := .bool true) (rn_lss (fr.ev rfl) (fr.ev rfl)) (congrArg Value.bool (decide_eq_true (by omega)))) rfl rfl ?_)
    intro a fr
    refine lst rfl (ow_v fr (rn_pick_t (fr.ev rfl) (fr.ev rfl)) rfl rfl ?_)
    intro a fr
    refine wpList_nil ?_
    refine then_n ?_
    refine cond_t fr rfl rfl ?_
    refine wp_skip ?_
    refine then_n ?_
    refine wp_seq ?_
    refine wp_block ?_
    refine wp_seq ?_
    obtain ⟨b_, o_, eA, st_⟩ := st.elem 2 rfl k hlt (by simp [insC])
    have fr_ := fr
    cases eA
    have st := st_
    have fr := fr_
    clear st_ fr_
    obtain ⟨x0, x1, x2, x3, hx_l_x0⟩ : ∃ x0 x1 x2 x3, l[k] = (x0, x1, x2, x3) := ⟨_, _, _, _, rfl⟩
    rw [hx_l_x0] at st
    replace st : St _ [] _ [ro b1 (o2 + k * 4) [.int .i64 (x0), .int .i64 (x1), .int .i64 (x2), .int .i64 (x3)], row CI 1 3 w0.heap.size (.slice A ((nxL l i k).length) c) ((nxL l i k)), ro b1 (o2 + i * 4) [.int .i64 (y0), .int .i64 (y1), .int .i64 (y2), .int .i64 (y3)], els insC 4 (some ⟨b1, o2, none⟩) l] := st
    have hnx := nx_at hi hlt hx_l_y0 hx_l_x0
    simp only at hnx
    by_cases e1 : k = i + 1
    · by_cases e2 : endsF y1 = true
      · by_cases e3 : jmp y1 = true
        · by_cases e4 : x0 = y2
          · have e1b : (k == i + 1) = true := by simp [e1]
            replace hnx : nx l i k = true := by rw [hnx]; simp [e1b, e2, e3, e4]
            refine dr_start (by kernel_rfl) st (.cons_cons _ (.cons_cons _ (.cons_cons _ (.cons_cons _ .slnil)))) ?_
            intro w st
            refine dr_take 0 rfl (by kernel_rfl) (by kernel_rfl) (by kernel_rfl) (fun _ _ _ h => h) fr rfl (st.sub (.cons_cons _ (.cons_cons _ (.cons_cons _ (.cons_cons _ .slnil))))) (fun w st => rn_move (fr.ev rfl)) rfl rfl ?_
            intro a fr
            refine dr_take 1 rfl (by kernel_rfl) (by kernel_rfl) (by kernel_rfl) (fun _ _ _ h => h) fr rfl (st.sub (.cons_cons _ (.cons_cons _ (.cons_cons _ (.cons_cons _ .slnil))))) (fun w st => rn_move (fr.ev rfl)) rfl rfl ?_
            intro a fr
            refine dr_take 2 rfl (by kernel_rfl) (by kernel_rfl) (by kernel_rfl) (fun _ _ _ h => h) fr rfl (st.sub (.cons_cons _ (.cons_cons _ (.cons_cons _ (.cons_cons _ .slnil))))) (fun w st => rn_add (a := (i : Nat)) (b := 1) (c := ((i + 1 : Nat) : Int)) (fr.ev rfl) (fr.ev rfl) (wr_i64e (by omega) (by omega) (by omega))) rfl rfl ?_
            intro a fr
            refine dr_take 3 rfl (by kernel_rfl) (by kernel_rfl) (by kernel_rfl) (fun _ _ _ h => h) fr rfl (st.sub (.cons_cons _ (.cons_cons _ (.cons_cons _ (.cons_cons _ .slnil))))) (fun w st => rn_as (v' := .bool true) (rn_eql (fr.ev rfl) (fr.ev rfl)) (congrArg Value.bool (by simp only [beq_iff_eq]; omega))) rfl rfl ?_
            intro a fr
            refine dr_take 4 rfl (by kernel_rfl) (by kernel_rfl) (by kernel_rfl) (fun _ _ _ h => h) fr rfl (st.sub (.cons_cons _ (.cons_cons _ (.cons_cons _ (.cons_cons _ .slnil))))) (fun w st => rn_move (fr.ev rfl)) rfl rfl ?_
            intro a fr
            refine dr_take_y 5 rfl (by kernel_rfl) (by kernel_rfl) (by kernel_rfl) (fun _ _ _ h => h) fr (wanted_of fr rfl rfl rfl rfl) (st.sub (.cons_cons _ (.cons_cons _ (.cons_cons _ (.cons_cons _ .slnil))))) (fun w st => rn_move (fr.ev rfl)) rfl rfl ?_
            intro a fr
            refine dr_take_y 6 rfl (by kernel_rfl) (by kernel_rfl) (by kernel_rfl) (fun _ _ _ h => h) fr (wanted_of fr rfl rfl rfl rfl) (st.sub (.cons_cons _ (.cons_cons _ (.cons_cons _ (.cons_cons _ .slnil))))) (fun w st => rn_move (fr.ev rfl)) rfl rfl ?_
            intro a fr
            refine dr_take_y 7 rfl (by kernel_rfl) (by kernel_rfl) (by kernel_rfl) (fun _ _ _ h => h) fr (wanted_of fr rfl rfl rfl rfl) (st.sub (.cons_cons _ (.cons_cons _ (.cons_cons _ (.cons_cons _ .slnil))))) (fun w st => rn_at (i := i) (fr.ev rfl) (fr.ev rfl) Try.underlying24 sz_29 (by omega) (by rfl)) rfl rfl ?_
            intro a fr
            refine dr_take_y 8 rfl (by kernel_rfl) (by kernel_rfl) (by kernel_rfl) (fun _ _ _ h => h) fr (wanted_of fr rfl rfl rfl rfl) (st.sub (.cons_cons _ (.cons_cons _ (.cons_cons _ (.cons_cons _ .slnil))))) (fun w st => fa_29_1 (fr.ev rfl)) rfl rfl ?_
            intro a fr
            refine dr_take_y 9 rfl (by kernel_rfl) (by kernel_rfl) (by kernel_rfl) (fun _ _ _ h => h) fr (wanted_of fr rfl rfl rfl rfl) (st.sub (.cons_cons _ (.cons_cons _ (.cons_cons _ (.cons_cons _ .slnil))))) (fun w st => rn_load (fr.ev rfl) Try.underlying3 rfl (st.rocell 2 rfl (j := 1) rfl)) rfl rfl ?_
            intro a fr
            refine dr_one_y 10 (by kernel_rfl) rfl (wanted_of fr rfl rfl rfl rfl) (ow_call fr rfl rfl Try.call28 (rends_is y1 true e2 _) rfl rfl ?_)
            rintro e w ⟨rfl, hag⟩
            refine ⟨_, rfl, ?_⟩
            intro a fr
            have st := st.keep hag
            clear hag
            refine ⟨st.sub (.cons_cons _ (.cons_cons _ (.cons_cons _ (.cons_cons _ .slnil)))), ?_⟩
            refine dr_take_y 11 rfl (by kernel_rfl) (by kernel_rfl) (by kernel_rfl) (fun _ _ _ h => h) fr (wanted_of fr rfl rfl rfl rfl) (st.sub (.cons_cons _ (.cons_cons _ (.cons_cons _ (.cons_cons _ .slnil))))) (fun w st => rn_not (fr.ev rfl)) rfl rfl ?_
            intro a fr
            refine dr_take 12 rfl (by kernel_rfl) (by kernel_rfl) (by kernel_rfl) (fun _ _ _ h => h) fr rfl (st.sub (.cons_cons _ (.cons_cons _ (.cons_cons _ (.cons_cons _ .slnil))))) (fun w st => rn_pick_t (fr.ev rfl) (fr.ev rfl)) rfl rfl ?_
            intro a fr
            refine dr_take 13 rfl (by kernel_rfl) (by kernel_rfl) (by kernel_rfl) (fun _ _ _ h => h) fr rfl (st.sub (.cons_cons _ (.cons_cons _ (.cons_cons _ (.cons_cons _ .slnil))))) (fun w st => rn_move (fr.ev rfl)) rfl rfl ?_
            intro a fr
            refine dr_take_y 14 rfl (by kernel_rfl) (by kernel_rfl) (by kernel_rfl) (fun _ _ _ h => h) fr (wanted_of fr rfl rfl rfl rfl) (st.sub (.cons_cons _ (.cons_cons _ (.cons_cons _ (.cons_cons _ .slnil))))) (fun w st => rn_move (fr.ev rfl)) rfl rfl ?_
            intro a fr
            refine dr_take_y 15 rfl (by kernel_rfl) (by kernel_rfl) (by kernel_rfl) (fun _ _ _ h => h) fr (wanted_of fr rfl rfl rfl rfl) (st.sub (.cons_cons _ (.cons_cons _ (.cons_cons _ (.cons_cons _ .slnil))))) (fun w st => rn_move (fr.ev rfl)) rfl rfl ?_
            intro a fr
            refine dr_take_y 16 rfl (by kernel_rfl) (by kernel_rfl) (by kernel_rfl) (fun _ _ _ h => h) fr (wanted_of fr rfl rfl rfl rfl) (st.sub (.cons_cons _ (.cons_cons _ (.cons_cons _ (.cons_cons _ .slnil))))) (fun w st => rn_at (i := i) (fr.ev rfl) (fr.ev rfl) Try.underlying24 sz_29 (by omega) (by rfl)) rfl rfl ?_
            intro a fr
            refine dr_take_y 17 rfl (by kernel_rfl) (by kernel_rfl) (by kernel_rfl) (fun _ _ _ h => h) fr (wanted_of fr rfl rfl rfl rfl) (st.sub (.cons_cons _ (.cons_cons _ (.cons_cons _ (.cons_cons _ .slnil))))) (fun w st => fa_29_1 (fr.ev rfl)) rfl rfl ?_
            intro a fr
            refine dr_take_y 18 rfl (by kernel_rfl) (by kernel_rfl) (by kernel_rfl) (fun _ _ _ h => h) fr (wanted_of fr rfl rfl rfl rfl) (st.sub (.cons_cons _ (.cons_cons _ (.cons_cons _ (.cons_cons _ .slnil))))) (fun w st => rn_load (fr.ev rfl) Try.underlying3 rfl (st.rocell 2 rfl (j := 1) rfl)) rfl rfl ?_
            intro a fr
            refine dr_one_y 19 (by kernel_rfl) rfl (wanted_of fr rfl rfl rfl rfl) (ow_call fr rfl rfl Try.call42 (rjumps_is y1 true e3 _) rfl rfl ?_)
            rintro e w ⟨rfl, hag⟩
            refine ⟨_, rfl, ?_⟩
            intro a fr
            have st := st.keep hag
            clear hag
            refine ⟨st.sub (.cons_cons _ (.cons_cons _ (.cons_cons _ (.cons_cons _ .slnil)))), ?_⟩
            refine dr_take_y 20 rfl (by kernel_rfl) (by kernel_rfl) (by kernel_rfl) (fun _ _ _ h => h) fr (wanted_of fr rfl rfl rfl rfl) (st.sub (.cons_cons _ (.cons_cons _ (.cons_cons _ (.cons_cons _ .slnil))))) (fun w st => rn_move (fr.ev rfl)) rfl rfl ?_
            intro a fr
            refine dr_take_y 21 rfl (by kernel_rfl) (by kernel_rfl) (by kernel_rfl) (fun _ _ _ h => h) fr (wanted_of fr rfl rfl rfl rfl) (st.sub (.cons_cons _ (.cons_cons _ (.cons_cons _ (.cons_cons _ .slnil))))) (fun w st => rn_move (fr.ev rfl)) rfl rfl ?_
            intro a fr
            refine dr_take_y 22 rfl (by kernel_rfl) (by kernel_rfl) (by kernel_rfl) (fun _ _ _ h => h) fr (wanted_of fr rfl rfl rfl rfl) (st.sub (.cons_cons _ (.cons_cons _ (.cons_cons _ (.cons_cons _ .slnil))))) (fun w st => rn_move (fr.ev rfl)) rfl rfl ?_
            intro a fr
            refine dr_take_y 23 rfl (by kernel_rfl) (by kernel_rfl) (by kernel_rfl) (fun _ _ _ h => h) fr (wanted_of fr rfl rfl rfl rfl) (st.sub (.cons_cons _ (.cons_cons _ (.cons_cons _ (.cons_cons _ .slnil))))) (fun w st => rn_at (i := k) (fr.ev rfl) (fr.ev rfl) Try.underlying24 sz_29 (by omega) (by rfl)) rfl rfl ?_
            intro a fr
            refine dr_take_y 24 rfl (by kernel_rfl) (by kernel_rfl) (by kernel_rfl) (fun _ _ _ h => h) fr (wanted_of fr rfl rfl rfl rfl) (st.sub (.cons_cons _ (.cons_cons _ (.cons_cons _ (.cons_cons _ .slnil))))) (fun w st => fa_29_0 (fr.ev rfl)) rfl rfl ?_
            intro a fr
            refine dr_take_y 25 rfl (by kernel_rfl) (by kernel_rfl) (by kernel_rfl) (fun _ _ _ h => h) fr (wanted_of fr rfl rfl rfl rfl) (st.sub (.cons_cons _ (.cons_cons _ (.cons_cons _ (.cons_cons _ .slnil))))) (fun w st => rn_load (fr.ev rfl) Try.underlying3 rfl (st.rocell 0 rfl (j := 0) rfl)) rfl rfl ?_
            intro a fr
            refine dr_take_y 26 rfl (by kernel_rfl) (by kernel_rfl) (by kernel_rfl) (fun _ _ _ h => h) fr (wanted_of fr rfl rfl rfl rfl) (st.sub (.cons_cons _ (.cons_cons _ (.cons_cons _ (.cons_cons _ .slnil))))) (fun w st => rn_move (fr.ev rfl)) rfl rfl ?_
            intro a fr
            refine dr_take_y 27 rfl (by kernel_rfl) (by kernel_rfl) (by kernel_rfl) (fun _ _ _ h => h) fr (wanted_of fr rfl rfl rfl rfl) (st.sub (.cons_cons _ (.cons_cons _ (.cons_cons _ (.cons_cons _ .slnil))))) (fun w st => rn_move (fr.ev rfl)) rfl rfl ?_
            intro a fr
            refine dr_take_y 28 rfl (by kernel_rfl) (by kernel_rfl) (by kernel_rfl) (fun _ _ _ h => h) fr (wanted_of fr rfl rfl rfl rfl) (st.sub (.cons_cons _ (.cons_cons _ (.cons_cons _ (.cons_cons _ .slnil))))) (fun w st => rn_at (i := i) (fr.ev rfl) (fr.ev rfl) Try.underlying24 sz_29 (by omega) (by rfl)) rfl rfl ?_
            intro a fr
            refine dr_take_y 29 rfl (by kernel_rfl) (by kernel_rfl) (by kernel_rfl) (fun _ _ _ h => h) fr (wanted_of fr rfl rfl rfl rfl) (st.sub (.cons_cons _ (.cons_cons _ (.cons_cons _ (.cons_cons _ .slnil))))) (fun w st => fa_29_2 (fr.ev rfl)) rfl rfl ?_
            intro a fr
            refine dr_take_y 30 rfl (by kernel_rfl) (by kernel_rfl) (by kernel_rfl) (fun _ _ _ h => h) fr (wanted_of fr rfl rfl rfl rfl) (st.sub (.cons_cons _ (.cons_cons _ (.cons_cons _ (.cons_cons _ .slnil))))) (fun w st => rn_load (fr.ev rfl) Try.underlying3 rfl (st.rocell 2 rfl (j := 2) rfl)) rfl rfl ?_
            intro a fr
            refine dr_take_y 31 rfl (by kernel_rfl) (by kernel_rfl) (by kernel_rfl) (fun _ _ _ h => h) fr (wanted_of fr rfl rfl rfl rfl) (st.sub (.cons_cons _ (.cons_cons _ (.cons_cons _ (.cons_cons _ .slnil))))) (fun w st => rn_as (v' := .bool true) (rn_eql (fr.ev rfl) (fr.ev rfl)) (congrArg Value.bool (by simp [e4]))) rfl rfl ?_
            intro a fr
            refine dr_take_y 32 rfl (by kernel_rfl) (by kernel_rfl) (by kernel_rfl) (fun _ _ _ h => h) fr (wanted_of fr rfl rfl rfl rfl) (st.sub (.cons_cons _ (.cons_cons _ (.cons_cons _ (.cons_cons _ .slnil))))) (fun w st => rn_pick_t (fr.ev rfl) (fr.ev rfl)) rfl rfl ?_
            intro a fr
            refine dr_take 33 rfl (by kernel_rfl) (by kernel_rfl) (by kernel_rfl) (fun _ _ _ h => h) fr rfl (st.sub (.cons_cons _ (.cons_cons _ (.cons_cons _ (.cons_cons _ .slnil))))) (fun w st => rn_pick_f (fr.ev rfl) (fr.ev rfl)) rfl rfl ?_
            intro a fr
            refine dr_done (by kernel_rfl) ?_
            refine then_n ?_
            refine cond_t fr rfl rfl ?_
            refine reg ?_
            refine lst rfl (ow_v fr (rn_move (fr.ev rfl)) rfl rfl ?_)
            intro a fr
            refine lst rfl (ow_v fr (rn_move (fr.ev rfl)) rfl rfl ?_)
            intro a fr
            refine lst rfl (ow_bslice (E := 3) fr st rfl [.int .i64 ((k : Nat))] (fun w => by simp only [List.map_toArray, List.map_cons, List.map_nil]; rw [fr.ev (x := .tmp 58) rfl]; kernel_rfl) rfl rfl ?_)
            intro a w b3 fr st
            refine lst rfl (ow_append1 fr st 2 0 ((((k : Nat)) : Int)) rfl rfl rfl rfl rfl Try.underlying46 inf_3 (by rfl) (by decide) (fun _ => rfl) rfl (by (have := nxL_len l i k; omega)) (by unfold maxLen; (have := nxL_len l i k; omega)) (Nat.le_refl _) st.agr.size rfl rfl ?_)
            intro a w Ax4 cx5 fr (st : St _ [] w [.blk b3 [.int .i64 ((k : Nat))] 3, ro b1 (o2 + k * 4) [.int .i64 (x0), .int .i64 (x1), .int .i64 (x2), .int .i64 (x3)], row CI 1 3 w0.heap.size (.slice Ax4 (((nxL l i k) ++ [(((k : Nat)) : Int)]).length) cx5) (((nxL l i k) ++ [(((k : Nat)) : Int)])), ro b1 (o2 + i * 4) [.int .i64 (y0), .int .i64 (y1), .int .i64 (y2), .int .i64 (y3)], els insC 4 (some ⟨b1, o2, none⟩) l])
            refine lst rfl (ow_v fr (rn_assign (fr.ev rfl)) rfl rfl ?_)
            intro a fr
            refine wpList_nil ?_
            refine blk_n ?_
            refine then_n ?_
            refine reg ?_
            refine lst rfl (ow_v fr (rn_move (fr.ev rfl)) rfl rfl ?_)
            intro a fr
            refine lst rfl (ow_v fr (rn_add (a := (k : Nat)) (b := 1) (c := ((k + 1 : Nat) : Int)) (fr.ev rfl) (fr.ev rfl) (wr_i64e (by omega) (by omega) (by omega))) rfl rfl ?_)
            intro a fr
            refine lst rfl (ow_v fr (rn_assign (fr.ev rfl)) rfl rfl ?_)
            intro a fr
            refine wpList_nil ?_
            rw [nxL_y hnx] at st
            rw [nxL_y hnx] at fr
            refine then_n ⟨l.length - (k + 1), ?_, k + 1, Ax4, cx5, (by omega), rfl, fr.prune ⟨rfl, rfl, rfl, rfl, trivial⟩, st.sub (.cons _ (.cons _ (.cons_cons _ (.cons_cons _ (.cons_cons _ .slnil)))))⟩
            omega
          · have e1b : (k == i + 1) = true := by simp [e1]
            replace hnx : nx l i k = false := by rw [hnx]; simp [e1b, e2, e3, e4]
            refine dr_start (by kernel_rfl) st (.cons_cons _ (.cons_cons _ (.cons_cons _ (.cons_cons _ .slnil)))) ?_
            intro w st
            refine dr_take 0 rfl (by kernel_rfl) (by kernel_rfl) (by kernel_rfl) (fun _ _ _ h => h) fr rfl (st.sub (.cons_cons _ (.cons_cons _ (.cons_cons _ (.cons_cons _ .slnil))))) (fun w st => rn_move (fr.ev rfl)) rfl rfl ?_
            intro a fr
            refine dr_take 1 rfl (by kernel_rfl) (by kernel_rfl) (by kernel_rfl) (fun _ _ _ h => h) fr rfl (st.sub (.cons_cons _ (.cons_cons _ (.cons_cons _ (.cons_cons _ .slnil))))) (fun w st => rn_move (fr.ev rfl)) rfl rfl ?_
            intro a fr
            refine dr_take 2 rfl (by kernel_rfl) (by kernel_rfl) (by kernel_rfl) (fun _ _ _ h => h) fr rfl (st.sub (.cons_cons _ (.cons_cons _ (.cons_cons _ (.cons_cons _ .slnil))))) (fun w st => rn_add (a := (i : Nat)) (b := 1) (c := ((i + 1 : Nat) : Int)) (fr.ev rfl) (fr.ev rfl) (wr_i64e (by omega) (by omega) (by omega))) rfl rfl ?_
            intro a fr
            refine dr_take 3 rfl (by kernel_rfl) (by kernel_rfl) (by kernel_rfl) (fun _ _ _ h => h) fr rfl (st.sub (.cons_cons _ (.cons_cons _ (.cons_cons _ (.cons_cons _ .slnil))))) (fun w st => rn_as (v' := .bool true) (rn_eql (fr.ev rfl) (fr.ev rfl)) (congrArg Value.bool (by simp only [beq_iff_eq]; omega))) rfl rfl ?_
            intro a fr
            refine dr_take 4 rfl (by kernel_rfl) (by kernel_rfl) (by kernel_rfl) (fun _ _ _ h => h) fr rfl (st.sub (.cons_cons _ (.cons_cons _ (.cons_cons _ (.cons_cons _ .slnil))))) (fun w st => rn_move (fr.ev rfl)) rfl rfl ?_
            intro a fr
            refine dr_take_y 5 rfl (by kernel_rfl) (by kernel_rfl) (by kernel_rfl) (fun _ _ _ h => h) fr (wanted_of fr rfl rfl rfl rfl) (st.sub (.cons_cons _ (.cons_cons _ (.cons_cons _ (.cons_cons _ .slnil))))) (fun w st => rn_move (fr.ev rfl)) rfl rfl ?_
            intro a fr
            refine dr_take_y 6 rfl (by kernel_rfl) (by kernel_rfl) (by kernel_rfl) (fun _ _ _ h => h) fr (wanted_of fr rfl rfl rfl rfl) (st.sub (.cons_cons _ (.cons_cons _ (.cons_cons _ (.cons_cons _ .slnil))))) (fun w st => rn_move (fr.ev rfl)) rfl rfl ?_
            intro a fr
            refine dr_take_y 7 rfl (by kernel_rfl) (by kernel_rfl) (by kernel_rfl) (fun _ _ _ h => h) fr (wanted_of fr rfl rfl rfl rfl) (st.sub (.cons_cons _ (.cons_cons _ (.cons_cons _ (.cons_cons _ .slnil))))) (fun w st => rn_at (i := i) (fr.ev rfl) (fr.ev rfl) Try.underlying24 sz_29 (by omega) (by rfl)) rfl rfl ?_
            intro a fr
            refine dr_take_y 8 rfl (by kernel_rfl) (by kernel_rfl) (by kernel_rfl) (fun _ _ _ h => h) fr (wanted_of fr rfl rfl rfl rfl) (st.sub (.cons_cons _ (.cons_cons _ (.cons_cons _ (.cons_cons _ .slnil))))) (fun w st => fa_29_1 (fr.ev rfl)) rfl rfl ?_
            intro a fr
            refine dr_take_y 9 rfl (by kernel_rfl) (by kernel_rfl) (by kernel_rfl) (fun _ _ _ h => h) fr (wanted_of fr rfl rfl rfl rfl) (st.sub (.cons_cons _ (.cons_cons _ (.cons_cons _ (.cons_cons _ .slnil))))) (fun w st => rn_load (fr.ev rfl) Try.underlying3 rfl (st.rocell 2 rfl (j := 1) rfl)) rfl rfl ?_
            intro a fr
            refine dr_one_y 10 (by kernel_rfl) rfl (wanted_of fr rfl rfl rfl rfl) (ow_call fr rfl rfl Try.call28 (rends_is y1 true e2 _) rfl rfl ?_)
            rintro e w ⟨rfl, hag⟩
            refine ⟨_, rfl, ?_⟩
            intro a fr
            have st := st.keep hag
            clear hag
            refine ⟨st.sub (.cons_cons _ (.cons_cons _ (.cons_cons _ (.cons_cons _ .slnil)))), ?_⟩
            refine dr_take_y 11 rfl (by kernel_rfl) (by kernel_rfl) (by kernel_rfl) (fun _ _ _ h => h) fr (wanted_of fr rfl rfl rfl rfl) (st.sub (.cons_cons _ (.cons_cons _ (.cons_cons _ (.cons_cons _ .slnil))))) (fun w st => rn_not (fr.ev rfl)) rfl rfl ?_
            intro a fr
            refine dr_take 12 rfl (by kernel_rfl) (by kernel_rfl) (by kernel_rfl) (fun _ _ _ h => h) fr rfl (st.sub (.cons_cons _ (.cons_cons _ (.cons_cons _ (.cons_cons _ .slnil))))) (fun w st => rn_pick_t (fr.ev rfl) (fr.ev rfl)) rfl rfl ?_
            intro a fr
            refine dr_take 13 rfl (by kernel_rfl) (by kernel_rfl) (by kernel_rfl) (fun _ _ _ h => h) fr rfl (st.sub (.cons_cons _ (.cons_cons _ (.cons_cons _ (.cons_cons _ .slnil))))) (fun w st => rn_move (fr.ev rfl)) rfl rfl ?_
            intro a fr
            refine dr_take_y 14 rfl (by kernel_rfl) (by kernel_rfl) (by kernel_rfl) (fun _ _ _ h => h) fr (wanted_of fr rfl rfl rfl rfl) (st.sub (.cons_cons _ (.cons_cons _ (.cons_cons _ (.cons_cons _ .slnil))))) (fun w st => rn_move (fr.ev rfl)) rfl rfl ?_
            intro a fr
            refine dr_take_y 15 rfl (by kernel_rfl) (by kernel_rfl) (by kernel_rfl) (fun _ _ _ h => h) fr (wanted_of fr rfl rfl rfl rfl) (st.sub (.cons_cons _ (.cons_cons _ (.cons_cons _ (.cons_cons _ .slnil))))) (fun w st => rn_move (fr.ev rfl)) rfl rfl ?_
            intro a fr
            refine dr_take_y 16 rfl (by kernel_rfl) (by kernel_rfl) (by kernel_rfl) (fun _ _ _ h => h) fr (wanted_of fr rfl rfl rfl rfl) (st.sub (.cons_cons _ (.cons_cons _ (.cons_cons _ (.cons_cons _ .slnil))))) (fun w st => rn_at (i := i) (fr.ev rfl) (fr.ev rfl) Try.underlying24 sz_29 (by omega) (by rfl)) rfl rfl ?_
            intro a fr
            refine dr_take_y 17 rfl (by kernel_rfl) (by kernel_rfl) (by kernel_rfl) (fun _ _ _ h => h) fr (wanted_of fr rfl rfl rfl rfl) (st.sub (.cons_cons _ (.cons_cons _ (.cons_cons _ (.cons_cons _ .slnil))))) (fun w st => fa_29_1 (fr.ev rfl)) rfl rfl ?_
            intro a fr
            refine dr_take_y 18 rfl (by kernel_rfl) (by kernel_rfl) (by kernel_rfl) (fun _ _ _ h => h) fr (wanted_of fr rfl rfl rfl rfl) (st.sub (.cons_cons _ (.cons_cons _ (.cons_cons _ (.cons_cons _ .slnil))))) (fun w st => rn_load (fr.ev rfl) Try.underlying3 rfl (st.rocell 2 rfl (j := 1) rfl)) rfl rfl ?_
            intro a fr
            refine dr_one_y 19 (by kernel_rfl) rfl (wanted_of fr rfl rfl rfl rfl) (ow_call fr rfl rfl Try.call42 (rjumps_is y1 true e3 _) rfl rfl ?_)
            rintro e w ⟨rfl, hag⟩
            refine ⟨_, rfl, ?_⟩
            intro a fr
            have st := st.keep hag
            clear hag
            refine ⟨st.sub (.cons_cons _ (.cons_cons _ (.cons_cons _ (.cons_cons _ .slnil)))), ?_⟩
            refine dr_take_y 20 rfl (by kernel_rfl) (by kernel_rfl) (by kernel_rfl) (fun _ _ _ h => h) fr (wanted_of fr rfl rfl rfl rfl) (st.sub (.cons_cons _ (.cons_cons _ (.cons_cons _ (.cons_cons _ .slnil))))) (fun w st => rn_move (fr.ev rfl)) rfl rfl ?_
            intro a fr
            refine dr_take_y 21 rfl (by kernel_rfl) (by kernel_rfl) (by kernel_rfl) (fun _ _ _ h => h) fr (wanted_of fr rfl rfl rfl rfl) (st.sub (.cons_cons _ (.cons_cons _ (.cons_cons _ (.cons_cons _ .slnil))))) (fun w st => rn_move (fr.ev rfl)) rfl rfl ?_
            intro a fr
            refine dr_take_y 22 rfl (by kernel_rfl) (by kernel_rfl) (by kernel_rfl) (fun _ _ _ h => h) fr (wanted_of fr rfl rfl rfl rfl) (st.sub (.cons_cons _ (.cons_cons _ (.cons_cons _ (.cons_cons _ .slnil))))) (fun w st => rn_move (fr.ev rfl)) rfl rfl ?_
            intro a fr
            refine dr_take_y 23 rfl (by kernel_rfl) (by kernel_rfl) (by kernel_rfl) (fun _ _ _ h => h) fr (wanted_of fr rfl rfl rfl rfl) (st.sub (.cons_cons _ (.cons_cons _ (.cons_cons _ (.cons_cons _ .slnil))))) (fun w st => rn_at (i := k) (fr.ev rfl) (fr.ev rfl) Try.underlying24 sz_29 (by omega) (by rfl)) rfl rfl ?_
            intro a fr
            refine dr_take_y 24 rfl (by kernel_rfl) (by kernel_rfl) (by kernel_rfl) (fun _ _ _ h => h) fr (wanted_of fr rfl rfl rfl rfl) (st.sub (.cons_cons _ (.cons_cons _ (.cons_cons _ (.cons_cons _ .slnil))))) (fun w st => fa_29_0 (fr.ev rfl)) rfl rfl ?_
            intro a fr
            refine dr_take_y 25 rfl (by kernel_rfl) (by kernel_rfl) (by kernel_rfl) (fun _ _ _ h => h) fr (wanted_of fr rfl rfl rfl rfl) (st.sub (.cons_cons _ (.cons_cons _ (.cons_cons _ (.cons_cons _ .slnil))))) (fun w st => rn_load (fr.ev rfl) Try.underlying3 rfl (st.rocell 0 rfl (j := 0) rfl)) rfl rfl ?_
            intro a fr
            refine dr_take_y 26 rfl (by kernel_rfl) (by kernel_rfl) (by kernel_rfl) (fun _ _ _ h => h) fr (wanted_of fr rfl rfl rfl rfl) (st.sub (.cons_cons _ (.cons_cons _ (.cons_cons _ (.cons_cons _ .slnil))))) (fun w st => rn_move (fr.ev rfl)) rfl rfl ?_
            intro a fr
            refine dr_take_y 27 rfl (by kernel_rfl) (by kernel_rfl) (by kernel_rfl) (fun _ _ _ h => h) fr (wanted_of fr rfl rfl rfl rfl) (st.sub (.cons_cons _ (.cons_cons _ (.cons_cons _ (.cons_cons _ .slnil))))) (fun w st => rn_move (fr.ev rfl)) rfl rfl ?_
            intro a fr
            refine dr_take_y 28 rfl (by kernel_rfl) (by kernel_rfl) (by kernel_rfl) (fun _ _ _ h => h) fr (wanted_of fr rfl rfl rfl rfl) (st.sub (.cons_cons _ (.cons_cons _ (.cons_cons _ (.cons_cons _ .slnil))))) (fun w st => rn_at (i := i) (fr.ev rfl) (fr.ev rfl) Try.underlying24 sz_29 (by omega) (by rfl)) rfl rfl ?_
            intro a fr
            refine dr_take_y 29 rfl (by kernel_rfl) (by kernel_rfl) (by kernel_rfl) (fun _ _ _ h => h) fr (wanted_of fr rfl rfl rfl rfl) (st.sub (.cons_cons _ (.cons_cons _ (.cons_cons _ (.cons_cons _ .slnil))))) (fun w st => fa_29_2 (fr.ev rfl)) rfl rfl ?_
            intro a fr
            refine dr_take_y 30 rfl (by kernel_rfl) (by kernel_rfl) (by kernel_rfl) (fun _ _ _ h => h) fr (wanted_of fr rfl rfl rfl rfl) (st.sub (.cons_cons _ (.cons_cons _ (.cons_cons _ (.cons_cons _ .slnil))))) (fun w st => rn_load (fr.ev rfl) Try.underlying3 rfl (st.rocell 2 rfl (j := 2) rfl)) rfl rfl ?_
            intro a fr
            refine dr_take_y 31 rfl (by kernel_rfl) (by kernel_rfl) (by kernel_rfl) (fun _ _ _ h => h) fr (wanted_of fr rfl rfl rfl rfl) (st.sub (.cons_cons _ (.cons_cons _ (.cons_cons _ (.cons_cons _ .slnil))))) (fun w st => rn_as (v' := .bool false) (rn_eql (fr.ev rfl) (fr.ev rfl)) (congrArg Value.bool (by simp [e4]))) rfl rfl ?_
            intro a fr
            refine dr_take_y 32 rfl (by kernel_rfl) (by kernel_rfl) (by kernel_rfl) (fun _ _ _ h => h) fr (wanted_of fr rfl rfl rfl rfl) (st.sub (.cons_cons _ (.cons_cons _ (.cons_cons _ (.cons_cons _ .slnil))))) (fun w st => rn_pick_t (fr.ev rfl) (fr.ev rfl)) rfl rfl ?_
            intro a fr
            refine dr_take 33 rfl (by kernel_rfl) (by kernel_rfl) (by kernel_rfl) (fun _ _ _ h => h) fr rfl (st.sub (.cons_cons _ (.cons_cons _ (.cons_cons _ (.cons_cons _ .slnil))))) (fun w st => rn_pick_f (fr.ev rfl) (fr.ev rfl)) rfl rfl ?_
            intro a fr
            refine dr_done (by kernel_rfl) ?_
            refine then_n ?_
            refine cond_f fr rfl rfl ?_
            refine wp_skip ?_
            refine blk_n ?_
            refine then_n ?_
            refine reg ?_
            refine lst rfl (ow_v fr (rn_move (fr.ev rfl)) rfl rfl ?_)
            intro a fr
            refine lst rfl (ow_v fr (rn_add (a := (k : Nat)) (b := 1) (c := ((k + 1 : Nat) : Int)) (fr.ev rfl) (fr.ev rfl) (wr_i64e (by omega) (by omega) (by omega))) rfl rfl ?_)
            intro a fr
            refine lst rfl (ow_v fr (rn_assign (fr.ev rfl)) rfl rfl ?_)
            intro a fr
            refine wpList_nil ?_
            rw [nxL_n hnx] at st
            rw [nxL_n hnx] at fr
            refine then_n ⟨l.length - (k + 1), ?_, k + 1, A, c, (by omega), rfl, fr.prune ⟨rfl, rfl, rfl, rfl, trivial⟩, st.sub (.cons _ (.cons_cons _ (.cons_cons _ (.cons_cons _ .slnil))))⟩
            omega
        · replace e3 := Bool.eq_false_iff.2 e3
          have e1b : (k == i + 1) = true := by simp [e1]
          replace hnx : nx l i k = false := by rw [hnx]; simp [e1b, e2, e3]
          refine dr_start (by kernel_rfl) st (.cons_cons _ (.cons_cons _ (.cons_cons _ (.cons_cons _ .slnil)))) ?_
          intro w st
          refine dr_take 0 rfl (by kernel_rfl) (by kernel_rfl) (by kernel_rfl) (fun _ _ _ h => h) fr rfl (st.sub (.cons_cons _ (.cons_cons _ (.cons_cons _ (.cons_cons _ .slnil))))) (fun w st => rn_move (fr.ev rfl)) rfl rfl ?_
          intro a fr
          refine dr_take 1 rfl (by kernel_rfl) (by kernel_rfl) (by kernel_rfl) (fun _ _ _ h => h) fr rfl (st.sub (.cons_cons _ (.cons_cons _ (.cons_cons _ (.cons_cons _ .slnil))))) (fun w st => rn_move (fr.ev rfl)) rfl rfl ?_
          intro a fr
          refine dr_take 2 rfl (by kernel_rfl) (by kernel_rfl) (by kernel_rfl) (fun _ _ _ h => h) fr rfl (st.sub (.cons_cons _ (.cons_cons _ (.cons_cons _ (.cons_cons _ .slnil))))) (fun w st => rn_add (a := (i : Nat)) (b := 1) (c := ((i + 1 : Nat) : Int)) (fr.ev rfl) (fr.ev rfl) (wr_i64e (by omega) (by omega) (by omega))) rfl rfl ?_
          intro a fr
          refine dr_take 3 rfl (by kernel_rfl) (by kernel_rfl) (by kernel_rfl) (fun _ _ _ h => h) fr rfl (st.sub (.cons_cons _ (.cons_cons _ (.cons_cons _ (.cons_cons _ .slnil))))) (fun w st => rn_as (v' := .bool true) (rn_eql (fr.ev rfl) (fr.ev rfl)) (congrArg Value.bool (by simp only [beq_iff_eq]; omega))) rfl rfl ?_
          intro a fr
          refine dr_take 4 rfl (by kernel_rfl) (by kernel_rfl) (by kernel_rfl) (fun _ _ _ h => h) fr rfl (st.sub (.cons_cons _ (.cons_cons _ (.cons_cons _ (.cons_cons _ .slnil))))) (fun w st => rn_move (fr.ev rfl)) rfl rfl ?_
          intro a fr
          refine dr_take_y 5 rfl (by kernel_rfl) (by kernel_rfl) (by kernel_rfl) (fun _ _ _ h => h) fr (wanted_of fr rfl rfl rfl rfl) (st.sub (.cons_cons _ (.cons_cons _ (.cons_cons _ (.cons_cons _ .slnil))))) (fun w st => rn_move (fr.ev rfl)) rfl rfl ?_
          intro a fr
          refine dr_take_y 6 rfl (by kernel_rfl) (by kernel_rfl) (by kernel_rfl) (fun _ _ _ h => h) fr (wanted_of fr rfl rfl rfl rfl) (st.sub (.cons_cons _ (.cons_cons _ (.cons_cons _ (.cons_cons _ .slnil))))) (fun w st => rn_move (fr.ev rfl)) rfl rfl ?_
          intro a fr
          refine dr_take_y 7 rfl (by kernel_rfl) (by kernel_rfl) (by kernel_rfl) (fun _ _ _ h => h) fr (wanted_of fr rfl rfl rfl rfl) (st.sub (.cons_cons _ (.cons_cons _ (.cons_cons _ (.cons_cons _ .slnil))))) (fun w st => rn_at (i := i) (fr.ev rfl) (fr.ev rfl) Try.underlying24 sz_29 (by omega) (by rfl)) rfl rfl ?_
          intro a fr
          refine dr_take_y 8 rfl (by kernel_rfl) (by kernel_rfl) (by kernel_rfl) (fun _ _ _ h => h) fr (wanted_of fr rfl rfl rfl rfl) (st.sub (.cons_cons _ (.cons_cons _ (.cons_cons _ (.cons_cons _ .slnil))))) (fun w st => fa_29_1 (fr.ev rfl)) rfl rfl ?_
          intro a fr
          refine dr_take_y 9 rfl (by kernel_rfl) (by kernel_rfl) (by kernel_rfl) (fun _ _ _ h => h) fr (wanted_of fr rfl rfl rfl rfl) (st.sub (.cons_cons _ (.cons_cons _ (.cons_cons _ (.cons_cons _ .slnil))))) (fun w st => rn_load (fr.ev rfl) Try.underlying3 rfl (st.rocell 2 rfl (j := 1) rfl)) rfl rfl ?_
          intro a fr
          refine dr_one_y 10 (by kernel_rfl) rfl (wanted_of fr rfl rfl rfl rfl) (ow_call fr rfl rfl Try.call28 (rends_is y1 true e2 _) rfl rfl ?_)
          rintro e w ⟨rfl, hag⟩
          refine ⟨_, rfl, ?_⟩
          intro a fr
          have st := st.keep hag
          clear hag
          refine ⟨st.sub (.cons_cons _ (.cons_cons _ (.cons_cons _ (.cons_cons _ .slnil)))), ?_⟩
          refine dr_take_y 11 rfl (by kernel_rfl) (by kernel_rfl) (by kernel_rfl) (fun _ _ _ h => h) fr (wanted_of fr rfl rfl rfl rfl) (st.sub (.cons_cons _ (.cons_cons _ (.cons_cons _ (.cons_cons _ .slnil))))) (fun w st => rn_not (fr.ev rfl)) rfl rfl ?_
          intro a fr
          refine dr_take 12 rfl (by kernel_rfl) (by kernel_rfl) (by kernel_rfl) (fun _ _ _ h => h) fr rfl (st.sub (.cons_cons _ (.cons_cons _ (.cons_cons _ (.cons_cons _ .slnil))))) (fun w st => rn_pick_t (fr.ev rfl) (fr.ev rfl)) rfl rfl ?_
          intro a fr
          refine dr_take 13 rfl (by kernel_rfl) (by kernel_rfl) (by kernel_rfl) (fun _ _ _ h => h) fr rfl (st.sub (.cons_cons _ (.cons_cons _ (.cons_cons _ (.cons_cons _ .slnil))))) (fun w st => rn_move (fr.ev rfl)) rfl rfl ?_
          intro a fr
          refine dr_take_y 14 rfl (by kernel_rfl) (by kernel_rfl) (by kernel_rfl) (fun _ _ _ h => h) fr (wanted_of fr rfl rfl rfl rfl) (st.sub (.cons_cons _ (.cons_cons _ (.cons_cons _ (.cons_cons _ .slnil))))) (fun w st => rn_move (fr.ev rfl)) rfl rfl ?_
          intro a fr
          refine dr_take_y 15 rfl (by kernel_rfl) (by kernel_rfl) (by kernel_rfl) (fun _ _ _ h => h) fr (wanted_of fr rfl rfl rfl rfl) (st.sub (.cons_cons _ (.cons_cons _ (.cons_cons _ (.cons_cons _ .slnil))))) (fun w st => rn_move (fr.ev rfl)) rfl rfl ?_
          intro a fr
          refine dr_take_y 16 rfl (by kernel_rfl) (by kernel_rfl) (by kernel_rfl) (fun _ _ _ h => h) fr (wanted_of fr rfl rfl rfl rfl) (st.sub (.cons_cons _ (.cons_cons _ (.cons_cons _ (.cons_cons _ .slnil))))) (fun w st => rn_at (i := i) (fr.ev rfl) (fr.ev rfl) Try.underlying24 sz_29 (by omega) (by rfl)) rfl rfl ?_
          intro a fr
          refine dr_take_y 17 rfl (by kernel_rfl) (by kernel_rfl) (by kernel_rfl) (fun _ _ _ h => h) fr (wanted_of fr rfl rfl rfl rfl) (st.sub (.cons_cons _ (.cons_cons _ (.cons_cons _ (.cons_cons _ .slnil))))) (fun w st => fa_29_1 (fr.ev rfl)) rfl rfl ?_
          intro a fr
          refine dr_take_y 18 rfl (by kernel_rfl) (by kernel_rfl) (by kernel_rfl) (fun _ _ _ h => h) fr (wanted_of fr rfl rfl rfl rfl) (st.sub (.cons_cons _ (.cons_cons _ (.cons_cons _ (.cons_cons _ .slnil))))) (fun w st => rn_load (fr.ev rfl) Try.underlying3 rfl (st.rocell 2 rfl (j := 1) rfl)) rfl rfl ?_
          intro a fr
          refine dr_one_y 19 (by kernel_rfl) rfl (wanted_of fr rfl rfl rfl rfl) (ow_call fr rfl rfl Try.call42 (rjumps_is y1 false e3 _) rfl rfl ?_)
          rintro e w ⟨rfl, hag⟩
          refine ⟨_, rfl, ?_⟩
          intro a fr
          have st := st.keep hag
          clear hag
          refine ⟨st.sub (.cons_cons _ (.cons_cons _ (.cons_cons _ (.cons_cons _ .slnil)))), ?_⟩
          refine dr_take_y 20 rfl (by kernel_rfl) (by kernel_rfl) (by kernel_rfl) (fun _ _ _ h => h) fr (wanted_of fr rfl rfl rfl rfl) (st.sub (.cons_cons _ (.cons_cons _ (.cons_cons _ (.cons_cons _ .slnil))))) (fun w st => rn_move (fr.ev rfl)) rfl rfl ?_
          intro a fr
          refine dr_take_n 21 rfl (by kernel_rfl) (by kernel_rfl) (by kernel_rfl) (fun _ _ _ h => h) fr (unwanted_of fr rfl rfl rfl rfl) (st.sub (.cons_cons _ (.cons_cons _ (.cons_cons _ (.cons_cons _ .slnil))))) rfl rfl ?_
          intro a fr
          refine dr_take_n 22 rfl (by kernel_rfl) (by kernel_rfl) (by kernel_rfl) (fun _ _ _ h => h) fr (unwanted_of fr rfl rfl rfl rfl) (st.sub (.cons_cons _ (.cons_cons _ (.cons_cons _ (.cons_cons _ .slnil))))) rfl rfl ?_
          intro a fr
          refine dr_take_n 23 rfl (by kernel_rfl) (by kernel_rfl) (by kernel_rfl) (fun _ _ _ h => h) fr (unwanted_of fr rfl rfl rfl rfl) (st.sub (.cons_cons _ (.cons_cons _ (.cons_cons _ (.cons_cons _ .slnil))))) rfl rfl ?_
          intro a fr
          refine dr_take_n 24 rfl (by kernel_rfl) (by kernel_rfl) (by kernel_rfl) (fun _ _ _ h => h) fr (unwanted_of fr rfl rfl rfl rfl) (st.sub (.cons_cons _ (.cons_cons _ (.cons_cons _ (.cons_cons _ .slnil))))) rfl rfl ?_
          intro a fr
          refine dr_take_n 25 rfl (by kernel_rfl) (by kernel_rfl) (by kernel_rfl) (fun _ _ _ h => h) fr (unwanted_of fr rfl rfl rfl rfl) (st.sub (.cons_cons _ (.cons_cons _ (.cons_cons _ (.cons_cons _ .slnil))))) rfl rfl ?_
          intro a fr
          refine dr_take_n 26 rfl (by kernel_rfl) (by kernel_rfl) (by kernel_rfl) (fun _ _ _ h => h) fr (unwanted_of fr rfl rfl rfl rfl) (st.sub (.cons_cons _ (.cons_cons _ (.cons_cons _ (.cons_cons _ .slnil))))) rfl rfl ?_
          intro a fr
          refine dr_take_n 27 rfl (by kernel_rfl) (by kernel_rfl) (by kernel_rfl) (fun _ _ _ h => h) fr (unwanted_of fr rfl rfl rfl rfl) (st.sub (.cons_cons _ (.cons_cons _ (.cons_cons _ (.cons_cons _ .slnil))))) rfl rfl ?_
          intro a fr
          refine dr_take_n 28 rfl (by kernel_rfl) (by kernel_rfl) (by kernel_rfl) (fun _ _ _ h => h) fr (unwanted_of fr rfl rfl rfl rfl) (st.sub (.cons_cons _ (.cons_cons _ (.cons_cons _ (.cons_cons _ .slnil))))) rfl rfl ?_
          intro a fr
          refine dr_take_n 29 rfl (by kernel_rfl) (by kernel_rfl) (by kernel_rfl) (fun _ _ _ h => h) fr (unwanted_of fr rfl rfl rfl rfl) (st.sub (.cons_cons _ (.cons_cons _ (.cons_cons _ (.cons_cons _ .slnil))))) rfl rfl ?_
          intro a fr
          refine dr_take_n 30 rfl (by kernel_rfl) (by kernel_rfl) (by kernel_rfl) (fun _ _ _ h => h) fr (unwanted_of fr rfl rfl rfl rfl) (st.sub (.cons_cons _ (.cons_cons _ (.cons_cons _ (.cons_cons _ .slnil))))) rfl rfl ?_
          intro a fr
          refine dr_take_n 31 rfl (by kernel_rfl) (by kernel_rfl) (by kernel_rfl) (fun _ _ _ h => h) fr (unwanted_of fr rfl rfl rfl rfl) (st.sub (.cons_cons _ (.cons_cons _ (.cons_cons _ (.cons_cons _ .slnil))))) rfl rfl ?_
          intro a fr
          refine dr_take_y 32 rfl (by kernel_rfl) (by kernel_rfl) (by kernel_rfl) (fun _ _ _ h => h) fr (wanted_of fr rfl rfl rfl rfl) (st.sub (.cons_cons _ (.cons_cons _ (.cons_cons _ (.cons_cons _ .slnil))))) (fun w st => rn_pick_f (fr.ev rfl) (fr.ev rfl)) rfl rfl ?_
          intro a fr
          refine dr_take 33 rfl (by kernel_rfl) (by kernel_rfl) (by kernel_rfl) (fun _ _ _ h => h) fr rfl (st.sub (.cons_cons _ (.cons_cons _ (.cons_cons _ (.cons_cons _ .slnil))))) (fun w st => rn_pick_f (fr.ev rfl) (fr.ev rfl)) rfl rfl ?_
          intro a fr
          refine dr_done (by kernel_rfl) ?_
          refine then_n ?_
          refine cond_f fr rfl rfl ?_
          refine wp_skip ?_
          refine blk_n ?_
          refine then_n ?_
          refine reg ?_
          refine lst rfl (ow_v fr (rn_move (fr.ev rfl)) rfl rfl ?_)
          intro a fr
          refine lst rfl (ow_v fr (rn_add (a := (k : Nat)) (b := 1) (c := ((k + 1 : Nat) : Int)) (fr.ev rfl) (fr.ev rfl) (wr_i64e (by omega) (by omega) (by omega))) rfl rfl ?_)
          intro a fr
          refine lst rfl (ow_v fr (rn_assign (fr.ev rfl)) rfl rfl ?_)
          intro a fr
          refine wpList_nil ?_
          rw [nxL_n hnx] at st
          rw [nxL_n hnx] at fr
          refine then_n ⟨l.length - (k + 1), ?_, k + 1, A, c, (by omega), rfl, fr.prune ⟨rfl, rfl, rfl, rfl, trivial⟩, st.sub (.cons _ (.cons_cons _ (.cons_cons _ (.cons_cons _ .slnil))))⟩
          omega
      · replace e2 := Bool.eq_false_iff.2 e2
        have e1b : (k == i + 1) = true := by simp [e1]
        replace hnx : nx l i k = true := by rw [hnx]; simp [e1b, e2]
        refine dr_start (by kernel_rfl) st (.cons_cons _ (.cons_cons _ (.cons_cons _ (.cons_cons _ .slnil)))) ?_
        intro w st
        refine dr_take 0 rfl (by kernel_rfl) (by kernel_rfl) (by kernel_rfl) (fun _ _ _ h => h) fr rfl (st.sub (.cons_cons _ (.cons_cons _ (.cons_cons _ (.cons_cons _ .slnil))))) (fun w st => rn_move (fr.ev rfl)) rfl rfl ?_
        intro a fr
        refine dr_take 1 rfl (by kernel_rfl) (by kernel_rfl) (by kernel_rfl) (fun _ _ _ h => h) fr rfl (st.sub (.cons_cons _ (.cons_cons _ (.cons_cons _ (.cons_cons _ .slnil))))) (fun w st => rn_move (fr.ev rfl)) rfl rfl ?_
        intro a fr
        refine dr_take 2 rfl (by kernel_rfl) (by kernel_rfl) (by kernel_rfl) (fun _ _ _ h => h) fr rfl (st.sub (.cons_cons _ (.cons_cons _ (.cons_cons _ (.cons_cons _ .slnil))))) (fun w st => rn_add (a := (i : Nat)) (b := 1) (c := ((i + 1 : Nat) : Int)) (fr.ev rfl) (fr.ev rfl) (wr_i64e (by omega) (by omega) (by omega))) rfl rfl ?_
        intro a fr
        refine dr_take 3 rfl (by kernel_rfl) (by kernel_rfl) (by kernel_rfl) (fun _ _ _ h => h) fr rfl (st.sub (.cons_cons _ (.cons_cons _ (.cons_cons _ (.cons_cons _ .slnil))))) (fun w st => rn_as (v' := .bool true) (rn_eql (fr.ev rfl) (fr.ev rfl)) (congrArg Value.bool (by simp only [beq_iff_eq]; omega))) rfl rfl ?_
        intro a fr
        refine dr_take 4 rfl (by kernel_rfl) (by kernel_rfl) (by kernel_rfl) (fun _ _ _ h => h) fr rfl (st.sub (.cons_cons _ (.cons_cons _ (.cons_cons _ (.cons_cons _ .slnil))))) (fun w st => rn_move (fr.ev rfl)) rfl rfl ?_
        intro a fr
        refine dr_take_y 5 rfl (by kernel_rfl) (by kernel_rfl) (by kernel_rfl) (fun _ _ _ h => h) fr (wanted_of fr rfl rfl rfl rfl) (st.sub (.cons_cons _ (.cons_cons _ (.cons_cons _ (.cons_cons _ .slnil))))) (fun w st => rn_move (fr.ev rfl)) rfl rfl ?_
        intro a fr
        refine dr_take_y 6 rfl (by kernel_rfl) (by kernel_rfl) (by kernel_rfl) (fun _ _ _ h => h) fr (wanted_of fr rfl rfl rfl rfl) (st.sub (.cons_cons _ (.cons_cons _ (.cons_cons _ (.cons_cons _ .slnil))))) (fun w st => rn_move (fr.ev rfl)) rfl rfl ?_
        intro a fr
        refine dr_take_y 7 rfl (by kernel_rfl) (by kernel_rfl) (by kernel_rfl) (fun _ _ _ h => h) fr (wanted_of fr rfl rfl rfl rfl) (st.sub (.cons_cons _ (.cons_cons _ (.cons_cons _ (.cons_cons _ .slnil))))) (fun w st => rn_at (i := i) (fr.ev rfl) (fr.ev rfl) Try.underlying24 sz_29 (by omega) (by rfl)) rfl rfl ?_
        intro a fr
        refine dr_take_y 8 rfl (by kernel_rfl) (by kernel_rfl) (by kernel_rfl) (fun _ _ _ h => h) fr (wanted_of fr rfl rfl rfl rfl) (st.sub (.cons_cons _ (.cons_cons _ (.cons_cons _ (.cons_cons _ .slnil))))) (fun w st => fa_29_1 (fr.ev rfl)) rfl rfl ?_
        intro a fr
        refine dr_take_y 9 rfl (by kernel_rfl) (by kernel_rfl) (by kernel_rfl) (fun _ _ _ h => h) fr (wanted_of fr rfl rfl rfl rfl) (st.sub (.cons_cons _ (.cons_cons _ (.cons_cons _ (.cons_cons _ .slnil))))) (fun w st => rn_load (fr.ev rfl) Try.underlying3 rfl (st.rocell 2 rfl (j := 1) rfl)) rfl rfl ?_
        intro a fr
        refine dr_one_y 10 (by kernel_rfl) rfl (wanted_of fr rfl rfl rfl rfl) (ow_call fr rfl rfl Try.call28 (rends_is y1 false e2 _) rfl rfl ?_)
        rintro e w ⟨rfl, hag⟩
        refine ⟨_, rfl, ?_⟩
        intro a fr
        have st := st.keep hag
        clear hag
        refine ⟨st.sub (.cons_cons _ (.cons_cons _ (.cons_cons _ (.cons_cons _ .slnil)))), ?_⟩
        refine dr_take_y 11 rfl (by kernel_rfl) (by kernel_rfl) (by kernel_rfl) (fun _ _ _ h => h) fr (wanted_of fr rfl rfl rfl rfl) (st.sub (.cons_cons _ (.cons_cons _ (.cons_cons _ (.cons_cons _ .slnil))))) (fun w st => rn_not (fr.ev rfl)) rfl rfl ?_
        intro a fr
        refine dr_take 12 rfl (by kernel_rfl) (by kernel_rfl) (by kernel_rfl) (fun _ _ _ h => h) fr rfl (st.sub (.cons_cons _ (.cons_cons _ (.cons_cons _ (.cons_cons _ .slnil))))) (fun w st => rn_pick_t (fr.ev rfl) (fr.ev rfl)) rfl rfl ?_
        intro a fr
        refine dr_take 13 rfl (by kernel_rfl) (by kernel_rfl) (by kernel_rfl) (fun _ _ _ h => h) fr rfl (st.sub (.cons_cons _ (.cons_cons _ (.cons_cons _ (.cons_cons _ .slnil))))) (fun w st => rn_move (fr.ev rfl)) rfl rfl ?_
        intro a fr
        refine dr_take_n 14 rfl (by kernel_rfl) (by kernel_rfl) (by kernel_rfl) (fun _ _ _ h => h) fr (unwanted_of fr rfl rfl rfl rfl) (st.sub (.cons_cons _ (.cons_cons _ (.cons_cons _ (.cons_cons _ .slnil))))) rfl rfl ?_
        intro a fr
        refine dr_take_n 15 rfl (by kernel_rfl) (by kernel_rfl) (by kernel_rfl) (fun _ _ _ h => h) fr (unwanted_of fr rfl rfl rfl rfl) (st.sub (.cons_cons _ (.cons_cons _ (.cons_cons _ (.cons_cons _ .slnil))))) rfl rfl ?_
        intro a fr
        refine dr_take_n 16 rfl (by kernel_rfl) (by kernel_rfl) (by kernel_rfl) (fun _ _ _ h => h) fr (unwanted_of fr rfl rfl rfl rfl) (st.sub (.cons_cons _ (.cons_cons _ (.cons_cons _ (.cons_cons _ .slnil))))) rfl rfl ?_
        intro a fr
        refine dr_take_n 17 rfl (by kernel_rfl) (by kernel_rfl) (by kernel_rfl) (fun _ _ _ h => h) fr (unwanted_of fr rfl rfl rfl rfl) (st.sub (.cons_cons _ (.cons_cons _ (.cons_cons _ (.cons_cons _ .slnil))))) rfl rfl ?_
        intro a fr
        refine dr_take_n 18 rfl (by kernel_rfl) (by kernel_rfl) (by kernel_rfl) (fun _ _ _ h => h) fr (unwanted_of fr rfl rfl rfl rfl) (st.sub (.cons_cons _ (.cons_cons _ (.cons_cons _ (.cons_cons _ .slnil))))) rfl rfl ?_
        intro a fr
        refine dr_one_n 19 (by kernel_rfl) rfl (unwanted_of fr rfl rfl rfl rfl) fr rfl rfl (st.sub (.cons_cons _ (.cons_cons _ (.cons_cons _ (.cons_cons _ .slnil))))) ?_
        intro a fr
        refine dr_take_n 20 rfl (by kernel_rfl) (by kernel_rfl) (by kernel_rfl) (fun _ _ _ h => h) fr (unwanted_of fr rfl rfl rfl rfl) (st.sub (.cons_cons _ (.cons_cons _ (.cons_cons _ (.cons_cons _ .slnil))))) rfl rfl ?_
        intro a fr
        refine dr_take_n 21 rfl (by kernel_rfl) (by kernel_rfl) (by kernel_rfl) (fun _ _ _ h => h) fr (unwanted_u fr rfl rfl rfl) (st.sub (.cons_cons _ (.cons_cons _ (.cons_cons _ (.cons_cons _ .slnil))))) rfl rfl ?_
        intro a fr
        refine dr_take_n 22 rfl (by kernel_rfl) (by kernel_rfl) (by kernel_rfl) (fun _ _ _ h => h) fr (unwanted_u fr rfl rfl rfl) (st.sub (.cons_cons _ (.cons_cons _ (.cons_cons _ (.cons_cons _ .slnil))))) rfl rfl ?_
        intro a fr
        refine dr_take_n 23 rfl (by kernel_rfl) (by kernel_rfl) (by kernel_rfl) (fun _ _ _ h => h) fr (unwanted_u fr rfl rfl rfl) (st.sub (.cons_cons _ (.cons_cons _ (.cons_cons _ (.cons_cons _ .slnil))))) rfl rfl ?_
        intro a fr
        refine dr_take_n 24 rfl (by kernel_rfl) (by kernel_rfl) (by kernel_rfl) (fun _ _ _ h => h) fr (unwanted_u fr rfl rfl rfl) (st.sub (.cons_cons _ (.cons_cons _ (.cons_cons _ (.cons_cons _ .slnil))))) rfl rfl ?_
        intro a fr
        refine dr_take_n 25 rfl (by kernel_rfl) (by kernel_rfl) (by kernel_rfl) (fun _ _ _ h => h) fr (unwanted_u fr rfl rfl rfl) (st.sub (.cons_cons _ (.cons_cons _ (.cons_cons _ (.cons_cons _ .slnil))))) rfl rfl ?_
        intro a fr
        refine dr_take_n 26 rfl (by kernel_rfl) (by kernel_rfl) (by kernel_rfl) (fun _ _ _ h => h) fr (unwanted_u fr rfl rfl rfl) (st.sub (.cons_cons _ (.cons_cons _ (.cons_cons _ (.cons_cons _ .slnil))))) rfl rfl ?_
        intro a fr
        refine dr_take_n 27 rfl (by kernel_rfl) (by kernel_rfl) (by kernel_rfl) (fun _ _ _ h => h) fr (unwanted_u fr rfl rfl rfl) (st.sub (.cons_cons _ (.cons_cons _ (.cons_cons _ (.cons_cons _ .slnil))))) rfl rfl ?_
        intro a fr
        refine dr_take_n 28 rfl (by kernel_rfl) (by kernel_rfl) (by kernel_rfl) (fun _ _ _ h => h) fr (unwanted_u fr rfl rfl rfl) (st.sub (.cons_cons _ (.cons_cons _ (.cons_cons _ (.cons_cons _ .slnil))))) rfl rfl ?_
        intro a fr
        refine dr_take_n 29 rfl (by kernel_rfl) (by kernel_rfl) (by kernel_rfl) (fun _ _ _ h => h) fr (unwanted_u fr rfl rfl rfl) (st.sub (.cons_cons _ (.cons_cons _ (.cons_cons _ (.cons_cons _ .slnil))))) rfl rfl ?_
        intro a fr
        refine dr_take_n 30 rfl (by kernel_rfl) (by kernel_rfl) (by kernel_rfl) (fun _ _ _ h => h) fr (unwanted_u fr rfl rfl rfl) (st.sub (.cons_cons _ (.cons_cons _ (.cons_cons _ (.cons_cons _ .slnil))))) rfl rfl ?_
        intro a fr
        refine dr_take_n 31 rfl (by kernel_rfl) (by kernel_rfl) (by kernel_rfl) (fun _ _ _ h => h) fr (unwanted_u fr rfl rfl rfl) (st.sub (.cons_cons _ (.cons_cons _ (.cons_cons _ (.cons_cons _ .slnil))))) rfl rfl ?_
        intro a fr
        refine dr_take_n 32 rfl (by kernel_rfl) (by kernel_rfl) (by kernel_rfl) (fun _ _ _ h => h) fr (unwanted_of fr rfl rfl rfl rfl) (st.sub (.cons_cons _ (.cons_cons _ (.cons_cons _ (.cons_cons _ .slnil))))) rfl rfl ?_
        intro a fr
        refine dr_take 33 rfl (by kernel_rfl) (by kernel_rfl) (by kernel_rfl) (fun _ _ _ h => h) fr rfl (st.sub (.cons_cons _ (.cons_cons _ (.cons_cons _ (.cons_cons _ .slnil))))) (fun w st => rn_pick_t (fr.ev rfl) (fr.ev rfl)) rfl rfl ?_
        intro a fr
        refine dr_done (by kernel_rfl) ?_
        refine then_n ?_
        refine cond_t fr rfl rfl ?_
        refine reg ?_
        refine lst rfl (ow_v fr (rn_move (fr.ev rfl)) rfl rfl ?_)
        intro a fr
        refine lst rfl (ow_v fr (rn_move (fr.ev rfl)) rfl rfl ?_)
        intro a fr
        refine lst rfl (ow_bslice (E := 3) fr st rfl [.int .i64 ((k : Nat))] (fun w => by simp only [List.map_toArray, List.map_cons, List.map_nil]; rw [fr.ev (x := .tmp 58) rfl]; kernel_rfl) rfl rfl ?_)
        intro a w b6 fr st
        refine lst rfl (ow_append1 fr st 2 0 ((((k : Nat)) : Int)) rfl rfl rfl rfl rfl Try.underlying46 inf_3 (by rfl) (by decide) (fun _ => rfl) rfl (by (have := nxL_len l i k; omega)) (by unfold maxLen; (have := nxL_len l i k; omega)) (Nat.le_refl _) st.agr.size rfl rfl ?_)
        intro a w Ax7 cx8 fr (st : St _ [] w [.blk b6 [.int .i64 ((k : Nat))] 3, ro b1 (o2 + k * 4) [.int .i64 (x0), .int .i64 (x1), .int .i64 (x2), .int .i64 (x3)], row CI 1 3 w0.heap.size (.slice Ax7 (((nxL l i k) ++ [(((k : Nat)) : Int)]).length) cx8) (((nxL l i k) ++ [(((k : Nat)) : Int)])), ro b1 (o2 + i * 4) [.int .i64 (y0), .int .i64 (y1), .int .i64 (y2), .int .i64 (y3)], els insC 4 (some ⟨b1, o2, none⟩) l])
        refine lst rfl (ow_v fr (rn_assign (fr.ev rfl)) rfl rfl ?_)
        intro a fr
        refine wpList_nil ?_
        refine blk_n ?_
        refine then_n ?_
        refine reg ?_
        refine lst rfl (ow_v fr (rn_move (fr.ev rfl)) rfl rfl ?_)
        intro a fr
        refine lst rfl (ow_v fr (rn_add (a := (k : Nat)) (b := 1) (c := ((k + 1 : Nat) : Int)) (fr.ev rfl) (fr.ev rfl) (wr_i64e (by omega) (by omega) (by omega))) rfl rfl ?_)
        intro a fr
        refine lst rfl (ow_v fr (rn_assign (fr.ev rfl)) rfl rfl ?_)
        intro a fr
        refine wpList_nil ?_
        rw [nxL_y hnx] at st
        rw [nxL_y hnx] at fr
        refine then_n ⟨l.length - (k + 1), ?_, k + 1, Ax7, cx8, (by omega), rfl, fr.prune ⟨rfl, rfl, rfl, rfl, trivial⟩, st.sub (.cons _ (.cons _ (.cons_cons _ (.cons_cons _ (.cons_cons _ .slnil)))))⟩
        omega
    · by_cases e3 : jmp y1 = true
      · by_cases e4 : x0 = y2
        · have e1b : (k == i + 1) = false := by simp [e1]
          replace hnx : nx l i k = true := by rw [hnx]; simp [e1b, e3, e4]
          refine dr_start (by kernel_rfl) st (.cons_cons _ (.cons_cons _ (.cons_cons _ (.cons_cons _ .slnil)))) ?_
          intro w st
          refine dr_take 0 rfl (by kernel_rfl) (by kernel_rfl) (by kernel_rfl) (fun _ _ _ h => h) fr rfl (st.sub (.cons_cons _ (.cons_cons _ (.cons_cons _ (.cons_cons _ .slnil))))) (fun w st => rn_move (fr.ev rfl)) rfl rfl ?_
          intro a fr
          refine dr_take 1 rfl (by kernel_rfl) (by kernel_rfl) (by kernel_rfl) (fun _ _ _ h => h) fr rfl (st.sub (.cons_cons _ (.cons_cons _ (.cons_cons _ (.cons_cons _ .slnil))))) (fun w st => rn_move (fr.ev rfl)) rfl rfl ?_
          intro a fr
          refine dr_take 2 rfl (by kernel_rfl) (by kernel_rfl) (by kernel_rfl) (fun _ _ _ h => h) fr rfl (st.sub (.cons_cons _ (.cons_cons _ (.cons_cons _ (.cons_cons _ .slnil))))) (fun w st => rn_add (a := (i : Nat)) (b := 1) (c := ((i + 1 : Nat) : Int)) (fr.ev rfl) (fr.ev rfl) (wr_i64e (by omega) (by omega) (by omega))) rfl rfl ?_
          intro a fr
          refine dr_take 3 rfl (by kernel_rfl) (by kernel_rfl) (by kernel_rfl) (fun _ _ _ h => h) fr rfl (st.sub (.cons_cons _ (.cons_cons _ (.cons_cons _ (.cons_cons _ .slnil))))) (fun w st => rn_as (v' := .bool false) (rn_eql (fr.ev rfl) (fr.ev rfl)) (congrArg Value.bool (by simp only [beq_eq_false_iff_ne, ne_eq]; omega))) rfl rfl ?_
          intro a fr
          refine dr_take 4 rfl (by kernel_rfl) (by kernel_rfl) (by kernel_rfl) (fun _ _ _ h => h) fr rfl (st.sub (.cons_cons _ (.cons_cons _ (.cons_cons _ (.cons_cons _ .slnil))))) (fun w st => rn_move (fr.ev rfl)) rfl rfl ?_
          intro a fr
          refine dr_take_n 5 rfl (by kernel_rfl) (by kernel_rfl) (by kernel_rfl) (fun _ _ _ h => h) fr (unwanted_of fr rfl rfl rfl rfl) (st.sub (.cons_cons _ (.cons_cons _ (.cons_cons _ (.cons_cons _ .slnil))))) rfl rfl ?_
          intro a fr
          refine dr_take_n 6 rfl (by kernel_rfl) (by kernel_rfl) (by kernel_rfl) (fun _ _ _ h => h) fr (unwanted_of fr rfl rfl rfl rfl) (st.sub (.cons_cons _ (.cons_cons _ (.cons_cons _ (.cons_cons _ .slnil))))) rfl rfl ?_
          intro a fr
          refine dr_take_n 7 rfl (by kernel_rfl) (by kernel_rfl) (by kernel_rfl) (fun _ _ _ h => h) fr (unwanted_of fr rfl rfl rfl rfl) (st.sub (.cons_cons _ (.cons_cons _ (.cons_cons _ (.cons_cons _ .slnil))))) rfl rfl ?_
          intro a fr
          refine dr_take_n 8 rfl (by kernel_rfl) (by kernel_rfl) (by kernel_rfl) (fun _ _ _ h => h) fr (unwanted_of fr rfl rfl rfl rfl) (st.sub (.cons_cons _ (.cons_cons _ (.cons_cons _ (.cons_cons _ .slnil))))) rfl rfl ?_
          intro a fr
          refine dr_take_n 9 rfl (by kernel_rfl) (by kernel_rfl) (by kernel_rfl) (fun _ _ _ h => h) fr (unwanted_of fr rfl rfl rfl rfl) (st.sub (.cons_cons _ (.cons_cons _ (.cons_cons _ (.cons_cons _ .slnil))))) rfl rfl ?_
          intro a fr
          refine dr_one_n 10 (by kernel_rfl) rfl (unwanted_of fr rfl rfl rfl rfl) fr rfl rfl (st.sub (.cons_cons _ (.cons_cons _ (.cons_cons _ (.cons_cons _ .slnil))))) ?_
          intro a fr
          refine dr_take_n 11 rfl (by kernel_rfl) (by kernel_rfl) (by kernel_rfl) (fun _ _ _ h => h) fr (unwanted_of fr rfl rfl rfl rfl) (st.sub (.cons_cons _ (.cons_cons _ (.cons_cons _ (.cons_cons _ .slnil))))) rfl rfl ?_
          intro a fr
          refine dr_take 12 rfl (by kernel_rfl) (by kernel_rfl) (by kernel_rfl) (fun _ _ _ h => h) fr rfl (st.sub (.cons_cons _ (.cons_cons _ (.cons_cons _ (.cons_cons _ .slnil))))) (fun w st => rn_pick_f (fr.ev rfl) (fr.ev rfl)) rfl rfl ?_
          intro a fr
          refine dr_take 13 rfl (by kernel_rfl) (by kernel_rfl) (by kernel_rfl) (fun _ _ _ h => h) fr rfl (st.sub (.cons_cons _ (.cons_cons _ (.cons_cons _ (.cons_cons _ .slnil))))) (fun w st => rn_move (fr.ev rfl)) rfl rfl ?_
          intro a fr
          refine dr_take_y 14 rfl (by kernel_rfl) (by kernel_rfl) (by kernel_rfl) (fun _ _ _ h => h) fr (wanted_of fr rfl rfl rfl rfl) (st.sub (.cons_cons _ (.cons_cons _ (.cons_cons _ (.cons_cons _ .slnil))))) (fun w st => rn_move (fr.ev rfl)) rfl rfl ?_
          intro a fr
          refine dr_take_y 15 rfl (by kernel_rfl) (by kernel_rfl) (by kernel_rfl) (fun _ _ _ h => h) fr (wanted_of fr rfl rfl rfl rfl) (st.sub (.cons_cons _ (.cons_cons _ (.cons_cons _ (.cons_cons _ .slnil))))) (fun w st => rn_move (fr.ev rfl)) rfl rfl ?_
          intro a fr
          refine dr_take_y 16 rfl (by kernel_rfl) (by kernel_rfl) (by kernel_rfl) (fun _ _ _ h => h) fr (wanted_of fr rfl rfl rfl rfl) (st.sub (.cons_cons _ (.cons_cons _ (.cons_cons _ (.cons_cons _ .slnil))))) (fun w st => rn_at (i := i) (fr.ev rfl) (fr.ev rfl) Try.underlying24 sz_29 (by omega) (by rfl)) rfl rfl ?_
          intro a fr
          refine dr_take_y 17 rfl (by kernel_rfl) (by kernel_rfl) (by kernel_rfl) (fun _ _ _ h => h) fr (wanted_of fr rfl rfl rfl rfl) (st.sub (.cons_cons _ (.cons_cons _ (.cons_cons _ (.cons_cons _ .slnil))))) (fun w st => fa_29_1 (fr.ev rfl)) rfl rfl ?_
          intro a fr
          refine dr_take_y 18 rfl (by kernel_rfl) (by kernel_rfl) (by kernel_rfl) (fun _ _ _ h => h) fr (wanted_of fr rfl rfl rfl rfl) (st.sub (.cons_cons _ (.cons_cons _ (.cons_cons _ (.cons_cons _ .slnil))))) (fun w st => rn_load (fr.ev rfl) Try.underlying3 rfl (st.rocell 2 rfl (j := 1) rfl)) rfl rfl ?_
          intro a fr
          refine dr_one_y 19 (by kernel_rfl) rfl (wanted_of fr rfl rfl rfl rfl) (ow_call fr rfl rfl Try.call42 (rjumps_is y1 true e3 _) rfl rfl ?_)
          rintro e w ⟨rfl, hag⟩
          refine ⟨_, rfl, ?_⟩
          intro a fr
          have st := st.keep hag
          clear hag
          refine ⟨st.sub (.cons_cons _ (.cons_cons _ (.cons_cons _ (.cons_cons _ .slnil)))), ?_⟩
          refine dr_take_y 20 rfl (by kernel_rfl) (by kernel_rfl) (by kernel_rfl) (fun _ _ _ h => h) fr (wanted_of fr rfl rfl rfl rfl) (st.sub (.cons_cons _ (.cons_cons _ (.cons_cons _ (.cons_cons _ .slnil))))) (fun w st => rn_move (fr.ev rfl)) rfl rfl ?_
          intro a fr
          refine dr_take_y 21 rfl (by kernel_rfl) (by kernel_rfl) (by kernel_rfl) (fun _ _ _ h => h) fr (wanted_of fr rfl rfl rfl rfl) (st.sub (.cons_cons _ (.cons_cons _ (.cons_cons _ (.cons_cons _ .slnil))))) (fun w st => rn_move (fr.ev rfl)) rfl rfl ?_
          intro a fr
          refine dr_take_y 22 rfl (by kernel_rfl) (by kernel_rfl) (by kernel_rfl) (fun _ _ _ h => h) fr (wanted_of fr rfl rfl rfl rfl) (st.sub (.cons_cons _ (.cons_cons _ (.cons_cons _ (.cons_cons _ .slnil))))) (fun w st => rn_move (fr.ev rfl)) rfl rfl ?_
          intro a fr
          refine dr_take_y 23 rfl (by kernel_rfl) (by kernel_rfl) (by kernel_rfl) (fun _ _ _ h => h) fr (wanted_of fr rfl rfl rfl rfl) (st.sub (.cons_cons _ (.cons_cons _ (.cons_cons _ (.cons_cons _ .slnil))))) (fun w st => rn_at (i := k) (fr.ev rfl) (fr.ev rfl) Try.underlying24 sz_29 (by omega) (by rfl)) rfl rfl ?_
          intro a fr
          refine dr_take_y 24 rfl (by kernel_rfl) (by kernel_rfl) (by kernel_rfl) (fun _ _ _ h => h) fr (wanted_of fr rfl rfl rfl rfl) (st.sub (.cons_cons _ (.cons_cons _ (.cons_cons _ (.cons_cons _ .slnil))))) (fun w st => fa_29_0 (fr.ev rfl)) rfl rfl ?_
          intro a fr
          refine dr_take_y 25 rfl (by kernel_rfl) (by kernel_rfl) (by kernel_rfl) (fun _ _ _ h => h) fr (wanted_of fr rfl rfl rfl rfl) (st.sub (.cons_cons _ (.cons_cons _ (.cons_cons _ (.cons_cons _ .slnil))))) (fun w st => rn_load (fr.ev rfl) Try.underlying3 rfl (st.rocell 0 rfl (j := 0) rfl)) rfl rfl ?_
          intro a fr
          refine dr_take_y 26 rfl (by kernel_rfl) (by kernel_rfl) (by kernel_rfl) (fun _ _ _ h => h) fr (wanted_of fr rfl rfl rfl rfl) (st.sub (.cons_cons _ (.cons_cons _ (.cons_cons _ (.cons_cons _ .slnil))))) (fun w st => rn_move (fr.ev rfl)) rfl rfl ?_
          intro a fr
          refine dr_take_y 27 rfl (by kernel_rfl) (by kernel_rfl) (by kernel_rfl) (fun _ _ _ h => h) fr (wanted_of fr rfl rfl rfl rfl) (st.sub (.cons_cons _ (.cons_cons _ (.cons_cons _ (.cons_cons _ .slnil))))) (fun w st => rn_move (fr.ev rfl)) rfl rfl ?_
          intro a fr
          refine dr_take_y 28 rfl (by kernel_rfl) (by kernel_rfl) (by kernel_rfl) (fun _ _ _ h => h) fr (wanted_of fr rfl rfl rfl rfl) (st.sub (.cons_cons _ (.cons_cons _ (.cons_cons _ (.cons_cons _ .slnil))))) (fun w st => rn_at (i := i) (fr.ev rfl) (fr.ev rfl) Try.underlying24 sz_29 (by omega) (by rfl)) rfl rfl ?_
          intro a fr
          refine dr_take_y 29 rfl (by kernel_rfl) (by kernel_rfl) (by kernel_rfl) (fun _ _ _ h => h) fr (wanted_of fr rfl rfl rfl rfl) (st.sub (.cons_cons _ (.cons_cons _ (.cons_cons _ (.cons_cons _ .slnil))))) (fun w st => fa_29_2 (fr.ev rfl)) rfl rfl ?_
          intro a fr
          refine dr_take_y 30 rfl (by kernel_rfl) (by kernel_rfl) (by kernel_rfl) (fun _ _ _ h => h) fr (wanted_of fr rfl rfl rfl rfl) (st.sub (.cons_cons _ (.cons_cons _ (.cons_cons _ (.cons_cons _ .slnil))))) (fun w st => rn_load (fr.ev rfl) Try.underlying3 rfl (st.rocell 2 rfl (j := 2) rfl)) rfl rfl ?_
          intro a fr
          refine dr_take_y 31 rfl (by kernel_rfl) (by kernel_rfl) (by kernel_rfl) (fun _ _ _ h => h) fr (wanted_of fr rfl rfl rfl rfl) (st.sub (.cons_cons _ (.cons_cons _ (.cons_cons _ (.cons_cons _ .slnil))))) (fun w st => rn_as (v' := .bool true) (rn_eql (fr.ev rfl) (fr.ev rfl)) (congrArg Value.bool (by simp [e4]))) rfl rfl ?_
          intro a fr
          refine dr_take_y 32 rfl (by kernel_rfl) (by kernel_rfl) (by kernel_rfl) (fun _ _ _ h => h) fr (wanted_of fr rfl rfl rfl rfl) (st.sub (.cons_cons _ (.cons_cons _ (.cons_cons _ (.cons_cons _ .slnil))))) (fun w st => rn_pick_t (fr.ev rfl) (fr.ev rfl)) rfl rfl ?_
          intro a fr
          refine dr_take 33 rfl (by kernel_rfl) (by kernel_rfl) (by kernel_rfl) (fun _ _ _ h => h) fr rfl (st.sub (.cons_cons _ (.cons_cons _ (.cons_cons _ (.cons_cons _ .slnil))))) (fun w st => rn_pick_f (fr.ev rfl) (fr.ev rfl)) rfl rfl ?_
          intro a fr
          refine dr_done (by kernel_rfl) ?_
          refine then_n ?_
          refine cond_t fr rfl rfl ?_
          refine reg ?_
          refine lst rfl (ow_v fr (rn_move (fr.ev rfl)) rfl rfl ?_)
          intro a fr
          refine lst rfl (ow_v fr (rn_move (fr.ev rfl)) rfl rfl ?_)
          intro a fr
          refine lst rfl (ow_bslice (E := 3) fr st rfl [.int .i64 ((k : Nat))] (fun w => by simp only [List.map_toArray, List.map_cons, List.map_nil]; rw [fr.ev (x := .tmp 58) rfl]; kernel_rfl) rfl rfl ?_)
          intro a w b9 fr st
          refine lst rfl (ow_append1 fr st 2 0 ((((k : Nat)) : Int)) rfl rfl rfl rfl rfl Try.underlying46 inf_3 (by rfl) (by decide) (fun _ => rfl) rfl (by (have := nxL_len l i k; omega)) (by unfold maxLen; (have := nxL_len l i k; omega)) (Nat.le_refl _) st.agr.size rfl rfl ?_)
          intro a w Ax10 cx11 fr (st : St _ [] w [.blk b9 [.int .i64 ((k : Nat))] 3, ro b1 (o2 + k * 4) [.int .i64 (x0), .int .i64 (x1), .int .i64 (x2), .int .i64 (x3)], row CI 1 3 w0.heap.size (.slice Ax10 (((nxL l i k) ++ [(((k : Nat)) : Int)]).length) cx11) (((nxL l i k) ++ [(((k : Nat)) : Int)])), ro b1 (o2 + i * 4) [.int .i64 (y0), .int .i64 (y1), .int .i64 (y2), .int .i64 (y3)], els insC 4 (some ⟨b1, o2, none⟩) l])
          refine lst rfl (ow_v fr (rn_assign (fr.ev rfl)) rfl rfl ?_)
          intro a fr
          refine wpList_nil ?_
          refine blk_n ?_
          refine then_n ?_
          refine reg ?_
          refine lst rfl (ow_v fr (rn_move (fr.ev rfl)) rfl rfl ?_)
          intro a fr
          refine lst rfl (ow_v fr (rn_add (a := (k : Nat)) (b := 1) (c := ((k + 1 : Nat) : Int)) (fr.ev rfl) (fr.ev rfl) (wr_i64e (by omega) (by omega) (by omega))) rfl rfl ?_)
          intro a fr
          refine lst rfl (ow_v fr (rn_assign (fr.ev rfl)) rfl rfl ?_)
          intro a fr
          refine wpList_nil ?_
          rw [nxL_y hnx] at st
          rw [nxL_y hnx] at fr
          refine then_n ⟨l.length - (k + 1), ?_, k + 1, Ax10, cx11, (by omega), rfl, fr.prune ⟨rfl, rfl, rfl, rfl, trivial⟩, st.sub (.cons _ (.cons _ (.cons_cons _ (.cons_cons _ (.cons_cons _ .slnil)))))⟩
          omega
        · have e1b : (k == i + 1) = false := by simp [e1]
          replace hnx : nx l i k = false := by rw [hnx]; simp [e1b, e3, e4]
          refine dr_start (by kernel_rfl) st (.cons_cons _ (.cons_cons _ (.cons_cons _ (.cons_cons _ .slnil)))) ?_
          intro w st
          refine dr_take 0 rfl (by kernel_rfl) (by kernel_rfl) (by kernel_rfl) (fun _ _ _ h => h) fr rfl (st.sub (.cons_cons _ (.cons_cons _ (.cons_cons _ (.cons_cons _ .slnil))))) (fun w st => rn_move (fr.ev rfl)) rfl rfl ?_
          intro a fr
          refine dr_take 1 rfl (by kernel_rfl) (by kernel_rfl) (by kernel_rfl) (fun _ _ _ h => h) fr rfl (st.sub (.cons_cons _ (.cons_cons _ (.cons_cons _ (.cons_cons _ .slnil))))) (fun w st => rn_move (fr.ev rfl)) rfl rfl ?_
          intro a fr
          refine dr_take 2 rfl (by kernel_rfl) (by kernel_rfl) (by kernel_rfl) (fun _ _ _ h => h) fr rfl (st.sub (.cons_cons _ (.cons_cons _ (.cons_cons _ (.cons_cons _ .slnil))))) (fun w st => rn_add (a := (i : Nat)) (b := 1) (c := ((i + 1 : Nat) : Int)) (fr.ev rfl) (fr.ev rfl) (wr_i64e (by omega) (by omega) (by omega))) rfl rfl ?_
          intro a fr
          refine dr_take 3 rfl (by kernel_rfl) (by kernel_rfl) (by kernel_rfl) (fun _ _ _ h => h) fr rfl (st.sub (.cons_cons _ (.cons_cons _ (.cons_cons _ (.cons_cons _ .slnil))))) (fun w st => rn_as (v' := .bool false) (rn_eql (fr.ev rfl) (fr.ev rfl)) (congrArg Value.bool (by simp only [beq_eq_false_iff_ne, ne_eq]; omega))) rfl rfl ?_
          intro a fr
          refine dr_take 4 rfl (by kernel_rfl) (by kernel_rfl) (by kernel_rfl) (fun _ _ _ h => h) fr rfl (st.sub (.cons_cons _ (.cons_cons _ (.cons_cons _ (.cons_cons _ .slnil))))) (fun w st => rn_move (fr.ev rfl)) rfl rfl ?_
          intro a fr
          refine dr_take_n 5 rfl (by kernel_rfl) (by kernel_rfl) (by kernel_rfl) (fun _ _ _ h => h) fr (unwanted_of fr rfl rfl rfl rfl) (st.sub (.cons_cons _ (.cons_cons _ (.cons_cons _ (.cons_cons _ .slnil))))) rfl rfl ?_
          intro a fr
          refine dr_take_n 6 rfl (by kernel_rfl) (by kernel_rfl) (by kernel_rfl) (fun _ _ _ h => h) fr (unwanted_of fr rfl rfl rfl rfl) (st.sub (.cons_cons _ (.cons_cons _ (.cons_cons _ (.cons_cons _ .slnil))))) rfl rfl ?_
          intro a fr
          refine dr_take_n 7 rfl (by kernel_rfl) (by kernel_rfl) (by kernel_rfl) (fun _ _ _ h => h) fr (unwanted_of fr rfl rfl rfl rfl) (st.sub (.cons_cons _ (.cons_cons _ (.cons_cons _ (.cons_cons _ .slnil))))) rfl rfl ?_
          intro a fr
          refine dr_take_n 8 rfl (by kernel_rfl) (by kernel_rfl) (by kernel_rfl) (fun _ _ _ h => h) fr (unwanted_of fr rfl rfl rfl rfl) (st.sub (.cons_cons _ (.cons_cons _ (.cons_cons _ (.cons_cons _ .slnil))))) rfl rfl ?_
          intro a fr
          refine dr_take_n 9 rfl (by kernel_rfl) (by kernel_rfl) (by kernel_rfl) (fun _ _ _ h => h) fr (unwanted_of fr rfl rfl rfl rfl) (st.sub (.cons_cons _ (.cons_cons _ (.cons_cons _ (.cons_cons _ .slnil))))) rfl rfl ?_
          intro a fr
          refine dr_one_n 10 (by kernel_rfl) rfl (unwanted_of fr rfl rfl rfl rfl) fr rfl rfl (st.sub (.cons_cons _ (.cons_cons _ (.cons_cons _ (.cons_cons _ .slnil))))) ?_
          intro a fr
          refine dr_take_n 11 rfl (by kernel_rfl) (by kernel_rfl) (by kernel_rfl) (fun _ _ _ h => h) fr (unwanted_of fr rfl rfl rfl rfl) (st.sub (.cons_cons _ (.cons_cons _ (.cons_cons _ (.cons_cons _ .slnil))))) rfl rfl ?_
          intro a fr
          refine dr_take 12 rfl (by kernel_rfl) (by kernel_rfl) (by kernel_rfl) (fun _ _ _ h => h) fr rfl (st.sub (.cons_cons _ (.cons_cons _ (.cons_cons _ (.cons_cons _ .slnil))))) (fun w st => rn_pick_f (fr.ev rfl) (fr.ev rfl)) rfl rfl ?_
          intro a fr
          refine dr_take 13 rfl (by kernel_rfl) (by kernel_rfl) (by kernel_rfl) (fun _ _ _ h => h) fr rfl (st.sub (.cons_cons _ (.cons_cons _ (.cons_cons _ (.cons_cons _ .slnil))))) (fun w st => rn_move (fr.ev rfl)) rfl rfl ?_
          intro a fr
          refine dr_take_y 14 rfl (by kernel_rfl) (by kernel_rfl) (by kernel_rfl) (fun _ _ _ h => h) fr (wanted_of fr rfl rfl rfl rfl) (st.sub (.cons_cons _ (.cons_cons _ (.cons_cons _ (.cons_cons _ .slnil))))) (fun w st => rn_move (fr.ev rfl)) rfl rfl ?_
          intro a fr
          refine dr_take_y 15 rfl (by kernel_rfl) (by kernel_rfl) (by kernel_rfl) (fun _ _ _ h => h) fr (wanted_of fr rfl rfl rfl rfl) (st.sub (.cons_cons _ (.cons_cons _ (.cons_cons _ (.cons_cons _ .slnil))))) (fun w st => rn_move (fr.ev rfl)) rfl rfl ?_
          intro a fr
          refine dr_take_y 16 rfl (by kernel_rfl) (by kernel_rfl) (by kernel_rfl) (fun _ _ _ h => h) fr (wanted_of fr rfl rfl rfl rfl) (st.sub (.cons_cons _ (.cons_cons _ (.cons_cons _ (.cons_cons _ .slnil))))) (fun w st => rn_at (i := i) (fr.ev rfl) (fr.ev rfl) Try.underlying24 sz_29 (by omega) (by rfl)) rfl rfl ?_
          intro a fr
          refine dr_take_y 17 rfl (by kernel_rfl) (by kernel_rfl) (by kernel_rfl) (fun _ _ _ h => h) fr (wanted_of fr rfl rfl rfl rfl) (st.sub (.cons_cons _ (.cons_cons _ (.cons_cons _ (.cons_cons _ .slnil))))) (fun w st => fa_29_1 (fr.ev rfl)) rfl rfl ?_
          intro a fr
          refine dr_take_y 18 rfl (by kernel_rfl) (by kernel_rfl) (by kernel_rfl) (fun _ _ _ h => h) fr (wanted_of fr rfl rfl rfl rfl) (st.sub (.cons_cons _ (.cons_cons _ (.cons_cons _ (.cons_cons _ .slnil))))) (fun w st => rn_load (fr.ev rfl) Try.underlying3 rfl (st.rocell 2 rfl (j := 1) rfl)) rfl rfl ?_
          intro a fr
          refine dr_one_y 19 (by kernel_rfl) rfl (wanted_of fr rfl rfl rfl rfl) (ow_call fr rfl rfl Try.call42 (rjumps_is y1 true e3 _) rfl rfl ?_)
          rintro e w ⟨rfl, hag⟩
          refine ⟨_, rfl, ?_⟩
          intro a fr
          have st := st.keep hag
          clear hag
          refine ⟨st.sub (.cons_cons _ (.cons_cons _ (.cons_cons _ (.cons_cons _ .slnil)))), ?_⟩
          refine dr_take_y 20 rfl (by kernel_rfl) (by kernel_rfl) (by kernel_rfl) (fun _ _ _ h => h) fr (wanted_of fr rfl rfl rfl rfl) (st.sub (.cons_cons _ (.cons_cons _ (.cons_cons _ (.cons_cons _ .slnil))))) (fun w st => rn_move (fr.ev rfl)) rfl rfl ?_
          intro a fr
          refine dr_take_y 21 rfl (by kernel_rfl) (by kernel_rfl) (by kernel_rfl) (fun _ _ _ h => h) fr (wanted_of fr rfl rfl rfl rfl) (st.sub (.cons_cons _ (.cons_cons _ (.cons_cons _ (.cons_cons _ .slnil))))) (fun w st => rn_move (fr.ev rfl)) rfl rfl ?_
          intro a fr
          refine dr_take_y 22 rfl (by kernel_rfl) (by kernel_rfl) (by kernel_rfl) (fun _ _ _ h => h) fr (wanted_of fr rfl rfl rfl rfl) (st.sub (.cons_cons _ (.cons_cons _ (.cons_cons _ (.cons_cons _ .slnil))))) (fun w st => rn_move (fr.ev rfl)) rfl rfl ?_
          intro a fr
          refine dr_take_y 23 rfl (by kernel_rfl) (by kernel_rfl) (by kernel_rfl) (fun _ _ _ h => h) fr (wanted_of fr rfl rfl rfl rfl) (st.sub (.cons_cons _ (.cons_cons _ (.cons_cons _ (.cons_cons _ .slnil))))) (fun w st => rn_at (i := k) (fr.ev rfl) (fr.ev rfl) Try.underlying24 sz_29 (by omega) (by rfl)) rfl rfl ?_
          intro a fr
          refine dr_take_y 24 rfl (by kernel_rfl) (by kernel_rfl) (by kernel_rfl) (fun _ _ _ h => h) fr (wanted_of fr rfl rfl rfl rfl) (st.sub (.cons_cons _ (.cons_cons _ (.cons_cons _ (.cons_cons _ .slnil))))) (fun w st => fa_29_0 (fr.ev rfl)) rfl rfl ?_
          intro a fr
          refine dr_take_y 25 rfl (by kernel_rfl) (by kernel_rfl) (by kernel_rfl) (fun _ _ _ h => h) fr (wanted_of fr rfl rfl rfl rfl) (st.sub (.cons_cons _ (.cons_cons _ (.cons_cons _ (.cons_cons _ .slnil))))) (fun w st => rn_load (fr.ev rfl) Try.underlying3 rfl (st.rocell 0 rfl (j := 0) rfl)) rfl rfl ?_
          intro a fr
          refine dr_take_y 26 rfl (by kernel_rfl) (by kernel_rfl) (by kernel_rfl) (fun _ _ _ h => h) fr (wanted_of fr rfl rfl rfl rfl) (st.sub (.cons_cons _ (.cons_cons _ (.cons_cons _ (.cons_cons _ .slnil))))) (fun w st => rn_move (fr.ev rfl)) rfl rfl ?_
          intro a fr
          refine dr_take_y 27 rfl (by kernel_rfl) (by kernel_rfl) (by kernel_rfl) (fun _ _ _ h => h) fr (wanted_of fr rfl rfl rfl rfl) (st.sub (.cons_cons _ (.cons_cons _ (.cons_cons _ (.cons_cons _ .slnil))))) (fun w st => rn_move (fr.ev rfl)) rfl rfl ?_
          intro a fr
          refine dr_take_y 28 rfl (by kernel_rfl) (by kernel_rfl) (by kernel_rfl) (fun _ _ _ h => h) fr (wanted_of fr rfl rfl rfl rfl) (st.sub (.cons_cons _ (.cons_cons _ (.cons_cons _ (.cons_cons _ .slnil))))) (fun w st => rn_at (i := i) (fr.ev rfl) (fr.ev rfl) Try.underlying24 sz_29 (by omega) (by rfl)) rfl rfl ?_
          intro a fr
          refine dr_take_y 29 rfl (by kernel_rfl) (by kernel_rfl) (by kernel_rfl) (fun _ _ _ h => h) fr (wanted_of fr rfl rfl rfl rfl) (st.sub (.cons_cons _ (.cons_cons _ (.cons_cons _ (.cons_cons _ .slnil))))) (fun w st => fa_29_2 (fr.ev rfl)) rfl rfl ?_
          intro a fr
          refine dr_take_y 30 rfl (by kernel_rfl) (by kernel_rfl) (by kernel_rfl) (fun _ _ _ h => h) fr (wanted_of fr rfl rfl rfl rfl) (st.sub (.cons_cons _ (.cons_cons _ (.cons_cons _ (.cons_cons _ .slnil))))) (fun w st => rn_load (fr.ev rfl) Try.underlying3 rfl (st.rocell 2 rfl (j := 2) rfl)) rfl rfl ?_
          intro a fr
          refine dr_take_y 31 rfl (by kernel_rfl) (by kernel_rfl) (by kernel_rfl) (fun _ _ _ h => h) fr (wanted_of fr rfl rfl rfl rfl) (st.sub (.cons_cons _ (.cons_cons _ (.cons_cons _ (.cons_cons _ .slnil))))) (fun w st => rn_as (v' := .bool false) (rn_eql (fr.ev rfl) (fr.ev rfl)) (congrArg Value.bool (by simp [e4]))) rfl rfl ?_
          intro a fr
          refine dr_take_y 32 rfl (by kernel_rfl) (by kernel_rfl) (by kernel_rfl) (fun _ _ _ h => h) fr (wanted_of fr rfl rfl rfl rfl) (st.sub (.cons_cons _ (.cons_cons _ (.cons_cons _ (.cons_cons _ .slnil))))) (fun w st => rn_pick_t (fr.ev rfl) (fr.ev rfl)) rfl rfl ?_
          intro a fr
          refine dr_take 33 rfl (by kernel_rfl) (by kernel_rfl) (by kernel_rfl) (fun _ _ _ h => h) fr rfl (st.sub (.cons_cons _ (.cons_cons _ (.cons_cons _ (.cons_cons _ .slnil))))) (fun w st => rn_pick_f (fr.ev rfl) (fr.ev rfl)) rfl rfl ?_
          intro a fr
          refine dr_done (by kernel_rfl) ?_
          refine then_n ?_
          refine cond_f fr rfl rfl ?_
          refine wp_skip ?_
          refine blk_n ?_
          refine then_n ?_
          refine reg ?_
          refine lst rfl (ow_v fr (rn_move (fr.ev rfl)) rfl rfl ?_)
          intro a fr
          refine lst rfl (ow_v fr (rn_add (a := (k : Nat)) (b := 1) (c := ((k + 1 : Nat) : Int)) (fr.ev rfl) (fr.ev rfl) (wr_i64e (by omega) (by omega) (by omega))) rfl rfl ?_)
          intro a fr
          refine lst rfl (ow_v fr (rn_assign (fr.ev rfl)) rfl rfl ?_)
          intro a fr
          refine wpList_nil ?_
          rw [nxL_n hnx] at st
          rw [nxL_n hnx] at fr
          refine then_n ⟨l.length - (k + 1), ?_, k + 1, A, c, (by omega), rfl, fr.prune ⟨rfl, rfl, rfl, rfl, trivial⟩, st.sub (.cons _ (.cons_cons _ (.cons_cons _ (.cons_cons _ .slnil))))⟩
          omega
      · replace e3 := Bool.eq_false_iff.2 e3
        have e1b : (k == i + 1) = false := by simp [e1]
        replace hnx : nx l i k = false := by rw [hnx]; simp [e1b, e3]
        refine dr_start (by kernel_rfl) st (.cons_cons _ (.cons_cons _ (.cons_cons _ (.cons_cons _ .slnil)))) ?_
        intro w st
        refine dr_take 0 rfl (by kernel_rfl) (by kernel_rfl) (by kernel_rfl) (fun _ _ _ h => h) fr rfl (st.sub (.cons_cons _ (.cons_cons _ (.cons_cons _ (.cons_cons _ .slnil))))) (fun w st => rn_move (fr.ev rfl)) rfl rfl ?_
        intro a fr
        refine dr_take 1 rfl (by kernel_rfl) (by kernel_rfl) (by kernel_rfl) (fun _ _ _ h => h) fr rfl (st.sub (.cons_cons _ (.cons_cons _ (.cons_cons _ (.cons_cons _ .slnil))))) (fun w st => rn_move (fr.ev rfl)) rfl rfl ?_
        intro a fr
        refine dr_take 2 rfl (by kernel_rfl) (by kernel_rfl) (by kernel_rfl) (fun _ _ _ h => h) fr rfl (st.sub (.cons_cons _ (.cons_cons _ (.cons_cons _ (.cons_cons _ .slnil))))) (fun w st => rn_add (a := (i : Nat)) (b := 1) (c := ((i + 1 : Nat) : Int)) (fr.ev rfl) (fr.ev rfl) (wr_i64e (by omega) (by omega) (by omega))) rfl rfl ?_
        intro a fr
        refine dr_take 3 rfl (by kernel_rfl) (by kernel_rfl) (by kernel_rfl) (fun _ _ _ h => h) fr rfl (st.sub (.cons_cons _ (.cons_cons _ (.cons_cons _ (.cons_cons _ .slnil))))) (fun w st => rn_as (v' := .bool false) (rn_eql (fr.ev rfl) (fr.ev rfl)) (congrArg Value.bool (by simp only [beq_eq_false_iff_ne, ne_eq]; omega))) rfl rfl ?_
        intro a fr
        refine dr_take 4 rfl (by kernel_rfl) (by kernel_rfl) (by kernel_rfl) (fun _ _ _ h => h) fr rfl (st.sub (.cons_cons _ (.cons_cons _ (.cons_cons _ (.cons_cons _ .slnil))))) (fun w st => rn_move (fr.ev rfl)) rfl rfl ?_
        intro a fr
        refine dr_take_n 5 rfl (by kernel_rfl) (by kernel_rfl) (by kernel_rfl) (fun _ _ _ h => h) fr (unwanted_of fr rfl rfl rfl rfl) (st.sub (.cons_cons _ (.cons_cons _ (.cons_cons _ (.cons_cons _ .slnil))))) rfl rfl ?_
        intro a fr
        refine dr_take_n 6 rfl (by kernel_rfl) (by kernel_rfl) (by kernel_rfl) (fun _ _ _ h => h) fr (unwanted_of fr rfl rfl rfl rfl) (st.sub (.cons_cons _ (.cons_cons _ (.cons_cons _ (.cons_cons _ .slnil))))) rfl rfl ?_
        intro a fr
        refine dr_take_n 7 rfl (by kernel_rfl) (by kernel_rfl) (by kernel_rfl) (fun _ _ _ h => h) fr (unwanted_of fr rfl rfl rfl rfl) (st.sub (.cons_cons _ (.cons_cons _ (.cons_cons _ (.cons_cons _ .slnil))))) rfl rfl ?_
        intro a fr
        refine dr_take_n 8 rfl (by kernel_rfl) (by kernel_rfl) (by kernel_rfl) (fun _ _ _ h => h) fr (unwanted_of fr rfl rfl rfl rfl) (st.sub (.cons_cons _ (.cons_cons _ (.cons_cons _ (.cons_cons _ .slnil))))) rfl rfl ?_
        intro a fr
        refine dr_take_n 9 rfl (by kernel_rfl) (by kernel_rfl) (by kernel_rfl) (fun _ _ _ h => h) fr (unwanted_of fr rfl rfl rfl rfl) (st.sub (.cons_cons _ (.cons_cons _ (.cons_cons _ (.cons_cons _ .slnil))))) rfl rfl ?_
        intro a fr
        refine dr_one_n 10 (by kernel_rfl) rfl (unwanted_of fr rfl rfl rfl rfl) fr rfl rfl (st.sub (.cons_cons _ (.cons_cons _ (.cons_cons _ (.cons_cons _ .slnil))))) ?_
        intro a fr
        refine dr_take_n 11 rfl (by kernel_rfl) (by kernel_rfl) (by kernel_rfl) (fun _ _ _ h => h) fr (unwanted_of fr rfl rfl rfl rfl) (st.sub (.cons_cons _ (.cons_cons _ (.cons_cons _ (.cons_cons _ .slnil))))) rfl rfl ?_
        intro a fr
        refine dr_take 12 rfl (by kernel_rfl) (by kernel_rfl) (by kernel_rfl) (fun _ _ _ h => h) fr rfl (st.sub (.cons_cons _ (.cons_cons _ (.cons_cons _ (.cons_cons _ .slnil))))) (fun w st => rn_pick_f (fr.ev rfl) (fr.ev rfl)) rfl rfl ?_
        intro a fr
        refine dr_take 13 rfl (by kernel_rfl) (by kernel_rfl) (by kernel_rfl) (fun _ _ _ h => h) fr rfl (st.sub (.cons_cons _ (.cons_cons _ (.cons_cons _ (.cons_cons _ .slnil))))) (fun w st => rn_move (fr.ev rfl)) rfl rfl ?_
        intro a fr
        refine dr_take_y 14 rfl (by kernel_rfl) (by kernel_rfl) (by kernel_rfl) (fun _ _ _ h => h) fr (wanted_of fr rfl rfl rfl rfl) (st.sub (.cons_cons _ (.cons_cons _ (.cons_cons _ (.cons_cons _ .slnil))))) (fun w st => rn_move (fr.ev rfl)) rfl rfl ?_
        intro a fr
        refine dr_take_y 15 rfl (by kernel_rfl) (by kernel_rfl) (by kernel_rfl) (fun _ _ _ h => h) fr (wanted_of fr rfl rfl rfl rfl) (st.sub (.cons_cons _ (.cons_cons _ (.cons_cons _ (.cons_cons _ .slnil))))) (fun w st => rn_move (fr.ev rfl)) rfl rfl ?_
        intro a fr
        refine dr_take_y 16 rfl (by kernel_rfl) (by kernel_rfl) (by kernel_rfl) (fun _ _ _ h => h) fr (wanted_of fr rfl rfl rfl rfl) (st.sub (.cons_cons _ (.cons_cons _ (.cons_cons _ (.cons_cons _ .slnil))))) (fun w st => rn_at (i := i) (fr.ev rfl) (fr.ev rfl) Try.underlying24 sz_29 (by omega) (by rfl)) rfl rfl ?_
        intro a fr
        refine dr_take_y 17 rfl (by kernel_rfl) (by kernel_rfl) (by kernel_rfl) (fun _ _ _ h => h) fr (wanted_of fr rfl rfl rfl rfl) (st.sub (.cons_cons _ (.cons_cons _ (.cons_cons _ (.cons_cons _ .slnil))))) (fun w st => fa_29_1 (fr.ev rfl)) rfl rfl ?_
        intro a fr
        refine dr_take_y 18 rfl (by kernel_rfl) (by kernel_rfl) (by kernel_rfl) (fun _ _ _ h => h) fr (wanted_of fr rfl rfl rfl rfl) (st.sub (.cons_cons _ (.cons_cons _ (.cons_cons _ (.cons_cons _ .slnil))))) (fun w st => rn_load (fr.ev rfl) Try.underlying3 rfl (st.rocell 2 rfl (j := 1) rfl)) rfl rfl ?_
        intro a fr
        refine dr_one_y 19 (by kernel_rfl) rfl (wanted_of fr rfl rfl rfl rfl) (ow_call fr rfl rfl Try.call42 (rjumps_is y1 false e3 _) rfl rfl ?_)
        rintro e w ⟨rfl, hag⟩
        refine ⟨_, rfl, ?_⟩
        intro a fr
        have st := st.keep hag
        clear hag
        refine ⟨st.sub (.cons_cons _ (.cons_cons _ (.cons_cons _ (.cons_cons _ .slnil)))), ?_⟩
        refine dr_take_y 20 rfl (by kernel_rfl) (by kernel_rfl) (by kernel_rfl) (fun _ _ _ h => h) fr (wanted_of fr rfl rfl rfl rfl) (st.sub (.cons_cons _ (.cons_cons _ (.cons_cons _ (.cons_cons _ .slnil))))) (fun w st => rn_move (fr.ev rfl)) rfl rfl ?_
        intro a fr
        refine dr_take_n 21 rfl (by kernel_rfl) (by kernel_rfl) (by kernel_rfl) (fun _ _ _ h => h) fr (unwanted_of fr rfl rfl rfl rfl) (st.sub (.cons_cons _ (.cons_cons _ (.cons_cons _ (.cons_cons _ .slnil))))) rfl rfl ?_
        intro a fr
        refine dr_take_n 22 rfl (by kernel_rfl) (by kernel_rfl) (by kernel_rfl) (fun _ _ _ h => h) fr (unwanted_of fr rfl rfl rfl rfl) (st.sub (.cons_cons _ (.cons_cons _ (.cons_cons _ (.cons_cons _ .slnil))))) rfl rfl ?_
        intro a fr
        refine dr_take_n 23 rfl (by kernel_rfl) (by kernel_rfl) (by kernel_rfl) (fun _ _ _ h => h) fr (unwanted_of fr rfl rfl rfl rfl) (st.sub (.cons_cons _ (.cons_cons _ (.cons_cons _ (.cons_cons _ .slnil))))) rfl rfl ?_
        intro a fr
        refine dr_take_n 24 rfl (by kernel_rfl) (by kernel_rfl) (by kernel_rfl) (fun _ _ _ h => h) fr (unwanted_of fr rfl rfl rfl rfl) (st.sub (.cons_cons _ (.cons_cons _ (.cons_cons _ (.cons_cons _ .slnil))))) rfl rfl ?_
        intro a fr
        refine dr_take_n 25 rfl (by kernel_rfl) (by kernel_rfl) (by kernel_rfl) (fun _ _ _ h => h) fr (unwanted_of fr rfl rfl rfl rfl) (st.sub (.cons_cons _ (.cons_cons _ (.cons_cons _ (.cons_cons _ .slnil))))) rfl rfl ?_
        intro a fr
        refine dr_take_n 26 rfl (by kernel_rfl) (by kernel_rfl) (by kernel_rfl) (fun _ _ _ h => h) fr (unwanted_of fr rfl rfl rfl rfl) (st.sub (.cons_cons _ (.cons_cons _ (.cons_cons _ (.cons_cons _ .slnil))))) rfl rfl ?_
        intro a fr
        refine dr_take_n 27 rfl (by kernel_rfl) (by kernel_rfl) (by kernel_rfl) (fun _ _ _ h => h) fr (unwanted_of fr rfl rfl rfl rfl) (st.sub (.cons_cons _ (.cons_cons _ (.cons_cons _ (.cons_cons _ .slnil))))) rfl rfl ?_
        intro a fr
        refine dr_take_n 28 rfl (by kernel_rfl) (by kernel_rfl) (by kernel_rfl) (fun _ _ _ h => h) fr (unwanted_of fr rfl rfl rfl rfl) (st.sub (.cons_cons _ (.cons_cons _ (.cons_cons _ (.cons_cons _ .slnil))))) rfl rfl ?_
        intro a fr
        refine dr_take_n 29 rfl (by kernel_rfl) (by kernel_rfl) (by kernel_rfl) (fun _ _ _ h => h) fr (unwanted_of fr rfl rfl rfl rfl) (st.sub (.cons_cons _ (.cons_cons _ (.cons_cons _ (.cons_cons _ .slnil))))) rfl rfl ?_
        intro a fr
        refine dr_take_n 30 rfl (by kernel_rfl) (by kernel_rfl) (by kernel_rfl) (fun _ _ _ h => h) fr (unwanted_of fr rfl rfl rfl rfl) (st.sub (.cons_cons _ (.cons_cons _ (.cons_cons _ (.cons_cons _ .slnil))))) rfl rfl ?_
        intro a fr
        refine dr_take_n 31 rfl (by kernel_rfl) (by kernel_rfl) (by kernel_rfl) (fun _ _ _ h => h) fr (unwanted_of fr rfl rfl rfl rfl) (st.sub (.cons_cons _ (.cons_cons _ (.cons_cons _ (.cons_cons _ .slnil))))) rfl rfl ?_
        intro a fr
        refine dr_take_y 32 rfl (by kernel_rfl) (by kernel_rfl) (by kernel_rfl) (fun _ _ _ h => h) fr (wanted_of fr rfl rfl rfl rfl) (st.sub (.cons_cons _ (.cons_cons _ (.cons_cons _ (.cons_cons _ .slnil))))) (fun w st => rn_pick_f (fr.ev rfl) (fr.ev rfl)) rfl rfl ?_
        intro a fr
        refine dr_take 33 rfl (by kernel_rfl) (by kernel_rfl) (by kernel_rfl) (fun _ _ _ h => h) fr rfl (st.sub (.cons_cons _ (.cons_cons _ (.cons_cons _ (.cons_cons _ .slnil))))) (fun w st => rn_pick_f (fr.ev rfl) (fr.ev rfl)) rfl rfl ?_
        intro a fr
        refine dr_done (by kernel_rfl) ?_
        refine then_n ?_
        refine cond_f fr rfl rfl ?_
        refine wp_skip ?_
        refine blk_n ?_
        refine then_n ?_
        refine reg ?_
        refine lst rfl (ow_v fr (rn_move (fr.ev rfl)) rfl rfl ?_)
        intro a fr
        refine lst rfl (ow_v fr (rn_add (a := (k : Nat)) (b := 1) (c := ((k + 1 : Nat) : Int)) (fr.ev rfl) (fr.ev rfl) (wr_i64e (by omega) (by omega) (by omega))) rfl rfl ?_)
        intro a fr
        refine lst rfl (ow_v fr (rn_assign (fr.ev rfl)) rfl rfl ?_)
        intro a fr
        refine wpList_nil ?_
        rw [nxL_n hnx] at st
        rw [nxL_n hnx] at fr
        refine then_n ⟨l.length - (k + 1), ?_, k + 1, A, c, (by omega), rfl, fr.prune ⟨rfl, rfl, rfl, rfl, trivial⟩, st.sub (.cons _ (.cons_cons _ (.cons_cons _ (.cons_cons _ .slnil))))⟩
        omega
  · have hke : k = l.length := by omega
    subst hke
    refine wp_seq ?_
    refine wp_seq ?_
    refine reg ?_
    refine lst rfl (ow_v fr (rn_move (fr.ev rfl)) rfl rfl ?_)
    intro a fr
    refine lst rfl (ow_v fr (rn_move (fr.ev rfl)) rfl rfl ?_)
    intro a fr
    refine lst rfl (ow_v fr (rn_len (fr.ev rfl) Try.underlying24) rfl rfl ?_)
    intro a fr
    refine lst rfl (ow_v fr (rn_as (v' := .bool false) (rn_lss (fr.ev rfl) (fr.ev rfl)) (congrArg Value.bool (decide_eq_false (by omega)))) rfl rfl ?_)
    intro a fr
    refine lst rfl (ow_v fr (rn_move (fr.ev rfl)) rfl rfl ?_)
    intro a fr
    refine lst_n (unwanted_of fr rfl rfl rfl rfl) fr rfl rfl ?_
    intro a fr
    refine lst_n (unwanted_of fr rfl rfl rfl rfl) fr rfl rfl ?_
    intro a fr
    refine lst rfl (ow_v fr (rn_pick_f (fr.ev rfl) (fr.ev rfl)) rfl rfl ?_)
    intro a fr
    refine lst rfl (ow_v fr (rn_move (fr.ev rfl)) rfl rfl ?_)
    intro a fr
    refine lst_n (unwanted_of fr rfl rfl rfl rfl) fr rfl rfl ?_
    intro a fr
    refine lst_n (unwanted_of fr rfl rfl rfl rfl) fr rfl rfl ?_
    intro a fr
    refine lst_n (unwanted_of fr rfl rfl rfl rfl) fr rfl rfl ?_
    intro a fr
    refine lst_n (unwanted_of fr rfl rfl rfl rfl) fr rfl rfl ?_
    intro a fr
    refine lst rfl (ow_v fr (rn_pick_f (fr.ev rfl) (fr.ev rfl)) rfl rfl ?_)
    intro a fr
    refine wpList_nil ?_
    refine then_n ?_
    refine cond_f fr rfl rfl ?_
    refine wp_exit ?_
    refine then_x ?_
    refine then_x ?_
    refine blk_x ?_
    refine then_n ?_
    refine wp_seq ?_
    refine reg ?_
    refine lst rfl (ow_v fr (rn_move (fr.ev rfl)) rfl rfl ?_)
    intro a fr
    refine lst rfl (ow_v fr (rn_assign (fr.ev rfl)) rfl rfl ?_)
    intro a fr
    refine wpList_nil ?_
    refine then_n ?_
    refine wp_ret ?_
    refine ret1 Try.results35 fr (rv_tmp fr rfl) ?_
    exact ⟨A, c, rfl, (st.get 0 rfl).1, st.agr⟩

theorem rnext_out (l : List InsD) (LA : Option Addr) (lc : Nat) (hl : l.length * 32 ≤ 140737488355328) (i : Int) (hi : ¬ (0 ≤ i ∧ i < l.length)) (w0 : World) (hx : Els insC 4 w0 LA l) : Calls Try.prog 35 #[.slice LA l.length lc, .int .i64 i] w0 fun e w' => ∃ A c, e = .returned (.slice A (([] : List Int)).length c) ∧ Row CI 1 3 w0.heap.size (.slice A (([] : List Int)).length c) (([] : List Int)) w' ∧ Agr [] w0 w' := by
  have st : St w0 [] w0 [els insC 4 LA l] := (add_ro (start0 w0 []) (by simp [els, ro, It.wr]) rfl (els_ok (C := insC) (sz := 4) (by decide) (fun x => rfl) hx))
  clear hx
  by_cases h0 : i < 0
  · refine enter Try.func35 rfl Try.ntmps35 (by simp) ?_
    intro a fr
    refine wp_seq ?_
    refine reg ?_
    refine lst rfl (ow_v fr (rn_assign (fr.ev rfl)) rfl rfl ?_)
    intro a fr
    refine wpList_nil ?_
    refine then_n ?_
    refine wp_seq ?_
    refine reg ?_
    refine lst rfl (ow_v fr (rn_assign (fr.ev rfl)) rfl rfl ?_)
    intro a fr
    refine wpList_nil ?_
    refine then_n ?_
    refine wp_seq ?_
    refine wp_seq ?_
    refine reg ?_
    refine lst rfl (ow_v fr (rn_assign (fr.ev rfl)) rfl rfl ?_)
    intro a fr
    refine wpList_nil ?_
    refine then_n ?_
    refine wp_block ?_
    refine wp_loop_ghost (fun mz a w => ∃ (m : Nat), mz = m ∧ FrL 62 a [(0, .slice LA l.length lc), (1, .int .i64 (i)), (5, .slice none 0 0), (6, .int .i64 0)] ∧ St w0 [] w [els insC 4 LA l]) _ ⟨0, rfl, fr.prune ⟨rfl, rfl, rfl, rfl, trivial⟩, st⟩ ?_
    clear fr st
    intro mz a w hI
    obtain ⟨m, hmz, fr, st⟩ := hI
    by_cases hl0 : 0 < l.length
    · refine wp_seq ?_
      refine wp_seq ?_
      refine reg ?_
      refine lst rfl (ow_v fr (rn_move (fr.ev rfl)) rfl rfl ?_)
      intro a fr
      refine lst rfl (ow_v fr (rn_move (fr.ev rfl)) rfl rfl ?_)
      intro a fr
      refine lst rfl (ow_v fr (rn_len (fr.ev rfl) Try.underlying24) rfl rfl ?_)
      intro a fr
      refine lst rfl (ow_v fr (rn_as (v' := .bool true) (rn_lss (fr.ev rfl) (fr.ev rfl)) (congrArg Value.bool (decide_eq_true (by omega)))) rfl rfl ?_)
      intro a fr
      refine lst rfl (ow_v fr (rn_move (fr.ev rfl)) rfl rfl ?_)
      intro a fr
      refine lst_y (wanted_of fr rfl rfl rfl rfl) (ow_v fr (rn_move (fr.ev rfl)) rfl rfl ?_)
      intro a fr
      refine lst_y (wanted_of fr rfl rfl rfl rfl) (ow_v fr (rn_as (v' := .bool false) (rn_geq (fr.ev rfl) (fr.ev rfl)) (congrArg Value.bool (decide_eq_false (by omega)))) rfl rfl ?_)
      intro a fr
      refine lst rfl (ow_v fr (rn_pick_t (fr.ev rfl) (fr.ev rfl)) rfl rfl ?_)
      intro a fr
      refine lst rfl (ow_v fr (rn_move (fr.ev rfl)) rfl rfl ?_)
      intro a fr
      refine lst_n (unwanted_of fr rfl rfl rfl rfl) fr rfl rfl ?_
      intro a fr
      refine lst_n (unwanted_of fr rfl rfl rfl rfl) fr rfl rfl ?_
      intro a fr
      refine lst_n (unwanted_of fr rfl rfl rfl rfl) fr rfl rfl ?_
      intro a fr
      refine lst_n (unwanted_of fr rfl rfl rfl rfl) fr rfl rfl ?_
      intro a fr
      refine lst rfl (ow_v fr (rn_pick_f (fr.ev rfl) (fr.ev rfl)) rfl rfl ?_)
      intro a fr
      refine wpList_nil ?_
      refine then_n ?_
      refine cond_f fr rfl rfl ?_
      refine wp_exit ?_
      refine then_x ?_
      refine then_x ?_
      refine blk_x ?_
      refine then_n ?_
      refine wp_seq ?_
      refine reg ?_
      refine lst rfl (ow_v fr (rn_move (fr.ev rfl)) rfl rfl ?_)
      intro a fr
      refine lst rfl (ow_v fr (rn_assign (fr.ev rfl)) rfl rfl ?_)
      intro a fr
      refine wpList_nil ?_
      refine then_n ?_
      refine wp_ret ?_
      refine ret1 Try.results35 fr (rv_tmp fr rfl) ?_
      exact ⟨none, 0, rfl, row_nil CI 1 3 _ _, st.agr⟩
    · refine wp_seq ?_
      refine wp_seq ?_
      refine reg ?_
      refine lst rfl (ow_v fr (rn_move (fr.ev rfl)) rfl rfl ?_)
      intro a fr
      refine lst rfl (ow_v fr (rn_move (fr.ev rfl)) rfl rfl ?_)
      intro a fr
      refine lst rfl (ow_v fr (rn_len (fr.ev rfl) Try.underlying24) rfl rfl ?_)
      intro a fr
      refine lst rfl (ow_v fr (rn_as (v' := .bool false) (rn_lss (fr.ev rfl) (fr.ev rfl)) (congrArg Value.bool (decide_eq_false (by omega)))) rfl rfl ?_)
      intro a fr
      refine lst rfl (ow_v fr (rn_move (fr.ev rfl)) rfl rfl ?_)
      intro a fr
      refine lst_n (unwanted_of fr rfl rfl rfl rfl) fr rfl rfl ?_
      intro a fr
      refine lst_n (unwanted_of fr rfl rfl rfl rfl) fr rfl rfl ?_
      intro a fr
      refine lst rfl (ow_v fr (rn_pick_f (fr.ev rfl) (fr.ev rfl)) rfl rfl ?_)
      intro a fr
      refine lst rfl (ow_v fr (rn_move (fr.ev rfl)) rfl rfl ?_)
      intro a fr
      refine lst_n (unwanted_of fr rfl rfl rfl rfl) fr rfl rfl ?_
      intro a fr
      refine lst_n (unwanted_of fr rfl rfl rfl rfl) fr rfl rfl ?_
      intro a fr
      refine lst_n (unwanted_of fr rfl rfl rfl rfl) fr rfl rfl ?_
      intro a fr
      refine lst_n (unwanted_of fr rfl rfl rfl rfl) fr rfl rfl ?_
      intro a fr
      refine lst rfl (ow_v fr (rn_pick_f (fr.ev rfl) (fr.ev rfl)) rfl rfl ?_)
      intro a fr
      refine wpList_nil ?_
      refine then_n ?_
      refine cond_f fr rfl rfl ?_
      refine wp_exit ?_
      refine then_x ?_
      refine then_x ?_
      refine blk_x ?_
      refine then_n ?_
      refine wp_seq ?_
      refine reg ?_
      refine lst rfl (ow_v fr (rn_move (fr.ev rfl)) rfl rfl ?_)
      intro a fr
      refine lst rfl (ow_v fr (rn_assign (fr.ev rfl)) rfl rfl ?_)
      intro a fr
      refine wpList_nil ?_
      refine then_n ?_
      refine wp_ret ?_
      refine ret1 Try.results35 fr (rv_tmp fr rfl) ?_
      exact ⟨none, 0, rfl, row_nil CI 1 3 _ _, st.agr⟩
  · refine enter Try.func35 rfl Try.ntmps35 (by simp) ?_
    intro a fr
    refine wp_seq ?_
    refine reg ?_
    refine lst rfl (ow_v fr (rn_assign (fr.ev rfl)) rfl rfl ?_)
    intro a fr
    refine wpList_nil ?_
    refine then_n ?_
    refine wp_seq ?_
    refine reg ?_
    refine lst rfl (ow_v fr (rn_assign (fr.ev rfl)) rfl rfl ?_)
    intro a fr
    refine wpList_nil ?_
    refine then_n ?_
    refine wp_seq ?_
    refine wp_seq ?_
    refine reg ?_
    refine lst rfl (ow_v fr (rn_assign (fr.ev rfl)) rfl rfl ?_)
    intro a fr
    refine wpList_nil ?_
    refine then_n ?_
    refine wp_block ?_
    refine wp_loop_ghost (fun mz a w => ∃ (m : Nat), mz = m ∧ FrL 62 a [(0, .slice LA l.length lc), (1, .int .i64 (i)), (5, .slice none 0 0), (6, .int .i64 0)] ∧ St w0 [] w [els insC 4 LA l]) _ ⟨0, rfl, fr.prune ⟨rfl, rfl, rfl, rfl, trivial⟩, st⟩ ?_
    clear fr st
    intro mz a w hI
    obtain ⟨m, hmz, fr, st⟩ := hI
    by_cases hl0 : 0 < l.length
    · refine wp_seq ?_
      refine wp_seq ?_
      refine reg ?_
      refine lst rfl (ow_v fr (rn_move (fr.ev rfl)) rfl rfl ?_)
      intro a fr
      refine lst rfl (ow_v fr (rn_move (fr.ev rfl)) rfl rfl ?_)
      intro a fr
      refine lst rfl (ow_v fr (rn_len (fr.ev rfl) Try.underlying24) rfl rfl ?_)
      intro a fr
      refine lst rfl (ow_v fr (rn_as (v' := .bool true) (rn_lss (fr.ev rfl) (fr.ev rfl)) (congrArg Value.bool (decide_eq_true (by omega)))) rfl rfl ?_)
      intro a fr
      refine lst rfl (ow_v fr (rn_move (fr.ev rfl)) rfl rfl ?_)
      intro a fr
      refine lst_y (wanted_of fr rfl rfl rfl rfl) (ow_v fr (rn_move (fr.ev rfl)) rfl rfl ?_)
      intro a fr
      refine lst_y (wanted_of fr rfl rfl rfl rfl) (ow_v fr (rn_as (v' := .bool true) (rn_geq (fr.ev rfl) (fr.ev rfl)) (congrArg Value.bool (decide_eq_true (by omega)))) rfl rfl ?_)
      intro a fr
      refine lst rfl (ow_v fr (rn_pick_t (fr.ev rfl) (fr.ev rfl)) rfl rfl ?_)
      intro a fr
      refine lst rfl (ow_v fr (rn_move (fr.ev rfl)) rfl rfl ?_)
      intro a fr
      refine lst_y (wanted_of fr rfl rfl rfl rfl) (ow_v fr (rn_move (fr.ev rfl)) rfl rfl ?_)
      intro a fr
      refine lst_y (wanted_of fr rfl rfl rfl rfl) (ow_v fr (rn_move (fr.ev rfl)) rfl rfl ?_)
      intro a fr
      refine lst_y (wanted_of fr rfl rfl rfl rfl) (ow_v fr (rn_len (fr.ev rfl) Try.underlying24) rfl rfl ?_)
      intro a fr
      refine lst_y (wanted_of fr rfl rfl rfl rfl) (ow_v fr (rn_as (v' := .bool false) (rn_lss (fr.ev rfl) (fr.ev rfl)) (congrArg Value.bool (decide_eq_false (by omega)))) rfl rfl ?_)
      intro a fr
      refine lst rfl (ow_v fr (rn_pick_t (fr.ev rfl) (fr.ev rfl)) rfl rfl ?_)
      intro a fr
      refine wpList_nil ?_
      refine then_n ?_
      refine cond_f fr rfl rfl ?_
      refine wp_exit ?_
      refine then_x ?_
      refine then_x ?_
      refine blk_x ?_
      refine then_n ?_
      refine wp_seq ?_
      refine reg ?_
      refine lst rfl (ow_v fr (rn_move (fr.ev rfl)) rfl rfl ?_)
      intro a fr
      refine lst rfl (ow_v fr (rn_assign (fr.ev rfl)) rfl rfl ?_)
      intro a fr
      refine wpList_nil ?_
      refine then_n ?_
      refine wp_ret ?_
      refine ret1 Try.results35 fr (rv_tmp fr rfl) ?_
      exact ⟨none, 0, rfl, row_nil CI 1 3 _ _, st.agr⟩
    · refine wp_seq ?_
      refine wp_seq ?_
      refine reg ?_
      refine lst rfl (ow_v fr (rn_move (fr.ev rfl)) rfl rfl ?_)
      intro a fr
      refine lst rfl (ow_v fr (rn_move (fr.ev rfl)) rfl rfl ?_)
      intro a fr
      refine lst rfl (ow_v fr (rn_len (fr.ev rfl) Try.underlying24) rfl rfl ?_)
      intro a fr
      refine lst rfl (ow_v fr (rn_as (v' := .bool false) (rn_lss (fr.ev rfl) (fr.ev rfl)) (congrArg Value.bool (decide_eq_false (by omega)))) rfl rfl ?_)
      intro a fr
      refine lst rfl (ow_v fr (rn_move (fr.ev rfl)) rfl rfl ?_)
      intro a fr
      refine lst_n (unwanted_of fr rfl rfl rfl rfl) fr rfl rfl ?_
      intro a fr
      refine lst_n (unwanted_of fr rfl rfl rfl rfl) fr rfl rfl ?_
      intro a fr
      refine lst rfl (ow_v fr (rn_pick_f (fr.ev rfl) (fr.ev rfl)) rfl rfl ?_)
      intro a fr
      refine lst rfl (ow_v fr (rn_move (fr.ev rfl)) rfl rfl ?_)
      intro a fr
      refine lst_n (unwanted_of fr rfl rfl rfl rfl) fr rfl rfl ?_
      intro a fr
      refine lst_n (unwanted_of fr rfl rfl rfl rfl) fr rfl rfl ?_
      intro a fr
      refine lst_n (unwanted_of fr rfl rfl rfl rfl) fr rfl rfl ?_
      intro a fr
      refine lst_n (unwanted_of fr rfl rfl rfl rfl) fr rfl rfl ?_
      intro a fr
      refine lst rfl (ow_v fr (rn_pick_f (fr.ev rfl) (fr.ev rfl)) rfl rfl ?_)
      intro a fr
      refine wpList_nil ?_
      refine then_n ?_
      refine cond_f fr rfl rfl ?_
      refine wp_exit ?_
      refine then_x ?_
      refine then_x ?_
      refine blk_x ?_
      refine then_n ?_
      refine wp_seq ?_
      refine reg ?_
      refine lst rfl (ow_v fr (rn_move (fr.ev rfl)) rfl rfl ?_)
      intro a fr
      refine lst rfl (ow_v fr (rn_assign (fr.ev rfl)) rfl rfl ?_)
      intro a fr
      refine wpList_nil ?_
      refine then_n ?_
      refine wp_ret ?_
      refine ret1 Try.results35 fr (rv_tmp fr rfl) ?_
      exact ⟨none, 0, rfl, row_nil CI 1 3 _ _, st.agr⟩

theorem rnext_calls (l : List InsD) (LA : Option Addr) (lc : Nat) (hl : l.length * 32 ≤ 140737488355328) (i : Int) (w0 : World) (hx : Els insC 4 w0 LA l) : Calls Try.prog 35 #[.slice LA l.length lc, .int .i64 i] w0 fun e w' => ∃ A c, e = .returned (.slice A (nextF l i).length c) ∧ Row CI 1 3 w0.heap.size (.slice A (nextF l i).length c) (nextF l i) w' ∧ Agr [] w0 w' := by
  unfold nextF
  by_cases hi : 0 ≤ i ∧ i < l.length
  · obtain ⟨n, rfl⟩ : ∃ n : Nat, i = n := ⟨i.toNat, by omega⟩
    rw [if_pos hi, Int.toNat_natCast]
    exact rnext_in l LA lc hl n (by omega) w0 hx
  · rw [if_neg hi]
    exact rnext_out l LA lc hl i hi w0 hx

end Go.Proofs.Yteiohpbghpmohaa.O8
