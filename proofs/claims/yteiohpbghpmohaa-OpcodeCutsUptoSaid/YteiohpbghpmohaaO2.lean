import Derived.Test.YteiohpbghpmohaaO1
set_option linter.unusedVariables false
set_option linter.unusedSimpArgs false
namespace Go.Proofs.Yteiohpbghpmohaa.O2
open Go.RowKit Go.Proofs.Yteiohpbghpmohaa.LibA Go.Proofs.Yteiohpbghpmohaa.LibC Go.Proofs.Yteiohpbghpmohaa.LibS Go.Proofs.Yteiohpbghpmohaa.LibR Go.Proofs.Yteiohpbghpmohaa.LibT Go.Proofs.Yteiohpbghpmohaa.LibU Go.Proofs.Yteiohpbghpmohaa.LibV Go.Proofs.Yteiohpbghpmohaa.LibW Go.Proofs.Yteiohpbghpmohaa.LibX Go.Proofs.Yteiohpbghpmohaa.LibY Go.Proofs.Yteiohpbghpmohaa.LibZ Go.Proofs.Yteiohpbghpmohaa.LibQ Go.Proofs.Yteiohpbghpmohaa.LibP Go.Proofs.Yteiohpbghpmohaa.LibN Go.Proofs.Yteiohpbghpmohaa.LibH Go.Proofs.Yteiohpbghpmohaa.LibI Go.Proofs.Yteiohpbghpmohaa.O1
theorem rows_some (w0 : World) : Calls Try.prog 58 #[] w0 fun e w' => ∃ A c, e = .returned (.slice A tblL.length c) ∧ Els rowC 3 w' A tblL ∧ (∀ ad, A = some ad → w0.heap.size ≤ ad.block) ∧ Agr [] w0 w' :=
  (rows_calls w0).mono fun e w' ⟨b, h1, h2, h3, h4⟩ => ⟨_, _, h1, h2, fun ad h => by cases h; exact h3, h4⟩
theorem table_some (w0 : World) : Calls Try.prog 51 #[] w0 fun e w' => ∃ A c, e = .returned (.slice A tblL.length c) ∧ Els rowC 3 w' A tblL ∧ (∀ ad, A = some ad → w0.heap.size ≤ ad.block) ∧ Agr [] w0 w' :=
  (table_calls w0).mono fun e w' ⟨b, h1, h2, h3, h4⟩ => ⟨_, _, h1, h2, fun ad h => by cases h; exact h3, h4⟩

theorem fa_70_0 {ρ : Operand → Value} {w : World} {dst : Option Tmp} {ty : TypeId} {pos : String} {aft : Array Edge} {gd : Option (Nat × Bool)} {x : Operand} {b o : Nat} (hx : ρ x = .pointer (some ⟨b, o, none⟩)) : (execOp ρ ⟨dst, .fieldAddr 70 x 0, ty, pos, aft, gd⟩).run Try.prog w = .ok (.value (.pointer (some ⟨b, o + 0, none⟩))) w := rn_field hx Try.underlying70 rfl (by kernel_rfl) rfl
theorem fa_70_1 {ρ : Operand → Value} {w : World} {dst : Option Tmp} {ty : TypeId} {pos : String} {aft : Array Edge} {gd : Option (Nat × Bool)} {x : Operand} {b o : Nat} (hx : ρ x = .pointer (some ⟨b, o, none⟩)) : (execOp ρ ⟨dst, .fieldAddr 70 x 1, ty, pos, aft, gd⟩).run Try.prog w = .ok (.value (.pointer (some ⟨b, o + 1, none⟩))) w := rn_field hx Try.underlying70 rfl (by kernel_rfl) rfl
theorem fa_70_2 {ρ : Operand → Value} {w : World} {dst : Option Tmp} {ty : TypeId} {pos : String} {aft : Array Edge} {gd : Option (Nat × Bool)} {x : Operand} {b o : Nat} (hx : ρ x = .pointer (some ⟨b, o, none⟩)) : (execOp ρ ⟨dst, .fieldAddr 70 x 2, ty, pos, aft, gd⟩).run Try.prog w = .ok (.value (.pointer (some ⟨b, o + 2, none⟩))) w := rn_field hx Try.underlying70 rfl (by kernel_rfl) rfl
theorem fa_75_0 {ρ : Operand → Value} {w : World} {dst : Option Tmp} {ty : TypeId} {pos : String} {aft : Array Edge} {gd : Option (Nat × Bool)} {x : Operand} {b o : Nat} (hx : ρ x = .pointer (some ⟨b, o, none⟩)) : (execOp ρ ⟨dst, .fieldAddr 75 x 0, ty, pos, aft, gd⟩).run Try.prog w = .ok (.value (.pointer (some ⟨b, o + 0, none⟩))) w := rn_field hx Try.underlying75 rfl (by kernel_rfl) rfl
theorem fa_75_1 {ρ : Operand → Value} {w : World} {dst : Option Tmp} {ty : TypeId} {pos : String} {aft : Array Edge} {gd : Option (Nat × Bool)} {x : Operand} {b o : Nat} (hx : ρ x = .pointer (some ⟨b, o, none⟩)) : (execOp ρ ⟨dst, .fieldAddr 75 x 1, ty, pos, aft, gd⟩).run Try.prog w = .ok (.value (.pointer (some ⟨b, o + 1, none⟩))) w := rn_field hx Try.underlying75 rfl (by kernel_rfl) rfl
theorem fa_75_2 {ρ : Operand → Value} {w : World} {dst : Option Tmp} {ty : TypeId} {pos : String} {aft : Array Edge} {gd : Option (Nat × Bool)} {x : Operand} {b o : Nat} (hx : ρ x = .pointer (some ⟨b, o, none⟩)) : (execOp ρ ⟨dst, .fieldAddr 75 x 2, ty, pos, aft, gd⟩).run Try.prog w = .ok (.value (.pointer (some ⟨b, o + 2, none⟩))) w := rn_field hx Try.underlying75 rfl (by kernel_rfl) rfl
theorem sz_3 : (Try.prog.info? 3).map (·.size) = some 1 := by kernel_rfl
theorem sz_9 : (Try.prog.info? 9).map (·.size) = some 1 := by kernel_rfl
theorem sz_70 : (Try.prog.info? 70).map (·.size) = some 3 := by kernel_rfl
theorem sz_75 : (Try.prog.info? 75).map (·.size) = some 3 := by kernel_rfl
theorem zv_70 : ∀ w : World, (zeroValue 70).run Try.prog w = .ok (.agg #[.int .i64 0, .string ByteArray.empty, .int .i64 0]) w := fun w => by kernel_rfl
theorem zv_75 : ∀ w : World, (zeroValue 75).run Try.prog w = .ok (.agg #[.int .i64 0, .string ByteArray.empty, .int .i64 0]) w := fun w => by kernel_rfl
theorem clo_op (op : Int) (p : Int) (q : ByteArray) (f : Int) (b : Nat) (w0 : World) (hb : (ro b 0 [.int .i64 (op)]).ok w0 [] w0) : Calls Try.prog 48 #[.agg #[.int .i64 (p), (.string q), .int .i64 (f)], .pointer (some ⟨b, 0, none⟩)] w0 fun e w' => e = .returned (.bool (p == op)) ∧ Agr [] w0 w' := by
  have st : St w0 [] w0 [ro b 0 [.int .i64 (op)]] := (add_ro (start0 w0 []) (by simp [els, ro, It.wr]) rfl (hb))
  refine enter Try.func48 rfl Try.ntmps48 (by simp) ?_
  intro a fr
  refine wp_seq ?_
  refine reg ?_
  refine lst rfl (ow_box fr st rfl rfl rfl rfl ([.int .i64 (p), (.string q), .int .i64 (f)]) (by rfl) ?_)
  intro a w b1 fr st
  refine lst rfl (ow_v fr (rn_assign (fr.ev rfl)) rfl rfl ?_)
  intro a fr
  refine wpList_nil ?_
  refine then_n ?_
  refine wp_seq ?_
  refine reg ?_
  refine lst rfl (ow_v fr (fa_70_0 (fr.ev rfl)) rfl rfl ?_)
  intro a fr
  refine lst rfl (ow_v fr (rn_load (fr.ev rfl) Try.underlying3 rfl (st.cell 0 rfl rfl)) rfl rfl ?_)
  intro a fr
  refine lst rfl (ow_v fr (rn_load (fr.ev rfl) Try.underlying3 rfl (st.rocell 1 rfl (j := 0) rfl)) rfl rfl ?_)
  intro a fr
  refine lst rfl (ow_v fr (rn_eql (fr.ev rfl) (fr.ev rfl)) rfl rfl ?_)
  intro a fr
  refine lst rfl (ow_v fr (rn_assign (fr.ev rfl)) rfl rfl ?_)
  intro a fr
  refine wpList_nil ?_
  refine then_n ?_
  refine wp_ret ?_
  refine ret1 Try.results48 fr (rv_tmp fr rfl) ?_
  exact ⟨rfl, st.agr⟩

theorem idx_op (op : Int) (A : Option Addr) (c b : Nat) (w0 : World) (ha : Els rowC 3 w0 A tblL) (hb : (ro b 0 [.int .i64 (op)]).ok w0 [] w0) : Calls Try.prog 59 #[.slice A tblL.length c, (.func (.func 48) #[] #[.pointer (some ⟨b, 0, none⟩)])] w0 fun e w' => ((∃ i : Nat, e = .returned (.int .i64 (i : Nat)) ∧ ∃ h : i < tblL.length, tblL.find? (fun r : RowD => r.1 == op) = some tblL[i]) ∨ (e = .returned (.int .i64 (-1)) ∧ tblL.find? (fun r : RowD => r.1 == op) = none)) ∧ Agr [] w0 w' := by
  have htl := tbl_len
  have st : St w0 [] w0 [els rowC 3 A tblL, ro b 0 [.int .i64 (op)]] := (add_ro (add_ro (start0 w0 []) (by simp [els, ro, It.wr]) rfl (hb)) (by simp [els, ro, It.wr]) rfl (els_ok (C := rowC) (sz := 3) (by decide) (fun x => rfl) ha))
  clear ha hb
  refine enter Try.func59 rfl Try.ntmps59 (by simp) ?_
  intro a fr
  refine wp_seq ?_
  refine reg ?_
  refine lst rfl (ow_v fr (rn_assign (fr.ev rfl)) rfl rfl ?_)
  intro a fr
  refine wpList_nil ?_
  refine then_n ?_
  refine wp_seq ?_
  refine wp_seq ?_
  refine reg ?_
  refine lst rfl (ow_v fr (rn_move (fr.ev rfl)) rfl rfl ?_)
  intro a fr
  refine lst rfl (ow_v fr (rn_len (fr.ev rfl) Try.underlying87) rfl rfl ?_)
  intro a fr
  refine lst rfl (ow_v fr (rn_move (fr.ev rfl)) rfl rfl ?_)
  intro a fr
  refine wpList_nil ?_
  refine then_n ?_
  refine wp_block ?_
  refine wp_loop_ghost (fun mz a w => ∃ (j : Nat), (j ≤ tblL.length) ∧ (∀ i, i < j → ∀ h : i < tblL.length, (fun r : RowD => r.1 == op) tblL[i] = false) ∧ mz = tblL.length - j ∧ FrL 19 a [(0, .slice A tblL.length c), (1, (.func (.func 48) #[] #[.pointer (some ⟨b, 0, none⟩)])), (7, .int .i64 ((tblL.length : Nat))), (8, .int .i64 ((j : Nat)))] ∧ St w0 [] w [els rowC 3 A tblL, ro b 0 [.int .i64 (op)]]) _ ⟨0, (Nat.zero_le _), (fun i hi => absurd hi (Nat.not_lt_zero _)), rfl, fr.prune ⟨rfl, rfl, rfl, rfl, trivial⟩, st⟩ ?_
  clear fr st
  intro mz a w hI
  obtain ⟨j, hj, hJ, hmz, fr, st⟩ := hI
  by_cases hlt : j < tblL.length
  · by_cases hq : (fun r : RowD => r.1 == op) tblL[j] = true
    · refine wp_seq ?_
      refine reg ?_
      refine lst rfl (ow_v fr (rn_as (v' := .bool true) (rn_lss (fr.ev rfl) (fr.ev rfl)) (congrArg Value.bool (decide_eq_true (by omega)))) rfl rfl ?_)
      intro a fr
      refine wpList_nil ?_
      refine then_n ?_
      refine wp_seq ?_
      refine cond_t fr rfl rfl ?_
      refine wp_skip ?_
      refine then_n ?_
      refine wp_seq ?_
      refine wp_block ?_
      refine wp_seq ?_
      refine reg ?_
      refine lst rfl (ow_v fr (rn_move (fr.ev rfl)) rfl rfl ?_)
      intro a fr
      refine lst rfl (ow_v fr (rn_assign (fr.ev rfl)) rfl rfl ?_)
      intro a fr
      refine wpList_nil ?_
      refine then_n ?_
      refine wp_seq ?_
      refine reg ?_
      refine lst rfl (ow_v fr (rn_move (fr.ev rfl)) rfl rfl ?_)
      intro a fr
      refine lst rfl (ow_v fr (rn_move (fr.ev rfl)) rfl rfl ?_)
      intro a fr
      refine lst rfl (ow_v fr (rn_move (fr.ev rfl)) rfl rfl ?_)
      intro a fr
      obtain ⟨b1, o2, eA, st_⟩ := st.elem 0 rfl j hlt (by simp [rowC])
      have fr_ := fr
      cases eA
      have st := st_
      have fr := fr_
      clear st_ fr_
      obtain ⟨p, q, f, hx_tblL_p⟩ : ∃ p q f, tblL[j] = (p, q, f) := ⟨_, _, _, rfl⟩
      rw [hx_tblL_p] at st
      replace st : St _ [] w [ro b1 (o2 + j * 3) [.int .i64 (p), (.string q), .int .i64 (f)], els rowC 3 (some ⟨b1, o2, none⟩) tblL, ro b 0 [.int .i64 (op)]] := st
      refine lst rfl (ow_v fr (rn_at (i := j) (fr.ev rfl) (fr.ev rfl) Try.underlying87 sz_70 (by omega) (by rfl)) rfl rfl ?_)
      intro a fr
      refine lst rfl (ow_v fr (rn_loadN (cs := [.int .i64 (p), (.string q), .int .i64 (f)]) (fr.ev rfl) Try.underlying70 rfl sz_70 (st.rorange 0 rfl 0 rfl)) rfl rfl ?_)
      intro a fr
      refine lst rfl (ow_callv fr rfl rfl rfl Try.call48 (clo_op op p q f _ _ (ro_now (st.get 2 rfl) rfl)) rfl rfl ?_)
      rintro e w ⟨rfl, hag⟩
      refine ⟨_, rfl, ?_⟩
      intro a fr
      have st := st.keep hag
      clear hag
      refine wpList_nil ?_
      refine then_n ?_
      refine cond_t fr rfl (by have h := hq; rw [hx_tblL_p] at h; exact h) ?_
      refine wp_seq ?_
      refine reg ?_
      refine lst rfl (ow_v fr (rn_move (fr.ev rfl)) rfl rfl ?_)
      intro a fr
      refine lst rfl (ow_v fr (rn_assign (fr.ev rfl)) rfl rfl ?_)
      intro a fr
      refine wpList_nil ?_
      refine then_n ?_
      refine wp_ret ?_
      refine blk_r ?_
      refine then_r ?_
      refine then_r ?_
      refine blk_r ?_
      refine then_r ?_
      refine ret1 Try.results59 fr (rv_tmp fr rfl) ?_
      exact ⟨.inl ⟨j, rfl, hlt, find_at hlt hq hJ⟩, st.agr⟩
    · refine wp_seq ?_
      refine reg ?_
      refine lst rfl (ow_v fr (rn_as (v' := .bool true) (rn_lss (fr.ev rfl) (fr.ev rfl)) (congrArg Value.bool (decide_eq_true (by omega)))) rfl rfl ?_)
      intro a fr
      refine wpList_nil ?_
      refine then_n ?_
      refine wp_seq ?_
      refine cond_t fr rfl rfl ?_
      refine wp_skip ?_
      refine then_n ?_
      refine wp_seq ?_
      refine wp_block ?_
      refine wp_seq ?_
      refine reg ?_
      refine lst rfl (ow_v fr (rn_move (fr.ev rfl)) rfl rfl ?_)
      intro a fr
      refine lst rfl (ow_v fr (rn_assign (fr.ev rfl)) rfl rfl ?_)
      intro a fr
      refine wpList_nil ?_
      refine then_n ?_
      refine wp_seq ?_
      refine reg ?_
      refine lst rfl (ow_v fr (rn_move (fr.ev rfl)) rfl rfl ?_)
      intro a fr
      refine lst rfl (ow_v fr (rn_move (fr.ev rfl)) rfl rfl ?_)
      intro a fr
      refine lst rfl (ow_v fr (rn_move (fr.ev rfl)) rfl rfl ?_)
      intro a fr
      obtain ⟨b3, o4, eA, st_⟩ := st.elem 0 rfl j hlt (by simp [rowC])
      have fr_ := fr
      cases eA
      have st := st_
      have fr := fr_
      clear st_ fr_
      obtain ⟨p, q, f, hx_tblL_p⟩ : ∃ p q f, tblL[j] = (p, q, f) := ⟨_, _, _, rfl⟩
      rw [hx_tblL_p] at st
      replace st : St _ [] w [ro b3 (o4 + j * 3) [.int .i64 (p), (.string q), .int .i64 (f)], els rowC 3 (some ⟨b3, o4, none⟩) tblL, ro b 0 [.int .i64 (op)]] := st
      refine lst rfl (ow_v fr (rn_at (i := j) (fr.ev rfl) (fr.ev rfl) Try.underlying87 sz_70 (by omega) (by rfl)) rfl rfl ?_)
      intro a fr
      refine lst rfl (ow_v fr (rn_loadN (cs := [.int .i64 (p), (.string q), .int .i64 (f)]) (fr.ev rfl) Try.underlying70 rfl sz_70 (st.rorange 0 rfl 0 rfl)) rfl rfl ?_)
      intro a fr
      refine lst rfl (ow_callv fr rfl rfl rfl Try.call48 (clo_op op p q f _ _ (ro_now (st.get 2 rfl) rfl)) rfl rfl ?_)
      rintro e w ⟨rfl, hag⟩
      refine ⟨_, rfl, ?_⟩
      intro a fr
      have st := st.keep hag
      clear hag
      refine wpList_nil ?_
      refine then_n ?_
      refine cond_f fr rfl (by have h := hq; rw [hx_tblL_p] at h; simpa using h) ?_
      refine wp_skip ?_
      refine blk_n ?_
      refine then_n ?_
      refine reg ?_
      refine lst rfl (ow_v fr (rn_add (c := ((j + 1 : Nat) : Int)) (fr.ev rfl) (fr.ev rfl) (wr_i64e (by omega) (by omega) (by omega))) rfl rfl ?_)
      intro a fr
      refine lst rfl (ow_v fr (rn_move (fr.ev rfl)) rfl rfl ?_)
      intro a fr
      refine wpList_nil ?_
      refine then_n ⟨tblL.length - (j + 1), ?_, j + 1, (by omega), (fun i hi h => by rcases (by omega : i < j ∨ i = j) with h1 | rfl; exact hJ i h1 h; simpa using hq), rfl, fr.prune ⟨rfl, rfl, rfl, rfl, trivial⟩, st.sub (.cons _ (.cons_cons _ (.cons_cons _ .slnil)))⟩
      omega
  · refine wp_seq ?_
    refine reg ?_
    refine lst rfl (ow_v fr (rn_as (v' := .bool false) (rn_lss (fr.ev rfl) (fr.ev rfl)) (congrArg Value.bool (decide_eq_false (by omega)))) rfl rfl ?_)
    intro a fr
    refine wpList_nil ?_
    refine then_n ?_
    refine wp_seq ?_
    refine cond_f fr rfl rfl ?_
    refine wp_exit ?_
    refine then_x ?_
    refine then_x ?_
    refine blk_x ?_
    refine then_n ?_
    refine wp_seq ?_
    refine reg ?_
    refine lst rfl (ow_v fr (rn_assign (fr.ev rfl)) rfl rfl ?_)
    intro a fr
    refine wpList_nil ?_
    refine then_n ?_
    refine wp_ret ?_
    refine ret1 Try.results59 fr (rv_tmp fr rfl) ?_
    exact ⟨.inr ⟨rfl, find_no (fun i h => hJ i (by omega) h)⟩, st.agr⟩

theorem idx_op_t (op : Int) {p f : Int} {q : ByteArray} (h : tblL.find? (fun r : RowD => r.1 == op) = some (p, q, f)) (A : Option Addr) (c b : Nat) (w0 : World) (ha : Els rowC 3 w0 A tblL) (hb : (ro b 0 [.int .i64 (op)]).ok w0 [] w0) : Calls Try.prog 59 #[.slice A tblL.length c, (.func (.func 48) #[] #[.pointer (some ⟨b, 0, none⟩)])] w0 fun e w' => ∃ i : Nat, e = .returned (.int .i64 (i : Nat)) ∧ (∃ h : i < tblL.length, tblL[i] = (p, q, f)) ∧ Agr [] w0 w' :=
  (idx_op op A c b w0 ha hb).mono fun e w' ⟨h1, h2⟩ => by
    rcases h1 with ⟨i, h3, h4, h5⟩ | ⟨_, h3⟩
    · rw [h] at h5; cases h5' : tblL[i]; rw [h5'] at h5; cases h5; exact ⟨i, h3, ⟨h4, h5'⟩, h2⟩
    · rw [h] at h3; cases h3
theorem idx_op_f (op : Int) (h : tblL.find? (fun r : RowD => r.1 == op) = none) (A : Option Addr) (c b : Nat) (w0 : World) (ha : Els rowC 3 w0 A tblL) (hb : (ro b 0 [.int .i64 (op)]).ok w0 [] w0) : Calls Try.prog 59 #[.slice A tblL.length c, (.func (.func 48) #[] #[.pointer (some ⟨b, 0, none⟩)])] w0 fun e w' => e = .returned (.int .i64 (-1)) ∧ Agr [] w0 w' :=
  (idx_op op A c b w0 ha hb).mono fun e w' ⟨h1, h2⟩ => by
    rcases h1 with ⟨i, h3, h4, h5⟩ | ⟨h3, _⟩
    · rw [h] at h5; cases h5
    · exact ⟨h3, h2⟩

theorem find_op_t (op : Int) {p f : Int} {q : ByteArray} (h : tblL.find? (fun r : RowD => r.1 == op) = some (p, q, f)) (b : Nat) (w0 : World) (hb : (ro b 0 [.int .i64 (op)]).ok w0 [] w0) : Calls Try.prog 47 #[(.func (.func 48) #[] #[.pointer (some ⟨b, 0, none⟩)])] w0 fun e w' => e = .returned (.tuple #[.agg #[.int .i64 p, .string q, .int .i64 f], .bool true]) ∧ Agr [] w0 w' := by
  have htl := tbl_len
  have st : St w0 [] w0 [ro b 0 [.int .i64 (op)]] := (add_ro (start0 w0 []) (by simp [els, ro, It.wr]) rfl (hb))
  clear hb
  refine enter Try.func47 rfl Try.ntmps47 (by simp) ?_
  intro a fr
  refine wp_seq ?_
  refine reg ?_
  refine lst rfl (ow_alloc fr st rfl zv_70 rfl rfl _ (by rfl) ?_)
  intro a w b1 fr st
  refine lst rfl (ow_v fr (rn_assign (fr.ev rfl)) rfl rfl ?_)
  intro a fr
  refine wpList_nil ?_
  refine then_n ?_
  refine wp_seq ?_
  refine reg ?_
  refine lst rfl (ow_call fr rfl rfl Try.call58 (rows_some _) rfl rfl ?_)
  rintro e w ⟨RA, rc, rfl, hE, hf, hag⟩
  refine ⟨_, rfl, ?_⟩
  intro a fr
  have st := st.call_els (C := rowC) (sz := 3) hag (by decide) (fun _ => rfl) hE hf
  clear hag hE hf
  refine lst rfl (ow_v fr (rn_assign (fr.ev rfl)) rfl rfl ?_)
  intro a fr
  refine wpList_nil ?_
  refine then_n ?_
  refine wp_seq ?_
  refine reg ?_
  refine lst rfl (ow_v fr (rn_move (fr.ev rfl)) rfl rfl ?_)
  intro a fr
  refine lst rfl (ow_v fr (rn_move (fr.ev rfl)) rfl rfl ?_)
  intro a fr
  refine lst rfl (ow_call fr rfl rfl Try.call59 (idx_op_t op h _ _ _ _ (st.get 0 rfl).1 (ro_now (st.get 2 rfl) rfl)) rfl rfl ?_)
  rintro e w ⟨i, rfl, ⟨hi, hti⟩, hag⟩
  refine ⟨_, rfl, ?_⟩
  intro a fr
  have st := st.keep hag
  clear hag
  refine lst rfl (ow_v fr (rn_assign (fr.ev rfl)) rfl rfl ?_)
  intro a fr
  refine wpList_nil ?_
  refine then_n ?_
  refine wp_seq ?_
  refine wp_seq ?_
  refine reg ?_
  refine lst rfl (ow_v fr (rn_move (fr.ev rfl)) rfl rfl ?_)
  intro a fr
  refine lst rfl (ow_v fr (rn_lss (fr.ev rfl) (fr.ev rfl)) rfl rfl ?_)
  intro a fr
  refine wpList_nil ?_
  refine then_n ?_
  refine cond_f fr rfl (decide_eq_false (by omega)) ?_
  refine wp_skip ?_
  refine then_n ?_
  refine wp_seq ?_
  refine reg ?_
  refine lst rfl (ow_v fr (rn_move (fr.ev rfl)) rfl rfl ?_)
  intro a fr
  refine lst rfl (ow_v fr (rn_move (fr.ev rfl)) rfl rfl ?_)
  intro a fr
  obtain ⟨b2, o3, eA, st_⟩ := st.elem 0 rfl i hi (by simp [rowC])
  have fr_ := fr
  cases eA
  have st := st_
  have fr := fr_
  clear st_ fr_
  rw [hti] at st
  replace st : St _ [] w [ro b2 (o3 + i * 3) [.int .i64 (p), (.string q), .int .i64 (f)], els rowC 3 (some ⟨b2, o3, none⟩) tblL, .blk b1 [.int .i64 0, .string ByteArray.empty, .int .i64 0] 70, ro b 0 [.int .i64 (op)]] := st
  refine lst rfl (ow_v fr (rn_at (i := i) (fr.ev rfl) (fr.ev rfl) Try.underlying87 sz_70 (by omega) (by rfl)) rfl rfl ?_)
  intro a fr
  refine lst rfl (ow_v fr (rn_loadN (cs := [.int .i64 (p), (.string q), .int .i64 (f)]) (fr.ev rfl) Try.underlying70 rfl sz_70 (st.rorange 0 rfl 0 rfl)) rfl rfl ?_)
  intro a fr
  refine lst rfl (ow_stN fr st 2 (vs := [.int .i64 (p), (.string q), .int .i64 (f)]) rfl rfl rfl rfl sz_70 rfl (Nat.le_of_ble_eq_true rfl) rfl ?_)
  intro w (st : St _ [] w [ro b2 (o3 + i * 3) [.int .i64 (p), (.string q), .int .i64 (f)], els rowC 3 (some ⟨b2, o3, none⟩) tblL, .blk b1 [.int .i64 (p), (.string q), .int .i64 (f)] 70, ro b 0 [.int .i64 (op)]])
  refine lst rfl (ow_v fr (rn_assign (fr.ev rfl)) rfl rfl ?_)
  intro a fr
  refine wpList_nil ?_
  refine then_n ?_
  refine wp_ret ?_
  refine ret2 Try.results47 fr (rv_row (cs := [.int .i64 (p), (.string q), .int .i64 (f)]) fr rfl Try.underlying70 rfl (by first | exact sz_70 | simpa using sz_70) (st.blkrange 2 rfl 0 rfl)) (rv_tmp fr rfl) ?_
  exact ⟨rfl, st.agr⟩

theorem form_t (op : Int) {p f : Int} {q : ByteArray} (h : tblL.find? (fun r : RowD => r.1 == op) = some (p, q, f)) (w0 : World) : Calls Try.prog 19 #[.int .i64 (op)] w0 fun e w' => e = .returned (.tuple #[.int .i64 f, .bool true]) ∧ Agr [] w0 w' := by
  have st := St.start w0 []
  refine enter Try.func19 rfl Try.ntmps19 (by simp) ?_
  intro a fr
  refine wp_seq ?_
  refine reg ?_
  refine lst rfl (ow_box fr st rfl rfl rfl rfl ([.int .i64 (op)]) (by rfl) ?_)
  intro a w b1 fr st
  refine lst rfl (ow_v fr (rn_assign (fr.ev rfl)) rfl rfl ?_)
  intro a fr
  refine lst rfl (ow_v fr (rn_assign (fr.ev rfl)) rfl rfl ?_)
  intro a fr
  refine wpList_nil ?_
  refine then_n ?_
  refine wp_seq ?_
  refine reg ?_
  refine lst rfl (ow_v fr (rn_makeFunc fr (xs := [.tmp 1]) rfl) rfl rfl ?_)
  intro a fr
  refine lst rfl (ow_call fr rfl rfl Try.call47 (find_op_t op h _ _ (ro_of_blk (st.get 0 rfl))) rfl rfl ?_)
  rintro e w ⟨rfl, hag⟩
  refine ⟨_, rfl, ?_⟩
  intro a fr
  have st := st.keep hag
  clear hag
  refine lst rfl (ow_v fr (rn_move (fr.ev rfl)) rfl rfl ?_)
  intro a fr
  refine lst rfl (ow_v fr (rn_extract (fr.ev rfl) rfl) rfl rfl ?_)
  intro a fr
  refine lst rfl (ow_v fr (rn_extract (fr.ev rfl) rfl) rfl rfl ?_)
  intro a fr
  refine lst rfl (ow_alloc fr st rfl zv_70 rfl rfl _ (by rfl) ?_)
  intro a w b2 fr st
  refine lst rfl (ow_stN fr st 0 (vs := [.int .i64 (p), (.string q), .int .i64 (f)]) rfl rfl rfl rfl sz_70 rfl (Nat.le_of_ble_eq_true rfl) rfl ?_)
  intro w (st : St _ [] w [.blk b2 [.int .i64 (p), (.string q), .int .i64 (f)] 70, .blk b1 [.int .i64 (op)] 3])
  refine lst rfl (ow_v fr (rn_assign (fr.ev rfl)) rfl rfl ?_)
  intro a fr
  refine wpList_nil ?_
  refine then_n ?_
  refine wp_seq ?_
  refine reg ?_
  refine lst rfl (ow_v fr (fa_70_2 (fr.ev rfl)) rfl rfl ?_)
  intro a fr
  refine lst rfl (ow_v fr (rn_load (fr.ev rfl) Try.underlying3 rfl (st.cell 0 rfl rfl)) rfl rfl ?_)
  intro a fr
  refine lst rfl (ow_v fr (rn_move (fr.ev rfl)) rfl rfl ?_)
  intro a fr
  refine lst rfl (ow_v fr (rn_assign (fr.ev rfl)) rfl rfl ?_)
  intro a fr
  refine lst rfl (ow_v fr (rn_assign (fr.ev rfl)) rfl rfl ?_)
  intro a fr
  refine wpList_nil ?_
  refine then_n ?_
  refine wp_ret ?_
  refine ret2 Try.results19 fr (rv_tmp fr rfl) (rv_tmp fr rfl) ?_
  exact ⟨rfl, st.agr⟩

theorem find_op_f (op : Int) (h : tblL.find? (fun r : RowD => r.1 == op) = none) (b : Nat) (w0 : World) (hb : (ro b 0 [.int .i64 (op)]).ok w0 [] w0) : Calls Try.prog 47 #[(.func (.func 48) #[] #[.pointer (some ⟨b, 0, none⟩)])] w0 fun e w' => e = .returned (.tuple #[.agg #[.int .i64 0, .string ByteArray.empty, .int .i64 0], .bool false]) ∧ Agr [] w0 w' := by
  have htl := tbl_len
  have st : St w0 [] w0 [ro b 0 [.int .i64 (op)]] := (add_ro (start0 w0 []) (by simp [els, ro, It.wr]) rfl (hb))
  clear hb
  refine enter Try.func47 rfl Try.ntmps47 (by simp) ?_
  intro a fr
  refine wp_seq ?_
  refine reg ?_
  refine lst rfl (ow_alloc fr st rfl zv_70 rfl rfl _ (by rfl) ?_)
  intro a w b1 fr st
  refine lst rfl (ow_v fr (rn_assign (fr.ev rfl)) rfl rfl ?_)
  intro a fr
  refine wpList_nil ?_
  refine then_n ?_
  refine wp_seq ?_
  refine reg ?_
  refine lst rfl (ow_call fr rfl rfl Try.call58 (rows_some _) rfl rfl ?_)
  rintro e w ⟨RA, rc, rfl, hE, hf, hag⟩
  refine ⟨_, rfl, ?_⟩
  intro a fr
  have st := st.call_els (C := rowC) (sz := 3) hag (by decide) (fun _ => rfl) hE hf
  clear hag hE hf
  refine lst rfl (ow_v fr (rn_assign (fr.ev rfl)) rfl rfl ?_)
  intro a fr
  refine wpList_nil ?_
  refine then_n ?_
  refine wp_seq ?_
  refine reg ?_
  refine lst rfl (ow_v fr (rn_move (fr.ev rfl)) rfl rfl ?_)
  intro a fr
  refine lst rfl (ow_v fr (rn_move (fr.ev rfl)) rfl rfl ?_)
  intro a fr
  refine lst rfl (ow_call fr rfl rfl Try.call59 (idx_op_f op h _ _ _ _ (st.get 0 rfl).1 (ro_now (st.get 2 rfl) rfl)) rfl rfl ?_)
  rintro e w ⟨rfl, hag⟩
  refine ⟨_, rfl, ?_⟩
  intro a fr
  have st := st.keep hag
  clear hag
  refine lst rfl (ow_v fr (rn_assign (fr.ev rfl)) rfl rfl ?_)
  intro a fr
  refine wpList_nil ?_
  refine then_n ?_
  refine wp_seq ?_
  refine wp_seq ?_
  refine reg ?_
  refine lst rfl (ow_v fr (rn_move (fr.ev rfl)) rfl rfl ?_)
  intro a fr
  refine lst rfl (ow_v fr (rn_as (rn_lss (fr.ev rfl) (fr.ev rfl)) (by rfl)) rfl rfl ?_)
  intro a fr
  refine wpList_nil ?_
  refine then_n ?_
  refine cond_t fr rfl rfl ?_
  refine wp_seq ?_
  refine reg ?_
  refine lst rfl (ow_v fr (rn_build (cells := #[.int .i64 0, .string ByteArray.empty, .int .i64 0]) (by simp only [List.map_toArray, List.map_cons, List.map_nil]; rfl)) rfl rfl ?_)
  intro a fr
  refine lst rfl (ow_stN fr st 1 (vs := [.int .i64 0, .string ByteArray.empty, .int .i64 0]) rfl rfl rfl rfl sz_70 rfl (Nat.le_of_ble_eq_true rfl) rfl ?_)
  intro w (st : St _ [] w [els rowC 3 RA tblL, .blk b1 [.int .i64 0, .string ByteArray.empty, .int .i64 0] 70, ro b 0 [.int .i64 (op)]])
  refine lst rfl (ow_v fr (rn_assign (fr.ev rfl)) rfl rfl ?_)
  intro a fr
  refine wpList_nil ?_
  refine then_n ?_
  refine wp_ret ?_
  refine then_r ?_
  refine ret2 Try.results47 fr (rv_row (cs := [.int .i64 0, .string ByteArray.empty, .int .i64 0]) fr rfl Try.underlying70 rfl (by first | exact sz_70 | simpa using sz_70) (st.blkrange 1 rfl 0 rfl)) (rv_tmp fr rfl) ?_
  exact ⟨rfl, st.agr⟩

theorem form_f (op : Int) (h : tblL.find? (fun r : RowD => r.1 == op) = none) (w0 : World) : Calls Try.prog 19 #[.int .i64 (op)] w0 fun e w' => e = .returned (.tuple #[.int .i64 0, .bool false]) ∧ Agr [] w0 w' := by
  have st := St.start w0 []
  refine enter Try.func19 rfl Try.ntmps19 (by simp) ?_
  intro a fr
  refine wp_seq ?_
  refine reg ?_
  refine lst rfl (ow_box fr st rfl rfl rfl rfl ([.int .i64 (op)]) (by rfl) ?_)
  intro a w b1 fr st
  refine lst rfl (ow_v fr (rn_assign (fr.ev rfl)) rfl rfl ?_)
  intro a fr
  refine lst rfl (ow_v fr (rn_assign (fr.ev rfl)) rfl rfl ?_)
  intro a fr
  refine wpList_nil ?_
  refine then_n ?_
  refine wp_seq ?_
  refine reg ?_
  refine lst rfl (ow_v fr (rn_makeFunc fr (xs := [.tmp 1]) rfl) rfl rfl ?_)
  intro a fr
  refine lst rfl (ow_call fr rfl rfl Try.call47 (find_op_f op h _ _ (ro_of_blk (st.get 0 rfl))) rfl rfl ?_)
  rintro e w ⟨rfl, hag⟩
  refine ⟨_, rfl, ?_⟩
  intro a fr
  have st := st.keep hag
  clear hag
  refine lst rfl (ow_v fr (rn_move (fr.ev rfl)) rfl rfl ?_)
  intro a fr
  refine lst rfl (ow_v fr (rn_extract (fr.ev rfl) rfl) rfl rfl ?_)
  intro a fr
  refine lst rfl (ow_v fr (rn_extract (fr.ev rfl) rfl) rfl rfl ?_)
  intro a fr
  refine lst rfl (ow_alloc fr st rfl zv_70 rfl rfl _ (by rfl) ?_)
  intro a w b2 fr st
  refine lst rfl (ow_stN fr st 0 (vs := [.int .i64 0, (.string ByteArray.empty), .int .i64 0]) rfl rfl rfl rfl sz_70 rfl (Nat.le_of_ble_eq_true rfl) rfl ?_)
  intro w (st : St _ [] w [.blk b2 [.int .i64 0, (.string ByteArray.empty), .int .i64 0] 70, .blk b1 [.int .i64 (op)] 3])
  refine lst rfl (ow_v fr (rn_assign (fr.ev rfl)) rfl rfl ?_)
  intro a fr
  refine wpList_nil ?_
  refine then_n ?_
  refine wp_seq ?_
  refine reg ?_
  refine lst rfl (ow_v fr (fa_70_2 (fr.ev rfl)) rfl rfl ?_)
  intro a fr
  refine lst rfl (ow_v fr (rn_load (fr.ev rfl) Try.underlying3 rfl (st.cell 0 rfl rfl)) rfl rfl ?_)
  intro a fr
  refine lst rfl (ow_v fr (rn_move (fr.ev rfl)) rfl rfl ?_)
  intro a fr
  refine lst rfl (ow_v fr (rn_assign (fr.ev rfl)) rfl rfl ?_)
  intro a fr
  refine lst rfl (ow_v fr (rn_assign (fr.ev rfl)) rfl rfl ?_)
  intro a fr
  refine wpList_nil ?_
  refine then_n ?_
  refine wp_ret ?_
  refine ret2 Try.results19 fr (rv_tmp fr rfl) (rv_tmp fr rfl) ?_
  exact ⟨rfl, st.agr⟩

theorem clo_op2 (op : Int) (p : Int) (q : ByteArray) (f : Int) (b : Nat) (w0 : World) (hb : (ro b 0 [.int .i64 (op)]).ok w0 [] w0) : Calls Try.prog 52 #[.agg #[.int .i64 (p), (.string q), .int .i64 (f)], .pointer (some ⟨b, 0, none⟩)] w0 fun e w' => e = .returned (.bool (p == op)) ∧ Agr [] w0 w' := by
  have st : St w0 [] w0 [ro b 0 [.int .i64 (op)]] := (add_ro (start0 w0 []) (by simp [els, ro, It.wr]) rfl (hb))
  refine enter Try.func52 rfl Try.ntmps52 (by simp) ?_
  intro a fr
  refine wp_seq ?_
  refine reg ?_
  refine lst rfl (ow_box fr st rfl rfl rfl rfl ([.int .i64 (p), (.string q), .int .i64 (f)]) (by rfl) ?_)
  intro a w b1 fr st
  refine lst rfl (ow_v fr (rn_assign (fr.ev rfl)) rfl rfl ?_)
  intro a fr
  refine wpList_nil ?_
  refine then_n ?_
  refine wp_seq ?_
  refine reg ?_
  refine lst rfl (ow_v fr (fa_70_0 (fr.ev rfl)) rfl rfl ?_)
  intro a fr
  refine lst rfl (ow_v fr (rn_load (fr.ev rfl) Try.underlying3 rfl (st.cell 0 rfl rfl)) rfl rfl ?_)
  intro a fr
  refine lst rfl (ow_v fr (rn_load (fr.ev rfl) Try.underlying3 rfl (st.rocell 1 rfl (j := 0) rfl)) rfl rfl ?_)
  intro a fr
  refine lst rfl (ow_v fr (rn_eql (fr.ev rfl) (fr.ev rfl)) rfl rfl ?_)
  intro a fr
  refine lst rfl (ow_v fr (rn_assign (fr.ev rfl)) rfl rfl ?_)
  intro a fr
  refine wpList_nil ?_
  refine then_n ?_
  refine wp_ret ?_
  refine ret1 Try.results52 fr (rv_tmp fr rfl) ?_
  exact ⟨rfl, st.agr⟩

theorem idx_op2 (op : Int) (A : Option Addr) (c b : Nat) (w0 : World) (ha : Els rowC 3 w0 A tblL) (hb : (ro b 0 [.int .i64 (op)]).ok w0 [] w0) : Calls Try.prog 59 #[.slice A tblL.length c, (.func (.func 52) #[] #[.pointer (some ⟨b, 0, none⟩)])] w0 fun e w' => ((∃ i : Nat, e = .returned (.int .i64 (i : Nat)) ∧ ∃ h : i < tblL.length, tblL.find? (fun r : RowD => r.1 == op) = some tblL[i]) ∨ (e = .returned (.int .i64 (-1)) ∧ tblL.find? (fun r : RowD => r.1 == op) = none)) ∧ Agr [] w0 w' := by
  have htl := tbl_len
  have st : St w0 [] w0 [els rowC 3 A tblL, ro b 0 [.int .i64 (op)]] := (add_ro (add_ro (start0 w0 []) (by simp [els, ro, It.wr]) rfl (hb)) (by simp [els, ro, It.wr]) rfl (els_ok (C := rowC) (sz := 3) (by decide) (fun x => rfl) ha))
  clear ha hb
  refine enter Try.func59 rfl Try.ntmps59 (by simp) ?_
  intro a fr
  refine wp_seq ?_
  refine reg ?_
  refine lst rfl (ow_v fr (rn_assign (fr.ev rfl)) rfl rfl ?_)
  intro a fr
  refine wpList_nil ?_
  refine then_n ?_
  refine wp_seq ?_
  refine wp_seq ?_
  refine reg ?_
  refine lst rfl (ow_v fr (rn_move (fr.ev rfl)) rfl rfl ?_)
  intro a fr
  refine lst rfl (ow_v fr (rn_len (fr.ev rfl) Try.underlying87) rfl rfl ?_)
  intro a fr
  refine lst rfl (ow_v fr (rn_move (fr.ev rfl)) rfl rfl ?_)
  intro a fr
  refine wpList_nil ?_
  refine then_n ?_
  refine wp_block ?_
  refine wp_loop_ghost (fun mz a w => ∃ (j : Nat), (j ≤ tblL.length) ∧ (∀ i, i < j → ∀ h : i < tblL.length, (fun r : RowD => r.1 == op) tblL[i] = false) ∧ mz = tblL.length - j ∧ FrL 19 a [(0, .slice A tblL.length c), (1, (.func (.func 52) #[] #[.pointer (some ⟨b, 0, none⟩)])), (7, .int .i64 ((tblL.length : Nat))), (8, .int .i64 ((j : Nat)))] ∧ St w0 [] w [els rowC 3 A tblL, ro b 0 [.int .i64 (op)]]) _ ⟨0, (Nat.zero_le _), (fun i hi => absurd hi (Nat.not_lt_zero _)), rfl, fr.prune ⟨rfl, rfl, rfl, rfl, trivial⟩, st⟩ ?_
  clear fr st
  intro mz a w hI
  obtain ⟨j, hj, hJ, hmz, fr, st⟩ := hI
  by_cases hlt : j < tblL.length
  · by_cases hq : (fun r : RowD => r.1 == op) tblL[j] = true
    · refine wp_seq ?_
      refine reg ?_
      refine lst rfl (ow_v fr (rn_as (v' := .bool true) (rn_lss (fr.ev rfl) (fr.ev rfl)) (congrArg Value.bool (decide_eq_true (by omega)))) rfl rfl ?_)
      intro a fr
      refine wpList_nil ?_
      refine then_n ?_
      refine wp_seq ?_
      refine cond_t fr rfl rfl ?_
      refine wp_skip ?_
      refine then_n ?_
      refine wp_seq ?_
      refine wp_block ?_
      refine wp_seq ?_
      refine reg ?_
      refine lst rfl (ow_v fr (rn_move (fr.ev rfl)) rfl rfl ?_)
      intro a fr
      refine lst rfl (ow_v fr (rn_assign (fr.ev rfl)) rfl rfl ?_)
      intro a fr
      refine wpList_nil ?_
      refine then_n ?_
      refine wp_seq ?_
      refine reg ?_
      refine lst rfl (ow_v fr (rn_move (fr.ev rfl)) rfl rfl ?_)
      intro a fr
      refine lst rfl (ow_v fr (rn_move (fr.ev rfl)) rfl rfl ?_)
      intro a fr
      refine lst rfl (ow_v fr (rn_move (fr.ev rfl)) rfl rfl ?_)
      intro a fr
      obtain ⟨b1, o2, eA, st_⟩ := st.elem 0 rfl j hlt (by simp [rowC])
      have fr_ := fr
      cases eA
      have st := st_
      have fr := fr_
      clear st_ fr_
      obtain ⟨p, q, f, hx_tblL_p⟩ : ∃ p q f, tblL[j] = (p, q, f) := ⟨_, _, _, rfl⟩
      rw [hx_tblL_p] at st
      replace st : St _ [] w [ro b1 (o2 + j * 3) [.int .i64 (p), (.string q), .int .i64 (f)], els rowC 3 (some ⟨b1, o2, none⟩) tblL, ro b 0 [.int .i64 (op)]] := st
      refine lst rfl (ow_v fr (rn_at (i := j) (fr.ev rfl) (fr.ev rfl) Try.underlying87 sz_70 (by omega) (by rfl)) rfl rfl ?_)
      intro a fr
      refine lst rfl (ow_v fr (rn_loadN (cs := [.int .i64 (p), (.string q), .int .i64 (f)]) (fr.ev rfl) Try.underlying70 rfl sz_70 (st.rorange 0 rfl 0 rfl)) rfl rfl ?_)
      intro a fr
      refine lst rfl (ow_callv fr rfl rfl rfl Try.call52 (clo_op2 op p q f _ _ (ro_now (st.get 2 rfl) rfl)) rfl rfl ?_)
      rintro e w ⟨rfl, hag⟩
      refine ⟨_, rfl, ?_⟩
      intro a fr
      have st := st.keep hag
      clear hag
      refine wpList_nil ?_
      refine then_n ?_
      refine cond_t fr rfl (by have h := hq; rw [hx_tblL_p] at h; exact h) ?_
      refine wp_seq ?_
      refine reg ?_
      refine lst rfl (ow_v fr (rn_move (fr.ev rfl)) rfl rfl ?_)
      intro a fr
      refine lst rfl (ow_v fr (rn_assign (fr.ev rfl)) rfl rfl ?_)
      intro a fr
      refine wpList_nil ?_
      refine then_n ?_
      refine wp_ret ?_
      refine blk_r ?_
      refine then_r ?_
      refine then_r ?_
      refine blk_r ?_
      refine then_r ?_
      refine ret1 Try.results59 fr (rv_tmp fr rfl) ?_
      exact ⟨.inl ⟨j, rfl, hlt, find_at hlt hq hJ⟩, st.agr⟩
    · refine wp_seq ?_
      refine reg ?_
      refine lst rfl (ow_v fr (rn_as (v' := .bool true) (rn_lss (fr.ev rfl) (fr.ev rfl)) (congrArg Value.bool (decide_eq_true (by omega)))) rfl rfl ?_)
      intro a fr
      refine wpList_nil ?_
      refine then_n ?_
      refine wp_seq ?_
      refine cond_t fr rfl rfl ?_
      refine wp_skip ?_
      refine then_n ?_
      refine wp_seq ?_
      refine wp_block ?_
      refine wp_seq ?_
      refine reg ?_
      refine lst rfl (ow_v fr (rn_move (fr.ev rfl)) rfl rfl ?_)
      intro a fr
      refine lst rfl (ow_v fr (rn_assign (fr.ev rfl)) rfl rfl ?_)
      intro a fr
      refine wpList_nil ?_
      refine then_n ?_
      refine wp_seq ?_
      refine reg ?_
      refine lst rfl (ow_v fr (rn_move (fr.ev rfl)) rfl rfl ?_)
      intro a fr
      refine lst rfl (ow_v fr (rn_move (fr.ev rfl)) rfl rfl ?_)
      intro a fr
      refine lst rfl (ow_v fr (rn_move (fr.ev rfl)) rfl rfl ?_)
      intro a fr
      obtain ⟨b3, o4, eA, st_⟩ := st.elem 0 rfl j hlt (by simp [rowC])
      have fr_ := fr
      cases eA
      have st := st_
      have fr := fr_
      clear st_ fr_
      obtain ⟨p, q, f, hx_tblL_p⟩ : ∃ p q f, tblL[j] = (p, q, f) := ⟨_, _, _, rfl⟩
      rw [hx_tblL_p] at st
      replace st : St _ [] w [ro b3 (o4 + j * 3) [.int .i64 (p), (.string q), .int .i64 (f)], els rowC 3 (some ⟨b3, o4, none⟩) tblL, ro b 0 [.int .i64 (op)]] := st
      refine lst rfl (ow_v fr (rn_at (i := j) (fr.ev rfl) (fr.ev rfl) Try.underlying87 sz_70 (by omega) (by rfl)) rfl rfl ?_)
      intro a fr
      refine lst rfl (ow_v fr (rn_loadN (cs := [.int .i64 (p), (.string q), .int .i64 (f)]) (fr.ev rfl) Try.underlying70 rfl sz_70 (st.rorange 0 rfl 0 rfl)) rfl rfl ?_)
      intro a fr
      refine lst rfl (ow_callv fr rfl rfl rfl Try.call52 (clo_op2 op p q f _ _ (ro_now (st.get 2 rfl) rfl)) rfl rfl ?_)
      rintro e w ⟨rfl, hag⟩
      refine ⟨_, rfl, ?_⟩
      intro a fr
      have st := st.keep hag
      clear hag
      refine wpList_nil ?_
      refine then_n ?_
      refine cond_f fr rfl (by have h := hq; rw [hx_tblL_p] at h; simpa using h) ?_
      refine wp_skip ?_
      refine blk_n ?_
      refine then_n ?_
      refine reg ?_
      refine lst rfl (ow_v fr (rn_add (c := ((j + 1 : Nat) : Int)) (fr.ev rfl) (fr.ev rfl) (wr_i64e (by omega) (by omega) (by omega))) rfl rfl ?_)
      intro a fr
      refine lst rfl (ow_v fr (rn_move (fr.ev rfl)) rfl rfl ?_)
      intro a fr
      refine wpList_nil ?_
      refine then_n ⟨tblL.length - (j + 1), ?_, j + 1, (by omega), (fun i hi h => by rcases (by omega : i < j ∨ i = j) with h1 | rfl; exact hJ i h1 h; simpa using hq), rfl, fr.prune ⟨rfl, rfl, rfl, rfl, trivial⟩, st.sub (.cons _ (.cons_cons _ (.cons_cons _ .slnil)))⟩
      omega
  · refine wp_seq ?_
    refine reg ?_
    refine lst rfl (ow_v fr (rn_as (v' := .bool false) (rn_lss (fr.ev rfl) (fr.ev rfl)) (congrArg Value.bool (decide_eq_false (by omega)))) rfl rfl ?_)
    intro a fr
    refine wpList_nil ?_
    refine then_n ?_
    refine wp_seq ?_
    refine cond_f fr rfl rfl ?_
    refine wp_exit ?_
    refine then_x ?_
    refine then_x ?_
    refine blk_x ?_
    refine then_n ?_
    refine wp_seq ?_
    refine reg ?_
    refine lst rfl (ow_v fr (rn_assign (fr.ev rfl)) rfl rfl ?_)
    intro a fr
    refine wpList_nil ?_
    refine then_n ?_
    refine wp_ret ?_
    refine ret1 Try.results59 fr (rv_tmp fr rfl) ?_
    exact ⟨.inr ⟨rfl, find_no (fun i h => hJ i (by omega) h)⟩, st.agr⟩

theorem idx_op2_t (op : Int) {p f : Int} {q : ByteArray} (h : tblL.find? (fun r : RowD => r.1 == op) = some (p, q, f)) (A : Option Addr) (c b : Nat) (w0 : World) (ha : Els rowC 3 w0 A tblL) (hb : (ro b 0 [.int .i64 (op)]).ok w0 [] w0) : Calls Try.prog 59 #[.slice A tblL.length c, (.func (.func 52) #[] #[.pointer (some ⟨b, 0, none⟩)])] w0 fun e w' => ∃ i : Nat, e = .returned (.int .i64 (i : Nat)) ∧ (∃ h : i < tblL.length, tblL[i] = (p, q, f)) ∧ Agr [] w0 w' :=
  (idx_op2 op A c b w0 ha hb).mono fun e w' ⟨h1, h2⟩ => by
    rcases h1 with ⟨i, h3, h4, h5⟩ | ⟨_, h3⟩
    · rw [h] at h5; cases h5' : tblL[i]; rw [h5'] at h5; cases h5; exact ⟨i, h3, ⟨h4, h5'⟩, h2⟩
    · rw [h] at h3; cases h3
theorem idx_op2_f (op : Int) (h : tblL.find? (fun r : RowD => r.1 == op) = none) (A : Option Addr) (c b : Nat) (w0 : World) (ha : Els rowC 3 w0 A tblL) (hb : (ro b 0 [.int .i64 (op)]).ok w0 [] w0) : Calls Try.prog 59 #[.slice A tblL.length c, (.func (.func 52) #[] #[.pointer (some ⟨b, 0, none⟩)])] w0 fun e w' => e = .returned (.int .i64 (-1)) ∧ Agr [] w0 w' :=
  (idx_op2 op A c b w0 ha hb).mono fun e w' ⟨h1, h2⟩ => by
    rcases h1 with ⟨i, h3, h4, h5⟩ | ⟨h3, _⟩
    · rw [h] at h5; cases h5
    · exact ⟨h3, h2⟩

theorem find_op2_t (op : Int) {p f : Int} {q : ByteArray} (h : tblL.find? (fun r : RowD => r.1 == op) = some (p, q, f)) (b : Nat) (w0 : World) (hb : (ro b 0 [.int .i64 (op)]).ok w0 [] w0) : Calls Try.prog 47 #[(.func (.func 52) #[] #[.pointer (some ⟨b, 0, none⟩)])] w0 fun e w' => e = .returned (.tuple #[.agg #[.int .i64 p, .string q, .int .i64 f], .bool true]) ∧ Agr [] w0 w' := by
  have htl := tbl_len
  have st : St w0 [] w0 [ro b 0 [.int .i64 (op)]] := (add_ro (start0 w0 []) (by simp [els, ro, It.wr]) rfl (hb))
  clear hb
  refine enter Try.func47 rfl Try.ntmps47 (by simp) ?_
  intro a fr
  refine wp_seq ?_
  refine reg ?_
  refine lst rfl (ow_alloc fr st rfl zv_70 rfl rfl _ (by rfl) ?_)
  intro a w b1 fr st
  refine lst rfl (ow_v fr (rn_assign (fr.ev rfl)) rfl rfl ?_)
  intro a fr
  refine wpList_nil ?_
  refine then_n ?_
  refine wp_seq ?_
  refine reg ?_
  refine lst rfl (ow_call fr rfl rfl Try.call58 (rows_some _) rfl rfl ?_)
  rintro e w ⟨RA, rc, rfl, hE, hf, hag⟩
  refine ⟨_, rfl, ?_⟩
  intro a fr
  have st := st.call_els (C := rowC) (sz := 3) hag (by decide) (fun _ => rfl) hE hf
  clear hag hE hf
  refine lst rfl (ow_v fr (rn_assign (fr.ev rfl)) rfl rfl ?_)
  intro a fr
  refine wpList_nil ?_
  refine then_n ?_
  refine wp_seq ?_
  refine reg ?_
  refine lst rfl (ow_v fr (rn_move (fr.ev rfl)) rfl rfl ?_)
  intro a fr
  refine lst rfl (ow_v fr (rn_move (fr.ev rfl)) rfl rfl ?_)
  intro a fr
  refine lst rfl (ow_call fr rfl rfl Try.call59 (idx_op2_t op h _ _ _ _ (st.get 0 rfl).1 (ro_now (st.get 2 rfl) rfl)) rfl rfl ?_)
  rintro e w ⟨i, rfl, ⟨hi, hti⟩, hag⟩
  refine ⟨_, rfl, ?_⟩
  intro a fr
  have st := st.keep hag
  clear hag
  refine lst rfl (ow_v fr (rn_assign (fr.ev rfl)) rfl rfl ?_)
  intro a fr
  refine wpList_nil ?_
  refine then_n ?_
  refine wp_seq ?_
  refine wp_seq ?_
  refine reg ?_
  refine lst rfl (ow_v fr (rn_move (fr.ev rfl)) rfl rfl ?_)
  intro a fr
  refine lst rfl (ow_v fr (rn_lss (fr.ev rfl) (fr.ev rfl)) rfl rfl ?_)
  intro a fr
  refine wpList_nil ?_
  refine then_n ?_
  refine cond_f fr rfl (decide_eq_false (by omega)) ?_
  refine wp_skip ?_
  refine then_n ?_
  refine wp_seq ?_
  refine reg ?_
  refine lst rfl (ow_v fr (rn_move (fr.ev rfl)) rfl rfl ?_)
  intro a fr
  refine lst rfl (ow_v fr (rn_move (fr.ev rfl)) rfl rfl ?_)
  intro a fr
  obtain ⟨b2, o3, eA, st_⟩ := st.elem 0 rfl i hi (by simp [rowC])
  have fr_ := fr
  cases eA
  have st := st_
  have fr := fr_
  clear st_ fr_
  rw [hti] at st
  replace st : St _ [] w [ro b2 (o3 + i * 3) [.int .i64 (p), (.string q), .int .i64 (f)], els rowC 3 (some ⟨b2, o3, none⟩) tblL, .blk b1 [.int .i64 0, .string ByteArray.empty, .int .i64 0] 70, ro b 0 [.int .i64 (op)]] := st
  refine lst rfl (ow_v fr (rn_at (i := i) (fr.ev rfl) (fr.ev rfl) Try.underlying87 sz_70 (by omega) (by rfl)) rfl rfl ?_)
  intro a fr
  refine lst rfl (ow_v fr (rn_loadN (cs := [.int .i64 (p), (.string q), .int .i64 (f)]) (fr.ev rfl) Try.underlying70 rfl sz_70 (st.rorange 0 rfl 0 rfl)) rfl rfl ?_)
  intro a fr
  refine lst rfl (ow_stN fr st 2 (vs := [.int .i64 (p), (.string q), .int .i64 (f)]) rfl rfl rfl rfl sz_70 rfl (Nat.le_of_ble_eq_true rfl) rfl ?_)
  intro w (st : St _ [] w [ro b2 (o3 + i * 3) [.int .i64 (p), (.string q), .int .i64 (f)], els rowC 3 (some ⟨b2, o3, none⟩) tblL, .blk b1 [.int .i64 (p), (.string q), .int .i64 (f)] 70, ro b 0 [.int .i64 (op)]])
  refine lst rfl (ow_v fr (rn_assign (fr.ev rfl)) rfl rfl ?_)
  intro a fr
  refine wpList_nil ?_
  refine then_n ?_
  refine wp_ret ?_
  refine ret2 Try.results47 fr (rv_row (cs := [.int .i64 (p), (.string q), .int .i64 (f)]) fr rfl Try.underlying70 rfl (by first | exact sz_70 | simpa using sz_70) (st.blkrange 2 rfl 0 rfl)) (rv_tmp fr rfl) ?_
  exact ⟨rfl, st.agr⟩

theorem name_t (op : Int) {p f : Int} {q : ByteArray} (h : tblL.find? (fun r : RowD => r.1 == op) = some (p, q, f)) (w0 : World) : Calls Try.prog 25 #[.int .i64 (op)] w0 fun e w' => e = .returned (.string q) ∧ Agr [] w0 w' := by
  have st := St.start w0 []
  refine enter Try.func25 rfl Try.ntmps25 (by simp) ?_
  intro a fr
  refine wp_seq ?_
  refine reg ?_
  refine lst rfl (ow_box fr st rfl rfl rfl rfl ([.int .i64 (op)]) (by rfl) ?_)
  intro a w b1 fr st
  refine lst rfl (ow_v fr (rn_assign (fr.ev rfl)) rfl rfl ?_)
  intro a fr
  refine wpList_nil ?_
  refine then_n ?_
  refine wp_seq ?_
  refine reg ?_
  refine lst rfl (ow_v fr (rn_makeFunc fr (xs := [.tmp 1]) rfl) rfl rfl ?_)
  intro a fr
  refine lst rfl (ow_call fr rfl rfl Try.call47 (find_op2_t op h _ _ (ro_of_blk (st.get 0 rfl))) rfl rfl ?_)
  rintro e w ⟨rfl, hag⟩
  refine ⟨_, rfl, ?_⟩
  intro a fr
  have st := st.keep hag
  clear hag
  refine lst rfl (ow_v fr (rn_move (fr.ev rfl)) rfl rfl ?_)
  intro a fr
  refine lst rfl (ow_v fr (rn_extract (fr.ev rfl) rfl) rfl rfl ?_)
  intro a fr
  refine lst rfl (ow_v fr (rn_extract (fr.ev rfl) rfl) rfl rfl ?_)
  intro a fr
  refine lst rfl (ow_alloc fr st rfl zv_70 rfl rfl _ (by rfl) ?_)
  intro a w b2 fr st
  refine lst rfl (ow_stN fr st 0 (vs := [.int .i64 (p), (.string q), .int .i64 (f)]) rfl rfl rfl rfl sz_70 rfl (Nat.le_of_ble_eq_true rfl) rfl ?_)
  intro w (st : St _ [] w [.blk b2 [.int .i64 (p), (.string q), .int .i64 (f)] 70, .blk b1 [.int .i64 (op)] 3])
  refine lst rfl (ow_v fr (rn_assign (fr.ev rfl)) rfl rfl ?_)
  intro a fr
  refine wpList_nil ?_
  refine then_n ?_
  refine wp_seq ?_
  refine reg ?_
  refine lst rfl (ow_v fr (fa_70_1 (fr.ev rfl)) rfl rfl ?_)
  intro a fr
  refine lst rfl (ow_v fr (rn_load (fr.ev rfl) Try.underlying9 rfl (st.cell 0 rfl rfl)) rfl rfl ?_)
  intro a fr
  refine lst rfl (ow_v fr (rn_assign (fr.ev rfl)) rfl rfl ?_)
  intro a fr
  refine wpList_nil ?_
  refine then_n ?_
  refine wp_ret ?_
  refine ret1 Try.results25 fr (rv_tmp fr rfl) ?_
  exact ⟨rfl, st.agr⟩

theorem find_op2_f (op : Int) (h : tblL.find? (fun r : RowD => r.1 == op) = none) (b : Nat) (w0 : World) (hb : (ro b 0 [.int .i64 (op)]).ok w0 [] w0) : Calls Try.prog 47 #[(.func (.func 52) #[] #[.pointer (some ⟨b, 0, none⟩)])] w0 fun e w' => e = .returned (.tuple #[.agg #[.int .i64 0, .string ByteArray.empty, .int .i64 0], .bool false]) ∧ Agr [] w0 w' := by
  have htl := tbl_len
  have st : St w0 [] w0 [ro b 0 [.int .i64 (op)]] := (add_ro (start0 w0 []) (by simp [els, ro, It.wr]) rfl (hb))
  clear hb
  refine enter Try.func47 rfl Try.ntmps47 (by simp) ?_
  intro a fr
  refine wp_seq ?_
  refine reg ?_
  refine lst rfl (ow_alloc fr st rfl zv_70 rfl rfl _ (by rfl) ?_)
  intro a w b1 fr st
  refine lst rfl (ow_v fr (rn_assign (fr.ev rfl)) rfl rfl ?_)
  intro a fr
  refine wpList_nil ?_
  refine then_n ?_
  refine wp_seq ?_
  refine reg ?_
  refine lst rfl (ow_call fr rfl rfl Try.call58 (rows_some _) rfl rfl ?_)
  rintro e w ⟨RA, rc, rfl, hE, hf, hag⟩
  refine ⟨_, rfl, ?_⟩
  intro a fr
  have st := st.call_els (C := rowC) (sz := 3) hag (by decide) (fun _ => rfl) hE hf
  clear hag hE hf
  refine lst rfl (ow_v fr (rn_assign (fr.ev rfl)) rfl rfl ?_)
  intro a fr
  refine wpList_nil ?_
  refine then_n ?_
  refine wp_seq ?_
  refine reg ?_
  refine lst rfl (ow_v fr (rn_move (fr.ev rfl)) rfl rfl ?_)
  intro a fr
  refine lst rfl (ow_v fr (rn_move (fr.ev rfl)) rfl rfl ?_)
  intro a fr
  refine lst rfl (ow_call fr rfl rfl Try.call59 (idx_op2_f op h _ _ _ _ (st.get 0 rfl).1 (ro_now (st.get 2 rfl) rfl)) rfl rfl ?_)
  rintro e w ⟨rfl, hag⟩
  refine ⟨_, rfl, ?_⟩
  intro a fr
  have st := st.keep hag
  clear hag
  refine lst rfl (ow_v fr (rn_assign (fr.ev rfl)) rfl rfl ?_)
  intro a fr
  refine wpList_nil ?_
  refine then_n ?_
  refine wp_seq ?_
  refine wp_seq ?_
  refine reg ?_
  refine lst rfl (ow_v fr (rn_move (fr.ev rfl)) rfl rfl ?_)
  intro a fr
  refine lst rfl (ow_v fr (rn_as (rn_lss (fr.ev rfl) (fr.ev rfl)) (by rfl)) rfl rfl ?_)
  intro a fr
  refine wpList_nil ?_
  refine then_n ?_
  refine cond_t fr rfl rfl ?_
  refine wp_seq ?_
  refine reg ?_
  refine lst rfl (ow_v fr (rn_build (cells := #[.int .i64 0, .string ByteArray.empty, .int .i64 0]) (by simp only [List.map_toArray, List.map_cons, List.map_nil]; rfl)) rfl rfl ?_)
  intro a fr
  refine lst rfl (ow_stN fr st 1 (vs := [.int .i64 0, .string ByteArray.empty, .int .i64 0]) rfl rfl rfl rfl sz_70 rfl (Nat.le_of_ble_eq_true rfl) rfl ?_)
  intro w (st : St _ [] w [els rowC 3 RA tblL, .blk b1 [.int .i64 0, .string ByteArray.empty, .int .i64 0] 70, ro b 0 [.int .i64 (op)]])
  refine lst rfl (ow_v fr (rn_assign (fr.ev rfl)) rfl rfl ?_)
  intro a fr
  refine wpList_nil ?_
  refine then_n ?_
  refine wp_ret ?_
  refine then_r ?_
  refine ret2 Try.results47 fr (rv_row (cs := [.int .i64 0, .string ByteArray.empty, .int .i64 0]) fr rfl Try.underlying70 rfl (by first | exact sz_70 | simpa using sz_70) (st.blkrange 1 rfl 0 rfl)) (rv_tmp fr rfl) ?_
  exact ⟨rfl, st.agr⟩

theorem name_f (op : Int) (h : tblL.find? (fun r : RowD => r.1 == op) = none) (w0 : World) : Calls Try.prog 25 #[.int .i64 (op)] w0 fun e w' => e = .returned (.string ByteArray.empty) ∧ Agr [] w0 w' := by
  have st := St.start w0 []
  refine enter Try.func25 rfl Try.ntmps25 (by simp) ?_
  intro a fr
  refine wp_seq ?_
  refine reg ?_
  refine lst rfl (ow_box fr st rfl rfl rfl rfl ([.int .i64 (op)]) (by rfl) ?_)
  intro a w b1 fr st
  refine lst rfl (ow_v fr (rn_assign (fr.ev rfl)) rfl rfl ?_)
  intro a fr
  refine wpList_nil ?_
  refine then_n ?_
  refine wp_seq ?_
  refine reg ?_
  refine lst rfl (ow_v fr (rn_makeFunc fr (xs := [.tmp 1]) rfl) rfl rfl ?_)
  intro a fr
  refine lst rfl (ow_call fr rfl rfl Try.call47 (find_op2_f op h _ _ (ro_of_blk (st.get 0 rfl))) rfl rfl ?_)
  rintro e w ⟨rfl, hag⟩
  refine ⟨_, rfl, ?_⟩
  intro a fr
  have st := st.keep hag
  clear hag
  refine lst rfl (ow_v fr (rn_move (fr.ev rfl)) rfl rfl ?_)
  intro a fr
  refine lst rfl (ow_v fr (rn_extract (fr.ev rfl) rfl) rfl rfl ?_)
  intro a fr
  refine lst rfl (ow_v fr (rn_extract (fr.ev rfl) rfl) rfl rfl ?_)
  intro a fr
  refine lst rfl (ow_alloc fr st rfl zv_70 rfl rfl _ (by rfl) ?_)
  intro a w b2 fr st
  refine lst rfl (ow_stN fr st 0 (vs := [.int .i64 0, (.string ByteArray.empty), .int .i64 0]) rfl rfl rfl rfl sz_70 rfl (Nat.le_of_ble_eq_true rfl) rfl ?_)
  intro w (st : St _ [] w [.blk b2 [.int .i64 0, (.string ByteArray.empty), .int .i64 0] 70, .blk b1 [.int .i64 (op)] 3])
  refine lst rfl (ow_v fr (rn_assign (fr.ev rfl)) rfl rfl ?_)
  intro a fr
  refine wpList_nil ?_
  refine then_n ?_
  refine wp_seq ?_
  refine reg ?_
  refine lst rfl (ow_v fr (fa_70_1 (fr.ev rfl)) rfl rfl ?_)
  intro a fr
  refine lst rfl (ow_v fr (rn_load (fr.ev rfl) Try.underlying9 rfl (st.cell 0 rfl rfl)) rfl rfl ?_)
  intro a fr
  refine lst rfl (ow_v fr (rn_assign (fr.ev rfl)) rfl rfl ?_)
  intro a fr
  refine wpList_nil ?_
  refine then_n ?_
  refine wp_ret ?_
  refine ret1 Try.results25 fr (rv_tmp fr rfl) ?_
  exact ⟨rfl, st.agr⟩

theorem clo_nm (s : ByteArray) (p : Int) (q : ByteArray) (f : Int) (b : Nat) (w0 : World) (hb : (ro b 0 [(.string s)]).ok w0 [] w0) : Calls Try.prog 50 #[.agg #[.int .i64 (p), (.string q), .int .i64 (f)], .pointer (some ⟨b, 0, none⟩)] w0 fun e w' => e = .returned (.bool (q == s)) ∧ Agr [] w0 w' := by
  have st : St w0 [] w0 [ro b 0 [(.string s)]] := (add_ro (start0 w0 []) (by simp [els, ro, It.wr]) rfl (hb))
  refine enter Try.func50 rfl Try.ntmps50 (by simp) ?_
  intro a fr
  refine wp_seq ?_
  refine reg ?_
  refine lst rfl (ow_box fr st rfl rfl rfl rfl ([.int .i64 (p), (.string q), .int .i64 (f)]) (by rfl) ?_)
  intro a w b1 fr st
  refine lst rfl (ow_v fr (rn_assign (fr.ev rfl)) rfl rfl ?_)
  intro a fr
  refine wpList_nil ?_
  refine then_n ?_
  refine wp_seq ?_
  refine reg ?_
  refine lst rfl (ow_v fr (fa_70_1 (fr.ev rfl)) rfl rfl ?_)
  intro a fr
  refine lst rfl (ow_v fr (rn_load (fr.ev rfl) Try.underlying9 rfl (st.cell 0 rfl rfl)) rfl rfl ?_)
  intro a fr
  refine lst rfl (ow_v fr (rn_load (fr.ev rfl) Try.underlying9 rfl (st.rocell 1 rfl (j := 0) rfl)) rfl rfl ?_)
  intro a fr
  refine lst rfl (ow_v fr (rn_eqs Try.underlying9 (fr.ev rfl) (fr.ev rfl)) rfl rfl ?_)
  intro a fr
  refine lst rfl (ow_v fr (rn_assign (fr.ev rfl)) rfl rfl ?_)
  intro a fr
  refine wpList_nil ?_
  refine then_n ?_
  refine wp_ret ?_
  refine ret1 Try.results50 fr (rv_tmp fr rfl) ?_
  exact ⟨rfl, st.agr⟩

theorem idx_nm (s : ByteArray) (A : Option Addr) (c b : Nat) (w0 : World) (ha : Els rowC 3 w0 A tblL) (hb : (ro b 0 [(.string s)]).ok w0 [] w0) : Calls Try.prog 59 #[.slice A tblL.length c, (.func (.func 50) #[] #[.pointer (some ⟨b, 0, none⟩)])] w0 fun e w' => ((∃ i : Nat, e = .returned (.int .i64 (i : Nat)) ∧ ∃ h : i < tblL.length, tblL.find? (fun r : RowD => r.2.1 == s) = some tblL[i]) ∨ (e = .returned (.int .i64 (-1)) ∧ tblL.find? (fun r : RowD => r.2.1 == s) = none)) ∧ Agr [] w0 w' := by
  have htl := tbl_len
  have st : St w0 [] w0 [els rowC 3 A tblL, ro b 0 [(.string s)]] := (add_ro (add_ro (start0 w0 []) (by simp [els, ro, It.wr]) rfl (hb)) (by simp [els, ro, It.wr]) rfl (els_ok (C := rowC) (sz := 3) (by decide) (fun x => rfl) ha))
  clear ha hb
  refine enter Try.func59 rfl Try.ntmps59 (by simp) ?_
  intro a fr
  refine wp_seq ?_
  refine reg ?_
  refine lst rfl (ow_v fr (rn_assign (fr.ev rfl)) rfl rfl ?_)
  intro a fr
  refine wpList_nil ?_
  refine then_n ?_
  refine wp_seq ?_
  refine wp_seq ?_
  refine reg ?_
  refine lst rfl (ow_v fr (rn_move (fr.ev rfl)) rfl rfl ?_)
  intro a fr
  refine lst rfl (ow_v fr (rn_len (fr.ev rfl) Try.underlying87) rfl rfl ?_)
  intro a fr
  refine lst rfl (ow_v fr (rn_move (fr.ev rfl)) rfl rfl ?_)
  intro a fr
  refine wpList_nil ?_
  refine then_n ?_
  refine wp_block ?_
  refine wp_loop_ghost (fun mz a w => ∃ (j : Nat), (j ≤ tblL.length) ∧ (∀ i, i < j → ∀ h : i < tblL.length, (fun r : RowD => r.2.1 == s) tblL[i] = false) ∧ mz = tblL.length - j ∧ FrL 19 a [(0, .slice A tblL.length c), (1, (.func (.func 50) #[] #[.pointer (some ⟨b, 0, none⟩)])), (7, .int .i64 ((tblL.length : Nat))), (8, .int .i64 ((j : Nat)))] ∧ St w0 [] w [els rowC 3 A tblL, ro b 0 [(.string s)]]) _ ⟨0, (Nat.zero_le _), (fun i hi => absurd hi (Nat.not_lt_zero _)), rfl, fr.prune ⟨rfl, rfl, rfl, rfl, trivial⟩, st⟩ ?_
  clear fr st
  intro mz a w hI
  obtain ⟨j, hj, hJ, hmz, fr, st⟩ := hI
  by_cases hlt : j < tblL.length
  · by_cases hq : (fun r : RowD => r.2.1 == s) tblL[j] = true
    · refine wp_seq ?_
      refine reg ?_
      refine lst rfl (ow_v fr (rn_as (v' := .bool true) (rn_lss (fr.ev rfl) (fr.ev rfl)) (congrArg Value.bool (decide_eq_true (by omega)))) rfl rfl ?_)
      intro a fr
      refine wpList_nil ?_
      refine then_n ?_
      refine wp_seq ?_
      refine cond_t fr rfl rfl ?_
      refine wp_skip ?_
      refine then_n ?_
      refine wp_seq ?_
      refine wp_block ?_
      refine wp_seq ?_
      refine reg ?_
      refine lst rfl (ow_v fr (rn_move (fr.ev rfl)) rfl rfl ?_)
      intro a fr
      refine lst rfl (ow_v fr (rn_assign (fr.ev rfl)) rfl rfl ?_)
      intro a fr
      refine wpList_nil ?_
      refine then_n ?_
      refine wp_seq ?_
      refine reg ?_
      refine lst rfl (ow_v fr (rn_move (fr.ev rfl)) rfl rfl ?_)
      intro a fr
      refine lst rfl (ow_v fr (rn_move (fr.ev rfl)) rfl rfl ?_)
      intro a fr
      refine lst rfl (ow_v fr (rn_move (fr.ev rfl)) rfl rfl ?_)
      intro a fr
      obtain ⟨b1, o2, eA, st_⟩ := st.elem 0 rfl j hlt (by simp [rowC])
      have fr_ := fr
      cases eA
      have st := st_
      have fr := fr_
      clear st_ fr_
      obtain ⟨p, q, f, hx_tblL_p⟩ : ∃ p q f, tblL[j] = (p, q, f) := ⟨_, _, _, rfl⟩
      rw [hx_tblL_p] at st
      replace st : St _ [] w [ro b1 (o2 + j * 3) [.int .i64 (p), (.string q), .int .i64 (f)], els rowC 3 (some ⟨b1, o2, none⟩) tblL, ro b 0 [(.string s)]] := st
      refine lst rfl (ow_v fr (rn_at (i := j) (fr.ev rfl) (fr.ev rfl) Try.underlying87 sz_70 (by omega) (by rfl)) rfl rfl ?_)
      intro a fr
      refine lst rfl (ow_v fr (rn_loadN (cs := [.int .i64 (p), (.string q), .int .i64 (f)]) (fr.ev rfl) Try.underlying70 rfl sz_70 (st.rorange 0 rfl 0 rfl)) rfl rfl ?_)
      intro a fr
      refine lst rfl (ow_callv fr rfl rfl rfl Try.call50 (clo_nm s p q f _ _ (ro_now (st.get 2 rfl) rfl)) rfl rfl ?_)
      rintro e w ⟨rfl, hag⟩
      refine ⟨_, rfl, ?_⟩
      intro a fr
      have st := st.keep hag
      clear hag
      refine wpList_nil ?_
      refine then_n ?_
      refine cond_t fr rfl (by have h := hq; rw [hx_tblL_p] at h; exact h) ?_
      refine wp_seq ?_
      refine reg ?_
      refine lst rfl (ow_v fr (rn_move (fr.ev rfl)) rfl rfl ?_)
      intro a fr
      refine lst rfl (ow_v fr (rn_assign (fr.ev rfl)) rfl rfl ?_)
      intro a fr
      refine wpList_nil ?_
      refine then_n ?_
      refine wp_ret ?_
      refine blk_r ?_
      refine then_r ?_
      refine then_r ?_
      refine blk_r ?_
      refine then_r ?_
      refine ret1 Try.results59 fr (rv_tmp fr rfl) ?_
      exact ⟨.inl ⟨j, rfl, hlt, find_at hlt hq hJ⟩, st.agr⟩
    · refine wp_seq ?_
      refine reg ?_
      refine lst rfl (ow_v fr (rn_as (v' := .bool true) (rn_lss (fr.ev rfl) (fr.ev rfl)) (congrArg Value.bool (decide_eq_true (by omega)))) rfl rfl ?_)
      intro a fr
      refine wpList_nil ?_
      refine then_n ?_
      refine wp_seq ?_
      refine cond_t fr rfl rfl ?_
      refine wp_skip ?_
      refine then_n ?_
      refine wp_seq ?_
      refine wp_block ?_
      refine wp_seq ?_
      refine reg ?_
      refine lst rfl (ow_v fr (rn_move (fr.ev rfl)) rfl rfl ?_)
      intro a fr
      refine lst rfl (ow_v fr (rn_assign (fr.ev rfl)) rfl rfl ?_)
      intro a fr
      refine wpList_nil ?_
      refine then_n ?_
      refine wp_seq ?_
      refine reg ?_
      refine lst rfl (ow_v fr (rn_move (fr.ev rfl)) rfl rfl ?_)
      intro a fr
      refine lst rfl (ow_v fr (rn_move (fr.ev rfl)) rfl rfl ?_)
      intro a fr
      refine lst rfl (ow_v fr (rn_move (fr.ev rfl)) rfl rfl ?_)
      intro a fr
      obtain ⟨b3, o4, eA, st_⟩ := st.elem 0 rfl j hlt (by simp [rowC])
      have fr_ := fr
      cases eA
      have st := st_
      have fr := fr_
      clear st_ fr_
      obtain ⟨p, q, f, hx_tblL_p⟩ : ∃ p q f, tblL[j] = (p, q, f) := ⟨_, _, _, rfl⟩
      rw [hx_tblL_p] at st
      replace st : St _ [] w [ro b3 (o4 + j * 3) [.int .i64 (p), (.string q), .int .i64 (f)], els rowC 3 (some ⟨b3, o4, none⟩) tblL, ro b 0 [(.string s)]] := st
      refine lst rfl (ow_v fr (rn_at (i := j) (fr.ev rfl) (fr.ev rfl) Try.underlying87 sz_70 (by omega) (by rfl)) rfl rfl ?_)
      intro a fr
      refine lst rfl (ow_v fr (rn_loadN (cs := [.int .i64 (p), (.string q), .int .i64 (f)]) (fr.ev rfl) Try.underlying70 rfl sz_70 (st.rorange 0 rfl 0 rfl)) rfl rfl ?_)
      intro a fr
      refine lst rfl (ow_callv fr rfl rfl rfl Try.call50 (clo_nm s p q f _ _ (ro_now (st.get 2 rfl) rfl)) rfl rfl ?_)
      rintro e w ⟨rfl, hag⟩
      refine ⟨_, rfl, ?_⟩
      intro a fr
      have st := st.keep hag
      clear hag
      refine wpList_nil ?_
      refine then_n ?_
      refine cond_f fr rfl (by have h := hq; rw [hx_tblL_p] at h; simpa using h) ?_
      refine wp_skip ?_
      refine blk_n ?_
      refine then_n ?_
      refine reg ?_
      refine lst rfl (ow_v fr (rn_add (c := ((j + 1 : Nat) : Int)) (fr.ev rfl) (fr.ev rfl) (wr_i64e (by omega) (by omega) (by omega))) rfl rfl ?_)
      intro a fr
      refine lst rfl (ow_v fr (rn_move (fr.ev rfl)) rfl rfl ?_)
      intro a fr
      refine wpList_nil ?_
      refine then_n ⟨tblL.length - (j + 1), ?_, j + 1, (by omega), (fun i hi h => by rcases (by omega : i < j ∨ i = j) with h1 | rfl; exact hJ i h1 h; simpa using hq), rfl, fr.prune ⟨rfl, rfl, rfl, rfl, trivial⟩, st.sub (.cons _ (.cons_cons _ (.cons_cons _ .slnil)))⟩
      omega
  · refine wp_seq ?_
    refine reg ?_
    refine lst rfl (ow_v fr (rn_as (v' := .bool false) (rn_lss (fr.ev rfl) (fr.ev rfl)) (congrArg Value.bool (decide_eq_false (by omega)))) rfl rfl ?_)
    intro a fr
    refine wpList_nil ?_
    refine then_n ?_
    refine wp_seq ?_
    refine cond_f fr rfl rfl ?_
    refine wp_exit ?_
    refine then_x ?_
    refine then_x ?_
    refine blk_x ?_
    refine then_n ?_
    refine wp_seq ?_
    refine reg ?_
    refine lst rfl (ow_v fr (rn_assign (fr.ev rfl)) rfl rfl ?_)
    intro a fr
    refine wpList_nil ?_
    refine then_n ?_
    refine wp_ret ?_
    refine ret1 Try.results59 fr (rv_tmp fr rfl) ?_
    exact ⟨.inr ⟨rfl, find_no (fun i h => hJ i (by omega) h)⟩, st.agr⟩

theorem idx_nm_t (s : ByteArray) {p f : Int} {q : ByteArray} (h : tblL.find? (fun r : RowD => r.2.1 == s) = some (p, q, f)) (A : Option Addr) (c b : Nat) (w0 : World) (ha : Els rowC 3 w0 A tblL) (hb : (ro b 0 [(.string s)]).ok w0 [] w0) : Calls Try.prog 59 #[.slice A tblL.length c, (.func (.func 50) #[] #[.pointer (some ⟨b, 0, none⟩)])] w0 fun e w' => ∃ i : Nat, e = .returned (.int .i64 (i : Nat)) ∧ (∃ h : i < tblL.length, tblL[i] = (p, q, f)) ∧ Agr [] w0 w' :=
  (idx_nm s A c b w0 ha hb).mono fun e w' ⟨h1, h2⟩ => by
    rcases h1 with ⟨i, h3, h4, h5⟩ | ⟨_, h3⟩
    · rw [h] at h5; cases h5' : tblL[i]; rw [h5'] at h5; cases h5; exact ⟨i, h3, ⟨h4, h5'⟩, h2⟩
    · rw [h] at h3; cases h3
theorem idx_nm_f (s : ByteArray) (h : tblL.find? (fun r : RowD => r.2.1 == s) = none) (A : Option Addr) (c b : Nat) (w0 : World) (ha : Els rowC 3 w0 A tblL) (hb : (ro b 0 [(.string s)]).ok w0 [] w0) : Calls Try.prog 59 #[.slice A tblL.length c, (.func (.func 50) #[] #[.pointer (some ⟨b, 0, none⟩)])] w0 fun e w' => e = .returned (.int .i64 (-1)) ∧ Agr [] w0 w' :=
  (idx_nm s A c b w0 ha hb).mono fun e w' ⟨h1, h2⟩ => by
    rcases h1 with ⟨i, h3, h4, h5⟩ | ⟨h3, _⟩
    · rw [h] at h5; cases h5
    · exact ⟨h3, h2⟩

theorem find_nm_t (s : ByteArray) {p f : Int} {q : ByteArray} (h : tblL.find? (fun r : RowD => r.2.1 == s) = some (p, q, f)) (b : Nat) (w0 : World) (hb : (ro b 0 [(.string s)]).ok w0 [] w0) : Calls Try.prog 47 #[(.func (.func 50) #[] #[.pointer (some ⟨b, 0, none⟩)])] w0 fun e w' => e = .returned (.tuple #[.agg #[.int .i64 p, .string q, .int .i64 f], .bool true]) ∧ Agr [] w0 w' := by
  have htl := tbl_len
  have st : St w0 [] w0 [ro b 0 [(.string s)]] := (add_ro (start0 w0 []) (by simp [els, ro, It.wr]) rfl (hb))
  clear hb
  refine enter Try.func47 rfl Try.ntmps47 (by simp) ?_
  intro a fr
  refine wp_seq ?_
  refine reg ?_
  refine lst rfl (ow_alloc fr st rfl zv_70 rfl rfl _ (by rfl) ?_)
  intro a w b1 fr st
  refine lst rfl (ow_v fr (rn_assign (fr.ev rfl)) rfl rfl ?_)
  intro a fr
  refine wpList_nil ?_
  refine then_n ?_
  refine wp_seq ?_
  refine reg ?_
  refine lst rfl (ow_call fr rfl rfl Try.call58 (rows_some _) rfl rfl ?_)
  rintro e w ⟨RA, rc, rfl, hE, hf, hag⟩
  refine ⟨_, rfl, ?_⟩
  intro a fr
  have st := st.call_els (C := rowC) (sz := 3) hag (by decide) (fun _ => rfl) hE hf
  clear hag hE hf
  refine lst rfl (ow_v fr (rn_assign (fr.ev rfl)) rfl rfl ?_)
  intro a fr
  refine wpList_nil ?_
  refine then_n ?_
  refine wp_seq ?_
  refine reg ?_
  refine lst rfl (ow_v fr (rn_move (fr.ev rfl)) rfl rfl ?_)
  intro a fr
  refine lst rfl (ow_v fr (rn_move (fr.ev rfl)) rfl rfl ?_)
  intro a fr
  refine lst rfl (ow_call fr rfl rfl Try.call59 (idx_nm_t s h _ _ _ _ (st.get 0 rfl).1 (ro_now (st.get 2 rfl) rfl)) rfl rfl ?_)
  rintro e w ⟨i, rfl, ⟨hi, hti⟩, hag⟩
  refine ⟨_, rfl, ?_⟩
  intro a fr
  have st := st.keep hag
  clear hag
  refine lst rfl (ow_v fr (rn_assign (fr.ev rfl)) rfl rfl ?_)
  intro a fr
  refine wpList_nil ?_
  refine then_n ?_
  refine wp_seq ?_
  refine wp_seq ?_
  refine reg ?_
  refine lst rfl (ow_v fr (rn_move (fr.ev rfl)) rfl rfl ?_)
  intro a fr
  refine lst rfl (ow_v fr (rn_lss (fr.ev rfl) (fr.ev rfl)) rfl rfl ?_)
  intro a fr
  refine wpList_nil ?_
  refine then_n ?_
  refine cond_f fr rfl (decide_eq_false (by omega)) ?_
  refine wp_skip ?_
  refine then_n ?_
  refine wp_seq ?_
  refine reg ?_
  refine lst rfl (ow_v fr (rn_move (fr.ev rfl)) rfl rfl ?_)
  intro a fr
  refine lst rfl (ow_v fr (rn_move (fr.ev rfl)) rfl rfl ?_)
  intro a fr
  obtain ⟨b2, o3, eA, st_⟩ := st.elem 0 rfl i hi (by simp [rowC])
  have fr_ := fr
  cases eA
  have st := st_
  have fr := fr_
  clear st_ fr_
  rw [hti] at st
  replace st : St _ [] w [ro b2 (o3 + i * 3) [.int .i64 (p), (.string q), .int .i64 (f)], els rowC 3 (some ⟨b2, o3, none⟩) tblL, .blk b1 [.int .i64 0, .string ByteArray.empty, .int .i64 0] 70, ro b 0 [(.string s)]] := st
  refine lst rfl (ow_v fr (rn_at (i := i) (fr.ev rfl) (fr.ev rfl) Try.underlying87 sz_70 (by omega) (by rfl)) rfl rfl ?_)
  intro a fr
  refine lst rfl (ow_v fr (rn_loadN (cs := [.int .i64 (p), (.string q), .int .i64 (f)]) (fr.ev rfl) Try.underlying70 rfl sz_70 (st.rorange 0 rfl 0 rfl)) rfl rfl ?_)
  intro a fr
  refine lst rfl (ow_stN fr st 2 (vs := [.int .i64 (p), (.string q), .int .i64 (f)]) rfl rfl rfl rfl sz_70 rfl (Nat.le_of_ble_eq_true rfl) rfl ?_)
  intro w (st : St _ [] w [ro b2 (o3 + i * 3) [.int .i64 (p), (.string q), .int .i64 (f)], els rowC 3 (some ⟨b2, o3, none⟩) tblL, .blk b1 [.int .i64 (p), (.string q), .int .i64 (f)] 70, ro b 0 [(.string s)]])
  refine lst rfl (ow_v fr (rn_assign (fr.ev rfl)) rfl rfl ?_)
  intro a fr
  refine wpList_nil ?_
  refine then_n ?_
  refine wp_ret ?_
  refine ret2 Try.results47 fr (rv_row (cs := [.int .i64 (p), (.string q), .int .i64 (f)]) fr rfl Try.underlying70 rfl (by first | exact sz_70 | simpa using sz_70) (st.blkrange 2 rfl 0 rfl)) (rv_tmp fr rfl) ?_
  exact ⟨rfl, st.agr⟩

theorem named_t (s : ByteArray) {p f : Int} {q : ByteArray} (h : tblL.find? (fun r : RowD => r.2.1 == s) = some (p, q, f)) (w0 : World) : Calls Try.prog 23 #[(.string s)] w0 fun e w' => e = .returned (.tuple #[.int .i64 p, .bool true]) ∧ Agr [] w0 w' := by
  have st := St.start w0 []
  refine enter Try.func23 rfl Try.ntmps23 (by simp) ?_
  intro a fr
  refine wp_seq ?_
  refine reg ?_
  refine lst rfl (ow_box fr st rfl rfl rfl rfl ([(.string s)]) (by rfl) ?_)
  intro a w b1 fr st
  refine lst rfl (ow_v fr (rn_assign (fr.ev rfl)) rfl rfl ?_)
  intro a fr
  refine lst rfl (ow_v fr (rn_assign (fr.ev rfl)) rfl rfl ?_)
  intro a fr
  refine wpList_nil ?_
  refine then_n ?_
  refine wp_seq ?_
  refine reg ?_
  refine lst rfl (ow_v fr (rn_makeFunc fr (xs := [.tmp 1]) rfl) rfl rfl ?_)
  intro a fr
  refine lst rfl (ow_call fr rfl rfl Try.call47 (find_nm_t s h _ _ (ro_of_blk (st.get 0 rfl))) rfl rfl ?_)
  rintro e w ⟨rfl, hag⟩
  refine ⟨_, rfl, ?_⟩
  intro a fr
  have st := st.keep hag
  clear hag
  refine lst rfl (ow_v fr (rn_move (fr.ev rfl)) rfl rfl ?_)
  intro a fr
  refine lst rfl (ow_v fr (rn_extract (fr.ev rfl) rfl) rfl rfl ?_)
  intro a fr
  refine lst rfl (ow_v fr (rn_extract (fr.ev rfl) rfl) rfl rfl ?_)
  intro a fr
  refine lst rfl (ow_alloc fr st rfl zv_70 rfl rfl _ (by rfl) ?_)
  intro a w b2 fr st
  refine lst rfl (ow_stN fr st 0 (vs := [.int .i64 (p), (.string q), .int .i64 (f)]) rfl rfl rfl rfl sz_70 rfl (Nat.le_of_ble_eq_true rfl) rfl ?_)
  intro w (st : St _ [] w [.blk b2 [.int .i64 (p), (.string q), .int .i64 (f)] 70, .blk b1 [(.string s)] 9])
  refine lst rfl (ow_v fr (rn_assign (fr.ev rfl)) rfl rfl ?_)
  intro a fr
  refine wpList_nil ?_
  refine then_n ?_
  refine wp_seq ?_
  refine reg ?_
  refine lst rfl (ow_v fr (fa_70_0 (fr.ev rfl)) rfl rfl ?_)
  intro a fr
  refine lst rfl (ow_v fr (rn_load (fr.ev rfl) Try.underlying3 rfl (st.cell 0 rfl rfl)) rfl rfl ?_)
  intro a fr
  refine lst rfl (ow_v fr (rn_move (fr.ev rfl)) rfl rfl ?_)
  intro a fr
  refine lst rfl (ow_v fr (rn_assign (fr.ev rfl)) rfl rfl ?_)
  intro a fr
  refine lst rfl (ow_v fr (rn_assign (fr.ev rfl)) rfl rfl ?_)
  intro a fr
  refine wpList_nil ?_
  refine then_n ?_
  refine wp_ret ?_
  refine ret2 Try.results23 fr (rv_tmp fr rfl) (rv_tmp fr rfl) ?_
  exact ⟨rfl, st.agr⟩

theorem find_nm_f (s : ByteArray) (h : tblL.find? (fun r : RowD => r.2.1 == s) = none) (b : Nat) (w0 : World) (hb : (ro b 0 [(.string s)]).ok w0 [] w0) : Calls Try.prog 47 #[(.func (.func 50) #[] #[.pointer (some ⟨b, 0, none⟩)])] w0 fun e w' => e = .returned (.tuple #[.agg #[.int .i64 0, .string ByteArray.empty, .int .i64 0], .bool false]) ∧ Agr [] w0 w' := by
  have htl := tbl_len
  have st : St w0 [] w0 [ro b 0 [(.string s)]] := (add_ro (start0 w0 []) (by simp [els, ro, It.wr]) rfl (hb))
  clear hb
  refine enter Try.func47 rfl Try.ntmps47 (by simp) ?_
  intro a fr
  refine wp_seq ?_
  refine reg ?_
  refine lst rfl (ow_alloc fr st rfl zv_70 rfl rfl _ (by rfl) ?_)
  intro a w b1 fr st
  refine lst rfl (ow_v fr (rn_assign (fr.ev rfl)) rfl rfl ?_)
  intro a fr
  refine wpList_nil ?_
  refine then_n ?_
  refine wp_seq ?_
  refine reg ?_
  refine lst rfl (ow_call fr rfl rfl Try.call58 (rows_some _) rfl rfl ?_)
  rintro e w ⟨RA, rc, rfl, hE, hf, hag⟩
  refine ⟨_, rfl, ?_⟩
  intro a fr
  have st := st.call_els (C := rowC) (sz := 3) hag (by decide) (fun _ => rfl) hE hf
  clear hag hE hf
  refine lst rfl (ow_v fr (rn_assign (fr.ev rfl)) rfl rfl ?_)
  intro a fr
  refine wpList_nil ?_
  refine then_n ?_
  refine wp_seq ?_
  refine reg ?_
  refine lst rfl (ow_v fr (rn_move (fr.ev rfl)) rfl rfl ?_)
  intro a fr
  refine lst rfl (ow_v fr (rn_move (fr.ev rfl)) rfl rfl ?_)
  intro a fr
  refine lst rfl (ow_call fr rfl rfl Try.call59 (idx_nm_f s h _ _ _ _ (st.get 0 rfl).1 (ro_now (st.get 2 rfl) rfl)) rfl rfl ?_)
  rintro e w ⟨rfl, hag⟩
  refine ⟨_, rfl, ?_⟩
  intro a fr
  have st := st.keep hag
  clear hag
  refine lst rfl (ow_v fr (rn_assign (fr.ev rfl)) rfl rfl ?_)
  intro a fr
  refine wpList_nil ?_
  refine then_n ?_
  refine wp_seq ?_
  refine wp_seq ?_
  refine reg ?_
  refine lst rfl (ow_v fr (rn_move (fr.ev rfl)) rfl rfl ?_)
  intro a fr
  refine lst rfl (ow_v fr (rn_as (rn_lss (fr.ev rfl) (fr.ev rfl)) (by rfl)) rfl rfl ?_)
  intro a fr
  refine wpList_nil ?_
  refine then_n ?_
  refine cond_t fr rfl rfl ?_
  refine wp_seq ?_
  refine reg ?_
  refine lst rfl (ow_v fr (rn_build (cells := #[.int .i64 0, .string ByteArray.empty, .int .i64 0]) (by simp only [List.map_toArray, List.map_cons, List.map_nil]; rfl)) rfl rfl ?_)
  intro a fr
  refine lst rfl (ow_stN fr st 1 (vs := [.int .i64 0, .string ByteArray.empty, .int .i64 0]) rfl rfl rfl rfl sz_70 rfl (Nat.le_of_ble_eq_true rfl) rfl ?_)
  intro w (st : St _ [] w [els rowC 3 RA tblL, .blk b1 [.int .i64 0, .string ByteArray.empty, .int .i64 0] 70, ro b 0 [(.string s)]])
  refine lst rfl (ow_v fr (rn_assign (fr.ev rfl)) rfl rfl ?_)
  intro a fr
  refine wpList_nil ?_
  refine then_n ?_
  refine wp_ret ?_
  refine then_r ?_
  refine ret2 Try.results47 fr (rv_row (cs := [.int .i64 0, .string ByteArray.empty, .int .i64 0]) fr rfl Try.underlying70 rfl (by first | exact sz_70 | simpa using sz_70) (st.blkrange 1 rfl 0 rfl)) (rv_tmp fr rfl) ?_
  exact ⟨rfl, st.agr⟩

theorem named_f (s : ByteArray) (h : tblL.find? (fun r : RowD => r.2.1 == s) = none) (w0 : World) : Calls Try.prog 23 #[(.string s)] w0 fun e w' => e = .returned (.tuple #[.int .i64 0, .bool false]) ∧ Agr [] w0 w' := by
  have st := St.start w0 []
  refine enter Try.func23 rfl Try.ntmps23 (by simp) ?_
  intro a fr
  refine wp_seq ?_
  refine reg ?_
  refine lst rfl (ow_box fr st rfl rfl rfl rfl ([(.string s)]) (by rfl) ?_)
  intro a w b1 fr st
  refine lst rfl (ow_v fr (rn_assign (fr.ev rfl)) rfl rfl ?_)
  intro a fr
  refine lst rfl (ow_v fr (rn_assign (fr.ev rfl)) rfl rfl ?_)
  intro a fr
  refine wpList_nil ?_
  refine then_n ?_
  refine wp_seq ?_
  refine reg ?_
  refine lst rfl (ow_v fr (rn_makeFunc fr (xs := [.tmp 1]) rfl) rfl rfl ?_)
  intro a fr
  refine lst rfl (ow_call fr rfl rfl Try.call47 (find_nm_f s h _ _ (ro_of_blk (st.get 0 rfl))) rfl rfl ?_)
  rintro e w ⟨rfl, hag⟩
  refine ⟨_, rfl, ?_⟩
  intro a fr
  have st := st.keep hag
  clear hag
  refine lst rfl (ow_v fr (rn_move (fr.ev rfl)) rfl rfl ?_)
  intro a fr
  refine lst rfl (ow_v fr (rn_extract (fr.ev rfl) rfl) rfl rfl ?_)
  intro a fr
  refine lst rfl (ow_v fr (rn_extract (fr.ev rfl) rfl) rfl rfl ?_)
  intro a fr
  refine lst rfl (ow_alloc fr st rfl zv_70 rfl rfl _ (by rfl) ?_)
  intro a w b2 fr st
  refine lst rfl (ow_stN fr st 0 (vs := [.int .i64 0, (.string ByteArray.empty), .int .i64 0]) rfl rfl rfl rfl sz_70 rfl (Nat.le_of_ble_eq_true rfl) rfl ?_)
  intro w (st : St _ [] w [.blk b2 [.int .i64 0, (.string ByteArray.empty), .int .i64 0] 70, .blk b1 [(.string s)] 9])
  refine lst rfl (ow_v fr (rn_assign (fr.ev rfl)) rfl rfl ?_)
  intro a fr
  refine wpList_nil ?_
  refine then_n ?_
  refine wp_seq ?_
  refine reg ?_
  refine lst rfl (ow_v fr (fa_70_0 (fr.ev rfl)) rfl rfl ?_)
  intro a fr
  refine lst rfl (ow_v fr (rn_load (fr.ev rfl) Try.underlying3 rfl (st.cell 0 rfl rfl)) rfl rfl ?_)
  intro a fr
  refine lst rfl (ow_v fr (rn_move (fr.ev rfl)) rfl rfl ?_)
  intro a fr
  refine lst rfl (ow_v fr (rn_assign (fr.ev rfl)) rfl rfl ?_)
  intro a fr
  refine lst rfl (ow_v fr (rn_assign (fr.ev rfl)) rfl rfl ?_)
  intro a fr
  refine wpList_nil ?_
  refine then_n ?_
  refine wp_ret ?_
  refine ret2 Try.results23 fr (rv_tmp fr rfl) (rv_tmp fr rfl) ?_
  exact ⟨rfl, st.agr⟩

theorem rfind_t (op : Int) {p f : Int} {q : ByteArray} (h : tblL.find? (fun r : RowD => r.1 == op) = some (p, q, f)) (w0 : World) : Calls Try.prog 49 #[.int .i64 (op)] w0 fun e w' => e = .returned (.tuple #[.agg #[.int .i64 p, .string q, .int .i64 f], .bool true]) ∧ Agr [] w0 w' := by
  have htl := tbl_len
  have st := St.start w0 []
  refine enter Try.func49 rfl Try.ntmps49 (by simp) ?_
  intro a fr
  refine wp_seq ?_
  refine reg ?_
  refine lst rfl (ow_alloc fr st rfl zv_75 rfl rfl _ (by rfl) ?_)
  intro a w b1 fr st
  refine lst rfl (ow_v fr (rn_assign (fr.ev rfl)) rfl rfl ?_)
  intro a fr
  refine wpList_nil ?_
  refine then_n ?_
  refine wp_seq ?_
  refine reg ?_
  refine lst rfl (ow_call fr rfl rfl Try.call51 (table_some _) rfl rfl ?_)
  rintro e w ⟨RA, rc, rfl, hE, hf, hag⟩
  refine ⟨_, rfl, ?_⟩
  intro a fr
  have st := st.call_els (C := rowC) (sz := 3) hag (by decide) (fun _ => rfl) hE hf
  clear hag hE hf
  refine lst rfl (ow_v fr (rn_assign (fr.ev rfl)) rfl rfl ?_)
  intro a fr
  refine wpList_nil ?_
  refine then_n ?_
  refine wp_seq ?_
  refine wp_seq ?_
  refine reg ?_
  refine lst rfl (ow_v fr (rn_assign (fr.ev rfl)) rfl rfl ?_)
  intro a fr
  refine wpList_nil ?_
  refine then_n ?_
  refine wp_block ?_
  refine wp_loop_ghost (fun mz a w => ∃ (j : Nat), (j ≤ tblL.length) ∧ (∀ i, i < j → ∀ h : i < tblL.length, (fun r : RowD => r.1 == op) tblL[i] = false) ∧ mz = tblL.length - j ∧ FrL 25 a [(0, .int .i64 (op)), (2, .pointer (some ⟨b1, 0, none⟩)), (4, .slice RA tblL.length rc), (5, .int .i64 ((j : Nat)))] ∧ St w0 [] w [els rowC 3 RA tblL, .blk b1 [.int .i64 0, .string ByteArray.empty, .int .i64 0] 75]) _ ⟨0, (Nat.zero_le _), (fun i hi => absurd hi (Nat.not_lt_zero _)), rfl, fr.prune ⟨rfl, rfl, rfl, rfl, trivial⟩, st⟩ ?_
  clear fr st
  intro mz a w hI
  obtain ⟨j, hj, hJ, hmz, fr, st⟩ := hI
  by_cases hlt : j < tblL.length
  · by_cases hq : (fun r : RowD => r.1 == op) tblL[j] = true
    · refine wp_seq ?_
      refine wp_seq ?_
      refine reg ?_
      refine lst rfl (ow_v fr (rn_move (fr.ev rfl)) rfl rfl ?_)
      intro a fr
      refine lst rfl (ow_v fr (rn_move (fr.ev rfl)) rfl rfl ?_)
      intro a fr
      refine lst rfl (ow_v fr (rn_len (fr.ev rfl) Try.underlying78) rfl rfl ?_)
      intro a fr
      refine lst rfl (ow_v fr (rn_as (v' := .bool true) (rn_lss (fr.ev rfl) (fr.ev rfl)) (congrArg Value.bool (decide_eq_true (by omega)))) rfl rfl ?_)
      intro a fr
      refine wpList_nil ?_
      refine then_n ?_
      refine cond_t fr rfl rfl ?_
      refine wp_skip ?_
      refine then_n ?_
      refine wp_seq ?_
      refine wp_block ?_
      refine wp_seq ?_
      refine reg ?_
      refine lst rfl (ow_v fr (rn_move (fr.ev rfl)) rfl rfl ?_)
      intro a fr
      refine lst rfl (ow_v fr (rn_move (fr.ev rfl)) rfl rfl ?_)
      intro a fr
      obtain ⟨b2, o3, eA, st_⟩ := st.elem 0 rfl j hlt (by simp [rowC])
      have fr_ := fr
      cases eA
      have st := st_
      have fr := fr_
      clear st_ fr_
      obtain ⟨p1, q1, f1, hx_tblL_p⟩ : ∃ p1 q1 f1, tblL[j] = (p1, q1, f1) := ⟨_, _, _, rfl⟩
      rw [hx_tblL_p] at st
      replace st : St _ [] w [ro b2 (o3 + j * 3) [.int .i64 (p1), (.string q1), .int .i64 (f1)], els rowC 3 (some ⟨b2, o3, none⟩) tblL, .blk b1 [.int .i64 0, .string ByteArray.empty, .int .i64 0] 75] := st
      refine lst rfl (ow_v fr (rn_at (i := j) (fr.ev rfl) (fr.ev rfl) Try.underlying78 sz_75 (by omega) (by rfl)) rfl rfl ?_)
      intro a fr
      refine lst rfl (ow_v fr (fa_75_0 (fr.ev rfl)) rfl rfl ?_)
      intro a fr
      refine lst rfl (ow_v fr (rn_load (fr.ev rfl) Try.underlying3 rfl (st.rocell 0 rfl (j := 0) rfl)) rfl rfl ?_)
      intro a fr
      refine lst rfl (ow_v fr (rn_move (fr.ev rfl)) rfl rfl ?_)
      intro a fr
      refine lst rfl (ow_v fr (rn_eql (fr.ev rfl) (fr.ev rfl)) rfl rfl ?_)
      intro a fr
      refine wpList_nil ?_
      refine then_n ?_
      refine cond_t fr rfl (by have h := hq; rw [hx_tblL_p] at h; exact h) ?_
      refine wp_seq ?_
      refine reg ?_
      refine lst rfl (ow_v fr (rn_move (fr.ev rfl)) rfl rfl ?_)
      intro a fr
      refine lst rfl (ow_v fr (rn_move (fr.ev rfl)) rfl rfl ?_)
      intro a fr
      refine lst rfl (ow_v fr (rn_at (i := j) (fr.ev rfl) (fr.ev rfl) Try.underlying78 sz_75 (by omega) (by rfl)) rfl rfl ?_)
      intro a fr
      refine lst rfl (ow_v fr (rn_loadN (cs := [.int .i64 (p1), (.string q1), .int .i64 (f1)]) (fr.ev rfl) Try.underlying75 rfl sz_75 (st.rorange 0 rfl 0 rfl)) rfl rfl ?_)
      intro a fr
      refine lst rfl (ow_stN fr st 2 (vs := [.int .i64 (p1), (.string q1), .int .i64 (f1)]) rfl rfl rfl rfl sz_75 rfl (Nat.le_of_ble_eq_true rfl) rfl ?_)
      intro w (st : St _ [] w [ro b2 (o3 + j * 3) [.int .i64 (p1), (.string q1), .int .i64 (f1)], els rowC 3 (some ⟨b2, o3, none⟩) tblL, .blk b1 [.int .i64 (p1), (.string q1), .int .i64 (f1)] 75])
      refine lst rfl (ow_v fr (rn_assign (fr.ev rfl)) rfl rfl ?_)
      intro a fr
      refine wpList_nil ?_
      refine then_n ?_
      refine wp_ret ?_
      refine blk_r ?_
      refine then_r ?_
      refine then_r ?_
      refine blk_r ?_
      refine then_r ?_
      refine ret2 Try.results49 fr (rv_row (cs := [.int .i64 (p1), (.string q1), .int .i64 (f1)]) fr rfl Try.underlying75 rfl (by first | exact sz_75 | simpa using sz_75) (st.blkrange 2 rfl 0 rfl)) (rv_tmp fr rfl) ?_
      have h2 := find_at (p := (fun r : RowD => r.1 == op)) hlt hq hJ
      rw [h, hx_tblL_p] at h2
      cases h2
      exact ⟨rfl, st.agr⟩
    · refine wp_seq ?_
      refine wp_seq ?_
      refine reg ?_
      refine lst rfl (ow_v fr (rn_move (fr.ev rfl)) rfl rfl ?_)
      intro a fr
      refine lst rfl (ow_v fr (rn_move (fr.ev rfl)) rfl rfl ?_)
      intro a fr
      refine lst rfl (ow_v fr (rn_len (fr.ev rfl) Try.underlying78) rfl rfl ?_)
      intro a fr
      refine lst rfl (ow_v fr (rn_as (v' := .bool true) (rn_lss (fr.ev rfl) (fr.ev rfl)) (congrArg Value.bool (decide_eq_true (by omega)))) rfl rfl ?_)
      intro a fr
      refine wpList_nil ?_
      refine then_n ?_
      refine cond_t fr rfl rfl ?_
      refine wp_skip ?_
      refine then_n ?_
      refine wp_seq ?_
      refine wp_block ?_
      refine wp_seq ?_
      refine reg ?_
      refine lst rfl (ow_v fr (rn_move (fr.ev rfl)) rfl rfl ?_)
      intro a fr
      refine lst rfl (ow_v fr (rn_move (fr.ev rfl)) rfl rfl ?_)
      intro a fr
      obtain ⟨b4, o5, eA, st_⟩ := st.elem 0 rfl j hlt (by simp [rowC])
      have fr_ := fr
      cases eA
      have st := st_
      have fr := fr_
      clear st_ fr_
      obtain ⟨p1, q1, f1, hx_tblL_p⟩ : ∃ p1 q1 f1, tblL[j] = (p1, q1, f1) := ⟨_, _, _, rfl⟩
      rw [hx_tblL_p] at st
      replace st : St _ [] w [ro b4 (o5 + j * 3) [.int .i64 (p1), (.string q1), .int .i64 (f1)], els rowC 3 (some ⟨b4, o5, none⟩) tblL, .blk b1 [.int .i64 0, .string ByteArray.empty, .int .i64 0] 75] := st
      refine lst rfl (ow_v fr (rn_at (i := j) (fr.ev rfl) (fr.ev rfl) Try.underlying78 sz_75 (by omega) (by rfl)) rfl rfl ?_)
      intro a fr
      refine lst rfl (ow_v fr (fa_75_0 (fr.ev rfl)) rfl rfl ?_)
      intro a fr
      refine lst rfl (ow_v fr (rn_load (fr.ev rfl) Try.underlying3 rfl (st.rocell 0 rfl (j := 0) rfl)) rfl rfl ?_)
      intro a fr
      refine lst rfl (ow_v fr (rn_move (fr.ev rfl)) rfl rfl ?_)
      intro a fr
      refine lst rfl (ow_v fr (rn_eql (fr.ev rfl) (fr.ev rfl)) rfl rfl ?_)
      intro a fr
      refine wpList_nil ?_
      refine then_n ?_
      refine cond_f fr rfl (by have h := hq; rw [hx_tblL_p] at h; simpa using h) ?_
      refine wp_skip ?_
      refine blk_n ?_
      refine then_n ?_
      refine reg ?_
      refine lst rfl (ow_v fr (rn_move (fr.ev rfl)) rfl rfl ?_)
      intro a fr
      refine lst rfl (ow_v fr (rn_add (c := ((j + 1 : Nat) : Int)) (fr.ev rfl) (fr.ev rfl) (wr_i64e (by omega) (by omega) (by omega))) rfl rfl ?_)
      intro a fr
      refine lst rfl (ow_v fr (rn_assign (fr.ev rfl)) rfl rfl ?_)
      intro a fr
      refine wpList_nil ?_
      refine then_n ⟨tblL.length - (j + 1), ?_, j + 1, (by omega), (fun i hi h => by rcases (by omega : i < j ∨ i = j) with h1 | rfl; exact hJ i h1 h; simpa using hq), rfl, fr.prune ⟨rfl, rfl, rfl, rfl, trivial⟩, st.sub (.cons _ (.cons_cons _ (.cons_cons _ .slnil)))⟩
      omega
  · have h2 := find_no (p := (fun r : RowD => r.1 == op)) (fun i hi => hJ i (by omega) hi)
    rw [h] at h2
    cases h2

theorem rnamed_t (s : ByteArray) {p f : Int} {q : ByteArray} (h : tblL.find? (fun r : RowD => r.2.1 == s) = some (p, q, f)) (w0 : World) : Calls Try.prog 24 #[(.string s)] w0 fun e w' => e = .returned (.tuple #[.int .i64 p, .bool true]) ∧ Agr [] w0 w' := by
  have htl := tbl_len
  have st := St.start w0 []
  refine enter Try.func24 rfl Try.ntmps24 (by simp) ?_
  intro a fr
  refine wp_seq ?_
  refine reg ?_
  refine lst rfl (ow_v fr (rn_assign (fr.ev rfl)) rfl rfl ?_)
  intro a fr
  refine lst rfl (ow_v fr (rn_assign (fr.ev rfl)) rfl rfl ?_)
  intro a fr
  refine wpList_nil ?_
  refine then_n ?_
  refine wp_seq ?_
  refine reg ?_
  refine lst rfl (ow_call fr rfl rfl Try.call51 (table_some _) rfl rfl ?_)
  rintro e w ⟨RA, rc, rfl, hE, hf, hag⟩
  refine ⟨_, rfl, ?_⟩
  intro a fr
  have st := st.call_els (C := rowC) (sz := 3) hag (by decide) (fun _ => rfl) hE hf
  clear hag hE hf
  refine lst rfl (ow_v fr (rn_assign (fr.ev rfl)) rfl rfl ?_)
  intro a fr
  refine wpList_nil ?_
  refine then_n ?_
  refine wp_seq ?_
  refine wp_seq ?_
  refine reg ?_
  refine lst rfl (ow_v fr (rn_assign (fr.ev rfl)) rfl rfl ?_)
  intro a fr
  refine wpList_nil ?_
  refine then_n ?_
  refine wp_block ?_
  refine wp_loop_ghost (fun mz a w => ∃ (j : Nat), (j ≤ tblL.length) ∧ (∀ i, i < j → ∀ h : i < tblL.length, (fun r : RowD => r.2.1 == s) tblL[i] = false) ∧ mz = tblL.length - j ∧ FrL 25 a [(0, (.string s)), (4, .slice RA tblL.length rc), (5, .int .i64 ((j : Nat)))] ∧ St w0 [] w [els rowC 3 RA tblL]) _ ⟨0, (Nat.zero_le _), (fun i hi => absurd hi (Nat.not_lt_zero _)), rfl, fr.prune ⟨rfl, rfl, rfl, trivial⟩, st⟩ ?_
  clear fr st
  intro mz a w hI
  obtain ⟨j, hj, hJ, hmz, fr, st⟩ := hI
  by_cases hlt : j < tblL.length
  · by_cases hq : (fun r : RowD => r.2.1 == s) tblL[j] = true
    · refine wp_seq ?_
      refine wp_seq ?_
      refine reg ?_
      refine lst rfl (ow_v fr (rn_move (fr.ev rfl)) rfl rfl ?_)
      intro a fr
      refine lst rfl (ow_v fr (rn_move (fr.ev rfl)) rfl rfl ?_)
      intro a fr
      refine lst rfl (ow_v fr (rn_len (fr.ev rfl) Try.underlying78) rfl rfl ?_)
      intro a fr
      refine lst rfl (ow_v fr (rn_as (v' := .bool true) (rn_lss (fr.ev rfl) (fr.ev rfl)) (congrArg Value.bool (decide_eq_true (by omega)))) rfl rfl ?_)
      intro a fr
      refine wpList_nil ?_
      refine then_n ?_
      refine cond_t fr rfl rfl ?_
      refine wp_skip ?_
      refine then_n ?_
      refine wp_seq ?_
      refine wp_block ?_
      refine wp_seq ?_
      refine reg ?_
      refine lst rfl (ow_v fr (rn_move (fr.ev rfl)) rfl rfl ?_)
      intro a fr
      refine lst rfl (ow_v fr (rn_move (fr.ev rfl)) rfl rfl ?_)
      intro a fr
      obtain ⟨b1, o2, eA, st_⟩ := st.elem 0 rfl j hlt (by simp [rowC])
      have fr_ := fr
      cases eA
      have st := st_
      have fr := fr_
      clear st_ fr_
      obtain ⟨p1, q1, f1, hx_tblL_p⟩ : ∃ p1 q1 f1, tblL[j] = (p1, q1, f1) := ⟨_, _, _, rfl⟩
      rw [hx_tblL_p] at st
      replace st : St _ [] w [ro b1 (o2 + j * 3) [.int .i64 (p1), (.string q1), .int .i64 (f1)], els rowC 3 (some ⟨b1, o2, none⟩) tblL] := st
      refine lst rfl (ow_v fr (rn_at (i := j) (fr.ev rfl) (fr.ev rfl) Try.underlying78 sz_75 (by omega) (by rfl)) rfl rfl ?_)
      intro a fr
      refine lst rfl (ow_v fr (fa_75_1 (fr.ev rfl)) rfl rfl ?_)
      intro a fr
      refine lst rfl (ow_v fr (rn_load (fr.ev rfl) Try.underlying9 rfl (st.rocell 0 rfl (j := 1) rfl)) rfl rfl ?_)
      intro a fr
      refine lst rfl (ow_v fr (rn_move (fr.ev rfl)) rfl rfl ?_)
      intro a fr
      refine lst rfl (ow_v fr (rn_eqs Try.underlying9 (fr.ev rfl) (fr.ev rfl)) rfl rfl ?_)
      intro a fr
      refine wpList_nil ?_
      refine then_n ?_
      refine cond_t fr rfl (by have h := hq; rw [hx_tblL_p] at h; exact h) ?_
      refine wp_seq ?_
      refine reg ?_
      refine lst rfl (ow_v fr (rn_move (fr.ev rfl)) rfl rfl ?_)
      intro a fr
      refine lst rfl (ow_v fr (rn_move (fr.ev rfl)) rfl rfl ?_)
      intro a fr
      refine lst rfl (ow_v fr (rn_at (i := j) (fr.ev rfl) (fr.ev rfl) Try.underlying78 sz_75 (by omega) (by rfl)) rfl rfl ?_)
      intro a fr
      refine lst rfl (ow_v fr (fa_75_0 (fr.ev rfl)) rfl rfl ?_)
      intro a fr
      refine lst rfl (ow_v fr (rn_load (fr.ev rfl) Try.underlying3 rfl (st.rocell 0 rfl (j := 0) rfl)) rfl rfl ?_)
      intro a fr
      refine lst rfl (ow_v fr (rn_assign (fr.ev rfl)) rfl rfl ?_)
      intro a fr
      refine lst rfl (ow_v fr (rn_assign (fr.ev rfl)) rfl rfl ?_)
      intro a fr
      refine wpList_nil ?_
      refine then_n ?_
      refine wp_ret ?_
      refine blk_r ?_
      refine then_r ?_
      refine then_r ?_
      refine blk_r ?_
      refine then_r ?_
      refine ret2 Try.results24 fr (rv_tmp fr rfl) (rv_tmp fr rfl) ?_
      have h2 := find_at (p := (fun r : RowD => r.2.1 == s)) hlt hq hJ
      rw [h, hx_tblL_p] at h2
      cases h2
      exact ⟨rfl, st.agr⟩
    · refine wp_seq ?_
      refine wp_seq ?_
      refine reg ?_
      refine lst rfl (ow_v fr (rn_move (fr.ev rfl)) rfl rfl ?_)
      intro a fr
      refine lst rfl (ow_v fr (rn_move (fr.ev rfl)) rfl rfl ?_)
      intro a fr
      refine lst rfl (ow_v fr (rn_len (fr.ev rfl) Try.underlying78) rfl rfl ?_)
      intro a fr
      refine lst rfl (ow_v fr (rn_as (v' := .bool true) (rn_lss (fr.ev rfl) (fr.ev rfl)) (congrArg Value.bool (decide_eq_true (by omega)))) rfl rfl ?_)
      intro a fr
      refine wpList_nil ?_
      refine then_n ?_
      refine cond_t fr rfl rfl ?_
      refine wp_skip ?_
      refine then_n ?_
      refine wp_seq ?_
      refine wp_block ?_
      refine wp_seq ?_
      refine reg ?_
      refine lst rfl (ow_v fr (rn_move (fr.ev rfl)) rfl rfl ?_)
      intro a fr
      refine lst rfl (ow_v fr (rn_move (fr.ev rfl)) rfl rfl ?_)
      intro a fr
      obtain ⟨b3, o4, eA, st_⟩ := st.elem 0 rfl j hlt (by simp [rowC])
      have fr_ := fr
      cases eA
      have st := st_
      have fr := fr_
      clear st_ fr_
      obtain ⟨p1, q1, f1, hx_tblL_p⟩ : ∃ p1 q1 f1, tblL[j] = (p1, q1, f1) := ⟨_, _, _, rfl⟩
      rw [hx_tblL_p] at st
      replace st : St _ [] w [ro b3 (o4 + j * 3) [.int .i64 (p1), (.string q1), .int .i64 (f1)], els rowC 3 (some ⟨b3, o4, none⟩) tblL] := st
      refine lst rfl (ow_v fr (rn_at (i := j) (fr.ev rfl) (fr.ev rfl) Try.underlying78 sz_75 (by omega) (by rfl)) rfl rfl ?_)
      intro a fr
      refine lst rfl (ow_v fr (fa_75_1 (fr.ev rfl)) rfl rfl ?_)
      intro a fr
      refine lst rfl (ow_v fr (rn_load (fr.ev rfl) Try.underlying9 rfl (st.rocell 0 rfl (j := 1) rfl)) rfl rfl ?_)
      intro a fr
      refine lst rfl (ow_v fr (rn_move (fr.ev rfl)) rfl rfl ?_)
      intro a fr
      refine lst rfl (ow_v fr (rn_eqs Try.underlying9 (fr.ev rfl) (fr.ev rfl)) rfl rfl ?_)
      intro a fr
      refine wpList_nil ?_
      refine then_n ?_
      refine cond_f fr rfl (by have h := hq; rw [hx_tblL_p] at h; simpa using h) ?_
      refine wp_skip ?_
      refine blk_n ?_
      refine then_n ?_
      refine reg ?_
      refine lst rfl (ow_v fr (rn_move (fr.ev rfl)) rfl rfl ?_)
      intro a fr
      refine lst rfl (ow_v fr (rn_add (c := ((j + 1 : Nat) : Int)) (fr.ev rfl) (fr.ev rfl) (wr_i64e (by omega) (by omega) (by omega))) rfl rfl ?_)
      intro a fr
      refine lst rfl (ow_v fr (rn_assign (fr.ev rfl)) rfl rfl ?_)
      intro a fr
      refine wpList_nil ?_
      refine then_n ⟨tblL.length - (j + 1), ?_, j + 1, (by omega), (fun i hi h => by rcases (by omega : i < j ∨ i = j) with h1 | rfl; exact hJ i h1 h; simpa using hq), rfl, fr.prune ⟨rfl, rfl, rfl, trivial⟩, st.sub (.cons _ (.cons_cons _ .slnil))⟩
      omega
  · have h2 := find_no (p := (fun r : RowD => r.2.1 == s)) (fun i hi => hJ i (by omega) hi)
    rw [h] at h2
    cases h2

theorem rform_t (op : Int) {p f : Int} {q : ByteArray} (h : tblL.find? (fun r : RowD => r.1 == op) = some (p, q, f)) (w0 : World) : Calls Try.prog 20 #[.int .i64 (op)] w0 fun e w' => e = .returned (.tuple #[.int .i64 f, .bool true]) ∧ Agr [] w0 w' := by
  have st := St.start w0 []
  refine enter Try.func20 rfl Try.ntmps20 (by simp) ?_
  intro a fr
  refine wp_seq ?_
  refine reg ?_
  refine lst rfl (ow_v fr (rn_assign (fr.ev rfl)) rfl rfl ?_)
  intro a fr
  refine lst rfl (ow_v fr (rn_assign (fr.ev rfl)) rfl rfl ?_)
  intro a fr
  refine wpList_nil ?_
  refine then_n ?_
  refine wp_seq ?_
  refine reg ?_
  refine lst rfl (ow_v fr (rn_move (fr.ev rfl)) rfl rfl ?_)
  intro a fr
  refine lst rfl (ow_call fr rfl rfl Try.call49 (rfind_t op h _) rfl rfl ?_)
  rintro e w ⟨rfl, hag⟩
  refine ⟨_, rfl, ?_⟩
  intro a fr
  have st := st.keep hag
  clear hag
  refine lst rfl (ow_v fr (rn_move (fr.ev rfl)) rfl rfl ?_)
  intro a fr
  refine lst rfl (ow_v fr (rn_extract (fr.ev rfl) rfl) rfl rfl ?_)
  intro a fr
  refine lst rfl (ow_v fr (rn_extract (fr.ev rfl) rfl) rfl rfl ?_)
  intro a fr
  refine lst rfl (ow_alloc fr st rfl zv_75 rfl rfl _ (by rfl) ?_)
  intro a w b1 fr st
  refine lst rfl (ow_stN fr st 0 (vs := [.int .i64 (p), (.string q), .int .i64 (f)]) rfl rfl rfl rfl sz_75 rfl (Nat.le_of_ble_eq_true rfl) rfl ?_)
  intro w (st : St _ [] w [.blk b1 [.int .i64 (p), (.string q), .int .i64 (f)] 75])
  refine lst rfl (ow_v fr (rn_assign (fr.ev rfl)) rfl rfl ?_)
  intro a fr
  refine wpList_nil ?_
  refine then_n ?_
  refine wp_seq ?_
  refine reg ?_
  refine lst rfl (ow_v fr (fa_75_2 (fr.ev rfl)) rfl rfl ?_)
  intro a fr
  refine lst rfl (ow_v fr (rn_load (fr.ev rfl) Try.underlying3 rfl (st.cell 0 rfl rfl)) rfl rfl ?_)
  intro a fr
  refine lst rfl (ow_v fr (rn_move (fr.ev rfl)) rfl rfl ?_)
  intro a fr
  refine lst rfl (ow_v fr (rn_assign (fr.ev rfl)) rfl rfl ?_)
  intro a fr
  refine lst rfl (ow_v fr (rn_assign (fr.ev rfl)) rfl rfl ?_)
  intro a fr
  refine wpList_nil ?_
  refine then_n ?_
  refine wp_ret ?_
  refine ret2 Try.results20 fr (rv_tmp fr rfl) (rv_tmp fr rfl) ?_
  exact ⟨rfl, st.agr⟩

theorem rname_t (op : Int) {p f : Int} {q : ByteArray} (h : tblL.find? (fun r : RowD => r.1 == op) = some (p, q, f)) (w0 : World) : Calls Try.prog 26 #[.int .i64 (op)] w0 fun e w' => e = .returned (.string q) ∧ Agr [] w0 w' := by
  have st := St.start w0 []
  refine enter Try.func26 rfl Try.ntmps26 (by simp) ?_
  intro a fr
  refine wp_seq ?_
  refine reg ?_
  refine lst rfl (ow_v fr (rn_assign (fr.ev rfl)) rfl rfl ?_)
  intro a fr
  refine wpList_nil ?_
  refine then_n ?_
  refine wp_seq ?_
  refine reg ?_
  refine lst rfl (ow_v fr (rn_move (fr.ev rfl)) rfl rfl ?_)
  intro a fr
  refine lst rfl (ow_call fr rfl rfl Try.call49 (rfind_t op h _) rfl rfl ?_)
  rintro e w ⟨rfl, hag⟩
  refine ⟨_, rfl, ?_⟩
  intro a fr
  have st := st.keep hag
  clear hag
  refine lst rfl (ow_v fr (rn_move (fr.ev rfl)) rfl rfl ?_)
  intro a fr
  refine lst rfl (ow_v fr (rn_extract (fr.ev rfl) rfl) rfl rfl ?_)
  intro a fr
  refine lst rfl (ow_v fr (rn_extract (fr.ev rfl) rfl) rfl rfl ?_)
  intro a fr
  refine lst rfl (ow_alloc fr st rfl zv_75 rfl rfl _ (by rfl) ?_)
  intro a w b1 fr st
  refine lst rfl (ow_stN fr st 0 (vs := [.int .i64 (p), (.string q), .int .i64 (f)]) rfl rfl rfl rfl sz_75 rfl (Nat.le_of_ble_eq_true rfl) rfl ?_)
  intro w (st : St _ [] w [.blk b1 [.int .i64 (p), (.string q), .int .i64 (f)] 75])
  refine lst rfl (ow_v fr (rn_assign (fr.ev rfl)) rfl rfl ?_)
  intro a fr
  refine wpList_nil ?_
  refine then_n ?_
  refine wp_seq ?_
  refine reg ?_
  refine lst rfl (ow_v fr (fa_75_1 (fr.ev rfl)) rfl rfl ?_)
  intro a fr
  refine lst rfl (ow_v fr (rn_load (fr.ev rfl) Try.underlying9 rfl (st.cell 0 rfl rfl)) rfl rfl ?_)
  intro a fr
  refine lst rfl (ow_v fr (rn_assign (fr.ev rfl)) rfl rfl ?_)
  intro a fr
  refine wpList_nil ?_
  refine then_n ?_
  refine wp_ret ?_
  refine ret1 Try.results26 fr (rv_tmp fr rfl) ?_
  exact ⟨rfl, st.agr⟩

theorem rfind_f (op : Int) (h : tblL.find? (fun r : RowD => r.1 == op) = none) (w0 : World) : Calls Try.prog 49 #[.int .i64 (op)] w0 fun e w' => e = .returned (.tuple #[.agg #[.int .i64 0, .string ByteArray.empty, .int .i64 0], .bool false]) ∧ Agr [] w0 w' := by
  have htl := tbl_len
  have st := St.start w0 []
  refine enter Try.func49 rfl Try.ntmps49 (by simp) ?_
  intro a fr
  refine wp_seq ?_
  refine reg ?_
  refine lst rfl (ow_alloc fr st rfl zv_75 rfl rfl _ (by rfl) ?_)
  intro a w b1 fr st
  refine lst rfl (ow_v fr (rn_assign (fr.ev rfl)) rfl rfl ?_)
  intro a fr
  refine wpList_nil ?_
  refine then_n ?_
  refine wp_seq ?_
  refine reg ?_
  refine lst rfl (ow_call fr rfl rfl Try.call51 (table_some _) rfl rfl ?_)
  rintro e w ⟨RA, rc, rfl, hE, hf, hag⟩
  refine ⟨_, rfl, ?_⟩
  intro a fr
  have st := st.call_els (C := rowC) (sz := 3) hag (by decide) (fun _ => rfl) hE hf
  clear hag hE hf
  refine lst rfl (ow_v fr (rn_assign (fr.ev rfl)) rfl rfl ?_)
  intro a fr
  refine wpList_nil ?_
  refine then_n ?_
  refine wp_seq ?_
  refine wp_seq ?_
  refine reg ?_
  refine lst rfl (ow_v fr (rn_assign (fr.ev rfl)) rfl rfl ?_)
  intro a fr
  refine wpList_nil ?_
  refine then_n ?_
  refine wp_block ?_
  refine wp_loop_ghost (fun mz a w => ∃ (j : Nat), (j ≤ tblL.length) ∧ (∀ i, i < j → ∀ h : i < tblL.length, (fun r : RowD => r.1 == op) tblL[i] = false) ∧ mz = tblL.length - j ∧ FrL 25 a [(0, .int .i64 (op)), (2, .pointer (some ⟨b1, 0, none⟩)), (4, .slice RA tblL.length rc), (5, .int .i64 ((j : Nat)))] ∧ St w0 [] w [els rowC 3 RA tblL, .blk b1 [.int .i64 0, .string ByteArray.empty, .int .i64 0] 75]) _ ⟨0, (Nat.zero_le _), (fun i hi => absurd hi (Nat.not_lt_zero _)), rfl, fr.prune ⟨rfl, rfl, rfl, rfl, trivial⟩, st⟩ ?_
  clear fr st
  intro mz a w hI
  obtain ⟨j, hj, hJ, hmz, fr, st⟩ := hI
  by_cases hlt : j < tblL.length
  · by_cases hq : (fun r : RowD => r.1 == op) tblL[j] = true
    · have h2 := find_at (p := (fun r : RowD => r.1 == op)) hlt hq hJ
      rw [h] at h2
      cases h2
    · refine wp_seq ?_
      refine wp_seq ?_
      refine reg ?_
      refine lst rfl (ow_v fr (rn_move (fr.ev rfl)) rfl rfl ?_)
      intro a fr
      refine lst rfl (ow_v fr (rn_move (fr.ev rfl)) rfl rfl ?_)
      intro a fr
      refine lst rfl (ow_v fr (rn_len (fr.ev rfl) Try.underlying78) rfl rfl ?_)
      intro a fr
      refine lst rfl (ow_v fr (rn_as (v' := .bool true) (rn_lss (fr.ev rfl) (fr.ev rfl)) (congrArg Value.bool (decide_eq_true (by omega)))) rfl rfl ?_)
      intro a fr
      refine wpList_nil ?_
      refine then_n ?_
      refine cond_t fr rfl rfl ?_
      refine wp_skip ?_
      refine then_n ?_
      refine wp_seq ?_
      refine wp_block ?_
      refine wp_seq ?_
      refine reg ?_
      refine lst rfl (ow_v fr (rn_move (fr.ev rfl)) rfl rfl ?_)
      intro a fr
      refine lst rfl (ow_v fr (rn_move (fr.ev rfl)) rfl rfl ?_)
      intro a fr
      obtain ⟨b2, o3, eA, st_⟩ := st.elem 0 rfl j hlt (by simp [rowC])
      have fr_ := fr
      cases eA
      have st := st_
      have fr := fr_
      clear st_ fr_
      obtain ⟨p1, q1, f1, hx_tblL_p⟩ : ∃ p1 q1 f1, tblL[j] = (p1, q1, f1) := ⟨_, _, _, rfl⟩
      rw [hx_tblL_p] at st
      replace st : St _ [] w [ro b2 (o3 + j * 3) [.int .i64 (p1), (.string q1), .int .i64 (f1)], els rowC 3 (some ⟨b2, o3, none⟩) tblL, .blk b1 [.int .i64 0, .string ByteArray.empty, .int .i64 0] 75] := st
      refine lst rfl (ow_v fr (rn_at (i := j) (fr.ev rfl) (fr.ev rfl) Try.underlying78 sz_75 (by omega) (by rfl)) rfl rfl ?_)
      intro a fr
      refine lst rfl (ow_v fr (fa_75_0 (fr.ev rfl)) rfl rfl ?_)
      intro a fr
      refine lst rfl (ow_v fr (rn_load (fr.ev rfl) Try.underlying3 rfl (st.rocell 0 rfl (j := 0) rfl)) rfl rfl ?_)
      intro a fr
      refine lst rfl (ow_v fr (rn_move (fr.ev rfl)) rfl rfl ?_)
      intro a fr
      refine lst rfl (ow_v fr (rn_eql (fr.ev rfl) (fr.ev rfl)) rfl rfl ?_)
      intro a fr
      refine wpList_nil ?_
      refine then_n ?_
      refine cond_f fr rfl (by have h := hq; rw [hx_tblL_p] at h; simpa using h) ?_
      refine wp_skip ?_
      refine blk_n ?_
      refine then_n ?_
      refine reg ?_
      refine lst rfl (ow_v fr (rn_move (fr.ev rfl)) rfl rfl ?_)
      intro a fr
      refine lst rfl (ow_v fr (rn_add (c := ((j + 1 : Nat) : Int)) (fr.ev rfl) (fr.ev rfl) (wr_i64e (by omega) (by omega) (by omega))) rfl rfl ?_)
      intro a fr
      refine lst rfl (ow_v fr (rn_assign (fr.ev rfl)) rfl rfl ?_)
      intro a fr
      refine wpList_nil ?_
      refine then_n ⟨tblL.length - (j + 1), ?_, j + 1, (by omega), (fun i hi h => by rcases (by omega : i < j ∨ i = j) with h1 | rfl; exact hJ i h1 h; simpa using hq), rfl, fr.prune ⟨rfl, rfl, rfl, rfl, trivial⟩, st.sub (.cons _ (.cons_cons _ (.cons_cons _ .slnil)))⟩
      omega
  · refine wp_seq ?_
    refine wp_seq ?_
    refine reg ?_
    refine lst rfl (ow_v fr (rn_move (fr.ev rfl)) rfl rfl ?_)
    intro a fr
    refine lst rfl (ow_v fr (rn_move (fr.ev rfl)) rfl rfl ?_)
    intro a fr
    refine lst rfl (ow_v fr (rn_len (fr.ev rfl) Try.underlying78) rfl rfl ?_)
    intro a fr
    refine lst rfl (ow_v fr (rn_as (v' := .bool false) (rn_lss (fr.ev rfl) (fr.ev rfl)) (congrArg Value.bool (decide_eq_false (by omega)))) rfl rfl ?_)
    intro a fr
    refine wpList_nil ?_
    refine then_n ?_
    refine cond_f fr rfl rfl ?_
    refine wp_exit ?_
    refine then_x ?_
    refine then_x ?_
    refine blk_x ?_
    refine then_n ?_
    refine wp_seq ?_
    refine reg ?_
    refine lst rfl (ow_v fr (rn_build (cells := #[.int .i64 0, .string ByteArray.empty, .int .i64 0]) (by simp only [List.map_toArray, List.map_cons, List.map_nil]; rfl)) rfl rfl ?_)
    intro a fr
    refine lst rfl (ow_stN fr st 1 (vs := [.int .i64 0, .string ByteArray.empty, .int .i64 0]) rfl rfl rfl rfl sz_75 rfl (Nat.le_of_ble_eq_true rfl) rfl ?_)
    intro w (st : St _ [] w [els rowC 3 RA tblL, .blk b1 [.int .i64 0, .string ByteArray.empty, .int .i64 0] 75])
    refine lst rfl (ow_v fr (rn_assign (fr.ev rfl)) rfl rfl ?_)
    intro a fr
    refine wpList_nil ?_
    refine then_n ?_
    refine wp_ret ?_
    refine ret2 Try.results49 fr (rv_row (cs := [.int .i64 0, .string ByteArray.empty, .int .i64 0]) fr rfl Try.underlying75 rfl (by first | exact sz_75 | simpa using sz_75) (st.blkrange 1 rfl 0 rfl)) (rv_tmp fr rfl) ?_
    exact ⟨rfl, st.agr⟩

theorem rnamed_f (s : ByteArray) (h : tblL.find? (fun r : RowD => r.2.1 == s) = none) (w0 : World) : Calls Try.prog 24 #[(.string s)] w0 fun e w' => e = .returned (.tuple #[.int .i64 0, .bool false]) ∧ Agr [] w0 w' := by
  have htl := tbl_len
  have st := St.start w0 []
  refine enter Try.func24 rfl Try.ntmps24 (by simp) ?_
  intro a fr
  refine wp_seq ?_
  refine reg ?_
  refine lst rfl (ow_v fr (rn_assign (fr.ev rfl)) rfl rfl ?_)
  intro a fr
  refine lst rfl (ow_v fr (rn_assign (fr.ev rfl)) rfl rfl ?_)
  intro a fr
  refine wpList_nil ?_
  refine then_n ?_
  refine wp_seq ?_
  refine reg ?_
  refine lst rfl (ow_call fr rfl rfl Try.call51 (table_some _) rfl rfl ?_)
  rintro e w ⟨RA, rc, rfl, hE, hf, hag⟩
  refine ⟨_, rfl, ?_⟩
  intro a fr
  have st := st.call_els (C := rowC) (sz := 3) hag (by decide) (fun _ => rfl) hE hf
  clear hag hE hf
  refine lst rfl (ow_v fr (rn_assign (fr.ev rfl)) rfl rfl ?_)
  intro a fr
  refine wpList_nil ?_
  refine then_n ?_
  refine wp_seq ?_
  refine wp_seq ?_
  refine reg ?_
  refine lst rfl (ow_v fr (rn_assign (fr.ev rfl)) rfl rfl ?_)
  intro a fr
  refine wpList_nil ?_
  refine then_n ?_
  refine wp_block ?_
  refine wp_loop_ghost (fun mz a w => ∃ (j : Nat), (j ≤ tblL.length) ∧ (∀ i, i < j → ∀ h : i < tblL.length, (fun r : RowD => r.2.1 == s) tblL[i] = false) ∧ mz = tblL.length - j ∧ FrL 25 a [(0, (.string s)), (4, .slice RA tblL.length rc), (5, .int .i64 ((j : Nat)))] ∧ St w0 [] w [els rowC 3 RA tblL]) _ ⟨0, (Nat.zero_le _), (fun i hi => absurd hi (Nat.not_lt_zero _)), rfl, fr.prune ⟨rfl, rfl, rfl, trivial⟩, st⟩ ?_
  clear fr st
  intro mz a w hI
  obtain ⟨j, hj, hJ, hmz, fr, st⟩ := hI
  by_cases hlt : j < tblL.length
  · by_cases hq : (fun r : RowD => r.2.1 == s) tblL[j] = true
    · have h2 := find_at (p := (fun r : RowD => r.2.1 == s)) hlt hq hJ
      rw [h] at h2
      cases h2
    · refine wp_seq ?_
      refine wp_seq ?_
      refine reg ?_
      refine lst rfl (ow_v fr (rn_move (fr.ev rfl)) rfl rfl ?_)
      intro a fr
      refine lst rfl (ow_v fr (rn_move (fr.ev rfl)) rfl rfl ?_)
      intro a fr
      refine lst rfl (ow_v fr (rn_len (fr.ev rfl) Try.underlying78) rfl rfl ?_)
      intro a fr
      refine lst rfl (ow_v fr (rn_as (v' := .bool true) (rn_lss (fr.ev rfl) (fr.ev rfl)) (congrArg Value.bool (decide_eq_true (by omega)))) rfl rfl ?_)
      intro a fr
      refine wpList_nil ?_
      refine then_n ?_
      refine cond_t fr rfl rfl ?_
      refine wp_skip ?_
      refine then_n ?_
      refine wp_seq ?_
      refine wp_block ?_
      refine wp_seq ?_
      refine reg ?_
      refine lst rfl (ow_v fr (rn_move (fr.ev rfl)) rfl rfl ?_)
      intro a fr
      refine lst rfl (ow_v fr (rn_move (fr.ev rfl)) rfl rfl ?_)
      intro a fr
      obtain ⟨b1, o2, eA, st_⟩ := st.elem 0 rfl j hlt (by simp [rowC])
      have fr_ := fr
      cases eA
      have st := st_
      have fr := fr_
      clear st_ fr_
      obtain ⟨p1, q1, f1, hx_tblL_p⟩ : ∃ p1 q1 f1, tblL[j] = (p1, q1, f1) := ⟨_, _, _, rfl⟩
      rw [hx_tblL_p] at st
      replace st : St _ [] w [ro b1 (o2 + j * 3) [.int .i64 (p1), (.string q1), .int .i64 (f1)], els rowC 3 (some ⟨b1, o2, none⟩) tblL] := st
      refine lst rfl (ow_v fr (rn_at (i := j) (fr.ev rfl) (fr.ev rfl) Try.underlying78 sz_75 (by omega) (by rfl)) rfl rfl ?_)
      intro a fr
      refine lst rfl (ow_v fr (fa_75_1 (fr.ev rfl)) rfl rfl ?_)
      intro a fr
      refine lst rfl (ow_v fr (rn_load (fr.ev rfl) Try.underlying9 rfl (st.rocell 0 rfl (j := 1) rfl)) rfl rfl ?_)
      intro a fr
      refine lst rfl (ow_v fr (rn_move (fr.ev rfl)) rfl rfl ?_)
      intro a fr
      refine lst rfl (ow_v fr (rn_eqs Try.underlying9 (fr.ev rfl) (fr.ev rfl)) rfl rfl ?_)
      intro a fr
      refine wpList_nil ?_
      refine then_n ?_
      refine cond_f fr rfl (by have h := hq; rw [hx_tblL_p] at h; simpa using h) ?_
      refine wp_skip ?_
      refine blk_n ?_
      refine then_n ?_
      refine reg ?_
      refine lst rfl (ow_v fr (rn_move (fr.ev rfl)) rfl rfl ?_)
      intro a fr
      refine lst rfl (ow_v fr (rn_add (c := ((j + 1 : Nat) : Int)) (fr.ev rfl) (fr.ev rfl) (wr_i64e (by omega) (by omega) (by omega))) rfl rfl ?_)
      intro a fr
      refine lst rfl (ow_v fr (rn_assign (fr.ev rfl)) rfl rfl ?_)
      intro a fr
      refine wpList_nil ?_
      refine then_n ⟨tblL.length - (j + 1), ?_, j + 1, (by omega), (fun i hi h => by rcases (by omega : i < j ∨ i = j) with h1 | rfl; exact hJ i h1 h; simpa using hq), rfl, fr.prune ⟨rfl, rfl, rfl, trivial⟩, st.sub (.cons _ (.cons_cons _ .slnil))⟩
      omega
  · refine wp_seq ?_
    refine wp_seq ?_
    refine reg ?_
    refine lst rfl (ow_v fr (rn_move (fr.ev rfl)) rfl rfl ?_)
    intro a fr
    refine lst rfl (ow_v fr (rn_move (fr.ev rfl)) rfl rfl ?_)
    intro a fr
    refine lst rfl (ow_v fr (rn_len (fr.ev rfl) Try.underlying78) rfl rfl ?_)
    intro a fr
    refine lst rfl (ow_v fr (rn_as (v' := .bool false) (rn_lss (fr.ev rfl) (fr.ev rfl)) (congrArg Value.bool (decide_eq_false (by omega)))) rfl rfl ?_)
    intro a fr
    refine wpList_nil ?_
    refine then_n ?_
    refine cond_f fr rfl rfl ?_
    refine wp_exit ?_
    refine then_x ?_
    refine then_x ?_
    refine blk_x ?_
    refine then_n ?_
    refine wp_seq ?_
    refine reg ?_
    refine lst rfl (ow_v fr (rn_assign (fr.ev rfl)) rfl rfl ?_)
    intro a fr
    refine lst rfl (ow_v fr (rn_assign (fr.ev rfl)) rfl rfl ?_)
    intro a fr
    refine wpList_nil ?_
    refine then_n ?_
    refine wp_ret ?_
    refine ret2 Try.results24 fr (rv_tmp fr rfl) (rv_tmp fr rfl) ?_
    exact ⟨rfl, st.agr⟩

theorem rform_f (op : Int) (h : tblL.find? (fun r : RowD => r.1 == op) = none) (w0 : World) : Calls Try.prog 20 #[.int .i64 (op)] w0 fun e w' => e = .returned (.tuple #[.int .i64 0, .bool false]) ∧ Agr [] w0 w' := by
  have st := St.start w0 []
  refine enter Try.func20 rfl Try.ntmps20 (by simp) ?_
  intro a fr
  refine wp_seq ?_
  refine reg ?_
  refine lst rfl (ow_v fr (rn_assign (fr.ev rfl)) rfl rfl ?_)
  intro a fr
  refine lst rfl (ow_v fr (rn_assign (fr.ev rfl)) rfl rfl ?_)
  intro a fr
  refine wpList_nil ?_
  refine then_n ?_
  refine wp_seq ?_
  refine reg ?_
  refine lst rfl (ow_v fr (rn_move (fr.ev rfl)) rfl rfl ?_)
  intro a fr
  refine lst rfl (ow_call fr rfl rfl Try.call49 (rfind_f op h _) rfl rfl ?_)
  rintro e w ⟨rfl, hag⟩
  refine ⟨_, rfl, ?_⟩
  intro a fr
  have st := st.keep hag
  clear hag
  refine lst rfl (ow_v fr (rn_move (fr.ev rfl)) rfl rfl ?_)
  intro a fr
  refine lst rfl (ow_v fr (rn_extract (fr.ev rfl) rfl) rfl rfl ?_)
  intro a fr
  refine lst rfl (ow_v fr (rn_extract (fr.ev rfl) rfl) rfl rfl ?_)
  intro a fr
  refine lst rfl (ow_alloc fr st rfl zv_75 rfl rfl _ (by rfl) ?_)
  intro a w b1 fr st
  refine lst rfl (ow_stN fr st 0 (vs := [.int .i64 0, (.string ByteArray.empty), .int .i64 0]) rfl rfl rfl rfl sz_75 rfl (Nat.le_of_ble_eq_true rfl) rfl ?_)
  intro w (st : St _ [] w [.blk b1 [.int .i64 0, (.string ByteArray.empty), .int .i64 0] 75])
  refine lst rfl (ow_v fr (rn_assign (fr.ev rfl)) rfl rfl ?_)
  intro a fr
  refine wpList_nil ?_
  refine then_n ?_
  refine wp_seq ?_
  refine reg ?_
  refine lst rfl (ow_v fr (fa_75_2 (fr.ev rfl)) rfl rfl ?_)
  intro a fr
  refine lst rfl (ow_v fr (rn_load (fr.ev rfl) Try.underlying3 rfl (st.cell 0 rfl rfl)) rfl rfl ?_)
  intro a fr
  refine lst rfl (ow_v fr (rn_move (fr.ev rfl)) rfl rfl ?_)
  intro a fr
  refine lst rfl (ow_v fr (rn_assign (fr.ev rfl)) rfl rfl ?_)
  intro a fr
  refine lst rfl (ow_v fr (rn_assign (fr.ev rfl)) rfl rfl ?_)
  intro a fr
  refine wpList_nil ?_
  refine then_n ?_
  refine wp_ret ?_
  refine ret2 Try.results20 fr (rv_tmp fr rfl) (rv_tmp fr rfl) ?_
  exact ⟨rfl, st.agr⟩

theorem rname_f (op : Int) (h : tblL.find? (fun r : RowD => r.1 == op) = none) (w0 : World) : Calls Try.prog 26 #[.int .i64 (op)] w0 fun e w' => e = .returned (.string ByteArray.empty) ∧ Agr [] w0 w' := by
  have st := St.start w0 []
  refine enter Try.func26 rfl Try.ntmps26 (by simp) ?_
  intro a fr
  refine wp_seq ?_
  refine reg ?_
  refine lst rfl (ow_v fr (rn_assign (fr.ev rfl)) rfl rfl ?_)
  intro a fr
  refine wpList_nil ?_
  refine then_n ?_
  refine wp_seq ?_
  refine reg ?_
  refine lst rfl (ow_v fr (rn_move (fr.ev rfl)) rfl rfl ?_)
  intro a fr
  refine lst rfl (ow_call fr rfl rfl Try.call49 (rfind_f op h _) rfl rfl ?_)
  rintro e w ⟨rfl, hag⟩
  refine ⟨_, rfl, ?_⟩
  intro a fr
  have st := st.keep hag
  clear hag
  refine lst rfl (ow_v fr (rn_move (fr.ev rfl)) rfl rfl ?_)
  intro a fr
  refine lst rfl (ow_v fr (rn_extract (fr.ev rfl) rfl) rfl rfl ?_)
  intro a fr
  refine lst rfl (ow_v fr (rn_extract (fr.ev rfl) rfl) rfl rfl ?_)
  intro a fr
  refine lst rfl (ow_alloc fr st rfl zv_75 rfl rfl _ (by rfl) ?_)
  intro a w b1 fr st
  refine lst rfl (ow_stN fr st 0 (vs := [.int .i64 0, (.string ByteArray.empty), .int .i64 0]) rfl rfl rfl rfl sz_75 rfl (Nat.le_of_ble_eq_true rfl) rfl ?_)
  intro w (st : St _ [] w [.blk b1 [.int .i64 0, (.string ByteArray.empty), .int .i64 0] 75])
  refine lst rfl (ow_v fr (rn_assign (fr.ev rfl)) rfl rfl ?_)
  intro a fr
  refine wpList_nil ?_
  refine then_n ?_
  refine wp_seq ?_
  refine reg ?_
  refine lst rfl (ow_v fr (fa_75_1 (fr.ev rfl)) rfl rfl ?_)
  intro a fr
  refine lst rfl (ow_v fr (rn_load (fr.ev rfl) Try.underlying9 rfl (st.cell 0 rfl rfl)) rfl rfl ?_)
  intro a fr
  refine lst rfl (ow_v fr (rn_assign (fr.ev rfl)) rfl rfl ?_)
  intro a fr
  refine wpList_nil ?_
  refine then_n ?_
  refine wp_ret ?_
  refine ret1 Try.results26 fr (rv_tmp fr rfl) ?_
  exact ⟨rfl, st.agr⟩

end Go.Proofs.Yteiohpbghpmohaa.O2
