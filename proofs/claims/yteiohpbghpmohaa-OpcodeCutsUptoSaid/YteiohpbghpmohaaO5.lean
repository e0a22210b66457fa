import Derived.Test.YteiohpbghpmohaaO4
set_option linter.unusedVariables false
set_option linter.unusedSimpArgs false
namespace Go.Proofs.Yteiohpbghpmohaa.O5
open Go.RowKit Go.Proofs.Yteiohpbghpmohaa.LibA Go.Proofs.Yteiohpbghpmohaa.LibC Go.Proofs.Yteiohpbghpmohaa.LibS Go.Proofs.Yteiohpbghpmohaa.LibR Go.Proofs.Yteiohpbghpmohaa.LibT Go.Proofs.Yteiohpbghpmohaa.LibU Go.Proofs.Yteiohpbghpmohaa.LibV Go.Proofs.Yteiohpbghpmohaa.LibW Go.Proofs.Yteiohpbghpmohaa.LibX Go.Proofs.Yteiohpbghpmohaa.LibY Go.Proofs.Yteiohpbghpmohaa.LibZ Go.Proofs.Yteiohpbghpmohaa.LibQ Go.Proofs.Yteiohpbghpmohaa.LibP Go.Proofs.Yteiohpbghpmohaa.LibN Go.Proofs.Yteiohpbghpmohaa.LibH Go.Proofs.Yteiohpbghpmohaa.LibI Go.Proofs.Yteiohpbghpmohaa.O1 Go.Proofs.Yteiohpbghpmohaa.O2 Go.Proofs.Yteiohpbghpmohaa.O3 Go.Proofs.Yteiohpbghpmohaa.O4

theorem fa_29_1 {ρ : Operand → Value} {w : World} {dst : Option Tmp} {ty : TypeId} {pos : String} {aft : Array Edge} {gd : Option (Nat × Bool)} {x : Operand} {b o : Nat} (hx : ρ x = .pointer (some ⟨b, o, none⟩)) : (execOp ρ ⟨dst, .fieldAddr 29 x 1, ty, pos, aft, gd⟩).run Try.prog w = .ok (.value (.pointer (some ⟨b, o + 1, none⟩))) w := rn_field hx Try.underlying29 rfl (by kernel_rfl) rfl
theorem rone_out (bs : List UInt8) (BA : Option Addr) (bc : Nat) (hbc : bs.length ≤ bc) (hbl : bs.length ≤ 4611686018427387904) (at_ : Int) (h : at_ < 0 ∨ (bs.length : Int) ≤ at_) (w0 : World) (hx : Els C8 1 w0 BA bs) : Calls Try.prog 14 #[.slice BA bs.length bc, .int .i64 (at_)] w0 fun e w' => e = .returned (.tuple #[.agg #[.int .i64 0, .int .i64 0, .int .i64 0, .int .i64 0], .int .i64 0, .int .i64 11]) ∧ Agr [] w0 w' := by
  have st : St w0 [] w0 [els C8 1 BA bs] := (add_ro (start0 w0 []) (by simp [els, ro, It.wr]) rfl (els_ok (C := C8) (sz := 1) (by decide) (fun x => rfl) hx))
  clear hx
  by_cases h0 : at_ < 0
  · refine enter Try.func14 rfl Try.ntmps14 (by simp) ?_
    intro a fr
    refine wp_seq ?_
    refine reg ?_
    refine lst rfl (ow_alloc fr st rfl zv_29 rfl rfl _ (by rfl) ?_)
    intro a w b1 fr st
    refine lst rfl (ow_v fr (rn_assign (fr.ev rfl)) rfl rfl ?_)
    intro a fr
    refine lst rfl (ow_v fr (rn_assign (fr.ev rfl)) rfl rfl ?_)
    intro a fr
    refine wpList_nil ?_
    refine then_n ?_
    refine wp_seq ?_
    refine wp_seq ?_
    refine reg ?_
    refine lst rfl (ow_v fr (rn_move (fr.ev rfl)) rfl rfl ?_)
    intro a fr
    refine lst rfl (ow_v fr (rn_as (v' := .bool true) (rn_lss (fr.ev rfl) (fr.ev rfl)) (congrArg Value.bool (decide_eq_true (by omega)))) rfl rfl ?_)
    intro a fr
    refine lst rfl (ow_v fr (rn_move (fr.ev rfl)) rfl rfl ?_)
    intro a fr
    refine lst_n (unwanted_of fr rfl rfl rfl rfl) fr rfl rfl ?_
    intro a fr
    refine lst_n (unwanted_of fr rfl rfl rfl rfl) fr rfl rfl ?_
    intro a fr
    refine lst_n (unwanted_of fr rfl rfl rfl rfl) fr rfl rfl ?_
    intro a fr
    refine lst_n (unwanted_of fr rfl rfl rfl rfl) fr rfl rfl ?_
    intro a fr
    refine lst rfl (ow_v fr (rn_pick_t (fr.ev rfl) (fr.ev rfl)) rfl rfl ?_)
    intro a fr
    refine wpList_nil ?_
    refine then_n ?_
    refine cond_t fr rfl rfl ?_
    refine wp_seq ?_
    refine reg ?_
    refine lst rfl (ow_v fr (rn_build (cells := #[.int .i64 0, .int .i64 0, .int .i64 0, .int .i64 0]) (by simp only [List.map_toArray, List.map_cons, List.map_nil]; rfl)) rfl rfl ?_)
    intro a fr
    refine lst rfl (ow_stN fr st 0 (vs := [.int .i64 0, .int .i64 0, .int .i64 0, .int .i64 0]) rfl rfl rfl rfl sz_29 rfl (Nat.le_of_ble_eq_true rfl) rfl ?_)
    intro w (st : St _ [] w [.blk b1 [.int .i64 0, .int .i64 0, .int .i64 0, .int .i64 0] 29, els C8 1 BA bs])
    refine lst rfl (ow_v fr (rn_assign (fr.ev rfl)) rfl rfl ?_)
    intro a fr
    refine lst rfl (ow_v fr (rn_assign (fr.ev rfl)) rfl rfl ?_)
    intro a fr
    refine wpList_nil ?_
    refine then_n ?_
    refine wp_ret ?_
    refine then_r ?_
    refine ret3 Try.results14 fr (rv_row (cs := [.int .i64 0, .int .i64 0, .int .i64 0, .int .i64 0]) fr rfl Try.underlying29 rfl (by first | exact sz_29 | simpa using sz_29) (st.blkrange 0 rfl 0 rfl)) (rv_tmp fr rfl) (rv_tmp fr rfl) ?_
    exact ⟨rfl, st.agr⟩
  · refine enter Try.func14 rfl Try.ntmps14 (by simp) ?_
    intro a fr
    refine wp_seq ?_
    refine reg ?_
    refine lst rfl (ow_alloc fr st rfl zv_29 rfl rfl _ (by rfl) ?_)
    intro a w b1 fr st
    refine lst rfl (ow_v fr (rn_assign (fr.ev rfl)) rfl rfl ?_)
    intro a fr
    refine lst rfl (ow_v fr (rn_assign (fr.ev rfl)) rfl rfl ?_)
    intro a fr
    refine wpList_nil ?_
    refine then_n ?_
    refine wp_seq ?_
    refine wp_seq ?_
    refine reg ?_
    refine lst rfl (ow_v fr (rn_move (fr.ev rfl)) rfl rfl ?_)
    intro a fr
    refine lst rfl (ow_v fr (rn_as (v' := .bool false) (rn_lss (fr.ev rfl) (fr.ev rfl)) (congrArg Value.bool (decide_eq_false (by omega)))) rfl rfl ?_)
    intro a fr
    refine lst rfl (ow_v fr (rn_move (fr.ev rfl)) rfl rfl ?_)
    intro a fr
    refine lst_y (wanted_of fr rfl rfl rfl rfl) (ow_v fr (rn_move (fr.ev rfl)) rfl rfl ?_)
    intro a fr
    refine lst_y (wanted_of fr rfl rfl rfl rfl) (ow_v fr (rn_move (fr.ev rfl)) rfl rfl ?_)
    intro a fr
    refine lst_y (wanted_of fr rfl rfl rfl rfl) (ow_v fr (rn_len (fr.ev rfl) Try.underlying22) rfl rfl ?_)
    intro a fr
    refine lst_y (wanted_of fr rfl rfl rfl rfl) (ow_v fr (rn_as (v' := .bool true) (rn_geq (fr.ev rfl) (fr.ev rfl)) (congrArg Value.bool (decide_eq_true (by omega)))) rfl rfl ?_)
    intro a fr
    refine lst rfl (ow_v fr (rn_pick_f (fr.ev rfl) (fr.ev rfl)) rfl rfl ?_)
    intro a fr
    refine wpList_nil ?_
    refine then_n ?_
    refine cond_t fr rfl rfl ?_
    refine wp_seq ?_
    refine reg ?_
    refine lst rfl (ow_v fr (rn_build (cells := #[.int .i64 0, .int .i64 0, .int .i64 0, .int .i64 0]) (by simp only [List.map_toArray, List.map_cons, List.map_nil]; rfl)) rfl rfl ?_)
    intro a fr
    refine lst rfl (ow_stN fr st 0 (vs := [.int .i64 0, .int .i64 0, .int .i64 0, .int .i64 0]) rfl rfl rfl rfl sz_29 rfl (Nat.le_of_ble_eq_true rfl) rfl ?_)
    intro w (st : St _ [] w [.blk b1 [.int .i64 0, .int .i64 0, .int .i64 0, .int .i64 0] 29, els C8 1 BA bs])
    refine lst rfl (ow_v fr (rn_assign (fr.ev rfl)) rfl rfl ?_)
    intro a fr
    refine lst rfl (ow_v fr (rn_assign (fr.ev rfl)) rfl rfl ?_)
    intro a fr
    refine wpList_nil ?_
    refine then_n ?_
    refine wp_ret ?_
    refine then_r ?_
    refine ret3 Try.results14 fr (rv_row (cs := [.int .i64 0, .int .i64 0, .int .i64 0, .int .i64 0]) fr rfl Try.underlying29 rfl (by first | exact sz_29 | simpa using sz_29) (st.blkrange 0 rfl 0 rfl)) (rv_tmp fr rfl) (rv_tmp fr rfl) ?_
    exact ⟨rfl, st.agr⟩

theorem rone_bad (bs : List UInt8) (BA : Option Addr) (bc : Nat) (hbc : bs.length ≤ bc) (hbl : bs.length ≤ 4611686018427387904) (k : Nat) (hk : k < bs.length) (h : tblL.find? (fun r : RowD => r.1 == ((bs[k].toNat : Nat) : Int)) = none) (w0 : World) (hx : Els C8 1 w0 BA bs) : Calls Try.prog 14 #[.slice BA bs.length bc, .int .i64 ((k : Nat))] w0 fun e w' => e = .returned (.tuple #[.agg #[.int .i64 0, .int .i64 0, .int .i64 0, .int .i64 0], .int .i64 0, .int .i64 10]) ∧ Agr [] w0 w' := by
  have st : St w0 [] w0 [els C8 1 BA bs] := (add_ro (start0 w0 []) (by simp [els, ro, It.wr]) rfl (els_ok (C := C8) (sz := 1) (by decide) (fun x => rfl) hx))
  clear hx
  refine enter Try.func14 rfl Try.ntmps14 (by simp) ?_
  intro a fr
  refine wp_seq ?_
  refine reg ?_
  refine lst rfl (ow_alloc fr st rfl zv_29 rfl rfl _ (by rfl) ?_)
  intro a w b1 fr st
  refine lst rfl (ow_v fr (rn_assign (fr.ev rfl)) rfl rfl ?_)
  intro a fr
  refine lst rfl (ow_v fr (rn_assign (fr.ev rfl)) rfl rfl ?_)
  intro a fr
  refine wpList_nil ?_
  refine then_n ?_
  refine wp_seq ?_
  refine wp_seq ?_
  refine reg ?_
  refine lst rfl (ow_v fr (rn_move (fr.ev rfl)) rfl rfl ?_)
  intro a fr
  refine lst rfl (ow_v fr (rn_as (v' := .bool false) (rn_lss (fr.ev rfl) (fr.ev rfl)) (congrArg Value.bool (decide_eq_false (by omega)))) rfl rfl ?_)
  intro a fr
  refine lst rfl (ow_v fr (rn_move (fr.ev rfl)) rfl rfl ?_)
  intro a fr
  refine lst_y (wanted_of fr rfl rfl rfl rfl) (ow_v fr (rn_move (fr.ev rfl)) rfl rfl ?_)
  intro a fr
  refine lst_y (wanted_of fr rfl rfl rfl rfl) (ow_v fr (rn_move (fr.ev rfl)) rfl rfl ?_)
  intro a fr
  refine lst_y (wanted_of fr rfl rfl rfl rfl) (ow_v fr (rn_len (fr.ev rfl) Try.underlying22) rfl rfl ?_)
  intro a fr
  refine lst_y (wanted_of fr rfl rfl rfl rfl) (ow_v fr (rn_as (v' := .bool false) (rn_geq (fr.ev rfl) (fr.ev rfl)) (congrArg Value.bool (decide_eq_false (by omega)))) rfl rfl ?_)
  intro a fr
  refine lst rfl (ow_v fr (rn_pick_f (fr.ev rfl) (fr.ev rfl)) rfl rfl ?_)
  intro a fr
  refine wpList_nil ?_
  refine then_n ?_
  refine cond_f fr rfl rfl ?_
  refine wp_skip ?_
  refine then_n ?_
  refine wp_seq ?_
  refine reg ?_
  refine lst rfl (ow_v fr (rn_move (fr.ev rfl)) rfl rfl ?_)
  intro a fr
  refine lst rfl (ow_v fr (rn_move (fr.ev rfl)) rfl rfl ?_)
  intro a fr
  refine lst rfl (ow_v fr (rn_move (fr.ev rfl)) rfl rfl ?_)
  intro a fr
  have hb3 := u8lt (bs[k]'(by omega))
  obtain ⟨b2, o3, eA, st_⟩ := st.elem 1 rfl k (by omega) (by simp [C8])
  have fr_ := fr
  cases eA
  have st := st_
  have fr := fr_
  clear st_ fr_
  replace st : St _ [] w [ro b2 (o3 + k * 1) [.int .u8 ((bs[k].toNat : Nat))], .blk b1 [.int .i64 0, .int .i64 0, .int .i64 0, .int .i64 0] 29, els C8 1 (some ⟨b2, o3, none⟩) bs] := st
  refine lst rfl (ow_v fr (rn_at (i := k) (fr.ev rfl) (fr.ev rfl) Try.underlying22 sz_5 (by omega) (by rfl)) rfl rfl ?_)
  intro a fr
  refine lst rfl (ow_v fr (rn_load (fr.ev rfl) Try.underlying5 rfl (st.rocell 0 rfl (j := 0) rfl)) rfl rfl ?_)
  intro a fr
  refine lst rfl (ow_v fr (rn_conv (c := (bs[k].toNat : Nat)) (fr.ev rfl) (by kernel_rfl) Try.underlying3 (wr_i64 _ (by omega) (by omega))) rfl rfl ?_)
  intro a fr
  refine lst rfl (ow_v fr (rn_build (cells := #[.int .i64 ((k : Nat)), .int .i64 ((bs[k].toNat : Nat)), .int .i64 0, .int .i64 0]) (by simp only [List.map_toArray, List.map_cons, List.map_nil]; rw [fr.ev (x := .tmp 22) rfl, fr.ev (x := .tmp 27) rfl]; rfl)) rfl rfl ?_)
  intro a fr
  refine lst rfl (ow_alloc fr st rfl zv_29 rfl rfl _ (by rfl) ?_)
  intro a w b4 fr st
  refine lst rfl (ow_stN fr st 0 (vs := [.int .i64 ((k : Nat)), .int .i64 ((bs[k].toNat : Nat)), .int .i64 0, .int .i64 0]) rfl rfl rfl rfl sz_29 rfl (Nat.le_of_ble_eq_true rfl) rfl ?_)
  intro w (st : St _ [] w [.blk b4 [.int .i64 ((k : Nat)), .int .i64 ((bs[k].toNat : Nat)), .int .i64 0, .int .i64 0] 29, ro b2 (o3 + k * 1) [.int .u8 ((bs[k].toNat : Nat))], .blk b1 [.int .i64 0, .int .i64 0, .int .i64 0, .int .i64 0] 29, els C8 1 (some ⟨b2, o3, none⟩) bs])
  refine wpList_nil ?_
  refine then_n ?_
  refine wp_seq ?_
  refine reg ?_
  refine lst rfl (ow_v fr (fa_29_1 (fr.ev rfl)) rfl rfl ?_)
  intro a fr
  refine lst rfl (ow_v fr (rn_load (fr.ev rfl) Try.underlying3 rfl (st.cell 0 rfl rfl)) rfl rfl ?_)
  intro a fr
  refine lst rfl (ow_call fr rfl rfl Try.call20 (rform_f _ h _) rfl rfl ?_)
  rintro e w ⟨rfl, hag⟩
  refine ⟨_, rfl, ?_⟩
  intro a fr
  have st := st.keep hag
  clear hag
  refine lst rfl (ow_v fr (rn_move (fr.ev rfl)) rfl rfl ?_)
  intro a fr
  refine lst rfl (ow_v fr (rn_extract (fr.ev rfl) rfl) rfl rfl ?_)
  intro a fr
  refine lst rfl (ow_v fr (rn_extract (fr.ev rfl) rfl) rfl rfl ?_)
  intro a fr
  refine lst rfl (ow_v fr (rn_assign (fr.ev rfl)) rfl rfl ?_)
  intro a fr
  refine lst rfl (ow_v fr (rn_assign (fr.ev rfl)) rfl rfl ?_)
  intro a fr
  refine wpList_nil ?_
  refine then_n ?_
  refine wp_seq ?_
  refine wp_seq ?_
  refine reg ?_
  refine lst rfl (ow_v fr (rn_move (fr.ev rfl)) rfl rfl ?_)
  intro a fr
  refine lst rfl (ow_v fr (rn_not (fr.ev rfl)) rfl rfl ?_)
  intro a fr
  refine wpList_nil ?_
  refine then_n ?_
  refine cond_t fr rfl rfl ?_
  refine wp_seq ?_
  refine reg ?_
  refine lst rfl (ow_v fr (rn_build (cells := #[.int .i64 0, .int .i64 0, .int .i64 0, .int .i64 0]) (by simp only [List.map_toArray, List.map_cons, List.map_nil]; rfl)) rfl rfl ?_)
  intro a fr
  refine lst rfl (ow_stN fr st 2 (vs := [.int .i64 0, .int .i64 0, .int .i64 0, .int .i64 0]) rfl rfl rfl rfl sz_29 rfl (Nat.le_of_ble_eq_true rfl) rfl ?_)
  intro w (st : St _ [] w [.blk b4 [.int .i64 ((k : Nat)), .int .i64 ((bs[k].toNat : Nat)), .int .i64 0, .int .i64 0] 29, ro b2 (o3 + k * 1) [.int .u8 ((bs[k].toNat : Nat))], .blk b1 [.int .i64 0, .int .i64 0, .int .i64 0, .int .i64 0] 29, els C8 1 (some ⟨b2, o3, none⟩) bs])
  refine lst rfl (ow_v fr (rn_assign (fr.ev rfl)) rfl rfl ?_)
  intro a fr
  refine lst rfl (ow_v fr (rn_assign (fr.ev rfl)) rfl rfl ?_)
  intro a fr
  refine wpList_nil ?_
  refine then_n ?_
  refine wp_ret ?_
  refine then_r ?_
  refine ret3 Try.results14 fr (rv_row (cs := [.int .i64 0, .int .i64 0, .int .i64 0, .int .i64 0]) fr rfl Try.underlying29 rfl (by first | exact sz_29 | simpa using sz_29) (st.blkrange 2 rfl 0 rfl)) (rv_tmp fr rfl) (rv_tmp fr rfl) ?_
  exact ⟨rfl, st.agr⟩

theorem rone_short (bs : List UInt8) (BA : Option Addr) (bc : Nat) (hbc : bs.length ≤ bc) (hbl : bs.length ≤ 4611686018427387904) (k : Nat) (hk : k < bs.length) {p f : Int} {q : ByteArray} (h : tblL.find? (fun r : RowD => r.1 == ((bs[k].toNat : Nat) : Int)) = some (p, q, f)) (hs : bs.length < k + 1 + behF f) (w0 : World) (hx : Els C8 1 w0 BA bs) : Calls Try.prog 14 #[.slice BA bs.length bc, .int .i64 ((k : Nat))] w0 fun e w' => e = .returned (.tuple #[.agg #[.int .i64 0, .int .i64 0, .int .i64 0, .int .i64 0], .int .i64 0, .int .i64 11]) ∧ Agr [] w0 w' := by
  have st : St w0 [] w0 [els C8 1 BA bs] := (add_ro (start0 w0 []) (by simp [els, ro, It.wr]) rfl (els_ok (C := C8) (sz := 1) (by decide) (fun x => rfl) hx))
  clear hx
  have hbf := behF_le f
  refine enter Try.func14 rfl Try.ntmps14 (by simp) ?_
  intro a fr
  refine wp_seq ?_
  refine reg ?_
  refine lst rfl (ow_alloc fr st rfl zv_29 rfl rfl _ (by rfl) ?_)
  intro a w b1 fr st
  refine lst rfl (ow_v fr (rn_assign (fr.ev rfl)) rfl rfl ?_)
  intro a fr
  refine lst rfl (ow_v fr (rn_assign (fr.ev rfl)) rfl rfl ?_)
  intro a fr
  refine wpList_nil ?_
  refine then_n ?_
  refine wp_seq ?_
  refine wp_seq ?_
  refine reg ?_
  refine lst rfl (ow_v fr (rn_move (fr.ev rfl)) rfl rfl ?_)
  intro a fr
  refine lst rfl (ow_v fr (rn_as (v' := .bool false) (rn_lss (fr.ev rfl) (fr.ev rfl)) (congrArg Value.bool (decide_eq_false (by omega)))) rfl rfl ?_)
  intro a fr
  refine lst rfl (ow_v fr (rn_move (fr.ev rfl)) rfl rfl ?_)
  intro a fr
  refine lst_y (wanted_of fr rfl rfl rfl rfl) (ow_v fr (rn_move (fr.ev rfl)) rfl rfl ?_)
  intro a fr
  refine lst_y (wanted_of fr rfl rfl rfl rfl) (ow_v fr (rn_move (fr.ev rfl)) rfl rfl ?_)
  intro a fr
  refine lst_y (wanted_of fr rfl rfl rfl rfl) (ow_v fr (rn_len (fr.ev rfl) Try.underlying22) rfl rfl ?_)
  intro a fr
  refine lst_y (wanted_of fr rfl rfl rfl rfl) (ow_v fr (rn_as (v' := .bool false) (rn_geq (fr.ev rfl) (fr.ev rfl)) (congrArg Value.bool (decide_eq_false (by omega)))) rfl rfl ?_)
  intro a fr
  refine lst rfl (ow_v fr (rn_pick_f (fr.ev rfl) (fr.ev rfl)) rfl rfl ?_)
  intro a fr
  refine wpList_nil ?_
  refine then_n ?_
  refine cond_f fr rfl rfl ?_
  refine wp_skip ?_
  refine then_n ?_
  refine wp_seq ?_
  refine reg ?_
  refine lst rfl (ow_v fr (rn_move (fr.ev rfl)) rfl rfl ?_)
  intro a fr
  refine lst rfl (ow_v fr (rn_move (fr.ev rfl)) rfl rfl ?_)
  intro a fr
  refine lst rfl (ow_v fr (rn_move (fr.ev rfl)) rfl rfl ?_)
  intro a fr
  have hb3 := u8lt (bs[k]'(by omega))
  obtain ⟨b2, o3, eA, st_⟩ := st.elem 1 rfl k (by omega) (by simp [C8])
  have fr_ := fr
  cases eA
  have st := st_
  have fr := fr_
  clear st_ fr_
  replace st : St _ [] w [ro b2 (o3 + k * 1) [.int .u8 ((bs[k].toNat : Nat))], .blk b1 [.int .i64 0, .int .i64 0, .int .i64 0, .int .i64 0] 29, els C8 1 (some ⟨b2, o3, none⟩) bs] := st
  refine lst rfl (ow_v fr (rn_at (i := k) (fr.ev rfl) (fr.ev rfl) Try.underlying22 sz_5 (by omega) (by rfl)) rfl rfl ?_)
  intro a fr
  refine lst rfl (ow_v fr (rn_load (fr.ev rfl) Try.underlying5 rfl (st.rocell 0 rfl (j := 0) rfl)) rfl rfl ?_)
  intro a fr
  refine lst rfl (ow_v fr (rn_conv (c := (bs[k].toNat : Nat)) (fr.ev rfl) (by kernel_rfl) Try.underlying3 (wr_i64 _ (by omega) (by omega))) rfl rfl ?_)
  intro a fr
  refine lst rfl (ow_v fr (rn_build (cells := #[.int .i64 ((k : Nat)), .int .i64 ((bs[k].toNat : Nat)), .int .i64 0, .int .i64 0]) (by simp only [List.map_toArray, List.map_cons, List.map_nil]; rw [fr.ev (x := .tmp 22) rfl, fr.ev (x := .tmp 27) rfl]; rfl)) rfl rfl ?_)
  intro a fr
  refine lst rfl (ow_alloc fr st rfl zv_29 rfl rfl _ (by rfl) ?_)
  intro a w b4 fr st
  refine lst rfl (ow_stN fr st 0 (vs := [.int .i64 ((k : Nat)), .int .i64 ((bs[k].toNat : Nat)), .int .i64 0, .int .i64 0]) rfl rfl rfl rfl sz_29 rfl (Nat.le_of_ble_eq_true rfl) rfl ?_)
  intro w (st : St _ [] w [.blk b4 [.int .i64 ((k : Nat)), .int .i64 ((bs[k].toNat : Nat)), .int .i64 0, .int .i64 0] 29, ro b2 (o3 + k * 1) [.int .u8 ((bs[k].toNat : Nat))], .blk b1 [.int .i64 0, .int .i64 0, .int .i64 0, .int .i64 0] 29, els C8 1 (some ⟨b2, o3, none⟩) bs])
  refine wpList_nil ?_
  refine then_n ?_
  refine wp_seq ?_
  refine reg ?_
  refine lst rfl (ow_v fr (fa_29_1 (fr.ev rfl)) rfl rfl ?_)
  intro a fr
  refine lst rfl (ow_v fr (rn_load (fr.ev rfl) Try.underlying3 rfl (st.cell 0 rfl rfl)) rfl rfl ?_)
  intro a fr
  refine lst rfl (ow_call fr rfl rfl Try.call20 (rform_t _ h _) rfl rfl ?_)
  rintro e w ⟨rfl, hag⟩
  refine ⟨_, rfl, ?_⟩
  intro a fr
  have st := st.keep hag
  clear hag
  refine lst rfl (ow_v fr (rn_move (fr.ev rfl)) rfl rfl ?_)
  intro a fr
  refine lst rfl (ow_v fr (rn_extract (fr.ev rfl) rfl) rfl rfl ?_)
  intro a fr
  refine lst rfl (ow_v fr (rn_extract (fr.ev rfl) rfl) rfl rfl ?_)
  intro a fr
  refine lst rfl (ow_v fr (rn_assign (fr.ev rfl)) rfl rfl ?_)
  intro a fr
  refine lst rfl (ow_v fr (rn_assign (fr.ev rfl)) rfl rfl ?_)
  intro a fr
  refine wpList_nil ?_
  refine then_n ?_
  refine wp_seq ?_
  refine wp_seq ?_
  refine reg ?_
  refine lst rfl (ow_v fr (rn_move (fr.ev rfl)) rfl rfl ?_)
  intro a fr
  refine lst rfl (ow_v fr (rn_not (fr.ev rfl)) rfl rfl ?_)
  intro a fr
  refine wpList_nil ?_
  refine then_n ?_
  refine cond_f fr rfl rfl ?_
  refine wp_skip ?_
  refine then_n ?_
  refine wp_seq ?_
  refine reg ?_
  refine lst rfl (ow_v fr (rn_move (fr.ev rfl)) rfl rfl ?_)
  intro a fr
  refine lst rfl (ow_call fr rfl rfl Try.call44 (behind_calls f (row_rng h).1 _) rfl rfl ?_)
  rintro e w ⟨rfl, hag⟩
  refine ⟨_, rfl, ?_⟩
  intro a fr
  have st := st.keep hag
  clear hag
  refine lst rfl (ow_v fr (rn_assign (fr.ev rfl)) rfl rfl ?_)
  intro a fr
  refine wpList_nil ?_
  refine then_n ?_
  refine wp_seq ?_
  refine wp_seq ?_
  refine reg ?_
  refine lst rfl (ow_v fr (rn_move (fr.ev rfl)) rfl rfl ?_)
  intro a fr
  refine lst rfl (ow_v fr (rn_move (fr.ev rfl)) rfl rfl ?_)
  intro a fr
  refine lst rfl (ow_v fr (rn_len (fr.ev rfl) Try.underlying22) rfl rfl ?_)
  intro a fr
  refine lst rfl (ow_v fr (rn_move (fr.ev rfl)) rfl rfl ?_)
  intro a fr
  refine lst rfl (ow_v fr (rn_sub (a := (bs.length : Nat)) (b := (k : Nat)) (c := (bs.length : Nat) - (k : Nat)) (fr.ev rfl) (fr.ev rfl) (wr_i64e (by omega) (by omega) (by omega))) rfl rfl ?_)
  intro a fr
  refine lst rfl (ow_v fr (rn_sub (a := (bs.length : Nat) - (k : Nat)) (b := 1) (c := (bs.length : Nat) - (k : Nat) - 1) (fr.ev rfl) (fr.ev rfl) (wr_i64e (by omega) (by omega) (by omega))) rfl rfl ?_)
  intro a fr
  refine lst rfl (ow_v fr (rn_as (v' := .bool true) (rn_gtr (fr.ev rfl) (fr.ev rfl)) (congrArg Value.bool (decide_eq_true (by omega)))) rfl rfl ?_)
  intro a fr
  refine wpList_nil ?_
  refine then_n ?_
  refine cond_t fr rfl rfl ?_
  refine wp_seq ?_
  refine reg ?_
  refine lst rfl (ow_v fr (rn_build (cells := #[.int .i64 0, .int .i64 0, .int .i64 0, .int .i64 0]) (by simp only [List.map_toArray, List.map_cons, List.map_nil]; rfl)) rfl rfl ?_)
  intro a fr
  refine lst rfl (ow_stN fr st 2 (vs := [.int .i64 0, .int .i64 0, .int .i64 0, .int .i64 0]) rfl rfl rfl rfl sz_29 rfl (Nat.le_of_ble_eq_true rfl) rfl ?_)
  intro w (st : St _ [] w [.blk b4 [.int .i64 ((k : Nat)), .int .i64 ((bs[k].toNat : Nat)), .int .i64 0, .int .i64 0] 29, ro b2 (o3 + k * 1) [.int .u8 ((bs[k].toNat : Nat))], .blk b1 [.int .i64 0, .int .i64 0, .int .i64 0, .int .i64 0] 29, els C8 1 (some ⟨b2, o3, none⟩) bs])
  refine lst rfl (ow_v fr (rn_assign (fr.ev rfl)) rfl rfl ?_)
  intro a fr
  refine lst rfl (ow_v fr (rn_assign (fr.ev rfl)) rfl rfl ?_)
  intro a fr
  refine wpList_nil ?_
  refine then_n ?_
  refine wp_ret ?_
  refine then_r ?_
  refine ret3 Try.results14 fr (rv_row (cs := [.int .i64 0, .int .i64 0, .int .i64 0, .int .i64 0]) fr rfl Try.underlying29 rfl (by first | exact sz_29 | simpa using sz_29) (st.blkrange 2 rfl 0 rfl)) (rv_tmp fr rfl) (rv_tmp fr rfl) ?_
  exact ⟨rfl, st.agr⟩

theorem rone_arr (bs : List UInt8) (BA : Option Addr) (bc : Nat) (hbc : bs.length ≤ bc) (hbl : bs.length ≤ 4611686018427387904) (k : Nat) (hk : k < bs.length) (hk1 : k + 1 < bs.length) {p : Int} {q : ByteArray} (h : tblL.find? (fun r : RowD => r.1 == ((bs[k].toNat : Nat) : Int)) = some (p, q, 8)) (h10 : bs[k + 1].toNat ≠ 10) (h11 : bs[k + 1].toNat ≠ 11) (w0 : World) (hx : Els C8 1 w0 BA bs) : Calls Try.prog 14 #[.slice BA bs.length bc, .int .i64 ((k : Nat))] w0 fun e w' => e = .returned (.tuple #[.agg #[.int .i64 0, .int .i64 0, .int .i64 0, .int .i64 0], .int .i64 0, .int .i64 13]) ∧ Agr [] w0 w' := by
  have st : St w0 [] w0 [els C8 1 BA bs] := (add_ro (start0 w0 []) (by simp [els, ro, It.wr]) rfl (els_ok (C := C8) (sz := 1) (by decide) (fun x => rfl) hx))
  clear hx
  refine enter Try.func14 rfl Try.ntmps14 (by simp) ?_
  intro a fr
  refine wp_seq ?_
  refine reg ?_
  refine lst rfl (ow_alloc fr st rfl zv_29 rfl rfl _ (by rfl) ?_)
  intro a w b1 fr st
  refine lst rfl (ow_v fr (rn_assign (fr.ev rfl)) rfl rfl ?_)
  intro a fr
  refine lst rfl (ow_v fr (rn_assign (fr.ev rfl)) rfl rfl ?_)
  intro a fr
  refine wpList_nil ?_
  refine then_n ?_
  refine wp_seq ?_
  refine wp_seq ?_
  refine reg ?_
  refine lst rfl (ow_v fr (rn_move (fr.ev rfl)) rfl rfl ?_)
  intro a fr
  refine lst rfl (ow_v fr (rn_as (v' := .bool false) (rn_lss (fr.ev rfl) (fr.ev rfl)) (congrArg Value.bool (decide_eq_false (by omega)))) rfl rfl ?_)
  intro a fr
  refine lst rfl (ow_v fr (rn_move (fr.ev rfl)) rfl rfl ?_)
  intro a fr
  refine lst_y (wanted_of fr rfl rfl rfl rfl) (ow_v fr (rn_move (fr.ev rfl)) rfl rfl ?_)
  intro a fr
  refine lst_y (wanted_of fr rfl rfl rfl rfl) (ow_v fr (rn_move (fr.ev rfl)) rfl rfl ?_)
  intro a fr
  refine lst_y (wanted_of fr rfl rfl rfl rfl) (ow_v fr (rn_len (fr.ev rfl) Try.underlying22) rfl rfl ?_)
  intro a fr
  refine lst_y (wanted_of fr rfl rfl rfl rfl) (ow_v fr (rn_as (v' := .bool false) (rn_geq (fr.ev rfl) (fr.ev rfl)) (congrArg Value.bool (decide_eq_false (by omega)))) rfl rfl ?_)
  intro a fr
  refine lst rfl (ow_v fr (rn_pick_f (fr.ev rfl) (fr.ev rfl)) rfl rfl ?_)
  intro a fr
  refine wpList_nil ?_
  refine then_n ?_
  refine cond_f fr rfl rfl ?_
  refine wp_skip ?_
  refine then_n ?_
  refine wp_seq ?_
  refine reg ?_
  refine lst rfl (ow_v fr (rn_move (fr.ev rfl)) rfl rfl ?_)
  intro a fr
  refine lst rfl (ow_v fr (rn_move (fr.ev rfl)) rfl rfl ?_)
  intro a fr
  refine lst rfl (ow_v fr (rn_move (fr.ev rfl)) rfl rfl ?_)
  intro a fr
  have hb3 := u8lt (bs[k]'(by omega))
  obtain ⟨b2, o3, eA, st_⟩ := st.elem 1 rfl k (by omega) (by simp [C8])
  have fr_ := fr
  cases eA
  have st := st_
  have fr := fr_
  clear st_ fr_
  replace st : St _ [] w [ro b2 (o3 + k * 1) [.int .u8 ((bs[k].toNat : Nat))], .blk b1 [.int .i64 0, .int .i64 0, .int .i64 0, .int .i64 0] 29, els C8 1 (some ⟨b2, o3, none⟩) bs] := st
  refine lst rfl (ow_v fr (rn_at (i := k) (fr.ev rfl) (fr.ev rfl) Try.underlying22 sz_5 (by omega) (by rfl)) rfl rfl ?_)
  intro a fr
  refine lst rfl (ow_v fr (rn_load (fr.ev rfl) Try.underlying5 rfl (st.rocell 0 rfl (j := 0) rfl)) rfl rfl ?_)
  intro a fr
  refine lst rfl (ow_v fr (rn_conv (c := (bs[k].toNat : Nat)) (fr.ev rfl) (by kernel_rfl) Try.underlying3 (wr_i64 _ (by omega) (by omega))) rfl rfl ?_)
  intro a fr
  refine lst rfl (ow_v fr (rn_build (cells := #[.int .i64 ((k : Nat)), .int .i64 ((bs[k].toNat : Nat)), .int .i64 0, .int .i64 0]) (by simp only [List.map_toArray, List.map_cons, List.map_nil]; rw [fr.ev (x := .tmp 22) rfl, fr.ev (x := .tmp 27) rfl]; rfl)) rfl rfl ?_)
  intro a fr
  refine lst rfl (ow_alloc fr st rfl zv_29 rfl rfl _ (by rfl) ?_)
  intro a w b4 fr st
  refine lst rfl (ow_stN fr st 0 (vs := [.int .i64 ((k : Nat)), .int .i64 ((bs[k].toNat : Nat)), .int .i64 0, .int .i64 0]) rfl rfl rfl rfl sz_29 rfl (Nat.le_of_ble_eq_true rfl) rfl ?_)
  intro w (st : St _ [] w [.blk b4 [.int .i64 ((k : Nat)), .int .i64 ((bs[k].toNat : Nat)), .int .i64 0, .int .i64 0] 29, ro b2 (o3 + k * 1) [.int .u8 ((bs[k].toNat : Nat))], .blk b1 [.int .i64 0, .int .i64 0, .int .i64 0, .int .i64 0] 29, els C8 1 (some ⟨b2, o3, none⟩) bs])
  refine wpList_nil ?_
  refine then_n ?_
  refine wp_seq ?_
  refine reg ?_
  refine lst rfl (ow_v fr (fa_29_1 (fr.ev rfl)) rfl rfl ?_)
  intro a fr
  refine lst rfl (ow_v fr (rn_load (fr.ev rfl) Try.underlying3 rfl (st.cell 0 rfl rfl)) rfl rfl ?_)
  intro a fr
  refine lst rfl (ow_call fr rfl rfl Try.call20 (rform_t _ h _) rfl rfl ?_)
  rintro e w ⟨rfl, hag⟩
  refine ⟨_, rfl, ?_⟩
  intro a fr
  have st := st.keep hag
  clear hag
  refine lst rfl (ow_v fr (rn_move (fr.ev rfl)) rfl rfl ?_)
  intro a fr
  refine lst rfl (ow_v fr (rn_extract (fr.ev rfl) rfl) rfl rfl ?_)
  intro a fr
  refine lst rfl (ow_v fr (rn_extract (fr.ev rfl) rfl) rfl rfl ?_)
  intro a fr
  refine lst rfl (ow_v fr (rn_assign (fr.ev rfl)) rfl rfl ?_)
  intro a fr
  refine lst rfl (ow_v fr (rn_assign (fr.ev rfl)) rfl rfl ?_)
  intro a fr
  refine wpList_nil ?_
  refine then_n ?_
  refine wp_seq ?_
  refine wp_seq ?_
  refine reg ?_
  refine lst rfl (ow_v fr (rn_move (fr.ev rfl)) rfl rfl ?_)
  intro a fr
  refine lst rfl (ow_v fr (rn_not (fr.ev rfl)) rfl rfl ?_)
  intro a fr
  refine wpList_nil ?_
  refine then_n ?_
  refine cond_f fr rfl rfl ?_
  refine wp_skip ?_
  refine then_n ?_
  refine wp_seq ?_
  refine reg ?_
  refine lst rfl (ow_v fr (rn_move (fr.ev rfl)) rfl rfl ?_)
  intro a fr
  refine lst rfl (ow_call fr rfl rfl Try.call44 (behind_lit 8 1 (by simp [Rng]) (by decide) _) rfl rfl ?_)
  rintro e w ⟨rfl, hag⟩
  refine ⟨_, rfl, ?_⟩
  intro a fr
  have st := st.keep hag
  clear hag
  refine lst rfl (ow_v fr (rn_assign (fr.ev rfl)) rfl rfl ?_)
  intro a fr
  refine wpList_nil ?_
  refine then_n ?_
  refine wp_seq ?_
  refine wp_seq ?_
  refine reg ?_
  refine lst rfl (ow_v fr (rn_move (fr.ev rfl)) rfl rfl ?_)
  intro a fr
  refine lst rfl (ow_v fr (rn_move (fr.ev rfl)) rfl rfl ?_)
  intro a fr
  refine lst rfl (ow_v fr (rn_len (fr.ev rfl) Try.underlying22) rfl rfl ?_)
  intro a fr
  refine lst rfl (ow_v fr (rn_move (fr.ev rfl)) rfl rfl ?_)
  intro a fr
  refine lst rfl (ow_v fr (rn_sub (a := (bs.length : Nat)) (b := (k : Nat)) (c := (bs.length : Nat) - (k : Nat)) (fr.ev rfl) (fr.ev rfl) (wr_i64e (by omega) (by omega) (by omega))) rfl rfl ?_)
  intro a fr
  refine lst rfl (ow_v fr (rn_sub (a := (bs.length : Nat) - (k : Nat)) (b := 1) (c := (bs.length : Nat) - (k : Nat) - 1) (fr.ev rfl) (fr.ev rfl) (wr_i64e (by omega) (by omega) (by omega))) rfl rfl ?_)
  intro a fr
  refine lst rfl (ow_v fr (rn_as (v' := .bool false) (rn_gtr (fr.ev rfl) (fr.ev rfl)) (congrArg Value.bool (decide_eq_false (by omega)))) rfl rfl ?_)
  intro a fr
  refine wpList_nil ?_
  refine then_n ?_
  refine cond_f fr rfl rfl ?_
  refine wp_skip ?_
  refine then_n ?_
  refine wp_seq ?_
  refine reg ?_
  refine lst rfl (ow_v fr (rn_assign (fr.ev rfl)) rfl rfl ?_)
  intro a fr
  refine lst rfl (ow_v fr (rn_assign (fr.ev rfl)) rfl rfl ?_)
  intro a fr
  refine wpList_nil ?_
  refine then_n ?_
  refine wp_seq ?_
  refine wp_seq ?_
  refine reg ?_
  refine lst rfl (ow_v fr (rn_move (fr.ev rfl)) rfl rfl ?_)
  intro a fr
  refine lst rfl (ow_v fr (rn_as (rn_gtr (fr.ev rfl) (fr.ev rfl)) (by rfl)) rfl rfl ?_)
  intro a fr
  refine wpList_nil ?_
  refine then_n ?_
  refine cond_t fr rfl rfl ?_
  refine reg ?_
  refine lst rfl (ow_v fr (rn_move (fr.ev rfl)) rfl rfl ?_)
  intro a fr
  refine lst rfl (ow_v fr (rn_move (fr.ev rfl)) rfl rfl ?_)
  intro a fr
  refine lst rfl (ow_v fr (rn_add (a := (k : Nat)) (b := 1) (c := ((k + 1 : Nat) : Int)) (fr.ev rfl) (fr.ev rfl) (wr_i64e (by omega) (by omega) (by omega))) rfl rfl ?_)
  intro a fr
  have hb6 := u8lt (bs[k + 1]'(by omega))
  have st := (st.elem 3 rfl (k + 1) (by omega) (by simp [C8]))
  obtain ⟨b_, o_, eA, st_⟩ := st
  have fr_ := fr
  cases eA
  have st := st_
  have fr := fr_
  clear st_ fr_
  replace st : St _ [] w [ro b2 (o3 + (k + 1) * 1) [.int .u8 ((bs[k + 1].toNat : Nat))], .blk b4 [.int .i64 ((k : Nat)), .int .i64 ((bs[k].toNat : Nat)), .int .i64 0, .int .i64 0] 29, ro b2 (o3 + k * 1) [.int .u8 ((bs[k].toNat : Nat))], .blk b1 [.int .i64 0, .int .i64 0, .int .i64 0, .int .i64 0] 29, els C8 1 (some ⟨b2, o3, none⟩) bs] := st
  refine lst rfl (ow_v fr (rn_at (i := k + 1) (fr.ev rfl) (fr.ev rfl) Try.underlying22 sz_5 (by omega) (by rfl)) rfl rfl ?_)
  intro a fr
  refine lst rfl (ow_v fr (rn_load (fr.ev rfl) Try.underlying5 rfl (st.rocell 0 rfl (j := 0) rfl)) rfl rfl ?_)
  intro a fr
  refine lst rfl (ow_v fr (rn_conv (c := (bs[k + 1].toNat : Nat)) (fr.ev rfl) (by kernel_rfl) Try.underlying3 (wr_i64 _ (by omega) (by omega))) rfl rfl ?_)
  intro a fr
  refine lst rfl (ow_v fr (rn_assign (fr.ev rfl)) rfl rfl ?_)
  intro a fr
  refine wpList_nil ?_
  refine then_n ?_
  refine wp_seq ?_
  refine wp_seq ?_
  refine reg ?_
  refine lst rfl (ow_v fr (rn_move (fr.ev rfl)) rfl rfl ?_)
  intro a fr
  refine lst rfl (ow_v fr (rn_as (rn_gtr (fr.ev rfl) (fr.ev rfl)) (by rfl)) rfl rfl ?_)
  intro a fr
  refine wpList_nil ?_
  refine then_n ?_
  refine cond_f fr rfl rfl ?_
  refine wp_skip ?_
  refine then_n ?_
  refine wp_seq ?_
  refine wp_seq ?_
  refine reg ?_
  refine lst rfl (ow_v fr (rn_move (fr.ev rfl)) rfl rfl ?_)
  intro a fr
  refine wpList_nil ?_
  refine then_n ?_
  refine wp_block ?_
  refine wp_seq ?_
  refine wp_seq ?_
  refine reg ?_
  refine lst rfl (ow_v fr (rn_as (rn_eql (fr.ev rfl) (fr.ev rfl)) (by rfl)) rfl rfl ?_)
  intro a fr
  refine lst rfl (ow_v fr (rn_assign (fr.ev rfl)) rfl rfl ?_)
  intro a fr
  refine wpList_nil ?_
  refine then_n ?_
  refine cond_f fr rfl rfl ?_
  refine wp_seq ?_
  refine reg ?_
  refine lst rfl (ow_v fr (rn_as (rn_eql (fr.ev rfl) (fr.ev rfl)) (by rfl)) rfl rfl ?_)
  intro a fr
  refine lst rfl (ow_v fr (rn_assign (fr.ev rfl)) rfl rfl ?_)
  intro a fr
  refine wpList_nil ?_
  refine then_n ?_
  refine cond_f fr rfl rfl ?_
  refine reg ?_
  refine lst rfl (ow_v fr (rn_as (rn_eql (fr.ev rfl) (fr.ev rfl)) (by rfl)) rfl rfl ?_)
  intro a fr
  refine lst rfl (ow_v fr (rn_assign (fr.ev rfl)) rfl rfl ?_)
  intro a fr
  refine wpList_nil ?_
  refine then_n ?_
  refine cond_t fr rfl rfl ?_
  refine reg ?_
  refine lst rfl (ow_v fr (rn_move (fr.ev rfl)) rfl rfl ?_)
  intro a fr
  refine lst rfl (ow_v fr (fa_29_2 (fr.ev rfl)) rfl rfl ?_)
  intro a fr
  refine lst rfl (ow_st fr st 1 rfl rfl rfl rfl sz_3 rfl rfl rfl ?_)
  intro w (st : St _ [] w [ro b2 (o3 + (k + 1) * 1) [.int .u8 ((bs[k + 1].toNat : Nat))], .blk b4 [.int .i64 ((k : Nat)), .int .i64 ((bs[k].toNat : Nat)), .int .i64 ((bs[k + 1].toNat : Nat)), .int .i64 0] 29, ro b2 (o3 + k * 1) [.int .u8 ((bs[k].toNat : Nat))], .blk b1 [.int .i64 0, .int .i64 0, .int .i64 0, .int .i64 0] 29, els C8 1 (some ⟨b2, o3, none⟩) bs])
  refine wpList_nil ?_
  refine blk_n ?_
  refine then_n ?_
  refine wp_seq ?_
  refine wp_seq ?_
  refine reg ?_
  refine lst rfl (ow_v fr (rn_move (fr.ev rfl)) rfl rfl ?_)
  intro a fr
  refine lst rfl (ow_v fr (rn_as (rn_eql (fr.ev rfl) (fr.ev rfl)) (by rfl)) rfl rfl ?_)
  intro a fr
  refine lst rfl (ow_v fr (rn_move (fr.ev rfl)) rfl rfl ?_)
  intro a fr
  refine lst_y (wanted_of fr rfl rfl rfl rfl) (ow_v fr (fa_29_2 (fr.ev rfl)) rfl rfl ?_)
  intro a fr
  refine lst_y (wanted_of fr rfl rfl rfl rfl) (ow_v fr (rn_load (fr.ev rfl) Try.underlying3 rfl (st.cell 1 rfl rfl)) rfl rfl ?_)
  intro a fr
  refine lst_y (wanted_of fr rfl rfl rfl rfl) (ow_v fr (rn_as (v' := .bool true) (rn_neq (fr.ev rfl) (fr.ev rfl)) (congrArg Value.bool (by simp; omega))) rfl rfl ?_)
  intro a fr
  refine lst rfl (ow_v fr (rn_pick_t (fr.ev rfl) (fr.ev rfl)) rfl rfl ?_)
  intro a fr
  refine lst rfl (ow_v fr (rn_move (fr.ev rfl)) rfl rfl ?_)
  intro a fr
  refine lst_y (wanted_of fr rfl rfl rfl rfl) (ow_v fr (fa_29_2 (fr.ev rfl)) rfl rfl ?_)
  intro a fr
  refine lst_y (wanted_of fr rfl rfl rfl rfl) (ow_v fr (rn_load (fr.ev rfl) Try.underlying3 rfl (st.cell 1 rfl rfl)) rfl rfl ?_)
  intro a fr
  refine lst_y (wanted_of fr rfl rfl rfl rfl) (ow_v fr (rn_as (v' := .bool true) (rn_neq (fr.ev rfl) (fr.ev rfl)) (congrArg Value.bool (by simp; omega))) rfl rfl ?_)
  intro a fr
  refine lst rfl (ow_v fr (rn_pick_t (fr.ev rfl) (fr.ev rfl)) rfl rfl ?_)
  intro a fr
  refine wpList_nil ?_
  refine then_n ?_
  refine cond_t fr rfl rfl ?_
  refine wp_seq ?_
  refine reg ?_
  refine lst rfl (ow_v fr (rn_build (cells := #[.int .i64 0, .int .i64 0, .int .i64 0, .int .i64 0]) (by simp only [List.map_toArray, List.map_cons, List.map_nil]; rfl)) rfl rfl ?_)
  intro a fr
  refine lst rfl (ow_stN fr st 3 (vs := [.int .i64 0, .int .i64 0, .int .i64 0, .int .i64 0]) rfl rfl rfl rfl sz_29 rfl (Nat.le_of_ble_eq_true rfl) rfl ?_)
  intro w (st : St _ [] w [ro b2 (o3 + (k + 1) * 1) [.int .u8 ((bs[k + 1].toNat : Nat))], .blk b4 [.int .i64 ((k : Nat)), .int .i64 ((bs[k].toNat : Nat)), .int .i64 ((bs[k + 1].toNat : Nat)), .int .i64 0] 29, ro b2 (o3 + k * 1) [.int .u8 ((bs[k].toNat : Nat))], .blk b1 [.int .i64 0, .int .i64 0, .int .i64 0, .int .i64 0] 29, els C8 1 (some ⟨b2, o3, none⟩) bs])
  refine lst rfl (ow_v fr (rn_assign (fr.ev rfl)) rfl rfl ?_)
  intro a fr
  refine lst rfl (ow_v fr (rn_assign (fr.ev rfl)) rfl rfl ?_)
  intro a fr
  refine wpList_nil ?_
  refine then_n ?_
  refine wp_ret ?_
  refine then_r ?_
  refine ret3 Try.results14 fr (rv_row (cs := [.int .i64 0, .int .i64 0, .int .i64 0, .int .i64 0]) fr rfl Try.underlying29 rfl (by first | exact sz_29 | simpa using sz_29) (st.blkrange 3 rfl 0 rfl)) (rv_tmp fr rfl) (rv_tmp fr rfl) ?_
  exact ⟨rfl, st.agr⟩

set_option maxHeartbeats 4000000 in
theorem rone_ok (bs : List UInt8) (BA : Option Addr) (bc : Nat) (hbc : bs.length ≤ bc) (hbl : bs.length ≤ 4611686018427387904) (k : Nat) (hk : k < bs.length) {p f : Int} {q : ByteArray} (h : tblL.find? (fun r : RowD => r.1 == ((bs[k].toNat : Nat) : Int)) = some (p, q, f)) (hs : k + 1 + behF f ≤ bs.length) (ha : ¬ (f = 8 ∧ ub bs (k + 1) ≠ 10 ∧ ub bs (k + 1) ≠ 11)) (w0 : World) (hx : Els C8 1 w0 BA bs) : Calls Try.prog 14 #[.slice BA bs.length bc, .int .i64 ((k : Nat))] w0 fun e w' => e = .returned (.tuple #[.agg (insC ((k : Int), ((bs[k].toNat : Nat) : Int), okA bs k f, okB bs k f)).toArray, .int .i64 ((k + 1 + behF f : Nat) : Int), .int .i64 0]) ∧ Agr [] w0 w' := by
  have st : St w0 [] w0 [els C8 1 BA bs] := (add_ro (start0 w0 []) (by simp [els, ro, It.wr]) rfl (els_ok (C := C8) (sz := 1) (by decide) (fun x => rfl) hx))
  clear hx
  have hr := (row_rng h).1
  rcases hr with rfl | rfl | rfl | rfl | rfl | rfl | rfl | rfl | rfl
  · have hs2 : k + 1 + 0 ≤ bs.length := hs
    refine enter Try.func14 rfl Try.ntmps14 (by simp) ?_
    intro a fr
    refine wp_seq ?_
    refine reg ?_
    refine lst rfl (ow_alloc fr st rfl zv_29 rfl rfl _ (by rfl) ?_)
    intro a w b1 fr st
    refine lst rfl (ow_v fr (rn_assign (fr.ev rfl)) rfl rfl ?_)
    intro a fr
    refine lst rfl (ow_v fr (rn_assign (fr.ev rfl)) rfl rfl ?_)
    intro a fr
    refine wpList_nil ?_
    refine then_n ?_
    refine wp_seq ?_
    refine wp_seq ?_
    refine reg ?_
    refine lst rfl (ow_v fr (rn_move (fr.ev rfl)) rfl rfl ?_)
    intro a fr
    refine lst rfl (ow_v fr (rn_as (v' := .bool false) (rn_lss (fr.ev rfl) (fr.ev rfl)) (congrArg Value.bool (decide_eq_false (by omega)))) rfl rfl ?_)
    intro a fr
    refine lst rfl (ow_v fr (rn_move (fr.ev rfl)) rfl rfl ?_)
    intro a fr
    refine lst_y (wanted_of fr rfl rfl rfl rfl) (ow_v fr (rn_move (fr.ev rfl)) rfl rfl ?_)
    intro a fr
    refine lst_y (wanted_of fr rfl rfl rfl rfl) (ow_v fr (rn_move (fr.ev rfl)) rfl rfl ?_)
    intro a fr
    refine lst_y (wanted_of fr rfl rfl rfl rfl) (ow_v fr (rn_len (fr.ev rfl) Try.underlying22) rfl rfl ?_)
    intro a fr
    refine lst_y (wanted_of fr rfl rfl rfl rfl) (ow_v fr (rn_as (v' := .bool false) (rn_geq (fr.ev rfl) (fr.ev rfl)) (congrArg Value.bool (decide_eq_false (by omega)))) rfl rfl ?_)
    intro a fr
    refine lst rfl (ow_v fr (rn_pick_f (fr.ev rfl) (fr.ev rfl)) rfl rfl ?_)
    intro a fr
    refine wpList_nil ?_
    refine then_n ?_
    refine cond_f fr rfl rfl ?_
    refine wp_skip ?_
    refine then_n ?_
    refine wp_seq ?_
    refine reg ?_
    refine lst rfl (ow_v fr (rn_move (fr.ev rfl)) rfl rfl ?_)
    intro a fr
    refine lst rfl (ow_v fr (rn_move (fr.ev rfl)) rfl rfl ?_)
    intro a fr
    refine lst rfl (ow_v fr (rn_move (fr.ev rfl)) rfl rfl ?_)
    intro a fr
    have hb3 := u8lt (bs[k]'(by omega))
    obtain ⟨b2, o3, eA, st_⟩ := st.elem 1 rfl k (by omega) (by simp [C8])
    have fr_ := fr
    cases eA
    have st := st_
    have fr := fr_
    clear st_ fr_
    replace st : St _ [] w [ro b2 (o3 + k * 1) [.int .u8 ((bs[k].toNat : Nat))], .blk b1 [.int .i64 0, .int .i64 0, .int .i64 0, .int .i64 0] 29, els C8 1 (some ⟨b2, o3, none⟩) bs] := st
    refine lst rfl (ow_v fr (rn_at (i := k) (fr.ev rfl) (fr.ev rfl) Try.underlying22 sz_5 (by omega) (by rfl)) rfl rfl ?_)
    intro a fr
    refine lst rfl (ow_v fr (rn_load (fr.ev rfl) Try.underlying5 rfl (st.rocell 0 rfl (j := 0) rfl)) rfl rfl ?_)
    intro a fr
    refine lst rfl (ow_v fr (rn_conv (c := (bs[k].toNat : Nat)) (fr.ev rfl) (by kernel_rfl) Try.underlying3 (wr_i64 _ (by omega) (by omega))) rfl rfl ?_)
    intro a fr
    refine lst rfl (ow_v fr (rn_build (cells := #[.int .i64 ((k : Nat)), .int .i64 ((bs[k].toNat : Nat)), .int .i64 0, .int .i64 0]) (by simp only [List.map_toArray, List.map_cons, List.map_nil]; rw [fr.ev (x := .tmp 22) rfl, fr.ev (x := .tmp 27) rfl]; rfl)) rfl rfl ?_)
    intro a fr
    refine lst rfl (ow_alloc fr st rfl zv_29 rfl rfl _ (by rfl) ?_)
    intro a w b4 fr st
    refine lst rfl (ow_stN fr st 0 (vs := [.int .i64 ((k : Nat)), .int .i64 ((bs[k].toNat : Nat)), .int .i64 0, .int .i64 0]) rfl rfl rfl rfl sz_29 rfl (Nat.le_of_ble_eq_true rfl) rfl ?_)
    intro w (st : St _ [] w [.blk b4 [.int .i64 ((k : Nat)), .int .i64 ((bs[k].toNat : Nat)), .int .i64 0, .int .i64 0] 29, ro b2 (o3 + k * 1) [.int .u8 ((bs[k].toNat : Nat))], .blk b1 [.int .i64 0, .int .i64 0, .int .i64 0, .int .i64 0] 29, els C8 1 (some ⟨b2, o3, none⟩) bs])
    refine wpList_nil ?_
    refine then_n ?_
    refine wp_seq ?_
    refine reg ?_
    refine lst rfl (ow_v fr (fa_29_1 (fr.ev rfl)) rfl rfl ?_)
    intro a fr
    refine lst rfl (ow_v fr (rn_load (fr.ev rfl) Try.underlying3 rfl (st.cell 0 rfl rfl)) rfl rfl ?_)
    intro a fr
    refine lst rfl (ow_call fr rfl rfl Try.call20 (rform_t _ h _) rfl rfl ?_)
    rintro e w ⟨rfl, hag⟩
    refine ⟨_, rfl, ?_⟩
    intro a fr
    have st := st.keep hag
    clear hag
    refine lst rfl (ow_v fr (rn_move (fr.ev rfl)) rfl rfl ?_)
    intro a fr
    refine lst rfl (ow_v fr (rn_extract (fr.ev rfl) rfl) rfl rfl ?_)
    intro a fr
    refine lst rfl (ow_v fr (rn_extract (fr.ev rfl) rfl) rfl rfl ?_)
    intro a fr
    refine lst rfl (ow_v fr (rn_assign (fr.ev rfl)) rfl rfl ?_)
    intro a fr
    refine lst rfl (ow_v fr (rn_assign (fr.ev rfl)) rfl rfl ?_)
    intro a fr
    refine wpList_nil ?_
    refine then_n ?_
    refine wp_seq ?_
    refine wp_seq ?_
    refine reg ?_
    refine lst rfl (ow_v fr (rn_move (fr.ev rfl)) rfl rfl ?_)
    intro a fr
    refine lst rfl (ow_v fr (rn_not (fr.ev rfl)) rfl rfl ?_)
    intro a fr
    refine wpList_nil ?_
    refine then_n ?_
    refine cond_f fr rfl rfl ?_
    refine wp_skip ?_
    refine then_n ?_
    refine wp_seq ?_
    refine reg ?_
    refine lst rfl (ow_v fr (rn_move (fr.ev rfl)) rfl rfl ?_)
    intro a fr
    refine lst rfl (ow_call fr rfl rfl Try.call44 (behind_lit 0 0 (by simp [Rng]) (by decide) _) rfl rfl ?_)
    rintro e w ⟨rfl, hag⟩
    refine ⟨_, rfl, ?_⟩
    intro a fr
    have st := st.keep hag
    clear hag
    refine lst rfl (ow_v fr (rn_assign (fr.ev rfl)) rfl rfl ?_)
    intro a fr
    refine wpList_nil ?_
    refine then_n ?_
    refine wp_seq ?_
    refine wp_seq ?_
    refine reg ?_
    refine lst rfl (ow_v fr (rn_move (fr.ev rfl)) rfl rfl ?_)
    intro a fr
    refine lst rfl (ow_v fr (rn_move (fr.ev rfl)) rfl rfl ?_)
    intro a fr
    refine lst rfl (ow_v fr (rn_len (fr.ev rfl) Try.underlying22) rfl rfl ?_)
    intro a fr
    refine lst rfl (ow_v fr (rn_move (fr.ev rfl)) rfl rfl ?_)
    intro a fr
    refine lst rfl (ow_v fr (rn_sub (a := (bs.length : Nat)) (b := (k : Nat)) (c := (bs.length : Nat) - (k : Nat)) (fr.ev rfl) (fr.ev rfl) (wr_i64e (by omega) (by omega) (by omega))) rfl rfl ?_)
    intro a fr
    refine lst rfl (ow_v fr (rn_sub (a := (bs.length : Nat) - (k : Nat)) (b := 1) (c := (bs.length : Nat) - (k : Nat) - 1) (fr.ev rfl) (fr.ev rfl) (wr_i64e (by omega) (by omega) (by omega))) rfl rfl ?_)
    intro a fr
    refine lst rfl (ow_v fr (rn_as (v' := .bool false) (rn_gtr (fr.ev rfl) (fr.ev rfl)) (congrArg Value.bool (decide_eq_false (by omega)))) rfl rfl ?_)
    intro a fr
    refine wpList_nil ?_
    refine then_n ?_
    refine cond_f fr rfl rfl ?_
    refine wp_skip ?_
    refine then_n ?_
    refine wp_seq ?_
    refine reg ?_
    refine lst rfl (ow_v fr (rn_assign (fr.ev rfl)) rfl rfl ?_)
    intro a fr
    refine lst rfl (ow_v fr (rn_assign (fr.ev rfl)) rfl rfl ?_)
    intro a fr
    refine wpList_nil ?_
    refine then_n ?_
    refine wp_seq ?_
    refine wp_seq ?_
    refine reg ?_
    refine lst rfl (ow_v fr (rn_move (fr.ev rfl)) rfl rfl ?_)
    intro a fr
    refine lst rfl (ow_v fr (rn_as (rn_gtr (fr.ev rfl) (fr.ev rfl)) (by rfl)) rfl rfl ?_)
    intro a fr
    refine wpList_nil ?_
    refine then_n ?_
    refine cond_f fr rfl rfl ?_
    refine wp_skip ?_
    refine then_n ?_
    refine wp_seq ?_
    refine wp_seq ?_
    refine reg ?_
    refine lst rfl (ow_v fr (rn_move (fr.ev rfl)) rfl rfl ?_)
    intro a fr
    refine lst rfl (ow_v fr (rn_as (rn_gtr (fr.ev rfl) (fr.ev rfl)) (by rfl)) rfl rfl ?_)
    intro a fr
    refine wpList_nil ?_
    refine then_n ?_
    refine cond_f fr rfl rfl ?_
    refine wp_skip ?_
    refine then_n ?_
    refine wp_seq ?_
    refine wp_seq ?_
    refine reg ?_
    refine lst rfl (ow_v fr (rn_move (fr.ev rfl)) rfl rfl ?_)
    intro a fr
    refine wpList_nil ?_
    refine then_n ?_
    refine wp_block ?_
    refine wp_seq ?_
    refine wp_seq ?_
    refine reg ?_
    refine lst rfl (ow_v fr (rn_as (rn_eql (fr.ev rfl) (fr.ev rfl)) (by rfl)) rfl rfl ?_)
    intro a fr
    refine lst rfl (ow_v fr (rn_assign (fr.ev rfl)) rfl rfl ?_)
    intro a fr
    refine wpList_nil ?_
    refine then_n ?_
    refine cond_f fr rfl rfl ?_
    refine wp_seq ?_
    refine reg ?_
    refine lst rfl (ow_v fr (rn_as (rn_eql (fr.ev rfl) (fr.ev rfl)) (by rfl)) rfl rfl ?_)
    intro a fr
    refine lst rfl (ow_v fr (rn_assign (fr.ev rfl)) rfl rfl ?_)
    intro a fr
    refine wpList_nil ?_
    refine then_n ?_
    refine cond_f fr rfl rfl ?_
    refine reg ?_
    refine lst rfl (ow_v fr (rn_as (rn_eql (fr.ev rfl) (fr.ev rfl)) (by rfl)) rfl rfl ?_)
    intro a fr
    refine lst rfl (ow_v fr (rn_assign (fr.ev rfl)) rfl rfl ?_)
    intro a fr
    refine wpList_nil ?_
    refine then_n ?_
    refine cond_f fr rfl rfl ?_
    refine wp_seq ?_
    refine reg ?_
    refine lst rfl (ow_v fr (rn_as (rn_eql (fr.ev rfl) (fr.ev rfl)) (by rfl)) rfl rfl ?_)
    intro a fr
    refine lst rfl (ow_v fr (rn_assign (fr.ev rfl)) rfl rfl ?_)
    intro a fr
    refine wpList_nil ?_
    refine then_n ?_
    refine cond_f fr rfl rfl ?_
    refine wp_seq ?_
    refine reg ?_
    refine lst rfl (ow_v fr (rn_as (rn_eql (fr.ev rfl) (fr.ev rfl)) (by rfl)) rfl rfl ?_)
    intro a fr
    refine lst rfl (ow_v fr (rn_assign (fr.ev rfl)) rfl rfl ?_)
    intro a fr
    refine wpList_nil ?_
    refine then_n ?_
    refine cond_f fr rfl rfl ?_
    refine wp_seq ?_
    refine reg ?_
    refine lst rfl (ow_v fr (rn_as (rn_eql (fr.ev rfl) (fr.ev rfl)) (by rfl)) rfl rfl ?_)
    intro a fr
    refine lst rfl (ow_v fr (rn_assign (fr.ev rfl)) rfl rfl ?_)
    intro a fr
    refine wpList_nil ?_
    refine then_n ?_
    refine cond_f fr rfl rfl ?_
    refine wp_seq ?_
    refine reg ?_
    refine lst rfl (ow_v fr (rn_as (rn_eql (fr.ev rfl) (fr.ev rfl)) (by rfl)) rfl rfl ?_)
    intro a fr
    refine lst rfl (ow_v fr (rn_assign (fr.ev rfl)) rfl rfl ?_)
    intro a fr
    refine wpList_nil ?_
    refine then_n ?_
    refine cond_f fr rfl rfl ?_
    refine wp_seq ?_
    refine reg ?_
    refine lst rfl (ow_v fr (rn_as (rn_eql (fr.ev rfl) (fr.ev rfl)) (by rfl)) rfl rfl ?_)
    intro a fr
    refine lst rfl (ow_v fr (rn_assign (fr.ev rfl)) rfl rfl ?_)
    intro a fr
    refine wpList_nil ?_
    refine then_n ?_
    refine cond_f fr rfl rfl ?_
    refine wp_skip ?_
    refine blk_n ?_
    refine then_n ?_
    refine wp_seq ?_
    refine wp_seq ?_
    refine reg ?_
    refine lst rfl (ow_v fr (rn_move (fr.ev rfl)) rfl rfl ?_)
    intro a fr
    refine lst rfl (ow_v fr (rn_as (rn_eql (fr.ev rfl) (fr.ev rfl)) (by rfl)) rfl rfl ?_)
    intro a fr
    refine lst rfl (ow_v fr (rn_move (fr.ev rfl)) rfl rfl ?_)
    intro a fr
    refine lst_n (unwanted_of fr rfl rfl rfl rfl) fr rfl rfl ?_
    intro a fr
    refine lst_n (unwanted_of fr rfl rfl rfl rfl) fr rfl rfl ?_
    intro a fr
    refine lst_n (unwanted_of fr rfl rfl rfl rfl) fr rfl rfl ?_
    intro a fr
    refine lst rfl (ow_v fr (rn_pick_f (fr.ev rfl) (fr.ev rfl)) rfl rfl ?_)
    intro a fr
    refine lst rfl (ow_v fr (rn_move (fr.ev rfl)) rfl rfl ?_)
    intro a fr
    refine lst_n (unwanted_of fr rfl rfl rfl rfl) fr rfl rfl ?_
    intro a fr
    refine lst_n (unwanted_of fr rfl rfl rfl rfl) fr rfl rfl ?_
    intro a fr
    refine lst_n (unwanted_of fr rfl rfl rfl rfl) fr rfl rfl ?_
    intro a fr
    refine lst rfl (ow_v fr (rn_pick_f (fr.ev rfl) (fr.ev rfl)) rfl rfl ?_)
    intro a fr
    refine wpList_nil ?_
    refine then_n ?_
    refine cond_f fr rfl rfl ?_
    refine wp_skip ?_
    refine then_n ?_
    refine wp_seq ?_
    refine reg ?_
    refine lst rfl (ow_v fr (rn_loadN (cs := [.int .i64 ((k : Nat)), .int .i64 ((bs[k].toNat : Nat)), .int .i64 0, .int .i64 0]) (fr.ev rfl) Try.underlying29 rfl sz_29 (st.blkrange 0 rfl 0 rfl)) rfl rfl ?_)
    intro a fr
    refine lst rfl (ow_v fr (rn_move (fr.ev rfl)) rfl rfl ?_)
    intro a fr
    refine lst rfl (ow_v fr (rn_add (a := (k : Nat)) (b := 1) (c := ((k + 1 : Nat) : Int)) (fr.ev rfl) (fr.ev rfl) (wr_i64e (by omega) (by omega) (by omega))) rfl rfl ?_)
    intro a fr
    refine lst rfl (ow_v fr (rn_move (fr.ev rfl)) rfl rfl ?_)
    intro a fr
    refine lst rfl (ow_v fr (rn_add (a := ((k + 1 : Nat) : Int)) (b := 0) (c := ((k + 1 : Nat) : Int)) (fr.ev rfl) (fr.ev rfl) (wr_i64e (by omega) (by omega) (by omega))) rfl rfl ?_)
    intro a fr
    refine lst rfl (ow_stN fr st 2 (vs := [.int .i64 ((k : Nat)), .int .i64 ((bs[k].toNat : Nat)), .int .i64 0, .int .i64 0]) rfl rfl rfl rfl sz_29 rfl (Nat.le_of_ble_eq_true rfl) rfl ?_)
    intro w (st : St _ [] w [.blk b4 [.int .i64 ((k : Nat)), .int .i64 ((bs[k].toNat : Nat)), .int .i64 0, .int .i64 0] 29, ro b2 (o3 + k * 1) [.int .u8 ((bs[k].toNat : Nat))], .blk b1 [.int .i64 ((k : Nat)), .int .i64 ((bs[k].toNat : Nat)), .int .i64 0, .int .i64 0] 29, els C8 1 (some ⟨b2, o3, none⟩) bs])
    refine lst rfl (ow_v fr (rn_assign (fr.ev rfl)) rfl rfl ?_)
    intro a fr
    refine lst rfl (ow_v fr (rn_assign (fr.ev rfl)) rfl rfl ?_)
    intro a fr
    refine wpList_nil ?_
    refine then_n ?_
    refine wp_ret ?_
    refine ret3 Try.results14 fr (rv_row (cs := [.int .i64 ((k : Nat)), .int .i64 ((bs[k].toNat : Nat)), .int .i64 0, .int .i64 0]) fr rfl Try.underlying29 rfl (by first | exact sz_29 | simpa using sz_29) (st.blkrange 2 rfl 0 rfl)) (rv_tmp fr rfl) (rv_tmp fr rfl) ?_
    exact ⟨by simp [okA, okB, behF, insC, ub_eq hk, Nat.mul_comm 256], st.agr⟩
  · have hs2 : k + 1 + 1 ≤ bs.length := hs
    have hk1 : k + 1 < bs.length := by omega
    refine enter Try.func14 rfl Try.ntmps14 (by simp) ?_
    intro a fr
    refine wp_seq ?_
    refine reg ?_
    refine lst rfl (ow_alloc fr st rfl zv_29 rfl rfl _ (by rfl) ?_)
    intro a w b1 fr st
    refine lst rfl (ow_v fr (rn_assign (fr.ev rfl)) rfl rfl ?_)
    intro a fr
    refine lst rfl (ow_v fr (rn_assign (fr.ev rfl)) rfl rfl ?_)
    intro a fr
    refine wpList_nil ?_
    refine then_n ?_
    refine wp_seq ?_
    refine wp_seq ?_
    refine reg ?_
    refine lst rfl (ow_v fr (rn_move (fr.ev rfl)) rfl rfl ?_)
    intro a fr
    refine lst rfl (ow_v fr (rn_as (v' := .bool false) (rn_lss (fr.ev rfl) (fr.ev rfl)) (congrArg Value.bool (decide_eq_false (by omega)))) rfl rfl ?_)
    intro a fr
    refine lst rfl (ow_v fr (rn_move (fr.ev rfl)) rfl rfl ?_)
    intro a fr
    refine lst_y (wanted_of fr rfl rfl rfl rfl) (ow_v fr (rn_move (fr.ev rfl)) rfl rfl ?_)
    intro a fr
    refine lst_y (wanted_of fr rfl rfl rfl rfl) (ow_v fr (rn_move (fr.ev rfl)) rfl rfl ?_)
    intro a fr
    refine lst_y (wanted_of fr rfl rfl rfl rfl) (ow_v fr (rn_len (fr.ev rfl) Try.underlying22) rfl rfl ?_)
    intro a fr
    refine lst_y (wanted_of fr rfl rfl rfl rfl) (ow_v fr (rn_as (v' := .bool false) (rn_geq (fr.ev rfl) (fr.ev rfl)) (congrArg Value.bool (decide_eq_false (by omega)))) rfl rfl ?_)
    intro a fr
    refine lst rfl (ow_v fr (rn_pick_f (fr.ev rfl) (fr.ev rfl)) rfl rfl ?_)
    intro a fr
    refine wpList_nil ?_
    refine then_n ?_
    refine cond_f fr rfl rfl ?_
    refine wp_skip ?_
    refine then_n ?_
    refine wp_seq ?_
    refine reg ?_
    refine lst rfl (ow_v fr (rn_move (fr.ev rfl)) rfl rfl ?_)
    intro a fr
    refine lst rfl (ow_v fr (rn_move (fr.ev rfl)) rfl rfl ?_)
    intro a fr
    refine lst rfl (ow_v fr (rn_move (fr.ev rfl)) rfl rfl ?_)
    intro a fr
    have hb3 := u8lt (bs[k]'(by omega))
    obtain ⟨b2, o3, eA, st_⟩ := st.elem 1 rfl k (by omega) (by simp [C8])
    have fr_ := fr
    cases eA
    have st := st_
    have fr := fr_
    clear st_ fr_
    replace st : St _ [] w [ro b2 (o3 + k * 1) [.int .u8 ((bs[k].toNat : Nat))], .blk b1 [.int .i64 0, .int .i64 0, .int .i64 0, .int .i64 0] 29, els C8 1 (some ⟨b2, o3, none⟩) bs] := st
    refine lst rfl (ow_v fr (rn_at (i := k) (fr.ev rfl) (fr.ev rfl) Try.underlying22 sz_5 (by omega) (by rfl)) rfl rfl ?_)
    intro a fr
    refine lst rfl (ow_v fr (rn_load (fr.ev rfl) Try.underlying5 rfl (st.rocell 0 rfl (j := 0) rfl)) rfl rfl ?_)
    intro a fr
    refine lst rfl (ow_v fr (rn_conv (c := (bs[k].toNat : Nat)) (fr.ev rfl) (by kernel_rfl) Try.underlying3 (wr_i64 _ (by omega) (by omega))) rfl rfl ?_)
    intro a fr
    refine lst rfl (ow_v fr (rn_build (cells := #[.int .i64 ((k : Nat)), .int .i64 ((bs[k].toNat : Nat)), .int .i64 0, .int .i64 0]) (by simp only [List.map_toArray, List.map_cons, List.map_nil]; rw [fr.ev (x := .tmp 22) rfl, fr.ev (x := .tmp 27) rfl]; rfl)) rfl rfl ?_)
    intro a fr
    refine lst rfl (ow_alloc fr st rfl zv_29 rfl rfl _ (by rfl) ?_)
    intro a w b4 fr st
    refine lst rfl (ow_stN fr st 0 (vs := [.int .i64 ((k : Nat)), .int .i64 ((bs[k].toNat : Nat)), .int .i64 0, .int .i64 0]) rfl rfl rfl rfl sz_29 rfl (Nat.le_of_ble_eq_true rfl) rfl ?_)
    intro w (st : St _ [] w [.blk b4 [.int .i64 ((k : Nat)), .int .i64 ((bs[k].toNat : Nat)), .int .i64 0, .int .i64 0] 29, ro b2 (o3 + k * 1) [.int .u8 ((bs[k].toNat : Nat))], .blk b1 [.int .i64 0, .int .i64 0, .int .i64 0, .int .i64 0] 29, els C8 1 (some ⟨b2, o3, none⟩) bs])
    refine wpList_nil ?_
    refine then_n ?_
    refine wp_seq ?_
    refine reg ?_
    refine lst rfl (ow_v fr (fa_29_1 (fr.ev rfl)) rfl rfl ?_)
    intro a fr
    refine lst rfl (ow_v fr (rn_load (fr.ev rfl) Try.underlying3 rfl (st.cell 0 rfl rfl)) rfl rfl ?_)
    intro a fr
    refine lst rfl (ow_call fr rfl rfl Try.call20 (rform_t _ h _) rfl rfl ?_)
    rintro e w ⟨rfl, hag⟩
    refine ⟨_, rfl, ?_⟩
    intro a fr
    have st := st.keep hag
    clear hag
    refine lst rfl (ow_v fr (rn_move (fr.ev rfl)) rfl rfl ?_)
    intro a fr
    refine lst rfl (ow_v fr (rn_extract (fr.ev rfl) rfl) rfl rfl ?_)
    intro a fr
    refine lst rfl (ow_v fr (rn_extract (fr.ev rfl) rfl) rfl rfl ?_)
    intro a fr
    refine lst rfl (ow_v fr (rn_assign (fr.ev rfl)) rfl rfl ?_)
    intro a fr
    refine lst rfl (ow_v fr (rn_assign (fr.ev rfl)) rfl rfl ?_)
    intro a fr
    refine wpList_nil ?_
    refine then_n ?_
    refine wp_seq ?_
    refine wp_seq ?_
    refine reg ?_
    refine lst rfl (ow_v fr (rn_move (fr.ev rfl)) rfl rfl ?_)
    intro a fr
    refine lst rfl (ow_v fr (rn_not (fr.ev rfl)) rfl rfl ?_)
    intro a fr
    refine wpList_nil ?_
    refine then_n ?_
    refine cond_f fr rfl rfl ?_
    refine wp_skip ?_
    refine then_n ?_
    refine wp_seq ?_
    refine reg ?_
    refine lst rfl (ow_v fr (rn_move (fr.ev rfl)) rfl rfl ?_)
    intro a fr
    refine lst rfl (ow_call fr rfl rfl Try.call44 (behind_lit 1 1 (by simp [Rng]) (by decide) _) rfl rfl ?_)
    rintro e w ⟨rfl, hag⟩
    refine ⟨_, rfl, ?_⟩
    intro a fr
    have st := st.keep hag
    clear hag
    refine lst rfl (ow_v fr (rn_assign (fr.ev rfl)) rfl rfl ?_)
    intro a fr
    refine wpList_nil ?_
    refine then_n ?_
    refine wp_seq ?_
    refine wp_seq ?_
    refine reg ?_
    refine lst rfl (ow_v fr (rn_move (fr.ev rfl)) rfl rfl ?_)
    intro a fr
    refine lst rfl (ow_v fr (rn_move (fr.ev rfl)) rfl rfl ?_)
    intro a fr
    refine lst rfl (ow_v fr (rn_len (fr.ev rfl) Try.underlying22) rfl rfl ?_)
    intro a fr
    refine lst rfl (ow_v fr (rn_move (fr.ev rfl)) rfl rfl ?_)
    intro a fr
    refine lst rfl (ow_v fr (rn_sub (a := (bs.length : Nat)) (b := (k : Nat)) (c := (bs.length : Nat) - (k : Nat)) (fr.ev rfl) (fr.ev rfl) (wr_i64e (by omega) (by omega) (by omega))) rfl rfl ?_)
    intro a fr
    refine lst rfl (ow_v fr (rn_sub (a := (bs.length : Nat) - (k : Nat)) (b := 1) (c := (bs.length : Nat) - (k : Nat) - 1) (fr.ev rfl) (fr.ev rfl) (wr_i64e (by omega) (by omega) (by omega))) rfl rfl ?_)
    intro a fr
    refine lst rfl (ow_v fr (rn_as (v' := .bool false) (rn_gtr (fr.ev rfl) (fr.ev rfl)) (congrArg Value.bool (decide_eq_false (by omega)))) rfl rfl ?_)
    intro a fr
    refine wpList_nil ?_
    refine then_n ?_
    refine cond_f fr rfl rfl ?_
    refine wp_skip ?_
    refine then_n ?_
    refine wp_seq ?_
    refine reg ?_
    refine lst rfl (ow_v fr (rn_assign (fr.ev rfl)) rfl rfl ?_)
    intro a fr
    refine lst rfl (ow_v fr (rn_assign (fr.ev rfl)) rfl rfl ?_)
    intro a fr
    refine wpList_nil ?_
    refine then_n ?_
    refine wp_seq ?_
    refine wp_seq ?_
    refine reg ?_
    refine lst rfl (ow_v fr (rn_move (fr.ev rfl)) rfl rfl ?_)
    intro a fr
    refine lst rfl (ow_v fr (rn_as (rn_gtr (fr.ev rfl) (fr.ev rfl)) (by rfl)) rfl rfl ?_)
    intro a fr
    refine wpList_nil ?_
    refine then_n ?_
    refine cond_t fr rfl rfl ?_
    refine reg ?_
    refine lst rfl (ow_v fr (rn_move (fr.ev rfl)) rfl rfl ?_)
    intro a fr
    refine lst rfl (ow_v fr (rn_move (fr.ev rfl)) rfl rfl ?_)
    intro a fr
    refine lst rfl (ow_v fr (rn_add (a := (k : Nat)) (b := 1) (c := ((k + 1 : Nat) : Int)) (fr.ev rfl) (fr.ev rfl) (wr_i64e (by omega) (by omega) (by omega))) rfl rfl ?_)
    intro a fr
    have hb6 := u8lt (bs[k + 1]'(by omega))
    have st := (st.elem 3 rfl (k + 1) (by omega) (by simp [C8]))
    obtain ⟨b_, o_, eA, st_⟩ := st
    have fr_ := fr
    cases eA
    have st := st_
    have fr := fr_
    clear st_ fr_
    replace st : St _ [] w [ro b2 (o3 + (k + 1) * 1) [.int .u8 ((bs[k + 1].toNat : Nat))], .blk b4 [.int .i64 ((k : Nat)), .int .i64 ((bs[k].toNat : Nat)), .int .i64 0, .int .i64 0] 29, ro b2 (o3 + k * 1) [.int .u8 ((bs[k].toNat : Nat))], .blk b1 [.int .i64 0, .int .i64 0, .int .i64 0, .int .i64 0] 29, els C8 1 (some ⟨b2, o3, none⟩) bs] := st
    refine lst rfl (ow_v fr (rn_at (i := k + 1) (fr.ev rfl) (fr.ev rfl) Try.underlying22 sz_5 (by omega) (by rfl)) rfl rfl ?_)
    intro a fr
    refine lst rfl (ow_v fr (rn_load (fr.ev rfl) Try.underlying5 rfl (st.rocell 0 rfl (j := 0) rfl)) rfl rfl ?_)
    intro a fr
    refine lst rfl (ow_v fr (rn_conv (c := (bs[k + 1].toNat : Nat)) (fr.ev rfl) (by kernel_rfl) Try.underlying3 (wr_i64 _ (by omega) (by omega))) rfl rfl ?_)
    intro a fr
    refine lst rfl (ow_v fr (rn_assign (fr.ev rfl)) rfl rfl ?_)
    intro a fr
    refine wpList_nil ?_
    refine then_n ?_
    refine wp_seq ?_
    refine wp_seq ?_
    refine reg ?_
    refine lst rfl (ow_v fr (rn_move (fr.ev rfl)) rfl rfl ?_)
    intro a fr
    refine lst rfl (ow_v fr (rn_as (rn_gtr (fr.ev rfl) (fr.ev rfl)) (by rfl)) rfl rfl ?_)
    intro a fr
    refine wpList_nil ?_
    refine then_n ?_
    refine cond_f fr rfl rfl ?_
    refine wp_skip ?_
    refine then_n ?_
    refine wp_seq ?_
    refine wp_seq ?_
    refine reg ?_
    refine lst rfl (ow_v fr (rn_move (fr.ev rfl)) rfl rfl ?_)
    intro a fr
    refine wpList_nil ?_
    refine then_n ?_
    refine wp_block ?_
    refine wp_seq ?_
    refine wp_seq ?_
    refine reg ?_
    refine lst rfl (ow_v fr (rn_as (rn_eql (fr.ev rfl) (fr.ev rfl)) (by rfl)) rfl rfl ?_)
    intro a fr
    refine lst rfl (ow_v fr (rn_assign (fr.ev rfl)) rfl rfl ?_)
    intro a fr
    refine wpList_nil ?_
    refine then_n ?_
    refine cond_t fr rfl rfl ?_
    refine wp_skip ?_
    refine then_n ?_
    refine cond_t fr rfl rfl ?_
    refine reg ?_
    refine lst rfl (ow_v fr (rn_move (fr.ev rfl)) rfl rfl ?_)
    intro a fr
    refine lst rfl (ow_v fr (fa_29_2 (fr.ev rfl)) rfl rfl ?_)
    intro a fr
    refine lst rfl (ow_st fr st 1 rfl rfl rfl rfl sz_3 rfl rfl rfl ?_)
    intro w (st : St _ [] w [ro b2 (o3 + (k + 1) * 1) [.int .u8 ((bs[k + 1].toNat : Nat))], .blk b4 [.int .i64 ((k : Nat)), .int .i64 ((bs[k].toNat : Nat)), .int .i64 ((bs[k + 1].toNat : Nat)), .int .i64 0] 29, ro b2 (o3 + k * 1) [.int .u8 ((bs[k].toNat : Nat))], .blk b1 [.int .i64 0, .int .i64 0, .int .i64 0, .int .i64 0] 29, els C8 1 (some ⟨b2, o3, none⟩) bs])
    refine wpList_nil ?_
    refine blk_n ?_
    refine then_n ?_
    refine wp_seq ?_
    refine wp_seq ?_
    refine reg ?_
    refine lst rfl (ow_v fr (rn_move (fr.ev rfl)) rfl rfl ?_)
    intro a fr
    refine lst rfl (ow_v fr (rn_as (rn_eql (fr.ev rfl) (fr.ev rfl)) (by rfl)) rfl rfl ?_)
    intro a fr
    refine lst rfl (ow_v fr (rn_move (fr.ev rfl)) rfl rfl ?_)
    intro a fr
    refine lst_n (unwanted_of fr rfl rfl rfl rfl) fr rfl rfl ?_
    intro a fr
    refine lst_n (unwanted_of fr rfl rfl rfl rfl) fr rfl rfl ?_
    intro a fr
    refine lst_n (unwanted_of fr rfl rfl rfl rfl) fr rfl rfl ?_
    intro a fr
    refine lst rfl (ow_v fr (rn_pick_f (fr.ev rfl) (fr.ev rfl)) rfl rfl ?_)
    intro a fr
    refine lst rfl (ow_v fr (rn_move (fr.ev rfl)) rfl rfl ?_)
    intro a fr
    refine lst_n (unwanted_of fr rfl rfl rfl rfl) fr rfl rfl ?_
    intro a fr
    refine lst_n (unwanted_of fr rfl rfl rfl rfl) fr rfl rfl ?_
    intro a fr
    refine lst_n (unwanted_of fr rfl rfl rfl rfl) fr rfl rfl ?_
    intro a fr
    refine lst rfl (ow_v fr (rn_pick_f (fr.ev rfl) (fr.ev rfl)) rfl rfl ?_)
    intro a fr
    refine wpList_nil ?_
    refine then_n ?_
    refine cond_f fr rfl rfl ?_
    refine wp_skip ?_
    refine then_n ?_
    refine wp_seq ?_
    refine reg ?_
    refine lst rfl (ow_v fr (rn_loadN (cs := [.int .i64 ((k : Nat)), .int .i64 ((bs[k].toNat : Nat)), .int .i64 ((bs[k + 1].toNat : Nat)), .int .i64 0]) (fr.ev rfl) Try.underlying29 rfl sz_29 (st.blkrange 1 rfl 0 rfl)) rfl rfl ?_)
    intro a fr
    refine lst rfl (ow_v fr (rn_move (fr.ev rfl)) rfl rfl ?_)
    intro a fr
    refine lst rfl (ow_v fr (rn_add (a := (k : Nat)) (b := 1) (c := ((k + 1 : Nat) : Int)) (fr.ev rfl) (fr.ev rfl) (wr_i64e (by omega) (by omega) (by omega))) rfl rfl ?_)
    intro a fr
    refine lst rfl (ow_v fr (rn_move (fr.ev rfl)) rfl rfl ?_)
    intro a fr
    refine lst rfl (ow_v fr (rn_add (a := ((k + 1 : Nat) : Int)) (b := 1) (c := ((k + 1 + 1 : Nat) : Int)) (fr.ev rfl) (fr.ev rfl) (wr_i64e (by omega) (by omega) (by omega))) rfl rfl ?_)
    intro a fr
    refine lst rfl (ow_stN fr st 3 (vs := [.int .i64 ((k : Nat)), .int .i64 ((bs[k].toNat : Nat)), .int .i64 ((bs[k + 1].toNat : Nat)), .int .i64 0]) rfl rfl rfl rfl sz_29 rfl (Nat.le_of_ble_eq_true rfl) rfl ?_)
    intro w (st : St _ [] w [ro b2 (o3 + (k + 1) * 1) [.int .u8 ((bs[k + 1].toNat : Nat))], .blk b4 [.int .i64 ((k : Nat)), .int .i64 ((bs[k].toNat : Nat)), .int .i64 ((bs[k + 1].toNat : Nat)), .int .i64 0] 29, ro b2 (o3 + k * 1) [.int .u8 ((bs[k].toNat : Nat))], .blk b1 [.int .i64 ((k : Nat)), .int .i64 ((bs[k].toNat : Nat)), .int .i64 ((bs[k + 1].toNat : Nat)), .int .i64 0] 29, els C8 1 (some ⟨b2, o3, none⟩) bs])
    refine lst rfl (ow_v fr (rn_assign (fr.ev rfl)) rfl rfl ?_)
    intro a fr
    refine lst rfl (ow_v fr (rn_assign (fr.ev rfl)) rfl rfl ?_)
    intro a fr
    refine wpList_nil ?_
    refine then_n ?_
    refine wp_ret ?_
    refine ret3 Try.results14 fr (rv_row (cs := [.int .i64 ((k : Nat)), .int .i64 ((bs[k].toNat : Nat)), .int .i64 ((bs[k + 1].toNat : Nat)), .int .i64 0]) fr rfl Try.underlying29 rfl (by first | exact sz_29 | simpa using sz_29) (st.blkrange 3 rfl 0 rfl)) (rv_tmp fr rfl) (rv_tmp fr rfl) ?_
    exact ⟨by simp [okA, okB, behF, insC, ub_eq hk, ub_eq hk1, Nat.mul_comm 256], st.agr⟩
  · have hs2 : k + 1 + 1 ≤ bs.length := hs
    have hk1 : k + 1 < bs.length := by omega
    refine enter Try.func14 rfl Try.ntmps14 (by simp) ?_
    intro a fr
    refine wp_seq ?_
    refine reg ?_
    refine lst rfl (ow_alloc fr st rfl zv_29 rfl rfl _ (by rfl) ?_)
    intro a w b1 fr st
    refine lst rfl (ow_v fr (rn_assign (fr.ev rfl)) rfl rfl ?_)
    intro a fr
    refine lst rfl (ow_v fr (rn_assign (fr.ev rfl)) rfl rfl ?_)
    intro a fr
    refine wpList_nil ?_
    refine then_n ?_
    refine wp_seq ?_
    refine wp_seq ?_
    refine reg ?_
    refine lst rfl (ow_v fr (rn_move (fr.ev rfl)) rfl rfl ?_)
    intro a fr
    refine lst rfl (ow_v fr (rn_as (v' := .bool false) (rn_lss (fr.ev rfl) (fr.ev rfl)) (congrArg Value.bool (decide_eq_false (by omega)))) rfl rfl ?_)
    intro a fr
    refine lst rfl (ow_v fr (rn_move (fr.ev rfl)) rfl rfl ?_)
    intro a fr
    refine lst_y (wanted_of fr rfl rfl rfl rfl) (ow_v fr (rn_move (fr.ev rfl)) rfl rfl ?_)
    intro a fr
    refine lst_y (wanted_of fr rfl rfl rfl rfl) (ow_v fr (rn_move (fr.ev rfl)) rfl rfl ?_)
    intro a fr
    refine lst_y (wanted_of fr rfl rfl rfl rfl) (ow_v fr (rn_len (fr.ev rfl) Try.underlying22) rfl rfl ?_)
    intro a fr
    refine lst_y (wanted_of fr rfl rfl rfl rfl) (ow_v fr (rn_as (v' := .bool false) (rn_geq (fr.ev rfl) (fr.ev rfl)) (congrArg Value.bool (decide_eq_false (by omega)))) rfl rfl ?_)
    intro a fr
    refine lst rfl (ow_v fr (rn_pick_f (fr.ev rfl) (fr.ev rfl)) rfl rfl ?_)
    intro a fr
    refine wpList_nil ?_
    refine then_n ?_
    refine cond_f fr rfl rfl ?_
    refine wp_skip ?_
    refine then_n ?_
    refine wp_seq ?_
    refine reg ?_
    refine lst rfl (ow_v fr (rn_move (fr.ev rfl)) rfl rfl ?_)
    intro a fr
    refine lst rfl (ow_v fr (rn_move (fr.ev rfl)) rfl rfl ?_)
    intro a fr
    refine lst rfl (ow_v fr (rn_move (fr.ev rfl)) rfl rfl ?_)
    intro a fr
    have hb3 := u8lt (bs[k]'(by omega))
    obtain ⟨b2, o3, eA, st_⟩ := st.elem 1 rfl k (by omega) (by simp [C8])
    have fr_ := fr
    cases eA
    have st := st_
    have fr := fr_
    clear st_ fr_
    replace st : St _ [] w [ro b2 (o3 + k * 1) [.int .u8 ((bs[k].toNat : Nat))], .blk b1 [.int .i64 0, .int .i64 0, .int .i64 0, .int .i64 0] 29, els C8 1 (some ⟨b2, o3, none⟩) bs] := st
    refine lst rfl (ow_v fr (rn_at (i := k) (fr.ev rfl) (fr.ev rfl) Try.underlying22 sz_5 (by omega) (by rfl)) rfl rfl ?_)
    intro a fr
    refine lst rfl (ow_v fr (rn_load (fr.ev rfl) Try.underlying5 rfl (st.rocell 0 rfl (j := 0) rfl)) rfl rfl ?_)
    intro a fr
    refine lst rfl (ow_v fr (rn_conv (c := (bs[k].toNat : Nat)) (fr.ev rfl) (by kernel_rfl) Try.underlying3 (wr_i64 _ (by omega) (by omega))) rfl rfl ?_)
    intro a fr
    refine lst rfl (ow_v fr (rn_build (cells := #[.int .i64 ((k : Nat)), .int .i64 ((bs[k].toNat : Nat)), .int .i64 0, .int .i64 0]) (by simp only [List.map_toArray, List.map_cons, List.map_nil]; rw [fr.ev (x := .tmp 22) rfl, fr.ev (x := .tmp 27) rfl]; rfl)) rfl rfl ?_)
    intro a fr
    refine lst rfl (ow_alloc fr st rfl zv_29 rfl rfl _ (by rfl) ?_)
    intro a w b4 fr st
    refine lst rfl (ow_stN fr st 0 (vs := [.int .i64 ((k : Nat)), .int .i64 ((bs[k].toNat : Nat)), .int .i64 0, .int .i64 0]) rfl rfl rfl rfl sz_29 rfl (Nat.le_of_ble_eq_true rfl) rfl ?_)
    intro w (st : St _ [] w [.blk b4 [.int .i64 ((k : Nat)), .int .i64 ((bs[k].toNat : Nat)), .int .i64 0, .int .i64 0] 29, ro b2 (o3 + k * 1) [.int .u8 ((bs[k].toNat : Nat))], .blk b1 [.int .i64 0, .int .i64 0, .int .i64 0, .int .i64 0] 29, els C8 1 (some ⟨b2, o3, none⟩) bs])
    refine wpList_nil ?_
    refine then_n ?_
    refine wp_seq ?_
    refine reg ?_
    refine lst rfl (ow_v fr (fa_29_1 (fr.ev rfl)) rfl rfl ?_)
    intro a fr
    refine lst rfl (ow_v fr (rn_load (fr.ev rfl) Try.underlying3 rfl (st.cell 0 rfl rfl)) rfl rfl ?_)
    intro a fr
    refine lst rfl (ow_call fr rfl rfl Try.call20 (rform_t _ h _) rfl rfl ?_)
    rintro e w ⟨rfl, hag⟩
    refine ⟨_, rfl, ?_⟩
    intro a fr
    have st := st.keep hag
    clear hag
    refine lst rfl (ow_v fr (rn_move (fr.ev rfl)) rfl rfl ?_)
    intro a fr
    refine lst rfl (ow_v fr (rn_extract (fr.ev rfl) rfl) rfl rfl ?_)
    intro a fr
    refine lst rfl (ow_v fr (rn_extract (fr.ev rfl) rfl) rfl rfl ?_)
    intro a fr
    refine lst rfl (ow_v fr (rn_assign (fr.ev rfl)) rfl rfl ?_)
    intro a fr
    refine lst rfl (ow_v fr (rn_assign (fr.ev rfl)) rfl rfl ?_)
    intro a fr
    refine wpList_nil ?_
    refine then_n ?_
    refine wp_seq ?_
    refine wp_seq ?_
    refine reg ?_
    refine lst rfl (ow_v fr (rn_move (fr.ev rfl)) rfl rfl ?_)
    intro a fr
    refine lst rfl (ow_v fr (rn_not (fr.ev rfl)) rfl rfl ?_)
    intro a fr
    refine wpList_nil ?_
    refine then_n ?_
    refine cond_f fr rfl rfl ?_
    refine wp_skip ?_
    refine then_n ?_
    refine wp_seq ?_
    refine reg ?_
    refine lst rfl (ow_v fr (rn_move (fr.ev rfl)) rfl rfl ?_)
    intro a fr
    refine lst rfl (ow_call fr rfl rfl Try.call44 (behind_lit 2 1 (by simp [Rng]) (by decide) _) rfl rfl ?_)
    rintro e w ⟨rfl, hag⟩
    refine ⟨_, rfl, ?_⟩
    intro a fr
    have st := st.keep hag
    clear hag
    refine lst rfl (ow_v fr (rn_assign (fr.ev rfl)) rfl rfl ?_)
    intro a fr
    refine wpList_nil ?_
    refine then_n ?_
    refine wp_seq ?_
    refine wp_seq ?_
    refine reg ?_
    refine lst rfl (ow_v fr (rn_move (fr.ev rfl)) rfl rfl ?_)
    intro a fr
    refine lst rfl (ow_v fr (rn_move (fr.ev rfl)) rfl rfl ?_)
    intro a fr
    refine lst rfl (ow_v fr (rn_len (fr.ev rfl) Try.underlying22) rfl rfl ?_)
    intro a fr
    refine lst rfl (ow_v fr (rn_move (fr.ev rfl)) rfl rfl ?_)
    intro a fr
    refine lst rfl (ow_v fr (rn_sub (a := (bs.length : Nat)) (b := (k : Nat)) (c := (bs.length : Nat) - (k : Nat)) (fr.ev rfl) (fr.ev rfl) (wr_i64e (by omega) (by omega) (by omega))) rfl rfl ?_)
    intro a fr
    refine lst rfl (ow_v fr (rn_sub (a := (bs.length : Nat) - (k : Nat)) (b := 1) (c := (bs.length : Nat) - (k : Nat) - 1) (fr.ev rfl) (fr.ev rfl) (wr_i64e (by omega) (by omega) (by omega))) rfl rfl ?_)
    intro a fr
    refine lst rfl (ow_v fr (rn_as (v' := .bool false) (rn_gtr (fr.ev rfl) (fr.ev rfl)) (congrArg Value.bool (decide_eq_false (by omega)))) rfl rfl ?_)
    intro a fr
    refine wpList_nil ?_
    refine then_n ?_
    refine cond_f fr rfl rfl ?_
    refine wp_skip ?_
    refine then_n ?_
    refine wp_seq ?_
    refine reg ?_
    refine lst rfl (ow_v fr (rn_assign (fr.ev rfl)) rfl rfl ?_)
    intro a fr
    refine lst rfl (ow_v fr (rn_assign (fr.ev rfl)) rfl rfl ?_)
    intro a fr
    refine wpList_nil ?_
    refine then_n ?_
    refine wp_seq ?_
    refine wp_seq ?_
    refine reg ?_
    refine lst rfl (ow_v fr (rn_move (fr.ev rfl)) rfl rfl ?_)
    intro a fr
    refine lst rfl (ow_v fr (rn_as (rn_gtr (fr.ev rfl) (fr.ev rfl)) (by rfl)) rfl rfl ?_)
    intro a fr
    refine wpList_nil ?_
    refine then_n ?_
    refine cond_t fr rfl rfl ?_
    refine reg ?_
    refine lst rfl (ow_v fr (rn_move (fr.ev rfl)) rfl rfl ?_)
    intro a fr
    refine lst rfl (ow_v fr (rn_move (fr.ev rfl)) rfl rfl ?_)
    intro a fr
    refine lst rfl (ow_v fr (rn_add (a := (k : Nat)) (b := 1) (c := ((k + 1 : Nat) : Int)) (fr.ev rfl) (fr.ev rfl) (wr_i64e (by omega) (by omega) (by omega))) rfl rfl ?_)
    intro a fr
    have hb6 := u8lt (bs[k + 1]'(by omega))
    have st := (st.elem 3 rfl (k + 1) (by omega) (by simp [C8]))
    obtain ⟨b_, o_, eA, st_⟩ := st
    have fr_ := fr
    cases eA
    have st := st_
    have fr := fr_
    clear st_ fr_
    replace st : St _ [] w [ro b2 (o3 + (k + 1) * 1) [.int .u8 ((bs[k + 1].toNat : Nat))], .blk b4 [.int .i64 ((k : Nat)), .int .i64 ((bs[k].toNat : Nat)), .int .i64 0, .int .i64 0] 29, ro b2 (o3 + k * 1) [.int .u8 ((bs[k].toNat : Nat))], .blk b1 [.int .i64 0, .int .i64 0, .int .i64 0, .int .i64 0] 29, els C8 1 (some ⟨b2, o3, none⟩) bs] := st
    refine lst rfl (ow_v fr (rn_at (i := k + 1) (fr.ev rfl) (fr.ev rfl) Try.underlying22 sz_5 (by omega) (by rfl)) rfl rfl ?_)
    intro a fr
    refine lst rfl (ow_v fr (rn_load (fr.ev rfl) Try.underlying5 rfl (st.rocell 0 rfl (j := 0) rfl)) rfl rfl ?_)
    intro a fr
    refine lst rfl (ow_v fr (rn_conv (c := (bs[k + 1].toNat : Nat)) (fr.ev rfl) (by kernel_rfl) Try.underlying3 (wr_i64 _ (by omega) (by omega))) rfl rfl ?_)
    intro a fr
    refine lst rfl (ow_v fr (rn_assign (fr.ev rfl)) rfl rfl ?_)
    intro a fr
    refine wpList_nil ?_
    refine then_n ?_
    refine wp_seq ?_
    refine wp_seq ?_
    refine reg ?_
    refine lst rfl (ow_v fr (rn_move (fr.ev rfl)) rfl rfl ?_)
    intro a fr
    refine lst rfl (ow_v fr (rn_as (rn_gtr (fr.ev rfl) (fr.ev rfl)) (by rfl)) rfl rfl ?_)
    intro a fr
    refine wpList_nil ?_
    refine then_n ?_
    refine cond_f fr rfl rfl ?_
    refine wp_skip ?_
    refine then_n ?_
    refine wp_seq ?_
    refine wp_seq ?_
    refine reg ?_
    refine lst rfl (ow_v fr (rn_move (fr.ev rfl)) rfl rfl ?_)
    intro a fr
    refine wpList_nil ?_
    refine then_n ?_
    refine wp_block ?_
    refine wp_seq ?_
    refine wp_seq ?_
    refine reg ?_
    refine lst rfl (ow_v fr (rn_as (rn_eql (fr.ev rfl) (fr.ev rfl)) (by rfl)) rfl rfl ?_)
    intro a fr
    refine lst rfl (ow_v fr (rn_assign (fr.ev rfl)) rfl rfl ?_)
    intro a fr
    refine wpList_nil ?_
    refine then_n ?_
    refine cond_f fr rfl rfl ?_
    refine wp_seq ?_
    refine reg ?_
    refine lst rfl (ow_v fr (rn_as (rn_eql (fr.ev rfl) (fr.ev rfl)) (by rfl)) rfl rfl ?_)
    intro a fr
    refine lst rfl (ow_v fr (rn_assign (fr.ev rfl)) rfl rfl ?_)
    intro a fr
    refine wpList_nil ?_
    refine then_n ?_
    refine cond_f fr rfl rfl ?_
    refine reg ?_
    refine lst rfl (ow_v fr (rn_as (rn_eql (fr.ev rfl) (fr.ev rfl)) (by rfl)) rfl rfl ?_)
    intro a fr
    refine lst rfl (ow_v fr (rn_assign (fr.ev rfl)) rfl rfl ?_)
    intro a fr
    refine wpList_nil ?_
    refine then_n ?_
    refine cond_f fr rfl rfl ?_
    refine wp_seq ?_
    refine reg ?_
    refine lst rfl (ow_v fr (rn_as (rn_eql (fr.ev rfl) (fr.ev rfl)) (by rfl)) rfl rfl ?_)
    intro a fr
    refine lst rfl (ow_v fr (rn_assign (fr.ev rfl)) rfl rfl ?_)
    intro a fr
    refine wpList_nil ?_
    refine then_n ?_
    refine cond_t fr rfl rfl ?_
    refine reg ?_
    refine lst rfl (ow_v fr (rn_move (fr.ev rfl)) rfl rfl ?_)
    intro a fr
    refine lst rfl (ow_call fr rfl rfl Try.call45 (signed8 (bs[k + 1].toNat) (by omega) _) rfl rfl ?_)
    rintro e w ⟨rfl, hag⟩
    refine ⟨_, rfl, ?_⟩
    intro a fr
    have st := st.keep hag
    clear hag
    refine lst rfl (ow_v fr (fa_29_2 (fr.ev rfl)) rfl rfl ?_)
    intro a fr
    refine lst rfl (ow_st fr st 1 rfl rfl rfl rfl sz_3 rfl rfl rfl ?_)
    intro w (st : St _ [] w [ro b2 (o3 + (k + 1) * 1) [.int .u8 ((bs[k + 1].toNat : Nat))], .blk b4 [.int .i64 ((k : Nat)), .int .i64 ((bs[k].toNat : Nat)), .int .i64 (sx8 (bs[k + 1].toNat)), .int .i64 0] 29, ro b2 (o3 + k * 1) [.int .u8 ((bs[k].toNat : Nat))], .blk b1 [.int .i64 0, .int .i64 0, .int .i64 0, .int .i64 0] 29, els C8 1 (some ⟨b2, o3, none⟩) bs])
    refine wpList_nil ?_
    refine blk_n ?_
    refine then_n ?_
    refine wp_seq ?_
    refine wp_seq ?_
    refine reg ?_
    refine lst rfl (ow_v fr (rn_move (fr.ev rfl)) rfl rfl ?_)
    intro a fr
    refine lst rfl (ow_v fr (rn_as (rn_eql (fr.ev rfl) (fr.ev rfl)) (by rfl)) rfl rfl ?_)
    intro a fr
    refine lst rfl (ow_v fr (rn_move (fr.ev rfl)) rfl rfl ?_)
    intro a fr
    refine lst_n (unwanted_of fr rfl rfl rfl rfl) fr rfl rfl ?_
    intro a fr
    refine lst_n (unwanted_of fr rfl rfl rfl rfl) fr rfl rfl ?_
    intro a fr
    refine lst_n (unwanted_of fr rfl rfl rfl rfl) fr rfl rfl ?_
    intro a fr
    refine lst rfl (ow_v fr (rn_pick_f (fr.ev rfl) (fr.ev rfl)) rfl rfl ?_)
    intro a fr
    refine lst rfl (ow_v fr (rn_move (fr.ev rfl)) rfl rfl ?_)
    intro a fr
    refine lst_n (unwanted_of fr rfl rfl rfl rfl) fr rfl rfl ?_
    intro a fr
    refine lst_n (unwanted_of fr rfl rfl rfl rfl) fr rfl rfl ?_
    intro a fr
    refine lst_n (unwanted_of fr rfl rfl rfl rfl) fr rfl rfl ?_
    intro a fr
    refine lst rfl (ow_v fr (rn_pick_f (fr.ev rfl) (fr.ev rfl)) rfl rfl ?_)
    intro a fr
    refine wpList_nil ?_
    refine then_n ?_
    refine cond_f fr rfl rfl ?_
    refine wp_skip ?_
    refine then_n ?_
    refine wp_seq ?_
    refine reg ?_
    refine lst rfl (ow_v fr (rn_loadN (cs := [.int .i64 ((k : Nat)), .int .i64 ((bs[k].toNat : Nat)), .int .i64 (sx8 (bs[k + 1].toNat)), .int .i64 0]) (fr.ev rfl) Try.underlying29 rfl sz_29 (st.blkrange 1 rfl 0 rfl)) rfl rfl ?_)
    intro a fr
    refine lst rfl (ow_v fr (rn_move (fr.ev rfl)) rfl rfl ?_)
    intro a fr
    refine lst rfl (ow_v fr (rn_add (a := (k : Nat)) (b := 1) (c := ((k + 1 : Nat) : Int)) (fr.ev rfl) (fr.ev rfl) (wr_i64e (by omega) (by omega) (by omega))) rfl rfl ?_)
    intro a fr
    refine lst rfl (ow_v fr (rn_move (fr.ev rfl)) rfl rfl ?_)
    intro a fr
    refine lst rfl (ow_v fr (rn_add (a := ((k + 1 : Nat) : Int)) (b := 1) (c := ((k + 1 + 1 : Nat) : Int)) (fr.ev rfl) (fr.ev rfl) (wr_i64e (by omega) (by omega) (by omega))) rfl rfl ?_)
    intro a fr
    refine lst rfl (ow_stN fr st 3 (vs := [.int .i64 ((k : Nat)), .int .i64 ((bs[k].toNat : Nat)), .int .i64 (sx8 (bs[k + 1].toNat)), .int .i64 0]) rfl rfl rfl rfl sz_29 rfl (Nat.le_of_ble_eq_true rfl) rfl ?_)
    intro w (st : St _ [] w [ro b2 (o3 + (k + 1) * 1) [.int .u8 ((bs[k + 1].toNat : Nat))], .blk b4 [.int .i64 ((k : Nat)), .int .i64 ((bs[k].toNat : Nat)), .int .i64 (sx8 (bs[k + 1].toNat)), .int .i64 0] 29, ro b2 (o3 + k * 1) [.int .u8 ((bs[k].toNat : Nat))], .blk b1 [.int .i64 ((k : Nat)), .int .i64 ((bs[k].toNat : Nat)), .int .i64 (sx8 (bs[k + 1].toNat)), .int .i64 0] 29, els C8 1 (some ⟨b2, o3, none⟩) bs])
    refine lst rfl (ow_v fr (rn_assign (fr.ev rfl)) rfl rfl ?_)
    intro a fr
    refine lst rfl (ow_v fr (rn_assign (fr.ev rfl)) rfl rfl ?_)
    intro a fr
    refine wpList_nil ?_
    refine then_n ?_
    refine wp_ret ?_
    refine ret3 Try.results14 fr (rv_row (cs := [.int .i64 ((k : Nat)), .int .i64 ((bs[k].toNat : Nat)), .int .i64 (sx8 (bs[k + 1].toNat)), .int .i64 0]) fr rfl Try.underlying29 rfl (by first | exact sz_29 | simpa using sz_29) (st.blkrange 3 rfl 0 rfl)) (rv_tmp fr rfl) (rv_tmp fr rfl) ?_
    exact ⟨by simp [okA, okB, behF, insC, ub_eq hk, ub_eq hk1, Nat.mul_comm 256], st.agr⟩
  · have hs2 : k + 1 + 2 ≤ bs.length := hs
    have hk1 : k + 1 < bs.length := by omega
    have hk2 : k + 2 < bs.length := by omega
    refine enter Try.func14 rfl Try.ntmps14 (by simp) ?_
    intro a fr
    refine wp_seq ?_
    refine reg ?_
    refine lst rfl (ow_alloc fr st rfl zv_29 rfl rfl _ (by rfl) ?_)
    intro a w b1 fr st
    refine lst rfl (ow_v fr (rn_assign (fr.ev rfl)) rfl rfl ?_)
    intro a fr
    refine lst rfl (ow_v fr (rn_assign (fr.ev rfl)) rfl rfl ?_)
    intro a fr
    refine wpList_nil ?_
    refine then_n ?_
    refine wp_seq ?_
    refine wp_seq ?_
    refine reg ?_
    refine lst rfl (ow_v fr (rn_move (fr.ev rfl)) rfl rfl ?_)
    intro a fr
    refine lst rfl (ow_v fr (rn_as (v' := .bool false) (rn_lss (fr.ev rfl) (fr.ev rfl)) (congrArg Value.bool (decide_eq_false (by omega)))) rfl rfl ?_)
    intro a fr
    refine lst rfl (ow_v fr (rn_move (fr.ev rfl)) rfl rfl ?_)
    intro a fr
    refine lst_y (wanted_of fr rfl rfl rfl rfl) (ow_v fr (rn_move (fr.ev rfl)) rfl rfl ?_)
    intro a fr
    refine lst_y (wanted_of fr rfl rfl rfl rfl) (ow_v fr (rn_move (fr.ev rfl)) rfl rfl ?_)
    intro a fr
    refine lst_y (wanted_of fr rfl rfl rfl rfl) (ow_v fr (rn_len (fr.ev rfl) Try.underlying22) rfl rfl ?_)
    intro a fr
    refine lst_y (wanted_of fr rfl rfl rfl rfl) (ow_v fr (rn_as (v' := .bool false) (rn_geq (fr.ev rfl) (fr.ev rfl)) (congrArg Value.bool (decide_eq_false (by omega)))) rfl rfl ?_)
    intro a fr
    refine lst rfl (ow_v fr (rn_pick_f (fr.ev rfl) (fr.ev rfl)) rfl rfl ?_)
    intro a fr
    refine wpList_nil ?_
    refine then_n ?_
    refine cond_f fr rfl rfl ?_
    refine wp_skip ?_
    refine then_n ?_
    refine wp_seq ?_
    refine reg ?_
    refine lst rfl (ow_v fr (rn_move (fr.ev rfl)) rfl rfl ?_)
    intro a fr
    refine lst rfl (ow_v fr (rn_move (fr.ev rfl)) rfl rfl ?_)
    intro a fr
    refine lst rfl (ow_v fr (rn_move (fr.ev rfl)) rfl rfl ?_)
    intro a fr
    have hb3 := u8lt (bs[k]'(by omega))
    obtain ⟨b2, o3, eA, st_⟩ := st.elem 1 rfl k (by omega) (by simp [C8])
    have fr_ := fr
    cases eA
    have st := st_
    have fr := fr_
    clear st_ fr_
    replace st : St _ [] w [ro b2 (o3 + k * 1) [.int .u8 ((bs[k].toNat : Nat))], .blk b1 [.int .i64 0, .int .i64 0, .int .i64 0, .int .i64 0] 29, els C8 1 (some ⟨b2, o3, none⟩) bs] := st
    refine lst rfl (ow_v fr (rn_at (i := k) (fr.ev rfl) (fr.ev rfl) Try.underlying22 sz_5 (by omega) (by rfl)) rfl rfl ?_)
    intro a fr
    refine lst rfl (ow_v fr (rn_load (fr.ev rfl) Try.underlying5 rfl (st.rocell 0 rfl (j := 0) rfl)) rfl rfl ?_)
    intro a fr
    refine lst rfl (ow_v fr (rn_conv (c := (bs[k].toNat : Nat)) (fr.ev rfl) (by kernel_rfl) Try.underlying3 (wr_i64 _ (by omega) (by omega))) rfl rfl ?_)
    intro a fr
    refine lst rfl (ow_v fr (rn_build (cells := #[.int .i64 ((k : Nat)), .int .i64 ((bs[k].toNat : Nat)), .int .i64 0, .int .i64 0]) (by simp only [List.map_toArray, List.map_cons, List.map_nil]; rw [fr.ev (x := .tmp 22) rfl, fr.ev (x := .tmp 27) rfl]; rfl)) rfl rfl ?_)
    intro a fr
    refine lst rfl (ow_alloc fr st rfl zv_29 rfl rfl _ (by rfl) ?_)
    intro a w b4 fr st
    refine lst rfl (ow_stN fr st 0 (vs := [.int .i64 ((k : Nat)), .int .i64 ((bs[k].toNat : Nat)), .int .i64 0, .int .i64 0]) rfl rfl rfl rfl sz_29 rfl (Nat.le_of_ble_eq_true rfl) rfl ?_)
    intro w (st : St _ [] w [.blk b4 [.int .i64 ((k : Nat)), .int .i64 ((bs[k].toNat : Nat)), .int .i64 0, .int .i64 0] 29, ro b2 (o3 + k * 1) [.int .u8 ((bs[k].toNat : Nat))], .blk b1 [.int .i64 0, .int .i64 0, .int .i64 0, .int .i64 0] 29, els C8 1 (some ⟨b2, o3, none⟩) bs])
    refine wpList_nil ?_
    refine then_n ?_
    refine wp_seq ?_
    refine reg ?_
    refine lst rfl (ow_v fr (fa_29_1 (fr.ev rfl)) rfl rfl ?_)
    intro a fr
    refine lst rfl (ow_v fr (rn_load (fr.ev rfl) Try.underlying3 rfl (st.cell 0 rfl rfl)) rfl rfl ?_)
    intro a fr
    refine lst rfl (ow_call fr rfl rfl Try.call20 (rform_t _ h _) rfl rfl ?_)
    rintro e w ⟨rfl, hag⟩
    refine ⟨_, rfl, ?_⟩
    intro a fr
    have st := st.keep hag
    clear hag
    refine lst rfl (ow_v fr (rn_move (fr.ev rfl)) rfl rfl ?_)
    intro a fr
    refine lst rfl (ow_v fr (rn_extract (fr.ev rfl) rfl) rfl rfl ?_)
    intro a fr
    refine lst rfl (ow_v fr (rn_extract (fr.ev rfl) rfl) rfl rfl ?_)
    intro a fr
    refine lst rfl (ow_v fr (rn_assign (fr.ev rfl)) rfl rfl ?_)
    intro a fr
    refine lst rfl (ow_v fr (rn_assign (fr.ev rfl)) rfl rfl ?_)
    intro a fr
    refine wpList_nil ?_
    refine then_n ?_
    refine wp_seq ?_
    refine wp_seq ?_
    refine reg ?_
    refine lst rfl (ow_v fr (rn_move (fr.ev rfl)) rfl rfl ?_)
    intro a fr
    refine lst rfl (ow_v fr (rn_not (fr.ev rfl)) rfl rfl ?_)
    intro a fr
    refine wpList_nil ?_
    refine then_n ?_
    refine cond_f fr rfl rfl ?_
    refine wp_skip ?_
    refine then_n ?_
    refine wp_seq ?_
    refine reg ?_
    refine lst rfl (ow_v fr (rn_move (fr.ev rfl)) rfl rfl ?_)
    intro a fr
    refine lst rfl (ow_call fr rfl rfl Try.call44 (behind_lit 3 2 (by simp [Rng]) (by decide) _) rfl rfl ?_)
    rintro e w ⟨rfl, hag⟩
    refine ⟨_, rfl, ?_⟩
    intro a fr
    have st := st.keep hag
    clear hag
    refine lst rfl (ow_v fr (rn_assign (fr.ev rfl)) rfl rfl ?_)
    intro a fr
    refine wpList_nil ?_
    refine then_n ?_
    refine wp_seq ?_
    refine wp_seq ?_
    refine reg ?_
    refine lst rfl (ow_v fr (rn_move (fr.ev rfl)) rfl rfl ?_)
    intro a fr
    refine lst rfl (ow_v fr (rn_move (fr.ev rfl)) rfl rfl ?_)
    intro a fr
    refine lst rfl (ow_v fr (rn_len (fr.ev rfl) Try.underlying22) rfl rfl ?_)
    intro a fr
    refine lst rfl (ow_v fr (rn_move (fr.ev rfl)) rfl rfl ?_)
    intro a fr
    refine lst rfl (ow_v fr (rn_sub (a := (bs.length : Nat)) (b := (k : Nat)) (c := (bs.length : Nat) - (k : Nat)) (fr.ev rfl) (fr.ev rfl) (wr_i64e (by omega) (by omega) (by omega))) rfl rfl ?_)
    intro a fr
    refine lst rfl (ow_v fr (rn_sub (a := (bs.length : Nat) - (k : Nat)) (b := 1) (c := (bs.length : Nat) - (k : Nat) - 1) (fr.ev rfl) (fr.ev rfl) (wr_i64e (by omega) (by omega) (by omega))) rfl rfl ?_)
    intro a fr
    refine lst rfl (ow_v fr (rn_as (v' := .bool false) (rn_gtr (fr.ev rfl) (fr.ev rfl)) (congrArg Value.bool (decide_eq_false (by omega)))) rfl rfl ?_)
    intro a fr
    refine wpList_nil ?_
    refine then_n ?_
    refine cond_f fr rfl rfl ?_
    refine wp_skip ?_
    refine then_n ?_
    refine wp_seq ?_
    refine reg ?_
    refine lst rfl (ow_v fr (rn_assign (fr.ev rfl)) rfl rfl ?_)
    intro a fr
    refine lst rfl (ow_v fr (rn_assign (fr.ev rfl)) rfl rfl ?_)
    intro a fr
    refine wpList_nil ?_
    refine then_n ?_
    refine wp_seq ?_
    refine wp_seq ?_
    refine reg ?_
    refine lst rfl (ow_v fr (rn_move (fr.ev rfl)) rfl rfl ?_)
    intro a fr
    refine lst rfl (ow_v fr (rn_as (rn_gtr (fr.ev rfl) (fr.ev rfl)) (by rfl)) rfl rfl ?_)
    intro a fr
    refine wpList_nil ?_
    refine then_n ?_
    refine cond_t fr rfl rfl ?_
    refine reg ?_
    refine lst rfl (ow_v fr (rn_move (fr.ev rfl)) rfl rfl ?_)
    intro a fr
    refine lst rfl (ow_v fr (rn_move (fr.ev rfl)) rfl rfl ?_)
    intro a fr
    refine lst rfl (ow_v fr (rn_add (a := (k : Nat)) (b := 1) (c := ((k + 1 : Nat) : Int)) (fr.ev rfl) (fr.ev rfl) (wr_i64e (by omega) (by omega) (by omega))) rfl rfl ?_)
    intro a fr
    have hb6 := u8lt (bs[k + 1]'(by omega))
    have st := (st.elem 3 rfl (k + 1) (by omega) (by simp [C8]))
    obtain ⟨b_, o_, eA, st_⟩ := st
    have fr_ := fr
    cases eA
    have st := st_
    have fr := fr_
    clear st_ fr_
    replace st : St _ [] w [ro b2 (o3 + (k + 1) * 1) [.int .u8 ((bs[k + 1].toNat : Nat))], .blk b4 [.int .i64 ((k : Nat)), .int .i64 ((bs[k].toNat : Nat)), .int .i64 0, .int .i64 0] 29, ro b2 (o3 + k * 1) [.int .u8 ((bs[k].toNat : Nat))], .blk b1 [.int .i64 0, .int .i64 0, .int .i64 0, .int .i64 0] 29, els C8 1 (some ⟨b2, o3, none⟩) bs] := st
    refine lst rfl (ow_v fr (rn_at (i := k + 1) (fr.ev rfl) (fr.ev rfl) Try.underlying22 sz_5 (by omega) (by rfl)) rfl rfl ?_)
    intro a fr
    refine lst rfl (ow_v fr (rn_load (fr.ev rfl) Try.underlying5 rfl (st.rocell 0 rfl (j := 0) rfl)) rfl rfl ?_)
    intro a fr
    refine lst rfl (ow_v fr (rn_conv (c := (bs[k + 1].toNat : Nat)) (fr.ev rfl) (by kernel_rfl) Try.underlying3 (wr_i64 _ (by omega) (by omega))) rfl rfl ?_)
    intro a fr
    refine lst rfl (ow_v fr (rn_assign (fr.ev rfl)) rfl rfl ?_)
    intro a fr
    refine wpList_nil ?_
    refine then_n ?_
    refine wp_seq ?_
    refine wp_seq ?_
    refine reg ?_
    refine lst rfl (ow_v fr (rn_move (fr.ev rfl)) rfl rfl ?_)
    intro a fr
    refine lst rfl (ow_v fr (rn_as (rn_gtr (fr.ev rfl) (fr.ev rfl)) (by rfl)) rfl rfl ?_)
    intro a fr
    refine wpList_nil ?_
    refine then_n ?_
    refine cond_t fr rfl rfl ?_
    refine reg ?_
    refine lst rfl (ow_v fr (rn_move (fr.ev rfl)) rfl rfl ?_)
    intro a fr
    refine lst rfl (ow_v fr (rn_move (fr.ev rfl)) rfl rfl ?_)
    intro a fr
    refine lst rfl (ow_v fr (rn_add (a := (k : Nat)) (b := 2) (c := ((k + 2 : Nat) : Int)) (fr.ev rfl) (fr.ev rfl) (wr_i64e (by omega) (by omega) (by omega))) rfl rfl ?_)
    intro a fr
    have hb8 := u8lt (bs[k + 2]'(by omega))
    have st := (st.elem 4 rfl (k + 2) (by omega) (by simp [C8]))
    obtain ⟨b_, o_, eA, st_⟩ := st
    have fr_ := fr
    cases eA
    have st := st_
    have fr := fr_
    clear st_ fr_
    replace st : St _ [] w [ro b2 (o3 + (k + 2) * 1) [.int .u8 ((bs[k + 2].toNat : Nat))], ro b2 (o3 + (k + 1) * 1) [.int .u8 ((bs[k + 1].toNat : Nat))], .blk b4 [.int .i64 ((k : Nat)), .int .i64 ((bs[k].toNat : Nat)), .int .i64 0, .int .i64 0] 29, ro b2 (o3 + k * 1) [.int .u8 ((bs[k].toNat : Nat))], .blk b1 [.int .i64 0, .int .i64 0, .int .i64 0, .int .i64 0] 29, els C8 1 (some ⟨b2, o3, none⟩) bs] := st
    refine lst rfl (ow_v fr (rn_at (i := k + 2) (fr.ev rfl) (fr.ev rfl) Try.underlying22 sz_5 (by omega) (by rfl)) rfl rfl ?_)
    intro a fr
    refine lst rfl (ow_v fr (rn_load (fr.ev rfl) Try.underlying5 rfl (st.rocell 0 rfl (j := 0) rfl)) rfl rfl ?_)
    intro a fr
    refine lst rfl (ow_v fr (rn_conv (c := (bs[k + 2].toNat : Nat)) (fr.ev rfl) (by kernel_rfl) Try.underlying3 (wr_i64 _ (by omega) (by omega))) rfl rfl ?_)
    intro a fr
    refine lst rfl (ow_v fr (rn_assign (fr.ev rfl)) rfl rfl ?_)
    intro a fr
    refine wpList_nil ?_
    refine then_n ?_
    refine wp_seq ?_
    refine wp_seq ?_
    refine reg ?_
    refine lst rfl (ow_v fr (rn_move (fr.ev rfl)) rfl rfl ?_)
    intro a fr
    refine wpList_nil ?_
    refine then_n ?_
    refine wp_block ?_
    refine wp_seq ?_
    refine wp_seq ?_
    refine reg ?_
    refine lst rfl (ow_v fr (rn_as (rn_eql (fr.ev rfl) (fr.ev rfl)) (by rfl)) rfl rfl ?_)
    intro a fr
    refine lst rfl (ow_v fr (rn_assign (fr.ev rfl)) rfl rfl ?_)
    intro a fr
    refine wpList_nil ?_
    refine then_n ?_
    refine cond_f fr rfl rfl ?_
    refine wp_seq ?_
    refine reg ?_
    refine lst rfl (ow_v fr (rn_as (rn_eql (fr.ev rfl) (fr.ev rfl)) (by rfl)) rfl rfl ?_)
    intro a fr
    refine lst rfl (ow_v fr (rn_assign (fr.ev rfl)) rfl rfl ?_)
    intro a fr
    refine wpList_nil ?_
    refine then_n ?_
    refine cond_f fr rfl rfl ?_
    refine reg ?_
    refine lst rfl (ow_v fr (rn_as (rn_eql (fr.ev rfl) (fr.ev rfl)) (by rfl)) rfl rfl ?_)
    intro a fr
    refine lst rfl (ow_v fr (rn_assign (fr.ev rfl)) rfl rfl ?_)
    intro a fr
    refine wpList_nil ?_
    refine then_n ?_
    refine cond_f fr rfl rfl ?_
    refine wp_seq ?_
    refine reg ?_
    refine lst rfl (ow_v fr (rn_as (rn_eql (fr.ev rfl) (fr.ev rfl)) (by rfl)) rfl rfl ?_)
    intro a fr
    refine lst rfl (ow_v fr (rn_assign (fr.ev rfl)) rfl rfl ?_)
    intro a fr
    refine wpList_nil ?_
    refine then_n ?_
    refine cond_f fr rfl rfl ?_
    refine wp_seq ?_
    refine reg ?_
    refine lst rfl (ow_v fr (rn_as (rn_eql (fr.ev rfl) (fr.ev rfl)) (by rfl)) rfl rfl ?_)
    intro a fr
    refine lst rfl (ow_v fr (rn_assign (fr.ev rfl)) rfl rfl ?_)
    intro a fr
    refine wpList_nil ?_
    refine then_n ?_
    refine cond_t fr rfl rfl ?_
    refine reg ?_
    refine lst rfl (ow_v fr (rn_move (fr.ev rfl)) rfl rfl ?_)
    intro a fr
    refine lst rfl (ow_v fr (rn_mul (a := 256) (b := (bs[k + 1].toNat : Nat)) (c := ((256 * (bs[k + 1].toNat) : Nat) : Int)) (fr.ev rfl) (fr.ev rfl) (wr_i64e (by omega) (by omega) (by omega))) rfl rfl ?_)
    intro a fr
    refine lst rfl (ow_v fr (rn_move (fr.ev rfl)) rfl rfl ?_)
    intro a fr
    refine lst rfl (ow_v fr (rn_add (a := ((256 * (bs[k + 1].toNat) : Nat) : Int)) (b := (bs[k + 2].toNat : Nat)) (c := ((256 * (bs[k + 1].toNat) + bs[k + 2].toNat : Nat) : Int)) (fr.ev rfl) (fr.ev rfl) (wr_i64e (by omega) (by omega) (by omega))) rfl rfl ?_)
    intro a fr
    refine lst rfl (ow_call fr rfl rfl Try.call45 (signed16 (256 * (bs[k + 1].toNat) + bs[k + 2].toNat) (by omega) _) rfl rfl ?_)
    rintro e w ⟨rfl, hag⟩
    refine ⟨_, rfl, ?_⟩
    intro a fr
    have st := st.keep hag
    clear hag
    refine lst rfl (ow_v fr (fa_29_2 (fr.ev rfl)) rfl rfl ?_)
    intro a fr
    refine lst rfl (ow_st fr st 2 rfl rfl rfl rfl sz_3 rfl rfl rfl ?_)
    intro w (st : St _ [] w [ro b2 (o3 + (k + 2) * 1) [.int .u8 ((bs[k + 2].toNat : Nat))], ro b2 (o3 + (k + 1) * 1) [.int .u8 ((bs[k + 1].toNat : Nat))], .blk b4 [.int .i64 ((k : Nat)), .int .i64 ((bs[k].toNat : Nat)), .int .i64 (sx16 (256 * (bs[k + 1].toNat) + bs[k + 2].toNat)), .int .i64 0] 29, ro b2 (o3 + k * 1) [.int .u8 ((bs[k].toNat : Nat))], .blk b1 [.int .i64 0, .int .i64 0, .int .i64 0, .int .i64 0] 29, els C8 1 (some ⟨b2, o3, none⟩) bs])
    refine wpList_nil ?_
    refine blk_n ?_
    refine then_n ?_
    refine wp_seq ?_
    refine wp_seq ?_
    refine reg ?_
    refine lst rfl (ow_v fr (rn_move (fr.ev rfl)) rfl rfl ?_)
    intro a fr
    refine lst rfl (ow_v fr (rn_as (rn_eql (fr.ev rfl) (fr.ev rfl)) (by rfl)) rfl rfl ?_)
    intro a fr
    refine lst rfl (ow_v fr (rn_move (fr.ev rfl)) rfl rfl ?_)
    intro a fr
    refine lst_n (unwanted_of fr rfl rfl rfl rfl) fr rfl rfl ?_
    intro a fr
    refine lst_n (unwanted_of fr rfl rfl rfl rfl) fr rfl rfl ?_
    intro a fr
    refine lst_n (unwanted_of fr rfl rfl rfl rfl) fr rfl rfl ?_
    intro a fr
    refine lst rfl (ow_v fr (rn_pick_f (fr.ev rfl) (fr.ev rfl)) rfl rfl ?_)
    intro a fr
    refine lst rfl (ow_v fr (rn_move (fr.ev rfl)) rfl rfl ?_)
    intro a fr
    refine lst_n (unwanted_of fr rfl rfl rfl rfl) fr rfl rfl ?_
    intro a fr
    refine lst_n (unwanted_of fr rfl rfl rfl rfl) fr rfl rfl ?_
    intro a fr
    refine lst_n (unwanted_of fr rfl rfl rfl rfl) fr rfl rfl ?_
    intro a fr
    refine lst rfl (ow_v fr (rn_pick_f (fr.ev rfl) (fr.ev rfl)) rfl rfl ?_)
    intro a fr
    refine wpList_nil ?_
    refine then_n ?_
    refine cond_f fr rfl rfl ?_
    refine wp_skip ?_
    refine then_n ?_
    refine wp_seq ?_
    refine reg ?_
    refine lst rfl (ow_v fr (rn_loadN (cs := [.int .i64 ((k : Nat)), .int .i64 ((bs[k].toNat : Nat)), .int .i64 (sx16 (256 * (bs[k + 1].toNat) + bs[k + 2].toNat)), .int .i64 0]) (fr.ev rfl) Try.underlying29 rfl sz_29 (st.blkrange 2 rfl 0 rfl)) rfl rfl ?_)
    intro a fr
    refine lst rfl (ow_v fr (rn_move (fr.ev rfl)) rfl rfl ?_)
    intro a fr
    refine lst rfl (ow_v fr (rn_add (a := (k : Nat)) (b := 1) (c := ((k + 1 : Nat) : Int)) (fr.ev rfl) (fr.ev rfl) (wr_i64e (by omega) (by omega) (by omega))) rfl rfl ?_)
    intro a fr
    refine lst rfl (ow_v fr (rn_move (fr.ev rfl)) rfl rfl ?_)
    intro a fr
    refine lst rfl (ow_v fr (rn_add (a := ((k + 1 : Nat) : Int)) (b := 2) (c := ((k + 1 + 2 : Nat) : Int)) (fr.ev rfl) (fr.ev rfl) (wr_i64e (by omega) (by omega) (by omega))) rfl rfl ?_)
    intro a fr
    refine lst rfl (ow_stN fr st 4 (vs := [.int .i64 ((k : Nat)), .int .i64 ((bs[k].toNat : Nat)), .int .i64 (sx16 (256 * (bs[k + 1].toNat) + bs[k + 2].toNat)), .int .i64 0]) rfl rfl rfl rfl sz_29 rfl (Nat.le_of_ble_eq_true rfl) rfl ?_)
    intro w (st : St _ [] w [ro b2 (o3 + (k + 2) * 1) [.int .u8 ((bs[k + 2].toNat : Nat))], ro b2 (o3 + (k + 1) * 1) [.int .u8 ((bs[k + 1].toNat : Nat))], .blk b4 [.int .i64 ((k : Nat)), .int .i64 ((bs[k].toNat : Nat)), .int .i64 (sx16 (256 * (bs[k + 1].toNat) + bs[k + 2].toNat)), .int .i64 0] 29, ro b2 (o3 + k * 1) [.int .u8 ((bs[k].toNat : Nat))], .blk b1 [.int .i64 ((k : Nat)), .int .i64 ((bs[k].toNat : Nat)), .int .i64 (sx16 (256 * (bs[k + 1].toNat) + bs[k + 2].toNat)), .int .i64 0] 29, els C8 1 (some ⟨b2, o3, none⟩) bs])
    refine lst rfl (ow_v fr (rn_assign (fr.ev rfl)) rfl rfl ?_)
    intro a fr
    refine lst rfl (ow_v fr (rn_assign (fr.ev rfl)) rfl rfl ?_)
    intro a fr
    refine wpList_nil ?_
    refine then_n ?_
    refine wp_ret ?_
    refine ret3 Try.results14 fr (rv_row (cs := [.int .i64 ((k : Nat)), .int .i64 ((bs[k].toNat : Nat)), .int .i64 (sx16 (256 * (bs[k + 1].toNat) + bs[k + 2].toNat)), .int .i64 0]) fr rfl Try.underlying29 rfl (by first | exact sz_29 | simpa using sz_29) (st.blkrange 4 rfl 0 rfl)) (rv_tmp fr rfl) (rv_tmp fr rfl) ?_
    exact ⟨by simp [okA, okB, behF, insC, ub_eq hk, ub_eq hk1, ub_eq hk2, Nat.mul_comm 256], st.agr⟩
  · have hs2 : k + 1 + 1 ≤ bs.length := hs
    have hk1 : k + 1 < bs.length := by omega
    refine enter Try.func14 rfl Try.ntmps14 (by simp) ?_
    intro a fr
    refine wp_seq ?_
    refine reg ?_
    refine lst rfl (ow_alloc fr st rfl zv_29 rfl rfl _ (by rfl) ?_)
    intro a w b1 fr st
    refine lst rfl (ow_v fr (rn_assign (fr.ev rfl)) rfl rfl ?_)
    intro a fr
    refine lst rfl (ow_v fr (rn_assign (fr.ev rfl)) rfl rfl ?_)
    intro a fr
    refine wpList_nil ?_
    refine then_n ?_
    refine wp_seq ?_
    refine wp_seq ?_
    refine reg ?_
    refine lst rfl (ow_v fr (rn_move (fr.ev rfl)) rfl rfl ?_)
    intro a fr
    refine lst rfl (ow_v fr (rn_as (v' := .bool false) (rn_lss (fr.ev rfl) (fr.ev rfl)) (congrArg Value.bool (decide_eq_false (by omega)))) rfl rfl ?_)
    intro a fr
    refine lst rfl (ow_v fr (rn_move (fr.ev rfl)) rfl rfl ?_)
    intro a fr
    refine lst_y (wanted_of fr rfl rfl rfl rfl) (ow_v fr (rn_move (fr.ev rfl)) rfl rfl ?_)
    intro a fr
    refine lst_y (wanted_of fr rfl rfl rfl rfl) (ow_v fr (rn_move (fr.ev rfl)) rfl rfl ?_)
    intro a fr
    refine lst_y (wanted_of fr rfl rfl rfl rfl) (ow_v fr (rn_len (fr.ev rfl) Try.underlying22) rfl rfl ?_)
    intro a fr
    refine lst_y (wanted_of fr rfl rfl rfl rfl) (ow_v fr (rn_as (v' := .bool false) (rn_geq (fr.ev rfl) (fr.ev rfl)) (congrArg Value.bool (decide_eq_false (by omega)))) rfl rfl ?_)
    intro a fr
    refine lst rfl (ow_v fr (rn_pick_f (fr.ev rfl) (fr.ev rfl)) rfl rfl ?_)
    intro a fr
    refine wpList_nil ?_
    refine then_n ?_
    refine cond_f fr rfl rfl ?_
    refine wp_skip ?_
    refine then_n ?_
    refine wp_seq ?_
    refine reg ?_
    refine lst rfl (ow_v fr (rn_move (fr.ev rfl)) rfl rfl ?_)
    intro a fr
    refine lst rfl (ow_v fr (rn_move (fr.ev rfl)) rfl rfl ?_)
    intro a fr
    refine lst rfl (ow_v fr (rn_move (fr.ev rfl)) rfl rfl ?_)
    intro a fr
    have hb3 := u8lt (bs[k]'(by omega))
    obtain ⟨b2, o3, eA, st_⟩ := st.elem 1 rfl k (by omega) (by simp [C8])
    have fr_ := fr
    cases eA
    have st := st_
    have fr := fr_
    clear st_ fr_
    replace st : St _ [] w [ro b2 (o3 + k * 1) [.int .u8 ((bs[k].toNat : Nat))], .blk b1 [.int .i64 0, .int .i64 0, .int .i64 0, .int .i64 0] 29, els C8 1 (some ⟨b2, o3, none⟩) bs] := st
    refine lst rfl (ow_v fr (rn_at (i := k) (fr.ev rfl) (fr.ev rfl) Try.underlying22 sz_5 (by omega) (by rfl)) rfl rfl ?_)
    intro a fr
    refine lst rfl (ow_v fr (rn_load (fr.ev rfl) Try.underlying5 rfl (st.rocell 0 rfl (j := 0) rfl)) rfl rfl ?_)
    intro a fr
    refine lst rfl (ow_v fr (rn_conv (c := (bs[k].toNat : Nat)) (fr.ev rfl) (by kernel_rfl) Try.underlying3 (wr_i64 _ (by omega) (by omega))) rfl rfl ?_)
    intro a fr
    refine lst rfl (ow_v fr (rn_build (cells := #[.int .i64 ((k : Nat)), .int .i64 ((bs[k].toNat : Nat)), .int .i64 0, .int .i64 0]) (by simp only [List.map_toArray, List.map_cons, List.map_nil]; rw [fr.ev (x := .tmp 22) rfl, fr.ev (x := .tmp 27) rfl]; rfl)) rfl rfl ?_)
    intro a fr
    refine lst rfl (ow_alloc fr st rfl zv_29 rfl rfl _ (by rfl) ?_)
    intro a w b4 fr st
    refine lst rfl (ow_stN fr st 0 (vs := [.int .i64 ((k : Nat)), .int .i64 ((bs[k].toNat : Nat)), .int .i64 0, .int .i64 0]) rfl rfl rfl rfl sz_29 rfl (Nat.le_of_ble_eq_true rfl) rfl ?_)
    intro w (st : St _ [] w [.blk b4 [.int .i64 ((k : Nat)), .int .i64 ((bs[k].toNat : Nat)), .int .i64 0, .int .i64 0] 29, ro b2 (o3 + k * 1) [.int .u8 ((bs[k].toNat : Nat))], .blk b1 [.int .i64 0, .int .i64 0, .int .i64 0, .int .i64 0] 29, els C8 1 (some ⟨b2, o3, none⟩) bs])
    refine wpList_nil ?_
    refine then_n ?_
    refine wp_seq ?_
    refine reg ?_
    refine lst rfl (ow_v fr (fa_29_1 (fr.ev rfl)) rfl rfl ?_)
    intro a fr
    refine lst rfl (ow_v fr (rn_load (fr.ev rfl) Try.underlying3 rfl (st.cell 0 rfl rfl)) rfl rfl ?_)
    intro a fr
    refine lst rfl (ow_call fr rfl rfl Try.call20 (rform_t _ h _) rfl rfl ?_)
    rintro e w ⟨rfl, hag⟩
    refine ⟨_, rfl, ?_⟩
    intro a fr
    have st := st.keep hag
    clear hag
    refine lst rfl (ow_v fr (rn_move (fr.ev rfl)) rfl rfl ?_)
    intro a fr
    refine lst rfl (ow_v fr (rn_extract (fr.ev rfl) rfl) rfl rfl ?_)
    intro a fr
    refine lst rfl (ow_v fr (rn_extract (fr.ev rfl) rfl) rfl rfl ?_)
    intro a fr
    refine lst rfl (ow_v fr (rn_assign (fr.ev rfl)) rfl rfl ?_)
    intro a fr
    refine lst rfl (ow_v fr (rn_assign (fr.ev rfl)) rfl rfl ?_)
    intro a fr
    refine wpList_nil ?_
    refine then_n ?_
    refine wp_seq ?_
    refine wp_seq ?_
    refine reg ?_
    refine lst rfl (ow_v fr (rn_move (fr.ev rfl)) rfl rfl ?_)
    intro a fr
    refine lst rfl (ow_v fr (rn_not (fr.ev rfl)) rfl rfl ?_)
    intro a fr
    refine wpList_nil ?_
    refine then_n ?_
    refine cond_f fr rfl rfl ?_
    refine wp_skip ?_
    refine then_n ?_
    refine wp_seq ?_
    refine reg ?_
    refine lst rfl (ow_v fr (rn_move (fr.ev rfl)) rfl rfl ?_)
    intro a fr
    refine lst rfl (ow_call fr rfl rfl Try.call44 (behind_lit 4 1 (by simp [Rng]) (by decide) _) rfl rfl ?_)
    rintro e w ⟨rfl, hag⟩
    refine ⟨_, rfl, ?_⟩
    intro a fr
    have st := st.keep hag
    clear hag
    refine lst rfl (ow_v fr (rn_assign (fr.ev rfl)) rfl rfl ?_)
    intro a fr
    refine wpList_nil ?_
    refine then_n ?_
    refine wp_seq ?_
    refine wp_seq ?_
    refine reg ?_
    refine lst rfl (ow_v fr (rn_move (fr.ev rfl)) rfl rfl ?_)
    intro a fr
    refine lst rfl (ow_v fr (rn_move (fr.ev rfl)) rfl rfl ?_)
    intro a fr
    refine lst rfl (ow_v fr (rn_len (fr.ev rfl) Try.underlying22) rfl rfl ?_)
    intro a fr
    refine lst rfl (ow_v fr (rn_move (fr.ev rfl)) rfl rfl ?_)
    intro a fr
    refine lst rfl (ow_v fr (rn_sub (a := (bs.length : Nat)) (b := (k : Nat)) (c := (bs.length : Nat) - (k : Nat)) (fr.ev rfl) (fr.ev rfl) (wr_i64e (by omega) (by omega) (by omega))) rfl rfl ?_)
    intro a fr
    refine lst rfl (ow_v fr (rn_sub (a := (bs.length : Nat) - (k : Nat)) (b := 1) (c := (bs.length : Nat) - (k : Nat) - 1) (fr.ev rfl) (fr.ev rfl) (wr_i64e (by omega) (by omega) (by omega))) rfl rfl ?_)
    intro a fr
    refine lst rfl (ow_v fr (rn_as (v' := .bool false) (rn_gtr (fr.ev rfl) (fr.ev rfl)) (congrArg Value.bool (decide_eq_false (by omega)))) rfl rfl ?_)
    intro a fr
    refine wpList_nil ?_
    refine then_n ?_
    refine cond_f fr rfl rfl ?_
    refine wp_skip ?_
    refine then_n ?_
    refine wp_seq ?_
    refine reg ?_
    refine lst rfl (ow_v fr (rn_assign (fr.ev rfl)) rfl rfl ?_)
    intro a fr
    refine lst rfl (ow_v fr (rn_assign (fr.ev rfl)) rfl rfl ?_)
    intro a fr
    refine wpList_nil ?_
    refine then_n ?_
    refine wp_seq ?_
    refine wp_seq ?_
    refine reg ?_
    refine lst rfl (ow_v fr (rn_move (fr.ev rfl)) rfl rfl ?_)
    intro a fr
    refine lst rfl (ow_v fr (rn_as (rn_gtr (fr.ev rfl) (fr.ev rfl)) (by rfl)) rfl rfl ?_)
    intro a fr
    refine wpList_nil ?_
    refine then_n ?_
    refine cond_t fr rfl rfl ?_
    refine reg ?_
    refine lst rfl (ow_v fr (rn_move (fr.ev rfl)) rfl rfl ?_)
    intro a fr
    refine lst rfl (ow_v fr (rn_move (fr.ev rfl)) rfl rfl ?_)
    intro a fr
    refine lst rfl (ow_v fr (rn_add (a := (k : Nat)) (b := 1) (c := ((k + 1 : Nat) : Int)) (fr.ev rfl) (fr.ev rfl) (wr_i64e (by omega) (by omega) (by omega))) rfl rfl ?_)
    intro a fr
    have hb6 := u8lt (bs[k + 1]'(by omega))
    have st := (st.elem 3 rfl (k + 1) (by omega) (by simp [C8]))
    obtain ⟨b_, o_, eA, st_⟩ := st
    have fr_ := fr
    cases eA
    have st := st_
    have fr := fr_
    clear st_ fr_
    replace st : St _ [] w [ro b2 (o3 + (k + 1) * 1) [.int .u8 ((bs[k + 1].toNat : Nat))], .blk b4 [.int .i64 ((k : Nat)), .int .i64 ((bs[k].toNat : Nat)), .int .i64 0, .int .i64 0] 29, ro b2 (o3 + k * 1) [.int .u8 ((bs[k].toNat : Nat))], .blk b1 [.int .i64 0, .int .i64 0, .int .i64 0, .int .i64 0] 29, els C8 1 (some ⟨b2, o3, none⟩) bs] := st
    refine lst rfl (ow_v fr (rn_at (i := k + 1) (fr.ev rfl) (fr.ev rfl) Try.underlying22 sz_5 (by omega) (by rfl)) rfl rfl ?_)
    intro a fr
    refine lst rfl (ow_v fr (rn_load (fr.ev rfl) Try.underlying5 rfl (st.rocell 0 rfl (j := 0) rfl)) rfl rfl ?_)
    intro a fr
    refine lst rfl (ow_v fr (rn_conv (c := (bs[k + 1].toNat : Nat)) (fr.ev rfl) (by kernel_rfl) Try.underlying3 (wr_i64 _ (by omega) (by omega))) rfl rfl ?_)
    intro a fr
    refine lst rfl (ow_v fr (rn_assign (fr.ev rfl)) rfl rfl ?_)
    intro a fr
    refine wpList_nil ?_
    refine then_n ?_
    refine wp_seq ?_
    refine wp_seq ?_
    refine reg ?_
    refine lst rfl (ow_v fr (rn_move (fr.ev rfl)) rfl rfl ?_)
    intro a fr
    refine lst rfl (ow_v fr (rn_as (rn_gtr (fr.ev rfl) (fr.ev rfl)) (by rfl)) rfl rfl ?_)
    intro a fr
    refine wpList_nil ?_
    refine then_n ?_
    refine cond_f fr rfl rfl ?_
    refine wp_skip ?_
    refine then_n ?_
    refine wp_seq ?_
    refine wp_seq ?_
    refine reg ?_
    refine lst rfl (ow_v fr (rn_move (fr.ev rfl)) rfl rfl ?_)
    intro a fr
    refine wpList_nil ?_
    refine then_n ?_
    refine wp_block ?_
    refine wp_seq ?_
    refine wp_seq ?_
    refine reg ?_
    refine lst rfl (ow_v fr (rn_as (rn_eql (fr.ev rfl) (fr.ev rfl)) (by rfl)) rfl rfl ?_)
    intro a fr
    refine lst rfl (ow_v fr (rn_assign (fr.ev rfl)) rfl rfl ?_)
    intro a fr
    refine wpList_nil ?_
    refine then_n ?_
    refine cond_f fr rfl rfl ?_
    refine wp_seq ?_
    refine reg ?_
    refine lst rfl (ow_v fr (rn_as (rn_eql (fr.ev rfl) (fr.ev rfl)) (by rfl)) rfl rfl ?_)
    intro a fr
    refine lst rfl (ow_v fr (rn_assign (fr.ev rfl)) rfl rfl ?_)
    intro a fr
    refine wpList_nil ?_
    refine then_n ?_
    refine cond_t fr rfl rfl ?_
    refine wp_skip ?_
    refine then_n ?_
    refine cond_t fr rfl rfl ?_
    refine reg ?_
    refine lst rfl (ow_v fr (rn_move (fr.ev rfl)) rfl rfl ?_)
    intro a fr
    refine lst rfl (ow_v fr (fa_29_2 (fr.ev rfl)) rfl rfl ?_)
    intro a fr
    refine lst rfl (ow_st fr st 1 rfl rfl rfl rfl sz_3 rfl rfl rfl ?_)
    intro w (st : St _ [] w [ro b2 (o3 + (k + 1) * 1) [.int .u8 ((bs[k + 1].toNat : Nat))], .blk b4 [.int .i64 ((k : Nat)), .int .i64 ((bs[k].toNat : Nat)), .int .i64 ((bs[k + 1].toNat : Nat)), .int .i64 0] 29, ro b2 (o3 + k * 1) [.int .u8 ((bs[k].toNat : Nat))], .blk b1 [.int .i64 0, .int .i64 0, .int .i64 0, .int .i64 0] 29, els C8 1 (some ⟨b2, o3, none⟩) bs])
    refine wpList_nil ?_
    refine blk_n ?_
    refine then_n ?_
    refine wp_seq ?_
    refine wp_seq ?_
    refine reg ?_
    refine lst rfl (ow_v fr (rn_move (fr.ev rfl)) rfl rfl ?_)
    intro a fr
    refine lst rfl (ow_v fr (rn_as (rn_eql (fr.ev rfl) (fr.ev rfl)) (by rfl)) rfl rfl ?_)
    intro a fr
    refine lst rfl (ow_v fr (rn_move (fr.ev rfl)) rfl rfl ?_)
    intro a fr
    refine lst_n (unwanted_of fr rfl rfl rfl rfl) fr rfl rfl ?_
    intro a fr
    refine lst_n (unwanted_of fr rfl rfl rfl rfl) fr rfl rfl ?_
    intro a fr
    refine lst_n (unwanted_of fr rfl rfl rfl rfl) fr rfl rfl ?_
    intro a fr
    refine lst rfl (ow_v fr (rn_pick_f (fr.ev rfl) (fr.ev rfl)) rfl rfl ?_)
    intro a fr
    refine lst rfl (ow_v fr (rn_move (fr.ev rfl)) rfl rfl ?_)
    intro a fr
    refine lst_n (unwanted_of fr rfl rfl rfl rfl) fr rfl rfl ?_
    intro a fr
    refine lst_n (unwanted_of fr rfl rfl rfl rfl) fr rfl rfl ?_
    intro a fr
    refine lst_n (unwanted_of fr rfl rfl rfl rfl) fr rfl rfl ?_
    intro a fr
    refine lst rfl (ow_v fr (rn_pick_f (fr.ev rfl) (fr.ev rfl)) rfl rfl ?_)
    intro a fr
    refine wpList_nil ?_
    refine then_n ?_
    refine cond_f fr rfl rfl ?_
    refine wp_skip ?_
    refine then_n ?_
    refine wp_seq ?_
    refine reg ?_
    refine lst rfl (ow_v fr (rn_loadN (cs := [.int .i64 ((k : Nat)), .int .i64 ((bs[k].toNat : Nat)), .int .i64 ((bs[k + 1].toNat : Nat)), .int .i64 0]) (fr.ev rfl) Try.underlying29 rfl sz_29 (st.blkrange 1 rfl 0 rfl)) rfl rfl ?_)
    intro a fr
    refine lst rfl (ow_v fr (rn_move (fr.ev rfl)) rfl rfl ?_)
    intro a fr
    refine lst rfl (ow_v fr (rn_add (a := (k : Nat)) (b := 1) (c := ((k + 1 : Nat) : Int)) (fr.ev rfl) (fr.ev rfl) (wr_i64e (by omega) (by omega) (by omega))) rfl rfl ?_)
    intro a fr
    refine lst rfl (ow_v fr (rn_move (fr.ev rfl)) rfl rfl ?_)
    intro a fr
    refine lst rfl (ow_v fr (rn_add (a := ((k + 1 : Nat) : Int)) (b := 1) (c := ((k + 1 + 1 : Nat) : Int)) (fr.ev rfl) (fr.ev rfl) (wr_i64e (by omega) (by omega) (by omega))) rfl rfl ?_)
    intro a fr
    refine lst rfl (ow_stN fr st 3 (vs := [.int .i64 ((k : Nat)), .int .i64 ((bs[k].toNat : Nat)), .int .i64 ((bs[k + 1].toNat : Nat)), .int .i64 0]) rfl rfl rfl rfl sz_29 rfl (Nat.le_of_ble_eq_true rfl) rfl ?_)
    intro w (st : St _ [] w [ro b2 (o3 + (k + 1) * 1) [.int .u8 ((bs[k + 1].toNat : Nat))], .blk b4 [.int .i64 ((k : Nat)), .int .i64 ((bs[k].toNat : Nat)), .int .i64 ((bs[k + 1].toNat : Nat)), .int .i64 0] 29, ro b2 (o3 + k * 1) [.int .u8 ((bs[k].toNat : Nat))], .blk b1 [.int .i64 ((k : Nat)), .int .i64 ((bs[k].toNat : Nat)), .int .i64 ((bs[k + 1].toNat : Nat)), .int .i64 0] 29, els C8 1 (some ⟨b2, o3, none⟩) bs])
    refine lst rfl (ow_v fr (rn_assign (fr.ev rfl)) rfl rfl ?_)
    intro a fr
    refine lst rfl (ow_v fr (rn_assign (fr.ev rfl)) rfl rfl ?_)
    intro a fr
    refine wpList_nil ?_
    refine then_n ?_
    refine wp_ret ?_
    refine ret3 Try.results14 fr (rv_row (cs := [.int .i64 ((k : Nat)), .int .i64 ((bs[k].toNat : Nat)), .int .i64 ((bs[k + 1].toNat : Nat)), .int .i64 0]) fr rfl Try.underlying29 rfl (by first | exact sz_29 | simpa using sz_29) (st.blkrange 3 rfl 0 rfl)) (rv_tmp fr rfl) (rv_tmp fr rfl) ?_
    exact ⟨by simp [okA, okB, behF, insC, ub_eq hk, ub_eq hk1, Nat.mul_comm 256], st.agr⟩
  · have hs2 : k + 1 + 2 ≤ bs.length := hs
    have hk1 : k + 1 < bs.length := by omega
    have hk2 : k + 2 < bs.length := by omega
    refine enter Try.func14 rfl Try.ntmps14 (by simp) ?_
    intro a fr
    refine wp_seq ?_
    refine reg ?_
    refine lst rfl (ow_alloc fr st rfl zv_29 rfl rfl _ (by rfl) ?_)
    intro a w b1 fr st
    refine lst rfl (ow_v fr (rn_assign (fr.ev rfl)) rfl rfl ?_)
    intro a fr
    refine lst rfl (ow_v fr (rn_assign (fr.ev rfl)) rfl rfl ?_)
    intro a fr
    refine wpList_nil ?_
    refine then_n ?_
    refine wp_seq ?_
    refine wp_seq ?_
    refine reg ?_
    refine lst rfl (ow_v fr (rn_move (fr.ev rfl)) rfl rfl ?_)
    intro a fr
    refine lst rfl (ow_v fr (rn_as (v' := .bool false) (rn_lss (fr.ev rfl) (fr.ev rfl)) (congrArg Value.bool (decide_eq_false (by omega)))) rfl rfl ?_)
    intro a fr
    refine lst rfl (ow_v fr (rn_move (fr.ev rfl)) rfl rfl ?_)
    intro a fr
    refine lst_y (wanted_of fr rfl rfl rfl rfl) (ow_v fr (rn_move (fr.ev rfl)) rfl rfl ?_)
    intro a fr
    refine lst_y (wanted_of fr rfl rfl rfl rfl) (ow_v fr (rn_move (fr.ev rfl)) rfl rfl ?_)
    intro a fr
    refine lst_y (wanted_of fr rfl rfl rfl rfl) (ow_v fr (rn_len (fr.ev rfl) Try.underlying22) rfl rfl ?_)
    intro a fr
    refine lst_y (wanted_of fr rfl rfl rfl rfl) (ow_v fr (rn_as (v' := .bool false) (rn_geq (fr.ev rfl) (fr.ev rfl)) (congrArg Value.bool (decide_eq_false (by omega)))) rfl rfl ?_)
    intro a fr
    refine lst rfl (ow_v fr (rn_pick_f (fr.ev rfl) (fr.ev rfl)) rfl rfl ?_)
    intro a fr
    refine wpList_nil ?_
    refine then_n ?_
    refine cond_f fr rfl rfl ?_
    refine wp_skip ?_
    refine then_n ?_
    refine wp_seq ?_
    refine reg ?_
    refine lst rfl (ow_v fr (rn_move (fr.ev rfl)) rfl rfl ?_)
    intro a fr
    refine lst rfl (ow_v fr (rn_move (fr.ev rfl)) rfl rfl ?_)
    intro a fr
    refine lst rfl (ow_v fr (rn_move (fr.ev rfl)) rfl rfl ?_)
    intro a fr
    have hb3 := u8lt (bs[k]'(by omega))
    obtain ⟨b2, o3, eA, st_⟩ := st.elem 1 rfl k (by omega) (by simp [C8])
    have fr_ := fr
    cases eA
    have st := st_
    have fr := fr_
    clear st_ fr_
    replace st : St _ [] w [ro b2 (o3 + k * 1) [.int .u8 ((bs[k].toNat : Nat))], .blk b1 [.int .i64 0, .int .i64 0, .int .i64 0, .int .i64 0] 29, els C8 1 (some ⟨b2, o3, none⟩) bs] := st
    refine lst rfl (ow_v fr (rn_at (i := k) (fr.ev rfl) (fr.ev rfl) Try.underlying22 sz_5 (by omega) (by rfl)) rfl rfl ?_)
    intro a fr
    refine lst rfl (ow_v fr (rn_load (fr.ev rfl) Try.underlying5 rfl (st.rocell 0 rfl (j := 0) rfl)) rfl rfl ?_)
    intro a fr
    refine lst rfl (ow_v fr (rn_conv (c := (bs[k].toNat : Nat)) (fr.ev rfl) (by kernel_rfl) Try.underlying3 (wr_i64 _ (by omega) (by omega))) rfl rfl ?_)
    intro a fr
    refine lst rfl (ow_v fr (rn_build (cells := #[.int .i64 ((k : Nat)), .int .i64 ((bs[k].toNat : Nat)), .int .i64 0, .int .i64 0]) (by simp only [List.map_toArray, List.map_cons, List.map_nil]; rw [fr.ev (x := .tmp 22) rfl, fr.ev (x := .tmp 27) rfl]; rfl)) rfl rfl ?_)
    intro a fr
    refine lst rfl (ow_alloc fr st rfl zv_29 rfl rfl _ (by rfl) ?_)
    intro a w b4 fr st
    refine lst rfl (ow_stN fr st 0 (vs := [.int .i64 ((k : Nat)), .int .i64 ((bs[k].toNat : Nat)), .int .i64 0, .int .i64 0]) rfl rfl rfl rfl sz_29 rfl (Nat.le_of_ble_eq_true rfl) rfl ?_)
    intro w (st : St _ [] w [.blk b4 [.int .i64 ((k : Nat)), .int .i64 ((bs[k].toNat : Nat)), .int .i64 0, .int .i64 0] 29, ro b2 (o3 + k * 1) [.int .u8 ((bs[k].toNat : Nat))], .blk b1 [.int .i64 0, .int .i64 0, .int .i64 0, .int .i64 0] 29, els C8 1 (some ⟨b2, o3, none⟩) bs])
    refine wpList_nil ?_
    refine then_n ?_
    refine wp_seq ?_
    refine reg ?_
    refine lst rfl (ow_v fr (fa_29_1 (fr.ev rfl)) rfl rfl ?_)
    intro a fr
    refine lst rfl (ow_v fr (rn_load (fr.ev rfl) Try.underlying3 rfl (st.cell 0 rfl rfl)) rfl rfl ?_)
    intro a fr
    refine lst rfl (ow_call fr rfl rfl Try.call20 (rform_t _ h _) rfl rfl ?_)
    rintro e w ⟨rfl, hag⟩
    refine ⟨_, rfl, ?_⟩
    intro a fr
    have st := st.keep hag
    clear hag
    refine lst rfl (ow_v fr (rn_move (fr.ev rfl)) rfl rfl ?_)
    intro a fr
    refine lst rfl (ow_v fr (rn_extract (fr.ev rfl) rfl) rfl rfl ?_)
    intro a fr
    refine lst rfl (ow_v fr (rn_extract (fr.ev rfl) rfl) rfl rfl ?_)
    intro a fr
    refine lst rfl (ow_v fr (rn_assign (fr.ev rfl)) rfl rfl ?_)
    intro a fr
    refine lst rfl (ow_v fr (rn_assign (fr.ev rfl)) rfl rfl ?_)
    intro a fr
    refine wpList_nil ?_
    refine then_n ?_
    refine wp_seq ?_
    refine wp_seq ?_
    refine reg ?_
    refine lst rfl (ow_v fr (rn_move (fr.ev rfl)) rfl rfl ?_)
    intro a fr
    refine lst rfl (ow_v fr (rn_not (fr.ev rfl)) rfl rfl ?_)
    intro a fr
    refine wpList_nil ?_
    refine then_n ?_
    refine cond_f fr rfl rfl ?_
    refine wp_skip ?_
    refine then_n ?_
    refine wp_seq ?_
    refine reg ?_
    refine lst rfl (ow_v fr (rn_move (fr.ev rfl)) rfl rfl ?_)
    intro a fr
    refine lst rfl (ow_call fr rfl rfl Try.call44 (behind_lit 5 2 (by simp [Rng]) (by decide) _) rfl rfl ?_)
    rintro e w ⟨rfl, hag⟩
    refine ⟨_, rfl, ?_⟩
    intro a fr
    have st := st.keep hag
    clear hag
    refine lst rfl (ow_v fr (rn_assign (fr.ev rfl)) rfl rfl ?_)
    intro a fr
    refine wpList_nil ?_
    refine then_n ?_
    refine wp_seq ?_
    refine wp_seq ?_
    refine reg ?_
    refine lst rfl (ow_v fr (rn_move (fr.ev rfl)) rfl rfl ?_)
    intro a fr
    refine lst rfl (ow_v fr (rn_move (fr.ev rfl)) rfl rfl ?_)
    intro a fr
    refine lst rfl (ow_v fr (rn_len (fr.ev rfl) Try.underlying22) rfl rfl ?_)
    intro a fr
    refine lst rfl (ow_v fr (rn_move (fr.ev rfl)) rfl rfl ?_)
    intro a fr
    refine lst rfl (ow_v fr (rn_sub (a := (bs.length : Nat)) (b := (k : Nat)) (c := (bs.length : Nat) - (k : Nat)) (fr.ev rfl) (fr.ev rfl) (wr_i64e (by omega) (by omega) (by omega))) rfl rfl ?_)
    intro a fr
    refine lst rfl (ow_v fr (rn_sub (a := (bs.length : Nat) - (k : Nat)) (b := 1) (c := (bs.length : Nat) - (k : Nat) - 1) (fr.ev rfl) (fr.ev rfl) (wr_i64e (by omega) (by omega) (by omega))) rfl rfl ?_)
    intro a fr
    refine lst rfl (ow_v fr (rn_as (v' := .bool false) (rn_gtr (fr.ev rfl) (fr.ev rfl)) (congrArg Value.bool (decide_eq_false (by omega)))) rfl rfl ?_)
    intro a fr
    refine wpList_nil ?_
    refine then_n ?_
    refine cond_f fr rfl rfl ?_
    refine wp_skip ?_
    refine then_n ?_
    refine wp_seq ?_
    refine reg ?_
    refine lst rfl (ow_v fr (rn_assign (fr.ev rfl)) rfl rfl ?_)
    intro a fr
    refine lst rfl (ow_v fr (rn_assign (fr.ev rfl)) rfl rfl ?_)
    intro a fr
    refine wpList_nil ?_
    refine then_n ?_
    refine wp_seq ?_
    refine wp_seq ?_
    refine reg ?_
    refine lst rfl (ow_v fr (rn_move (fr.ev rfl)) rfl rfl ?_)
    intro a fr
    refine lst rfl (ow_v fr (rn_as (rn_gtr (fr.ev rfl) (fr.ev rfl)) (by rfl)) rfl rfl ?_)
    intro a fr
    refine wpList_nil ?_
    refine then_n ?_
    refine cond_t fr rfl rfl ?_
    refine reg ?_
    refine lst rfl (ow_v fr (rn_move (fr.ev rfl)) rfl rfl ?_)
    intro a fr
    refine lst rfl (ow_v fr (rn_move (fr.ev rfl)) rfl rfl ?_)
    intro a fr
    refine lst rfl (ow_v fr (rn_add (a := (k : Nat)) (b := 1) (c := ((k + 1 : Nat) : Int)) (fr.ev rfl) (fr.ev rfl) (wr_i64e (by omega) (by omega) (by omega))) rfl rfl ?_)
    intro a fr
    have hb6 := u8lt (bs[k + 1]'(by omega))
    have st := (st.elem 3 rfl (k + 1) (by omega) (by simp [C8]))
    obtain ⟨b_, o_, eA, st_⟩ := st
    have fr_ := fr
    cases eA
    have st := st_
    have fr := fr_
    clear st_ fr_
    replace st : St _ [] w [ro b2 (o3 + (k + 1) * 1) [.int .u8 ((bs[k + 1].toNat : Nat))], .blk b4 [.int .i64 ((k : Nat)), .int .i64 ((bs[k].toNat : Nat)), .int .i64 0, .int .i64 0] 29, ro b2 (o3 + k * 1) [.int .u8 ((bs[k].toNat : Nat))], .blk b1 [.int .i64 0, .int .i64 0, .int .i64 0, .int .i64 0] 29, els C8 1 (some ⟨b2, o3, none⟩) bs] := st
    refine lst rfl (ow_v fr (rn_at (i := k + 1) (fr.ev rfl) (fr.ev rfl) Try.underlying22 sz_5 (by omega) (by rfl)) rfl rfl ?_)
    intro a fr
    refine lst rfl (ow_v fr (rn_load (fr.ev rfl) Try.underlying5 rfl (st.rocell 0 rfl (j := 0) rfl)) rfl rfl ?_)
    intro a fr
    refine lst rfl (ow_v fr (rn_conv (c := (bs[k + 1].toNat : Nat)) (fr.ev rfl) (by kernel_rfl) Try.underlying3 (wr_i64 _ (by omega) (by omega))) rfl rfl ?_)
    intro a fr
    refine lst rfl (ow_v fr (rn_assign (fr.ev rfl)) rfl rfl ?_)
    intro a fr
    refine wpList_nil ?_
    refine then_n ?_
    refine wp_seq ?_
    refine wp_seq ?_
    refine reg ?_
    refine lst rfl (ow_v fr (rn_move (fr.ev rfl)) rfl rfl ?_)
    intro a fr
    refine lst rfl (ow_v fr (rn_as (rn_gtr (fr.ev rfl) (fr.ev rfl)) (by rfl)) rfl rfl ?_)
    intro a fr
    refine wpList_nil ?_
    refine then_n ?_
    refine cond_t fr rfl rfl ?_
    refine reg ?_
    refine lst rfl (ow_v fr (rn_move (fr.ev rfl)) rfl rfl ?_)
    intro a fr
    refine lst rfl (ow_v fr (rn_move (fr.ev rfl)) rfl rfl ?_)
    intro a fr
    refine lst rfl (ow_v fr (rn_add (a := (k : Nat)) (b := 2) (c := ((k + 2 : Nat) : Int)) (fr.ev rfl) (fr.ev rfl) (wr_i64e (by omega) (by omega) (by omega))) rfl rfl ?_)
    intro a fr
    have hb8 := u8lt (bs[k + 2]'(by omega))
    have st := (st.elem 4 rfl (k + 2) (by omega) (by simp [C8]))
    obtain ⟨b_, o_, eA, st_⟩ := st
    have fr_ := fr
    cases eA
    have st := st_
    have fr := fr_
    clear st_ fr_
    replace st : St _ [] w [ro b2 (o3 + (k + 2) * 1) [.int .u8 ((bs[k + 2].toNat : Nat))], ro b2 (o3 + (k + 1) * 1) [.int .u8 ((bs[k + 1].toNat : Nat))], .blk b4 [.int .i64 ((k : Nat)), .int .i64 ((bs[k].toNat : Nat)), .int .i64 0, .int .i64 0] 29, ro b2 (o3 + k * 1) [.int .u8 ((bs[k].toNat : Nat))], .blk b1 [.int .i64 0, .int .i64 0, .int .i64 0, .int .i64 0] 29, els C8 1 (some ⟨b2, o3, none⟩) bs] := st
    refine lst rfl (ow_v fr (rn_at (i := k + 2) (fr.ev rfl) (fr.ev rfl) Try.underlying22 sz_5 (by omega) (by rfl)) rfl rfl ?_)
    intro a fr
    refine lst rfl (ow_v fr (rn_load (fr.ev rfl) Try.underlying5 rfl (st.rocell 0 rfl (j := 0) rfl)) rfl rfl ?_)
    intro a fr
    refine lst rfl (ow_v fr (rn_conv (c := (bs[k + 2].toNat : Nat)) (fr.ev rfl) (by kernel_rfl) Try.underlying3 (wr_i64 _ (by omega) (by omega))) rfl rfl ?_)
    intro a fr
    refine lst rfl (ow_v fr (rn_assign (fr.ev rfl)) rfl rfl ?_)
    intro a fr
    refine wpList_nil ?_
    refine then_n ?_
    refine wp_seq ?_
    refine wp_seq ?_
    refine reg ?_
    refine lst rfl (ow_v fr (rn_move (fr.ev rfl)) rfl rfl ?_)
    intro a fr
    refine wpList_nil ?_
    refine then_n ?_
    refine wp_block ?_
    refine wp_seq ?_
    refine wp_seq ?_
    refine reg ?_
    refine lst rfl (ow_v fr (rn_as (rn_eql (fr.ev rfl) (fr.ev rfl)) (by rfl)) rfl rfl ?_)
    intro a fr
    refine lst rfl (ow_v fr (rn_assign (fr.ev rfl)) rfl rfl ?_)
    intro a fr
    refine wpList_nil ?_
    refine then_n ?_
    refine cond_f fr rfl rfl ?_
    refine wp_seq ?_
    refine reg ?_
    refine lst rfl (ow_v fr (rn_as (rn_eql (fr.ev rfl) (fr.ev rfl)) (by rfl)) rfl rfl ?_)
    intro a fr
    refine lst rfl (ow_v fr (rn_assign (fr.ev rfl)) rfl rfl ?_)
    intro a fr
    refine wpList_nil ?_
    refine then_n ?_
    refine cond_f fr rfl rfl ?_
    refine reg ?_
    refine lst rfl (ow_v fr (rn_as (rn_eql (fr.ev rfl) (fr.ev rfl)) (by rfl)) rfl rfl ?_)
    intro a fr
    refine lst rfl (ow_v fr (rn_assign (fr.ev rfl)) rfl rfl ?_)
    intro a fr
    refine wpList_nil ?_
    refine then_n ?_
    refine cond_f fr rfl rfl ?_
    refine wp_seq ?_
    refine reg ?_
    refine lst rfl (ow_v fr (rn_as (rn_eql (fr.ev rfl) (fr.ev rfl)) (by rfl)) rfl rfl ?_)
    intro a fr
    refine lst rfl (ow_v fr (rn_assign (fr.ev rfl)) rfl rfl ?_)
    intro a fr
    refine wpList_nil ?_
    refine then_n ?_
    refine cond_f fr rfl rfl ?_
    refine wp_seq ?_
    refine reg ?_
    refine lst rfl (ow_v fr (rn_as (rn_eql (fr.ev rfl) (fr.ev rfl)) (by rfl)) rfl rfl ?_)
    intro a fr
    refine lst rfl (ow_v fr (rn_assign (fr.ev rfl)) rfl rfl ?_)
    intro a fr
    refine wpList_nil ?_
    refine then_n ?_
    refine cond_f fr rfl rfl ?_
    refine wp_seq ?_
    refine reg ?_
    refine lst rfl (ow_v fr (rn_as (rn_eql (fr.ev rfl) (fr.ev rfl)) (by rfl)) rfl rfl ?_)
    intro a fr
    refine lst rfl (ow_v fr (rn_assign (fr.ev rfl)) rfl rfl ?_)
    intro a fr
    refine wpList_nil ?_
    refine then_n ?_
    refine cond_t fr rfl rfl ?_
    refine reg ?_
    refine lst rfl (ow_v fr (rn_move (fr.ev rfl)) rfl rfl ?_)
    intro a fr
    refine lst rfl (ow_v fr (rn_mul (a := 256) (b := (bs[k + 1].toNat : Nat)) (c := ((256 * (bs[k + 1].toNat) : Nat) : Int)) (fr.ev rfl) (fr.ev rfl) (wr_i64e (by omega) (by omega) (by omega))) rfl rfl ?_)
    intro a fr
    refine lst rfl (ow_v fr (rn_move (fr.ev rfl)) rfl rfl ?_)
    intro a fr
    refine lst rfl (ow_v fr (rn_add (a := ((256 * (bs[k + 1].toNat) : Nat) : Int)) (b := (bs[k + 2].toNat : Nat)) (c := ((256 * (bs[k + 1].toNat) + bs[k + 2].toNat : Nat) : Int)) (fr.ev rfl) (fr.ev rfl) (wr_i64e (by omega) (by omega) (by omega))) rfl rfl ?_)
    intro a fr
    refine lst rfl (ow_v fr (fa_29_2 (fr.ev rfl)) rfl rfl ?_)
    intro a fr
    refine lst rfl (ow_st fr st 2 rfl rfl rfl rfl sz_3 rfl rfl rfl ?_)
    intro w (st : St _ [] w [ro b2 (o3 + (k + 2) * 1) [.int .u8 ((bs[k + 2].toNat : Nat))], ro b2 (o3 + (k + 1) * 1) [.int .u8 ((bs[k + 1].toNat : Nat))], .blk b4 [.int .i64 ((k : Nat)), .int .i64 ((bs[k].toNat : Nat)), .int .i64 (((256 * (bs[k + 1].toNat) + bs[k + 2].toNat : Nat) : Int)), .int .i64 0] 29, ro b2 (o3 + k * 1) [.int .u8 ((bs[k].toNat : Nat))], .blk b1 [.int .i64 0, .int .i64 0, .int .i64 0, .int .i64 0] 29, els C8 1 (some ⟨b2, o3, none⟩) bs])
    refine wpList_nil ?_
    refine blk_n ?_
    refine then_n ?_
    refine wp_seq ?_
    refine wp_seq ?_
    refine reg ?_
    refine lst rfl (ow_v fr (rn_move (fr.ev rfl)) rfl rfl ?_)
    intro a fr
    refine lst rfl (ow_v fr (rn_as (rn_eql (fr.ev rfl) (fr.ev rfl)) (by rfl)) rfl rfl ?_)
    intro a fr
    refine lst rfl (ow_v fr (rn_move (fr.ev rfl)) rfl rfl ?_)
    intro a fr
    refine lst_n (unwanted_of fr rfl rfl rfl rfl) fr rfl rfl ?_
    intro a fr
    refine lst_n (unwanted_of fr rfl rfl rfl rfl) fr rfl rfl ?_
    intro a fr
    refine lst_n (unwanted_of fr rfl rfl rfl rfl) fr rfl rfl ?_
    intro a fr
    refine lst rfl (ow_v fr (rn_pick_f (fr.ev rfl) (fr.ev rfl)) rfl rfl ?_)
    intro a fr
    refine lst rfl (ow_v fr (rn_move (fr.ev rfl)) rfl rfl ?_)
    intro a fr
    refine lst_n (unwanted_of fr rfl rfl rfl rfl) fr rfl rfl ?_
    intro a fr
    refine lst_n (unwanted_of fr rfl rfl rfl rfl) fr rfl rfl ?_
    intro a fr
    refine lst_n (unwanted_of fr rfl rfl rfl rfl) fr rfl rfl ?_
    intro a fr
    refine lst rfl (ow_v fr (rn_pick_f (fr.ev rfl) (fr.ev rfl)) rfl rfl ?_)
    intro a fr
    refine wpList_nil ?_
    refine then_n ?_
    refine cond_f fr rfl rfl ?_
    refine wp_skip ?_
    refine then_n ?_
    refine wp_seq ?_
    refine reg ?_
    refine lst rfl (ow_v fr (rn_loadN (cs := [.int .i64 ((k : Nat)), .int .i64 ((bs[k].toNat : Nat)), .int .i64 (((256 * (bs[k + 1].toNat) + bs[k + 2].toNat : Nat) : Int)), .int .i64 0]) (fr.ev rfl) Try.underlying29 rfl sz_29 (st.blkrange 2 rfl 0 rfl)) rfl rfl ?_)
    intro a fr
    refine lst rfl (ow_v fr (rn_move (fr.ev rfl)) rfl rfl ?_)
    intro a fr
    refine lst rfl (ow_v fr (rn_add (a := (k : Nat)) (b := 1) (c := ((k + 1 : Nat) : Int)) (fr.ev rfl) (fr.ev rfl) (wr_i64e (by omega) (by omega) (by omega))) rfl rfl ?_)
    intro a fr
    refine lst rfl (ow_v fr (rn_move (fr.ev rfl)) rfl rfl ?_)
    intro a fr
    refine lst rfl (ow_v fr (rn_add (a := ((k + 1 : Nat) : Int)) (b := 2) (c := ((k + 1 + 2 : Nat) : Int)) (fr.ev rfl) (fr.ev rfl) (wr_i64e (by omega) (by omega) (by omega))) rfl rfl ?_)
    intro a fr
    refine lst rfl (ow_stN fr st 4 (vs := [.int .i64 ((k : Nat)), .int .i64 ((bs[k].toNat : Nat)), .int .i64 (((256 * (bs[k + 1].toNat) + bs[k + 2].toNat : Nat) : Int)), .int .i64 0]) rfl rfl rfl rfl sz_29 rfl (Nat.le_of_ble_eq_true rfl) rfl ?_)
    intro w (st : St _ [] w [ro b2 (o3 + (k + 2) * 1) [.int .u8 ((bs[k + 2].toNat : Nat))], ro b2 (o3 + (k + 1) * 1) [.int .u8 ((bs[k + 1].toNat : Nat))], .blk b4 [.int .i64 ((k : Nat)), .int .i64 ((bs[k].toNat : Nat)), .int .i64 (((256 * (bs[k + 1].toNat) + bs[k + 2].toNat : Nat) : Int)), .int .i64 0] 29, ro b2 (o3 + k * 1) [.int .u8 ((bs[k].toNat : Nat))], .blk b1 [.int .i64 ((k : Nat)), .int .i64 ((bs[k].toNat : Nat)), .int .i64 (((256 * (bs[k + 1].toNat) + bs[k + 2].toNat : Nat) : Int)), .int .i64 0] 29, els C8 1 (some ⟨b2, o3, none⟩) bs])
    refine lst rfl (ow_v fr (rn_assign (fr.ev rfl)) rfl rfl ?_)
    intro a fr
    refine lst rfl (ow_v fr (rn_assign (fr.ev rfl)) rfl rfl ?_)
    intro a fr
    refine wpList_nil ?_
    refine then_n ?_
    refine wp_ret ?_
    refine ret3 Try.results14 fr (rv_row (cs := [.int .i64 ((k : Nat)), .int .i64 ((bs[k].toNat : Nat)), .int .i64 (((256 * (bs[k + 1].toNat) + bs[k + 2].toNat : Nat) : Int)), .int .i64 0]) fr rfl Try.underlying29 rfl (by first | exact sz_29 | simpa using sz_29) (st.blkrange 4 rfl 0 rfl)) (rv_tmp fr rfl) (rv_tmp fr rfl) ?_
    exact ⟨by simp [okA, okB, behF, insC, ub_eq hk, ub_eq hk1, ub_eq hk2, Nat.mul_comm 256], st.agr⟩
  · have hs2 : k + 1 + 2 ≤ bs.length := hs
    have hk1 : k + 1 < bs.length := by omega
    have hk2 : k + 2 < bs.length := by omega
    refine enter Try.func14 rfl Try.ntmps14 (by simp) ?_
    intro a fr
    refine wp_seq ?_
    refine reg ?_
    refine lst rfl (ow_alloc fr st rfl zv_29 rfl rfl _ (by rfl) ?_)
    intro a w b1 fr st
    refine lst rfl (ow_v fr (rn_assign (fr.ev rfl)) rfl rfl ?_)
    intro a fr
    refine lst rfl (ow_v fr (rn_assign (fr.ev rfl)) rfl rfl ?_)
    intro a fr
    refine wpList_nil ?_
    refine then_n ?_
    refine wp_seq ?_
    refine wp_seq ?_
    refine reg ?_
    refine lst rfl (ow_v fr (rn_move (fr.ev rfl)) rfl rfl ?_)
    intro a fr
    refine lst rfl (ow_v fr (rn_as (v' := .bool false) (rn_lss (fr.ev rfl) (fr.ev rfl)) (congrArg Value.bool (decide_eq_false (by omega)))) rfl rfl ?_)
    intro a fr
    refine lst rfl (ow_v fr (rn_move (fr.ev rfl)) rfl rfl ?_)
    intro a fr
    refine lst_y (wanted_of fr rfl rfl rfl rfl) (ow_v fr (rn_move (fr.ev rfl)) rfl rfl ?_)
    intro a fr
    refine lst_y (wanted_of fr rfl rfl rfl rfl) (ow_v fr (rn_move (fr.ev rfl)) rfl rfl ?_)
    intro a fr
    refine lst_y (wanted_of fr rfl rfl rfl rfl) (ow_v fr (rn_len (fr.ev rfl) Try.underlying22) rfl rfl ?_)
    intro a fr
    refine lst_y (wanted_of fr rfl rfl rfl rfl) (ow_v fr (rn_as (v' := .bool false) (rn_geq (fr.ev rfl) (fr.ev rfl)) (congrArg Value.bool (decide_eq_false (by omega)))) rfl rfl ?_)
    intro a fr
    refine lst rfl (ow_v fr (rn_pick_f (fr.ev rfl) (fr.ev rfl)) rfl rfl ?_)
    intro a fr
    refine wpList_nil ?_
    refine then_n ?_
    refine cond_f fr rfl rfl ?_
    refine wp_skip ?_
    refine then_n ?_
    refine wp_seq ?_
    refine reg ?_
    refine lst rfl (ow_v fr (rn_move (fr.ev rfl)) rfl rfl ?_)
    intro a fr
    refine lst rfl (ow_v fr (rn_move (fr.ev rfl)) rfl rfl ?_)
    intro a fr
    refine lst rfl (ow_v fr (rn_move (fr.ev rfl)) rfl rfl ?_)
    intro a fr
    have hb3 := u8lt (bs[k]'(by omega))
    obtain ⟨b2, o3, eA, st_⟩ := st.elem 1 rfl k (by omega) (by simp [C8])
    have fr_ := fr
    cases eA
    have st := st_
    have fr := fr_
    clear st_ fr_
    replace st : St _ [] w [ro b2 (o3 + k * 1) [.int .u8 ((bs[k].toNat : Nat))], .blk b1 [.int .i64 0, .int .i64 0, .int .i64 0, .int .i64 0] 29, els C8 1 (some ⟨b2, o3, none⟩) bs] := st
    refine lst rfl (ow_v fr (rn_at (i := k) (fr.ev rfl) (fr.ev rfl) Try.underlying22 sz_5 (by omega) (by rfl)) rfl rfl ?_)
    intro a fr
    refine lst rfl (ow_v fr (rn_load (fr.ev rfl) Try.underlying5 rfl (st.rocell 0 rfl (j := 0) rfl)) rfl rfl ?_)
    intro a fr
    refine lst rfl (ow_v fr (rn_conv (c := (bs[k].toNat : Nat)) (fr.ev rfl) (by kernel_rfl) Try.underlying3 (wr_i64 _ (by omega) (by omega))) rfl rfl ?_)
    intro a fr
    refine lst rfl (ow_v fr (rn_build (cells := #[.int .i64 ((k : Nat)), .int .i64 ((bs[k].toNat : Nat)), .int .i64 0, .int .i64 0]) (by simp only [List.map_toArray, List.map_cons, List.map_nil]; rw [fr.ev (x := .tmp 22) rfl, fr.ev (x := .tmp 27) rfl]; rfl)) rfl rfl ?_)
    intro a fr
    refine lst rfl (ow_alloc fr st rfl zv_29 rfl rfl _ (by rfl) ?_)
    intro a w b4 fr st
    refine lst rfl (ow_stN fr st 0 (vs := [.int .i64 ((k : Nat)), .int .i64 ((bs[k].toNat : Nat)), .int .i64 0, .int .i64 0]) rfl rfl rfl rfl sz_29 rfl (Nat.le_of_ble_eq_true rfl) rfl ?_)
    intro w (st : St _ [] w [.blk b4 [.int .i64 ((k : Nat)), .int .i64 ((bs[k].toNat : Nat)), .int .i64 0, .int .i64 0] 29, ro b2 (o3 + k * 1) [.int .u8 ((bs[k].toNat : Nat))], .blk b1 [.int .i64 0, .int .i64 0, .int .i64 0, .int .i64 0] 29, els C8 1 (some ⟨b2, o3, none⟩) bs])
    refine wpList_nil ?_
    refine then_n ?_
    refine wp_seq ?_
    refine reg ?_
    refine lst rfl (ow_v fr (fa_29_1 (fr.ev rfl)) rfl rfl ?_)
    intro a fr
    refine lst rfl (ow_v fr (rn_load (fr.ev rfl) Try.underlying3 rfl (st.cell 0 rfl rfl)) rfl rfl ?_)
    intro a fr
    refine lst rfl (ow_call fr rfl rfl Try.call20 (rform_t _ h _) rfl rfl ?_)
    rintro e w ⟨rfl, hag⟩
    refine ⟨_, rfl, ?_⟩
    intro a fr
    have st := st.keep hag
    clear hag
    refine lst rfl (ow_v fr (rn_move (fr.ev rfl)) rfl rfl ?_)
    intro a fr
    refine lst rfl (ow_v fr (rn_extract (fr.ev rfl) rfl) rfl rfl ?_)
    intro a fr
    refine lst rfl (ow_v fr (rn_extract (fr.ev rfl) rfl) rfl rfl ?_)
    intro a fr
    refine lst rfl (ow_v fr (rn_assign (fr.ev rfl)) rfl rfl ?_)
    intro a fr
    refine lst rfl (ow_v fr (rn_assign (fr.ev rfl)) rfl rfl ?_)
    intro a fr
    refine wpList_nil ?_
    refine then_n ?_
    refine wp_seq ?_
    refine wp_seq ?_
    refine reg ?_
    refine lst rfl (ow_v fr (rn_move (fr.ev rfl)) rfl rfl ?_)
    intro a fr
    refine lst rfl (ow_v fr (rn_not (fr.ev rfl)) rfl rfl ?_)
    intro a fr
    refine wpList_nil ?_
    refine then_n ?_
    refine cond_f fr rfl rfl ?_
    refine wp_skip ?_
    refine then_n ?_
    refine wp_seq ?_
    refine reg ?_
    refine lst rfl (ow_v fr (rn_move (fr.ev rfl)) rfl rfl ?_)
    intro a fr
    refine lst rfl (ow_call fr rfl rfl Try.call44 (behind_lit 6 2 (by simp [Rng]) (by decide) _) rfl rfl ?_)
    rintro e w ⟨rfl, hag⟩
    refine ⟨_, rfl, ?_⟩
    intro a fr
    have st := st.keep hag
    clear hag
    refine lst rfl (ow_v fr (rn_assign (fr.ev rfl)) rfl rfl ?_)
    intro a fr
    refine wpList_nil ?_
    refine then_n ?_
    refine wp_seq ?_
    refine wp_seq ?_
    refine reg ?_
    refine lst rfl (ow_v fr (rn_move (fr.ev rfl)) rfl rfl ?_)
    intro a fr
    refine lst rfl (ow_v fr (rn_move (fr.ev rfl)) rfl rfl ?_)
    intro a fr
    refine lst rfl (ow_v fr (rn_len (fr.ev rfl) Try.underlying22) rfl rfl ?_)
    intro a fr
    refine lst rfl (ow_v fr (rn_move (fr.ev rfl)) rfl rfl ?_)
    intro a fr
    refine lst rfl (ow_v fr (rn_sub (a := (bs.length : Nat)) (b := (k : Nat)) (c := (bs.length : Nat) - (k : Nat)) (fr.ev rfl) (fr.ev rfl) (wr_i64e (by omega) (by omega) (by omega))) rfl rfl ?_)
    intro a fr
    refine lst rfl (ow_v fr (rn_sub (a := (bs.length : Nat) - (k : Nat)) (b := 1) (c := (bs.length : Nat) - (k : Nat) - 1) (fr.ev rfl) (fr.ev rfl) (wr_i64e (by omega) (by omega) (by omega))) rfl rfl ?_)
    intro a fr
    refine lst rfl (ow_v fr (rn_as (v' := .bool false) (rn_gtr (fr.ev rfl) (fr.ev rfl)) (congrArg Value.bool (decide_eq_false (by omega)))) rfl rfl ?_)
    intro a fr
    refine wpList_nil ?_
    refine then_n ?_
    refine cond_f fr rfl rfl ?_
    refine wp_skip ?_
    refine then_n ?_
    refine wp_seq ?_
    refine reg ?_
    refine lst rfl (ow_v fr (rn_assign (fr.ev rfl)) rfl rfl ?_)
    intro a fr
    refine lst rfl (ow_v fr (rn_assign (fr.ev rfl)) rfl rfl ?_)
    intro a fr
    refine wpList_nil ?_
    refine then_n ?_
    refine wp_seq ?_
    refine wp_seq ?_
    refine reg ?_
    refine lst rfl (ow_v fr (rn_move (fr.ev rfl)) rfl rfl ?_)
    intro a fr
    refine lst rfl (ow_v fr (rn_as (rn_gtr (fr.ev rfl) (fr.ev rfl)) (by rfl)) rfl rfl ?_)
    intro a fr
    refine wpList_nil ?_
    refine then_n ?_
    refine cond_t fr rfl rfl ?_
    refine reg ?_
    refine lst rfl (ow_v fr (rn_move (fr.ev rfl)) rfl rfl ?_)
    intro a fr
    refine lst rfl (ow_v fr (rn_move (fr.ev rfl)) rfl rfl ?_)
    intro a fr
    refine lst rfl (ow_v fr (rn_add (a := (k : Nat)) (b := 1) (c := ((k + 1 : Nat) : Int)) (fr.ev rfl) (fr.ev rfl) (wr_i64e (by omega) (by omega) (by omega))) rfl rfl ?_)
    intro a fr
    have hb6 := u8lt (bs[k + 1]'(by omega))
    have st := (st.elem 3 rfl (k + 1) (by omega) (by simp [C8]))
    obtain ⟨b_, o_, eA, st_⟩ := st
    have fr_ := fr
    cases eA
    have st := st_
    have fr := fr_
    clear st_ fr_
    replace st : St _ [] w [ro b2 (o3 + (k + 1) * 1) [.int .u8 ((bs[k + 1].toNat : Nat))], .blk b4 [.int .i64 ((k : Nat)), .int .i64 ((bs[k].toNat : Nat)), .int .i64 0, .int .i64 0] 29, ro b2 (o3 + k * 1) [.int .u8 ((bs[k].toNat : Nat))], .blk b1 [.int .i64 0, .int .i64 0, .int .i64 0, .int .i64 0] 29, els C8 1 (some ⟨b2, o3, none⟩) bs] := st
    refine lst rfl (ow_v fr (rn_at (i := k + 1) (fr.ev rfl) (fr.ev rfl) Try.underlying22 sz_5 (by omega) (by rfl)) rfl rfl ?_)
    intro a fr
    refine lst rfl (ow_v fr (rn_load (fr.ev rfl) Try.underlying5 rfl (st.rocell 0 rfl (j := 0) rfl)) rfl rfl ?_)
    intro a fr
    refine lst rfl (ow_v fr (rn_conv (c := (bs[k + 1].toNat : Nat)) (fr.ev rfl) (by kernel_rfl) Try.underlying3 (wr_i64 _ (by omega) (by omega))) rfl rfl ?_)
    intro a fr
    refine lst rfl (ow_v fr (rn_assign (fr.ev rfl)) rfl rfl ?_)
    intro a fr
    refine wpList_nil ?_
    refine then_n ?_
    refine wp_seq ?_
    refine wp_seq ?_
    refine reg ?_
    refine lst rfl (ow_v fr (rn_move (fr.ev rfl)) rfl rfl ?_)
    intro a fr
    refine lst rfl (ow_v fr (rn_as (rn_gtr (fr.ev rfl) (fr.ev rfl)) (by rfl)) rfl rfl ?_)
    intro a fr
    refine wpList_nil ?_
    refine then_n ?_
    refine cond_t fr rfl rfl ?_
    refine reg ?_
    refine lst rfl (ow_v fr (rn_move (fr.ev rfl)) rfl rfl ?_)
    intro a fr
    refine lst rfl (ow_v fr (rn_move (fr.ev rfl)) rfl rfl ?_)
    intro a fr
    refine lst rfl (ow_v fr (rn_add (a := (k : Nat)) (b := 2) (c := ((k + 2 : Nat) : Int)) (fr.ev rfl) (fr.ev rfl) (wr_i64e (by omega) (by omega) (by omega))) rfl rfl ?_)
    intro a fr
    have hb8 := u8lt (bs[k + 2]'(by omega))
    have st := (st.elem 4 rfl (k + 2) (by omega) (by simp [C8]))
    obtain ⟨b_, o_, eA, st_⟩ := st
    have fr_ := fr
    cases eA
    have st := st_
    have fr := fr_
    clear st_ fr_
    replace st : St _ [] w [ro b2 (o3 + (k + 2) * 1) [.int .u8 ((bs[k + 2].toNat : Nat))], ro b2 (o3 + (k + 1) * 1) [.int .u8 ((bs[k + 1].toNat : Nat))], .blk b4 [.int .i64 ((k : Nat)), .int .i64 ((bs[k].toNat : Nat)), .int .i64 0, .int .i64 0] 29, ro b2 (o3 + k * 1) [.int .u8 ((bs[k].toNat : Nat))], .blk b1 [.int .i64 0, .int .i64 0, .int .i64 0, .int .i64 0] 29, els C8 1 (some ⟨b2, o3, none⟩) bs] := st
    refine lst rfl (ow_v fr (rn_at (i := k + 2) (fr.ev rfl) (fr.ev rfl) Try.underlying22 sz_5 (by omega) (by rfl)) rfl rfl ?_)
    intro a fr
    refine lst rfl (ow_v fr (rn_load (fr.ev rfl) Try.underlying5 rfl (st.rocell 0 rfl (j := 0) rfl)) rfl rfl ?_)
    intro a fr
    refine lst rfl (ow_v fr (rn_conv (c := (bs[k + 2].toNat : Nat)) (fr.ev rfl) (by kernel_rfl) Try.underlying3 (wr_i64 _ (by omega) (by omega))) rfl rfl ?_)
    intro a fr
    refine lst rfl (ow_v fr (rn_assign (fr.ev rfl)) rfl rfl ?_)
    intro a fr
    refine wpList_nil ?_
    refine then_n ?_
    refine wp_seq ?_
    refine wp_seq ?_
    refine reg ?_
    refine lst rfl (ow_v fr (rn_move (fr.ev rfl)) rfl rfl ?_)
    intro a fr
    refine wpList_nil ?_
    refine then_n ?_
    refine wp_block ?_
    refine wp_seq ?_
    refine wp_seq ?_
    refine reg ?_
    refine lst rfl (ow_v fr (rn_as (rn_eql (fr.ev rfl) (fr.ev rfl)) (by rfl)) rfl rfl ?_)
    intro a fr
    refine lst rfl (ow_v fr (rn_assign (fr.ev rfl)) rfl rfl ?_)
    intro a fr
    refine wpList_nil ?_
    refine then_n ?_
    refine cond_f fr rfl rfl ?_
    refine wp_seq ?_
    refine reg ?_
    refine lst rfl (ow_v fr (rn_as (rn_eql (fr.ev rfl) (fr.ev rfl)) (by rfl)) rfl rfl ?_)
    intro a fr
    refine lst rfl (ow_v fr (rn_assign (fr.ev rfl)) rfl rfl ?_)
    intro a fr
    refine wpList_nil ?_
    refine then_n ?_
    refine cond_f fr rfl rfl ?_
    refine reg ?_
    refine lst rfl (ow_v fr (rn_as (rn_eql (fr.ev rfl) (fr.ev rfl)) (by rfl)) rfl rfl ?_)
    intro a fr
    refine lst rfl (ow_v fr (rn_assign (fr.ev rfl)) rfl rfl ?_)
    intro a fr
    refine wpList_nil ?_
    refine then_n ?_
    refine cond_f fr rfl rfl ?_
    refine wp_seq ?_
    refine reg ?_
    refine lst rfl (ow_v fr (rn_as (rn_eql (fr.ev rfl) (fr.ev rfl)) (by rfl)) rfl rfl ?_)
    intro a fr
    refine lst rfl (ow_v fr (rn_assign (fr.ev rfl)) rfl rfl ?_)
    intro a fr
    refine wpList_nil ?_
    refine then_n ?_
    refine cond_f fr rfl rfl ?_
    refine wp_seq ?_
    refine reg ?_
    refine lst rfl (ow_v fr (rn_as (rn_eql (fr.ev rfl) (fr.ev rfl)) (by rfl)) rfl rfl ?_)
    intro a fr
    refine lst rfl (ow_v fr (rn_assign (fr.ev rfl)) rfl rfl ?_)
    intro a fr
    refine wpList_nil ?_
    refine then_n ?_
    refine cond_f fr rfl rfl ?_
    refine wp_seq ?_
    refine reg ?_
    refine lst rfl (ow_v fr (rn_as (rn_eql (fr.ev rfl) (fr.ev rfl)) (by rfl)) rfl rfl ?_)
    intro a fr
    refine lst rfl (ow_v fr (rn_assign (fr.ev rfl)) rfl rfl ?_)
    intro a fr
    refine wpList_nil ?_
    refine then_n ?_
    refine cond_f fr rfl rfl ?_
    refine wp_seq ?_
    refine reg ?_
    refine lst rfl (ow_v fr (rn_as (rn_eql (fr.ev rfl) (fr.ev rfl)) (by rfl)) rfl rfl ?_)
    intro a fr
    refine lst rfl (ow_v fr (rn_assign (fr.ev rfl)) rfl rfl ?_)
    intro a fr
    refine wpList_nil ?_
    refine then_n ?_
    refine cond_t fr rfl rfl ?_
    have hu1 := u8lt bs[k + 1]
    have hu2 := u8lt bs[k + 2]
    have hs16 := sx16_rng (256 * bs[k + 1].toNat + bs[k + 2].toNat) (by omega)
    refine reg ?_
    refine lst rfl (ow_v fr (rn_move (fr.ev rfl)) rfl rfl ?_)
    intro a fr
    refine lst rfl (ow_v fr (rn_move (fr.ev rfl)) rfl rfl ?_)
    intro a fr
    refine lst rfl (ow_v fr (rn_mul (a := 256) (b := (bs[k + 1].toNat : Nat)) (c := ((256 * (bs[k + 1].toNat) : Nat) : Int)) (fr.ev rfl) (fr.ev rfl) (wr_i64e (by omega) (by omega) (by omega))) rfl rfl ?_)
    intro a fr
    refine lst rfl (ow_v fr (rn_move (fr.ev rfl)) rfl rfl ?_)
    intro a fr
    refine lst rfl (ow_v fr (rn_add (a := ((256 * (bs[k + 1].toNat) : Nat) : Int)) (b := (bs[k + 2].toNat : Nat)) (c := ((256 * (bs[k + 1].toNat) + bs[k + 2].toNat : Nat) : Int)) (fr.ev rfl) (fr.ev rfl) (wr_i64e (by omega) (by omega) (by omega))) rfl rfl ?_)
    intro a fr
    refine lst rfl (ow_call fr rfl rfl Try.call45 (signed16 (256 * (bs[k + 1].toNat) + bs[k + 2].toNat) (by omega) _) rfl rfl ?_)
    rintro e w ⟨rfl, hag⟩
    refine ⟨_, rfl, ?_⟩
    intro a fr
    have st := st.keep hag
    clear hag
    refine lst rfl (ow_v fr (rn_add (a := (k : Nat)) (b := sx16 (256 * (bs[k + 1].toNat) + bs[k + 2].toNat)) (c := (k : Nat) + sx16 (256 * (bs[k + 1].toNat) + bs[k + 2].toNat)) (fr.ev rfl) (fr.ev rfl) (wr_i64e (by omega) (by omega) (by omega))) rfl rfl ?_)
    intro a fr
    refine lst rfl (ow_v fr (fa_29_2 (fr.ev rfl)) rfl rfl ?_)
    intro a fr
    refine lst rfl (ow_st fr st 2 rfl rfl rfl rfl sz_3 rfl rfl rfl ?_)
    intro w (st : St _ [] w [ro b2 (o3 + (k + 2) * 1) [.int .u8 ((bs[k + 2].toNat : Nat))], ro b2 (o3 + (k + 1) * 1) [.int .u8 ((bs[k + 1].toNat : Nat))], .blk b4 [.int .i64 ((k : Nat)), .int .i64 ((bs[k].toNat : Nat)), .int .i64 ((k : Nat) + sx16 (256 * (bs[k + 1].toNat) + bs[k + 2].toNat)), .int .i64 0] 29, ro b2 (o3 + k * 1) [.int .u8 ((bs[k].toNat : Nat))], .blk b1 [.int .i64 0, .int .i64 0, .int .i64 0, .int .i64 0] 29, els C8 1 (some ⟨b2, o3, none⟩) bs])
    refine wpList_nil ?_
    refine blk_n ?_
    refine then_n ?_
    refine wp_seq ?_
    refine wp_seq ?_
    refine reg ?_
    refine lst rfl (ow_v fr (rn_move (fr.ev rfl)) rfl rfl ?_)
    intro a fr
    refine lst rfl (ow_v fr (rn_as (rn_eql (fr.ev rfl) (fr.ev rfl)) (by rfl)) rfl rfl ?_)
    intro a fr
    refine lst rfl (ow_v fr (rn_move (fr.ev rfl)) rfl rfl ?_)
    intro a fr
    refine lst_n (unwanted_of fr rfl rfl rfl rfl) fr rfl rfl ?_
    intro a fr
    refine lst_n (unwanted_of fr rfl rfl rfl rfl) fr rfl rfl ?_
    intro a fr
    refine lst_n (unwanted_of fr rfl rfl rfl rfl) fr rfl rfl ?_
    intro a fr
    refine lst rfl (ow_v fr (rn_pick_f (fr.ev rfl) (fr.ev rfl)) rfl rfl ?_)
    intro a fr
    refine lst rfl (ow_v fr (rn_move (fr.ev rfl)) rfl rfl ?_)
    intro a fr
    refine lst_n (unwanted_of fr rfl rfl rfl rfl) fr rfl rfl ?_
    intro a fr
    refine lst_n (unwanted_of fr rfl rfl rfl rfl) fr rfl rfl ?_
    intro a fr
    refine lst_n (unwanted_of fr rfl rfl rfl rfl) fr rfl rfl ?_
    intro a fr
    refine lst rfl (ow_v fr (rn_pick_f (fr.ev rfl) (fr.ev rfl)) rfl rfl ?_)
    intro a fr
    refine wpList_nil ?_
    refine then_n ?_
    refine cond_f fr rfl rfl ?_
    refine wp_skip ?_
    refine then_n ?_
    refine wp_seq ?_
    refine reg ?_
    refine lst rfl (ow_v fr (rn_loadN (cs := [.int .i64 ((k : Nat)), .int .i64 ((bs[k].toNat : Nat)), .int .i64 ((k : Nat) + sx16 (256 * (bs[k + 1].toNat) + bs[k + 2].toNat)), .int .i64 0]) (fr.ev rfl) Try.underlying29 rfl sz_29 (st.blkrange 2 rfl 0 rfl)) rfl rfl ?_)
    intro a fr
    refine lst rfl (ow_v fr (rn_move (fr.ev rfl)) rfl rfl ?_)
    intro a fr
    refine lst rfl (ow_v fr (rn_add (a := (k : Nat)) (b := 1) (c := ((k + 1 : Nat) : Int)) (fr.ev rfl) (fr.ev rfl) (wr_i64e (by omega) (by omega) (by omega))) rfl rfl ?_)
    intro a fr
    refine lst rfl (ow_v fr (rn_move (fr.ev rfl)) rfl rfl ?_)
    intro a fr
    refine lst rfl (ow_v fr (rn_add (a := ((k + 1 : Nat) : Int)) (b := 2) (c := ((k + 1 + 2 : Nat) : Int)) (fr.ev rfl) (fr.ev rfl) (wr_i64e (by omega) (by omega) (by omega))) rfl rfl ?_)
    intro a fr
    refine lst rfl (ow_stN fr st 4 (vs := [.int .i64 ((k : Nat)), .int .i64 ((bs[k].toNat : Nat)), .int .i64 ((k : Nat) + sx16 (256 * (bs[k + 1].toNat) + bs[k + 2].toNat)), .int .i64 0]) rfl rfl rfl rfl sz_29 rfl (Nat.le_of_ble_eq_true rfl) rfl ?_)
    intro w (st : St _ [] w [ro b2 (o3 + (k + 2) * 1) [.int .u8 ((bs[k + 2].toNat : Nat))], ro b2 (o3 + (k + 1) * 1) [.int .u8 ((bs[k + 1].toNat : Nat))], .blk b4 [.int .i64 ((k : Nat)), .int .i64 ((bs[k].toNat : Nat)), .int .i64 ((k : Nat) + sx16 (256 * (bs[k + 1].toNat) + bs[k + 2].toNat)), .int .i64 0] 29, ro b2 (o3 + k * 1) [.int .u8 ((bs[k].toNat : Nat))], .blk b1 [.int .i64 ((k : Nat)), .int .i64 ((bs[k].toNat : Nat)), .int .i64 ((k : Nat) + sx16 (256 * (bs[k + 1].toNat) + bs[k + 2].toNat)), .int .i64 0] 29, els C8 1 (some ⟨b2, o3, none⟩) bs])
    refine lst rfl (ow_v fr (rn_assign (fr.ev rfl)) rfl rfl ?_)
    intro a fr
    refine lst rfl (ow_v fr (rn_assign (fr.ev rfl)) rfl rfl ?_)
    intro a fr
    refine wpList_nil ?_
    refine then_n ?_
    refine wp_ret ?_
    refine ret3 Try.results14 fr (rv_row (cs := [.int .i64 ((k : Nat)), .int .i64 ((bs[k].toNat : Nat)), .int .i64 ((k : Nat) + sx16 (256 * (bs[k + 1].toNat) + bs[k + 2].toNat)), .int .i64 0]) fr rfl Try.underlying29 rfl (by first | exact sz_29 | simpa using sz_29) (st.blkrange 4 rfl 0 rfl)) (rv_tmp fr rfl) (rv_tmp fr rfl) ?_
    exact ⟨by simp [okA, okB, behF, insC, ub_eq hk, ub_eq hk1, ub_eq hk2, Nat.mul_comm 256], st.agr⟩
  · have hs2 : k + 1 + 2 ≤ bs.length := hs
    have hk1 : k + 1 < bs.length := by omega
    have hk2 : k + 2 < bs.length := by omega
    refine enter Try.func14 rfl Try.ntmps14 (by simp) ?_
    intro a fr
    refine wp_seq ?_
    refine reg ?_
    refine lst rfl (ow_alloc fr st rfl zv_29 rfl rfl _ (by rfl) ?_)
    intro a w b1 fr st
    refine lst rfl (ow_v fr (rn_assign (fr.ev rfl)) rfl rfl ?_)
    intro a fr
    refine lst rfl (ow_v fr (rn_assign (fr.ev rfl)) rfl rfl ?_)
    intro a fr
    refine wpList_nil ?_
    refine then_n ?_
    refine wp_seq ?_
    refine wp_seq ?_
    refine reg ?_
    refine lst rfl (ow_v fr (rn_move (fr.ev rfl)) rfl rfl ?_)
    intro a fr
    refine lst rfl (ow_v fr (rn_as (v' := .bool false) (rn_lss (fr.ev rfl) (fr.ev rfl)) (congrArg Value.bool (decide_eq_false (by omega)))) rfl rfl ?_)
    intro a fr
    refine lst rfl (ow_v fr (rn_move (fr.ev rfl)) rfl rfl ?_)
    intro a fr
    refine lst_y (wanted_of fr rfl rfl rfl rfl) (ow_v fr (rn_move (fr.ev rfl)) rfl rfl ?_)
    intro a fr
    refine lst_y (wanted_of fr rfl rfl rfl rfl) (ow_v fr (rn_move (fr.ev rfl)) rfl rfl ?_)
    intro a fr
    refine lst_y (wanted_of fr rfl rfl rfl rfl) (ow_v fr (rn_len (fr.ev rfl) Try.underlying22) rfl rfl ?_)
    intro a fr
    refine lst_y (wanted_of fr rfl rfl rfl rfl) (ow_v fr (rn_as (v' := .bool false) (rn_geq (fr.ev rfl) (fr.ev rfl)) (congrArg Value.bool (decide_eq_false (by omega)))) rfl rfl ?_)
    intro a fr
    refine lst rfl (ow_v fr (rn_pick_f (fr.ev rfl) (fr.ev rfl)) rfl rfl ?_)
    intro a fr
    refine wpList_nil ?_
    refine then_n ?_
    refine cond_f fr rfl rfl ?_
    refine wp_skip ?_
    refine then_n ?_
    refine wp_seq ?_
    refine reg ?_
    refine lst rfl (ow_v fr (rn_move (fr.ev rfl)) rfl rfl ?_)
    intro a fr
    refine lst rfl (ow_v fr (rn_move (fr.ev rfl)) rfl rfl ?_)
    intro a fr
    refine lst rfl (ow_v fr (rn_move (fr.ev rfl)) rfl rfl ?_)
    intro a fr
    have hb3 := u8lt (bs[k]'(by omega))
    obtain ⟨b2, o3, eA, st_⟩ := st.elem 1 rfl k (by omega) (by simp [C8])
    have fr_ := fr
    cases eA
    have st := st_
    have fr := fr_
    clear st_ fr_
    replace st : St _ [] w [ro b2 (o3 + k * 1) [.int .u8 ((bs[k].toNat : Nat))], .blk b1 [.int .i64 0, .int .i64 0, .int .i64 0, .int .i64 0] 29, els C8 1 (some ⟨b2, o3, none⟩) bs] := st
    refine lst rfl (ow_v fr (rn_at (i := k) (fr.ev rfl) (fr.ev rfl) Try.underlying22 sz_5 (by omega) (by rfl)) rfl rfl ?_)
    intro a fr
    refine lst rfl (ow_v fr (rn_load (fr.ev rfl) Try.underlying5 rfl (st.rocell 0 rfl (j := 0) rfl)) rfl rfl ?_)
    intro a fr
    refine lst rfl (ow_v fr (rn_conv (c := (bs[k].toNat : Nat)) (fr.ev rfl) (by kernel_rfl) Try.underlying3 (wr_i64 _ (by omega) (by omega))) rfl rfl ?_)
    intro a fr
    refine lst rfl (ow_v fr (rn_build (cells := #[.int .i64 ((k : Nat)), .int .i64 ((bs[k].toNat : Nat)), .int .i64 0, .int .i64 0]) (by simp only [List.map_toArray, List.map_cons, List.map_nil]; rw [fr.ev (x := .tmp 22) rfl, fr.ev (x := .tmp 27) rfl]; rfl)) rfl rfl ?_)
    intro a fr
    refine lst rfl (ow_alloc fr st rfl zv_29 rfl rfl _ (by rfl) ?_)
    intro a w b4 fr st
    refine lst rfl (ow_stN fr st 0 (vs := [.int .i64 ((k : Nat)), .int .i64 ((bs[k].toNat : Nat)), .int .i64 0, .int .i64 0]) rfl rfl rfl rfl sz_29 rfl (Nat.le_of_ble_eq_true rfl) rfl ?_)
    intro w (st : St _ [] w [.blk b4 [.int .i64 ((k : Nat)), .int .i64 ((bs[k].toNat : Nat)), .int .i64 0, .int .i64 0] 29, ro b2 (o3 + k * 1) [.int .u8 ((bs[k].toNat : Nat))], .blk b1 [.int .i64 0, .int .i64 0, .int .i64 0, .int .i64 0] 29, els C8 1 (some ⟨b2, o3, none⟩) bs])
    refine wpList_nil ?_
    refine then_n ?_
    refine wp_seq ?_
    refine reg ?_
    refine lst rfl (ow_v fr (fa_29_1 (fr.ev rfl)) rfl rfl ?_)
    intro a fr
    refine lst rfl (ow_v fr (rn_load (fr.ev rfl) Try.underlying3 rfl (st.cell 0 rfl rfl)) rfl rfl ?_)
    intro a fr
    refine lst rfl (ow_call fr rfl rfl Try.call20 (rform_t _ h _) rfl rfl ?_)
    rintro e w ⟨rfl, hag⟩
    refine ⟨_, rfl, ?_⟩
    intro a fr
    have st := st.keep hag
    clear hag
    refine lst rfl (ow_v fr (rn_move (fr.ev rfl)) rfl rfl ?_)
    intro a fr
    refine lst rfl (ow_v fr (rn_extract (fr.ev rfl) rfl) rfl rfl ?_)
    intro a fr
    refine lst rfl (ow_v fr (rn_extract (fr.ev rfl) rfl) rfl rfl ?_)
    intro a fr
    refine lst rfl (ow_v fr (rn_assign (fr.ev rfl)) rfl rfl ?_)
    intro a fr
    refine lst rfl (ow_v fr (rn_assign (fr.ev rfl)) rfl rfl ?_)
    intro a fr
    refine wpList_nil ?_
    refine then_n ?_
    refine wp_seq ?_
    refine wp_seq ?_
    refine reg ?_
    refine lst rfl (ow_v fr (rn_move (fr.ev rfl)) rfl rfl ?_)
    intro a fr
    refine lst rfl (ow_v fr (rn_not (fr.ev rfl)) rfl rfl ?_)
    intro a fr
    refine wpList_nil ?_
    refine then_n ?_
    refine cond_f fr rfl rfl ?_
    refine wp_skip ?_
    refine then_n ?_
    refine wp_seq ?_
    refine reg ?_
    refine lst rfl (ow_v fr (rn_move (fr.ev rfl)) rfl rfl ?_)
    intro a fr
    refine lst rfl (ow_call fr rfl rfl Try.call44 (behind_lit 7 2 (by simp [Rng]) (by decide) _) rfl rfl ?_)
    rintro e w ⟨rfl, hag⟩
    refine ⟨_, rfl, ?_⟩
    intro a fr
    have st := st.keep hag
    clear hag
    refine lst rfl (ow_v fr (rn_assign (fr.ev rfl)) rfl rfl ?_)
    intro a fr
    refine wpList_nil ?_
    refine then_n ?_
    refine wp_seq ?_
    refine wp_seq ?_
    refine reg ?_
    refine lst rfl (ow_v fr (rn_move (fr.ev rfl)) rfl rfl ?_)
    intro a fr
    refine lst rfl (ow_v fr (rn_move (fr.ev rfl)) rfl rfl ?_)
    intro a fr
    refine lst rfl (ow_v fr (rn_len (fr.ev rfl) Try.underlying22) rfl rfl ?_)
    intro a fr
    refine lst rfl (ow_v fr (rn_move (fr.ev rfl)) rfl rfl ?_)
    intro a fr
    refine lst rfl (ow_v fr (rn_sub (a := (bs.length : Nat)) (b := (k : Nat)) (c := (bs.length : Nat) - (k : Nat)) (fr.ev rfl) (fr.ev rfl) (wr_i64e (by omega) (by omega) (by omega))) rfl rfl ?_)
    intro a fr
    refine lst rfl (ow_v fr (rn_sub (a := (bs.length : Nat) - (k : Nat)) (b := 1) (c := (bs.length : Nat) - (k : Nat) - 1) (fr.ev rfl) (fr.ev rfl) (wr_i64e (by omega) (by omega) (by omega))) rfl rfl ?_)
    intro a fr
    refine lst rfl (ow_v fr (rn_as (v' := .bool false) (rn_gtr (fr.ev rfl) (fr.ev rfl)) (congrArg Value.bool (decide_eq_false (by omega)))) rfl rfl ?_)
    intro a fr
    refine wpList_nil ?_
    refine then_n ?_
    refine cond_f fr rfl rfl ?_
    refine wp_skip ?_
    refine then_n ?_
    refine wp_seq ?_
    refine reg ?_
    refine lst rfl (ow_v fr (rn_assign (fr.ev rfl)) rfl rfl ?_)
    intro a fr
    refine lst rfl (ow_v fr (rn_assign (fr.ev rfl)) rfl rfl ?_)
    intro a fr
    refine wpList_nil ?_
    refine then_n ?_
    refine wp_seq ?_
    refine wp_seq ?_
    refine reg ?_
    refine lst rfl (ow_v fr (rn_move (fr.ev rfl)) rfl rfl ?_)
    intro a fr
    refine lst rfl (ow_v fr (rn_as (rn_gtr (fr.ev rfl) (fr.ev rfl)) (by rfl)) rfl rfl ?_)
    intro a fr
    refine wpList_nil ?_
    refine then_n ?_
    refine cond_t fr rfl rfl ?_
    refine reg ?_
    refine lst rfl (ow_v fr (rn_move (fr.ev rfl)) rfl rfl ?_)
    intro a fr
    refine lst rfl (ow_v fr (rn_move (fr.ev rfl)) rfl rfl ?_)
    intro a fr
    refine lst rfl (ow_v fr (rn_add (a := (k : Nat)) (b := 1) (c := ((k + 1 : Nat) : Int)) (fr.ev rfl) (fr.ev rfl) (wr_i64e (by omega) (by omega) (by omega))) rfl rfl ?_)
    intro a fr
    have hb6 := u8lt (bs[k + 1]'(by omega))
    have st := (st.elem 3 rfl (k + 1) (by omega) (by simp [C8]))
    obtain ⟨b_, o_, eA, st_⟩ := st
    have fr_ := fr
    cases eA
    have st := st_
    have fr := fr_
    clear st_ fr_
    replace st : St _ [] w [ro b2 (o3 + (k + 1) * 1) [.int .u8 ((bs[k + 1].toNat : Nat))], .blk b4 [.int .i64 ((k : Nat)), .int .i64 ((bs[k].toNat : Nat)), .int .i64 0, .int .i64 0] 29, ro b2 (o3 + k * 1) [.int .u8 ((bs[k].toNat : Nat))], .blk b1 [.int .i64 0, .int .i64 0, .int .i64 0, .int .i64 0] 29, els C8 1 (some ⟨b2, o3, none⟩) bs] := st
    refine lst rfl (ow_v fr (rn_at (i := k + 1) (fr.ev rfl) (fr.ev rfl) Try.underlying22 sz_5 (by omega) (by rfl)) rfl rfl ?_)
    intro a fr
    refine lst rfl (ow_v fr (rn_load (fr.ev rfl) Try.underlying5 rfl (st.rocell 0 rfl (j := 0) rfl)) rfl rfl ?_)
    intro a fr
    refine lst rfl (ow_v fr (rn_conv (c := (bs[k + 1].toNat : Nat)) (fr.ev rfl) (by kernel_rfl) Try.underlying3 (wr_i64 _ (by omega) (by omega))) rfl rfl ?_)
    intro a fr
    refine lst rfl (ow_v fr (rn_assign (fr.ev rfl)) rfl rfl ?_)
    intro a fr
    refine wpList_nil ?_
    refine then_n ?_
    refine wp_seq ?_
    refine wp_seq ?_
    refine reg ?_
    refine lst rfl (ow_v fr (rn_move (fr.ev rfl)) rfl rfl ?_)
    intro a fr
    refine lst rfl (ow_v fr (rn_as (rn_gtr (fr.ev rfl) (fr.ev rfl)) (by rfl)) rfl rfl ?_)
    intro a fr
    refine wpList_nil ?_
    refine then_n ?_
    refine cond_t fr rfl rfl ?_
    refine reg ?_
    refine lst rfl (ow_v fr (rn_move (fr.ev rfl)) rfl rfl ?_)
    intro a fr
    refine lst rfl (ow_v fr (rn_move (fr.ev rfl)) rfl rfl ?_)
    intro a fr
    refine lst rfl (ow_v fr (rn_add (a := (k : Nat)) (b := 2) (c := ((k + 2 : Nat) : Int)) (fr.ev rfl) (fr.ev rfl) (wr_i64e (by omega) (by omega) (by omega))) rfl rfl ?_)
    intro a fr
    have hb8 := u8lt (bs[k + 2]'(by omega))
    have st := (st.elem 4 rfl (k + 2) (by omega) (by simp [C8]))
    obtain ⟨b_, o_, eA, st_⟩ := st
    have fr_ := fr
    cases eA
    have st := st_
    have fr := fr_
    clear st_ fr_
    replace st : St _ [] w [ro b2 (o3 + (k + 2) * 1) [.int .u8 ((bs[k + 2].toNat : Nat))], ro b2 (o3 + (k + 1) * 1) [.int .u8 ((bs[k + 1].toNat : Nat))], .blk b4 [.int .i64 ((k : Nat)), .int .i64 ((bs[k].toNat : Nat)), .int .i64 0, .int .i64 0] 29, ro b2 (o3 + k * 1) [.int .u8 ((bs[k].toNat : Nat))], .blk b1 [.int .i64 0, .int .i64 0, .int .i64 0, .int .i64 0] 29, els C8 1 (some ⟨b2, o3, none⟩) bs] := st
    refine lst rfl (ow_v fr (rn_at (i := k + 2) (fr.ev rfl) (fr.ev rfl) Try.underlying22 sz_5 (by omega) (by rfl)) rfl rfl ?_)
    intro a fr
    refine lst rfl (ow_v fr (rn_load (fr.ev rfl) Try.underlying5 rfl (st.rocell 0 rfl (j := 0) rfl)) rfl rfl ?_)
    intro a fr
    refine lst rfl (ow_v fr (rn_conv (c := (bs[k + 2].toNat : Nat)) (fr.ev rfl) (by kernel_rfl) Try.underlying3 (wr_i64 _ (by omega) (by omega))) rfl rfl ?_)
    intro a fr
    refine lst rfl (ow_v fr (rn_assign (fr.ev rfl)) rfl rfl ?_)
    intro a fr
    refine wpList_nil ?_
    refine then_n ?_
    refine wp_seq ?_
    refine wp_seq ?_
    refine reg ?_
    refine lst rfl (ow_v fr (rn_move (fr.ev rfl)) rfl rfl ?_)
    intro a fr
    refine wpList_nil ?_
    refine then_n ?_
    refine wp_block ?_
    refine wp_seq ?_
    refine wp_seq ?_
    refine reg ?_
    refine lst rfl (ow_v fr (rn_as (rn_eql (fr.ev rfl) (fr.ev rfl)) (by rfl)) rfl rfl ?_)
    intro a fr
    refine lst rfl (ow_v fr (rn_assign (fr.ev rfl)) rfl rfl ?_)
    intro a fr
    refine wpList_nil ?_
    refine then_n ?_
    refine cond_f fr rfl rfl ?_
    refine wp_seq ?_
    refine reg ?_
    refine lst rfl (ow_v fr (rn_as (rn_eql (fr.ev rfl) (fr.ev rfl)) (by rfl)) rfl rfl ?_)
    intro a fr
    refine lst rfl (ow_v fr (rn_assign (fr.ev rfl)) rfl rfl ?_)
    intro a fr
    refine wpList_nil ?_
    refine then_n ?_
    refine cond_f fr rfl rfl ?_
    refine reg ?_
    refine lst rfl (ow_v fr (rn_as (rn_eql (fr.ev rfl) (fr.ev rfl)) (by rfl)) rfl rfl ?_)
    intro a fr
    refine lst rfl (ow_v fr (rn_assign (fr.ev rfl)) rfl rfl ?_)
    intro a fr
    refine wpList_nil ?_
    refine then_n ?_
    refine cond_f fr rfl rfl ?_
    refine wp_seq ?_
    refine reg ?_
    refine lst rfl (ow_v fr (rn_as (rn_eql (fr.ev rfl) (fr.ev rfl)) (by rfl)) rfl rfl ?_)
    intro a fr
    refine lst rfl (ow_v fr (rn_assign (fr.ev rfl)) rfl rfl ?_)
    intro a fr
    refine wpList_nil ?_
    refine then_n ?_
    refine cond_f fr rfl rfl ?_
    refine wp_seq ?_
    refine reg ?_
    refine lst rfl (ow_v fr (rn_as (rn_eql (fr.ev rfl) (fr.ev rfl)) (by rfl)) rfl rfl ?_)
    intro a fr
    refine lst rfl (ow_v fr (rn_assign (fr.ev rfl)) rfl rfl ?_)
    intro a fr
    refine wpList_nil ?_
    refine then_n ?_
    refine cond_f fr rfl rfl ?_
    refine wp_seq ?_
    refine reg ?_
    refine lst rfl (ow_v fr (rn_as (rn_eql (fr.ev rfl) (fr.ev rfl)) (by rfl)) rfl rfl ?_)
    intro a fr
    refine lst rfl (ow_v fr (rn_assign (fr.ev rfl)) rfl rfl ?_)
    intro a fr
    refine wpList_nil ?_
    refine then_n ?_
    refine cond_f fr rfl rfl ?_
    refine wp_seq ?_
    refine reg ?_
    refine lst rfl (ow_v fr (rn_as (rn_eql (fr.ev rfl) (fr.ev rfl)) (by rfl)) rfl rfl ?_)
    intro a fr
    refine lst rfl (ow_v fr (rn_assign (fr.ev rfl)) rfl rfl ?_)
    intro a fr
    refine wpList_nil ?_
    refine then_n ?_
    refine cond_f fr rfl rfl ?_
    refine wp_seq ?_
    refine reg ?_
    refine lst rfl (ow_v fr (rn_as (rn_eql (fr.ev rfl) (fr.ev rfl)) (by rfl)) rfl rfl ?_)
    intro a fr
    refine lst rfl (ow_v fr (rn_assign (fr.ev rfl)) rfl rfl ?_)
    intro a fr
    refine wpList_nil ?_
    refine then_n ?_
    refine cond_t fr rfl rfl ?_
    refine reg ?_
    refine lst rfl (ow_v fr (rn_move (fr.ev rfl)) rfl rfl ?_)
    intro a fr
    refine lst rfl (ow_v fr (rn_move (fr.ev rfl)) rfl rfl ?_)
    intro a fr
    refine lst rfl (ow_call fr rfl rfl Try.call45 (signed8 (bs[k + 2].toNat) (by omega) _) rfl rfl ?_)
    rintro e w ⟨rfl, hag⟩
    refine ⟨_, rfl, ?_⟩
    intro a fr
    have st := st.keep hag
    clear hag
    refine lst rfl (ow_v fr (fa_29_2 (fr.ev rfl)) rfl rfl ?_)
    intro a fr
    refine lst rfl (ow_st fr st 2 rfl rfl rfl rfl sz_3 rfl rfl rfl ?_)
    intro w (st : St _ [] w [ro b2 (o3 + (k + 2) * 1) [.int .u8 ((bs[k + 2].toNat : Nat))], ro b2 (o3 + (k + 1) * 1) [.int .u8 ((bs[k + 1].toNat : Nat))], .blk b4 [.int .i64 ((k : Nat)), .int .i64 ((bs[k].toNat : Nat)), .int .i64 ((bs[k + 1].toNat : Nat)), .int .i64 0] 29, ro b2 (o3 + k * 1) [.int .u8 ((bs[k].toNat : Nat))], .blk b1 [.int .i64 0, .int .i64 0, .int .i64 0, .int .i64 0] 29, els C8 1 (some ⟨b2, o3, none⟩) bs])
    refine lst rfl (ow_v fr (fa_29_3 (fr.ev rfl)) rfl rfl ?_)
    intro a fr
    refine lst rfl (ow_st fr st 2 rfl rfl rfl rfl sz_3 rfl rfl rfl ?_)
    intro w (st : St _ [] w [ro b2 (o3 + (k + 2) * 1) [.int .u8 ((bs[k + 2].toNat : Nat))], ro b2 (o3 + (k + 1) * 1) [.int .u8 ((bs[k + 1].toNat : Nat))], .blk b4 [.int .i64 ((k : Nat)), .int .i64 ((bs[k].toNat : Nat)), .int .i64 ((bs[k + 1].toNat : Nat)), .int .i64 (sx8 (bs[k + 2].toNat))] 29, ro b2 (o3 + k * 1) [.int .u8 ((bs[k].toNat : Nat))], .blk b1 [.int .i64 0, .int .i64 0, .int .i64 0, .int .i64 0] 29, els C8 1 (some ⟨b2, o3, none⟩) bs])
    refine wpList_nil ?_
    refine blk_n ?_
    refine then_n ?_
    refine wp_seq ?_
    refine wp_seq ?_
    refine reg ?_
    refine lst rfl (ow_v fr (rn_move (fr.ev rfl)) rfl rfl ?_)
    intro a fr
    refine lst rfl (ow_v fr (rn_as (rn_eql (fr.ev rfl) (fr.ev rfl)) (by rfl)) rfl rfl ?_)
    intro a fr
    refine lst rfl (ow_v fr (rn_move (fr.ev rfl)) rfl rfl ?_)
    intro a fr
    refine lst_n (unwanted_of fr rfl rfl rfl rfl) fr rfl rfl ?_
    intro a fr
    refine lst_n (unwanted_of fr rfl rfl rfl rfl) fr rfl rfl ?_
    intro a fr
    refine lst_n (unwanted_of fr rfl rfl rfl rfl) fr rfl rfl ?_
    intro a fr
    refine lst rfl (ow_v fr (rn_pick_f (fr.ev rfl) (fr.ev rfl)) rfl rfl ?_)
    intro a fr
    refine lst rfl (ow_v fr (rn_move (fr.ev rfl)) rfl rfl ?_)
    intro a fr
    refine lst_n (unwanted_of fr rfl rfl rfl rfl) fr rfl rfl ?_
    intro a fr
    refine lst_n (unwanted_of fr rfl rfl rfl rfl) fr rfl rfl ?_
    intro a fr
    refine lst_n (unwanted_of fr rfl rfl rfl rfl) fr rfl rfl ?_
    intro a fr
    refine lst rfl (ow_v fr (rn_pick_f (fr.ev rfl) (fr.ev rfl)) rfl rfl ?_)
    intro a fr
    refine wpList_nil ?_
    refine then_n ?_
    refine cond_f fr rfl rfl ?_
    refine wp_skip ?_
    refine then_n ?_
    refine wp_seq ?_
    refine reg ?_
    refine lst rfl (ow_v fr (rn_loadN (cs := [.int .i64 ((k : Nat)), .int .i64 ((bs[k].toNat : Nat)), .int .i64 ((bs[k + 1].toNat : Nat)), .int .i64 (sx8 (bs[k + 2].toNat))]) (fr.ev rfl) Try.underlying29 rfl sz_29 (st.blkrange 2 rfl 0 rfl)) rfl rfl ?_)
    intro a fr
    refine lst rfl (ow_v fr (rn_move (fr.ev rfl)) rfl rfl ?_)
    intro a fr
    refine lst rfl (ow_v fr (rn_add (a := (k : Nat)) (b := 1) (c := ((k + 1 : Nat) : Int)) (fr.ev rfl) (fr.ev rfl) (wr_i64e (by omega) (by omega) (by omega))) rfl rfl ?_)
    intro a fr
    refine lst rfl (ow_v fr (rn_move (fr.ev rfl)) rfl rfl ?_)
    intro a fr
    refine lst rfl (ow_v fr (rn_add (a := ((k + 1 : Nat) : Int)) (b := 2) (c := ((k + 1 + 2 : Nat) : Int)) (fr.ev rfl) (fr.ev rfl) (wr_i64e (by omega) (by omega) (by omega))) rfl rfl ?_)
    intro a fr
    refine lst rfl (ow_stN fr st 4 (vs := [.int .i64 ((k : Nat)), .int .i64 ((bs[k].toNat : Nat)), .int .i64 ((bs[k + 1].toNat : Nat)), .int .i64 (sx8 (bs[k + 2].toNat))]) rfl rfl rfl rfl sz_29 rfl (Nat.le_of_ble_eq_true rfl) rfl ?_)
    intro w (st : St _ [] w [ro b2 (o3 + (k + 2) * 1) [.int .u8 ((bs[k + 2].toNat : Nat))], ro b2 (o3 + (k + 1) * 1) [.int .u8 ((bs[k + 1].toNat : Nat))], .blk b4 [.int .i64 ((k : Nat)), .int .i64 ((bs[k].toNat : Nat)), .int .i64 ((bs[k + 1].toNat : Nat)), .int .i64 (sx8 (bs[k + 2].toNat))] 29, ro b2 (o3 + k * 1) [.int .u8 ((bs[k].toNat : Nat))], .blk b1 [.int .i64 ((k : Nat)), .int .i64 ((bs[k].toNat : Nat)), .int .i64 ((bs[k + 1].toNat : Nat)), .int .i64 (sx8 (bs[k + 2].toNat))] 29, els C8 1 (some ⟨b2, o3, none⟩) bs])
    refine lst rfl (ow_v fr (rn_assign (fr.ev rfl)) rfl rfl ?_)
    intro a fr
    refine lst rfl (ow_v fr (rn_assign (fr.ev rfl)) rfl rfl ?_)
    intro a fr
    refine wpList_nil ?_
    refine then_n ?_
    refine wp_ret ?_
    refine ret3 Try.results14 fr (rv_row (cs := [.int .i64 ((k : Nat)), .int .i64 ((bs[k].toNat : Nat)), .int .i64 ((bs[k + 1].toNat : Nat)), .int .i64 (sx8 (bs[k + 2].toNat))]) fr rfl Try.underlying29 rfl (by first | exact sz_29 | simpa using sz_29) (st.blkrange 4 rfl 0 rfl)) (rv_tmp fr rfl) (rv_tmp fr rfl) ?_
    exact ⟨by simp [okA, okB, behF, insC, ub_eq hk, ub_eq hk1, ub_eq hk2, Nat.mul_comm 256], st.agr⟩
  · have hs2 : k + 1 + 1 ≤ bs.length := hs
    have hk1 : k + 1 < bs.length := by omega
    have hu := ub_eq hk1
    rcases (by omega : bs[k + 1].toNat = 10 ∨ bs[k + 1].toNat = 11) with h10 | h11
    · refine enter Try.func14 rfl Try.ntmps14 (by simp) ?_
      intro a fr
      refine wp_seq ?_
      refine reg ?_
      refine lst rfl (ow_alloc fr st rfl zv_29 rfl rfl _ (by rfl) ?_)
      intro a w b1 fr st
      refine lst rfl (ow_v fr (rn_assign (fr.ev rfl)) rfl rfl ?_)
      intro a fr
      refine lst rfl (ow_v fr (rn_assign (fr.ev rfl)) rfl rfl ?_)
      intro a fr
      refine wpList_nil ?_
      refine then_n ?_
      refine wp_seq ?_
      refine wp_seq ?_
      refine reg ?_
      refine lst rfl (ow_v fr (rn_move (fr.ev rfl)) rfl rfl ?_)
      intro a fr
      refine lst rfl (ow_v fr (rn_as (v' := .bool false) (rn_lss (fr.ev rfl) (fr.ev rfl)) (congrArg Value.bool (decide_eq_false (by omega)))) rfl rfl ?_)
      intro a fr
      refine lst rfl (ow_v fr (rn_move (fr.ev rfl)) rfl rfl ?_)
      intro a fr
      refine lst_y (wanted_of fr rfl rfl rfl rfl) (ow_v fr (rn_move (fr.ev rfl)) rfl rfl ?_)
      intro a fr
      refine lst_y (wanted_of fr rfl rfl rfl rfl) (ow_v fr (rn_move (fr.ev rfl)) rfl rfl ?_)
      intro a fr
      refine lst_y (wanted_of fr rfl rfl rfl rfl) (ow_v fr (rn_len (fr.ev rfl) Try.underlying22) rfl rfl ?_)
      intro a fr
      refine lst_y (wanted_of fr rfl rfl rfl rfl) (ow_v fr (rn_as (v' := .bool false) (rn_geq (fr.ev rfl) (fr.ev rfl)) (congrArg Value.bool (decide_eq_false (by omega)))) rfl rfl ?_)
      intro a fr
      refine lst rfl (ow_v fr (rn_pick_f (fr.ev rfl) (fr.ev rfl)) rfl rfl ?_)
      intro a fr
      refine wpList_nil ?_
      refine then_n ?_
      refine cond_f fr rfl rfl ?_
      refine wp_skip ?_
      refine then_n ?_
      refine wp_seq ?_
      refine reg ?_
      refine lst rfl (ow_v fr (rn_move (fr.ev rfl)) rfl rfl ?_)
      intro a fr
      refine lst rfl (ow_v fr (rn_move (fr.ev rfl)) rfl rfl ?_)
      intro a fr
      refine lst rfl (ow_v fr (rn_move (fr.ev rfl)) rfl rfl ?_)
      intro a fr
      have hb3 := u8lt (bs[k]'(by omega))
      obtain ⟨b2, o3, eA, st_⟩ := st.elem 1 rfl k (by omega) (by simp [C8])
      have fr_ := fr
      cases eA
      have st := st_
      have fr := fr_
      clear st_ fr_
      replace st : St _ [] w [ro b2 (o3 + k * 1) [.int .u8 ((bs[k].toNat : Nat))], .blk b1 [.int .i64 0, .int .i64 0, .int .i64 0, .int .i64 0] 29, els C8 1 (some ⟨b2, o3, none⟩) bs] := st
      refine lst rfl (ow_v fr (rn_at (i := k) (fr.ev rfl) (fr.ev rfl) Try.underlying22 sz_5 (by omega) (by rfl)) rfl rfl ?_)
      intro a fr
      refine lst rfl (ow_v fr (rn_load (fr.ev rfl) Try.underlying5 rfl (st.rocell 0 rfl (j := 0) rfl)) rfl rfl ?_)
      intro a fr
      refine lst rfl (ow_v fr (rn_conv (c := (bs[k].toNat : Nat)) (fr.ev rfl) (by kernel_rfl) Try.underlying3 (wr_i64 _ (by omega) (by omega))) rfl rfl ?_)
      intro a fr
      refine lst rfl (ow_v fr (rn_build (cells := #[.int .i64 ((k : Nat)), .int .i64 ((bs[k].toNat : Nat)), .int .i64 0, .int .i64 0]) (by simp only [List.map_toArray, List.map_cons, List.map_nil]; rw [fr.ev (x := .tmp 22) rfl, fr.ev (x := .tmp 27) rfl]; rfl)) rfl rfl ?_)
      intro a fr
      refine lst rfl (ow_alloc fr st rfl zv_29 rfl rfl _ (by rfl) ?_)
      intro a w b4 fr st
      refine lst rfl (ow_stN fr st 0 (vs := [.int .i64 ((k : Nat)), .int .i64 ((bs[k].toNat : Nat)), .int .i64 0, .int .i64 0]) rfl rfl rfl rfl sz_29 rfl (Nat.le_of_ble_eq_true rfl) rfl ?_)
      intro w (st : St _ [] w [.blk b4 [.int .i64 ((k : Nat)), .int .i64 ((bs[k].toNat : Nat)), .int .i64 0, .int .i64 0] 29, ro b2 (o3 + k * 1) [.int .u8 ((bs[k].toNat : Nat))], .blk b1 [.int .i64 0, .int .i64 0, .int .i64 0, .int .i64 0] 29, els C8 1 (some ⟨b2, o3, none⟩) bs])
      refine wpList_nil ?_
      refine then_n ?_
      refine wp_seq ?_
      refine reg ?_
      refine lst rfl (ow_v fr (fa_29_1 (fr.ev rfl)) rfl rfl ?_)
      intro a fr
      refine lst rfl (ow_v fr (rn_load (fr.ev rfl) Try.underlying3 rfl (st.cell 0 rfl rfl)) rfl rfl ?_)
      intro a fr
      refine lst rfl (ow_call fr rfl rfl Try.call20 (rform_t _ h _) rfl rfl ?_)
      rintro e w ⟨rfl, hag⟩
      refine ⟨_, rfl, ?_⟩
      intro a fr
      have st := st.keep hag
      clear hag
      refine lst rfl (ow_v fr (rn_move (fr.ev rfl)) rfl rfl ?_)
      intro a fr
      refine lst rfl (ow_v fr (rn_extract (fr.ev rfl) rfl) rfl rfl ?_)
      intro a fr
      refine lst rfl (ow_v fr (rn_extract (fr.ev rfl) rfl) rfl rfl ?_)
      intro a fr
      refine lst rfl (ow_v fr (rn_assign (fr.ev rfl)) rfl rfl ?_)
      intro a fr
      refine lst rfl (ow_v fr (rn_assign (fr.ev rfl)) rfl rfl ?_)
      intro a fr
      refine wpList_nil ?_
      refine then_n ?_
      refine wp_seq ?_
      refine wp_seq ?_
      refine reg ?_
      refine lst rfl (ow_v fr (rn_move (fr.ev rfl)) rfl rfl ?_)
      intro a fr
      refine lst rfl (ow_v fr (rn_not (fr.ev rfl)) rfl rfl ?_)
      intro a fr
      refine wpList_nil ?_
      refine then_n ?_
      refine cond_f fr rfl rfl ?_
      refine wp_skip ?_
      refine then_n ?_
      refine wp_seq ?_
      refine reg ?_
      refine lst rfl (ow_v fr (rn_move (fr.ev rfl)) rfl rfl ?_)
      intro a fr
      refine lst rfl (ow_call fr rfl rfl Try.call44 (behind_lit 8 1 (by simp [Rng]) (by decide) _) rfl rfl ?_)
      rintro e w ⟨rfl, hag⟩
      refine ⟨_, rfl, ?_⟩
      intro a fr
      have st := st.keep hag
      clear hag
      refine lst rfl (ow_v fr (rn_assign (fr.ev rfl)) rfl rfl ?_)
      intro a fr
      refine wpList_nil ?_
      refine then_n ?_
      refine wp_seq ?_
      refine wp_seq ?_
      refine reg ?_
      refine lst rfl (ow_v fr (rn_move (fr.ev rfl)) rfl rfl ?_)
      intro a fr
      refine lst rfl (ow_v fr (rn_move (fr.ev rfl)) rfl rfl ?_)
      intro a fr
      refine lst rfl (ow_v fr (rn_len (fr.ev rfl) Try.underlying22) rfl rfl ?_)
      intro a fr
      refine lst rfl (ow_v fr (rn_move (fr.ev rfl)) rfl rfl ?_)
      intro a fr
      refine lst rfl (ow_v fr (rn_sub (a := (bs.length : Nat)) (b := (k : Nat)) (c := (bs.length : Nat) - (k : Nat)) (fr.ev rfl) (fr.ev rfl) (wr_i64e (by omega) (by omega) (by omega))) rfl rfl ?_)
      intro a fr
      refine lst rfl (ow_v fr (rn_sub (a := (bs.length : Nat) - (k : Nat)) (b := 1) (c := (bs.length : Nat) - (k : Nat) - 1) (fr.ev rfl) (fr.ev rfl) (wr_i64e (by omega) (by omega) (by omega))) rfl rfl ?_)
      intro a fr
      refine lst rfl (ow_v fr (rn_as (v' := .bool false) (rn_gtr (fr.ev rfl) (fr.ev rfl)) (congrArg Value.bool (decide_eq_false (by omega)))) rfl rfl ?_)
      intro a fr
      refine wpList_nil ?_
      refine then_n ?_
      refine cond_f fr rfl rfl ?_
      refine wp_skip ?_
      refine then_n ?_
      refine wp_seq ?_
      refine reg ?_
      refine lst rfl (ow_v fr (rn_assign (fr.ev rfl)) rfl rfl ?_)
      intro a fr
      refine lst rfl (ow_v fr (rn_assign (fr.ev rfl)) rfl rfl ?_)
      intro a fr
      refine wpList_nil ?_
      refine then_n ?_
      refine wp_seq ?_
      refine wp_seq ?_
      refine reg ?_
      refine lst rfl (ow_v fr (rn_move (fr.ev rfl)) rfl rfl ?_)
      intro a fr
      refine lst rfl (ow_v fr (rn_as (rn_gtr (fr.ev rfl) (fr.ev rfl)) (by rfl)) rfl rfl ?_)
      intro a fr
      refine wpList_nil ?_
      refine then_n ?_
      refine cond_t fr rfl rfl ?_
      refine reg ?_
      refine lst rfl (ow_v fr (rn_move (fr.ev rfl)) rfl rfl ?_)
      intro a fr
      refine lst rfl (ow_v fr (rn_move (fr.ev rfl)) rfl rfl ?_)
      intro a fr
      refine lst rfl (ow_v fr (rn_add (a := (k : Nat)) (b := 1) (c := ((k + 1 : Nat) : Int)) (fr.ev rfl) (fr.ev rfl) (wr_i64e (by omega) (by omega) (by omega))) rfl rfl ?_)
      intro a fr
      have hb6 := u8lt (bs[k + 1]'(by omega))
      have st := (st.elem 3 rfl (k + 1) (by omega) (by simp [C8]))
      obtain ⟨b_, o_, eA, st_⟩ := st
      have fr_ := fr
      cases eA
      have st := st_
      have fr := fr_
      clear st_ fr_
      replace st : St _ [] w [ro b2 (o3 + (k + 1) * 1) [.int .u8 ((bs[k + 1].toNat : Nat))], .blk b4 [.int .i64 ((k : Nat)), .int .i64 ((bs[k].toNat : Nat)), .int .i64 0, .int .i64 0] 29, ro b2 (o3 + k * 1) [.int .u8 ((bs[k].toNat : Nat))], .blk b1 [.int .i64 0, .int .i64 0, .int .i64 0, .int .i64 0] 29, els C8 1 (some ⟨b2, o3, none⟩) bs] := st
      refine lst rfl (ow_v fr (rn_at (i := k + 1) (fr.ev rfl) (fr.ev rfl) Try.underlying22 sz_5 (by omega) (by rfl)) rfl rfl ?_)
      intro a fr
      refine lst rfl (ow_v fr (rn_load (fr.ev rfl) Try.underlying5 rfl (st.rocell 0 rfl (j := 0) rfl)) rfl rfl ?_)
      intro a fr
      refine lst rfl (ow_v fr (rn_conv (c := (bs[k + 1].toNat : Nat)) (fr.ev rfl) (by kernel_rfl) Try.underlying3 (wr_i64 _ (by omega) (by omega))) rfl rfl ?_)
      intro a fr
      refine lst rfl (ow_v fr (rn_assign (fr.ev rfl)) rfl rfl ?_)
      intro a fr
      refine wpList_nil ?_
      refine then_n ?_
      refine wp_seq ?_
      refine wp_seq ?_
      refine reg ?_
      refine lst rfl (ow_v fr (rn_move (fr.ev rfl)) rfl rfl ?_)
      intro a fr
      refine lst rfl (ow_v fr (rn_as (rn_gtr (fr.ev rfl) (fr.ev rfl)) (by rfl)) rfl rfl ?_)
      intro a fr
      refine wpList_nil ?_
      refine then_n ?_
      refine cond_f fr rfl rfl ?_
      refine wp_skip ?_
      refine then_n ?_
      refine wp_seq ?_
      refine wp_seq ?_
      refine reg ?_
      refine lst rfl (ow_v fr (rn_move (fr.ev rfl)) rfl rfl ?_)
      intro a fr
      refine wpList_nil ?_
      refine then_n ?_
      refine wp_block ?_
      refine wp_seq ?_
      refine wp_seq ?_
      refine reg ?_
      refine lst rfl (ow_v fr (rn_as (rn_eql (fr.ev rfl) (fr.ev rfl)) (by rfl)) rfl rfl ?_)
      intro a fr
      refine lst rfl (ow_v fr (rn_assign (fr.ev rfl)) rfl rfl ?_)
      intro a fr
      refine wpList_nil ?_
      refine then_n ?_
      refine cond_f fr rfl rfl ?_
      refine wp_seq ?_
      refine reg ?_
      refine lst rfl (ow_v fr (rn_as (rn_eql (fr.ev rfl) (fr.ev rfl)) (by rfl)) rfl rfl ?_)
      intro a fr
      refine lst rfl (ow_v fr (rn_assign (fr.ev rfl)) rfl rfl ?_)
      intro a fr
      refine wpList_nil ?_
      refine then_n ?_
      refine cond_f fr rfl rfl ?_
      refine reg ?_
      refine lst rfl (ow_v fr (rn_as (rn_eql (fr.ev rfl) (fr.ev rfl)) (by rfl)) rfl rfl ?_)
      intro a fr
      refine lst rfl (ow_v fr (rn_assign (fr.ev rfl)) rfl rfl ?_)
      intro a fr
      refine wpList_nil ?_
      refine then_n ?_
      refine cond_t fr rfl rfl ?_
      refine reg ?_
      refine lst rfl (ow_v fr (rn_move (fr.ev rfl)) rfl rfl ?_)
      intro a fr
      refine lst rfl (ow_v fr (fa_29_2 (fr.ev rfl)) rfl rfl ?_)
      intro a fr
      refine lst rfl (ow_st fr st 1 rfl rfl rfl rfl sz_3 rfl rfl rfl ?_)
      intro w (st : St _ [] w [ro b2 (o3 + (k + 1) * 1) [.int .u8 ((bs[k + 1].toNat : Nat))], .blk b4 [.int .i64 ((k : Nat)), .int .i64 ((bs[k].toNat : Nat)), .int .i64 ((bs[k + 1].toNat : Nat)), .int .i64 0] 29, ro b2 (o3 + k * 1) [.int .u8 ((bs[k].toNat : Nat))], .blk b1 [.int .i64 0, .int .i64 0, .int .i64 0, .int .i64 0] 29, els C8 1 (some ⟨b2, o3, none⟩) bs])
      refine wpList_nil ?_
      refine blk_n ?_
      refine then_n ?_
      refine wp_seq ?_
      refine wp_seq ?_
      refine reg ?_
      refine lst rfl (ow_v fr (rn_move (fr.ev rfl)) rfl rfl ?_)
      intro a fr
      refine lst rfl (ow_v fr (rn_as (rn_eql (fr.ev rfl) (fr.ev rfl)) (by rfl)) rfl rfl ?_)
      intro a fr
      refine lst rfl (ow_v fr (rn_move (fr.ev rfl)) rfl rfl ?_)
      intro a fr
      refine lst_y (wanted_of fr rfl rfl rfl rfl) (ow_v fr (fa_29_2 (fr.ev rfl)) rfl rfl ?_)
      intro a fr
      refine lst_y (wanted_of fr rfl rfl rfl rfl) (ow_v fr (rn_load (fr.ev rfl) Try.underlying3 rfl (st.cell 1 rfl rfl)) rfl rfl ?_)
      intro a fr
      refine lst_y (wanted_of fr rfl rfl rfl rfl) (ow_v fr (rn_as (v' := .bool false) (rn_neq (fr.ev rfl) (fr.ev rfl)) (congrArg Value.bool (by simp; omega))) rfl rfl ?_)
      intro a fr
      refine lst rfl (ow_v fr (rn_pick_t (fr.ev rfl) (fr.ev rfl)) rfl rfl ?_)
      intro a fr
      refine lst rfl (ow_v fr (rn_move (fr.ev rfl)) rfl rfl ?_)
      intro a fr
      refine lst_n (unwanted_of fr rfl rfl rfl rfl) fr rfl rfl ?_
      intro a fr
      refine lst_n (unwanted_of fr rfl rfl rfl rfl) fr rfl rfl ?_
      intro a fr
      refine lst_n (unwanted_of fr rfl rfl rfl rfl) fr rfl rfl ?_
      intro a fr
      refine lst rfl (ow_v fr (rn_pick_f (fr.ev rfl) (fr.ev rfl)) rfl rfl ?_)
      intro a fr
      refine wpList_nil ?_
      refine then_n ?_
      refine cond_f fr rfl rfl ?_
      refine wp_skip ?_
      refine then_n ?_
      refine wp_seq ?_
      refine reg ?_
      refine lst rfl (ow_v fr (rn_loadN (cs := [.int .i64 ((k : Nat)), .int .i64 ((bs[k].toNat : Nat)), .int .i64 ((bs[k + 1].toNat : Nat)), .int .i64 0]) (fr.ev rfl) Try.underlying29 rfl sz_29 (st.blkrange 1 rfl 0 rfl)) rfl rfl ?_)
      intro a fr
      refine lst rfl (ow_v fr (rn_move (fr.ev rfl)) rfl rfl ?_)
      intro a fr
      refine lst rfl (ow_v fr (rn_add (a := (k : Nat)) (b := 1) (c := ((k + 1 : Nat) : Int)) (fr.ev rfl) (fr.ev rfl) (wr_i64e (by omega) (by omega) (by omega))) rfl rfl ?_)
      intro a fr
      refine lst rfl (ow_v fr (rn_move (fr.ev rfl)) rfl rfl ?_)
      intro a fr
      refine lst rfl (ow_v fr (rn_add (a := ((k + 1 : Nat) : Int)) (b := 1) (c := ((k + 1 + 1 : Nat) : Int)) (fr.ev rfl) (fr.ev rfl) (wr_i64e (by omega) (by omega) (by omega))) rfl rfl ?_)
      intro a fr
      refine lst rfl (ow_stN fr st 3 (vs := [.int .i64 ((k : Nat)), .int .i64 ((bs[k].toNat : Nat)), .int .i64 ((bs[k + 1].toNat : Nat)), .int .i64 0]) rfl rfl rfl rfl sz_29 rfl (Nat.le_of_ble_eq_true rfl) rfl ?_)
      intro w (st : St _ [] w [ro b2 (o3 + (k + 1) * 1) [.int .u8 ((bs[k + 1].toNat : Nat))], .blk b4 [.int .i64 ((k : Nat)), .int .i64 ((bs[k].toNat : Nat)), .int .i64 ((bs[k + 1].toNat : Nat)), .int .i64 0] 29, ro b2 (o3 + k * 1) [.int .u8 ((bs[k].toNat : Nat))], .blk b1 [.int .i64 ((k : Nat)), .int .i64 ((bs[k].toNat : Nat)), .int .i64 ((bs[k + 1].toNat : Nat)), .int .i64 0] 29, els C8 1 (some ⟨b2, o3, none⟩) bs])
      refine lst rfl (ow_v fr (rn_assign (fr.ev rfl)) rfl rfl ?_)
      intro a fr
      refine lst rfl (ow_v fr (rn_assign (fr.ev rfl)) rfl rfl ?_)
      intro a fr
      refine wpList_nil ?_
      refine then_n ?_
      refine wp_ret ?_
      refine ret3 Try.results14 fr (rv_row (cs := [.int .i64 ((k : Nat)), .int .i64 ((bs[k].toNat : Nat)), .int .i64 ((bs[k + 1].toNat : Nat)), .int .i64 0]) fr rfl Try.underlying29 rfl (by first | exact sz_29 | simpa using sz_29) (st.blkrange 3 rfl 0 rfl)) (rv_tmp fr rfl) (rv_tmp fr rfl) ?_
      exact ⟨by simp [okA, okB, behF, insC, ub_eq hk, ub_eq hk1, Nat.mul_comm 256], st.agr⟩
    · refine enter Try.func14 rfl Try.ntmps14 (by simp) ?_
      intro a fr
      refine wp_seq ?_
      refine reg ?_
      refine lst rfl (ow_alloc fr st rfl zv_29 rfl rfl _ (by rfl) ?_)
      intro a w b1 fr st
      refine lst rfl (ow_v fr (rn_assign (fr.ev rfl)) rfl rfl ?_)
      intro a fr
      refine lst rfl (ow_v fr (rn_assign (fr.ev rfl)) rfl rfl ?_)
      intro a fr
      refine wpList_nil ?_
      refine then_n ?_
      refine wp_seq ?_
      refine wp_seq ?_
      refine reg ?_
      refine lst rfl (ow_v fr (rn_move (fr.ev rfl)) rfl rfl ?_)
      intro a fr
      refine lst rfl (ow_v fr (rn_as (v' := .bool false) (rn_lss (fr.ev rfl) (fr.ev rfl)) (congrArg Value.bool (decide_eq_false (by omega)))) rfl rfl ?_)
      intro a fr
      refine lst rfl (ow_v fr (rn_move (fr.ev rfl)) rfl rfl ?_)
      intro a fr
      refine lst_y (wanted_of fr rfl rfl rfl rfl) (ow_v fr (rn_move (fr.ev rfl)) rfl rfl ?_)
      intro a fr
      refine lst_y (wanted_of fr rfl rfl rfl rfl) (ow_v fr (rn_move (fr.ev rfl)) rfl rfl ?_)
      intro a fr
      refine lst_y (wanted_of fr rfl rfl rfl rfl) (ow_v fr (rn_len (fr.ev rfl) Try.underlying22) rfl rfl ?_)
      intro a fr
      refine lst_y (wanted_of fr rfl rfl rfl rfl) (ow_v fr (rn_as (v' := .bool false) (rn_geq (fr.ev rfl) (fr.ev rfl)) (congrArg Value.bool (decide_eq_false (by omega)))) rfl rfl ?_)
      intro a fr
      refine lst rfl (ow_v fr (rn_pick_f (fr.ev rfl) (fr.ev rfl)) rfl rfl ?_)
      intro a fr
      refine wpList_nil ?_
      refine then_n ?_
      refine cond_f fr rfl rfl ?_
      refine wp_skip ?_
      refine then_n ?_
      refine wp_seq ?_
      refine reg ?_
      refine lst rfl (ow_v fr (rn_move (fr.ev rfl)) rfl rfl ?_)
      intro a fr
      refine lst rfl (ow_v fr (rn_move (fr.ev rfl)) rfl rfl ?_)
      intro a fr
      refine lst rfl (ow_v fr (rn_move (fr.ev rfl)) rfl rfl ?_)
      intro a fr
      have hb3 := u8lt (bs[k]'(by omega))
      obtain ⟨b2, o3, eA, st_⟩ := st.elem 1 rfl k (by omega) (by simp [C8])
      have fr_ := fr
      cases eA
      have st := st_
      have fr := fr_
      clear st_ fr_
      replace st : St _ [] w [ro b2 (o3 + k * 1) [.int .u8 ((bs[k].toNat : Nat))], .blk b1 [.int .i64 0, .int .i64 0, .int .i64 0, .int .i64 0] 29, els C8 1 (some ⟨b2, o3, none⟩) bs] := st
      refine lst rfl (ow_v fr (rn_at (i := k) (fr.ev rfl) (fr.ev rfl) Try.underlying22 sz_5 (by omega) (by rfl)) rfl rfl ?_)
      intro a fr
      refine lst rfl (ow_v fr (rn_load (fr.ev rfl) Try.underlying5 rfl (st.rocell 0 rfl (j := 0) rfl)) rfl rfl ?_)
      intro a fr
      refine lst rfl (ow_v fr (rn_conv (c := (bs[k].toNat : Nat)) (fr.ev rfl) (by kernel_rfl) Try.underlying3 (wr_i64 _ (by omega) (by omega))) rfl rfl ?_)
      intro a fr
      refine lst rfl (ow_v fr (rn_build (cells := #[.int .i64 ((k : Nat)), .int .i64 ((bs[k].toNat : Nat)), .int .i64 0, .int .i64 0]) (by simp only [List.map_toArray, List.map_cons, List.map_nil]; rw [fr.ev (x := .tmp 22) rfl, fr.ev (x := .tmp 27) rfl]; rfl)) rfl rfl ?_)
      intro a fr
      refine lst rfl (ow_alloc fr st rfl zv_29 rfl rfl _ (by rfl) ?_)
      intro a w b4 fr st
      refine lst rfl (ow_stN fr st 0 (vs := [.int .i64 ((k : Nat)), .int .i64 ((bs[k].toNat : Nat)), .int .i64 0, .int .i64 0]) rfl rfl rfl rfl sz_29 rfl (Nat.le_of_ble_eq_true rfl) rfl ?_)
      intro w (st : St _ [] w [.blk b4 [.int .i64 ((k : Nat)), .int .i64 ((bs[k].toNat : Nat)), .int .i64 0, .int .i64 0] 29, ro b2 (o3 + k * 1) [.int .u8 ((bs[k].toNat : Nat))], .blk b1 [.int .i64 0, .int .i64 0, .int .i64 0, .int .i64 0] 29, els C8 1 (some ⟨b2, o3, none⟩) bs])
      refine wpList_nil ?_
      refine then_n ?_
      refine wp_seq ?_
      refine reg ?_
      refine lst rfl (ow_v fr (fa_29_1 (fr.ev rfl)) rfl rfl ?_)
      intro a fr
      refine lst rfl (ow_v fr (rn_load (fr.ev rfl) Try.underlying3 rfl (st.cell 0 rfl rfl)) rfl rfl ?_)
      intro a fr
      refine lst rfl (ow_call fr rfl rfl Try.call20 (rform_t _ h _) rfl rfl ?_)
      rintro e w ⟨rfl, hag⟩
      refine ⟨_, rfl, ?_⟩
      intro a fr
      have st := st.keep hag
      clear hag
      refine lst rfl (ow_v fr (rn_move (fr.ev rfl)) rfl rfl ?_)
      intro a fr
      refine lst rfl (ow_v fr (rn_extract (fr.ev rfl) rfl) rfl rfl ?_)
      intro a fr
      refine lst rfl (ow_v fr (rn_extract (fr.ev rfl) rfl) rfl rfl ?_)
      intro a fr
      refine lst rfl (ow_v fr (rn_assign (fr.ev rfl)) rfl rfl ?_)
      intro a fr
      refine lst rfl (ow_v fr (rn_assign (fr.ev rfl)) rfl rfl ?_)
      intro a fr
      refine wpList_nil ?_
      refine then_n ?_
      refine wp_seq ?_
      refine wp_seq ?_
      refine reg ?_
      refine lst rfl (ow_v fr (rn_move (fr.ev rfl)) rfl rfl ?_)
      intro a fr
      refine lst rfl (ow_v fr (rn_not (fr.ev rfl)) rfl rfl ?_)
      intro a fr
      refine wpList_nil ?_
      refine then_n ?_
      refine cond_f fr rfl rfl ?_
      refine wp_skip ?_
      refine then_n ?_
      refine wp_seq ?_
      refine reg ?_
      refine lst rfl (ow_v fr (rn_move (fr.ev rfl)) rfl rfl ?_)
      intro a fr
      refine lst rfl (ow_call fr rfl rfl Try.call44 (behind_lit 8 1 (by simp [Rng]) (by decide) _) rfl rfl ?_)
      rintro e w ⟨rfl, hag⟩
      refine ⟨_, rfl, ?_⟩
      intro a fr
      have st := st.keep hag
      clear hag
      refine lst rfl (ow_v fr (rn_assign (fr.ev rfl)) rfl rfl ?_)
      intro a fr
      refine wpList_nil ?_
      refine then_n ?_
      refine wp_seq ?_
      refine wp_seq ?_
      refine reg ?_
      refine lst rfl (ow_v fr (rn_move (fr.ev rfl)) rfl rfl ?_)
      intro a fr
      refine lst rfl (ow_v fr (rn_move (fr.ev rfl)) rfl rfl ?_)
      intro a fr
      refine lst rfl (ow_v fr (rn_len (fr.ev rfl) Try.underlying22) rfl rfl ?_)
      intro a fr
      refine lst rfl (ow_v fr (rn_move (fr.ev rfl)) rfl rfl ?_)
      intro a fr
      refine lst rfl (ow_v fr (rn_sub (a := (bs.length : Nat)) (b := (k : Nat)) (c := (bs.length : Nat) - (k : Nat)) (fr.ev rfl) (fr.ev rfl) (wr_i64e (by omega) (by omega) (by omega))) rfl rfl ?_)
      intro a fr
      refine lst rfl (ow_v fr (rn_sub (a := (bs.length : Nat) - (k : Nat)) (b := 1) (c := (bs.length : Nat) - (k : Nat) - 1) (fr.ev rfl) (fr.ev rfl) (wr_i64e (by omega) (by omega) (by omega))) rfl rfl ?_)
      intro a fr
      refine lst rfl (ow_v fr (rn_as (v' := .bool false) (rn_gtr (fr.ev rfl) (fr.ev rfl)) (congrArg Value.bool (decide_eq_false (by omega)))) rfl rfl ?_)
      intro a fr
      refine wpList_nil ?_
      refine then_n ?_
      refine cond_f fr rfl rfl ?_
      refine wp_skip ?_
      refine then_n ?_
      refine wp_seq ?_
      refine reg ?_
      refine lst rfl (ow_v fr (rn_assign (fr.ev rfl)) rfl rfl ?_)
      intro a fr
      refine lst rfl (ow_v fr (rn_assign (fr.ev rfl)) rfl rfl ?_)
      intro a fr
      refine wpList_nil ?_
      refine then_n ?_
      refine wp_seq ?_
      refine wp_seq ?_
      refine reg ?_
      refine lst rfl (ow_v fr (rn_move (fr.ev rfl)) rfl rfl ?_)
      intro a fr
      refine lst rfl (ow_v fr (rn_as (rn_gtr (fr.ev rfl) (fr.ev rfl)) (by rfl)) rfl rfl ?_)
      intro a fr
      refine wpList_nil ?_
      refine then_n ?_
      refine cond_t fr rfl rfl ?_
      refine reg ?_
      refine lst rfl (ow_v fr (rn_move (fr.ev rfl)) rfl rfl ?_)
      intro a fr
      refine lst rfl (ow_v fr (rn_move (fr.ev rfl)) rfl rfl ?_)
      intro a fr
      refine lst rfl (ow_v fr (rn_add (a := (k : Nat)) (b := 1) (c := ((k + 1 : Nat) : Int)) (fr.ev rfl) (fr.ev rfl) (wr_i64e (by omega) (by omega) (by omega))) rfl rfl ?_)
      intro a fr
      have hb6 := u8lt (bs[k + 1]'(by omega))
      have st := (st.elem 3 rfl (k + 1) (by omega) (by simp [C8]))
      obtain ⟨b_, o_, eA, st_⟩ := st
      have fr_ := fr
      cases eA
      have st := st_
      have fr := fr_
      clear st_ fr_
      replace st : St _ [] w [ro b2 (o3 + (k + 1) * 1) [.int .u8 ((bs[k + 1].toNat : Nat))], .blk b4 [.int .i64 ((k : Nat)), .int .i64 ((bs[k].toNat : Nat)), .int .i64 0, .int .i64 0] 29, ro b2 (o3 + k * 1) [.int .u8 ((bs[k].toNat : Nat))], .blk b1 [.int .i64 0, .int .i64 0, .int .i64 0, .int .i64 0] 29, els C8 1 (some ⟨b2, o3, none⟩) bs] := st
      refine lst rfl (ow_v fr (rn_at (i := k + 1) (fr.ev rfl) (fr.ev rfl) Try.underlying22 sz_5 (by omega) (by rfl)) rfl rfl ?_)
      intro a fr
      refine lst rfl (ow_v fr (rn_load (fr.ev rfl) Try.underlying5 rfl (st.rocell 0 rfl (j := 0) rfl)) rfl rfl ?_)
      intro a fr
      refine lst rfl (ow_v fr (rn_conv (c := (bs[k + 1].toNat : Nat)) (fr.ev rfl) (by kernel_rfl) Try.underlying3 (wr_i64 _ (by omega) (by omega))) rfl rfl ?_)
      intro a fr
      refine lst rfl (ow_v fr (rn_assign (fr.ev rfl)) rfl rfl ?_)
      intro a fr
      refine wpList_nil ?_
      refine then_n ?_
      refine wp_seq ?_
      refine wp_seq ?_
      refine reg ?_
      refine lst rfl (ow_v fr (rn_move (fr.ev rfl)) rfl rfl ?_)
      intro a fr
      refine lst rfl (ow_v fr (rn_as (rn_gtr (fr.ev rfl) (fr.ev rfl)) (by rfl)) rfl rfl ?_)
      intro a fr
      refine wpList_nil ?_
      refine then_n ?_
      refine cond_f fr rfl rfl ?_
      refine wp_skip ?_
      refine then_n ?_
      refine wp_seq ?_
      refine wp_seq ?_
      refine reg ?_
      refine lst rfl (ow_v fr (rn_move (fr.ev rfl)) rfl rfl ?_)
      intro a fr
      refine wpList_nil ?_
      refine then_n ?_
      refine wp_block ?_
      refine wp_seq ?_
      refine wp_seq ?_
      refine reg ?_
      refine lst rfl (ow_v fr (rn_as (rn_eql (fr.ev rfl) (fr.ev rfl)) (by rfl)) rfl rfl ?_)
      intro a fr
      refine lst rfl (ow_v fr (rn_assign (fr.ev rfl)) rfl rfl ?_)
      intro a fr
      refine wpList_nil ?_
      refine then_n ?_
      refine cond_f fr rfl rfl ?_
      refine wp_seq ?_
      refine reg ?_
      refine lst rfl (ow_v fr (rn_as (rn_eql (fr.ev rfl) (fr.ev rfl)) (by rfl)) rfl rfl ?_)
      intro a fr
      refine lst rfl (ow_v fr (rn_assign (fr.ev rfl)) rfl rfl ?_)
      intro a fr
      refine wpList_nil ?_
      refine then_n ?_
      refine cond_f fr rfl rfl ?_
      refine reg ?_
      refine lst rfl (ow_v fr (rn_as (rn_eql (fr.ev rfl) (fr.ev rfl)) (by rfl)) rfl rfl ?_)
      intro a fr
      refine lst rfl (ow_v fr (rn_assign (fr.ev rfl)) rfl rfl ?_)
      intro a fr
      refine wpList_nil ?_
      refine then_n ?_
      refine cond_t fr rfl rfl ?_
      refine reg ?_
      refine lst rfl (ow_v fr (rn_move (fr.ev rfl)) rfl rfl ?_)
      intro a fr
      refine lst rfl (ow_v fr (fa_29_2 (fr.ev rfl)) rfl rfl ?_)
      intro a fr
      refine lst rfl (ow_st fr st 1 rfl rfl rfl rfl sz_3 rfl rfl rfl ?_)
      intro w (st : St _ [] w [ro b2 (o3 + (k + 1) * 1) [.int .u8 ((bs[k + 1].toNat : Nat))], .blk b4 [.int .i64 ((k : Nat)), .int .i64 ((bs[k].toNat : Nat)), .int .i64 ((bs[k + 1].toNat : Nat)), .int .i64 0] 29, ro b2 (o3 + k * 1) [.int .u8 ((bs[k].toNat : Nat))], .blk b1 [.int .i64 0, .int .i64 0, .int .i64 0, .int .i64 0] 29, els C8 1 (some ⟨b2, o3, none⟩) bs])
      refine wpList_nil ?_
      refine blk_n ?_
      refine then_n ?_
      refine wp_seq ?_
      refine wp_seq ?_
      refine reg ?_
      refine lst rfl (ow_v fr (rn_move (fr.ev rfl)) rfl rfl ?_)
      intro a fr
      refine lst rfl (ow_v fr (rn_as (rn_eql (fr.ev rfl) (fr.ev rfl)) (by rfl)) rfl rfl ?_)
      intro a fr
      refine lst rfl (ow_v fr (rn_move (fr.ev rfl)) rfl rfl ?_)
      intro a fr
      refine lst_y (wanted_of fr rfl rfl rfl rfl) (ow_v fr (fa_29_2 (fr.ev rfl)) rfl rfl ?_)
      intro a fr
      refine lst_y (wanted_of fr rfl rfl rfl rfl) (ow_v fr (rn_load (fr.ev rfl) Try.underlying3 rfl (st.cell 1 rfl rfl)) rfl rfl ?_)
      intro a fr
      refine lst_y (wanted_of fr rfl rfl rfl rfl) (ow_v fr (rn_as (v' := .bool true) (rn_neq (fr.ev rfl) (fr.ev rfl)) (congrArg Value.bool (by simp; omega))) rfl rfl ?_)
      intro a fr
      refine lst rfl (ow_v fr (rn_pick_t (fr.ev rfl) (fr.ev rfl)) rfl rfl ?_)
      intro a fr
      refine lst rfl (ow_v fr (rn_move (fr.ev rfl)) rfl rfl ?_)
      intro a fr
      refine lst_y (wanted_of fr rfl rfl rfl rfl) (ow_v fr (fa_29_2 (fr.ev rfl)) rfl rfl ?_)
      intro a fr
      refine lst_y (wanted_of fr rfl rfl rfl rfl) (ow_v fr (rn_load (fr.ev rfl) Try.underlying3 rfl (st.cell 1 rfl rfl)) rfl rfl ?_)
      intro a fr
      refine lst_y (wanted_of fr rfl rfl rfl rfl) (ow_v fr (rn_as (v' := .bool false) (rn_neq (fr.ev rfl) (fr.ev rfl)) (congrArg Value.bool (by simp; omega))) rfl rfl ?_)
      intro a fr
      refine lst rfl (ow_v fr (rn_pick_t (fr.ev rfl) (fr.ev rfl)) rfl rfl ?_)
      intro a fr
      refine wpList_nil ?_
      refine then_n ?_
      refine cond_f fr rfl rfl ?_
      refine wp_skip ?_
      refine then_n ?_
      refine wp_seq ?_
      refine reg ?_
      refine lst rfl (ow_v fr (rn_loadN (cs := [.int .i64 ((k : Nat)), .int .i64 ((bs[k].toNat : Nat)), .int .i64 ((bs[k + 1].toNat : Nat)), .int .i64 0]) (fr.ev rfl) Try.underlying29 rfl sz_29 (st.blkrange 1 rfl 0 rfl)) rfl rfl ?_)
      intro a fr
      refine lst rfl (ow_v fr (rn_move (fr.ev rfl)) rfl rfl ?_)
      intro a fr
      refine lst rfl (ow_v fr (rn_add (a := (k : Nat)) (b := 1) (c := ((k + 1 : Nat) : Int)) (fr.ev rfl) (fr.ev rfl) (wr_i64e (by omega) (by omega) (by omega))) rfl rfl ?_)
      intro a fr
      refine lst rfl (ow_v fr (rn_move (fr.ev rfl)) rfl rfl ?_)
      intro a fr
      refine lst rfl (ow_v fr (rn_add (a := ((k + 1 : Nat) : Int)) (b := 1) (c := ((k + 1 + 1 : Nat) : Int)) (fr.ev rfl) (fr.ev rfl) (wr_i64e (by omega) (by omega) (by omega))) rfl rfl ?_)
      intro a fr
      refine lst rfl (ow_stN fr st 3 (vs := [.int .i64 ((k : Nat)), .int .i64 ((bs[k].toNat : Nat)), .int .i64 ((bs[k + 1].toNat : Nat)), .int .i64 0]) rfl rfl rfl rfl sz_29 rfl (Nat.le_of_ble_eq_true rfl) rfl ?_)
      intro w (st : St _ [] w [ro b2 (o3 + (k + 1) * 1) [.int .u8 ((bs[k + 1].toNat : Nat))], .blk b4 [.int .i64 ((k : Nat)), .int .i64 ((bs[k].toNat : Nat)), .int .i64 ((bs[k + 1].toNat : Nat)), .int .i64 0] 29, ro b2 (o3 + k * 1) [.int .u8 ((bs[k].toNat : Nat))], .blk b1 [.int .i64 ((k : Nat)), .int .i64 ((bs[k].toNat : Nat)), .int .i64 ((bs[k + 1].toNat : Nat)), .int .i64 0] 29, els C8 1 (some ⟨b2, o3, none⟩) bs])
      refine lst rfl (ow_v fr (rn_assign (fr.ev rfl)) rfl rfl ?_)
      intro a fr
      refine lst rfl (ow_v fr (rn_assign (fr.ev rfl)) rfl rfl ?_)
      intro a fr
      refine wpList_nil ?_
      refine then_n ?_
      refine wp_ret ?_
      refine ret3 Try.results14 fr (rv_row (cs := [.int .i64 ((k : Nat)), .int .i64 ((bs[k].toNat : Nat)), .int .i64 ((bs[k + 1].toNat : Nat)), .int .i64 0]) fr rfl Try.underlying29 rfl (by first | exact sz_29 | simpa using sz_29) (st.blkrange 3 rfl 0 rfl)) (rv_tmp fr rfl) (rv_tmp fr rfl) ?_
      exact ⟨by simp [okA, okB, behF, insC, ub_eq hk, ub_eq hk1, Nat.mul_comm 256], st.agr⟩

theorem rone_calls (bs : List UInt8) (BA : Option Addr) (bc : Nat) (hbc : bs.length ≤ bc) (hbl : bs.length ≤ 4611686018427387904) (at_ : Int) (w0 : World) (hx : Els C8 1 w0 BA bs) : Calls Try.prog 14 #[.slice BA bs.length bc, .int .i64 at_] w0 fun e w' => e = .returned (encO (oneF bs at_)) ∧ Agr [] w0 w' := by
  unfold oneF
  by_cases h0 : at_ < 0
  · rw [if_pos h0]
    exact rone_out bs BA bc hbc hbl at_ (.inl h0) w0 hx
  · rw [if_neg h0]
    obtain ⟨k, rfl⟩ : ∃ k : Nat, at_ = k := ⟨at_.toNat, by omega⟩
    rw [Int.toNat_natCast]
    unfold oneN
    by_cases h1 : bs.length ≤ k
    · rw [if_pos h1]
      exact rone_out bs BA bc hbc hbl k (.inr (by omega)) w0 hx
    · rw [if_neg h1]
      have hk : k < bs.length := by omega
      rw [ub_eq hk]
      cases hr : tblL.find? (fun r : RowD => r.1 == ((bs[k].toNat : Nat) : Int)) with
      | none => exact rone_bad bs BA bc hbc hbl k hk hr w0 hx
      | some r =>
        obtain ⟨p, q, f⟩ := r
        simp only
        by_cases h2 : bs.length < k + 1 + behF f
        · rw [if_pos h2]
          exact rone_short bs BA bc hbc hbl k hk hr h2 w0 hx
        · rw [if_neg h2]
          by_cases h3 : f = 8 ∧ ub bs (k + 1) ≠ 10 ∧ ub bs (k + 1) ≠ 11
          · rw [if_pos h3]
            obtain ⟨rfl, h4, h5⟩ := h3
            have h6 : behF 8 = 1 := by decide
            have hk1 : k + 1 < bs.length := by omega
            rw [ub_eq hk1] at h4 h5
            exact rone_arr bs BA bc hbc hbl k hk hk1 hr h4 h5 w0 hx
          · rw [if_neg h3]
            exact rone_ok bs BA bc hbc hbl k hk hr (by omega) h3 w0 hx

end Go.Proofs.Yteiohpbghpmohaa.O5
