import Derived.Test.YteiohpbghpmohaaO3
set_option linter.unusedVariables false
set_option linter.unusedSimpArgs false
namespace Go.Proofs.Yteiohpbghpmohaa.O4
open Go.RowKit Go.Proofs.Yteiohpbghpmohaa.LibA Go.Proofs.Yteiohpbghpmohaa.LibC Go.Proofs.Yteiohpbghpmohaa.LibS Go.Proofs.Yteiohpbghpmohaa.LibR Go.Proofs.Yteiohpbghpmohaa.LibT Go.Proofs.Yteiohpbghpmohaa.LibU Go.Proofs.Yteiohpbghpmohaa.LibV Go.Proofs.Yteiohpbghpmohaa.LibW Go.Proofs.Yteiohpbghpmohaa.LibX Go.Proofs.Yteiohpbghpmohaa.LibY Go.Proofs.Yteiohpbghpmohaa.LibZ Go.Proofs.Yteiohpbghpmohaa.LibQ Go.Proofs.Yteiohpbghpmohaa.LibP Go.Proofs.Yteiohpbghpmohaa.LibN Go.Proofs.Yteiohpbghpmohaa.LibH Go.Proofs.Yteiohpbghpmohaa.LibI Go.Proofs.Yteiohpbghpmohaa.O1 Go.Proofs.Yteiohpbghpmohaa.O2 Go.Proofs.Yteiohpbghpmohaa.O3
def ub (bs : List UInt8) (i : Nat) : Nat := (bs.getD i 0).toNat
theorem ub_eq {bs : List UInt8} {i : Nat} (h : i < bs.length) : ub bs i = bs[i].toNat := by simp [ub, h]
theorem u8lt (x : UInt8) : x.toNat < 256 := by have := x.toNat_lt; simpa using this
theorem ub_lt (bs : List UInt8) (i : Nat) : ub bs i < 256 := u8lt _
def okA (bs : List UInt8) (k : Nat) (f : Int) : Int := if f = 0 then 0 else if f = 2 then sx8 (ub bs (k + 1)) else if f = 3 then sx16 (ub bs (k + 1) * 256 + ub bs (k + 2)) else if f = 5 then ((ub bs (k + 1) * 256 + ub bs (k + 2) : Nat) : Int) else if f = 6 then (k : Int) + sx16 (ub bs (k + 1) * 256 + ub bs (k + 2)) else ((ub bs (k + 1) : Nat) : Int)
def okB (bs : List UInt8) (k : Nat) (f : Int) : Int := if f = 7 then sx8 (ub bs (k + 2)) else 0
def zI : InsD := (0, 0, 0, 0)
/-- the instruction at k, whatever stands there -/
def oneN (bs : List UInt8) (k : Nat) : InsD × Int × Int :=
  if bs.length ≤ k then (zI, 0, 11) else match tblL.find? (fun r : RowD => r.1 == ((ub bs k : Nat) : Int)) with
  | none => (zI, 0, 10)
  | some r => if bs.length < k + 1 + behF r.2.2 then (zI, 0, 11) else if r.2.2 = 8 ∧ ub bs (k + 1) ≠ 10 ∧ ub bs (k + 1) ≠ 11 then (zI, 0, 13) else (((k : Int), ((ub bs k : Nat) : Int), okA bs k r.2.2, okB bs k r.2.2), ((k + 1 + behF r.2.2 : Nat) : Int), 0)
def oneF (bs : List UInt8) (at_ : Int) : InsD × Int × Int := if at_ < 0 then (zI, 0, 11) else oneN bs at_.toNat
def encO (r : InsD × Int × Int) : Value := .tuple #[.agg (insC r.1).toArray, .int .i64 r.2.1, .int .i64 r.2.2]
theorem drop_get {xs ms : List UInt8} {i j m : Nat} (h : xs.drop i = ms) (hj : j < ms.length) (hm : m < xs.length) (e : i + j = m) : ms[j] = xs[m] := by subst h; subst e; simp
theorem rest_lit (f : Int) (n : Int) (hf : Rng f) (hn : ((behF f : Nat) : Int) = n) (w0 : World) : Calls Try.prog 43 #[.int .i64 f] w0 fun e w' => e = .returned (.int .i64 n) ∧ Agr [] w0 w' := (rest_calls f hf w0).mono fun e w' ⟨h1, h2⟩ => ⟨by rw [h1, hn], h2⟩
theorem behind_lit (f : Int) (n : Int) (hf : Rng f) (hn : ((behF f : Nat) : Int) = n) (w0 : World) : Calls Try.prog 44 #[.int .i64 f] w0 fun e w' => e = .returned (.int .i64 n) ∧ Agr [] w0 w' := (behind_calls f hf w0).mono fun e w' ⟨h1, h2⟩ => ⟨by rw [h1, hn], h2⟩

theorem fa_29_2 {ρ : Operand → Value} {w : World} {dst : Option Tmp} {ty : TypeId} {pos : String} {aft : Array Edge} {gd : Option (Nat × Bool)} {x : Operand} {b o : Nat} (hx : ρ x = .pointer (some ⟨b, o, none⟩)) : (execOp ρ ⟨dst, .fieldAddr 29 x 2, ty, pos, aft, gd⟩).run Try.prog w = .ok (.value (.pointer (some ⟨b, o + 2, none⟩))) w := rn_field hx Try.underlying29 rfl (by kernel_rfl) rfl
theorem fa_29_3 {ρ : Operand → Value} {w : World} {dst : Option Tmp} {ty : TypeId} {pos : String} {aft : Array Edge} {gd : Option (Nat × Bool)} {x : Operand} {b o : Nat} (hx : ρ x = .pointer (some ⟨b, o, none⟩)) : (execOp ρ ⟨dst, .fieldAddr 29 x 3, ty, pos, aft, gd⟩).run Try.prog w = .ok (.value (.pointer (some ⟨b, o + 3, none⟩))) w := rn_field hx Try.underlying29 rfl (by kernel_rfl) rfl
theorem sz_5 : (Try.prog.info? 5).map (·.size) = some 1 := by kernel_rfl
theorem sz_29 : (Try.prog.info? 29).map (·.size) = some 4 := by kernel_rfl
theorem zv_29 : ∀ w : World, (zeroValue 29).run Try.prog w = .ok (.agg #[.int .i64 0, .int .i64 0, .int .i64 0, .int .i64 0]) w := fun w => by kernel_rfl
theorem one_out (bs : List UInt8) (BA : Option Addr) (bc : Nat) (hbc : bs.length ≤ bc) (hbl : bs.length ≤ 4611686018427387904) (at_ : Int) (h : at_ < 0 ∨ (bs.length : Int) ≤ at_) (w0 : World) (hx : Els C8 1 w0 BA bs) : Calls Try.prog 13 #[.slice BA bs.length bc, .int .i64 (at_)] w0 fun e w' => e = .returned (.tuple #[.agg #[.int .i64 0, .int .i64 0, .int .i64 0, .int .i64 0], .int .i64 0, .int .i64 11]) ∧ Agr [] w0 w' := by
  have st : St w0 [] w0 [els C8 1 BA bs] := (add_ro (start0 w0 []) (by simp [els, ro, It.wr]) rfl (els_ok (C := C8) (sz := 1) (by decide) (fun x => rfl) hx))
  clear hx
  by_cases h0 : at_ < 0
  · refine enter Try.func13 rfl Try.ntmps13 (by simp) ?_
    intro a fr
    refine wp_seq ?_
    refine reg ?_
    refine lst rfl (ow_alloc fr st rfl zv_29 rfl rfl _ (by rfl) ?_)
    intro a w b1 fr st
    refine lst rfl (ow_v fr (rn_assign (fr.ev rfl)) rfl rfl ?_)
    intro a fr
    refine lst rfl (ow_v fr (rn_assign (fr.ev rfl)) rfl rfl ?_)
    intro a fr
    refine wpList_nil ?_
    refine then_n ?_
    refine wp_seq ?_
    refine wp_seq ?_
    refine reg ?_
    refine lst rfl (ow_v fr (rn_move (fr.ev rfl)) rfl rfl ?_)
    intro a fr
    refine lst rfl (ow_v fr (rn_as (v' := .bool true) (rn_lss (fr.ev rfl) (fr.ev rfl)) (congrArg Value.bool (decide_eq_true (by omega)))) rfl rfl ?_)
    intro a fr
    refine lst rfl (ow_v fr (rn_move (fr.ev rfl)) rfl rfl ?_)
    intro a fr
    refine lst_n (unwanted_of fr rfl rfl rfl rfl) fr rfl rfl ?_
    intro a fr
    refine lst_n (unwanted_of fr rfl rfl rfl rfl) fr rfl rfl ?_
    intro a fr
    refine lst_n (unwanted_of fr rfl rfl rfl rfl) fr rfl rfl ?_
    intro a fr
    refine lst_n (unwanted_of fr rfl rfl rfl rfl) fr rfl rfl ?_
    intro a fr
    refine lst rfl (ow_v fr (rn_pick_t (fr.ev rfl) (fr.ev rfl)) rfl rfl ?_)
    intro a fr
    refine wpList_nil ?_
    refine then_n ?_
    refine cond_t fr rfl rfl ?_
    refine wp_seq ?_
    refine reg ?_
    refine lst rfl (ow_v fr (rn_build (cells := #[.int .i64 0, .int .i64 0, .int .i64 0, .int .i64 0]) (by simp only [List.map_toArray, List.map_cons, List.map_nil]; rfl)) rfl rfl ?_)
    intro a fr
    refine lst rfl (ow_stN fr st 0 (vs := [.int .i64 0, .int .i64 0, .int .i64 0, .int .i64 0]) rfl rfl rfl rfl sz_29 rfl (Nat.le_of_ble_eq_true rfl) rfl ?_)
    intro w (st : St _ [] w [.blk b1 [.int .i64 0, .int .i64 0, .int .i64 0, .int .i64 0] 29, els C8 1 BA bs])
    refine lst rfl (ow_v fr (rn_assign (fr.ev rfl)) rfl rfl ?_)
    intro a fr
    refine lst rfl (ow_v fr (rn_assign (fr.ev rfl)) rfl rfl ?_)
    intro a fr
    refine wpList_nil ?_
    refine then_n ?_
    refine wp_ret ?_
    refine then_r ?_
    refine ret3 Try.results13 fr (rv_row (cs := [.int .i64 0, .int .i64 0, .int .i64 0, .int .i64 0]) fr rfl Try.underlying29 rfl (by first | exact sz_29 | simpa using sz_29) (st.blkrange 0 rfl 0 rfl)) (rv_tmp fr rfl) (rv_tmp fr rfl) ?_
    exact ⟨rfl, st.agr⟩
  · refine enter Try.func13 rfl Try.ntmps13 (by simp) ?_
    intro a fr
    refine wp_seq ?_
    refine reg ?_
    refine lst rfl (ow_alloc fr st rfl zv_29 rfl rfl _ (by rfl) ?_)
    intro a w b1 fr st
    refine lst rfl (ow_v fr (rn_assign (fr.ev rfl)) rfl rfl ?_)
    intro a fr
    refine lst rfl (ow_v fr (rn_assign (fr.ev rfl)) rfl rfl ?_)
    intro a fr
    refine wpList_nil ?_
    refine then_n ?_
    refine wp_seq ?_
    refine wp_seq ?_
    refine reg ?_
    refine lst rfl (ow_v fr (rn_move (fr.ev rfl)) rfl rfl ?_)
    intro a fr
    refine lst rfl (ow_v fr (rn_as (v' := .bool false) (rn_lss (fr.ev rfl) (fr.ev rfl)) (congrArg Value.bool (decide_eq_false (by omega)))) rfl rfl ?_)
    intro a fr
    refine lst rfl (ow_v fr (rn_move (fr.ev rfl)) rfl rfl ?_)
    intro a fr
    refine lst_y (wanted_of fr rfl rfl rfl rfl) (ow_v fr (rn_move (fr.ev rfl)) rfl rfl ?_)
    intro a fr
    refine lst_y (wanted_of fr rfl rfl rfl rfl) (ow_v fr (rn_move (fr.ev rfl)) rfl rfl ?_)
    intro a fr
    refine lst_y (wanted_of fr rfl rfl rfl rfl) (ow_v fr (rn_len (fr.ev rfl) Try.underlying22) rfl rfl ?_)
    intro a fr
    refine lst_y (wanted_of fr rfl rfl rfl rfl) (ow_v fr (rn_as (v' := .bool true) (rn_geq (fr.ev rfl) (fr.ev rfl)) (congrArg Value.bool (decide_eq_true (by omega)))) rfl rfl ?_)
    intro a fr
    refine lst rfl (ow_v fr (rn_pick_f (fr.ev rfl) (fr.ev rfl)) rfl rfl ?_)
    intro a fr
    refine wpList_nil ?_
    refine then_n ?_
    refine cond_t fr rfl rfl ?_
    refine wp_seq ?_
    refine reg ?_
    refine lst rfl (ow_v fr (rn_build (cells := #[.int .i64 0, .int .i64 0, .int .i64 0, .int .i64 0]) (by simp only [List.map_toArray, List.map_cons, List.map_nil]; rfl)) rfl rfl ?_)
    intro a fr
    refine lst rfl (ow_stN fr st 0 (vs := [.int .i64 0, .int .i64 0, .int .i64 0, .int .i64 0]) rfl rfl rfl rfl sz_29 rfl (Nat.le_of_ble_eq_true rfl) rfl ?_)
    intro w (st : St _ [] w [.blk b1 [.int .i64 0, .int .i64 0, .int .i64 0, .int .i64 0] 29, els C8 1 BA bs])
    refine lst rfl (ow_v fr (rn_assign (fr.ev rfl)) rfl rfl ?_)
    intro a fr
    refine lst rfl (ow_v fr (rn_assign (fr.ev rfl)) rfl rfl ?_)
    intro a fr
    refine wpList_nil ?_
    refine then_n ?_
    refine wp_ret ?_
    refine then_r ?_
    refine ret3 Try.results13 fr (rv_row (cs := [.int .i64 0, .int .i64 0, .int .i64 0, .int .i64 0]) fr rfl Try.underlying29 rfl (by first | exact sz_29 | simpa using sz_29) (st.blkrange 0 rfl 0 rfl)) (rv_tmp fr rfl) (rv_tmp fr rfl) ?_
    exact ⟨rfl, st.agr⟩

theorem one_bad (bs : List UInt8) (BA : Option Addr) (bc : Nat) (hbc : bs.length ≤ bc) (hbl : bs.length ≤ 4611686018427387904) (k : Nat) (hk : k < bs.length) (h : tblL.find? (fun r : RowD => r.1 == ((bs[k].toNat : Nat) : Int)) = none) (w0 : World) (hx : Els C8 1 w0 BA bs) : Calls Try.prog 13 #[.slice BA bs.length bc, .int .i64 ((k : Nat))] w0 fun e w' => e = .returned (.tuple #[.agg #[.int .i64 0, .int .i64 0, .int .i64 0, .int .i64 0], .int .i64 0, .int .i64 10]) ∧ Agr [] w0 w' := by
  have st : St w0 [] w0 [els C8 1 BA bs] := (add_ro (start0 w0 []) (by simp [els, ro, It.wr]) rfl (els_ok (C := C8) (sz := 1) (by decide) (fun x => rfl) hx))
  clear hx
  refine enter Try.func13 rfl Try.ntmps13 (by simp) ?_
  intro a fr
  refine wp_seq ?_
  refine reg ?_
  refine lst rfl (ow_alloc fr st rfl zv_29 rfl rfl _ (by rfl) ?_)
  intro a w b1 fr st
  refine lst rfl (ow_v fr (rn_assign (fr.ev rfl)) rfl rfl ?_)
  intro a fr
  refine lst rfl (ow_v fr (rn_assign (fr.ev rfl)) rfl rfl ?_)
  intro a fr
  refine wpList_nil ?_
  refine then_n ?_
  refine wp_seq ?_
  refine wp_seq ?_
  refine reg ?_
  refine lst rfl (ow_v fr (rn_move (fr.ev rfl)) rfl rfl ?_)
  intro a fr
  refine lst rfl (ow_v fr (rn_as (v' := .bool false) (rn_lss (fr.ev rfl) (fr.ev rfl)) (congrArg Value.bool (decide_eq_false (by omega)))) rfl rfl ?_)
  intro a fr
  refine lst rfl (ow_v fr (rn_move (fr.ev rfl)) rfl rfl ?_)
  intro a fr
  refine lst_y (wanted_of fr rfl rfl rfl rfl) (ow_v fr (rn_move (fr.ev rfl)) rfl rfl ?_)
  intro a fr
  refine lst_y (wanted_of fr rfl rfl rfl rfl) (ow_v fr (rn_move (fr.ev rfl)) rfl rfl ?_)
  intro a fr
  refine lst_y (wanted_of fr rfl rfl rfl rfl) (ow_v fr (rn_len (fr.ev rfl) Try.underlying22) rfl rfl ?_)
  intro a fr
  refine lst_y (wanted_of fr rfl rfl rfl rfl) (ow_v fr (rn_as (v' := .bool false) (rn_geq (fr.ev rfl) (fr.ev rfl)) (congrArg Value.bool (decide_eq_false (by omega)))) rfl rfl ?_)
  intro a fr
  refine lst rfl (ow_v fr (rn_pick_f (fr.ev rfl) (fr.ev rfl)) rfl rfl ?_)
  intro a fr
  refine wpList_nil ?_
  refine then_n ?_
  refine cond_f fr rfl rfl ?_
  refine wp_skip ?_
  refine then_n ?_
  refine wp_seq ?_
  refine reg ?_
  refine lst rfl (ow_v fr (rn_move (fr.ev rfl)) rfl rfl ?_)
  intro a fr
  refine lst rfl (ow_v fr (rn_move (fr.ev rfl)) rfl rfl ?_)
  intro a fr
  have hb3 := u8lt (bs[k]'(by omega))
  obtain ⟨b2, o3, eA, st_⟩ := st.elem 1 rfl k (by omega) (by simp [C8])
  have fr_ := fr
  cases eA
  have st := st_
  have fr := fr_
  clear st_ fr_
  replace st : St _ [] w [ro b2 (o3 + k * 1) [.int .u8 ((bs[k].toNat : Nat))], .blk b1 [.int .i64 0, .int .i64 0, .int .i64 0, .int .i64 0] 29, els C8 1 (some ⟨b2, o3, none⟩) bs] := st
  refine lst rfl (ow_v fr (rn_at (i := k) (fr.ev rfl) (fr.ev rfl) Try.underlying22 sz_5 (by omega) (by rfl)) rfl rfl ?_)
  intro a fr
  refine lst rfl (ow_v fr (rn_load (fr.ev rfl) Try.underlying5 rfl (st.rocell 0 rfl (j := 0) rfl)) rfl rfl ?_)
  intro a fr
  refine lst rfl (ow_v fr (rn_conv (c := (bs[k].toNat : Nat)) (fr.ev rfl) (by kernel_rfl) Try.underlying3 (wr_i64 _ (by omega) (by omega))) rfl rfl ?_)
  intro a fr
  refine lst rfl (ow_v fr (rn_assign (fr.ev rfl)) rfl rfl ?_)
  intro a fr
  refine wpList_nil ?_
  refine then_n ?_
  refine wp_seq ?_
  refine reg ?_
  refine lst rfl (ow_v fr (rn_move (fr.ev rfl)) rfl rfl ?_)
  intro a fr
  refine lst rfl (ow_call fr rfl rfl Try.call19 (form_f _ h _) rfl rfl ?_)
  rintro e w ⟨rfl, hag⟩
  refine ⟨_, rfl, ?_⟩
  intro a fr
  have st := st.keep hag
  clear hag
  refine lst rfl (ow_v fr (rn_move (fr.ev rfl)) rfl rfl ?_)
  intro a fr
  refine lst rfl (ow_v fr (rn_extract (fr.ev rfl) rfl) rfl rfl ?_)
  intro a fr
  refine lst rfl (ow_v fr (rn_extract (fr.ev rfl) rfl) rfl rfl ?_)
  intro a fr
  refine lst rfl (ow_v fr (rn_assign (fr.ev rfl)) rfl rfl ?_)
  intro a fr
  refine lst rfl (ow_v fr (rn_assign (fr.ev rfl)) rfl rfl ?_)
  intro a fr
  refine wpList_nil ?_
  refine then_n ?_
  refine wp_seq ?_
  refine wp_seq ?_
  refine reg ?_
  refine lst rfl (ow_v fr (rn_move (fr.ev rfl)) rfl rfl ?_)
  intro a fr
  refine lst rfl (ow_v fr (rn_not (fr.ev rfl)) rfl rfl ?_)
  intro a fr
  refine wpList_nil ?_
  refine then_n ?_
  refine cond_t fr rfl rfl ?_
  refine wp_seq ?_
  refine reg ?_
  refine lst rfl (ow_v fr (rn_build (cells := #[.int .i64 0, .int .i64 0, .int .i64 0, .int .i64 0]) (by simp only [List.map_toArray, List.map_cons, List.map_nil]; rfl)) rfl rfl ?_)
  intro a fr
  refine lst rfl (ow_stN fr st 1 (vs := [.int .i64 0, .int .i64 0, .int .i64 0, .int .i64 0]) rfl rfl rfl rfl sz_29 rfl (Nat.le_of_ble_eq_true rfl) rfl ?_)
  intro w (st : St _ [] w [ro b2 (o3 + k * 1) [.int .u8 ((bs[k].toNat : Nat))], .blk b1 [.int .i64 0, .int .i64 0, .int .i64 0, .int .i64 0] 29, els C8 1 (some ⟨b2, o3, none⟩) bs])
  refine lst rfl (ow_v fr (rn_assign (fr.ev rfl)) rfl rfl ?_)
  intro a fr
  refine lst rfl (ow_v fr (rn_assign (fr.ev rfl)) rfl rfl ?_)
  intro a fr
  refine wpList_nil ?_
  refine then_n ?_
  refine wp_ret ?_
  refine then_r ?_
  refine ret3 Try.results13 fr (rv_row (cs := [.int .i64 0, .int .i64 0, .int .i64 0, .int .i64 0]) fr rfl Try.underlying29 rfl (by first | exact sz_29 | simpa using sz_29) (st.blkrange 1 rfl 0 rfl)) (rv_tmp fr rfl) (rv_tmp fr rfl) ?_
  exact ⟨rfl, st.agr⟩

theorem one_short (bs : List UInt8) (BA : Option Addr) (bc : Nat) (hbc : bs.length ≤ bc) (hbl : bs.length ≤ 4611686018427387904) (k : Nat) (hk : k < bs.length) {p f : Int} {q : ByteArray} (h : tblL.find? (fun r : RowD => r.1 == ((bs[k].toNat : Nat) : Int)) = some (p, q, f)) (hs : bs.length < k + 1 + behF f) (w0 : World) (hx : Els C8 1 w0 BA bs) : Calls Try.prog 13 #[.slice BA bs.length bc, .int .i64 ((k : Nat))] w0 fun e w' => e = .returned (.tuple #[.agg #[.int .i64 0, .int .i64 0, .int .i64 0, .int .i64 0], .int .i64 0, .int .i64 11]) ∧ Agr [] w0 w' := by
  have st : St w0 [] w0 [els C8 1 BA bs] := (add_ro (start0 w0 []) (by simp [els, ro, It.wr]) rfl (els_ok (C := C8) (sz := 1) (by decide) (fun x => rfl) hx))
  clear hx
  have hbf := behF_le f
  refine enter Try.func13 rfl Try.ntmps13 (by simp) ?_
  intro a fr
  refine wp_seq ?_
  refine reg ?_
  refine lst rfl (ow_alloc fr st rfl zv_29 rfl rfl _ (by rfl) ?_)
  intro a w b1 fr st
  refine lst rfl (ow_v fr (rn_assign (fr.ev rfl)) rfl rfl ?_)
  intro a fr
  refine lst rfl (ow_v fr (rn_assign (fr.ev rfl)) rfl rfl ?_)
  intro a fr
  refine wpList_nil ?_
  refine then_n ?_
  refine wp_seq ?_
  refine wp_seq ?_
  refine reg ?_
  refine lst rfl (ow_v fr (rn_move (fr.ev rfl)) rfl rfl ?_)
  intro a fr
  refine lst rfl (ow_v fr (rn_as (v' := .bool false) (rn_lss (fr.ev rfl) (fr.ev rfl)) (congrArg Value.bool (decide_eq_false (by omega)))) rfl rfl ?_)
  intro a fr
  refine lst rfl (ow_v fr (rn_move (fr.ev rfl)) rfl rfl ?_)
  intro a fr
  refine lst_y (wanted_of fr rfl rfl rfl rfl) (ow_v fr (rn_move (fr.ev rfl)) rfl rfl ?_)
  intro a fr
  refine lst_y (wanted_of fr rfl rfl rfl rfl) (ow_v fr (rn_move (fr.ev rfl)) rfl rfl ?_)
  intro a fr
  refine lst_y (wanted_of fr rfl rfl rfl rfl) (ow_v fr (rn_len (fr.ev rfl) Try.underlying22) rfl rfl ?_)
  intro a fr
  refine lst_y (wanted_of fr rfl rfl rfl rfl) (ow_v fr (rn_as (v' := .bool false) (rn_geq (fr.ev rfl) (fr.ev rfl)) (congrArg Value.bool (decide_eq_false (by omega)))) rfl rfl ?_)
  intro a fr
  refine lst rfl (ow_v fr (rn_pick_f (fr.ev rfl) (fr.ev rfl)) rfl rfl ?_)
  intro a fr
  refine wpList_nil ?_
  refine then_n ?_
  refine cond_f fr rfl rfl ?_
  refine wp_skip ?_
  refine then_n ?_
  refine wp_seq ?_
  refine reg ?_
  refine lst rfl (ow_v fr (rn_move (fr.ev rfl)) rfl rfl ?_)
  intro a fr
  refine lst rfl (ow_v fr (rn_move (fr.ev rfl)) rfl rfl ?_)
  intro a fr
  have hb3 := u8lt (bs[k]'(by omega))
  obtain ⟨b2, o3, eA, st_⟩ := st.elem 1 rfl k (by omega) (by simp [C8])
  have fr_ := fr
  cases eA
  have st := st_
  have fr := fr_
  clear st_ fr_
  replace st : St _ [] w [ro b2 (o3 + k * 1) [.int .u8 ((bs[k].toNat : Nat))], .blk b1 [.int .i64 0, .int .i64 0, .int .i64 0, .int .i64 0] 29, els C8 1 (some ⟨b2, o3, none⟩) bs] := st
  refine lst rfl (ow_v fr (rn_at (i := k) (fr.ev rfl) (fr.ev rfl) Try.underlying22 sz_5 (by omega) (by rfl)) rfl rfl ?_)
  intro a fr
  refine lst rfl (ow_v fr (rn_load (fr.ev rfl) Try.underlying5 rfl (st.rocell 0 rfl (j := 0) rfl)) rfl rfl ?_)
  intro a fr
  refine lst rfl (ow_v fr (rn_conv (c := (bs[k].toNat : Nat)) (fr.ev rfl) (by kernel_rfl) Try.underlying3 (wr_i64 _ (by omega) (by omega))) rfl rfl ?_)
  intro a fr
  refine lst rfl (ow_v fr (rn_assign (fr.ev rfl)) rfl rfl ?_)
  intro a fr
  refine wpList_nil ?_
  refine then_n ?_
  refine wp_seq ?_
  refine reg ?_
  refine lst rfl (ow_v fr (rn_move (fr.ev rfl)) rfl rfl ?_)
  intro a fr
  refine lst rfl (ow_call fr rfl rfl Try.call19 (form_t _ h _) rfl rfl ?_)
  rintro e w ⟨rfl, hag⟩
  refine ⟨_, rfl, ?_⟩
  intro a fr
  have st := st.keep hag
  clear hag
  refine lst rfl (ow_v fr (rn_move (fr.ev rfl)) rfl rfl ?_)
  intro a fr
  refine lst rfl (ow_v fr (rn_extract (fr.ev rfl) rfl) rfl rfl ?_)
  intro a fr
  refine lst rfl (ow_v fr (rn_extract (fr.ev rfl) rfl) rfl rfl ?_)
  intro a fr
  refine lst rfl (ow_v fr (rn_assign (fr.ev rfl)) rfl rfl ?_)
  intro a fr
  refine lst rfl (ow_v fr (rn_assign (fr.ev rfl)) rfl rfl ?_)
  intro a fr
  refine wpList_nil ?_
  refine then_n ?_
  refine wp_seq ?_
  refine wp_seq ?_
  refine reg ?_
  refine lst rfl (ow_v fr (rn_move (fr.ev rfl)) rfl rfl ?_)
  intro a fr
  refine lst rfl (ow_v fr (rn_not (fr.ev rfl)) rfl rfl ?_)
  intro a fr
  refine wpList_nil ?_
  refine then_n ?_
  refine cond_f fr rfl rfl ?_
  refine wp_skip ?_
  refine then_n ?_
  refine wp_seq ?_
  refine reg ?_
  refine lst rfl (ow_v fr (rn_move (fr.ev rfl)) rfl rfl ?_)
  intro a fr
  refine lst rfl (ow_v fr (rn_move (fr.ev rfl)) rfl rfl ?_)
  intro a fr
  refine lst rfl (ow_v fr (rn_add (a := (k : Nat)) (b := 1) (c := ((k + 1 : Nat) : Int)) (fr.ev rfl) (fr.ev rfl) (wr_i64e (by omega) (by omega) (by omega))) rfl rfl ?_)
  intro a fr
  refine lst rfl (ow_v fr (rn_from (lo := k + 1) (fr.ev rfl) (fr.ev rfl) Try.underlying22 sz_5 (by omega)) rfl rfl ?_)
  intro a fr
  have st := st.cutFrom (m := bc) (lo := k + 1) 2 rfl (by decide) (fun _ => rfl) (by omega)
  obtain ⟨A4, hA_A4⟩ : ∃ A2, cutA (some ⟨b2, o3, none⟩) bc (k + 1) 1 = A2 := ⟨_, rfl⟩
  obtain ⟨ms5, hms6⟩ : ∃ ms, (bs.drop (k + 1)) = ms := ⟨_, rfl⟩
  have hl_ms5 : ms5.length = bs.length - (k + 1) := by rw [← hms6]; simp; try omega
  rw [hA_A4] at st fr
  rw [hms6] at st
  obtain ⟨cc7, hc_cc7⟩ : ∃ c, bc - (k + 1) = c := ⟨_, rfl⟩
  rw [hc_cc7, ← hl_ms5] at fr
  clear hA_A4
  have hce_cc7 : ms5.length ≤ cc7 := by have hq_ : bs.length ≤ bc := (by omega); omega
  refine lst rfl (ow_v fr (rn_assign (fr.ev rfl)) rfl rfl ?_)
  intro a fr
  refine wpList_nil ?_
  refine then_n ?_
  refine wp_seq ?_
  refine wp_seq ?_
  refine reg ?_
  refine lst rfl (ow_v fr (rn_move (fr.ev rfl)) rfl rfl ?_)
  intro a fr
  refine lst rfl (ow_v fr (rn_len (fr.ev rfl) Try.underlying22) rfl rfl ?_)
  intro a fr
  refine lst rfl (ow_v fr (rn_move (fr.ev rfl)) rfl rfl ?_)
  intro a fr
  refine lst rfl (ow_call fr rfl rfl Try.call43 (rest_calls f (row_rng h).1 _) rfl rfl ?_)
  rintro e w ⟨rfl, hag⟩
  refine ⟨_, rfl, ?_⟩
  intro a fr
  have st := st.keep hag
  clear hag
  refine lst rfl (ow_v fr (rn_as (v' := .bool true) (rn_lss (fr.ev rfl) (fr.ev rfl)) (congrArg Value.bool (decide_eq_true (by omega)))) rfl rfl ?_)
  intro a fr
  refine wpList_nil ?_
  refine then_n ?_
  refine cond_t fr rfl rfl ?_
  refine wp_seq ?_
  refine reg ?_
  refine lst rfl (ow_v fr (rn_build (cells := #[.int .i64 0, .int .i64 0, .int .i64 0, .int .i64 0]) (by simp only [List.map_toArray, List.map_cons, List.map_nil]; rfl)) rfl rfl ?_)
  intro a fr
  refine lst rfl (ow_stN fr st 2 (vs := [.int .i64 0, .int .i64 0, .int .i64 0, .int .i64 0]) rfl rfl rfl rfl sz_29 rfl (Nat.le_of_ble_eq_true rfl) rfl ?_)
  intro w (st : St _ [] w [els C8 1 A4 ms5, ro b2 (o3 + k * 1) [.int .u8 ((bs[k].toNat : Nat))], .blk b1 [.int .i64 0, .int .i64 0, .int .i64 0, .int .i64 0] 29, els C8 1 (some ⟨b2, o3, none⟩) bs])
  refine lst rfl (ow_v fr (rn_assign (fr.ev rfl)) rfl rfl ?_)
  intro a fr
  refine lst rfl (ow_v fr (rn_assign (fr.ev rfl)) rfl rfl ?_)
  intro a fr
  refine wpList_nil ?_
  refine then_n ?_
  refine wp_ret ?_
  refine then_r ?_
  refine ret3 Try.results13 fr (rv_row (cs := [.int .i64 0, .int .i64 0, .int .i64 0, .int .i64 0]) fr rfl Try.underlying29 rfl (by first | exact sz_29 | simpa using sz_29) (st.blkrange 2 rfl 0 rfl)) (rv_tmp fr rfl) (rv_tmp fr rfl) ?_
  exact ⟨rfl, st.agr⟩

theorem one_arr (bs : List UInt8) (BA : Option Addr) (bc : Nat) (hbc : bs.length ≤ bc) (hbl : bs.length ≤ 4611686018427387904) (k : Nat) (hk : k < bs.length) (hk1 : k + 1 < bs.length) {p : Int} {q : ByteArray} (h : tblL.find? (fun r : RowD => r.1 == ((bs[k].toNat : Nat) : Int)) = some (p, q, 8)) (h10 : bs[k + 1].toNat ≠ 10) (h11 : bs[k + 1].toNat ≠ 11) (w0 : World) (hx : Els C8 1 w0 BA bs) : Calls Try.prog 13 #[.slice BA bs.length bc, .int .i64 ((k : Nat))] w0 fun e w' => e = .returned (.tuple #[.agg #[.int .i64 0, .int .i64 0, .int .i64 0, .int .i64 0], .int .i64 0, .int .i64 13]) ∧ Agr [] w0 w' := by
  have st : St w0 [] w0 [els C8 1 BA bs] := (add_ro (start0 w0 []) (by simp [els, ro, It.wr]) rfl (els_ok (C := C8) (sz := 1) (by decide) (fun x => rfl) hx))
  clear hx
  refine enter Try.func13 rfl Try.ntmps13 (by simp) ?_
  intro a fr
  refine wp_seq ?_
  refine reg ?_
  refine lst rfl (ow_alloc fr st rfl zv_29 rfl rfl _ (by rfl) ?_)
  intro a w b1 fr st
  refine lst rfl (ow_v fr (rn_assign (fr.ev rfl)) rfl rfl ?_)
  intro a fr
  refine lst rfl (ow_v fr (rn_assign (fr.ev rfl)) rfl rfl ?_)
  intro a fr
  refine wpList_nil ?_
  refine then_n ?_
  refine wp_seq ?_
  refine wp_seq ?_
  refine reg ?_
  refine lst rfl (ow_v fr (rn_move (fr.ev rfl)) rfl rfl ?_)
  intro a fr
  refine lst rfl (ow_v fr (rn_as (v' := .bool false) (rn_lss (fr.ev rfl) (fr.ev rfl)) (congrArg Value.bool (decide_eq_false (by omega)))) rfl rfl ?_)
  intro a fr
  refine lst rfl (ow_v fr (rn_move (fr.ev rfl)) rfl rfl ?_)
  intro a fr
  refine lst_y (wanted_of fr rfl rfl rfl rfl) (ow_v fr (rn_move (fr.ev rfl)) rfl rfl ?_)
  intro a fr
  refine lst_y (wanted_of fr rfl rfl rfl rfl) (ow_v fr (rn_move (fr.ev rfl)) rfl rfl ?_)
  intro a fr
  refine lst_y (wanted_of fr rfl rfl rfl rfl) (ow_v fr (rn_len (fr.ev rfl) Try.underlying22) rfl rfl ?_)
  intro a fr
  refine lst_y (wanted_of fr rfl rfl rfl rfl) (ow_v fr (rn_as (v' := .bool false) (rn_geq (fr.ev rfl) (fr.ev rfl)) (congrArg Value.bool (decide_eq_false (by omega)))) rfl rfl ?_)
  intro a fr
  refine lst rfl (ow_v fr (rn_pick_f (fr.ev rfl) (fr.ev rfl)) rfl rfl ?_)
  intro a fr
  refine wpList_nil ?_
  refine then_n ?_
  refine cond_f fr rfl rfl ?_
  refine wp_skip ?_
  refine then_n ?_
  refine wp_seq ?_
  refine reg ?_
  refine lst rfl (ow_v fr (rn_move (fr.ev rfl)) rfl rfl ?_)
  intro a fr
  refine lst rfl (ow_v fr (rn_move (fr.ev rfl)) rfl rfl ?_)
  intro a fr
  have hb3 := u8lt (bs[k]'(by omega))
  obtain ⟨b2, o3, eA, st_⟩ := st.elem 1 rfl k (by omega) (by simp [C8])
  have fr_ := fr
  cases eA
  have st := st_
  have fr := fr_
  clear st_ fr_
  replace st : St _ [] w [ro b2 (o3 + k * 1) [.int .u8 ((bs[k].toNat : Nat))], .blk b1 [.int .i64 0, .int .i64 0, .int .i64 0, .int .i64 0] 29, els C8 1 (some ⟨b2, o3, none⟩) bs] := st
  refine lst rfl (ow_v fr (rn_at (i := k) (fr.ev rfl) (fr.ev rfl) Try.underlying22 sz_5 (by omega) (by rfl)) rfl rfl ?_)
  intro a fr
  refine lst rfl (ow_v fr (rn_load (fr.ev rfl) Try.underlying5 rfl (st.rocell 0 rfl (j := 0) rfl)) rfl rfl ?_)
  intro a fr
  refine lst rfl (ow_v fr (rn_conv (c := (bs[k].toNat : Nat)) (fr.ev rfl) (by kernel_rfl) Try.underlying3 (wr_i64 _ (by omega) (by omega))) rfl rfl ?_)
  intro a fr
  refine lst rfl (ow_v fr (rn_assign (fr.ev rfl)) rfl rfl ?_)
  intro a fr
  refine wpList_nil ?_
  refine then_n ?_
  refine wp_seq ?_
  refine reg ?_
  refine lst rfl (ow_v fr (rn_move (fr.ev rfl)) rfl rfl ?_)
  intro a fr
  refine lst rfl (ow_call fr rfl rfl Try.call19 (form_t _ h _) rfl rfl ?_)
  rintro e w ⟨rfl, hag⟩
  refine ⟨_, rfl, ?_⟩
  intro a fr
  have st := st.keep hag
  clear hag
  refine lst rfl (ow_v fr (rn_move (fr.ev rfl)) rfl rfl ?_)
  intro a fr
  refine lst rfl (ow_v fr (rn_extract (fr.ev rfl) rfl) rfl rfl ?_)
  intro a fr
  refine lst rfl (ow_v fr (rn_extract (fr.ev rfl) rfl) rfl rfl ?_)
  intro a fr
  refine lst rfl (ow_v fr (rn_assign (fr.ev rfl)) rfl rfl ?_)
  intro a fr
  refine lst rfl (ow_v fr (rn_assign (fr.ev rfl)) rfl rfl ?_)
  intro a fr
  refine wpList_nil ?_
  refine then_n ?_
  refine wp_seq ?_
  refine wp_seq ?_
  refine reg ?_
  refine lst rfl (ow_v fr (rn_move (fr.ev rfl)) rfl rfl ?_)
  intro a fr
  refine lst rfl (ow_v fr (rn_not (fr.ev rfl)) rfl rfl ?_)
  intro a fr
  refine wpList_nil ?_
  refine then_n ?_
  refine cond_f fr rfl rfl ?_
  refine wp_skip ?_
  refine then_n ?_
  refine wp_seq ?_
  refine reg ?_
  refine lst rfl (ow_v fr (rn_move (fr.ev rfl)) rfl rfl ?_)
  intro a fr
  refine lst rfl (ow_v fr (rn_move (fr.ev rfl)) rfl rfl ?_)
  intro a fr
  refine lst rfl (ow_v fr (rn_add (a := (k : Nat)) (b := 1) (c := ((k + 1 : Nat) : Int)) (fr.ev rfl) (fr.ev rfl) (wr_i64e (by omega) (by omega) (by omega))) rfl rfl ?_)
  intro a fr
  refine lst rfl (ow_v fr (rn_from (lo := k + 1) (fr.ev rfl) (fr.ev rfl) Try.underlying22 sz_5 (by omega)) rfl rfl ?_)
  intro a fr
  have st := st.cutFrom (m := bc) (lo := k + 1) 2 rfl (by decide) (fun _ => rfl) (by omega)
  obtain ⟨A4, hA_A4⟩ : ∃ A2, cutA (some ⟨b2, o3, none⟩) bc (k + 1) 1 = A2 := ⟨_, rfl⟩
  obtain ⟨ms5, hms6⟩ : ∃ ms, (bs.drop (k + 1)) = ms := ⟨_, rfl⟩
  have hl_ms5 : ms5.length = bs.length - (k + 1) := by rw [← hms6]; simp; try omega
  rw [hA_A4] at st fr
  rw [hms6] at st
  obtain ⟨cc7, hc_cc7⟩ : ∃ c, bc - (k + 1) = c := ⟨_, rfl⟩
  rw [hc_cc7, ← hl_ms5] at fr
  clear hA_A4
  have hce_cc7 : ms5.length ≤ cc7 := by have hq_ : bs.length ≤ bc := (by omega); omega
  refine lst rfl (ow_v fr (rn_assign (fr.ev rfl)) rfl rfl ?_)
  intro a fr
  refine wpList_nil ?_
  refine then_n ?_
  refine wp_seq ?_
  refine wp_seq ?_
  refine reg ?_
  refine lst rfl (ow_v fr (rn_move (fr.ev rfl)) rfl rfl ?_)
  intro a fr
  refine lst rfl (ow_v fr (rn_len (fr.ev rfl) Try.underlying22) rfl rfl ?_)
  intro a fr
  refine lst rfl (ow_v fr (rn_move (fr.ev rfl)) rfl rfl ?_)
  intro a fr
  refine lst rfl (ow_call fr rfl rfl Try.call43 (rest_lit 8 1 (by simp [Rng]) (by decide) _) rfl rfl ?_)
  rintro e w ⟨rfl, hag⟩
  refine ⟨_, rfl, ?_⟩
  intro a fr
  have st := st.keep hag
  clear hag
  refine lst rfl (ow_v fr (rn_as (v' := .bool false) (rn_lss (fr.ev rfl) (fr.ev rfl)) (congrArg Value.bool (decide_eq_false (by omega)))) rfl rfl ?_)
  intro a fr
  refine wpList_nil ?_
  refine then_n ?_
  refine cond_f fr rfl rfl ?_
  refine wp_skip ?_
  refine then_n ?_
  refine wp_seq ?_
  refine reg ?_
  refine lst rfl (ow_v fr (rn_move (fr.ev rfl)) rfl rfl ?_)
  intro a fr
  refine lst rfl (ow_v fr (rn_move (fr.ev rfl)) rfl rfl ?_)
  intro a fr
  refine lst rfl (ow_v fr (rn_build (cells := #[.int .i64 ((k : Nat)), .int .i64 ((bs[k].toNat : Nat)), .int .i64 0, .int .i64 0]) (by simp only [List.map_toArray, List.map_cons, List.map_nil]; rw [fr.ev (x := .tmp 44) rfl, fr.ev (x := .tmp 45) rfl]; rfl)) rfl rfl ?_)
  intro a fr
  refine lst rfl (ow_alloc fr st rfl zv_29 rfl rfl _ (by rfl) ?_)
  intro a w b8 fr st
  refine lst rfl (ow_stN fr st 0 (vs := [.int .i64 ((k : Nat)), .int .i64 ((bs[k].toNat : Nat)), .int .i64 0, .int .i64 0]) rfl rfl rfl rfl sz_29 rfl (Nat.le_of_ble_eq_true rfl) rfl ?_)
  intro w (st : St _ [] w [.blk b8 [.int .i64 ((k : Nat)), .int .i64 ((bs[k].toNat : Nat)), .int .i64 0, .int .i64 0] 29, els C8 1 A4 ms5, ro b2 (o3 + k * 1) [.int .u8 ((bs[k].toNat : Nat))], .blk b1 [.int .i64 0, .int .i64 0, .int .i64 0, .int .i64 0] 29, els C8 1 (some ⟨b2, o3, none⟩) bs])
  refine wpList_nil ?_
  refine then_n ?_
  refine wp_seq ?_
  refine wp_seq ?_
  refine reg ?_
  refine lst rfl (ow_v fr (rn_move (fr.ev rfl)) rfl rfl ?_)
  intro a fr
  refine wpList_nil ?_
  refine then_n ?_
  refine wp_block ?_
  refine wp_seq ?_
  refine wp_seq ?_
  refine reg ?_
  refine lst rfl (ow_v fr (rn_as (rn_eql (fr.ev rfl) (fr.ev rfl)) (by rfl)) rfl rfl ?_)
  intro a fr
  refine lst rfl (ow_v fr (rn_assign (fr.ev rfl)) rfl rfl ?_)
  intro a fr
  refine wpList_nil ?_
  refine then_n ?_
  refine cond_f fr rfl rfl ?_
  refine reg ?_
  refine lst rfl (ow_v fr (rn_as (rn_eql (fr.ev rfl) (fr.ev rfl)) (by rfl)) rfl rfl ?_)
  intro a fr
  refine lst rfl (ow_v fr (rn_assign (fr.ev rfl)) rfl rfl ?_)
  intro a fr
  refine wpList_nil ?_
  refine then_n ?_
  refine cond_f fr rfl rfl ?_
  refine wp_seq ?_
  refine reg ?_
  refine lst rfl (ow_v fr (rn_as (rn_eql (fr.ev rfl) (fr.ev rfl)) (by rfl)) rfl rfl ?_)
  intro a fr
  refine lst rfl (ow_v fr (rn_assign (fr.ev rfl)) rfl rfl ?_)
  intro a fr
  refine wpList_nil ?_
  refine then_n ?_
  refine cond_f fr rfl rfl ?_
  refine wp_seq ?_
  refine reg ?_
  refine lst rfl (ow_v fr (rn_as (rn_eql (fr.ev rfl) (fr.ev rfl)) (by rfl)) rfl rfl ?_)
  intro a fr
  refine lst rfl (ow_v fr (rn_assign (fr.ev rfl)) rfl rfl ?_)
  intro a fr
  refine wpList_nil ?_
  refine then_n ?_
  refine cond_f fr rfl rfl ?_
  refine wp_seq ?_
  refine reg ?_
  refine lst rfl (ow_v fr (rn_as (rn_eql (fr.ev rfl) (fr.ev rfl)) (by rfl)) rfl rfl ?_)
  intro a fr
  refine lst rfl (ow_v fr (rn_assign (fr.ev rfl)) rfl rfl ?_)
  intro a fr
  refine wpList_nil ?_
  refine then_n ?_
  refine cond_f fr rfl rfl ?_
  refine wp_seq ?_
  refine reg ?_
  refine lst rfl (ow_v fr (rn_as (rn_eql (fr.ev rfl) (fr.ev rfl)) (by rfl)) rfl rfl ?_)
  intro a fr
  refine lst rfl (ow_v fr (rn_assign (fr.ev rfl)) rfl rfl ?_)
  intro a fr
  refine wpList_nil ?_
  refine then_n ?_
  refine cond_f fr rfl rfl ?_
  refine wp_seq ?_
  refine reg ?_
  refine lst rfl (ow_v fr (rn_as (rn_eql (fr.ev rfl) (fr.ev rfl)) (by rfl)) rfl rfl ?_)
  intro a fr
  refine lst rfl (ow_v fr (rn_assign (fr.ev rfl)) rfl rfl ?_)
  intro a fr
  refine wpList_nil ?_
  refine then_n ?_
  refine cond_f fr rfl rfl ?_
  refine wp_seq ?_
  refine reg ?_
  refine lst rfl (ow_v fr (rn_as (rn_eql (fr.ev rfl) (fr.ev rfl)) (by rfl)) rfl rfl ?_)
  intro a fr
  refine lst rfl (ow_v fr (rn_assign (fr.ev rfl)) rfl rfl ?_)
  intro a fr
  refine wpList_nil ?_
  refine then_n ?_
  refine cond_t fr rfl rfl ?_
  refine wp_seq ?_
  refine reg ?_
  refine lst rfl (ow_v fr (rn_move (fr.ev rfl)) rfl rfl ?_)
  intro a fr
  have hb10 := u8lt (bs[k + 1]'(by omega))
  obtain ⟨b9, o10, eA, st_⟩ := st.elem 1 rfl 0 (by omega) (by simp [C8])
  have fr_ := fr
  cases eA
  have st := st_
  have fr := fr_
  clear st_ fr_
  rw [drop_get hms6 (m := k + 1) (by omega) (by omega) (by omega)] at st
  replace st : St _ [] w [ro b9 (o10 + 0 * 1) [.int .u8 ((bs[k + 1].toNat : Nat))], .blk b8 [.int .i64 ((k : Nat)), .int .i64 ((bs[k].toNat : Nat)), .int .i64 0, .int .i64 0] 29, els C8 1 (some ⟨b9, o10, none⟩) ms5, ro b2 (o3 + k * 1) [.int .u8 ((bs[k].toNat : Nat))], .blk b1 [.int .i64 0, .int .i64 0, .int .i64 0, .int .i64 0] 29, els C8 1 (some ⟨b2, o3, none⟩) bs] := st
  refine lst rfl (ow_v fr (rn_at (i := 0) (fr.ev rfl) (fr.ev rfl) Try.underlying22 sz_5 (by omega) (by rfl)) rfl rfl ?_)
  intro a fr
  refine lst rfl (ow_v fr (rn_load (fr.ev rfl) Try.underlying5 rfl (st.rocell 0 rfl (j := 0) rfl)) rfl rfl ?_)
  intro a fr
  refine lst rfl (ow_v fr (rn_conv (c := (bs[k + 1].toNat : Nat)) (fr.ev rfl) (by kernel_rfl) Try.underlying3 (wr_i64 _ (by omega) (by omega))) rfl rfl ?_)
  intro a fr
  refine lst rfl (ow_v fr (fa_29_2 (fr.ev rfl)) rfl rfl ?_)
  intro a fr
  refine lst rfl (ow_st fr st 1 rfl rfl rfl rfl sz_3 rfl rfl rfl ?_)
  intro w (st : St _ [] w [ro b9 (o10 + 0 * 1) [.int .u8 ((bs[k + 1].toNat : Nat))], .blk b8 [.int .i64 ((k : Nat)), .int .i64 ((bs[k].toNat : Nat)), .int .i64 ((bs[k + 1].toNat : Nat)), .int .i64 0] 29, els C8 1 (some ⟨b9, o10, none⟩) ms5, ro b2 (o3 + k * 1) [.int .u8 ((bs[k].toNat : Nat))], .blk b1 [.int .i64 0, .int .i64 0, .int .i64 0, .int .i64 0] 29, els C8 1 (some ⟨b2, o3, none⟩) bs])
  refine wpList_nil ?_
  refine then_n ?_
  refine wp_seq ?_
  refine reg ?_
  refine lst rfl (ow_v fr (fa_29_2 (fr.ev rfl)) rfl rfl ?_)
  intro a fr
  refine lst rfl (ow_v fr (rn_load (fr.ev rfl) Try.underlying3 rfl (st.cell 1 rfl rfl)) rfl rfl ?_)
  intro a fr
  refine lst rfl (ow_v fr (rn_as (v' := .bool true) (rn_neq (fr.ev rfl) (fr.ev rfl)) (congrArg Value.bool (by simp; omega))) rfl rfl ?_)
  intro a fr
  refine lst rfl (ow_v fr (rn_move (fr.ev rfl)) rfl rfl ?_)
  intro a fr
  refine lst_y (wanted_of fr rfl rfl rfl rfl) (ow_v fr (fa_29_2 (fr.ev rfl)) rfl rfl ?_)
  intro a fr
  refine lst_y (wanted_of fr rfl rfl rfl rfl) (ow_v fr (rn_load (fr.ev rfl) Try.underlying3 rfl (st.cell 1 rfl rfl)) rfl rfl ?_)
  intro a fr
  refine lst_y (wanted_of fr rfl rfl rfl rfl) (ow_v fr (rn_as (v' := .bool true) (rn_neq (fr.ev rfl) (fr.ev rfl)) (congrArg Value.bool (by simp; omega))) rfl rfl ?_)
  intro a fr
  refine lst rfl (ow_v fr (rn_pick_t (fr.ev rfl) (fr.ev rfl)) rfl rfl ?_)
  intro a fr
  refine wpList_nil ?_
  refine then_n ?_
  refine cond_t fr rfl rfl ?_
  refine wp_seq ?_
  refine reg ?_
  refine lst rfl (ow_v fr (rn_build (cells := #[.int .i64 0, .int .i64 0, .int .i64 0, .int .i64 0]) (by simp only [List.map_toArray, List.map_cons, List.map_nil]; rfl)) rfl rfl ?_)
  intro a fr
  refine lst rfl (ow_stN fr st 4 (vs := [.int .i64 0, .int .i64 0, .int .i64 0, .int .i64 0]) rfl rfl rfl rfl sz_29 rfl (Nat.le_of_ble_eq_true rfl) rfl ?_)
  intro w (st : St _ [] w [ro b9 (o10 + 0 * 1) [.int .u8 ((bs[k + 1].toNat : Nat))], .blk b8 [.int .i64 ((k : Nat)), .int .i64 ((bs[k].toNat : Nat)), .int .i64 ((bs[k + 1].toNat : Nat)), .int .i64 0] 29, els C8 1 (some ⟨b9, o10, none⟩) ms5, ro b2 (o3 + k * 1) [.int .u8 ((bs[k].toNat : Nat))], .blk b1 [.int .i64 0, .int .i64 0, .int .i64 0, .int .i64 0] 29, els C8 1 (some ⟨b2, o3, none⟩) bs])
  refine lst rfl (ow_v fr (rn_assign (fr.ev rfl)) rfl rfl ?_)
  intro a fr
  refine lst rfl (ow_v fr (rn_assign (fr.ev rfl)) rfl rfl ?_)
  intro a fr
  refine wpList_nil ?_
  refine then_n ?_
  refine wp_ret ?_
  refine blk_r ?_
  refine then_r ?_
  refine ret3 Try.results13 fr (rv_row (cs := [.int .i64 0, .int .i64 0, .int .i64 0, .int .i64 0]) fr rfl Try.underlying29 rfl (by first | exact sz_29 | simpa using sz_29) (st.blkrange 4 rfl 0 rfl)) (rv_tmp fr rfl) (rv_tmp fr rfl) ?_
  exact ⟨rfl, st.agr⟩

set_option maxHeartbeats 4000000 in
theorem one_ok (bs : List UInt8) (BA : Option Addr) (bc : Nat) (hbc : bs.length ≤ bc) (hbl : bs.length ≤ 4611686018427387904) (k : Nat) (hk : k < bs.length) {p f : Int} {q : ByteArray} (h : tblL.find? (fun r : RowD => r.1 == ((bs[k].toNat : Nat) : Int)) = some (p, q, f)) (hs : k + 1 + behF f ≤ bs.length) (ha : ¬ (f = 8 ∧ ub bs (k + 1) ≠ 10 ∧ ub bs (k + 1) ≠ 11)) (w0 : World) (hx : Els C8 1 w0 BA bs) : Calls Try.prog 13 #[.slice BA bs.length bc, .int .i64 ((k : Nat))] w0 fun e w' => e = .returned (.tuple #[.agg (insC ((k : Int), ((bs[k].toNat : Nat) : Int), okA bs k f, okB bs k f)).toArray, .int .i64 ((k + 1 + behF f : Nat) : Int), .int .i64 0]) ∧ Agr [] w0 w' := by
  have st : St w0 [] w0 [els C8 1 BA bs] := (add_ro (start0 w0 []) (by simp [els, ro, It.wr]) rfl (els_ok (C := C8) (sz := 1) (by decide) (fun x => rfl) hx))
  clear hx
  have hr := (row_rng h).1
  rcases hr with rfl | rfl | rfl | rfl | rfl | rfl | rfl | rfl | rfl
  · have hs2 : k + 1 + 0 ≤ bs.length := hs
    refine enter Try.func13 rfl Try.ntmps13 (by simp) ?_
    intro a fr
    refine wp_seq ?_
    refine reg ?_
    refine lst rfl (ow_alloc fr st rfl zv_29 rfl rfl _ (by rfl) ?_)
    intro a w b1 fr st
    refine lst rfl (ow_v fr (rn_assign (fr.ev rfl)) rfl rfl ?_)
    intro a fr
    refine lst rfl (ow_v fr (rn_assign (fr.ev rfl)) rfl rfl ?_)
    intro a fr
    refine wpList_nil ?_
    refine then_n ?_
    refine wp_seq ?_
    refine wp_seq ?_
    refine reg ?_
    refine lst rfl (ow_v fr (rn_move (fr.ev rfl)) rfl rfl ?_)
    intro a fr
    refine lst rfl (ow_v fr (rn_as (v' := .bool false) (rn_lss (fr.ev rfl) (fr.ev rfl)) (congrArg Value.bool (decide_eq_false (by omega)))) rfl rfl ?_)
    intro a fr
    refine lst rfl (ow_v fr (rn_move (fr.ev rfl)) rfl rfl ?_)
    intro a fr
    refine lst_y (wanted_of fr rfl rfl rfl rfl) (ow_v fr (rn_move (fr.ev rfl)) rfl rfl ?_)
    intro a fr
    refine lst_y (wanted_of fr rfl rfl rfl rfl) (ow_v fr (rn_move (fr.ev rfl)) rfl rfl ?_)
    intro a fr
    refine lst_y (wanted_of fr rfl rfl rfl rfl) (ow_v fr (rn_len (fr.ev rfl) Try.underlying22) rfl rfl ?_)
    intro a fr
    refine lst_y (wanted_of fr rfl rfl rfl rfl) (ow_v fr (rn_as (v' := .bool false) (rn_geq (fr.ev rfl) (fr.ev rfl)) (congrArg Value.bool (decide_eq_false (by omega)))) rfl rfl ?_)
    intro a fr
    refine lst rfl (ow_v fr (rn_pick_f (fr.ev rfl) (fr.ev rfl)) rfl rfl ?_)
    intro a fr
    refine wpList_nil ?_
    refine then_n ?_
    refine cond_f fr rfl rfl ?_
    refine wp_skip ?_
    refine then_n ?_
    refine wp_seq ?_
    refine reg ?_
    refine lst rfl (ow_v fr (rn_move (fr.ev rfl)) rfl rfl ?_)
    intro a fr
    refine lst rfl (ow_v fr (rn_move (fr.ev rfl)) rfl rfl ?_)
    intro a fr
    have hb3 := u8lt (bs[k]'(by omega))
    obtain ⟨b2, o3, eA, st_⟩ := st.elem 1 rfl k (by omega) (by simp [C8])
    have fr_ := fr
    cases eA
    have st := st_
    have fr := fr_
    clear st_ fr_
    replace st : St _ [] w [ro b2 (o3 + k * 1) [.int .u8 ((bs[k].toNat : Nat))], .blk b1 [.int .i64 0, .int .i64 0, .int .i64 0, .int .i64 0] 29, els C8 1 (some ⟨b2, o3, none⟩) bs] := st
    refine lst rfl (ow_v fr (rn_at (i := k) (fr.ev rfl) (fr.ev rfl) Try.underlying22 sz_5 (by omega) (by rfl)) rfl rfl ?_)
    intro a fr
    refine lst rfl (ow_v fr (rn_load (fr.ev rfl) Try.underlying5 rfl (st.rocell 0 rfl (j := 0) rfl)) rfl rfl ?_)
    intro a fr
    refine lst rfl (ow_v fr (rn_conv (c := (bs[k].toNat : Nat)) (fr.ev rfl) (by kernel_rfl) Try.underlying3 (wr_i64 _ (by omega) (by omega))) rfl rfl ?_)
    intro a fr
    refine lst rfl (ow_v fr (rn_assign (fr.ev rfl)) rfl rfl ?_)
    intro a fr
    refine wpList_nil ?_
    refine then_n ?_
    refine wp_seq ?_
    refine reg ?_
    refine lst rfl (ow_v fr (rn_move (fr.ev rfl)) rfl rfl ?_)
    intro a fr
    refine lst rfl (ow_call fr rfl rfl Try.call19 (form_t _ h _) rfl rfl ?_)
    rintro e w ⟨rfl, hag⟩
    refine ⟨_, rfl, ?_⟩
    intro a fr
    have st := st.keep hag
    clear hag
    refine lst rfl (ow_v fr (rn_move (fr.ev rfl)) rfl rfl ?_)
    intro a fr
    refine lst rfl (ow_v fr (rn_extract (fr.ev rfl) rfl) rfl rfl ?_)
    intro a fr
    refine lst rfl (ow_v fr (rn_extract (fr.ev rfl) rfl) rfl rfl ?_)
    intro a fr
    refine lst rfl (ow_v fr (rn_assign (fr.ev rfl)) rfl rfl ?_)
    intro a fr
    refine lst rfl (ow_v fr (rn_assign (fr.ev rfl)) rfl rfl ?_)
    intro a fr
    refine wpList_nil ?_
    refine then_n ?_
    refine wp_seq ?_
    refine wp_seq ?_
    refine reg ?_
    refine lst rfl (ow_v fr (rn_move (fr.ev rfl)) rfl rfl ?_)
    intro a fr
    refine lst rfl (ow_v fr (rn_not (fr.ev rfl)) rfl rfl ?_)
    intro a fr
    refine wpList_nil ?_
    refine then_n ?_
    refine cond_f fr rfl rfl ?_
    refine wp_skip ?_
    refine then_n ?_
    refine wp_seq ?_
    refine reg ?_
    refine lst rfl (ow_v fr (rn_move (fr.ev rfl)) rfl rfl ?_)
    intro a fr
    refine lst rfl (ow_v fr (rn_move (fr.ev rfl)) rfl rfl ?_)
    intro a fr
    refine lst rfl (ow_v fr (rn_add (a := (k : Nat)) (b := 1) (c := ((k + 1 : Nat) : Int)) (fr.ev rfl) (fr.ev rfl) (wr_i64e (by omega) (by omega) (by omega))) rfl rfl ?_)
    intro a fr
    refine lst rfl (ow_v fr (rn_from (lo := k + 1) (fr.ev rfl) (fr.ev rfl) Try.underlying22 sz_5 (by omega)) rfl rfl ?_)
    intro a fr
    have st := st.cutFrom (m := bc) (lo := k + 1) 2 rfl (by decide) (fun _ => rfl) (by omega)
    obtain ⟨A4, hA_A4⟩ : ∃ A2, cutA (some ⟨b2, o3, none⟩) bc (k + 1) 1 = A2 := ⟨_, rfl⟩
    obtain ⟨ms5, hms6⟩ : ∃ ms, (bs.drop (k + 1)) = ms := ⟨_, rfl⟩
    have hl_ms5 : ms5.length = bs.length - (k + 1) := by rw [← hms6]; simp; try omega
    rw [hA_A4] at st fr
    rw [hms6] at st
    obtain ⟨cc7, hc_cc7⟩ : ∃ c, bc - (k + 1) = c := ⟨_, rfl⟩
    rw [hc_cc7, ← hl_ms5] at fr
    clear hA_A4
    have hce_cc7 : ms5.length ≤ cc7 := by have hq_ : bs.length ≤ bc := (by omega); omega
    refine lst rfl (ow_v fr (rn_assign (fr.ev rfl)) rfl rfl ?_)
    intro a fr
    refine wpList_nil ?_
    refine then_n ?_
    refine wp_seq ?_
    refine wp_seq ?_
    refine reg ?_
    refine lst rfl (ow_v fr (rn_move (fr.ev rfl)) rfl rfl ?_)
    intro a fr
    refine lst rfl (ow_v fr (rn_len (fr.ev rfl) Try.underlying22) rfl rfl ?_)
    intro a fr
    refine lst rfl (ow_v fr (rn_move (fr.ev rfl)) rfl rfl ?_)
    intro a fr
    refine lst rfl (ow_call fr rfl rfl Try.call43 (rest_lit 0 0 (by simp [Rng]) (by decide) _) rfl rfl ?_)
    rintro e w ⟨rfl, hag⟩
    refine ⟨_, rfl, ?_⟩
    intro a fr
    have st := st.keep hag
    clear hag
    refine lst rfl (ow_v fr (rn_as (v' := .bool false) (rn_lss (fr.ev rfl) (fr.ev rfl)) (congrArg Value.bool (decide_eq_false (by omega)))) rfl rfl ?_)
    intro a fr
    refine wpList_nil ?_
    refine then_n ?_
    refine cond_f fr rfl rfl ?_
    refine wp_skip ?_
    refine then_n ?_
    refine wp_seq ?_
    refine reg ?_
    refine lst rfl (ow_v fr (rn_move (fr.ev rfl)) rfl rfl ?_)
    intro a fr
    refine lst rfl (ow_v fr (rn_move (fr.ev rfl)) rfl rfl ?_)
    intro a fr
    refine lst rfl (ow_v fr (rn_build (cells := #[.int .i64 ((k : Nat)), .int .i64 ((bs[k].toNat : Nat)), .int .i64 0, .int .i64 0]) (by simp only [List.map_toArray, List.map_cons, List.map_nil]; rw [fr.ev (x := .tmp 44) rfl, fr.ev (x := .tmp 45) rfl]; rfl)) rfl rfl ?_)
    intro a fr
    refine lst rfl (ow_alloc fr st rfl zv_29 rfl rfl _ (by rfl) ?_)
    intro a w b8 fr st
    refine lst rfl (ow_stN fr st 0 (vs := [.int .i64 ((k : Nat)), .int .i64 ((bs[k].toNat : Nat)), .int .i64 0, .int .i64 0]) rfl rfl rfl rfl sz_29 rfl (Nat.le_of_ble_eq_true rfl) rfl ?_)
    intro w (st : St _ [] w [.blk b8 [.int .i64 ((k : Nat)), .int .i64 ((bs[k].toNat : Nat)), .int .i64 0, .int .i64 0] 29, els C8 1 A4 ms5, ro b2 (o3 + k * 1) [.int .u8 ((bs[k].toNat : Nat))], .blk b1 [.int .i64 0, .int .i64 0, .int .i64 0, .int .i64 0] 29, els C8 1 (some ⟨b2, o3, none⟩) bs])
    refine wpList_nil ?_
    refine then_n ?_
    refine wp_seq ?_
    refine wp_seq ?_
    refine reg ?_
    refine lst rfl (ow_v fr (rn_move (fr.ev rfl)) rfl rfl ?_)
    intro a fr
    refine wpList_nil ?_
    refine then_n ?_
    refine wp_block ?_
    refine wp_seq ?_
    refine wp_seq ?_
    refine reg ?_
    refine lst rfl (ow_v fr (rn_as (rn_eql (fr.ev rfl) (fr.ev rfl)) (by rfl)) rfl rfl ?_)
    intro a fr
    refine lst rfl (ow_v fr (rn_assign (fr.ev rfl)) rfl rfl ?_)
    intro a fr
    refine wpList_nil ?_
    refine then_n ?_
    refine cond_f fr rfl rfl ?_
    refine reg ?_
    refine lst rfl (ow_v fr (rn_as (rn_eql (fr.ev rfl) (fr.ev rfl)) (by rfl)) rfl rfl ?_)
    intro a fr
    refine lst rfl (ow_v fr (rn_assign (fr.ev rfl)) rfl rfl ?_)
    intro a fr
    refine wpList_nil ?_
    refine then_n ?_
    refine cond_f fr rfl rfl ?_
    refine wp_seq ?_
    refine reg ?_
    refine lst rfl (ow_v fr (rn_as (rn_eql (fr.ev rfl) (fr.ev rfl)) (by rfl)) rfl rfl ?_)
    intro a fr
    refine lst rfl (ow_v fr (rn_assign (fr.ev rfl)) rfl rfl ?_)
    intro a fr
    refine wpList_nil ?_
    refine then_n ?_
    refine cond_f fr rfl rfl ?_
    refine wp_seq ?_
    refine reg ?_
    refine lst rfl (ow_v fr (rn_as (rn_eql (fr.ev rfl) (fr.ev rfl)) (by rfl)) rfl rfl ?_)
    intro a fr
    refine lst rfl (ow_v fr (rn_assign (fr.ev rfl)) rfl rfl ?_)
    intro a fr
    refine wpList_nil ?_
    refine then_n ?_
    refine cond_f fr rfl rfl ?_
    refine wp_seq ?_
    refine reg ?_
    refine lst rfl (ow_v fr (rn_as (rn_eql (fr.ev rfl) (fr.ev rfl)) (by rfl)) rfl rfl ?_)
    intro a fr
    refine lst rfl (ow_v fr (rn_assign (fr.ev rfl)) rfl rfl ?_)
    intro a fr
    refine wpList_nil ?_
    refine then_n ?_
    refine cond_f fr rfl rfl ?_
    refine wp_seq ?_
    refine reg ?_
    refine lst rfl (ow_v fr (rn_as (rn_eql (fr.ev rfl) (fr.ev rfl)) (by rfl)) rfl rfl ?_)
    intro a fr
    refine lst rfl (ow_v fr (rn_assign (fr.ev rfl)) rfl rfl ?_)
    intro a fr
    refine wpList_nil ?_
    refine then_n ?_
    refine cond_f fr rfl rfl ?_
    refine wp_seq ?_
    refine reg ?_
    refine lst rfl (ow_v fr (rn_as (rn_eql (fr.ev rfl) (fr.ev rfl)) (by rfl)) rfl rfl ?_)
    intro a fr
    refine lst rfl (ow_v fr (rn_assign (fr.ev rfl)) rfl rfl ?_)
    intro a fr
    refine wpList_nil ?_
    refine then_n ?_
    refine cond_f fr rfl rfl ?_
    refine wp_seq ?_
    refine reg ?_
    refine lst rfl (ow_v fr (rn_as (rn_eql (fr.ev rfl) (fr.ev rfl)) (by rfl)) rfl rfl ?_)
    intro a fr
    refine lst rfl (ow_v fr (rn_assign (fr.ev rfl)) rfl rfl ?_)
    intro a fr
    refine wpList_nil ?_
    refine then_n ?_
    refine cond_f fr rfl rfl ?_
    refine wp_skip ?_
    refine blk_n ?_
    refine then_n ?_
    refine wp_seq ?_
    refine dr_start (by kernel_rfl) st (.cons_cons _ (.cons_cons _ (.cons_cons _ (.cons _ (.cons_cons _ .slnil))))) ?_
    intro w st
    refine dr_take 0 rfl (by kernel_rfl) (by kernel_rfl) (by kernel_rfl) (fun _ _ _ h => h) fr rfl (st.sub (.cons_cons _ (.cons_cons _ (.cons_cons _ (.cons _ (.cons_cons _ .slnil)))))) (fun w st => rn_loadN (cs := [.int .i64 ((k : Nat)), .int .i64 ((bs[k].toNat : Nat)), .int .i64 0, .int .i64 0]) (fr.ev rfl) Try.underlying29 rfl sz_29 (st.blkrange 0 rfl 0 rfl)) rfl rfl ?_
    intro a fr
    refine dr_take 1 rfl (by kernel_rfl) (by kernel_rfl) (by kernel_rfl) (fun _ _ _ h => h) fr rfl (st.sub (.cons_cons _ (.cons_cons _ (.cons_cons _ (.cons _ (.cons_cons _ .slnil)))))) (fun w st => rn_move (fr.ev rfl)) rfl rfl ?_
    intro a fr
    refine dr_take 2 rfl (by kernel_rfl) (by kernel_rfl) (by kernel_rfl) (fun _ _ _ h => h) fr rfl (st.sub (.cons_cons _ (.cons_cons _ (.cons_cons _ (.cons _ (.cons_cons _ .slnil)))))) (fun w st => rn_add (a := (k : Nat)) (b := 1) (c := ((k + 1 : Nat) : Int)) (fr.ev rfl) (fr.ev rfl) (wr_i64e (by omega) (by omega) (by omega))) rfl rfl ?_
    intro a fr
    refine dr_take 3 rfl (by kernel_rfl) (by kernel_rfl) (by kernel_rfl) (fun _ _ _ h => h) fr rfl (st.sub (.cons_cons _ (.cons_cons _ (.cons_cons _ (.cons _ (.cons_cons _ .slnil)))))) (fun w st => rn_move (fr.ev rfl)) rfl rfl ?_
    intro a fr
    refine dr_one 4 (by kernel_rfl) rfl rfl (ow_call fr rfl rfl Try.call43 (rest_lit 0 0 (by simp [Rng]) (by decide) _) rfl rfl ?_)
    rintro e w ⟨rfl, hag⟩
    refine ⟨_, rfl, ?_⟩
    intro a fr
    have st := st.keep hag
    clear hag
    refine ⟨st.sub (.cons_cons _ (.cons_cons _ (.cons_cons _ (.cons _ (.cons_cons _ .slnil))))), ?_⟩
    refine dr_take 5 rfl (by kernel_rfl) (by kernel_rfl) (by kernel_rfl) (fun _ _ _ h => h) fr rfl (st.sub (.cons_cons _ (.cons_cons _ (.cons_cons _ (.cons _ (.cons_cons _ .slnil)))))) (fun w st => rn_add (a := ((k + 1 : Nat) : Int)) (b := 0) (c := ((k + 1 : Nat) : Int)) (fr.ev rfl) (fr.ev rfl) (wr_i64e (by omega) (by omega) (by omega))) rfl rfl ?_
    intro a fr
    refine dr_one 6 (by kernel_rfl) rfl rfl (ow_stN fr st 3 (vs := [.int .i64 ((k : Nat)), .int .i64 ((bs[k].toNat : Nat)), .int .i64 0, .int .i64 0]) rfl rfl rfl rfl sz_29 rfl (Nat.le_of_ble_eq_true rfl) rfl ?_)
    intro w (st : St _ [] w [.blk b8 [.int .i64 ((k : Nat)), .int .i64 ((bs[k].toNat : Nat)), .int .i64 0, .int .i64 0] 29, els C8 1 A4 ms5, ro b2 (o3 + k * 1) [.int .u8 ((bs[k].toNat : Nat))], .blk b1 [.int .i64 ((k : Nat)), .int .i64 ((bs[k].toNat : Nat)), .int .i64 0, .int .i64 0] 29, els C8 1 (some ⟨b2, o3, none⟩) bs])
    refine ⟨st.sub (.cons_cons _ (.cons_cons _ (.cons_cons _ (.cons _ (.cons_cons _ .slnil))))), ?_⟩
    refine dr_take 7 rfl (by kernel_rfl) (by kernel_rfl) (by kernel_rfl) (fun _ _ _ h => h) fr rfl (st.sub (.cons_cons _ (.cons_cons _ (.cons_cons _ (.cons _ (.cons_cons _ .slnil)))))) (fun w st => rn_assign (fr.ev rfl)) rfl rfl ?_
    intro a fr
    refine dr_take 8 rfl (by kernel_rfl) (by kernel_rfl) (by kernel_rfl) (fun _ _ _ h => h) fr rfl (st.sub (.cons_cons _ (.cons_cons _ (.cons_cons _ (.cons _ (.cons_cons _ .slnil)))))) (fun w st => rn_assign (fr.ev rfl)) rfl rfl ?_
    intro a fr
    refine dr_done (by kernel_rfl) ?_
    refine then_n ?_
    refine wp_ret ?_
    refine ret3 Try.results13 fr (rv_row (cs := [.int .i64 ((k : Nat)), .int .i64 ((bs[k].toNat : Nat)), .int .i64 0, .int .i64 0]) fr rfl Try.underlying29 rfl (by first | exact sz_29 | simpa using sz_29) (st.blkrange 3 rfl 0 rfl)) (rv_tmp fr rfl) (rv_tmp fr rfl) ?_
    exact ⟨by simp [okA, okB, behF, insC, ub_eq hk, Nat.mul_comm 256], st.agr⟩
  · have hs2 : k + 1 + 1 ≤ bs.length := hs
    have hk1 : k + 1 < bs.length := by omega
    refine enter Try.func13 rfl Try.ntmps13 (by simp) ?_
    intro a fr
    refine wp_seq ?_
    refine reg ?_
    refine lst rfl (ow_alloc fr st rfl zv_29 rfl rfl _ (by rfl) ?_)
    intro a w b1 fr st
    refine lst rfl (ow_v fr (rn_assign (fr.ev rfl)) rfl rfl ?_)
    intro a fr
    refine lst rfl (ow_v fr (rn_assign (fr.ev rfl)) rfl rfl ?_)
    intro a fr
    refine wpList_nil ?_
    refine then_n ?_
    refine wp_seq ?_
    refine wp_seq ?_
    refine reg ?_
    refine lst rfl (ow_v fr (rn_move (fr.ev rfl)) rfl rfl ?_)
    intro a fr
    refine lst rfl (ow_v fr (rn_as (v' := .bool false) (rn_lss (fr.ev rfl) (fr.ev rfl)) (congrArg Value.bool (decide_eq_false (by omega)))) rfl rfl ?_)
    intro a fr
    refine lst rfl (ow_v fr (rn_move (fr.ev rfl)) rfl rfl ?_)
    intro a fr
    refine lst_y (wanted_of fr rfl rfl rfl rfl) (ow_v fr (rn_move (fr.ev rfl)) rfl rfl ?_)
    intro a fr
    refine lst_y (wanted_of fr rfl rfl rfl rfl) (ow_v fr (rn_move (fr.ev rfl)) rfl rfl ?_)
    intro a fr
    refine lst_y (wanted_of fr rfl rfl rfl rfl) (ow_v fr (rn_len (fr.ev rfl) Try.underlying22) rfl rfl ?_)
    intro a fr
    refine lst_y (wanted_of fr rfl rfl rfl rfl) (ow_v fr (rn_as (v' := .bool false) (rn_geq (fr.ev rfl) (fr.ev rfl)) (congrArg Value.bool (decide_eq_false (by omega)))) rfl rfl ?_)
    intro a fr
    refine lst rfl (ow_v fr (rn_pick_f (fr.ev rfl) (fr.ev rfl)) rfl rfl ?_)
    intro a fr
    refine wpList_nil ?_
    refine then_n ?_
    refine cond_f fr rfl rfl ?_
    refine wp_skip ?_
    refine then_n ?_
    refine wp_seq ?_
    refine reg ?_
    refine lst rfl (ow_v fr (rn_move (fr.ev rfl)) rfl rfl ?_)
    intro a fr
    refine lst rfl (ow_v fr (rn_move (fr.ev rfl)) rfl rfl ?_)
    intro a fr
    have hb3 := u8lt (bs[k]'(by omega))
    obtain ⟨b2, o3, eA, st_⟩ := st.elem 1 rfl k (by omega) (by simp [C8])
    have fr_ := fr
    cases eA
    have st := st_
    have fr := fr_
    clear st_ fr_
    replace st : St _ [] w [ro b2 (o3 + k * 1) [.int .u8 ((bs[k].toNat : Nat))], .blk b1 [.int .i64 0, .int .i64 0, .int .i64 0, .int .i64 0] 29, els C8 1 (some ⟨b2, o3, none⟩) bs] := st
    refine lst rfl (ow_v fr (rn_at (i := k) (fr.ev rfl) (fr.ev rfl) Try.underlying22 sz_5 (by omega) (by rfl)) rfl rfl ?_)
    intro a fr
    refine lst rfl (ow_v fr (rn_load (fr.ev rfl) Try.underlying5 rfl (st.rocell 0 rfl (j := 0) rfl)) rfl rfl ?_)
    intro a fr
    refine lst rfl (ow_v fr (rn_conv (c := (bs[k].toNat : Nat)) (fr.ev rfl) (by kernel_rfl) Try.underlying3 (wr_i64 _ (by omega) (by omega))) rfl rfl ?_)
    intro a fr
    refine lst rfl (ow_v fr (rn_assign (fr.ev rfl)) rfl rfl ?_)
    intro a fr
    refine wpList_nil ?_
    refine then_n ?_
    refine wp_seq ?_
    refine reg ?_
    refine lst rfl (ow_v fr (rn_move (fr.ev rfl)) rfl rfl ?_)
    intro a fr
    refine lst rfl (ow_call fr rfl rfl Try.call19 (form_t _ h _) rfl rfl ?_)
    rintro e w ⟨rfl, hag⟩
    refine ⟨_, rfl, ?_⟩
    intro a fr
    have st := st.keep hag
    clear hag
    refine lst rfl (ow_v fr (rn_move (fr.ev rfl)) rfl rfl ?_)
    intro a fr
    refine lst rfl (ow_v fr (rn_extract (fr.ev rfl) rfl) rfl rfl ?_)
    intro a fr
    refine lst rfl (ow_v fr (rn_extract (fr.ev rfl) rfl) rfl rfl ?_)
    intro a fr
    refine lst rfl (ow_v fr (rn_assign (fr.ev rfl)) rfl rfl ?_)
    intro a fr
    refine lst rfl (ow_v fr (rn_assign (fr.ev rfl)) rfl rfl ?_)
    intro a fr
    refine wpList_nil ?_
    refine then_n ?_
    refine wp_seq ?_
    refine wp_seq ?_
    refine reg ?_
    refine lst rfl (ow_v fr (rn_move (fr.ev rfl)) rfl rfl ?_)
    intro a fr
    refine lst rfl (ow_v fr (rn_not (fr.ev rfl)) rfl rfl ?_)
    intro a fr
    refine wpList_nil ?_
    refine then_n ?_
    refine cond_f fr rfl rfl ?_
    refine wp_skip ?_
    refine then_n ?_
    refine wp_seq ?_
    refine reg ?_
    refine lst rfl (ow_v fr (rn_move (fr.ev rfl)) rfl rfl ?_)
    intro a fr
    refine lst rfl (ow_v fr (rn_move (fr.ev rfl)) rfl rfl ?_)
    intro a fr
    refine lst rfl (ow_v fr (rn_add (a := (k : Nat)) (b := 1) (c := ((k + 1 : Nat) : Int)) (fr.ev rfl) (fr.ev rfl) (wr_i64e (by omega) (by omega) (by omega))) rfl rfl ?_)
    intro a fr
    refine lst rfl (ow_v fr (rn_from (lo := k + 1) (fr.ev rfl) (fr.ev rfl) Try.underlying22 sz_5 (by omega)) rfl rfl ?_)
    intro a fr
    have st := st.cutFrom (m := bc) (lo := k + 1) 2 rfl (by decide) (fun _ => rfl) (by omega)
    obtain ⟨A4, hA_A4⟩ : ∃ A2, cutA (some ⟨b2, o3, none⟩) bc (k + 1) 1 = A2 := ⟨_, rfl⟩
    obtain ⟨ms5, hms6⟩ : ∃ ms, (bs.drop (k + 1)) = ms := ⟨_, rfl⟩
    have hl_ms5 : ms5.length = bs.length - (k + 1) := by rw [← hms6]; simp; try omega
    rw [hA_A4] at st fr
    rw [hms6] at st
    obtain ⟨cc7, hc_cc7⟩ : ∃ c, bc - (k + 1) = c := ⟨_, rfl⟩
    rw [hc_cc7, ← hl_ms5] at fr
    clear hA_A4
    have hce_cc7 : ms5.length ≤ cc7 := by have hq_ : bs.length ≤ bc := (by omega); omega
    refine lst rfl (ow_v fr (rn_assign (fr.ev rfl)) rfl rfl ?_)
    intro a fr
    refine wpList_nil ?_
    refine then_n ?_
    refine wp_seq ?_
    refine wp_seq ?_
    refine reg ?_
    refine lst rfl (ow_v fr (rn_move (fr.ev rfl)) rfl rfl ?_)
    intro a fr
    refine lst rfl (ow_v fr (rn_len (fr.ev rfl) Try.underlying22) rfl rfl ?_)
    intro a fr
    refine lst rfl (ow_v fr (rn_move (fr.ev rfl)) rfl rfl ?_)
    intro a fr
    refine lst rfl (ow_call fr rfl rfl Try.call43 (rest_lit 1 1 (by simp [Rng]) (by decide) _) rfl rfl ?_)
    rintro e w ⟨rfl, hag⟩
    refine ⟨_, rfl, ?_⟩
    intro a fr
    have st := st.keep hag
    clear hag
    refine lst rfl (ow_v fr (rn_as (v' := .bool false) (rn_lss (fr.ev rfl) (fr.ev rfl)) (congrArg Value.bool (decide_eq_false (by omega)))) rfl rfl ?_)
    intro a fr
    refine wpList_nil ?_
    refine then_n ?_
    refine cond_f fr rfl rfl ?_
    refine wp_skip ?_
    refine then_n ?_
    refine wp_seq ?_
    refine reg ?_
    refine lst rfl (ow_v fr (rn_move (fr.ev rfl)) rfl rfl ?_)
    intro a fr
    refine lst rfl (ow_v fr (rn_move (fr.ev rfl)) rfl rfl ?_)
    intro a fr
    refine lst rfl (ow_v fr (rn_build (cells := #[.int .i64 ((k : Nat)), .int .i64 ((bs[k].toNat : Nat)), .int .i64 0, .int .i64 0]) (by simp only [List.map_toArray, List.map_cons, List.map_nil]; rw [fr.ev (x := .tmp 44) rfl, fr.ev (x := .tmp 45) rfl]; rfl)) rfl rfl ?_)
    intro a fr
    refine lst rfl (ow_alloc fr st rfl zv_29 rfl rfl _ (by rfl) ?_)
    intro a w b8 fr st
    refine lst rfl (ow_stN fr st 0 (vs := [.int .i64 ((k : Nat)), .int .i64 ((bs[k].toNat : Nat)), .int .i64 0, .int .i64 0]) rfl rfl rfl rfl sz_29 rfl (Nat.le_of_ble_eq_true rfl) rfl ?_)
    intro w (st : St _ [] w [.blk b8 [.int .i64 ((k : Nat)), .int .i64 ((bs[k].toNat : Nat)), .int .i64 0, .int .i64 0] 29, els C8 1 A4 ms5, ro b2 (o3 + k * 1) [.int .u8 ((bs[k].toNat : Nat))], .blk b1 [.int .i64 0, .int .i64 0, .int .i64 0, .int .i64 0] 29, els C8 1 (some ⟨b2, o3, none⟩) bs])
    refine wpList_nil ?_
    refine then_n ?_
    refine wp_seq ?_
    refine wp_seq ?_
    refine reg ?_
    refine lst rfl (ow_v fr (rn_move (fr.ev rfl)) rfl rfl ?_)
    intro a fr
    refine wpList_nil ?_
    refine then_n ?_
    refine wp_block ?_
    refine wp_seq ?_
    refine wp_seq ?_
    refine reg ?_
    refine lst rfl (ow_v fr (rn_as (rn_eql (fr.ev rfl) (fr.ev rfl)) (by rfl)) rfl rfl ?_)
    intro a fr
    refine lst rfl (ow_v fr (rn_assign (fr.ev rfl)) rfl rfl ?_)
    intro a fr
    refine wpList_nil ?_
    refine then_n ?_
    refine cond_t fr rfl rfl ?_
    refine wp_skip ?_
    refine then_n ?_
    refine cond_t fr rfl rfl ?_
    refine reg ?_
    refine lst rfl (ow_v fr (rn_move (fr.ev rfl)) rfl rfl ?_)
    intro a fr
    have hb10 := u8lt (bs[k + 1]'(by omega))
    obtain ⟨b9, o10, eA, st_⟩ := st.elem 1 rfl 0 (by omega) (by simp [C8])
    have fr_ := fr
    cases eA
    have st := st_
    have fr := fr_
    clear st_ fr_
    rw [drop_get hms6 (m := k + 1) (by omega) (by omega) (by omega)] at st
    replace st : St _ [] w [ro b9 (o10 + 0 * 1) [.int .u8 ((bs[k + 1].toNat : Nat))], .blk b8 [.int .i64 ((k : Nat)), .int .i64 ((bs[k].toNat : Nat)), .int .i64 0, .int .i64 0] 29, els C8 1 (some ⟨b9, o10, none⟩) ms5, ro b2 (o3 + k * 1) [.int .u8 ((bs[k].toNat : Nat))], .blk b1 [.int .i64 0, .int .i64 0, .int .i64 0, .int .i64 0] 29, els C8 1 (some ⟨b2, o3, none⟩) bs] := st
    refine lst rfl (ow_v fr (rn_at (i := 0) (fr.ev rfl) (fr.ev rfl) Try.underlying22 sz_5 (by omega) (by rfl)) rfl rfl ?_)
    intro a fr
    refine lst rfl (ow_v fr (rn_load (fr.ev rfl) Try.underlying5 rfl (st.rocell 0 rfl (j := 0) rfl)) rfl rfl ?_)
    intro a fr
    refine lst rfl (ow_v fr (rn_conv (c := (bs[k + 1].toNat : Nat)) (fr.ev rfl) (by kernel_rfl) Try.underlying3 (wr_i64 _ (by omega) (by omega))) rfl rfl ?_)
    intro a fr
    refine lst rfl (ow_v fr (fa_29_2 (fr.ev rfl)) rfl rfl ?_)
    intro a fr
    refine lst rfl (ow_st fr st 1 rfl rfl rfl rfl sz_3 rfl rfl rfl ?_)
    intro w (st : St _ [] w [ro b9 (o10 + 0 * 1) [.int .u8 ((bs[k + 1].toNat : Nat))], .blk b8 [.int .i64 ((k : Nat)), .int .i64 ((bs[k].toNat : Nat)), .int .i64 ((bs[k + 1].toNat : Nat)), .int .i64 0] 29, els C8 1 (some ⟨b9, o10, none⟩) ms5, ro b2 (o3 + k * 1) [.int .u8 ((bs[k].toNat : Nat))], .blk b1 [.int .i64 0, .int .i64 0, .int .i64 0, .int .i64 0] 29, els C8 1 (some ⟨b2, o3, none⟩) bs])
    refine wpList_nil ?_
    refine blk_n ?_
    refine then_n ?_
    refine wp_seq ?_
    refine dr_start (by kernel_rfl) st (.cons_cons _ (.cons_cons _ (.cons_cons _ (.cons_cons _ (.cons _ (.cons_cons _ .slnil)))))) ?_
    intro w st
    refine dr_take 0 rfl (by kernel_rfl) (by kernel_rfl) (by kernel_rfl) (fun _ _ _ h => h) fr rfl (st.sub (.cons_cons _ (.cons_cons _ (.cons_cons _ (.cons_cons _ (.cons _ (.cons_cons _ .slnil))))))) (fun w st => rn_loadN (cs := [.int .i64 ((k : Nat)), .int .i64 ((bs[k].toNat : Nat)), .int .i64 ((bs[k + 1].toNat : Nat)), .int .i64 0]) (fr.ev rfl) Try.underlying29 rfl sz_29 (st.blkrange 1 rfl 0 rfl)) rfl rfl ?_
    intro a fr
    refine dr_take 1 rfl (by kernel_rfl) (by kernel_rfl) (by kernel_rfl) (fun _ _ _ h => h) fr rfl (st.sub (.cons_cons _ (.cons_cons _ (.cons_cons _ (.cons_cons _ (.cons _ (.cons_cons _ .slnil))))))) (fun w st => rn_move (fr.ev rfl)) rfl rfl ?_
    intro a fr
    refine dr_take 2 rfl (by kernel_rfl) (by kernel_rfl) (by kernel_rfl) (fun _ _ _ h => h) fr rfl (st.sub (.cons_cons _ (.cons_cons _ (.cons_cons _ (.cons_cons _ (.cons _ (.cons_cons _ .slnil))))))) (fun w st => rn_add (a := (k : Nat)) (b := 1) (c := ((k + 1 : Nat) : Int)) (fr.ev rfl) (fr.ev rfl) (wr_i64e (by omega) (by omega) (by omega))) rfl rfl ?_
    intro a fr
    refine dr_take 3 rfl (by kernel_rfl) (by kernel_rfl) (by kernel_rfl) (fun _ _ _ h => h) fr rfl (st.sub (.cons_cons _ (.cons_cons _ (.cons_cons _ (.cons_cons _ (.cons _ (.cons_cons _ .slnil))))))) (fun w st => rn_move (fr.ev rfl)) rfl rfl ?_
    intro a fr
    refine dr_one 4 (by kernel_rfl) rfl rfl (ow_call fr rfl rfl Try.call43 (rest_lit 1 1 (by simp [Rng]) (by decide) _) rfl rfl ?_)
    rintro e w ⟨rfl, hag⟩
    refine ⟨_, rfl, ?_⟩
    intro a fr
    have st := st.keep hag
    clear hag
    refine ⟨st.sub (.cons_cons _ (.cons_cons _ (.cons_cons _ (.cons_cons _ (.cons _ (.cons_cons _ .slnil)))))), ?_⟩
    refine dr_take 5 rfl (by kernel_rfl) (by kernel_rfl) (by kernel_rfl) (fun _ _ _ h => h) fr rfl (st.sub (.cons_cons _ (.cons_cons _ (.cons_cons _ (.cons_cons _ (.cons _ (.cons_cons _ .slnil))))))) (fun w st => rn_add (a := ((k + 1 : Nat) : Int)) (b := 1) (c := ((k + 1 + 1 : Nat) : Int)) (fr.ev rfl) (fr.ev rfl) (wr_i64e (by omega) (by omega) (by omega))) rfl rfl ?_
    intro a fr
    refine dr_one 6 (by kernel_rfl) rfl rfl (ow_stN fr st 4 (vs := [.int .i64 ((k : Nat)), .int .i64 ((bs[k].toNat : Nat)), .int .i64 ((bs[k + 1].toNat : Nat)), .int .i64 0]) rfl rfl rfl rfl sz_29 rfl (Nat.le_of_ble_eq_true rfl) rfl ?_)
    intro w (st : St _ [] w [ro b9 (o10 + 0 * 1) [.int .u8 ((bs[k + 1].toNat : Nat))], .blk b8 [.int .i64 ((k : Nat)), .int .i64 ((bs[k].toNat : Nat)), .int .i64 ((bs[k + 1].toNat : Nat)), .int .i64 0] 29, els C8 1 (some ⟨b9, o10, none⟩) ms5, ro b2 (o3 + k * 1) [.int .u8 ((bs[k].toNat : Nat))], .blk b1 [.int .i64 ((k : Nat)), .int .i64 ((bs[k].toNat : Nat)), .int .i64 ((bs[k + 1].toNat : Nat)), .int .i64 0] 29, els C8 1 (some ⟨b2, o3, none⟩) bs])
    refine ⟨st.sub (.cons_cons _ (.cons_cons _ (.cons_cons _ (.cons_cons _ (.cons _ (.cons_cons _ .slnil)))))), ?_⟩
    refine dr_take 7 rfl (by kernel_rfl) (by kernel_rfl) (by kernel_rfl) (fun _ _ _ h => h) fr rfl (st.sub (.cons_cons _ (.cons_cons _ (.cons_cons _ (.cons_cons _ (.cons _ (.cons_cons _ .slnil))))))) (fun w st => rn_assign (fr.ev rfl)) rfl rfl ?_
    intro a fr
    refine dr_take 8 rfl (by kernel_rfl) (by kernel_rfl) (by kernel_rfl) (fun _ _ _ h => h) fr rfl (st.sub (.cons_cons _ (.cons_cons _ (.cons_cons _ (.cons_cons _ (.cons _ (.cons_cons _ .slnil))))))) (fun w st => rn_assign (fr.ev rfl)) rfl rfl ?_
    intro a fr
    refine dr_done (by kernel_rfl) ?_
    refine then_n ?_
    refine wp_ret ?_
    refine ret3 Try.results13 fr (rv_row (cs := [.int .i64 ((k : Nat)), .int .i64 ((bs[k].toNat : Nat)), .int .i64 ((bs[k + 1].toNat : Nat)), .int .i64 0]) fr rfl Try.underlying29 rfl (by first | exact sz_29 | simpa using sz_29) (st.blkrange 4 rfl 0 rfl)) (rv_tmp fr rfl) (rv_tmp fr rfl) ?_
    exact ⟨by simp [okA, okB, behF, insC, ub_eq hk, ub_eq hk1, Nat.mul_comm 256], st.agr⟩
  · have hs2 : k + 1 + 1 ≤ bs.length := hs
    have hk1 : k + 1 < bs.length := by omega
    refine enter Try.func13 rfl Try.ntmps13 (by simp) ?_
    intro a fr
    refine wp_seq ?_
    refine reg ?_
    refine lst rfl (ow_alloc fr st rfl zv_29 rfl rfl _ (by rfl) ?_)
    intro a w b1 fr st
    refine lst rfl (ow_v fr (rn_assign (fr.ev rfl)) rfl rfl ?_)
    intro a fr
    refine lst rfl (ow_v fr (rn_assign (fr.ev rfl)) rfl rfl ?_)
    intro a fr
    refine wpList_nil ?_
    refine then_n ?_
    refine wp_seq ?_
    refine wp_seq ?_
    refine reg ?_
    refine lst rfl (ow_v fr (rn_move (fr.ev rfl)) rfl rfl ?_)
    intro a fr
    refine lst rfl (ow_v fr (rn_as (v' := .bool false) (rn_lss (fr.ev rfl) (fr.ev rfl)) (congrArg Value.bool (decide_eq_false (by omega)))) rfl rfl ?_)
    intro a fr
    refine lst rfl (ow_v fr (rn_move (fr.ev rfl)) rfl rfl ?_)
    intro a fr
    refine lst_y (wanted_of fr rfl rfl rfl rfl) (ow_v fr (rn_move (fr.ev rfl)) rfl rfl ?_)
    intro a fr
    refine lst_y (wanted_of fr rfl rfl rfl rfl) (ow_v fr (rn_move (fr.ev rfl)) rfl rfl ?_)
    intro a fr
    refine lst_y (wanted_of fr rfl rfl rfl rfl) (ow_v fr (rn_len (fr.ev rfl) Try.underlying22) rfl rfl ?_)
    intro a fr
    refine lst_y (wanted_of fr rfl rfl rfl rfl) (ow_v fr (rn_as (v' := .bool false) (rn_geq (fr.ev rfl) (fr.ev rfl)) (congrArg Value.bool (decide_eq_false (by omega)))) rfl rfl ?_)
    intro a fr
    refine lst rfl (ow_v fr (rn_pick_f (fr.ev rfl) (fr.ev rfl)) rfl rfl ?_)
    intro a fr
    refine wpList_nil ?_
    refine then_n ?_
    refine cond_f fr rfl rfl ?_
    refine wp_skip ?_
    refine then_n ?_
    refine wp_seq ?_
    refine reg ?_
    refine lst rfl (ow_v fr (rn_move (fr.ev rfl)) rfl rfl ?_)
    intro a fr
    refine lst rfl (ow_v fr (rn_move (fr.ev rfl)) rfl rfl ?_)
    intro a fr
    have hb3 := u8lt (bs[k]'(by omega))
    obtain ⟨b2, o3, eA, st_⟩ := st.elem 1 rfl k (by omega) (by simp [C8])
    have fr_ := fr
    cases eA
    have st := st_
    have fr := fr_
    clear st_ fr_
    replace st : St _ [] w [ro b2 (o3 + k * 1) [.int .u8 ((bs[k].toNat : Nat))], .blk b1 [.int .i64 0, .int .i64 0, .int .i64 0, .int .i64 0] 29, els C8 1 (some ⟨b2, o3, none⟩) bs] := st
    refine lst rfl (ow_v fr (rn_at (i := k) (fr.ev rfl) (fr.ev rfl) Try.underlying22 sz_5 (by omega) (by rfl)) rfl rfl ?_)
    intro a fr
    refine lst rfl (ow_v fr (rn_load (fr.ev rfl) Try.underlying5 rfl (st.rocell 0 rfl (j := 0) rfl)) rfl rfl ?_)
    intro a fr
    refine lst rfl (ow_v fr (rn_conv (c := (bs[k].toNat : Nat)) (fr.ev rfl) (by kernel_rfl) Try.underlying3 (wr_i64 _ (by omega) (by omega))) rfl rfl ?_)
    intro a fr
    refine lst rfl (ow_v fr (rn_assign (fr.ev rfl)) rfl rfl ?_)
    intro a fr
    refine wpList_nil ?_
    refine then_n ?_
    refine wp_seq ?_
    refine reg ?_
    refine lst rfl (ow_v fr (rn_move (fr.ev rfl)) rfl rfl ?_)
    intro a fr
    refine lst rfl (ow_call fr rfl rfl Try.call19 (form_t _ h _) rfl rfl ?_)
    rintro e w ⟨rfl, hag⟩
    refine ⟨_, rfl, ?_⟩
    intro a fr
    have st := st.keep hag
    clear hag
    refine lst rfl (ow_v fr (rn_move (fr.ev rfl)) rfl rfl ?_)
    intro a fr
    refine lst rfl (ow_v fr (rn_extract (fr.ev rfl) rfl) rfl rfl ?_)
    intro a fr
    refine lst rfl (ow_v fr (rn_extract (fr.ev rfl) rfl) rfl rfl ?_)
    intro a fr
    refine lst rfl (ow_v fr (rn_assign (fr.ev rfl)) rfl rfl ?_)
    intro a fr
    refine lst rfl (ow_v fr (rn_assign (fr.ev rfl)) rfl rfl ?_)
    intro a fr
    refine wpList_nil ?_
    refine then_n ?_
    refine wp_seq ?_
    refine wp_seq ?_
    refine reg ?_
    refine lst rfl (ow_v fr (rn_move (fr.ev rfl)) rfl rfl ?_)
    intro a fr
    refine lst rfl (ow_v fr (rn_not (fr.ev rfl)) rfl rfl ?_)
    intro a fr
    refine wpList_nil ?_
    refine then_n ?_
    refine cond_f fr rfl rfl ?_
    refine wp_skip ?_
    refine then_n ?_
    refine wp_seq ?_
    refine reg ?_
    refine lst rfl (ow_v fr (rn_move (fr.ev rfl)) rfl rfl ?_)
    intro a fr
    refine lst rfl (ow_v fr (rn_move (fr.ev rfl)) rfl rfl ?_)
    intro a fr
    refine lst rfl (ow_v fr (rn_add (a := (k : Nat)) (b := 1) (c := ((k + 1 : Nat) : Int)) (fr.ev rfl) (fr.ev rfl) (wr_i64e (by omega) (by omega) (by omega))) rfl rfl ?_)
    intro a fr
    refine lst rfl (ow_v fr (rn_from (lo := k + 1) (fr.ev rfl) (fr.ev rfl) Try.underlying22 sz_5 (by omega)) rfl rfl ?_)
    intro a fr
    have st := st.cutFrom (m := bc) (lo := k + 1) 2 rfl (by decide) (fun _ => rfl) (by omega)
    obtain ⟨A4, hA_A4⟩ : ∃ A2, cutA (some ⟨b2, o3, none⟩) bc (k + 1) 1 = A2 := ⟨_, rfl⟩
    obtain ⟨ms5, hms6⟩ : ∃ ms, (bs.drop (k + 1)) = ms := ⟨_, rfl⟩
    have hl_ms5 : ms5.length = bs.length - (k + 1) := by rw [← hms6]; simp; try omega
    rw [hA_A4] at st fr
    rw [hms6] at st
    obtain ⟨cc7, hc_cc7⟩ : ∃ c, bc - (k + 1) = c := ⟨_, rfl⟩
    rw [hc_cc7, ← hl_ms5] at fr
    clear hA_A4
    have hce_cc7 : ms5.length ≤ cc7 := by have hq_ : bs.length ≤ bc := (by omega); omega
    refine lst rfl (ow_v fr (rn_assign (fr.ev rfl)) rfl rfl ?_)
    intro a fr
    refine wpList_nil ?_
    refine then_n ?_
    refine wp_seq ?_
    refine wp_seq ?_
    refine reg ?_
    refine lst rfl (ow_v fr (rn_move (fr.ev rfl)) rfl rfl ?_)
    intro a fr
    refine lst rfl (ow_v fr (rn_len (fr.ev rfl) Try.underlying22) rfl rfl ?_)
    intro a fr
    refine lst rfl (ow_v fr (rn_move (fr.ev rfl)) rfl rfl ?_)
    intro a fr
    refine lst rfl (ow_call fr rfl rfl Try.call43 (rest_lit 2 1 (by simp [Rng]) (by decide) _) rfl rfl ?_)
    rintro e w ⟨rfl, hag⟩
    refine ⟨_, rfl, ?_⟩
    intro a fr
    have st := st.keep hag
    clear hag
    refine lst rfl (ow_v fr (rn_as (v' := .bool false) (rn_lss (fr.ev rfl) (fr.ev rfl)) (congrArg Value.bool (decide_eq_false (by omega)))) rfl rfl ?_)
    intro a fr
    refine wpList_nil ?_
    refine then_n ?_
    refine cond_f fr rfl rfl ?_
    refine wp_skip ?_
    refine then_n ?_
    refine wp_seq ?_
    refine reg ?_
    refine lst rfl (ow_v fr (rn_move (fr.ev rfl)) rfl rfl ?_)
    intro a fr
    refine lst rfl (ow_v fr (rn_move (fr.ev rfl)) rfl rfl ?_)
    intro a fr
    refine lst rfl (ow_v fr (rn_build (cells := #[.int .i64 ((k : Nat)), .int .i64 ((bs[k].toNat : Nat)), .int .i64 0, .int .i64 0]) (by simp only [List.map_toArray, List.map_cons, List.map_nil]; rw [fr.ev (x := .tmp 44) rfl, fr.ev (x := .tmp 45) rfl]; rfl)) rfl rfl ?_)
    intro a fr
    refine lst rfl (ow_alloc fr st rfl zv_29 rfl rfl _ (by rfl) ?_)
    intro a w b8 fr st
    refine lst rfl (ow_stN fr st 0 (vs := [.int .i64 ((k : Nat)), .int .i64 ((bs[k].toNat : Nat)), .int .i64 0, .int .i64 0]) rfl rfl rfl rfl sz_29 rfl (Nat.le_of_ble_eq_true rfl) rfl ?_)
    intro w (st : St _ [] w [.blk b8 [.int .i64 ((k : Nat)), .int .i64 ((bs[k].toNat : Nat)), .int .i64 0, .int .i64 0] 29, els C8 1 A4 ms5, ro b2 (o3 + k * 1) [.int .u8 ((bs[k].toNat : Nat))], .blk b1 [.int .i64 0, .int .i64 0, .int .i64 0, .int .i64 0] 29, els C8 1 (some ⟨b2, o3, none⟩) bs])
    refine wpList_nil ?_
    refine then_n ?_
    refine wp_seq ?_
    refine wp_seq ?_
    refine reg ?_
    refine lst rfl (ow_v fr (rn_move (fr.ev rfl)) rfl rfl ?_)
    intro a fr
    refine wpList_nil ?_
    refine then_n ?_
    refine wp_block ?_
    refine wp_seq ?_
    refine wp_seq ?_
    refine reg ?_
    refine lst rfl (ow_v fr (rn_as (rn_eql (fr.ev rfl) (fr.ev rfl)) (by rfl)) rfl rfl ?_)
    intro a fr
    refine lst rfl (ow_v fr (rn_assign (fr.ev rfl)) rfl rfl ?_)
    intro a fr
    refine wpList_nil ?_
    refine then_n ?_
    refine cond_f fr rfl rfl ?_
    refine reg ?_
    refine lst rfl (ow_v fr (rn_as (rn_eql (fr.ev rfl) (fr.ev rfl)) (by rfl)) rfl rfl ?_)
    intro a fr
    refine lst rfl (ow_v fr (rn_assign (fr.ev rfl)) rfl rfl ?_)
    intro a fr
    refine wpList_nil ?_
    refine then_n ?_
    refine cond_f fr rfl rfl ?_
    refine wp_seq ?_
    refine reg ?_
    refine lst rfl (ow_v fr (rn_as (rn_eql (fr.ev rfl) (fr.ev rfl)) (by rfl)) rfl rfl ?_)
    intro a fr
    refine lst rfl (ow_v fr (rn_assign (fr.ev rfl)) rfl rfl ?_)
    intro a fr
    refine wpList_nil ?_
    refine then_n ?_
    refine cond_t fr rfl rfl ?_
    refine reg ?_
    refine lst rfl (ow_v fr (rn_move (fr.ev rfl)) rfl rfl ?_)
    intro a fr
    have hb10 := u8lt (bs[k + 1]'(by omega))
    obtain ⟨b9, o10, eA, st_⟩ := st.elem 1 rfl 0 (by omega) (by simp [C8])
    have fr_ := fr
    cases eA
    have st := st_
    have fr := fr_
    clear st_ fr_
    rw [drop_get hms6 (m := k + 1) (by omega) (by omega) (by omega)] at st
    replace st : St _ [] w [ro b9 (o10 + 0 * 1) [.int .u8 ((bs[k + 1].toNat : Nat))], .blk b8 [.int .i64 ((k : Nat)), .int .i64 ((bs[k].toNat : Nat)), .int .i64 0, .int .i64 0] 29, els C8 1 (some ⟨b9, o10, none⟩) ms5, ro b2 (o3 + k * 1) [.int .u8 ((bs[k].toNat : Nat))], .blk b1 [.int .i64 0, .int .i64 0, .int .i64 0, .int .i64 0] 29, els C8 1 (some ⟨b2, o3, none⟩) bs] := st
    refine lst rfl (ow_v fr (rn_at (i := 0) (fr.ev rfl) (fr.ev rfl) Try.underlying22 sz_5 (by omega) (by rfl)) rfl rfl ?_)
    intro a fr
    refine lst rfl (ow_v fr (rn_load (fr.ev rfl) Try.underlying5 rfl (st.rocell 0 rfl (j := 0) rfl)) rfl rfl ?_)
    intro a fr
    refine lst rfl (ow_v fr (rn_conv (c := sx8 (bs[k + 1].toNat)) (fr.ev rfl) (by kernel_rfl) Try.underlying64 (wr_i8 (bs[k + 1].toNat) (by omega))) rfl rfl ?_)
    intro a fr
    refine lst rfl (ow_v fr (rn_conv (c := sx8 (bs[k + 1].toNat)) (fr.ev rfl) (by kernel_rfl) Try.underlying3 (wr_i64 _ (by have := sx8_rng (bs[k + 1].toNat) (by omega); omega) (by have := sx8_rng (bs[k + 1].toNat) (by omega); omega))) rfl rfl ?_)
    intro a fr
    refine lst rfl (ow_v fr (fa_29_2 (fr.ev rfl)) rfl rfl ?_)
    intro a fr
    refine lst rfl (ow_st fr st 1 rfl rfl rfl rfl sz_3 rfl rfl rfl ?_)
    intro w (st : St _ [] w [ro b9 (o10 + 0 * 1) [.int .u8 ((bs[k + 1].toNat : Nat))], .blk b8 [.int .i64 ((k : Nat)), .int .i64 ((bs[k].toNat : Nat)), .int .i64 (sx8 (bs[k + 1].toNat)), .int .i64 0] 29, els C8 1 (some ⟨b9, o10, none⟩) ms5, ro b2 (o3 + k * 1) [.int .u8 ((bs[k].toNat : Nat))], .blk b1 [.int .i64 0, .int .i64 0, .int .i64 0, .int .i64 0] 29, els C8 1 (some ⟨b2, o3, none⟩) bs])
    refine wpList_nil ?_
    refine blk_n ?_
    refine then_n ?_
    refine wp_seq ?_
    refine dr_start (by kernel_rfl) st (.cons_cons _ (.cons_cons _ (.cons_cons _ (.cons_cons _ (.cons _ (.cons_cons _ .slnil)))))) ?_
    intro w st
    refine dr_take 0 rfl (by kernel_rfl) (by kernel_rfl) (by kernel_rfl) (fun _ _ _ h => h) fr rfl (st.sub (.cons_cons _ (.cons_cons _ (.cons_cons _ (.cons_cons _ (.cons _ (.cons_cons _ .slnil))))))) (fun w st => rn_loadN (cs := [.int .i64 ((k : Nat)), .int .i64 ((bs[k].toNat : Nat)), .int .i64 (sx8 (bs[k + 1].toNat)), .int .i64 0]) (fr.ev rfl) Try.underlying29 rfl sz_29 (st.blkrange 1 rfl 0 rfl)) rfl rfl ?_
    intro a fr
    refine dr_take 1 rfl (by kernel_rfl) (by kernel_rfl) (by kernel_rfl) (fun _ _ _ h => h) fr rfl (st.sub (.cons_cons _ (.cons_cons _ (.cons_cons _ (.cons_cons _ (.cons _ (.cons_cons _ .slnil))))))) (fun w st => rn_move (fr.ev rfl)) rfl rfl ?_
    intro a fr
    refine dr_take 2 rfl (by kernel_rfl) (by kernel_rfl) (by kernel_rfl) (fun _ _ _ h => h) fr rfl (st.sub (.cons_cons _ (.cons_cons _ (.cons_cons _ (.cons_cons _ (.cons _ (.cons_cons _ .slnil))))))) (fun w st => rn_add (a := (k : Nat)) (b := 1) (c := ((k + 1 : Nat) : Int)) (fr.ev rfl) (fr.ev rfl) (wr_i64e (by omega) (by omega) (by omega))) rfl rfl ?_
    intro a fr
    refine dr_take 3 rfl (by kernel_rfl) (by kernel_rfl) (by kernel_rfl) (fun _ _ _ h => h) fr rfl (st.sub (.cons_cons _ (.cons_cons _ (.cons_cons _ (.cons_cons _ (.cons _ (.cons_cons _ .slnil))))))) (fun w st => rn_move (fr.ev rfl)) rfl rfl ?_
    intro a fr
    refine dr_one 4 (by kernel_rfl) rfl rfl (ow_call fr rfl rfl Try.call43 (rest_lit 2 1 (by simp [Rng]) (by decide) _) rfl rfl ?_)
    rintro e w ⟨rfl, hag⟩
    refine ⟨_, rfl, ?_⟩
    intro a fr
    have st := st.keep hag
    clear hag
    refine ⟨st.sub (.cons_cons _ (.cons_cons _ (.cons_cons _ (.cons_cons _ (.cons _ (.cons_cons _ .slnil)))))), ?_⟩
    refine dr_take 5 rfl (by kernel_rfl) (by kernel_rfl) (by kernel_rfl) (fun _ _ _ h => h) fr rfl (st.sub (.cons_cons _ (.cons_cons _ (.cons_cons _ (.cons_cons _ (.cons _ (.cons_cons _ .slnil))))))) (fun w st => rn_add (a := ((k + 1 : Nat) : Int)) (b := 1) (c := ((k + 1 + 1 : Nat) : Int)) (fr.ev rfl) (fr.ev rfl) (wr_i64e (by omega) (by omega) (by omega))) rfl rfl ?_
    intro a fr
    refine dr_one 6 (by kernel_rfl) rfl rfl (ow_stN fr st 4 (vs := [.int .i64 ((k : Nat)), .int .i64 ((bs[k].toNat : Nat)), .int .i64 (sx8 (bs[k + 1].toNat)), .int .i64 0]) rfl rfl rfl rfl sz_29 rfl (Nat.le_of_ble_eq_true rfl) rfl ?_)
    intro w (st : St _ [] w [ro b9 (o10 + 0 * 1) [.int .u8 ((bs[k + 1].toNat : Nat))], .blk b8 [.int .i64 ((k : Nat)), .int .i64 ((bs[k].toNat : Nat)), .int .i64 (sx8 (bs[k + 1].toNat)), .int .i64 0] 29, els C8 1 (some ⟨b9, o10, none⟩) ms5, ro b2 (o3 + k * 1) [.int .u8 ((bs[k].toNat : Nat))], .blk b1 [.int .i64 ((k : Nat)), .int .i64 ((bs[k].toNat : Nat)), .int .i64 (sx8 (bs[k + 1].toNat)), .int .i64 0] 29, els C8 1 (some ⟨b2, o3, none⟩) bs])
    refine ⟨st.sub (.cons_cons _ (.cons_cons _ (.cons_cons _ (.cons_cons _ (.cons _ (.cons_cons _ .slnil)))))), ?_⟩
    refine dr_take 7 rfl (by kernel_rfl) (by kernel_rfl) (by kernel_rfl) (fun _ _ _ h => h) fr rfl (st.sub (.cons_cons _ (.cons_cons _ (.cons_cons _ (.cons_cons _ (.cons _ (.cons_cons _ .slnil))))))) (fun w st => rn_assign (fr.ev rfl)) rfl rfl ?_
    intro a fr
    refine dr_take 8 rfl (by kernel_rfl) (by kernel_rfl) (by kernel_rfl) (fun _ _ _ h => h) fr rfl (st.sub (.cons_cons _ (.cons_cons _ (.cons_cons _ (.cons_cons _ (.cons _ (.cons_cons _ .slnil))))))) (fun w st => rn_assign (fr.ev rfl)) rfl rfl ?_
    intro a fr
    refine dr_done (by kernel_rfl) ?_
    refine then_n ?_
    refine wp_ret ?_
    refine ret3 Try.results13 fr (rv_row (cs := [.int .i64 ((k : Nat)), .int .i64 ((bs[k].toNat : Nat)), .int .i64 (sx8 (bs[k + 1].toNat)), .int .i64 0]) fr rfl Try.underlying29 rfl (by first | exact sz_29 | simpa using sz_29) (st.blkrange 4 rfl 0 rfl)) (rv_tmp fr rfl) (rv_tmp fr rfl) ?_
    exact ⟨by simp [okA, okB, behF, insC, ub_eq hk, ub_eq hk1, Nat.mul_comm 256], st.agr⟩
  · have hs2 : k + 1 + 2 ≤ bs.length := hs
    have hk1 : k + 1 < bs.length := by omega
    have hk2 : k + 2 < bs.length := by omega
    refine enter Try.func13 rfl Try.ntmps13 (by simp) ?_
    intro a fr
    refine wp_seq ?_
    refine reg ?_
    refine lst rfl (ow_alloc fr st rfl zv_29 rfl rfl _ (by rfl) ?_)
    intro a w b1 fr st
    refine lst rfl (ow_v fr (rn_assign (fr.ev rfl)) rfl rfl ?_)
    intro a fr
    refine lst rfl (ow_v fr (rn_assign (fr.ev rfl)) rfl rfl ?_)
    intro a fr
    refine wpList_nil ?_
    refine then_n ?_
    refine wp_seq ?_
    refine wp_seq ?_
    refine reg ?_
    refine lst rfl (ow_v fr (rn_move (fr.ev rfl)) rfl rfl ?_)
    intro a fr
    refine lst rfl (ow_v fr (rn_as (v' := .bool false) (rn_lss (fr.ev rfl) (fr.ev rfl)) (congrArg Value.bool (decide_eq_false (by omega)))) rfl rfl ?_)
    intro a fr
    refine lst rfl (ow_v fr (rn_move (fr.ev rfl)) rfl rfl ?_)
    intro a fr
    refine lst_y (wanted_of fr rfl rfl rfl rfl) (ow_v fr (rn_move (fr.ev rfl)) rfl rfl ?_)
    intro a fr
    refine lst_y (wanted_of fr rfl rfl rfl rfl) (ow_v fr (rn_move (fr.ev rfl)) rfl rfl ?_)
    intro a fr
    refine lst_y (wanted_of fr rfl rfl rfl rfl) (ow_v fr (rn_len (fr.ev rfl) Try.underlying22) rfl rfl ?_)
    intro a fr
    refine lst_y (wanted_of fr rfl rfl rfl rfl) (ow_v fr (rn_as (v' := .bool false) (rn_geq (fr.ev rfl) (fr.ev rfl)) (congrArg Value.bool (decide_eq_false (by omega)))) rfl rfl ?_)
    intro a fr
    refine lst rfl (ow_v fr (rn_pick_f (fr.ev rfl) (fr.ev rfl)) rfl rfl ?_)
    intro a fr
    refine wpList_nil ?_
    refine then_n ?_
    refine cond_f fr rfl rfl ?_
    refine wp_skip ?_
    refine then_n ?_
    refine wp_seq ?_
    refine reg ?_
    refine lst rfl (ow_v fr (rn_move (fr.ev rfl)) rfl rfl ?_)
    intro a fr
    refine lst rfl (ow_v fr (rn_move (fr.ev rfl)) rfl rfl ?_)
    intro a fr
    have hb3 := u8lt (bs[k]'(by omega))
    obtain ⟨b2, o3, eA, st_⟩ := st.elem 1 rfl k (by omega) (by simp [C8])
    have fr_ := fr
    cases eA
    have st := st_
    have fr := fr_
    clear st_ fr_
    replace st : St _ [] w [ro b2 (o3 + k * 1) [.int .u8 ((bs[k].toNat : Nat))], .blk b1 [.int .i64 0, .int .i64 0, .int .i64 0, .int .i64 0] 29, els C8 1 (some ⟨b2, o3, none⟩) bs] := st
    refine lst rfl (ow_v fr (rn_at (i := k) (fr.ev rfl) (fr.ev rfl) Try.underlying22 sz_5 (by omega) (by rfl)) rfl rfl ?_)
    intro a fr
    refine lst rfl (ow_v fr (rn_load (fr.ev rfl) Try.underlying5 rfl (st.rocell 0 rfl (j := 0) rfl)) rfl rfl ?_)
    intro a fr
    refine lst rfl (ow_v fr (rn_conv (c := (bs[k].toNat : Nat)) (fr.ev rfl) (by kernel_rfl) Try.underlying3 (wr_i64 _ (by omega) (by omega))) rfl rfl ?_)
    intro a fr
    refine lst rfl (ow_v fr (rn_assign (fr.ev rfl)) rfl rfl ?_)
    intro a fr
    refine wpList_nil ?_
    refine then_n ?_
    refine wp_seq ?_
    refine reg ?_
    refine lst rfl (ow_v fr (rn_move (fr.ev rfl)) rfl rfl ?_)
    intro a fr
    refine lst rfl (ow_call fr rfl rfl Try.call19 (form_t _ h _) rfl rfl ?_)
    rintro e w ⟨rfl, hag⟩
    refine ⟨_, rfl, ?_⟩
    intro a fr
    have st := st.keep hag
    clear hag
    refine lst rfl (ow_v fr (rn_move (fr.ev rfl)) rfl rfl ?_)
    intro a fr
    refine lst rfl (ow_v fr (rn_extract (fr.ev rfl) rfl) rfl rfl ?_)
    intro a fr
    refine lst rfl (ow_v fr (rn_extract (fr.ev rfl) rfl) rfl rfl ?_)
    intro a fr
    refine lst rfl (ow_v fr (rn_assign (fr.ev rfl)) rfl rfl ?_)
    intro a fr
    refine lst rfl (ow_v fr (rn_assign (fr.ev rfl)) rfl rfl ?_)
    intro a fr
    refine wpList_nil ?_
    refine then_n ?_
    refine wp_seq ?_
    refine wp_seq ?_
    refine reg ?_
    refine lst rfl (ow_v fr (rn_move (fr.ev rfl)) rfl rfl ?_)
    intro a fr
    refine lst rfl (ow_v fr (rn_not (fr.ev rfl)) rfl rfl ?_)
    intro a fr
    refine wpList_nil ?_
    refine then_n ?_
    refine cond_f fr rfl rfl ?_
    refine wp_skip ?_
    refine then_n ?_
    refine wp_seq ?_
    refine reg ?_
    refine lst rfl (ow_v fr (rn_move (fr.ev rfl)) rfl rfl ?_)
    intro a fr
    refine lst rfl (ow_v fr (rn_move (fr.ev rfl)) rfl rfl ?_)
    intro a fr
    refine lst rfl (ow_v fr (rn_add (a := (k : Nat)) (b := 1) (c := ((k + 1 : Nat) : Int)) (fr.ev rfl) (fr.ev rfl) (wr_i64e (by omega) (by omega) (by omega))) rfl rfl ?_)
    intro a fr
    refine lst rfl (ow_v fr (rn_from (lo := k + 1) (fr.ev rfl) (fr.ev rfl) Try.underlying22 sz_5 (by omega)) rfl rfl ?_)
    intro a fr
    have st := st.cutFrom (m := bc) (lo := k + 1) 2 rfl (by decide) (fun _ => rfl) (by omega)
    obtain ⟨A4, hA_A4⟩ : ∃ A2, cutA (some ⟨b2, o3, none⟩) bc (k + 1) 1 = A2 := ⟨_, rfl⟩
    obtain ⟨ms5, hms6⟩ : ∃ ms, (bs.drop (k + 1)) = ms := ⟨_, rfl⟩
    have hl_ms5 : ms5.length = bs.length - (k + 1) := by rw [← hms6]; simp; try omega
    rw [hA_A4] at st fr
    rw [hms6] at st
    obtain ⟨cc7, hc_cc7⟩ : ∃ c, bc - (k + 1) = c := ⟨_, rfl⟩
    rw [hc_cc7, ← hl_ms5] at fr
    clear hA_A4
    have hce_cc7 : ms5.length ≤ cc7 := by have hq_ : bs.length ≤ bc := (by omega); omega
    refine lst rfl (ow_v fr (rn_assign (fr.ev rfl)) rfl rfl ?_)
    intro a fr
    refine wpList_nil ?_
    refine then_n ?_
    refine wp_seq ?_
    refine wp_seq ?_
    refine reg ?_
    refine lst rfl (ow_v fr (rn_move (fr.ev rfl)) rfl rfl ?_)
    intro a fr
    refine lst rfl (ow_v fr (rn_len (fr.ev rfl) Try.underlying22) rfl rfl ?_)
    intro a fr
    refine lst rfl (ow_v fr (rn_move (fr.ev rfl)) rfl rfl ?_)
    intro a fr
    refine lst rfl (ow_call fr rfl rfl Try.call43 (rest_lit 3 2 (by simp [Rng]) (by decide) _) rfl rfl ?_)
    rintro e w ⟨rfl, hag⟩
    refine ⟨_, rfl, ?_⟩
    intro a fr
    have st := st.keep hag
    clear hag
    refine lst rfl (ow_v fr (rn_as (v' := .bool false) (rn_lss (fr.ev rfl) (fr.ev rfl)) (congrArg Value.bool (decide_eq_false (by omega)))) rfl rfl ?_)
    intro a fr
    refine wpList_nil ?_
    refine then_n ?_
    refine cond_f fr rfl rfl ?_
    refine wp_skip ?_
    refine then_n ?_
    refine wp_seq ?_
    refine reg ?_
    refine lst rfl (ow_v fr (rn_move (fr.ev rfl)) rfl rfl ?_)
    intro a fr
    refine lst rfl (ow_v fr (rn_move (fr.ev rfl)) rfl rfl ?_)
    intro a fr
    refine lst rfl (ow_v fr (rn_build (cells := #[.int .i64 ((k : Nat)), .int .i64 ((bs[k].toNat : Nat)), .int .i64 0, .int .i64 0]) (by simp only [List.map_toArray, List.map_cons, List.map_nil]; rw [fr.ev (x := .tmp 44) rfl, fr.ev (x := .tmp 45) rfl]; rfl)) rfl rfl ?_)
    intro a fr
    refine lst rfl (ow_alloc fr st rfl zv_29 rfl rfl _ (by rfl) ?_)
    intro a w b8 fr st
    refine lst rfl (ow_stN fr st 0 (vs := [.int .i64 ((k : Nat)), .int .i64 ((bs[k].toNat : Nat)), .int .i64 0, .int .i64 0]) rfl rfl rfl rfl sz_29 rfl (Nat.le_of_ble_eq_true rfl) rfl ?_)
    intro w (st : St _ [] w [.blk b8 [.int .i64 ((k : Nat)), .int .i64 ((bs[k].toNat : Nat)), .int .i64 0, .int .i64 0] 29, els C8 1 A4 ms5, ro b2 (o3 + k * 1) [.int .u8 ((bs[k].toNat : Nat))], .blk b1 [.int .i64 0, .int .i64 0, .int .i64 0, .int .i64 0] 29, els C8 1 (some ⟨b2, o3, none⟩) bs])
    refine wpList_nil ?_
    refine then_n ?_
    refine wp_seq ?_
    refine wp_seq ?_
    refine reg ?_
    refine lst rfl (ow_v fr (rn_move (fr.ev rfl)) rfl rfl ?_)
    intro a fr
    refine wpList_nil ?_
    refine then_n ?_
    refine wp_block ?_
    refine wp_seq ?_
    refine wp_seq ?_
    refine reg ?_
    refine lst rfl (ow_v fr (rn_as (rn_eql (fr.ev rfl) (fr.ev rfl)) (by rfl)) rfl rfl ?_)
    intro a fr
    refine lst rfl (ow_v fr (rn_assign (fr.ev rfl)) rfl rfl ?_)
    intro a fr
    refine wpList_nil ?_
    refine then_n ?_
    refine cond_f fr rfl rfl ?_
    refine reg ?_
    refine lst rfl (ow_v fr (rn_as (rn_eql (fr.ev rfl) (fr.ev rfl)) (by rfl)) rfl rfl ?_)
    intro a fr
    refine lst rfl (ow_v fr (rn_assign (fr.ev rfl)) rfl rfl ?_)
    intro a fr
    refine wpList_nil ?_
    refine then_n ?_
    refine cond_f fr rfl rfl ?_
    refine wp_seq ?_
    refine reg ?_
    refine lst rfl (ow_v fr (rn_as (rn_eql (fr.ev rfl) (fr.ev rfl)) (by rfl)) rfl rfl ?_)
    intro a fr
    refine lst rfl (ow_v fr (rn_assign (fr.ev rfl)) rfl rfl ?_)
    intro a fr
    refine wpList_nil ?_
    refine then_n ?_
    refine cond_f fr rfl rfl ?_
    refine wp_seq ?_
    refine reg ?_
    refine lst rfl (ow_v fr (rn_as (rn_eql (fr.ev rfl) (fr.ev rfl)) (by rfl)) rfl rfl ?_)
    intro a fr
    refine lst rfl (ow_v fr (rn_assign (fr.ev rfl)) rfl rfl ?_)
    intro a fr
    refine wpList_nil ?_
    refine then_n ?_
    refine cond_t fr rfl rfl ?_
    have hb10 := u8lt (bs[k + 1]'(by omega))
    obtain ⟨b9, o10, eA, st_⟩ := st.elem 1 rfl 0 (by omega) (by simp [C8])
    have fr_ := fr
    cases eA
    have st := st_
    have fr := fr_
    clear st_ fr_
    rw [drop_get hms6 (m := k + 1) (by omega) (by omega) (by omega)] at st
    replace st : St _ [] w [ro b9 (o10 + 0 * 1) [.int .u8 ((bs[k + 1].toNat : Nat))], .blk b8 [.int .i64 ((k : Nat)), .int .i64 ((bs[k].toNat : Nat)), .int .i64 0, .int .i64 0] 29, els C8 1 (some ⟨b9, o10, none⟩) ms5, ro b2 (o3 + k * 1) [.int .u8 ((bs[k].toNat : Nat))], .blk b1 [.int .i64 0, .int .i64 0, .int .i64 0, .int .i64 0] 29, els C8 1 (some ⟨b2, o3, none⟩) bs] := st
    have hb12 := u8lt (bs[k + 2]'(by omega))
    have st := (st.elem 2 rfl 1 (by omega) (by simp [C8]))
    obtain ⟨b_, o_, eA, st_⟩ := st
    have fr_ := fr
    cases eA
    have st := st_
    have fr := fr_
    clear st_ fr_
    rw [drop_get hms6 (m := k + 2) (by omega) (by omega) (by omega)] at st
    replace st : St _ [] w [ro b9 (o10 + 1 * 1) [.int .u8 ((bs[k + 2].toNat : Nat))], ro b9 (o10 + 0 * 1) [.int .u8 ((bs[k + 1].toNat : Nat))], .blk b8 [.int .i64 ((k : Nat)), .int .i64 ((bs[k].toNat : Nat)), .int .i64 0, .int .i64 0] 29, els C8 1 (some ⟨b9, o10, none⟩) ms5, ro b2 (o3 + k * 1) [.int .u8 ((bs[k].toNat : Nat))], .blk b1 [.int .i64 0, .int .i64 0, .int .i64 0, .int .i64 0] 29, els C8 1 (some ⟨b2, o3, none⟩) bs] := st
    refine dr_start (by kernel_rfl) st (.cons_cons _ (.cons_cons _ (.cons _ (.cons_cons _ (.cons_cons _ (.cons_cons _ (.cons_cons _ .slnil))))))) ?_
    intro w st
    refine dr_take 0 rfl (by kernel_rfl) (by kernel_rfl) (by kernel_rfl) (fun _ _ _ h => h) fr rfl (st.sub (.cons_cons _ (.cons_cons _ (.cons _ (.cons_cons _ (.cons_cons _ (.cons_cons _ (.cons_cons _ .slnil)))))))) (fun w st => rn_move (fr.ev rfl)) rfl rfl ?_
    intro a fr
    refine dr_take 1 rfl (by kernel_rfl) (by kernel_rfl) (by kernel_rfl) (fun _ _ _ h => h) fr rfl (st.sub (.cons_cons _ (.cons_cons _ (.cons _ (.cons_cons _ (.cons_cons _ (.cons_cons _ (.cons_cons _ .slnil)))))))) (fun w st => rn_at (i := 0) (fr.ev rfl) (fr.ev rfl) Try.underlying22 sz_5 (by omega) (by rfl)) rfl rfl ?_
    intro a fr
    refine dr_take 2 rfl (by kernel_rfl) (by kernel_rfl) (by kernel_rfl) (fun _ _ _ h => h) fr rfl (st.sub (.cons_cons _ (.cons_cons _ (.cons _ (.cons_cons _ (.cons_cons _ (.cons_cons _ (.cons_cons _ .slnil)))))))) (fun w st => rn_load (fr.ev rfl) Try.underlying5 rfl (st.rocell 1 rfl (j := 0) rfl)) rfl rfl ?_
    intro a fr
    refine dr_take 3 rfl (by kernel_rfl) (by kernel_rfl) (by kernel_rfl) (fun _ _ _ h => h) fr rfl (st.sub (.cons_cons _ (.cons_cons _ (.cons _ (.cons_cons _ (.cons_cons _ (.cons_cons _ (.cons_cons _ .slnil)))))))) (fun w st => rn_conv (c := (bs[k + 1].toNat : Nat)) (fr.ev rfl) (by kernel_rfl) Try.underlying44 (wr_u16 _ (by omega) (by omega))) rfl rfl ?_
    intro a fr
    refine dr_take 4 rfl (by kernel_rfl) (by kernel_rfl) (by kernel_rfl) (fun _ _ _ h => h) fr rfl (st.sub (.cons_cons _ (.cons_cons _ (.cons _ (.cons_cons _ (.cons_cons _ (.cons_cons _ (.cons_cons _ .slnil)))))))) (fun w st => rn_shl (k := .u16) (a := (bs[k + 1].toNat : Nat)) (b := 8) (c := (((bs[k + 1].toNat) * 256 : Nat) : Int)) (fr.ev rfl) (fr.ev rfl) (by decide) (by decide) (by rw [show (2 : Int) ^ (8 : Int).toNat = 256 by decide]; exact wr_u16e (by omega) (by omega) (by omega))) rfl rfl ?_
    intro a fr
    refine dr_take 5 rfl (by kernel_rfl) (by kernel_rfl) (by kernel_rfl) (fun _ _ _ h => h) fr rfl (st.sub (.cons_cons _ (.cons_cons _ (.cons _ (.cons_cons _ (.cons_cons _ (.cons_cons _ (.cons_cons _ .slnil)))))))) (fun w st => rn_move (fr.ev rfl)) rfl rfl ?_
    intro a fr
    refine dr_take 6 rfl (by kernel_rfl) (by kernel_rfl) (by kernel_rfl) (fun _ _ _ h => h) fr rfl (st.sub (.cons_cons _ (.cons_cons _ (.cons _ (.cons_cons _ (.cons_cons _ (.cons_cons _ (.cons_cons _ .slnil)))))))) (fun w st => rn_at (i := 1) (fr.ev rfl) (fr.ev rfl) Try.underlying22 sz_5 (by omega) (by rfl)) rfl rfl ?_
    intro a fr
    refine dr_take 7 rfl (by kernel_rfl) (by kernel_rfl) (by kernel_rfl) (fun _ _ _ h => h) fr rfl (st.sub (.cons_cons _ (.cons_cons _ (.cons _ (.cons_cons _ (.cons_cons _ (.cons_cons _ (.cons_cons _ .slnil)))))))) (fun w st => rn_load (fr.ev rfl) Try.underlying5 rfl (st.rocell 0 rfl (j := 0) rfl)) rfl rfl ?_
    intro a fr
    refine dr_take 8 rfl (by kernel_rfl) (by kernel_rfl) (by kernel_rfl) (fun _ _ _ h => h) fr rfl (st.sub (.cons_cons _ (.cons_cons _ (.cons _ (.cons_cons _ (.cons_cons _ (.cons_cons _ (.cons_cons _ .slnil)))))))) (fun w st => rn_conv (c := (bs[k + 2].toNat : Nat)) (fr.ev rfl) (by kernel_rfl) Try.underlying44 (wr_u16 _ (by omega) (by omega))) rfl rfl ?_
    intro a fr
    refine dr_take 9 rfl (by kernel_rfl) (by kernel_rfl) (by kernel_rfl) (fun _ _ _ h => h) fr rfl (st.sub (.cons_cons _ (.cons_cons _ (.cons _ (.cons_cons _ (.cons_cons _ (.cons_cons _ (.cons_cons _ .slnil)))))))) (fun w st => rn_or (c := (((bs[k + 1].toNat) * 256 + (bs[k + 2].toNat) : Nat) : Int)) (fr.ev rfl) (fr.ev rfl) (or8u (bs[k + 1].toNat) (bs[k + 2].toNat) (by omega) (by omega))) rfl rfl ?_
    intro a fr
    refine dr_take 10 rfl (by kernel_rfl) (by kernel_rfl) (by kernel_rfl) (fun _ _ _ h => h) fr rfl (st.sub (.cons_cons _ (.cons_cons _ (.cons _ (.cons_cons _ (.cons_cons _ (.cons_cons _ (.cons_cons _ .slnil)))))))) (fun w st => rn_conv (c := sx16 ((bs[k + 1].toNat) * 256 + (bs[k + 2].toNat))) (fr.ev rfl) (by kernel_rfl) Try.underlying65 (wr_i16 ((bs[k + 1].toNat) * 256 + (bs[k + 2].toNat)) (by omega))) rfl rfl ?_
    intro a fr
    refine dr_take 11 rfl (by kernel_rfl) (by kernel_rfl) (by kernel_rfl) (fun _ _ _ h => h) fr rfl (st.sub (.cons_cons _ (.cons_cons _ (.cons _ (.cons_cons _ (.cons_cons _ (.cons_cons _ (.cons_cons _ .slnil)))))))) (fun w st => rn_conv (c := sx16 ((bs[k + 1].toNat) * 256 + (bs[k + 2].toNat))) (fr.ev rfl) (by kernel_rfl) Try.underlying3 (wr_i64 _ (by have := sx16_rng ((bs[k + 1].toNat) * 256 + (bs[k + 2].toNat)) (by omega); omega) (by have := sx16_rng ((bs[k + 1].toNat) * 256 + (bs[k + 2].toNat)) (by omega); omega))) rfl rfl ?_
    intro a fr
    refine dr_take 12 rfl (by kernel_rfl) (by kernel_rfl) (by kernel_rfl) (fun _ _ _ h => h) fr rfl (st.sub (.cons_cons _ (.cons_cons _ (.cons _ (.cons_cons _ (.cons_cons _ (.cons_cons _ (.cons_cons _ .slnil)))))))) (fun w st => fa_29_2 (fr.ev rfl)) rfl rfl ?_
    intro a fr
    refine dr_one 13 (by kernel_rfl) rfl rfl (ow_st fr st 2 rfl rfl rfl rfl sz_3 rfl rfl rfl ?_)
    intro w (st : St _ [] w [ro b9 (o10 + 1 * 1) [.int .u8 ((bs[k + 2].toNat : Nat))], ro b9 (o10 + 0 * 1) [.int .u8 ((bs[k + 1].toNat : Nat))], .blk b8 [.int .i64 ((k : Nat)), .int .i64 ((bs[k].toNat : Nat)), .int .i64 (sx16 ((bs[k + 1].toNat) * 256 + (bs[k + 2].toNat))), .int .i64 0] 29, els C8 1 (some ⟨b9, o10, none⟩) ms5, ro b2 (o3 + k * 1) [.int .u8 ((bs[k].toNat : Nat))], .blk b1 [.int .i64 0, .int .i64 0, .int .i64 0, .int .i64 0] 29, els C8 1 (some ⟨b2, o3, none⟩) bs])
    refine ⟨st.sub (.cons_cons _ (.cons_cons _ (.cons _ (.cons_cons _ (.cons_cons _ (.cons_cons _ (.cons_cons _ .slnil))))))), ?_⟩
    refine dr_done (by kernel_rfl) ?_
    refine blk_n ?_
    refine then_n ?_
    refine wp_seq ?_
    refine dr_start (by kernel_rfl) st (.cons_cons _ (.cons_cons _ (.cons_cons _ (.cons_cons _ (.cons_cons _ (.cons _ (.cons_cons _ .slnil))))))) ?_
    intro w st
    refine dr_take 0 rfl (by kernel_rfl) (by kernel_rfl) (by kernel_rfl) (fun _ _ _ h => h) fr rfl (st.sub (.cons_cons _ (.cons_cons _ (.cons_cons _ (.cons_cons _ (.cons_cons _ (.cons _ (.cons_cons _ .slnil)))))))) (fun w st => rn_loadN (cs := [.int .i64 ((k : Nat)), .int .i64 ((bs[k].toNat : Nat)), .int .i64 (sx16 ((bs[k + 1].toNat) * 256 + (bs[k + 2].toNat))), .int .i64 0]) (fr.ev rfl) Try.underlying29 rfl sz_29 (st.blkrange 2 rfl 0 rfl)) rfl rfl ?_
    intro a fr
    refine dr_take 1 rfl (by kernel_rfl) (by kernel_rfl) (by kernel_rfl) (fun _ _ _ h => h) fr rfl (st.sub (.cons_cons _ (.cons_cons _ (.cons_cons _ (.cons_cons _ (.cons_cons _ (.cons _ (.cons_cons _ .slnil)))))))) (fun w st => rn_move (fr.ev rfl)) rfl rfl ?_
    intro a fr
    refine dr_take 2 rfl (by kernel_rfl) (by kernel_rfl) (by kernel_rfl) (fun _ _ _ h => h) fr rfl (st.sub (.cons_cons _ (.cons_cons _ (.cons_cons _ (.cons_cons _ (.cons_cons _ (.cons _ (.cons_cons _ .slnil)))))))) (fun w st => rn_add (a := (k : Nat)) (b := 1) (c := ((k + 1 : Nat) : Int)) (fr.ev rfl) (fr.ev rfl) (wr_i64e (by omega) (by omega) (by omega))) rfl rfl ?_
    intro a fr
    refine dr_take 3 rfl (by kernel_rfl) (by kernel_rfl) (by kernel_rfl) (fun _ _ _ h => h) fr rfl (st.sub (.cons_cons _ (.cons_cons _ (.cons_cons _ (.cons_cons _ (.cons_cons _ (.cons _ (.cons_cons _ .slnil)))))))) (fun w st => rn_move (fr.ev rfl)) rfl rfl ?_
    intro a fr
    refine dr_one 4 (by kernel_rfl) rfl rfl (ow_call fr rfl rfl Try.call43 (rest_lit 3 2 (by simp [Rng]) (by decide) _) rfl rfl ?_)
    rintro e w ⟨rfl, hag⟩
    refine ⟨_, rfl, ?_⟩
    intro a fr
    have st := st.keep hag
    clear hag
    refine ⟨st.sub (.cons_cons _ (.cons_cons _ (.cons_cons _ (.cons_cons _ (.cons_cons _ (.cons _ (.cons_cons _ .slnil))))))), ?_⟩
    refine dr_take 5 rfl (by kernel_rfl) (by kernel_rfl) (by kernel_rfl) (fun _ _ _ h => h) fr rfl (st.sub (.cons_cons _ (.cons_cons _ (.cons_cons _ (.cons_cons _ (.cons_cons _ (.cons _ (.cons_cons _ .slnil)))))))) (fun w st => rn_add (a := ((k + 1 : Nat) : Int)) (b := 2) (c := ((k + 1 + 2 : Nat) : Int)) (fr.ev rfl) (fr.ev rfl) (wr_i64e (by omega) (by omega) (by omega))) rfl rfl ?_
    intro a fr
    refine dr_one 6 (by kernel_rfl) rfl rfl (ow_stN fr st 5 (vs := [.int .i64 ((k : Nat)), .int .i64 ((bs[k].toNat : Nat)), .int .i64 (sx16 ((bs[k + 1].toNat) * 256 + (bs[k + 2].toNat))), .int .i64 0]) rfl rfl rfl rfl sz_29 rfl (Nat.le_of_ble_eq_true rfl) rfl ?_)
    intro w (st : St _ [] w [ro b9 (o10 + 1 * 1) [.int .u8 ((bs[k + 2].toNat : Nat))], ro b9 (o10 + 0 * 1) [.int .u8 ((bs[k + 1].toNat : Nat))], .blk b8 [.int .i64 ((k : Nat)), .int .i64 ((bs[k].toNat : Nat)), .int .i64 (sx16 ((bs[k + 1].toNat) * 256 + (bs[k + 2].toNat))), .int .i64 0] 29, els C8 1 (some ⟨b9, o10, none⟩) ms5, ro b2 (o3 + k * 1) [.int .u8 ((bs[k].toNat : Nat))], .blk b1 [.int .i64 ((k : Nat)), .int .i64 ((bs[k].toNat : Nat)), .int .i64 (sx16 ((bs[k + 1].toNat) * 256 + (bs[k + 2].toNat))), .int .i64 0] 29, els C8 1 (some ⟨b2, o3, none⟩) bs])
    refine ⟨st.sub (.cons_cons _ (.cons_cons _ (.cons_cons _ (.cons_cons _ (.cons_cons _ (.cons _ (.cons_cons _ .slnil))))))), ?_⟩
    refine dr_take 7 rfl (by kernel_rfl) (by kernel_rfl) (by kernel_rfl) (fun _ _ _ h => h) fr rfl (st.sub (.cons_cons _ (.cons_cons _ (.cons_cons _ (.cons_cons _ (.cons_cons _ (.cons _ (.cons_cons _ .slnil)))))))) (fun w st => rn_assign (fr.ev rfl)) rfl rfl ?_
    intro a fr
    refine dr_take 8 rfl (by kernel_rfl) (by kernel_rfl) (by kernel_rfl) (fun _ _ _ h => h) fr rfl (st.sub (.cons_cons _ (.cons_cons _ (.cons_cons _ (.cons_cons _ (.cons_cons _ (.cons _ (.cons_cons _ .slnil)))))))) (fun w st => rn_assign (fr.ev rfl)) rfl rfl ?_
    intro a fr
    refine dr_done (by kernel_rfl) ?_
    refine then_n ?_
    refine wp_ret ?_
    refine ret3 Try.results13 fr (rv_row (cs := [.int .i64 ((k : Nat)), .int .i64 ((bs[k].toNat : Nat)), .int .i64 (sx16 ((bs[k + 1].toNat) * 256 + (bs[k + 2].toNat))), .int .i64 0]) fr rfl Try.underlying29 rfl (by first | exact sz_29 | simpa using sz_29) (st.blkrange 5 rfl 0 rfl)) (rv_tmp fr rfl) (rv_tmp fr rfl) ?_
    exact ⟨by simp [okA, okB, behF, insC, ub_eq hk, ub_eq hk1, ub_eq hk2, Nat.mul_comm 256], st.agr⟩
  · have hs2 : k + 1 + 1 ≤ bs.length := hs
    have hk1 : k + 1 < bs.length := by omega
    refine enter Try.func13 rfl Try.ntmps13 (by simp) ?_
    intro a fr
    refine wp_seq ?_
    refine reg ?_
    refine lst rfl (ow_alloc fr st rfl zv_29 rfl rfl _ (by rfl) ?_)
    intro a w b1 fr st
    refine lst rfl (ow_v fr (rn_assign (fr.ev rfl)) rfl rfl ?_)
    intro a fr
    refine lst rfl (ow_v fr (rn_assign (fr.ev rfl)) rfl rfl ?_)
    intro a fr
    refine wpList_nil ?_
    refine then_n ?_
    refine wp_seq ?_
    refine wp_seq ?_
    refine reg ?_
    refine lst rfl (ow_v fr (rn_move (fr.ev rfl)) rfl rfl ?_)
    intro a fr
    refine lst rfl (ow_v fr (rn_as (v' := .bool false) (rn_lss (fr.ev rfl) (fr.ev rfl)) (congrArg Value.bool (decide_eq_false (by omega)))) rfl rfl ?_)
    intro a fr
    refine lst rfl (ow_v fr (rn_move (fr.ev rfl)) rfl rfl ?_)
    intro a fr
    refine lst_y (wanted_of fr rfl rfl rfl rfl) (ow_v fr (rn_move (fr.ev rfl)) rfl rfl ?_)
    intro a fr
    refine lst_y (wanted_of fr rfl rfl rfl rfl) (ow_v fr (rn_move (fr.ev rfl)) rfl rfl ?_)
    intro a fr
    refine lst_y (wanted_of fr rfl rfl rfl rfl) (ow_v fr (rn_len (fr.ev rfl) Try.underlying22) rfl rfl ?_)
    intro a fr
    refine lst_y (wanted_of fr rfl rfl rfl rfl) (ow_v fr (rn_as (v' := .bool false) (rn_geq (fr.ev rfl) (fr.ev rfl)) (congrArg Value.bool (decide_eq_false (by omega)))) rfl rfl ?_)
    intro a fr
    refine lst rfl (ow_v fr (rn_pick_f (fr.ev rfl) (fr.ev rfl)) rfl rfl ?_)
    intro a fr
    refine wpList_nil ?_
    refine then_n ?_
    refine cond_f fr rfl rfl ?_
    refine wp_skip ?_
    refine then_n ?_
    refine wp_seq ?_
    refine reg ?_
    refine lst rfl (ow_v fr (rn_move (fr.ev rfl)) rfl rfl ?_)
    intro a fr
    refine lst rfl (ow_v fr (rn_move (fr.ev rfl)) rfl rfl ?_)
    intro a fr
    have hb3 := u8lt (bs[k]'(by omega))
    obtain ⟨b2, o3, eA, st_⟩ := st.elem 1 rfl k (by omega) (by simp [C8])
    have fr_ := fr
    cases eA
    have st := st_
    have fr := fr_
    clear st_ fr_
    replace st : St _ [] w [ro b2 (o3 + k * 1) [.int .u8 ((bs[k].toNat : Nat))], .blk b1 [.int .i64 0, .int .i64 0, .int .i64 0, .int .i64 0] 29, els C8 1 (some ⟨b2, o3, none⟩) bs] := st
    refine lst rfl (ow_v fr (rn_at (i := k) (fr.ev rfl) (fr.ev rfl) Try.underlying22 sz_5 (by omega) (by rfl)) rfl rfl ?_)
    intro a fr
    refine lst rfl (ow_v fr (rn_load (fr.ev rfl) Try.underlying5 rfl (st.rocell 0 rfl (j := 0) rfl)) rfl rfl ?_)
    intro a fr
    refine lst rfl (ow_v fr (rn_conv (c := (bs[k].toNat : Nat)) (fr.ev rfl) (by kernel_rfl) Try.underlying3 (wr_i64 _ (by omega) (by omega))) rfl rfl ?_)
    intro a fr
    refine lst rfl (ow_v fr (rn_assign (fr.ev rfl)) rfl rfl ?_)
    intro a fr
    refine wpList_nil ?_
    refine then_n ?_
    refine wp_seq ?_
    refine reg ?_
    refine lst rfl (ow_v fr (rn_move (fr.ev rfl)) rfl rfl ?_)
    intro a fr
    refine lst rfl (ow_call fr rfl rfl Try.call19 (form_t _ h _) rfl rfl ?_)
    rintro e w ⟨rfl, hag⟩
    refine ⟨_, rfl, ?_⟩
    intro a fr
    have st := st.keep hag
    clear hag
    refine lst rfl (ow_v fr (rn_move (fr.ev rfl)) rfl rfl ?_)
    intro a fr
    refine lst rfl (ow_v fr (rn_extract (fr.ev rfl) rfl) rfl rfl ?_)
    intro a fr
    refine lst rfl (ow_v fr (rn_extract (fr.ev rfl) rfl) rfl rfl ?_)
    intro a fr
    refine lst rfl (ow_v fr (rn_assign (fr.ev rfl)) rfl rfl ?_)
    intro a fr
    refine lst rfl (ow_v fr (rn_assign (fr.ev rfl)) rfl rfl ?_)
    intro a fr
    refine wpList_nil ?_
    refine then_n ?_
    refine wp_seq ?_
    refine wp_seq ?_
    refine reg ?_
    refine lst rfl (ow_v fr (rn_move (fr.ev rfl)) rfl rfl ?_)
    intro a fr
    refine lst rfl (ow_v fr (rn_not (fr.ev rfl)) rfl rfl ?_)
    intro a fr
    refine wpList_nil ?_
    refine then_n ?_
    refine cond_f fr rfl rfl ?_
    refine wp_skip ?_
    refine then_n ?_
    refine wp_seq ?_
    refine reg ?_
    refine lst rfl (ow_v fr (rn_move (fr.ev rfl)) rfl rfl ?_)
    intro a fr
    refine lst rfl (ow_v fr (rn_move (fr.ev rfl)) rfl rfl ?_)
    intro a fr
    refine lst rfl (ow_v fr (rn_add (a := (k : Nat)) (b := 1) (c := ((k + 1 : Nat) : Int)) (fr.ev rfl) (fr.ev rfl) (wr_i64e (by omega) (by omega) (by omega))) rfl rfl ?_)
    intro a fr
    refine lst rfl (ow_v fr (rn_from (lo := k + 1) (fr.ev rfl) (fr.ev rfl) Try.underlying22 sz_5 (by omega)) rfl rfl ?_)
    intro a fr
    have st := st.cutFrom (m := bc) (lo := k + 1) 2 rfl (by decide) (fun _ => rfl) (by omega)
    obtain ⟨A4, hA_A4⟩ : ∃ A2, cutA (some ⟨b2, o3, none⟩) bc (k + 1) 1 = A2 := ⟨_, rfl⟩
    obtain ⟨ms5, hms6⟩ : ∃ ms, (bs.drop (k + 1)) = ms := ⟨_, rfl⟩
    have hl_ms5 : ms5.length = bs.length - (k + 1) := by rw [← hms6]; simp; try omega
    rw [hA_A4] at st fr
    rw [hms6] at st
    obtain ⟨cc7, hc_cc7⟩ : ∃ c, bc - (k + 1) = c := ⟨_, rfl⟩
    rw [hc_cc7, ← hl_ms5] at fr
    clear hA_A4
    have hce_cc7 : ms5.length ≤ cc7 := by have hq_ : bs.length ≤ bc := (by omega); omega
    refine lst rfl (ow_v fr (rn_assign (fr.ev rfl)) rfl rfl ?_)
    intro a fr
    refine wpList_nil ?_
    refine then_n ?_
    refine wp_seq ?_
    refine wp_seq ?_
    refine reg ?_
    refine lst rfl (ow_v fr (rn_move (fr.ev rfl)) rfl rfl ?_)
    intro a fr
    refine lst rfl (ow_v fr (rn_len (fr.ev rfl) Try.underlying22) rfl rfl ?_)
    intro a fr
    refine lst rfl (ow_v fr (rn_move (fr.ev rfl)) rfl rfl ?_)
    intro a fr
    refine lst rfl (ow_call fr rfl rfl Try.call43 (rest_lit 4 1 (by simp [Rng]) (by decide) _) rfl rfl ?_)
    rintro e w ⟨rfl, hag⟩
    refine ⟨_, rfl, ?_⟩
    intro a fr
    have st := st.keep hag
    clear hag
    refine lst rfl (ow_v fr (rn_as (v' := .bool false) (rn_lss (fr.ev rfl) (fr.ev rfl)) (congrArg Value.bool (decide_eq_false (by omega)))) rfl rfl ?_)
    intro a fr
    refine wpList_nil ?_
    refine then_n ?_
    refine cond_f fr rfl rfl ?_
    refine wp_skip ?_
    refine then_n ?_
    refine wp_seq ?_
    refine reg ?_
    refine lst rfl (ow_v fr (rn_move (fr.ev rfl)) rfl rfl ?_)
    intro a fr
    refine lst rfl (ow_v fr (rn_move (fr.ev rfl)) rfl rfl ?_)
    intro a fr
    refine lst rfl (ow_v fr (rn_build (cells := #[.int .i64 ((k : Nat)), .int .i64 ((bs[k].toNat : Nat)), .int .i64 0, .int .i64 0]) (by simp only [List.map_toArray, List.map_cons, List.map_nil]; rw [fr.ev (x := .tmp 44) rfl, fr.ev (x := .tmp 45) rfl]; rfl)) rfl rfl ?_)
    intro a fr
    refine lst rfl (ow_alloc fr st rfl zv_29 rfl rfl _ (by rfl) ?_)
    intro a w b8 fr st
    refine lst rfl (ow_stN fr st 0 (vs := [.int .i64 ((k : Nat)), .int .i64 ((bs[k].toNat : Nat)), .int .i64 0, .int .i64 0]) rfl rfl rfl rfl sz_29 rfl (Nat.le_of_ble_eq_true rfl) rfl ?_)
    intro w (st : St _ [] w [.blk b8 [.int .i64 ((k : Nat)), .int .i64 ((bs[k].toNat : Nat)), .int .i64 0, .int .i64 0] 29, els C8 1 A4 ms5, ro b2 (o3 + k * 1) [.int .u8 ((bs[k].toNat : Nat))], .blk b1 [.int .i64 0, .int .i64 0, .int .i64 0, .int .i64 0] 29, els C8 1 (some ⟨b2, o3, none⟩) bs])
    refine wpList_nil ?_
    refine then_n ?_
    refine wp_seq ?_
    refine wp_seq ?_
    refine reg ?_
    refine lst rfl (ow_v fr (rn_move (fr.ev rfl)) rfl rfl ?_)
    intro a fr
    refine wpList_nil ?_
    refine then_n ?_
    refine wp_block ?_
    refine wp_seq ?_
    refine wp_seq ?_
    refine reg ?_
    refine lst rfl (ow_v fr (rn_as (rn_eql (fr.ev rfl) (fr.ev rfl)) (by rfl)) rfl rfl ?_)
    intro a fr
    refine lst rfl (ow_v fr (rn_assign (fr.ev rfl)) rfl rfl ?_)
    intro a fr
    refine wpList_nil ?_
    refine then_n ?_
    refine cond_f fr rfl rfl ?_
    refine reg ?_
    refine lst rfl (ow_v fr (rn_as (rn_eql (fr.ev rfl) (fr.ev rfl)) (by rfl)) rfl rfl ?_)
    intro a fr
    refine lst rfl (ow_v fr (rn_assign (fr.ev rfl)) rfl rfl ?_)
    intro a fr
    refine wpList_nil ?_
    refine then_n ?_
    refine cond_t fr rfl rfl ?_
    refine reg ?_
    refine lst rfl (ow_v fr (rn_move (fr.ev rfl)) rfl rfl ?_)
    intro a fr
    have hb10 := u8lt (bs[k + 1]'(by omega))
    obtain ⟨b9, o10, eA, st_⟩ := st.elem 1 rfl 0 (by omega) (by simp [C8])
    have fr_ := fr
    cases eA
    have st := st_
    have fr := fr_
    clear st_ fr_
    rw [drop_get hms6 (m := k + 1) (by omega) (by omega) (by omega)] at st
    replace st : St _ [] w [ro b9 (o10 + 0 * 1) [.int .u8 ((bs[k + 1].toNat : Nat))], .blk b8 [.int .i64 ((k : Nat)), .int .i64 ((bs[k].toNat : Nat)), .int .i64 0, .int .i64 0] 29, els C8 1 (some ⟨b9, o10, none⟩) ms5, ro b2 (o3 + k * 1) [.int .u8 ((bs[k].toNat : Nat))], .blk b1 [.int .i64 0, .int .i64 0, .int .i64 0, .int .i64 0] 29, els C8 1 (some ⟨b2, o3, none⟩) bs] := st
    refine lst rfl (ow_v fr (rn_at (i := 0) (fr.ev rfl) (fr.ev rfl) Try.underlying22 sz_5 (by omega) (by rfl)) rfl rfl ?_)
    intro a fr
    refine lst rfl (ow_v fr (rn_load (fr.ev rfl) Try.underlying5 rfl (st.rocell 0 rfl (j := 0) rfl)) rfl rfl ?_)
    intro a fr
    refine lst rfl (ow_v fr (rn_conv (c := (bs[k + 1].toNat : Nat)) (fr.ev rfl) (by kernel_rfl) Try.underlying3 (wr_i64 _ (by omega) (by omega))) rfl rfl ?_)
    intro a fr
    refine lst rfl (ow_v fr (fa_29_2 (fr.ev rfl)) rfl rfl ?_)
    intro a fr
    refine lst rfl (ow_st fr st 1 rfl rfl rfl rfl sz_3 rfl rfl rfl ?_)
    intro w (st : St _ [] w [ro b9 (o10 + 0 * 1) [.int .u8 ((bs[k + 1].toNat : Nat))], .blk b8 [.int .i64 ((k : Nat)), .int .i64 ((bs[k].toNat : Nat)), .int .i64 ((bs[k + 1].toNat : Nat)), .int .i64 0] 29, els C8 1 (some ⟨b9, o10, none⟩) ms5, ro b2 (o3 + k * 1) [.int .u8 ((bs[k].toNat : Nat))], .blk b1 [.int .i64 0, .int .i64 0, .int .i64 0, .int .i64 0] 29, els C8 1 (some ⟨b2, o3, none⟩) bs])
    refine wpList_nil ?_
    refine blk_n ?_
    refine then_n ?_
    refine wp_seq ?_
    refine dr_start (by kernel_rfl) st (.cons_cons _ (.cons_cons _ (.cons_cons _ (.cons_cons _ (.cons _ (.cons_cons _ .slnil)))))) ?_
    intro w st
    refine dr_take 0 rfl (by kernel_rfl) (by kernel_rfl) (by kernel_rfl) (fun _ _ _ h => h) fr rfl (st.sub (.cons_cons _ (.cons_cons _ (.cons_cons _ (.cons_cons _ (.cons _ (.cons_cons _ .slnil))))))) (fun w st => rn_loadN (cs := [.int .i64 ((k : Nat)), .int .i64 ((bs[k].toNat : Nat)), .int .i64 ((bs[k + 1].toNat : Nat)), .int .i64 0]) (fr.ev rfl) Try.underlying29 rfl sz_29 (st.blkrange 1 rfl 0 rfl)) rfl rfl ?_
    intro a fr
    refine dr_take 1 rfl (by kernel_rfl) (by kernel_rfl) (by kernel_rfl) (fun _ _ _ h => h) fr rfl (st.sub (.cons_cons _ (.cons_cons _ (.cons_cons _ (.cons_cons _ (.cons _ (.cons_cons _ .slnil))))))) (fun w st => rn_move (fr.ev rfl)) rfl rfl ?_
    intro a fr
    refine dr_take 2 rfl (by kernel_rfl) (by kernel_rfl) (by kernel_rfl) (fun _ _ _ h => h) fr rfl (st.sub (.cons_cons _ (.cons_cons _ (.cons_cons _ (.cons_cons _ (.cons _ (.cons_cons _ .slnil))))))) (fun w st => rn_add (a := (k : Nat)) (b := 1) (c := ((k + 1 : Nat) : Int)) (fr.ev rfl) (fr.ev rfl) (wr_i64e (by omega) (by omega) (by omega))) rfl rfl ?_
    intro a fr
    refine dr_take 3 rfl (by kernel_rfl) (by kernel_rfl) (by kernel_rfl) (fun _ _ _ h => h) fr rfl (st.sub (.cons_cons _ (.cons_cons _ (.cons_cons _ (.cons_cons _ (.cons _ (.cons_cons _ .slnil))))))) (fun w st => rn_move (fr.ev rfl)) rfl rfl ?_
    intro a fr
    refine dr_one 4 (by kernel_rfl) rfl rfl (ow_call fr rfl rfl Try.call43 (rest_lit 4 1 (by simp [Rng]) (by decide) _) rfl rfl ?_)
    rintro e w ⟨rfl, hag⟩
    refine ⟨_, rfl, ?_⟩
    intro a fr
    have st := st.keep hag
    clear hag
    refine ⟨st.sub (.cons_cons _ (.cons_cons _ (.cons_cons _ (.cons_cons _ (.cons _ (.cons_cons _ .slnil)))))), ?_⟩
    refine dr_take 5 rfl (by kernel_rfl) (by kernel_rfl) (by kernel_rfl) (fun _ _ _ h => h) fr rfl (st.sub (.cons_cons _ (.cons_cons _ (.cons_cons _ (.cons_cons _ (.cons _ (.cons_cons _ .slnil))))))) (fun w st => rn_add (a := ((k + 1 : Nat) : Int)) (b := 1) (c := ((k + 1 + 1 : Nat) : Int)) (fr.ev rfl) (fr.ev rfl) (wr_i64e (by omega) (by omega) (by omega))) rfl rfl ?_
    intro a fr
    refine dr_one 6 (by kernel_rfl) rfl rfl (ow_stN fr st 4 (vs := [.int .i64 ((k : Nat)), .int .i64 ((bs[k].toNat : Nat)), .int .i64 ((bs[k + 1].toNat : Nat)), .int .i64 0]) rfl rfl rfl rfl sz_29 rfl (Nat.le_of_ble_eq_true rfl) rfl ?_)
    intro w (st : St _ [] w [ro b9 (o10 + 0 * 1) [.int .u8 ((bs[k + 1].toNat : Nat))], .blk b8 [.int .i64 ((k : Nat)), .int .i64 ((bs[k].toNat : Nat)), .int .i64 ((bs[k + 1].toNat : Nat)), .int .i64 0] 29, els C8 1 (some ⟨b9, o10, none⟩) ms5, ro b2 (o3 + k * 1) [.int .u8 ((bs[k].toNat : Nat))], .blk b1 [.int .i64 ((k : Nat)), .int .i64 ((bs[k].toNat : Nat)), .int .i64 ((bs[k + 1].toNat : Nat)), .int .i64 0] 29, els C8 1 (some ⟨b2, o3, none⟩) bs])
    refine ⟨st.sub (.cons_cons _ (.cons_cons _ (.cons_cons _ (.cons_cons _ (.cons _ (.cons_cons _ .slnil)))))), ?_⟩
    refine dr_take 7 rfl (by kernel_rfl) (by kernel_rfl) (by kernel_rfl) (fun _ _ _ h => h) fr rfl (st.sub (.cons_cons _ (.cons_cons _ (.cons_cons _ (.cons_cons _ (.cons _ (.cons_cons _ .slnil))))))) (fun w st => rn_assign (fr.ev rfl)) rfl rfl ?_
    intro a fr
    refine dr_take 8 rfl (by kernel_rfl) (by kernel_rfl) (by kernel_rfl) (fun _ _ _ h => h) fr rfl (st.sub (.cons_cons _ (.cons_cons _ (.cons_cons _ (.cons_cons _ (.cons _ (.cons_cons _ .slnil))))))) (fun w st => rn_assign (fr.ev rfl)) rfl rfl ?_
    intro a fr
    refine dr_done (by kernel_rfl) ?_
    refine then_n ?_
    refine wp_ret ?_
    refine ret3 Try.results13 fr (rv_row (cs := [.int .i64 ((k : Nat)), .int .i64 ((bs[k].toNat : Nat)), .int .i64 ((bs[k + 1].toNat : Nat)), .int .i64 0]) fr rfl Try.underlying29 rfl (by first | exact sz_29 | simpa using sz_29) (st.blkrange 4 rfl 0 rfl)) (rv_tmp fr rfl) (rv_tmp fr rfl) ?_
    exact ⟨by simp [okA, okB, behF, insC, ub_eq hk, ub_eq hk1, Nat.mul_comm 256], st.agr⟩
  · have hs2 : k + 1 + 2 ≤ bs.length := hs
    have hk1 : k + 1 < bs.length := by omega
    have hk2 : k + 2 < bs.length := by omega
    refine enter Try.func13 rfl Try.ntmps13 (by simp) ?_
    intro a fr
    refine wp_seq ?_
    refine reg ?_
    refine lst rfl (ow_alloc fr st rfl zv_29 rfl rfl _ (by rfl) ?_)
    intro a w b1 fr st
    refine lst rfl (ow_v fr (rn_assign (fr.ev rfl)) rfl rfl ?_)
    intro a fr
    refine lst rfl (ow_v fr (rn_assign (fr.ev rfl)) rfl rfl ?_)
    intro a fr
    refine wpList_nil ?_
    refine then_n ?_
    refine wp_seq ?_
    refine wp_seq ?_
    refine reg ?_
    refine lst rfl (ow_v fr (rn_move (fr.ev rfl)) rfl rfl ?_)
    intro a fr
    refine lst rfl (ow_v fr (rn_as (v' := .bool false) (rn_lss (fr.ev rfl) (fr.ev rfl)) (congrArg Value.bool (decide_eq_false (by omega)))) rfl rfl ?_)
    intro a fr
    refine lst rfl (ow_v fr (rn_move (fr.ev rfl)) rfl rfl ?_)
    intro a fr
    refine lst_y (wanted_of fr rfl rfl rfl rfl) (ow_v fr (rn_move (fr.ev rfl)) rfl rfl ?_)
    intro a fr
    refine lst_y (wanted_of fr rfl rfl rfl rfl) (ow_v fr (rn_move (fr.ev rfl)) rfl rfl ?_)
    intro a fr
    refine lst_y (wanted_of fr rfl rfl rfl rfl) (ow_v fr (rn_len (fr.ev rfl) Try.underlying22) rfl rfl ?_)
    intro a fr
    refine lst_y (wanted_of fr rfl rfl rfl rfl) (ow_v fr (rn_as (v' := .bool false) (rn_geq (fr.ev rfl) (fr.ev rfl)) (congrArg Value.bool (decide_eq_false (by omega)))) rfl rfl ?_)
    intro a fr
    refine lst rfl (ow_v fr (rn_pick_f (fr.ev rfl) (fr.ev rfl)) rfl rfl ?_)
    intro a fr
    refine wpList_nil ?_
    refine then_n ?_
    refine cond_f fr rfl rfl ?_
    refine wp_skip ?_
    refine then_n ?_
    refine wp_seq ?_
    refine reg ?_
    refine lst rfl (ow_v fr (rn_move (fr.ev rfl)) rfl rfl ?_)
    intro a fr
    refine lst rfl (ow_v fr (rn_move (fr.ev rfl)) rfl rfl ?_)
    intro a fr
    have hb3 := u8lt (bs[k]'(by omega))
    obtain ⟨b2, o3, eA, st_⟩ := st.elem 1 rfl k (by omega) (by simp [C8])
    have fr_ := fr
    cases eA
    have st := st_
    have fr := fr_
    clear st_ fr_
    replace st : St _ [] w [ro b2 (o3 + k * 1) [.int .u8 ((bs[k].toNat : Nat))], .blk b1 [.int .i64 0, .int .i64 0, .int .i64 0, .int .i64 0] 29, els C8 1 (some ⟨b2, o3, none⟩) bs] := st
    refine lst rfl (ow_v fr (rn_at (i := k) (fr.ev rfl) (fr.ev rfl) Try.underlying22 sz_5 (by omega) (by rfl)) rfl rfl ?_)
    intro a fr
    refine lst rfl (ow_v fr (rn_load (fr.ev rfl) Try.underlying5 rfl (st.rocell 0 rfl (j := 0) rfl)) rfl rfl ?_)
    intro a fr
    refine lst rfl (ow_v fr (rn_conv (c := (bs[k].toNat : Nat)) (fr.ev rfl) (by kernel_rfl) Try.underlying3 (wr_i64 _ (by omega) (by omega))) rfl rfl ?_)
    intro a fr
    refine lst rfl (ow_v fr (rn_assign (fr.ev rfl)) rfl rfl ?_)
    intro a fr
    refine wpList_nil ?_
    refine then_n ?_
    refine wp_seq ?_
    refine reg ?_
    refine lst rfl (ow_v fr (rn_move (fr.ev rfl)) rfl rfl ?_)
    intro a fr
    refine lst rfl (ow_call fr rfl rfl Try.call19 (form_t _ h _) rfl rfl ?_)
    rintro e w ⟨rfl, hag⟩
    refine ⟨_, rfl, ?_⟩
    intro a fr
    have st := st.keep hag
    clear hag
    refine lst rfl (ow_v fr (rn_move (fr.ev rfl)) rfl rfl ?_)
    intro a fr
    refine lst rfl (ow_v fr (rn_extract (fr.ev rfl) rfl) rfl rfl ?_)
    intro a fr
    refine lst rfl (ow_v fr (rn_extract (fr.ev rfl) rfl) rfl rfl ?_)
    intro a fr
    refine lst rfl (ow_v fr (rn_assign (fr.ev rfl)) rfl rfl ?_)
    intro a fr
    refine lst rfl (ow_v fr (rn_assign (fr.ev rfl)) rfl rfl ?_)
    intro a fr
    refine wpList_nil ?_
    refine then_n ?_
    refine wp_seq ?_
    refine wp_seq ?_
    refine reg ?_
    refine lst rfl (ow_v fr (rn_move (fr.ev rfl)) rfl rfl ?_)
    intro a fr
    refine lst rfl (ow_v fr (rn_not (fr.ev rfl)) rfl rfl ?_)
    intro a fr
    refine wpList_nil ?_
    refine then_n ?_
    refine cond_f fr rfl rfl ?_
    refine wp_skip ?_
    refine then_n ?_
    refine wp_seq ?_
    refine reg ?_
    refine lst rfl (ow_v fr (rn_move (fr.ev rfl)) rfl rfl ?_)
    intro a fr
    refine lst rfl (ow_v fr (rn_move (fr.ev rfl)) rfl rfl ?_)
    intro a fr
    refine lst rfl (ow_v fr (rn_add (a := (k : Nat)) (b := 1) (c := ((k + 1 : Nat) : Int)) (fr.ev rfl) (fr.ev rfl) (wr_i64e (by omega) (by omega) (by omega))) rfl rfl ?_)
    intro a fr
    refine lst rfl (ow_v fr (rn_from (lo := k + 1) (fr.ev rfl) (fr.ev rfl) Try.underlying22 sz_5 (by omega)) rfl rfl ?_)
    intro a fr
    have st := st.cutFrom (m := bc) (lo := k + 1) 2 rfl (by decide) (fun _ => rfl) (by omega)
    obtain ⟨A4, hA_A4⟩ : ∃ A2, cutA (some ⟨b2, o3, none⟩) bc (k + 1) 1 = A2 := ⟨_, rfl⟩
    obtain ⟨ms5, hms6⟩ : ∃ ms, (bs.drop (k + 1)) = ms := ⟨_, rfl⟩
    have hl_ms5 : ms5.length = bs.length - (k + 1) := by rw [← hms6]; simp; try omega
    rw [hA_A4] at st fr
    rw [hms6] at st
    obtain ⟨cc7, hc_cc7⟩ : ∃ c, bc - (k + 1) = c := ⟨_, rfl⟩
    rw [hc_cc7, ← hl_ms5] at fr
    clear hA_A4
    have hce_cc7 : ms5.length ≤ cc7 := by have hq_ : bs.length ≤ bc := (by omega); omega
    refine lst rfl (ow_v fr (rn_assign (fr.ev rfl)) rfl rfl ?_)
    intro a fr
    refine wpList_nil ?_
    refine then_n ?_
    refine wp_seq ?_
    refine wp_seq ?_
    refine reg ?_
    refine lst rfl (ow_v fr (rn_move (fr.ev rfl)) rfl rfl ?_)
    intro a fr
    refine lst rfl (ow_v fr (rn_len (fr.ev rfl) Try.underlying22) rfl rfl ?_)
    intro a fr
    refine lst rfl (ow_v fr (rn_move (fr.ev rfl)) rfl rfl ?_)
    intro a fr
    refine lst rfl (ow_call fr rfl rfl Try.call43 (rest_lit 5 2 (by simp [Rng]) (by decide) _) rfl rfl ?_)
    rintro e w ⟨rfl, hag⟩
    refine ⟨_, rfl, ?_⟩
    intro a fr
    have st := st.keep hag
    clear hag
    refine lst rfl (ow_v fr (rn_as (v' := .bool false) (rn_lss (fr.ev rfl) (fr.ev rfl)) (congrArg Value.bool (decide_eq_false (by omega)))) rfl rfl ?_)
    intro a fr
    refine wpList_nil ?_
    refine then_n ?_
    refine cond_f fr rfl rfl ?_
    refine wp_skip ?_
    refine then_n ?_
    refine wp_seq ?_
    refine reg ?_
    refine lst rfl (ow_v fr (rn_move (fr.ev rfl)) rfl rfl ?_)
    intro a fr
    refine lst rfl (ow_v fr (rn_move (fr.ev rfl)) rfl rfl ?_)
    intro a fr
    refine lst rfl (ow_v fr (rn_build (cells := #[.int .i64 ((k : Nat)), .int .i64 ((bs[k].toNat : Nat)), .int .i64 0, .int .i64 0]) (by simp only [List.map_toArray, List.map_cons, List.map_nil]; rw [fr.ev (x := .tmp 44) rfl, fr.ev (x := .tmp 45) rfl]; rfl)) rfl rfl ?_)
    intro a fr
    refine lst rfl (ow_alloc fr st rfl zv_29 rfl rfl _ (by rfl) ?_)
    intro a w b8 fr st
    refine lst rfl (ow_stN fr st 0 (vs := [.int .i64 ((k : Nat)), .int .i64 ((bs[k].toNat : Nat)), .int .i64 0, .int .i64 0]) rfl rfl rfl rfl sz_29 rfl (Nat.le_of_ble_eq_true rfl) rfl ?_)
    intro w (st : St _ [] w [.blk b8 [.int .i64 ((k : Nat)), .int .i64 ((bs[k].toNat : Nat)), .int .i64 0, .int .i64 0] 29, els C8 1 A4 ms5, ro b2 (o3 + k * 1) [.int .u8 ((bs[k].toNat : Nat))], .blk b1 [.int .i64 0, .int .i64 0, .int .i64 0, .int .i64 0] 29, els C8 1 (some ⟨b2, o3, none⟩) bs])
    refine wpList_nil ?_
    refine then_n ?_
    refine wp_seq ?_
    refine wp_seq ?_
    refine reg ?_
    refine lst rfl (ow_v fr (rn_move (fr.ev rfl)) rfl rfl ?_)
    intro a fr
    refine wpList_nil ?_
    refine then_n ?_
    refine wp_block ?_
    refine wp_seq ?_
    refine wp_seq ?_
    refine reg ?_
    refine lst rfl (ow_v fr (rn_as (rn_eql (fr.ev rfl) (fr.ev rfl)) (by rfl)) rfl rfl ?_)
    intro a fr
    refine lst rfl (ow_v fr (rn_assign (fr.ev rfl)) rfl rfl ?_)
    intro a fr
    refine wpList_nil ?_
    refine then_n ?_
    refine cond_f fr rfl rfl ?_
    refine reg ?_
    refine lst rfl (ow_v fr (rn_as (rn_eql (fr.ev rfl) (fr.ev rfl)) (by rfl)) rfl rfl ?_)
    intro a fr
    refine lst rfl (ow_v fr (rn_assign (fr.ev rfl)) rfl rfl ?_)
    intro a fr
    refine wpList_nil ?_
    refine then_n ?_
    refine cond_f fr rfl rfl ?_
    refine wp_seq ?_
    refine reg ?_
    refine lst rfl (ow_v fr (rn_as (rn_eql (fr.ev rfl) (fr.ev rfl)) (by rfl)) rfl rfl ?_)
    intro a fr
    refine lst rfl (ow_v fr (rn_assign (fr.ev rfl)) rfl rfl ?_)
    intro a fr
    refine wpList_nil ?_
    refine then_n ?_
    refine cond_f fr rfl rfl ?_
    refine wp_seq ?_
    refine reg ?_
    refine lst rfl (ow_v fr (rn_as (rn_eql (fr.ev rfl) (fr.ev rfl)) (by rfl)) rfl rfl ?_)
    intro a fr
    refine lst rfl (ow_v fr (rn_assign (fr.ev rfl)) rfl rfl ?_)
    intro a fr
    refine wpList_nil ?_
    refine then_n ?_
    refine cond_f fr rfl rfl ?_
    refine wp_seq ?_
    refine reg ?_
    refine lst rfl (ow_v fr (rn_as (rn_eql (fr.ev rfl) (fr.ev rfl)) (by rfl)) rfl rfl ?_)
    intro a fr
    refine lst rfl (ow_v fr (rn_assign (fr.ev rfl)) rfl rfl ?_)
    intro a fr
    refine wpList_nil ?_
    refine then_n ?_
    refine cond_t fr rfl rfl ?_
    have hb10 := u8lt (bs[k + 1]'(by omega))
    obtain ⟨b9, o10, eA, st_⟩ := st.elem 1 rfl 0 (by omega) (by simp [C8])
    have fr_ := fr
    cases eA
    have st := st_
    have fr := fr_
    clear st_ fr_
    rw [drop_get hms6 (m := k + 1) (by omega) (by omega) (by omega)] at st
    replace st : St _ [] w [ro b9 (o10 + 0 * 1) [.int .u8 ((bs[k + 1].toNat : Nat))], .blk b8 [.int .i64 ((k : Nat)), .int .i64 ((bs[k].toNat : Nat)), .int .i64 0, .int .i64 0] 29, els C8 1 (some ⟨b9, o10, none⟩) ms5, ro b2 (o3 + k * 1) [.int .u8 ((bs[k].toNat : Nat))], .blk b1 [.int .i64 0, .int .i64 0, .int .i64 0, .int .i64 0] 29, els C8 1 (some ⟨b2, o3, none⟩) bs] := st
    have hb12 := u8lt (bs[k + 2]'(by omega))
    have st := (st.elem 2 rfl 1 (by omega) (by simp [C8]))
    obtain ⟨b_, o_, eA, st_⟩ := st
    have fr_ := fr
    cases eA
    have st := st_
    have fr := fr_
    clear st_ fr_
    rw [drop_get hms6 (m := k + 2) (by omega) (by omega) (by omega)] at st
    replace st : St _ [] w [ro b9 (o10 + 1 * 1) [.int .u8 ((bs[k + 2].toNat : Nat))], ro b9 (o10 + 0 * 1) [.int .u8 ((bs[k + 1].toNat : Nat))], .blk b8 [.int .i64 ((k : Nat)), .int .i64 ((bs[k].toNat : Nat)), .int .i64 0, .int .i64 0] 29, els C8 1 (some ⟨b9, o10, none⟩) ms5, ro b2 (o3 + k * 1) [.int .u8 ((bs[k].toNat : Nat))], .blk b1 [.int .i64 0, .int .i64 0, .int .i64 0, .int .i64 0] 29, els C8 1 (some ⟨b2, o3, none⟩) bs] := st
    refine dr_start (by kernel_rfl) st (.cons_cons _ (.cons_cons _ (.cons _ (.cons_cons _ (.cons_cons _ (.cons_cons _ (.cons_cons _ .slnil))))))) ?_
    intro w st
    refine dr_take 0 rfl (by kernel_rfl) (by kernel_rfl) (by kernel_rfl) (fun _ _ _ h => h) fr rfl (st.sub (.cons_cons _ (.cons_cons _ (.cons _ (.cons_cons _ (.cons_cons _ (.cons_cons _ (.cons_cons _ .slnil)))))))) (fun w st => rn_move (fr.ev rfl)) rfl rfl ?_
    intro a fr
    refine dr_take 1 rfl (by kernel_rfl) (by kernel_rfl) (by kernel_rfl) (fun _ _ _ h => h) fr rfl (st.sub (.cons_cons _ (.cons_cons _ (.cons _ (.cons_cons _ (.cons_cons _ (.cons_cons _ (.cons_cons _ .slnil)))))))) (fun w st => rn_at (i := 0) (fr.ev rfl) (fr.ev rfl) Try.underlying22 sz_5 (by omega) (by rfl)) rfl rfl ?_
    intro a fr
    refine dr_take 2 rfl (by kernel_rfl) (by kernel_rfl) (by kernel_rfl) (fun _ _ _ h => h) fr rfl (st.sub (.cons_cons _ (.cons_cons _ (.cons _ (.cons_cons _ (.cons_cons _ (.cons_cons _ (.cons_cons _ .slnil)))))))) (fun w st => rn_load (fr.ev rfl) Try.underlying5 rfl (st.rocell 1 rfl (j := 0) rfl)) rfl rfl ?_
    intro a fr
    refine dr_take 3 rfl (by kernel_rfl) (by kernel_rfl) (by kernel_rfl) (fun _ _ _ h => h) fr rfl (st.sub (.cons_cons _ (.cons_cons _ (.cons _ (.cons_cons _ (.cons_cons _ (.cons_cons _ (.cons_cons _ .slnil)))))))) (fun w st => rn_conv (c := (bs[k + 1].toNat : Nat)) (fr.ev rfl) (by kernel_rfl) Try.underlying3 (wr_i64 _ (by omega) (by omega))) rfl rfl ?_
    intro a fr
    refine dr_take 4 rfl (by kernel_rfl) (by kernel_rfl) (by kernel_rfl) (fun _ _ _ h => h) fr rfl (st.sub (.cons_cons _ (.cons_cons _ (.cons _ (.cons_cons _ (.cons_cons _ (.cons_cons _ (.cons_cons _ .slnil)))))))) (fun w st => rn_shl (k := .i64) (a := (bs[k + 1].toNat : Nat)) (b := 8) (c := (((bs[k + 1].toNat) * 256 : Nat) : Int)) (fr.ev rfl) (fr.ev rfl) (by decide) (by decide) (by rw [show (2 : Int) ^ (8 : Int).toNat = 256 by decide]; exact wr_i64e (by omega) (by omega) (by omega))) rfl rfl ?_
    intro a fr
    refine dr_take 5 rfl (by kernel_rfl) (by kernel_rfl) (by kernel_rfl) (fun _ _ _ h => h) fr rfl (st.sub (.cons_cons _ (.cons_cons _ (.cons _ (.cons_cons _ (.cons_cons _ (.cons_cons _ (.cons_cons _ .slnil)))))))) (fun w st => rn_move (fr.ev rfl)) rfl rfl ?_
    intro a fr
    refine dr_take 6 rfl (by kernel_rfl) (by kernel_rfl) (by kernel_rfl) (fun _ _ _ h => h) fr rfl (st.sub (.cons_cons _ (.cons_cons _ (.cons _ (.cons_cons _ (.cons_cons _ (.cons_cons _ (.cons_cons _ .slnil)))))))) (fun w st => rn_at (i := 1) (fr.ev rfl) (fr.ev rfl) Try.underlying22 sz_5 (by omega) (by rfl)) rfl rfl ?_
    intro a fr
    refine dr_take 7 rfl (by kernel_rfl) (by kernel_rfl) (by kernel_rfl) (fun _ _ _ h => h) fr rfl (st.sub (.cons_cons _ (.cons_cons _ (.cons _ (.cons_cons _ (.cons_cons _ (.cons_cons _ (.cons_cons _ .slnil)))))))) (fun w st => rn_load (fr.ev rfl) Try.underlying5 rfl (st.rocell 0 rfl (j := 0) rfl)) rfl rfl ?_
    intro a fr
    refine dr_take 8 rfl (by kernel_rfl) (by kernel_rfl) (by kernel_rfl) (fun _ _ _ h => h) fr rfl (st.sub (.cons_cons _ (.cons_cons _ (.cons _ (.cons_cons _ (.cons_cons _ (.cons_cons _ (.cons_cons _ .slnil)))))))) (fun w st => rn_conv (c := (bs[k + 2].toNat : Nat)) (fr.ev rfl) (by kernel_rfl) Try.underlying3 (wr_i64 _ (by omega) (by omega))) rfl rfl ?_
    intro a fr
    refine dr_take 9 rfl (by kernel_rfl) (by kernel_rfl) (by kernel_rfl) (fun _ _ _ h => h) fr rfl (st.sub (.cons_cons _ (.cons_cons _ (.cons _ (.cons_cons _ (.cons_cons _ (.cons_cons _ (.cons_cons _ .slnil)))))))) (fun w st => rn_or (c := (((bs[k + 1].toNat) * 256 + (bs[k + 2].toNat) : Nat) : Int)) (fr.ev rfl) (fr.ev rfl) (or8 .i64 (bs[k + 1].toNat) (bs[k + 2].toNat) (by show _ < 9223372036854775808; omega) (by omega) (by decide))) rfl rfl ?_
    intro a fr
    refine dr_take 10 rfl (by kernel_rfl) (by kernel_rfl) (by kernel_rfl) (fun _ _ _ h => h) fr rfl (st.sub (.cons_cons _ (.cons_cons _ (.cons _ (.cons_cons _ (.cons_cons _ (.cons_cons _ (.cons_cons _ .slnil)))))))) (fun w st => fa_29_2 (fr.ev rfl)) rfl rfl ?_
    intro a fr
    refine dr_one 11 (by kernel_rfl) rfl rfl (ow_st fr st 2 rfl rfl rfl rfl sz_3 rfl rfl rfl ?_)
    intro w (st : St _ [] w [ro b9 (o10 + 1 * 1) [.int .u8 ((bs[k + 2].toNat : Nat))], ro b9 (o10 + 0 * 1) [.int .u8 ((bs[k + 1].toNat : Nat))], .blk b8 [.int .i64 ((k : Nat)), .int .i64 ((bs[k].toNat : Nat)), .int .i64 ((((bs[k + 1].toNat) * 256 + (bs[k + 2].toNat) : Nat) : Int)), .int .i64 0] 29, els C8 1 (some ⟨b9, o10, none⟩) ms5, ro b2 (o3 + k * 1) [.int .u8 ((bs[k].toNat : Nat))], .blk b1 [.int .i64 0, .int .i64 0, .int .i64 0, .int .i64 0] 29, els C8 1 (some ⟨b2, o3, none⟩) bs])
    refine ⟨st.sub (.cons_cons _ (.cons_cons _ (.cons _ (.cons_cons _ (.cons_cons _ (.cons_cons _ (.cons_cons _ .slnil))))))), ?_⟩
    refine dr_done (by kernel_rfl) ?_
    refine blk_n ?_
    refine then_n ?_
    refine wp_seq ?_
    refine dr_start (by kernel_rfl) st (.cons_cons _ (.cons_cons _ (.cons_cons _ (.cons_cons _ (.cons_cons _ (.cons _ (.cons_cons _ .slnil))))))) ?_
    intro w st
    refine dr_take 0 rfl (by kernel_rfl) (by kernel_rfl) (by kernel_rfl) (fun _ _ _ h => h) fr rfl (st.sub (.cons_cons _ (.cons_cons _ (.cons_cons _ (.cons_cons _ (.cons_cons _ (.cons _ (.cons_cons _ .slnil)))))))) (fun w st => rn_loadN (cs := [.int .i64 ((k : Nat)), .int .i64 ((bs[k].toNat : Nat)), .int .i64 ((((bs[k + 1].toNat) * 256 + (bs[k + 2].toNat) : Nat) : Int)), .int .i64 0]) (fr.ev rfl) Try.underlying29 rfl sz_29 (st.blkrange 2 rfl 0 rfl)) rfl rfl ?_
    intro a fr
    refine dr_take 1 rfl (by kernel_rfl) (by kernel_rfl) (by kernel_rfl) (fun _ _ _ h => h) fr rfl (st.sub (.cons_cons _ (.cons_cons _ (.cons_cons _ (.cons_cons _ (.cons_cons _ (.cons _ (.cons_cons _ .slnil)))))))) (fun w st => rn_move (fr.ev rfl)) rfl rfl ?_
    intro a fr
    refine dr_take 2 rfl (by kernel_rfl) (by kernel_rfl) (by kernel_rfl) (fun _ _ _ h => h) fr rfl (st.sub (.cons_cons _ (.cons_cons _ (.cons_cons _ (.cons_cons _ (.cons_cons _ (.cons _ (.cons_cons _ .slnil)))))))) (fun w st => rn_add (a := (k : Nat)) (b := 1) (c := ((k + 1 : Nat) : Int)) (fr.ev rfl) (fr.ev rfl) (wr_i64e (by omega) (by omega) (by omega))) rfl rfl ?_
    intro a fr
    refine dr_take 3 rfl (by kernel_rfl) (by kernel_rfl) (by kernel_rfl) (fun _ _ _ h => h) fr rfl (st.sub (.cons_cons _ (.cons_cons _ (.cons_cons _ (.cons_cons _ (.cons_cons _ (.cons _ (.cons_cons _ .slnil)))))))) (fun w st => rn_move (fr.ev rfl)) rfl rfl ?_
    intro a fr
    refine dr_one 4 (by kernel_rfl) rfl rfl (ow_call fr rfl rfl Try.call43 (rest_lit 5 2 (by simp [Rng]) (by decide) _) rfl rfl ?_)
    rintro e w ⟨rfl, hag⟩
    refine ⟨_, rfl, ?_⟩
    intro a fr
    have st := st.keep hag
    clear hag
    refine ⟨st.sub (.cons_cons _ (.cons_cons _ (.cons_cons _ (.cons_cons _ (.cons_cons _ (.cons _ (.cons_cons _ .slnil))))))), ?_⟩
    refine dr_take 5 rfl (by kernel_rfl) (by kernel_rfl) (by kernel_rfl) (fun _ _ _ h => h) fr rfl (st.sub (.cons_cons _ (.cons_cons _ (.cons_cons _ (.cons_cons _ (.cons_cons _ (.cons _ (.cons_cons _ .slnil)))))))) (fun w st => rn_add (a := ((k + 1 : Nat) : Int)) (b := 2) (c := ((k + 1 + 2 : Nat) : Int)) (fr.ev rfl) (fr.ev rfl) (wr_i64e (by omega) (by omega) (by omega))) rfl rfl ?_
    intro a fr
    refine dr_one 6 (by kernel_rfl) rfl rfl (ow_stN fr st 5 (vs := [.int .i64 ((k : Nat)), .int .i64 ((bs[k].toNat : Nat)), .int .i64 ((((bs[k + 1].toNat) * 256 + (bs[k + 2].toNat) : Nat) : Int)), .int .i64 0]) rfl rfl rfl rfl sz_29 rfl (Nat.le_of_ble_eq_true rfl) rfl ?_)
    intro w (st : St _ [] w [ro b9 (o10 + 1 * 1) [.int .u8 ((bs[k + 2].toNat : Nat))], ro b9 (o10 + 0 * 1) [.int .u8 ((bs[k + 1].toNat : Nat))], .blk b8 [.int .i64 ((k : Nat)), .int .i64 ((bs[k].toNat : Nat)), .int .i64 ((((bs[k + 1].toNat) * 256 + (bs[k + 2].toNat) : Nat) : Int)), .int .i64 0] 29, els C8 1 (some ⟨b9, o10, none⟩) ms5, ro b2 (o3 + k * 1) [.int .u8 ((bs[k].toNat : Nat))], .blk b1 [.int .i64 ((k : Nat)), .int .i64 ((bs[k].toNat : Nat)), .int .i64 ((((bs[k + 1].toNat) * 256 + (bs[k + 2].toNat) : Nat) : Int)), .int .i64 0] 29, els C8 1 (some ⟨b2, o3, none⟩) bs])
    refine ⟨st.sub (.cons_cons _ (.cons_cons _ (.cons_cons _ (.cons_cons _ (.cons_cons _ (.cons _ (.cons_cons _ .slnil))))))), ?_⟩
    refine dr_take 7 rfl (by kernel_rfl) (by kernel_rfl) (by kernel_rfl) (fun _ _ _ h => h) fr rfl (st.sub (.cons_cons _ (.cons_cons _ (.cons_cons _ (.cons_cons _ (.cons_cons _ (.cons _ (.cons_cons _ .slnil)))))))) (fun w st => rn_assign (fr.ev rfl)) rfl rfl ?_
    intro a fr
    refine dr_take 8 rfl (by kernel_rfl) (by kernel_rfl) (by kernel_rfl) (fun _ _ _ h => h) fr rfl (st.sub (.cons_cons _ (.cons_cons _ (.cons_cons _ (.cons_cons _ (.cons_cons _ (.cons _ (.cons_cons _ .slnil)))))))) (fun w st => rn_assign (fr.ev rfl)) rfl rfl ?_
    intro a fr
    refine dr_done (by kernel_rfl) ?_
    refine then_n ?_
    refine wp_ret ?_
    refine ret3 Try.results13 fr (rv_row (cs := [.int .i64 ((k : Nat)), .int .i64 ((bs[k].toNat : Nat)), .int .i64 ((((bs[k + 1].toNat) * 256 + (bs[k + 2].toNat) : Nat) : Int)), .int .i64 0]) fr rfl Try.underlying29 rfl (by first | exact sz_29 | simpa using sz_29) (st.blkrange 5 rfl 0 rfl)) (rv_tmp fr rfl) (rv_tmp fr rfl) ?_
    exact ⟨by simp [okA, okB, behF, insC, ub_eq hk, ub_eq hk1, ub_eq hk2, Nat.mul_comm 256], st.agr⟩
  · have hs2 : k + 1 + 2 ≤ bs.length := hs
    have hk1 : k + 1 < bs.length := by omega
    have hk2 : k + 2 < bs.length := by omega
    refine enter Try.func13 rfl Try.ntmps13 (by simp) ?_
    intro a fr
    refine wp_seq ?_
    refine reg ?_
    refine lst rfl (ow_alloc fr st rfl zv_29 rfl rfl _ (by rfl) ?_)
    intro a w b1 fr st
    refine lst rfl (ow_v fr (rn_assign (fr.ev rfl)) rfl rfl ?_)
    intro a fr
    refine lst rfl (ow_v fr (rn_assign (fr.ev rfl)) rfl rfl ?_)
    intro a fr
    refine wpList_nil ?_
    refine then_n ?_
    refine wp_seq ?_
    refine wp_seq ?_
    refine reg ?_
    refine lst rfl (ow_v fr (rn_move (fr.ev rfl)) rfl rfl ?_)
    intro a fr
    refine lst rfl (ow_v fr (rn_as (v' := .bool false) (rn_lss (fr.ev rfl) (fr.ev rfl)) (congrArg Value.bool (decide_eq_false (by omega)))) rfl rfl ?_)
    intro a fr
    refine lst rfl (ow_v fr (rn_move (fr.ev rfl)) rfl rfl ?_)
    intro a fr
    refine lst_y (wanted_of fr rfl rfl rfl rfl) (ow_v fr (rn_move (fr.ev rfl)) rfl rfl ?_)
    intro a fr
    refine lst_y (wanted_of fr rfl rfl rfl rfl) (ow_v fr (rn_move (fr.ev rfl)) rfl rfl ?_)
    intro a fr
    refine lst_y (wanted_of fr rfl rfl rfl rfl) (ow_v fr (rn_len (fr.ev rfl) Try.underlying22) rfl rfl ?_)
    intro a fr
    refine lst_y (wanted_of fr rfl rfl rfl rfl) (ow_v fr (rn_as (v' := .bool false) (rn_geq (fr.ev rfl) (fr.ev rfl)) (congrArg Value.bool (decide_eq_false (by omega)))) rfl rfl ?_)
    intro a fr
    refine lst rfl (ow_v fr (rn_pick_f (fr.ev rfl) (fr.ev rfl)) rfl rfl ?_)
    intro a fr
    refine wpList_nil ?_
    refine then_n ?_
    refine cond_f fr rfl rfl ?_
    refine wp_skip ?_
    refine then_n ?_
    refine wp_seq ?_
    refine reg ?_
    refine lst rfl (ow_v fr (rn_move (fr.ev rfl)) rfl rfl ?_)
    intro a fr
    refine lst rfl (ow_v fr (rn_move (fr.ev rfl)) rfl rfl ?_)
    intro a fr
    have hb3 := u8lt (bs[k]'(by omega))
    obtain ⟨b2, o3, eA, st_⟩ := st.elem 1 rfl k (by omega) (by simp [C8])
    have fr_ := fr
    cases eA
    have st := st_
    have fr := fr_
    clear st_ fr_
    replace st : St _ [] w [ro b2 (o3 + k * 1) [.int .u8 ((bs[k].toNat : Nat))], .blk b1 [.int .i64 0, .int .i64 0, .int .i64 0, .int .i64 0] 29, els C8 1 (some ⟨b2, o3, none⟩) bs] := st
    refine lst rfl (ow_v fr (rn_at (i := k) (fr.ev rfl) (fr.ev rfl) Try.underlying22 sz_5 (by omega) (by rfl)) rfl rfl ?_)
    intro a fr
    refine lst rfl (ow_v fr (rn_load (fr.ev rfl) Try.underlying5 rfl (st.rocell 0 rfl (j := 0) rfl)) rfl rfl ?_)
    intro a fr
    refine lst rfl (ow_v fr (rn_conv (c := (bs[k].toNat : Nat)) (fr.ev rfl) (by kernel_rfl) Try.underlying3 (wr_i64 _ (by omega) (by omega))) rfl rfl ?_)
    intro a fr
    refine lst rfl (ow_v fr (rn_assign (fr.ev rfl)) rfl rfl ?_)
    intro a fr
    refine wpList_nil ?_
    refine then_n ?_
    refine wp_seq ?_
    refine reg ?_
    refine lst rfl (ow_v fr (rn_move (fr.ev rfl)) rfl rfl ?_)
    intro a fr
    refine lst rfl (ow_call fr rfl rfl Try.call19 (form_t _ h _) rfl rfl ?_)
    rintro e w ⟨rfl, hag⟩
    refine ⟨_, rfl, ?_⟩
    intro a fr
    have st := st.keep hag
    clear hag
    refine lst rfl (ow_v fr (rn_move (fr.ev rfl)) rfl rfl ?_)
    intro a fr
    refine lst rfl (ow_v fr (rn_extract (fr.ev rfl) rfl) rfl rfl ?_)
    intro a fr
    refine lst rfl (ow_v fr (rn_extract (fr.ev rfl) rfl) rfl rfl ?_)
    intro a fr
    refine lst rfl (ow_v fr (rn_assign (fr.ev rfl)) rfl rfl ?_)
    intro a fr
    refine lst rfl (ow_v fr (rn_assign (fr.ev rfl)) rfl rfl ?_)
    intro a fr
    refine wpList_nil ?_
    refine then_n ?_
    refine wp_seq ?_
    refine wp_seq ?_
    refine reg ?_
    refine lst rfl (ow_v fr (rn_move (fr.ev rfl)) rfl rfl ?_)
    intro a fr
    refine lst rfl (ow_v fr (rn_not (fr.ev rfl)) rfl rfl ?_)
    intro a fr
    refine wpList_nil ?_
    refine then_n ?_
    refine cond_f fr rfl rfl ?_
    refine wp_skip ?_
    refine then_n ?_
    refine wp_seq ?_
    refine reg ?_
    refine lst rfl (ow_v fr (rn_move (fr.ev rfl)) rfl rfl ?_)
    intro a fr
    refine lst rfl (ow_v fr (rn_move (fr.ev rfl)) rfl rfl ?_)
    intro a fr
    refine lst rfl (ow_v fr (rn_add (a := (k : Nat)) (b := 1) (c := ((k + 1 : Nat) : Int)) (fr.ev rfl) (fr.ev rfl) (wr_i64e (by omega) (by omega) (by omega))) rfl rfl ?_)
    intro a fr
    refine lst rfl (ow_v fr (rn_from (lo := k + 1) (fr.ev rfl) (fr.ev rfl) Try.underlying22 sz_5 (by omega)) rfl rfl ?_)
    intro a fr
    have st := st.cutFrom (m := bc) (lo := k + 1) 2 rfl (by decide) (fun _ => rfl) (by omega)
    obtain ⟨A4, hA_A4⟩ : ∃ A2, cutA (some ⟨b2, o3, none⟩) bc (k + 1) 1 = A2 := ⟨_, rfl⟩
    obtain ⟨ms5, hms6⟩ : ∃ ms, (bs.drop (k + 1)) = ms := ⟨_, rfl⟩
    have hl_ms5 : ms5.length = bs.length - (k + 1) := by rw [← hms6]; simp; try omega
    rw [hA_A4] at st fr
    rw [hms6] at st
    obtain ⟨cc7, hc_cc7⟩ : ∃ c, bc - (k + 1) = c := ⟨_, rfl⟩
    rw [hc_cc7, ← hl_ms5] at fr
    clear hA_A4
    have hce_cc7 : ms5.length ≤ cc7 := by have hq_ : bs.length ≤ bc := (by omega); omega
    refine lst rfl (ow_v fr (rn_assign (fr.ev rfl)) rfl rfl ?_)
    intro a fr
    refine wpList_nil ?_
    refine then_n ?_
    refine wp_seq ?_
    refine wp_seq ?_
    refine reg ?_
    refine lst rfl (ow_v fr (rn_move (fr.ev rfl)) rfl rfl ?_)
    intro a fr
    refine lst rfl (ow_v fr (rn_len (fr.ev rfl) Try.underlying22) rfl rfl ?_)
    intro a fr
    refine lst rfl (ow_v fr (rn_move (fr.ev rfl)) rfl rfl ?_)
    intro a fr
    refine lst rfl (ow_call fr rfl rfl Try.call43 (rest_lit 6 2 (by simp [Rng]) (by decide) _) rfl rfl ?_)
    rintro e w ⟨rfl, hag⟩
    refine ⟨_, rfl, ?_⟩
    intro a fr
    have st := st.keep hag
    clear hag
    refine lst rfl (ow_v fr (rn_as (v' := .bool false) (rn_lss (fr.ev rfl) (fr.ev rfl)) (congrArg Value.bool (decide_eq_false (by omega)))) rfl rfl ?_)
    intro a fr
    refine wpList_nil ?_
    refine then_n ?_
    refine cond_f fr rfl rfl ?_
    refine wp_skip ?_
    refine then_n ?_
    refine wp_seq ?_
    refine reg ?_
    refine lst rfl (ow_v fr (rn_move (fr.ev rfl)) rfl rfl ?_)
    intro a fr
    refine lst rfl (ow_v fr (rn_move (fr.ev rfl)) rfl rfl ?_)
    intro a fr
    refine lst rfl (ow_v fr (rn_build (cells := #[.int .i64 ((k : Nat)), .int .i64 ((bs[k].toNat : Nat)), .int .i64 0, .int .i64 0]) (by simp only [List.map_toArray, List.map_cons, List.map_nil]; rw [fr.ev (x := .tmp 44) rfl, fr.ev (x := .tmp 45) rfl]; rfl)) rfl rfl ?_)
    intro a fr
    refine lst rfl (ow_alloc fr st rfl zv_29 rfl rfl _ (by rfl) ?_)
    intro a w b8 fr st
    refine lst rfl (ow_stN fr st 0 (vs := [.int .i64 ((k : Nat)), .int .i64 ((bs[k].toNat : Nat)), .int .i64 0, .int .i64 0]) rfl rfl rfl rfl sz_29 rfl (Nat.le_of_ble_eq_true rfl) rfl ?_)
    intro w (st : St _ [] w [.blk b8 [.int .i64 ((k : Nat)), .int .i64 ((bs[k].toNat : Nat)), .int .i64 0, .int .i64 0] 29, els C8 1 A4 ms5, ro b2 (o3 + k * 1) [.int .u8 ((bs[k].toNat : Nat))], .blk b1 [.int .i64 0, .int .i64 0, .int .i64 0, .int .i64 0] 29, els C8 1 (some ⟨b2, o3, none⟩) bs])
    refine wpList_nil ?_
    refine then_n ?_
    refine wp_seq ?_
    refine wp_seq ?_
    refine reg ?_
    refine lst rfl (ow_v fr (rn_move (fr.ev rfl)) rfl rfl ?_)
    intro a fr
    refine wpList_nil ?_
    refine then_n ?_
    refine wp_block ?_
    refine wp_seq ?_
    refine wp_seq ?_
    refine reg ?_
    refine lst rfl (ow_v fr (rn_as (rn_eql (fr.ev rfl) (fr.ev rfl)) (by rfl)) rfl rfl ?_)
    intro a fr
    refine lst rfl (ow_v fr (rn_assign (fr.ev rfl)) rfl rfl ?_)
    intro a fr
    refine wpList_nil ?_
    refine then_n ?_
    refine cond_f fr rfl rfl ?_
    refine reg ?_
    refine lst rfl (ow_v fr (rn_as (rn_eql (fr.ev rfl) (fr.ev rfl)) (by rfl)) rfl rfl ?_)
    intro a fr
    refine lst rfl (ow_v fr (rn_assign (fr.ev rfl)) rfl rfl ?_)
    intro a fr
    refine wpList_nil ?_
    refine then_n ?_
    refine cond_f fr rfl rfl ?_
    refine wp_seq ?_
    refine reg ?_
    refine lst rfl (ow_v fr (rn_as (rn_eql (fr.ev rfl) (fr.ev rfl)) (by rfl)) rfl rfl ?_)
    intro a fr
    refine lst rfl (ow_v fr (rn_assign (fr.ev rfl)) rfl rfl ?_)
    intro a fr
    refine wpList_nil ?_
    refine then_n ?_
    refine cond_f fr rfl rfl ?_
    refine wp_seq ?_
    refine reg ?_
    refine lst rfl (ow_v fr (rn_as (rn_eql (fr.ev rfl) (fr.ev rfl)) (by rfl)) rfl rfl ?_)
    intro a fr
    refine lst rfl (ow_v fr (rn_assign (fr.ev rfl)) rfl rfl ?_)
    intro a fr
    refine wpList_nil ?_
    refine then_n ?_
    refine cond_f fr rfl rfl ?_
    refine wp_seq ?_
    refine reg ?_
    refine lst rfl (ow_v fr (rn_as (rn_eql (fr.ev rfl) (fr.ev rfl)) (by rfl)) rfl rfl ?_)
    intro a fr
    refine lst rfl (ow_v fr (rn_assign (fr.ev rfl)) rfl rfl ?_)
    intro a fr
    refine wpList_nil ?_
    refine then_n ?_
    refine cond_f fr rfl rfl ?_
    refine wp_seq ?_
    refine reg ?_
    refine lst rfl (ow_v fr (rn_as (rn_eql (fr.ev rfl) (fr.ev rfl)) (by rfl)) rfl rfl ?_)
    intro a fr
    refine lst rfl (ow_v fr (rn_assign (fr.ev rfl)) rfl rfl ?_)
    intro a fr
    refine wpList_nil ?_
    refine then_n ?_
    refine cond_t fr rfl rfl ?_
    have hu1 := u8lt bs[k + 1]
    have hu2 := u8lt bs[k + 2]
    have hs16 := sx16_rng (bs[k + 1].toNat * 256 + bs[k + 2].toNat) (by omega)
    have hb10 := u8lt (bs[k + 1]'(by omega))
    obtain ⟨b9, o10, eA, st_⟩ := st.elem 1 rfl 0 (by omega) (by simp [C8])
    have fr_ := fr
    cases eA
    have st := st_
    have fr := fr_
    clear st_ fr_
    rw [drop_get hms6 (m := k + 1) (by omega) (by omega) (by omega)] at st
    replace st : St _ [] w [ro b9 (o10 + 0 * 1) [.int .u8 ((bs[k + 1].toNat : Nat))], .blk b8 [.int .i64 ((k : Nat)), .int .i64 ((bs[k].toNat : Nat)), .int .i64 0, .int .i64 0] 29, els C8 1 (some ⟨b9, o10, none⟩) ms5, ro b2 (o3 + k * 1) [.int .u8 ((bs[k].toNat : Nat))], .blk b1 [.int .i64 0, .int .i64 0, .int .i64 0, .int .i64 0] 29, els C8 1 (some ⟨b2, o3, none⟩) bs] := st
    have hb12 := u8lt (bs[k + 2]'(by omega))
    have st := (st.elem 2 rfl 1 (by omega) (by simp [C8]))
    obtain ⟨b_, o_, eA, st_⟩ := st
    have fr_ := fr
    cases eA
    have st := st_
    have fr := fr_
    clear st_ fr_
    rw [drop_get hms6 (m := k + 2) (by omega) (by omega) (by omega)] at st
    replace st : St _ [] w [ro b9 (o10 + 1 * 1) [.int .u8 ((bs[k + 2].toNat : Nat))], ro b9 (o10 + 0 * 1) [.int .u8 ((bs[k + 1].toNat : Nat))], .blk b8 [.int .i64 ((k : Nat)), .int .i64 ((bs[k].toNat : Nat)), .int .i64 0, .int .i64 0] 29, els C8 1 (some ⟨b9, o10, none⟩) ms5, ro b2 (o3 + k * 1) [.int .u8 ((bs[k].toNat : Nat))], .blk b1 [.int .i64 0, .int .i64 0, .int .i64 0, .int .i64 0] 29, els C8 1 (some ⟨b2, o3, none⟩) bs] := st
    refine dr_start (by kernel_rfl) st (.cons_cons _ (.cons_cons _ (.cons _ (.cons_cons _ (.cons_cons _ (.cons_cons _ (.cons_cons _ .slnil))))))) ?_
    intro w st
    refine dr_take 0 rfl (by kernel_rfl) (by kernel_rfl) (by kernel_rfl) (fun _ _ _ h => h) fr rfl (st.sub (.cons_cons _ (.cons_cons _ (.cons _ (.cons_cons _ (.cons_cons _ (.cons_cons _ (.cons_cons _ .slnil)))))))) (fun w st => rn_move (fr.ev rfl)) rfl rfl ?_
    intro a fr
    refine dr_take 1 rfl (by kernel_rfl) (by kernel_rfl) (by kernel_rfl) (fun _ _ _ h => h) fr rfl (st.sub (.cons_cons _ (.cons_cons _ (.cons _ (.cons_cons _ (.cons_cons _ (.cons_cons _ (.cons_cons _ .slnil)))))))) (fun w st => rn_move (fr.ev rfl)) rfl rfl ?_
    intro a fr
    refine dr_take 2 rfl (by kernel_rfl) (by kernel_rfl) (by kernel_rfl) (fun _ _ _ h => h) fr rfl (st.sub (.cons_cons _ (.cons_cons _ (.cons _ (.cons_cons _ (.cons_cons _ (.cons_cons _ (.cons_cons _ .slnil)))))))) (fun w st => rn_at (i := 0) (fr.ev rfl) (fr.ev rfl) Try.underlying22 sz_5 (by omega) (by rfl)) rfl rfl ?_
    intro a fr
    refine dr_take 3 rfl (by kernel_rfl) (by kernel_rfl) (by kernel_rfl) (fun _ _ _ h => h) fr rfl (st.sub (.cons_cons _ (.cons_cons _ (.cons _ (.cons_cons _ (.cons_cons _ (.cons_cons _ (.cons_cons _ .slnil)))))))) (fun w st => rn_load (fr.ev rfl) Try.underlying5 rfl (st.rocell 1 rfl (j := 0) rfl)) rfl rfl ?_
    intro a fr
    refine dr_take 4 rfl (by kernel_rfl) (by kernel_rfl) (by kernel_rfl) (fun _ _ _ h => h) fr rfl (st.sub (.cons_cons _ (.cons_cons _ (.cons _ (.cons_cons _ (.cons_cons _ (.cons_cons _ (.cons_cons _ .slnil)))))))) (fun w st => rn_conv (c := (bs[k + 1].toNat : Nat)) (fr.ev rfl) (by kernel_rfl) Try.underlying44 (wr_u16 _ (by omega) (by omega))) rfl rfl ?_
    intro a fr
    refine dr_take 5 rfl (by kernel_rfl) (by kernel_rfl) (by kernel_rfl) (fun _ _ _ h => h) fr rfl (st.sub (.cons_cons _ (.cons_cons _ (.cons _ (.cons_cons _ (.cons_cons _ (.cons_cons _ (.cons_cons _ .slnil)))))))) (fun w st => rn_shl (k := .u16) (a := (bs[k + 1].toNat : Nat)) (b := 8) (c := (((bs[k + 1].toNat) * 256 : Nat) : Int)) (fr.ev rfl) (fr.ev rfl) (by decide) (by decide) (by rw [show (2 : Int) ^ (8 : Int).toNat = 256 by decide]; exact wr_u16e (by omega) (by omega) (by omega))) rfl rfl ?_
    intro a fr
    refine dr_take 6 rfl (by kernel_rfl) (by kernel_rfl) (by kernel_rfl) (fun _ _ _ h => h) fr rfl (st.sub (.cons_cons _ (.cons_cons _ (.cons _ (.cons_cons _ (.cons_cons _ (.cons_cons _ (.cons_cons _ .slnil)))))))) (fun w st => rn_move (fr.ev rfl)) rfl rfl ?_
    intro a fr
    refine dr_take 7 rfl (by kernel_rfl) (by kernel_rfl) (by kernel_rfl) (fun _ _ _ h => h) fr rfl (st.sub (.cons_cons _ (.cons_cons _ (.cons _ (.cons_cons _ (.cons_cons _ (.cons_cons _ (.cons_cons _ .slnil)))))))) (fun w st => rn_at (i := 1) (fr.ev rfl) (fr.ev rfl) Try.underlying22 sz_5 (by omega) (by rfl)) rfl rfl ?_
    intro a fr
    refine dr_take 8 rfl (by kernel_rfl) (by kernel_rfl) (by kernel_rfl) (fun _ _ _ h => h) fr rfl (st.sub (.cons_cons _ (.cons_cons _ (.cons _ (.cons_cons _ (.cons_cons _ (.cons_cons _ (.cons_cons _ .slnil)))))))) (fun w st => rn_load (fr.ev rfl) Try.underlying5 rfl (st.rocell 0 rfl (j := 0) rfl)) rfl rfl ?_
    intro a fr
    refine dr_take 9 rfl (by kernel_rfl) (by kernel_rfl) (by kernel_rfl) (fun _ _ _ h => h) fr rfl (st.sub (.cons_cons _ (.cons_cons _ (.cons _ (.cons_cons _ (.cons_cons _ (.cons_cons _ (.cons_cons _ .slnil)))))))) (fun w st => rn_conv (c := (bs[k + 2].toNat : Nat)) (fr.ev rfl) (by kernel_rfl) Try.underlying44 (wr_u16 _ (by omega) (by omega))) rfl rfl ?_
    intro a fr
    refine dr_take 10 rfl (by kernel_rfl) (by kernel_rfl) (by kernel_rfl) (fun _ _ _ h => h) fr rfl (st.sub (.cons_cons _ (.cons_cons _ (.cons _ (.cons_cons _ (.cons_cons _ (.cons_cons _ (.cons_cons _ .slnil)))))))) (fun w st => rn_or (c := (((bs[k + 1].toNat) * 256 + (bs[k + 2].toNat) : Nat) : Int)) (fr.ev rfl) (fr.ev rfl) (or8u (bs[k + 1].toNat) (bs[k + 2].toNat) (by omega) (by omega))) rfl rfl ?_
    intro a fr
    refine dr_take 11 rfl (by kernel_rfl) (by kernel_rfl) (by kernel_rfl) (fun _ _ _ h => h) fr rfl (st.sub (.cons_cons _ (.cons_cons _ (.cons _ (.cons_cons _ (.cons_cons _ (.cons_cons _ (.cons_cons _ .slnil)))))))) (fun w st => rn_conv (c := sx16 ((bs[k + 1].toNat) * 256 + (bs[k + 2].toNat))) (fr.ev rfl) (by kernel_rfl) Try.underlying65 (wr_i16 ((bs[k + 1].toNat) * 256 + (bs[k + 2].toNat)) (by omega))) rfl rfl ?_
    intro a fr
    refine dr_take 12 rfl (by kernel_rfl) (by kernel_rfl) (by kernel_rfl) (fun _ _ _ h => h) fr rfl (st.sub (.cons_cons _ (.cons_cons _ (.cons _ (.cons_cons _ (.cons_cons _ (.cons_cons _ (.cons_cons _ .slnil)))))))) (fun w st => rn_conv (c := sx16 ((bs[k + 1].toNat) * 256 + (bs[k + 2].toNat))) (fr.ev rfl) (by kernel_rfl) Try.underlying3 (wr_i64 _ (by have := sx16_rng ((bs[k + 1].toNat) * 256 + (bs[k + 2].toNat)) (by omega); omega) (by have := sx16_rng ((bs[k + 1].toNat) * 256 + (bs[k + 2].toNat)) (by omega); omega))) rfl rfl ?_
    intro a fr
    refine dr_take 13 rfl (by kernel_rfl) (by kernel_rfl) (by kernel_rfl) (fun _ _ _ h => h) fr rfl (st.sub (.cons_cons _ (.cons_cons _ (.cons _ (.cons_cons _ (.cons_cons _ (.cons_cons _ (.cons_cons _ .slnil)))))))) (fun w st => rn_add (a := (k : Nat)) (b := sx16 ((bs[k + 1].toNat) * 256 + (bs[k + 2].toNat))) (c := (k : Nat) + sx16 ((bs[k + 1].toNat) * 256 + (bs[k + 2].toNat))) (fr.ev rfl) (fr.ev rfl) (wr_i64e (by omega) (by omega) (by omega))) rfl rfl ?_
    intro a fr
    refine dr_take 14 rfl (by kernel_rfl) (by kernel_rfl) (by kernel_rfl) (fun _ _ _ h => h) fr rfl (st.sub (.cons_cons _ (.cons_cons _ (.cons _ (.cons_cons _ (.cons_cons _ (.cons_cons _ (.cons_cons _ .slnil)))))))) (fun w st => fa_29_2 (fr.ev rfl)) rfl rfl ?_
    intro a fr
    refine dr_one 15 (by kernel_rfl) rfl rfl (ow_st fr st 2 rfl rfl rfl rfl sz_3 rfl rfl rfl ?_)
    intro w (st : St _ [] w [ro b9 (o10 + 1 * 1) [.int .u8 ((bs[k + 2].toNat : Nat))], ro b9 (o10 + 0 * 1) [.int .u8 ((bs[k + 1].toNat : Nat))], .blk b8 [.int .i64 ((k : Nat)), .int .i64 ((bs[k].toNat : Nat)), .int .i64 ((k : Nat) + sx16 ((bs[k + 1].toNat) * 256 + (bs[k + 2].toNat))), .int .i64 0] 29, els C8 1 (some ⟨b9, o10, none⟩) ms5, ro b2 (o3 + k * 1) [.int .u8 ((bs[k].toNat : Nat))], .blk b1 [.int .i64 0, .int .i64 0, .int .i64 0, .int .i64 0] 29, els C8 1 (some ⟨b2, o3, none⟩) bs])
    refine ⟨st.sub (.cons_cons _ (.cons_cons _ (.cons _ (.cons_cons _ (.cons_cons _ (.cons_cons _ (.cons_cons _ .slnil))))))), ?_⟩
    refine dr_done (by kernel_rfl) ?_
    refine blk_n ?_
    refine then_n ?_
    refine wp_seq ?_
    refine dr_start (by kernel_rfl) st (.cons_cons _ (.cons_cons _ (.cons_cons _ (.cons_cons _ (.cons_cons _ (.cons _ (.cons_cons _ .slnil))))))) ?_
    intro w st
    refine dr_take 0 rfl (by kernel_rfl) (by kernel_rfl) (by kernel_rfl) (fun _ _ _ h => h) fr rfl (st.sub (.cons_cons _ (.cons_cons _ (.cons_cons _ (.cons_cons _ (.cons_cons _ (.cons _ (.cons_cons _ .slnil)))))))) (fun w st => rn_loadN (cs := [.int .i64 ((k : Nat)), .int .i64 ((bs[k].toNat : Nat)), .int .i64 ((k : Nat) + sx16 ((bs[k + 1].toNat) * 256 + (bs[k + 2].toNat))), .int .i64 0]) (fr.ev rfl) Try.underlying29 rfl sz_29 (st.blkrange 2 rfl 0 rfl)) rfl rfl ?_
    intro a fr
    refine dr_take 1 rfl (by kernel_rfl) (by kernel_rfl) (by kernel_rfl) (fun _ _ _ h => h) fr rfl (st.sub (.cons_cons _ (.cons_cons _ (.cons_cons _ (.cons_cons _ (.cons_cons _ (.cons _ (.cons_cons _ .slnil)))))))) (fun w st => rn_move (fr.ev rfl)) rfl rfl ?_
    intro a fr
    refine dr_take 2 rfl (by kernel_rfl) (by kernel_rfl) (by kernel_rfl) (fun _ _ _ h => h) fr rfl (st.sub (.cons_cons _ (.cons_cons _ (.cons_cons _ (.cons_cons _ (.cons_cons _ (.cons _ (.cons_cons _ .slnil)))))))) (fun w st => rn_add (a := (k : Nat)) (b := 1) (c := ((k + 1 : Nat) : Int)) (fr.ev rfl) (fr.ev rfl) (wr_i64e (by omega) (by omega) (by omega))) rfl rfl ?_
    intro a fr
    refine dr_take 3 rfl (by kernel_rfl) (by kernel_rfl) (by kernel_rfl) (fun _ _ _ h => h) fr rfl (st.sub (.cons_cons _ (.cons_cons _ (.cons_cons _ (.cons_cons _ (.cons_cons _ (.cons _ (.cons_cons _ .slnil)))))))) (fun w st => rn_move (fr.ev rfl)) rfl rfl ?_
    intro a fr
    refine dr_one 4 (by kernel_rfl) rfl rfl (ow_call fr rfl rfl Try.call43 (rest_lit 6 2 (by simp [Rng]) (by decide) _) rfl rfl ?_)
    rintro e w ⟨rfl, hag⟩
    refine ⟨_, rfl, ?_⟩
    intro a fr
    have st := st.keep hag
    clear hag
    refine ⟨st.sub (.cons_cons _ (.cons_cons _ (.cons_cons _ (.cons_cons _ (.cons_cons _ (.cons _ (.cons_cons _ .slnil))))))), ?_⟩
    refine dr_take 5 rfl (by kernel_rfl) (by kernel_rfl) (by kernel_rfl) (fun _ _ _ h => h) fr rfl (st.sub (.cons_cons _ (.cons_cons _ (.cons_cons _ (.cons_cons _ (.cons_cons _ (.cons _ (.cons_cons _ .slnil)))))))) (fun w st => rn_add (a := ((k + 1 : Nat) : Int)) (b := 2) (c := ((k + 1 + 2 : Nat) : Int)) (fr.ev rfl) (fr.ev rfl) (wr_i64e (by omega) (by omega) (by omega))) rfl rfl ?_
    intro a fr
    refine dr_one 6 (by kernel_rfl) rfl rfl (ow_stN fr st 5 (vs := [.int .i64 ((k : Nat)), .int .i64 ((bs[k].toNat : Nat)), .int .i64 ((k : Nat) + sx16 ((bs[k + 1].toNat) * 256 + (bs[k + 2].toNat))), .int .i64 0]) rfl rfl rfl rfl sz_29 rfl (Nat.le_of_ble_eq_true rfl) rfl ?_)
    intro w (st : St _ [] w [ro b9 (o10 + 1 * 1) [.int .u8 ((bs[k + 2].toNat : Nat))], ro b9 (o10 + 0 * 1) [.int .u8 ((bs[k + 1].toNat : Nat))], .blk b8 [.int .i64 ((k : Nat)), .int .i64 ((bs[k].toNat : Nat)), .int .i64 ((k : Nat) + sx16 ((bs[k + 1].toNat) * 256 + (bs[k + 2].toNat))), .int .i64 0] 29, els C8 1 (some ⟨b9, o10, none⟩) ms5, ro b2 (o3 + k * 1) [.int .u8 ((bs[k].toNat : Nat))], .blk b1 [.int .i64 ((k : Nat)), .int .i64 ((bs[k].toNat : Nat)), .int .i64 ((k : Nat) + sx16 ((bs[k + 1].toNat) * 256 + (bs[k + 2].toNat))), .int .i64 0] 29, els C8 1 (some ⟨b2, o3, none⟩) bs])
    refine ⟨st.sub (.cons_cons _ (.cons_cons _ (.cons_cons _ (.cons_cons _ (.cons_cons _ (.cons _ (.cons_cons _ .slnil))))))), ?_⟩
    refine dr_take 7 rfl (by kernel_rfl) (by kernel_rfl) (by kernel_rfl) (fun _ _ _ h => h) fr rfl (st.sub (.cons_cons _ (.cons_cons _ (.cons_cons _ (.cons_cons _ (.cons_cons _ (.cons _ (.cons_cons _ .slnil)))))))) (fun w st => rn_assign (fr.ev rfl)) rfl rfl ?_
    intro a fr
    refine dr_take 8 rfl (by kernel_rfl) (by kernel_rfl) (by kernel_rfl) (fun _ _ _ h => h) fr rfl (st.sub (.cons_cons _ (.cons_cons _ (.cons_cons _ (.cons_cons _ (.cons_cons _ (.cons _ (.cons_cons _ .slnil)))))))) (fun w st => rn_assign (fr.ev rfl)) rfl rfl ?_
    intro a fr
    refine dr_done (by kernel_rfl) ?_
    refine then_n ?_
    refine wp_ret ?_
    refine ret3 Try.results13 fr (rv_row (cs := [.int .i64 ((k : Nat)), .int .i64 ((bs[k].toNat : Nat)), .int .i64 ((k : Nat) + sx16 ((bs[k + 1].toNat) * 256 + (bs[k + 2].toNat))), .int .i64 0]) fr rfl Try.underlying29 rfl (by first | exact sz_29 | simpa using sz_29) (st.blkrange 5 rfl 0 rfl)) (rv_tmp fr rfl) (rv_tmp fr rfl) ?_
    exact ⟨by simp [okA, okB, behF, insC, ub_eq hk, ub_eq hk1, ub_eq hk2, Nat.mul_comm 256], st.agr⟩
  · have hs2 : k + 1 + 2 ≤ bs.length := hs
    have hk1 : k + 1 < bs.length := by omega
    have hk2 : k + 2 < bs.length := by omega
    refine enter Try.func13 rfl Try.ntmps13 (by simp) ?_
    intro a fr
    refine wp_seq ?_
    refine reg ?_
    refine lst rfl (ow_alloc fr st rfl zv_29 rfl rfl _ (by rfl) ?_)
    intro a w b1 fr st
    refine lst rfl (ow_v fr (rn_assign (fr.ev rfl)) rfl rfl ?_)
    intro a fr
    refine lst rfl (ow_v fr (rn_assign (fr.ev rfl)) rfl rfl ?_)
    intro a fr
    refine wpList_nil ?_
    refine then_n ?_
    refine wp_seq ?_
    refine wp_seq ?_
    refine reg ?_
    refine lst rfl (ow_v fr (rn_move (fr.ev rfl)) rfl rfl ?_)
    intro a fr
    refine lst rfl (ow_v fr (rn_as (v' := .bool false) (rn_lss (fr.ev rfl) (fr.ev rfl)) (congrArg Value.bool (decide_eq_false (by omega)))) rfl rfl ?_)
    intro a fr
    refine lst rfl (ow_v fr (rn_move (fr.ev rfl)) rfl rfl ?_)
    intro a fr
    refine lst_y (wanted_of fr rfl rfl rfl rfl) (ow_v fr (rn_move (fr.ev rfl)) rfl rfl ?_)
    intro a fr
    refine lst_y (wanted_of fr rfl rfl rfl rfl) (ow_v fr (rn_move (fr.ev rfl)) rfl rfl ?_)
    intro a fr
    refine lst_y (wanted_of fr rfl rfl rfl rfl) (ow_v fr (rn_len (fr.ev rfl) Try.underlying22) rfl rfl ?_)
    intro a fr
    refine lst_y (wanted_of fr rfl rfl rfl rfl) (ow_v fr (rn_as (v' := .bool false) (rn_geq (fr.ev rfl) (fr.ev rfl)) (congrArg Value.bool (decide_eq_false (by omega)))) rfl rfl ?_)
    intro a fr
    refine lst rfl (ow_v fr (rn_pick_f (fr.ev rfl) (fr.ev rfl)) rfl rfl ?_)
    intro a fr
    refine wpList_nil ?_
    refine then_n ?_
    refine cond_f fr rfl rfl ?_
    refine wp_skip ?_
    refine then_n ?_
    refine wp_seq ?_
    refine reg ?_
    refine lst rfl (ow_v fr (rn_move (fr.ev rfl)) rfl rfl ?_)
    intro a fr
    refine lst rfl (ow_v fr (rn_move (fr.ev rfl)) rfl rfl ?_)
    intro a fr
    have hb3 := u8lt (bs[k]'(by omega))
    obtain ⟨b2, o3, eA, st_⟩ := st.elem 1 rfl k (by omega) (by simp [C8])
    have fr_ := fr
    cases eA
    have st := st_
    have fr := fr_
    clear st_ fr_
    replace st : St _ [] w [ro b2 (o3 + k * 1) [.int .u8 ((bs[k].toNat : Nat))], .blk b1 [.int .i64 0, .int .i64 0, .int .i64 0, .int .i64 0] 29, els C8 1 (some ⟨b2, o3, none⟩) bs] := st
    refine lst rfl (ow_v fr (rn_at (i := k) (fr.ev rfl) (fr.ev rfl) Try.underlying22 sz_5 (by omega) (by rfl)) rfl rfl ?_)
    intro a fr
    refine lst rfl (ow_v fr (rn_load (fr.ev rfl) Try.underlying5 rfl (st.rocell 0 rfl (j := 0) rfl)) rfl rfl ?_)
    intro a fr
    refine lst rfl (ow_v fr (rn_conv (c := (bs[k].toNat : Nat)) (fr.ev rfl) (by kernel_rfl) Try.underlying3 (wr_i64 _ (by omega) (by omega))) rfl rfl ?_)
    intro a fr
    refine lst rfl (ow_v fr (rn_assign (fr.ev rfl)) rfl rfl ?_)
    intro a fr
    refine wpList_nil ?_
    refine then_n ?_
    refine wp_seq ?_
    refine reg ?_
    refine lst rfl (ow_v fr (rn_move (fr.ev rfl)) rfl rfl ?_)
    intro a fr
    refine lst rfl (ow_call fr rfl rfl Try.call19 (form_t _ h _) rfl rfl ?_)
    rintro e w ⟨rfl, hag⟩
    refine ⟨_, rfl, ?_⟩
    intro a fr
    have st := st.keep hag
    clear hag
    refine lst rfl (ow_v fr (rn_move (fr.ev rfl)) rfl rfl ?_)
    intro a fr
    refine lst rfl (ow_v fr (rn_extract (fr.ev rfl) rfl) rfl rfl ?_)
    intro a fr
    refine lst rfl (ow_v fr (rn_extract (fr.ev rfl) rfl) rfl rfl ?_)
    intro a fr
    refine lst rfl (ow_v fr (rn_assign (fr.ev rfl)) rfl rfl ?_)
    intro a fr
    refine lst rfl (ow_v fr (rn_assign (fr.ev rfl)) rfl rfl ?_)
    intro a fr
    refine wpList_nil ?_
    refine then_n ?_
    refine wp_seq ?_
    refine wp_seq ?_
    refine reg ?_
    refine lst rfl (ow_v fr (rn_move (fr.ev rfl)) rfl rfl ?_)
    intro a fr
    refine lst rfl (ow_v fr (rn_not (fr.ev rfl)) rfl rfl ?_)
    intro a fr
    refine wpList_nil ?_
    refine then_n ?_
    refine cond_f fr rfl rfl ?_
    refine wp_skip ?_
    refine then_n ?_
    refine wp_seq ?_
    refine reg ?_
    refine lst rfl (ow_v fr (rn_move (fr.ev rfl)) rfl rfl ?_)
    intro a fr
    refine lst rfl (ow_v fr (rn_move (fr.ev rfl)) rfl rfl ?_)
    intro a fr
    refine lst rfl (ow_v fr (rn_add (a := (k : Nat)) (b := 1) (c := ((k + 1 : Nat) : Int)) (fr.ev rfl) (fr.ev rfl) (wr_i64e (by omega) (by omega) (by omega))) rfl rfl ?_)
    intro a fr
    refine lst rfl (ow_v fr (rn_from (lo := k + 1) (fr.ev rfl) (fr.ev rfl) Try.underlying22 sz_5 (by omega)) rfl rfl ?_)
    intro a fr
    have st := st.cutFrom (m := bc) (lo := k + 1) 2 rfl (by decide) (fun _ => rfl) (by omega)
    obtain ⟨A4, hA_A4⟩ : ∃ A2, cutA (some ⟨b2, o3, none⟩) bc (k + 1) 1 = A2 := ⟨_, rfl⟩
    obtain ⟨ms5, hms6⟩ : ∃ ms, (bs.drop (k + 1)) = ms := ⟨_, rfl⟩
    have hl_ms5 : ms5.length = bs.length - (k + 1) := by rw [← hms6]; simp; try omega
    rw [hA_A4] at st fr
    rw [hms6] at st
    obtain ⟨cc7, hc_cc7⟩ : ∃ c, bc - (k + 1) = c := ⟨_, rfl⟩
    rw [hc_cc7, ← hl_ms5] at fr
    clear hA_A4
    have hce_cc7 : ms5.length ≤ cc7 := by have hq_ : bs.length ≤ bc := (by omega); omega
    refine lst rfl (ow_v fr (rn_assign (fr.ev rfl)) rfl rfl ?_)
    intro a fr
    refine wpList_nil ?_
    refine then_n ?_
    refine wp_seq ?_
    refine wp_seq ?_
    refine reg ?_
    refine lst rfl (ow_v fr (rn_move (fr.ev rfl)) rfl rfl ?_)
    intro a fr
    refine lst rfl (ow_v fr (rn_len (fr.ev rfl) Try.underlying22) rfl rfl ?_)
    intro a fr
    refine lst rfl (ow_v fr (rn_move (fr.ev rfl)) rfl rfl ?_)
    intro a fr
    refine lst rfl (ow_call fr rfl rfl Try.call43 (rest_lit 7 2 (by simp [Rng]) (by decide) _) rfl rfl ?_)
    rintro e w ⟨rfl, hag⟩
    refine ⟨_, rfl, ?_⟩
    intro a fr
    have st := st.keep hag
    clear hag
    refine lst rfl (ow_v fr (rn_as (v' := .bool false) (rn_lss (fr.ev rfl) (fr.ev rfl)) (congrArg Value.bool (decide_eq_false (by omega)))) rfl rfl ?_)
    intro a fr
    refine wpList_nil ?_
    refine then_n ?_
    refine cond_f fr rfl rfl ?_
    refine wp_skip ?_
    refine then_n ?_
    refine wp_seq ?_
    refine reg ?_
    refine lst rfl (ow_v fr (rn_move (fr.ev rfl)) rfl rfl ?_)
    intro a fr
    refine lst rfl (ow_v fr (rn_move (fr.ev rfl)) rfl rfl ?_)
    intro a fr
    refine lst rfl (ow_v fr (rn_build (cells := #[.int .i64 ((k : Nat)), .int .i64 ((bs[k].toNat : Nat)), .int .i64 0, .int .i64 0]) (by simp only [List.map_toArray, List.map_cons, List.map_nil]; rw [fr.ev (x := .tmp 44) rfl, fr.ev (x := .tmp 45) rfl]; rfl)) rfl rfl ?_)
    intro a fr
    refine lst rfl (ow_alloc fr st rfl zv_29 rfl rfl _ (by rfl) ?_)
    intro a w b8 fr st
    refine lst rfl (ow_stN fr st 0 (vs := [.int .i64 ((k : Nat)), .int .i64 ((bs[k].toNat : Nat)), .int .i64 0, .int .i64 0]) rfl rfl rfl rfl sz_29 rfl (Nat.le_of_ble_eq_true rfl) rfl ?_)
    intro w (st : St _ [] w [.blk b8 [.int .i64 ((k : Nat)), .int .i64 ((bs[k].toNat : Nat)), .int .i64 0, .int .i64 0] 29, els C8 1 A4 ms5, ro b2 (o3 + k * 1) [.int .u8 ((bs[k].toNat : Nat))], .blk b1 [.int .i64 0, .int .i64 0, .int .i64 0, .int .i64 0] 29, els C8 1 (some ⟨b2, o3, none⟩) bs])
    refine wpList_nil ?_
    refine then_n ?_
    refine wp_seq ?_
    refine wp_seq ?_
    refine reg ?_
    refine lst rfl (ow_v fr (rn_move (fr.ev rfl)) rfl rfl ?_)
    intro a fr
    refine wpList_nil ?_
    refine then_n ?_
    refine wp_block ?_
    refine wp_seq ?_
    refine wp_seq ?_
    refine reg ?_
    refine lst rfl (ow_v fr (rn_as (rn_eql (fr.ev rfl) (fr.ev rfl)) (by rfl)) rfl rfl ?_)
    intro a fr
    refine lst rfl (ow_v fr (rn_assign (fr.ev rfl)) rfl rfl ?_)
    intro a fr
    refine wpList_nil ?_
    refine then_n ?_
    refine cond_f fr rfl rfl ?_
    refine reg ?_
    refine lst rfl (ow_v fr (rn_as (rn_eql (fr.ev rfl) (fr.ev rfl)) (by rfl)) rfl rfl ?_)
    intro a fr
    refine lst rfl (ow_v fr (rn_assign (fr.ev rfl)) rfl rfl ?_)
    intro a fr
    refine wpList_nil ?_
    refine then_n ?_
    refine cond_f fr rfl rfl ?_
    refine wp_seq ?_
    refine reg ?_
    refine lst rfl (ow_v fr (rn_as (rn_eql (fr.ev rfl) (fr.ev rfl)) (by rfl)) rfl rfl ?_)
    intro a fr
    refine lst rfl (ow_v fr (rn_assign (fr.ev rfl)) rfl rfl ?_)
    intro a fr
    refine wpList_nil ?_
    refine then_n ?_
    refine cond_f fr rfl rfl ?_
    refine wp_seq ?_
    refine reg ?_
    refine lst rfl (ow_v fr (rn_as (rn_eql (fr.ev rfl) (fr.ev rfl)) (by rfl)) rfl rfl ?_)
    intro a fr
    refine lst rfl (ow_v fr (rn_assign (fr.ev rfl)) rfl rfl ?_)
    intro a fr
    refine wpList_nil ?_
    refine then_n ?_
    refine cond_f fr rfl rfl ?_
    refine wp_seq ?_
    refine reg ?_
    refine lst rfl (ow_v fr (rn_as (rn_eql (fr.ev rfl) (fr.ev rfl)) (by rfl)) rfl rfl ?_)
    intro a fr
    refine lst rfl (ow_v fr (rn_assign (fr.ev rfl)) rfl rfl ?_)
    intro a fr
    refine wpList_nil ?_
    refine then_n ?_
    refine cond_f fr rfl rfl ?_
    refine wp_seq ?_
    refine reg ?_
    refine lst rfl (ow_v fr (rn_as (rn_eql (fr.ev rfl) (fr.ev rfl)) (by rfl)) rfl rfl ?_)
    intro a fr
    refine lst rfl (ow_v fr (rn_assign (fr.ev rfl)) rfl rfl ?_)
    intro a fr
    refine wpList_nil ?_
    refine then_n ?_
    refine cond_f fr rfl rfl ?_
    refine wp_seq ?_
    refine reg ?_
    refine lst rfl (ow_v fr (rn_as (rn_eql (fr.ev rfl) (fr.ev rfl)) (by rfl)) rfl rfl ?_)
    intro a fr
    refine lst rfl (ow_v fr (rn_assign (fr.ev rfl)) rfl rfl ?_)
    intro a fr
    refine wpList_nil ?_
    refine then_n ?_
    refine cond_t fr rfl rfl ?_
    have hb10 := u8lt (bs[k + 1]'(by omega))
    obtain ⟨b9, o10, eA, st_⟩ := st.elem 1 rfl 0 (by omega) (by simp [C8])
    have fr_ := fr
    cases eA
    have st := st_
    have fr := fr_
    clear st_ fr_
    rw [drop_get hms6 (m := k + 1) (by omega) (by omega) (by omega)] at st
    replace st : St _ [] w [ro b9 (o10 + 0 * 1) [.int .u8 ((bs[k + 1].toNat : Nat))], .blk b8 [.int .i64 ((k : Nat)), .int .i64 ((bs[k].toNat : Nat)), .int .i64 0, .int .i64 0] 29, els C8 1 (some ⟨b9, o10, none⟩) ms5, ro b2 (o3 + k * 1) [.int .u8 ((bs[k].toNat : Nat))], .blk b1 [.int .i64 0, .int .i64 0, .int .i64 0, .int .i64 0] 29, els C8 1 (some ⟨b2, o3, none⟩) bs] := st
    have hb12 := u8lt (bs[k + 2]'(by omega))
    have st := (st.elem 2 rfl 1 (by omega) (by simp [C8]))
    obtain ⟨b_, o_, eA, st_⟩ := st
    have fr_ := fr
    cases eA
    have st := st_
    have fr := fr_
    clear st_ fr_
    rw [drop_get hms6 (m := k + 2) (by omega) (by omega) (by omega)] at st
    replace st : St _ [] w [ro b9 (o10 + 1 * 1) [.int .u8 ((bs[k + 2].toNat : Nat))], ro b9 (o10 + 0 * 1) [.int .u8 ((bs[k + 1].toNat : Nat))], .blk b8 [.int .i64 ((k : Nat)), .int .i64 ((bs[k].toNat : Nat)), .int .i64 0, .int .i64 0] 29, els C8 1 (some ⟨b9, o10, none⟩) ms5, ro b2 (o3 + k * 1) [.int .u8 ((bs[k].toNat : Nat))], .blk b1 [.int .i64 0, .int .i64 0, .int .i64 0, .int .i64 0] 29, els C8 1 (some ⟨b2, o3, none⟩) bs] := st
    refine dr_start (by kernel_rfl) st (.cons_cons _ (.cons_cons _ (.cons _ (.cons_cons _ (.cons_cons _ (.cons_cons _ (.cons_cons _ .slnil))))))) ?_
    intro w st
    refine dr_take 0 rfl (by kernel_rfl) (by kernel_rfl) (by kernel_rfl) (fun _ _ _ h => h) fr rfl (st.sub (.cons_cons _ (.cons_cons _ (.cons _ (.cons_cons _ (.cons_cons _ (.cons_cons _ (.cons_cons _ .slnil)))))))) (fun w st => rn_move (fr.ev rfl)) rfl rfl ?_
    intro a fr
    refine dr_take 1 rfl (by kernel_rfl) (by kernel_rfl) (by kernel_rfl) (fun _ _ _ h => h) fr rfl (st.sub (.cons_cons _ (.cons_cons _ (.cons _ (.cons_cons _ (.cons_cons _ (.cons_cons _ (.cons_cons _ .slnil)))))))) (fun w st => rn_at (i := 0) (fr.ev rfl) (fr.ev rfl) Try.underlying22 sz_5 (by omega) (by rfl)) rfl rfl ?_
    intro a fr
    refine dr_take 2 rfl (by kernel_rfl) (by kernel_rfl) (by kernel_rfl) (fun _ _ _ h => h) fr rfl (st.sub (.cons_cons _ (.cons_cons _ (.cons _ (.cons_cons _ (.cons_cons _ (.cons_cons _ (.cons_cons _ .slnil)))))))) (fun w st => rn_load (fr.ev rfl) Try.underlying5 rfl (st.rocell 1 rfl (j := 0) rfl)) rfl rfl ?_
    intro a fr
    refine dr_take 3 rfl (by kernel_rfl) (by kernel_rfl) (by kernel_rfl) (fun _ _ _ h => h) fr rfl (st.sub (.cons_cons _ (.cons_cons _ (.cons _ (.cons_cons _ (.cons_cons _ (.cons_cons _ (.cons_cons _ .slnil)))))))) (fun w st => rn_conv (c := (bs[k + 1].toNat : Nat)) (fr.ev rfl) (by kernel_rfl) Try.underlying3 (wr_i64 _ (by omega) (by omega))) rfl rfl ?_
    intro a fr
    refine dr_take 4 rfl (by kernel_rfl) (by kernel_rfl) (by kernel_rfl) (fun _ _ _ h => h) fr rfl (st.sub (.cons_cons _ (.cons_cons _ (.cons _ (.cons_cons _ (.cons_cons _ (.cons_cons _ (.cons_cons _ .slnil)))))))) (fun w st => rn_move (fr.ev rfl)) rfl rfl ?_
    intro a fr
    refine dr_take 5 rfl (by kernel_rfl) (by kernel_rfl) (by kernel_rfl) (fun _ _ _ h => h) fr rfl (st.sub (.cons_cons _ (.cons_cons _ (.cons _ (.cons_cons _ (.cons_cons _ (.cons_cons _ (.cons_cons _ .slnil)))))))) (fun w st => rn_at (i := 1) (fr.ev rfl) (fr.ev rfl) Try.underlying22 sz_5 (by omega) (by rfl)) rfl rfl ?_
    intro a fr
    refine dr_take 6 rfl (by kernel_rfl) (by kernel_rfl) (by kernel_rfl) (fun _ _ _ h => h) fr rfl (st.sub (.cons_cons _ (.cons_cons _ (.cons _ (.cons_cons _ (.cons_cons _ (.cons_cons _ (.cons_cons _ .slnil)))))))) (fun w st => rn_load (fr.ev rfl) Try.underlying5 rfl (st.rocell 0 rfl (j := 0) rfl)) rfl rfl ?_
    intro a fr
    refine dr_take 7 rfl (by kernel_rfl) (by kernel_rfl) (by kernel_rfl) (fun _ _ _ h => h) fr rfl (st.sub (.cons_cons _ (.cons_cons _ (.cons _ (.cons_cons _ (.cons_cons _ (.cons_cons _ (.cons_cons _ .slnil)))))))) (fun w st => rn_conv (c := sx8 (bs[k + 2].toNat)) (fr.ev rfl) (by kernel_rfl) Try.underlying64 (wr_i8 (bs[k + 2].toNat) (by omega))) rfl rfl ?_
    intro a fr
    refine dr_take 8 rfl (by kernel_rfl) (by kernel_rfl) (by kernel_rfl) (fun _ _ _ h => h) fr rfl (st.sub (.cons_cons _ (.cons_cons _ (.cons _ (.cons_cons _ (.cons_cons _ (.cons_cons _ (.cons_cons _ .slnil)))))))) (fun w st => rn_conv (c := sx8 (bs[k + 2].toNat)) (fr.ev rfl) (by kernel_rfl) Try.underlying3 (wr_i64 _ (by have := sx8_rng (bs[k + 2].toNat) (by omega); omega) (by have := sx8_rng (bs[k + 2].toNat) (by omega); omega))) rfl rfl ?_
    intro a fr
    refine dr_take 9 rfl (by kernel_rfl) (by kernel_rfl) (by kernel_rfl) (fun _ _ _ h => h) fr rfl (st.sub (.cons_cons _ (.cons_cons _ (.cons _ (.cons_cons _ (.cons_cons _ (.cons_cons _ (.cons_cons _ .slnil)))))))) (fun w st => fa_29_2 (fr.ev rfl)) rfl rfl ?_
    intro a fr
    refine dr_one 10 (by kernel_rfl) rfl rfl (ow_st fr st 2 rfl rfl rfl rfl sz_3 rfl rfl rfl ?_)
    intro w (st : St _ [] w [ro b9 (o10 + 1 * 1) [.int .u8 ((bs[k + 2].toNat : Nat))], ro b9 (o10 + 0 * 1) [.int .u8 ((bs[k + 1].toNat : Nat))], .blk b8 [.int .i64 ((k : Nat)), .int .i64 ((bs[k].toNat : Nat)), .int .i64 ((bs[k + 1].toNat : Nat)), .int .i64 0] 29, els C8 1 (some ⟨b9, o10, none⟩) ms5, ro b2 (o3 + k * 1) [.int .u8 ((bs[k].toNat : Nat))], .blk b1 [.int .i64 0, .int .i64 0, .int .i64 0, .int .i64 0] 29, els C8 1 (some ⟨b2, o3, none⟩) bs])
    refine ⟨st.sub (.cons_cons _ (.cons_cons _ (.cons _ (.cons_cons _ (.cons_cons _ (.cons_cons _ (.cons_cons _ .slnil))))))), ?_⟩
    refine dr_take 11 rfl (by kernel_rfl) (by kernel_rfl) (by kernel_rfl) (fun _ _ _ h => h) fr rfl (st.sub (.cons_cons _ (.cons_cons _ (.cons _ (.cons_cons _ (.cons_cons _ (.cons_cons _ (.cons_cons _ .slnil)))))))) (fun w st => fa_29_3 (fr.ev rfl)) rfl rfl ?_
    intro a fr
    refine dr_one 12 (by kernel_rfl) rfl rfl (ow_st fr st 2 rfl rfl rfl rfl sz_3 rfl rfl rfl ?_)
    intro w (st : St _ [] w [ro b9 (o10 + 1 * 1) [.int .u8 ((bs[k + 2].toNat : Nat))], ro b9 (o10 + 0 * 1) [.int .u8 ((bs[k + 1].toNat : Nat))], .blk b8 [.int .i64 ((k : Nat)), .int .i64 ((bs[k].toNat : Nat)), .int .i64 ((bs[k + 1].toNat : Nat)), .int .i64 (sx8 (bs[k + 2].toNat))] 29, els C8 1 (some ⟨b9, o10, none⟩) ms5, ro b2 (o3 + k * 1) [.int .u8 ((bs[k].toNat : Nat))], .blk b1 [.int .i64 0, .int .i64 0, .int .i64 0, .int .i64 0] 29, els C8 1 (some ⟨b2, o3, none⟩) bs])
    refine ⟨st.sub (.cons_cons _ (.cons_cons _ (.cons _ (.cons_cons _ (.cons_cons _ (.cons_cons _ (.cons_cons _ .slnil))))))), ?_⟩
    refine dr_done (by kernel_rfl) ?_
    refine blk_n ?_
    refine then_n ?_
    refine wp_seq ?_
    refine dr_start (by kernel_rfl) st (.cons_cons _ (.cons_cons _ (.cons_cons _ (.cons_cons _ (.cons_cons _ (.cons _ (.cons_cons _ .slnil))))))) ?_
    intro w st
    refine dr_take 0 rfl (by kernel_rfl) (by kernel_rfl) (by kernel_rfl) (fun _ _ _ h => h) fr rfl (st.sub (.cons_cons _ (.cons_cons _ (.cons_cons _ (.cons_cons _ (.cons_cons _ (.cons _ (.cons_cons _ .slnil)))))))) (fun w st => rn_loadN (cs := [.int .i64 ((k : Nat)), .int .i64 ((bs[k].toNat : Nat)), .int .i64 ((bs[k + 1].toNat : Nat)), .int .i64 (sx8 (bs[k + 2].toNat))]) (fr.ev rfl) Try.underlying29 rfl sz_29 (st.blkrange 2 rfl 0 rfl)) rfl rfl ?_
    intro a fr
    refine dr_take 1 rfl (by kernel_rfl) (by kernel_rfl) (by kernel_rfl) (fun _ _ _ h => h) fr rfl (st.sub (.cons_cons _ (.cons_cons _ (.cons_cons _ (.cons_cons _ (.cons_cons _ (.cons _ (.cons_cons _ .slnil)))))))) (fun w st => rn_move (fr.ev rfl)) rfl rfl ?_
    intro a fr
    refine dr_take 2 rfl (by kernel_rfl) (by kernel_rfl) (by kernel_rfl) (fun _ _ _ h => h) fr rfl (st.sub (.cons_cons _ (.cons_cons _ (.cons_cons _ (.cons_cons _ (.cons_cons _ (.cons _ (.cons_cons _ .slnil)))))))) (fun w st => rn_add (a := (k : Nat)) (b := 1) (c := ((k + 1 : Nat) : Int)) (fr.ev rfl) (fr.ev rfl) (wr_i64e (by omega) (by omega) (by omega))) rfl rfl ?_
    intro a fr
    refine dr_take 3 rfl (by kernel_rfl) (by kernel_rfl) (by kernel_rfl) (fun _ _ _ h => h) fr rfl (st.sub (.cons_cons _ (.cons_cons _ (.cons_cons _ (.cons_cons _ (.cons_cons _ (.cons _ (.cons_cons _ .slnil)))))))) (fun w st => rn_move (fr.ev rfl)) rfl rfl ?_
    intro a fr
    refine dr_one 4 (by kernel_rfl) rfl rfl (ow_call fr rfl rfl Try.call43 (rest_lit 7 2 (by simp [Rng]) (by decide) _) rfl rfl ?_)
    rintro e w ⟨rfl, hag⟩
    refine ⟨_, rfl, ?_⟩
    intro a fr
    have st := st.keep hag
    clear hag
    refine ⟨st.sub (.cons_cons _ (.cons_cons _ (.cons_cons _ (.cons_cons _ (.cons_cons _ (.cons _ (.cons_cons _ .slnil))))))), ?_⟩
    refine dr_take 5 rfl (by kernel_rfl) (by kernel_rfl) (by kernel_rfl) (fun _ _ _ h => h) fr rfl (st.sub (.cons_cons _ (.cons_cons _ (.cons_cons _ (.cons_cons _ (.cons_cons _ (.cons _ (.cons_cons _ .slnil)))))))) (fun w st => rn_add (a := ((k + 1 : Nat) : Int)) (b := 2) (c := ((k + 1 + 2 : Nat) : Int)) (fr.ev rfl) (fr.ev rfl) (wr_i64e (by omega) (by omega) (by omega))) rfl rfl ?_
    intro a fr
    refine dr_one 6 (by kernel_rfl) rfl rfl (ow_stN fr st 5 (vs := [.int .i64 ((k : Nat)), .int .i64 ((bs[k].toNat : Nat)), .int .i64 ((bs[k + 1].toNat : Nat)), .int .i64 (sx8 (bs[k + 2].toNat))]) rfl rfl rfl rfl sz_29 rfl (Nat.le_of_ble_eq_true rfl) rfl ?_)
    intro w (st : St _ [] w [ro b9 (o10 + 1 * 1) [.int .u8 ((bs[k + 2].toNat : Nat))], ro b9 (o10 + 0 * 1) [.int .u8 ((bs[k + 1].toNat : Nat))], .blk b8 [.int .i64 ((k : Nat)), .int .i64 ((bs[k].toNat : Nat)), .int .i64 ((bs[k + 1].toNat : Nat)), .int .i64 (sx8 (bs[k + 2].toNat))] 29, els C8 1 (some ⟨b9, o10, none⟩) ms5, ro b2 (o3 + k * 1) [.int .u8 ((bs[k].toNat : Nat))], .blk b1 [.int .i64 ((k : Nat)), .int .i64 ((bs[k].toNat : Nat)), .int .i64 ((bs[k + 1].toNat : Nat)), .int .i64 (sx8 (bs[k + 2].toNat))] 29, els C8 1 (some ⟨b2, o3, none⟩) bs])
    refine ⟨st.sub (.cons_cons _ (.cons_cons _ (.cons_cons _ (.cons_cons _ (.cons_cons _ (.cons _ (.cons_cons _ .slnil))))))), ?_⟩
    refine dr_take 7 rfl (by kernel_rfl) (by kernel_rfl) (by kernel_rfl) (fun _ _ _ h => h) fr rfl (st.sub (.cons_cons _ (.cons_cons _ (.cons_cons _ (.cons_cons _ (.cons_cons _ (.cons _ (.cons_cons _ .slnil)))))))) (fun w st => rn_assign (fr.ev rfl)) rfl rfl ?_
    intro a fr
    refine dr_take 8 rfl (by kernel_rfl) (by kernel_rfl) (by kernel_rfl) (fun _ _ _ h => h) fr rfl (st.sub (.cons_cons _ (.cons_cons _ (.cons_cons _ (.cons_cons _ (.cons_cons _ (.cons _ (.cons_cons _ .slnil)))))))) (fun w st => rn_assign (fr.ev rfl)) rfl rfl ?_
    intro a fr
    refine dr_done (by kernel_rfl) ?_
    refine then_n ?_
    refine wp_ret ?_
    refine ret3 Try.results13 fr (rv_row (cs := [.int .i64 ((k : Nat)), .int .i64 ((bs[k].toNat : Nat)), .int .i64 ((bs[k + 1].toNat : Nat)), .int .i64 (sx8 (bs[k + 2].toNat))]) fr rfl Try.underlying29 rfl (by first | exact sz_29 | simpa using sz_29) (st.blkrange 5 rfl 0 rfl)) (rv_tmp fr rfl) (rv_tmp fr rfl) ?_
    exact ⟨by simp [okA, okB, behF, insC, ub_eq hk, ub_eq hk1, ub_eq hk2, Nat.mul_comm 256], st.agr⟩
  · have hs2 : k + 1 + 1 ≤ bs.length := hs
    have hk1 : k + 1 < bs.length := by omega
    have hu := ub_eq hk1
    rcases (by omega : bs[k + 1].toNat = 10 ∨ bs[k + 1].toNat = 11) with h10 | h11
    · refine enter Try.func13 rfl Try.ntmps13 (by simp) ?_
      intro a fr
      refine wp_seq ?_
      refine reg ?_
      refine lst rfl (ow_alloc fr st rfl zv_29 rfl rfl _ (by rfl) ?_)
      intro a w b1 fr st
      refine lst rfl (ow_v fr (rn_assign (fr.ev rfl)) rfl rfl ?_)
      intro a fr
      refine lst rfl (ow_v fr (rn_assign (fr.ev rfl)) rfl rfl ?_)
      intro a fr
      refine wpList_nil ?_
      refine then_n ?_
      refine wp_seq ?_
      refine wp_seq ?_
      refine reg ?_
      refine lst rfl (ow_v fr (rn_move (fr.ev rfl)) rfl rfl ?_)
      intro a fr
      refine lst rfl (ow_v fr (rn_as (v' := .bool false) (rn_lss (fr.ev rfl) (fr.ev rfl)) (congrArg Value.bool (decide_eq_false (by omega)))) rfl rfl ?_)
      intro a fr
      refine lst rfl (ow_v fr (rn_move (fr.ev rfl)) rfl rfl ?_)
      intro a fr
      refine lst_y (wanted_of fr rfl rfl rfl rfl) (ow_v fr (rn_move (fr.ev rfl)) rfl rfl ?_)
      intro a fr
      refine lst_y (wanted_of fr rfl rfl rfl rfl) (ow_v fr (rn_move (fr.ev rfl)) rfl rfl ?_)
      intro a fr
      refine lst_y (wanted_of fr rfl rfl rfl rfl) (ow_v fr (rn_len (fr.ev rfl) Try.underlying22) rfl rfl ?_)
      intro a fr
      refine lst_y (wanted_of fr rfl rfl rfl rfl) (ow_v fr (rn_as (v' := .bool false) (rn_geq (fr.ev rfl) (fr.ev rfl)) (congrArg Value.bool (decide_eq_false (by omega)))) rfl rfl ?_)
      intro a fr
      refine lst rfl (ow_v fr (rn_pick_f (fr.ev rfl) (fr.ev rfl)) rfl rfl ?_)
      intro a fr
      refine wpList_nil ?_
      refine then_n ?_
      refine cond_f fr rfl rfl ?_
      refine wp_skip ?_
      refine then_n ?_
      refine wp_seq ?_
      refine reg ?_
      refine lst rfl (ow_v fr (rn_move (fr.ev rfl)) rfl rfl ?_)
      intro a fr
      refine lst rfl (ow_v fr (rn_move (fr.ev rfl)) rfl rfl ?_)
      intro a fr
      have hb3 := u8lt (bs[k]'(by omega))
      obtain ⟨b2, o3, eA, st_⟩ := st.elem 1 rfl k (by omega) (by simp [C8])
      have fr_ := fr
      cases eA
      have st := st_
      have fr := fr_
      clear st_ fr_
      replace st : St _ [] w [ro b2 (o3 + k * 1) [.int .u8 ((bs[k].toNat : Nat))], .blk b1 [.int .i64 0, .int .i64 0, .int .i64 0, .int .i64 0] 29, els C8 1 (some ⟨b2, o3, none⟩) bs] := st
      refine lst rfl (ow_v fr (rn_at (i := k) (fr.ev rfl) (fr.ev rfl) Try.underlying22 sz_5 (by omega) (by rfl)) rfl rfl ?_)
      intro a fr
      refine lst rfl (ow_v fr (rn_load (fr.ev rfl) Try.underlying5 rfl (st.rocell 0 rfl (j := 0) rfl)) rfl rfl ?_)
      intro a fr
      refine lst rfl (ow_v fr (rn_conv (c := (bs[k].toNat : Nat)) (fr.ev rfl) (by kernel_rfl) Try.underlying3 (wr_i64 _ (by omega) (by omega))) rfl rfl ?_)
      intro a fr
      refine lst rfl (ow_v fr (rn_assign (fr.ev rfl)) rfl rfl ?_)
      intro a fr
      refine wpList_nil ?_
      refine then_n ?_
      refine wp_seq ?_
      refine reg ?_
      refine lst rfl (ow_v fr (rn_move (fr.ev rfl)) rfl rfl ?_)
      intro a fr
      refine lst rfl (ow_call fr rfl rfl Try.call19 (form_t _ h _) rfl rfl ?_)
      rintro e w ⟨rfl, hag⟩
      refine ⟨_, rfl, ?_⟩
      intro a fr
      have st := st.keep hag
      clear hag
      refine lst rfl (ow_v fr (rn_move (fr.ev rfl)) rfl rfl ?_)
      intro a fr
      refine lst rfl (ow_v fr (rn_extract (fr.ev rfl) rfl) rfl rfl ?_)
      intro a fr
      refine lst rfl (ow_v fr (rn_extract (fr.ev rfl) rfl) rfl rfl ?_)
      intro a fr
      refine lst rfl (ow_v fr (rn_assign (fr.ev rfl)) rfl rfl ?_)
      intro a fr
      refine lst rfl (ow_v fr (rn_assign (fr.ev rfl)) rfl rfl ?_)
      intro a fr
      refine wpList_nil ?_
      refine then_n ?_
      refine wp_seq ?_
      refine wp_seq ?_
      refine reg ?_
      refine lst rfl (ow_v fr (rn_move (fr.ev rfl)) rfl rfl ?_)
      intro a fr
      refine lst rfl (ow_v fr (rn_not (fr.ev rfl)) rfl rfl ?_)
      intro a fr
      refine wpList_nil ?_
      refine then_n ?_
      refine cond_f fr rfl rfl ?_
      refine wp_skip ?_
      refine then_n ?_
      refine wp_seq ?_
      refine reg ?_
      refine lst rfl (ow_v fr (rn_move (fr.ev rfl)) rfl rfl ?_)
      intro a fr
      refine lst rfl (ow_v fr (rn_move (fr.ev rfl)) rfl rfl ?_)
      intro a fr
      refine lst rfl (ow_v fr (rn_add (a := (k : Nat)) (b := 1) (c := ((k + 1 : Nat) : Int)) (fr.ev rfl) (fr.ev rfl) (wr_i64e (by omega) (by omega) (by omega))) rfl rfl ?_)
      intro a fr
      refine lst rfl (ow_v fr (rn_from (lo := k + 1) (fr.ev rfl) (fr.ev rfl) Try.underlying22 sz_5 (by omega)) rfl rfl ?_)
      intro a fr
      have st := st.cutFrom (m := bc) (lo := k + 1) 2 rfl (by decide) (fun _ => rfl) (by omega)
      obtain ⟨A4, hA_A4⟩ : ∃ A2, cutA (some ⟨b2, o3, none⟩) bc (k + 1) 1 = A2 := ⟨_, rfl⟩
      obtain ⟨ms5, hms6⟩ : ∃ ms, (bs.drop (k + 1)) = ms := ⟨_, rfl⟩
      have hl_ms5 : ms5.length = bs.length - (k + 1) := by rw [← hms6]; simp; try omega
      rw [hA_A4] at st fr
      rw [hms6] at st
      obtain ⟨cc7, hc_cc7⟩ : ∃ c, bc - (k + 1) = c := ⟨_, rfl⟩
      rw [hc_cc7, ← hl_ms5] at fr
      clear hA_A4
      have hce_cc7 : ms5.length ≤ cc7 := by have hq_ : bs.length ≤ bc := (by omega); omega
      refine lst rfl (ow_v fr (rn_assign (fr.ev rfl)) rfl rfl ?_)
      intro a fr
      refine wpList_nil ?_
      refine then_n ?_
      refine wp_seq ?_
      refine wp_seq ?_
      refine reg ?_
      refine lst rfl (ow_v fr (rn_move (fr.ev rfl)) rfl rfl ?_)
      intro a fr
      refine lst rfl (ow_v fr (rn_len (fr.ev rfl) Try.underlying22) rfl rfl ?_)
      intro a fr
      refine lst rfl (ow_v fr (rn_move (fr.ev rfl)) rfl rfl ?_)
      intro a fr
      refine lst rfl (ow_call fr rfl rfl Try.call43 (rest_lit 8 1 (by simp [Rng]) (by decide) _) rfl rfl ?_)
      rintro e w ⟨rfl, hag⟩
      refine ⟨_, rfl, ?_⟩
      intro a fr
      have st := st.keep hag
      clear hag
      refine lst rfl (ow_v fr (rn_as (v' := .bool false) (rn_lss (fr.ev rfl) (fr.ev rfl)) (congrArg Value.bool (decide_eq_false (by omega)))) rfl rfl ?_)
      intro a fr
      refine wpList_nil ?_
      refine then_n ?_
      refine cond_f fr rfl rfl ?_
      refine wp_skip ?_
      refine then_n ?_
      refine wp_seq ?_
      refine reg ?_
      refine lst rfl (ow_v fr (rn_move (fr.ev rfl)) rfl rfl ?_)
      intro a fr
      refine lst rfl (ow_v fr (rn_move (fr.ev rfl)) rfl rfl ?_)
      intro a fr
      refine lst rfl (ow_v fr (rn_build (cells := #[.int .i64 ((k : Nat)), .int .i64 ((bs[k].toNat : Nat)), .int .i64 0, .int .i64 0]) (by simp only [List.map_toArray, List.map_cons, List.map_nil]; rw [fr.ev (x := .tmp 44) rfl, fr.ev (x := .tmp 45) rfl]; rfl)) rfl rfl ?_)
      intro a fr
      refine lst rfl (ow_alloc fr st rfl zv_29 rfl rfl _ (by rfl) ?_)
      intro a w b8 fr st
      refine lst rfl (ow_stN fr st 0 (vs := [.int .i64 ((k : Nat)), .int .i64 ((bs[k].toNat : Nat)), .int .i64 0, .int .i64 0]) rfl rfl rfl rfl sz_29 rfl (Nat.le_of_ble_eq_true rfl) rfl ?_)
      intro w (st : St _ [] w [.blk b8 [.int .i64 ((k : Nat)), .int .i64 ((bs[k].toNat : Nat)), .int .i64 0, .int .i64 0] 29, els C8 1 A4 ms5, ro b2 (o3 + k * 1) [.int .u8 ((bs[k].toNat : Nat))], .blk b1 [.int .i64 0, .int .i64 0, .int .i64 0, .int .i64 0] 29, els C8 1 (some ⟨b2, o3, none⟩) bs])
      refine wpList_nil ?_
      refine then_n ?_
      refine wp_seq ?_
      refine wp_seq ?_
      refine reg ?_
      refine lst rfl (ow_v fr (rn_move (fr.ev rfl)) rfl rfl ?_)
      intro a fr
      refine wpList_nil ?_
      refine then_n ?_
      refine wp_block ?_
      refine wp_seq ?_
      refine wp_seq ?_
      refine reg ?_
      refine lst rfl (ow_v fr (rn_as (rn_eql (fr.ev rfl) (fr.ev rfl)) (by rfl)) rfl rfl ?_)
      intro a fr
      refine lst rfl (ow_v fr (rn_assign (fr.ev rfl)) rfl rfl ?_)
      intro a fr
      refine wpList_nil ?_
      refine then_n ?_
      refine cond_f fr rfl rfl ?_
      refine reg ?_
      refine lst rfl (ow_v fr (rn_as (rn_eql (fr.ev rfl) (fr.ev rfl)) (by rfl)) rfl rfl ?_)
      intro a fr
      refine lst rfl (ow_v fr (rn_assign (fr.ev rfl)) rfl rfl ?_)
      intro a fr
      refine wpList_nil ?_
      refine then_n ?_
      refine cond_f fr rfl rfl ?_
      refine wp_seq ?_
      refine reg ?_
      refine lst rfl (ow_v fr (rn_as (rn_eql (fr.ev rfl) (fr.ev rfl)) (by rfl)) rfl rfl ?_)
      intro a fr
      refine lst rfl (ow_v fr (rn_assign (fr.ev rfl)) rfl rfl ?_)
      intro a fr
      refine wpList_nil ?_
      refine then_n ?_
      refine cond_f fr rfl rfl ?_
      refine wp_seq ?_
      refine reg ?_
      refine lst rfl (ow_v fr (rn_as (rn_eql (fr.ev rfl) (fr.ev rfl)) (by rfl)) rfl rfl ?_)
      intro a fr
      refine lst rfl (ow_v fr (rn_assign (fr.ev rfl)) rfl rfl ?_)
      intro a fr
      refine wpList_nil ?_
      refine then_n ?_
      refine cond_f fr rfl rfl ?_
      refine wp_seq ?_
      refine reg ?_
      refine lst rfl (ow_v fr (rn_as (rn_eql (fr.ev rfl) (fr.ev rfl)) (by rfl)) rfl rfl ?_)
      intro a fr
      refine lst rfl (ow_v fr (rn_assign (fr.ev rfl)) rfl rfl ?_)
      intro a fr
      refine wpList_nil ?_
      refine then_n ?_
      refine cond_f fr rfl rfl ?_
      refine wp_seq ?_
      refine reg ?_
      refine lst rfl (ow_v fr (rn_as (rn_eql (fr.ev rfl) (fr.ev rfl)) (by rfl)) rfl rfl ?_)
      intro a fr
      refine lst rfl (ow_v fr (rn_assign (fr.ev rfl)) rfl rfl ?_)
      intro a fr
      refine wpList_nil ?_
      refine then_n ?_
      refine cond_f fr rfl rfl ?_
      refine wp_seq ?_
      refine reg ?_
      refine lst rfl (ow_v fr (rn_as (rn_eql (fr.ev rfl) (fr.ev rfl)) (by rfl)) rfl rfl ?_)
      intro a fr
      refine lst rfl (ow_v fr (rn_assign (fr.ev rfl)) rfl rfl ?_)
      intro a fr
      refine wpList_nil ?_
      refine then_n ?_
      refine cond_f fr rfl rfl ?_
      refine wp_seq ?_
      refine reg ?_
      refine lst rfl (ow_v fr (rn_as (rn_eql (fr.ev rfl) (fr.ev rfl)) (by rfl)) rfl rfl ?_)
      intro a fr
      refine lst rfl (ow_v fr (rn_assign (fr.ev rfl)) rfl rfl ?_)
      intro a fr
      refine wpList_nil ?_
      refine then_n ?_
      refine cond_t fr rfl rfl ?_
      refine wp_seq ?_
      refine reg ?_
      refine lst rfl (ow_v fr (rn_move (fr.ev rfl)) rfl rfl ?_)
      intro a fr
      have hb10 := u8lt (bs[k + 1]'(by omega))
      obtain ⟨b9, o10, eA, st_⟩ := st.elem 1 rfl 0 (by omega) (by simp [C8])
      have fr_ := fr
      cases eA
      have st := st_
      have fr := fr_
      clear st_ fr_
      rw [drop_get hms6 (m := k + 1) (by omega) (by omega) (by omega)] at st
      replace st : St _ [] w [ro b9 (o10 + 0 * 1) [.int .u8 ((bs[k + 1].toNat : Nat))], .blk b8 [.int .i64 ((k : Nat)), .int .i64 ((bs[k].toNat : Nat)), .int .i64 0, .int .i64 0] 29, els C8 1 (some ⟨b9, o10, none⟩) ms5, ro b2 (o3 + k * 1) [.int .u8 ((bs[k].toNat : Nat))], .blk b1 [.int .i64 0, .int .i64 0, .int .i64 0, .int .i64 0] 29, els C8 1 (some ⟨b2, o3, none⟩) bs] := st
      refine lst rfl (ow_v fr (rn_at (i := 0) (fr.ev rfl) (fr.ev rfl) Try.underlying22 sz_5 (by omega) (by rfl)) rfl rfl ?_)
      intro a fr
      refine lst rfl (ow_v fr (rn_load (fr.ev rfl) Try.underlying5 rfl (st.rocell 0 rfl (j := 0) rfl)) rfl rfl ?_)
      intro a fr
      refine lst rfl (ow_v fr (rn_conv (c := (bs[k + 1].toNat : Nat)) (fr.ev rfl) (by kernel_rfl) Try.underlying3 (wr_i64 _ (by omega) (by omega))) rfl rfl ?_)
      intro a fr
      refine lst rfl (ow_v fr (fa_29_2 (fr.ev rfl)) rfl rfl ?_)
      intro a fr
      refine lst rfl (ow_st fr st 1 rfl rfl rfl rfl sz_3 rfl rfl rfl ?_)
      intro w (st : St _ [] w [ro b9 (o10 + 0 * 1) [.int .u8 ((bs[k + 1].toNat : Nat))], .blk b8 [.int .i64 ((k : Nat)), .int .i64 ((bs[k].toNat : Nat)), .int .i64 ((bs[k + 1].toNat : Nat)), .int .i64 0] 29, els C8 1 (some ⟨b9, o10, none⟩) ms5, ro b2 (o3 + k * 1) [.int .u8 ((bs[k].toNat : Nat))], .blk b1 [.int .i64 0, .int .i64 0, .int .i64 0, .int .i64 0] 29, els C8 1 (some ⟨b2, o3, none⟩) bs])
      refine wpList_nil ?_
      refine then_n ?_
      refine wp_seq ?_
      refine reg ?_
      refine lst rfl (ow_v fr (fa_29_2 (fr.ev rfl)) rfl rfl ?_)
      intro a fr
      refine lst rfl (ow_v fr (rn_load (fr.ev rfl) Try.underlying3 rfl (st.cell 1 rfl rfl)) rfl rfl ?_)
      intro a fr
      refine lst rfl (ow_v fr (rn_as (v' := .bool false) (rn_neq (fr.ev rfl) (fr.ev rfl)) (congrArg Value.bool (by simp; omega))) rfl rfl ?_)
      intro a fr
      refine lst rfl (ow_v fr (rn_move (fr.ev rfl)) rfl rfl ?_)
      intro a fr
      refine lst_n (unwanted_of fr rfl rfl rfl rfl) fr rfl rfl ?_
      intro a fr
      refine lst_n (unwanted_of fr rfl rfl rfl rfl) fr rfl rfl ?_
      intro a fr
      refine lst_n (unwanted_of fr rfl rfl rfl rfl) fr rfl rfl ?_
      intro a fr
      refine lst rfl (ow_v fr (rn_pick_f (fr.ev rfl) (fr.ev rfl)) rfl rfl ?_)
      intro a fr
      refine wpList_nil ?_
      refine then_n ?_
      refine cond_f fr rfl rfl ?_
      refine wp_skip ?_
      refine blk_n ?_
      refine then_n ?_
      refine wp_seq ?_
      refine dr_start (by kernel_rfl) st (.cons_cons _ (.cons_cons _ (.cons_cons _ (.cons_cons _ (.cons _ (.cons_cons _ .slnil)))))) ?_
      intro w st
      refine dr_take 0 rfl (by kernel_rfl) (by kernel_rfl) (by kernel_rfl) (fun _ _ _ h => h) fr rfl (st.sub (.cons_cons _ (.cons_cons _ (.cons_cons _ (.cons_cons _ (.cons _ (.cons_cons _ .slnil))))))) (fun w st => rn_loadN (cs := [.int .i64 ((k : Nat)), .int .i64 ((bs[k].toNat : Nat)), .int .i64 ((bs[k + 1].toNat : Nat)), .int .i64 0]) (fr.ev rfl) Try.underlying29 rfl sz_29 (st.blkrange 1 rfl 0 rfl)) rfl rfl ?_
      intro a fr
      refine dr_take 1 rfl (by kernel_rfl) (by kernel_rfl) (by kernel_rfl) (fun _ _ _ h => h) fr rfl (st.sub (.cons_cons _ (.cons_cons _ (.cons_cons _ (.cons_cons _ (.cons _ (.cons_cons _ .slnil))))))) (fun w st => rn_move (fr.ev rfl)) rfl rfl ?_
      intro a fr
      refine dr_take 2 rfl (by kernel_rfl) (by kernel_rfl) (by kernel_rfl) (fun _ _ _ h => h) fr rfl (st.sub (.cons_cons _ (.cons_cons _ (.cons_cons _ (.cons_cons _ (.cons _ (.cons_cons _ .slnil))))))) (fun w st => rn_add (a := (k : Nat)) (b := 1) (c := ((k + 1 : Nat) : Int)) (fr.ev rfl) (fr.ev rfl) (wr_i64e (by omega) (by omega) (by omega))) rfl rfl ?_
      intro a fr
      refine dr_take 3 rfl (by kernel_rfl) (by kernel_rfl) (by kernel_rfl) (fun _ _ _ h => h) fr rfl (st.sub (.cons_cons _ (.cons_cons _ (.cons_cons _ (.cons_cons _ (.cons _ (.cons_cons _ .slnil))))))) (fun w st => rn_move (fr.ev rfl)) rfl rfl ?_
      intro a fr
      refine dr_one 4 (by kernel_rfl) rfl rfl (ow_call fr rfl rfl Try.call43 (rest_lit 8 1 (by simp [Rng]) (by decide) _) rfl rfl ?_)
      rintro e w ⟨rfl, hag⟩
      refine ⟨_, rfl, ?_⟩
      intro a fr
      have st := st.keep hag
      clear hag
      refine ⟨st.sub (.cons_cons _ (.cons_cons _ (.cons_cons _ (.cons_cons _ (.cons _ (.cons_cons _ .slnil)))))), ?_⟩
      refine dr_take 5 rfl (by kernel_rfl) (by kernel_rfl) (by kernel_rfl) (fun _ _ _ h => h) fr rfl (st.sub (.cons_cons _ (.cons_cons _ (.cons_cons _ (.cons_cons _ (.cons _ (.cons_cons _ .slnil))))))) (fun w st => rn_add (a := ((k + 1 : Nat) : Int)) (b := 1) (c := ((k + 1 + 1 : Nat) : Int)) (fr.ev rfl) (fr.ev rfl) (wr_i64e (by omega) (by omega) (by omega))) rfl rfl ?_
      intro a fr
      refine dr_one 6 (by kernel_rfl) rfl rfl (ow_stN fr st 4 (vs := [.int .i64 ((k : Nat)), .int .i64 ((bs[k].toNat : Nat)), .int .i64 ((bs[k + 1].toNat : Nat)), .int .i64 0]) rfl rfl rfl rfl sz_29 rfl (Nat.le_of_ble_eq_true rfl) rfl ?_)
      intro w (st : St _ [] w [ro b9 (o10 + 0 * 1) [.int .u8 ((bs[k + 1].toNat : Nat))], .blk b8 [.int .i64 ((k : Nat)), .int .i64 ((bs[k].toNat : Nat)), .int .i64 ((bs[k + 1].toNat : Nat)), .int .i64 0] 29, els C8 1 (some ⟨b9, o10, none⟩) ms5, ro b2 (o3 + k * 1) [.int .u8 ((bs[k].toNat : Nat))], .blk b1 [.int .i64 ((k : Nat)), .int .i64 ((bs[k].toNat : Nat)), .int .i64 ((bs[k + 1].toNat : Nat)), .int .i64 0] 29, els C8 1 (some ⟨b2, o3, none⟩) bs])
      refine ⟨st.sub (.cons_cons _ (.cons_cons _ (.cons_cons _ (.cons_cons _ (.cons _ (.cons_cons _ .slnil)))))), ?_⟩
      refine dr_take 7 rfl (by kernel_rfl) (by kernel_rfl) (by kernel_rfl) (fun _ _ _ h => h) fr rfl (st.sub (.cons_cons _ (.cons_cons _ (.cons_cons _ (.cons_cons _ (.cons _ (.cons_cons _ .slnil))))))) (fun w st => rn_assign (fr.ev rfl)) rfl rfl ?_
      intro a fr
      refine dr_take 8 rfl (by kernel_rfl) (by kernel_rfl) (by kernel_rfl) (fun _ _ _ h => h) fr rfl (st.sub (.cons_cons _ (.cons_cons _ (.cons_cons _ (.cons_cons _ (.cons _ (.cons_cons _ .slnil))))))) (fun w st => rn_assign (fr.ev rfl)) rfl rfl ?_
      intro a fr
      refine dr_done (by kernel_rfl) ?_
      refine then_n ?_
      refine wp_ret ?_
      refine ret3 Try.results13 fr (rv_row (cs := [.int .i64 ((k : Nat)), .int .i64 ((bs[k].toNat : Nat)), .int .i64 ((bs[k + 1].toNat : Nat)), .int .i64 0]) fr rfl Try.underlying29 rfl (by first | exact sz_29 | simpa using sz_29) (st.blkrange 4 rfl 0 rfl)) (rv_tmp fr rfl) (rv_tmp fr rfl) ?_
      exact ⟨by simp [okA, okB, behF, insC, ub_eq hk, ub_eq hk1, Nat.mul_comm 256], st.agr⟩
    · refine enter Try.func13 rfl Try.ntmps13 (by simp) ?_
      intro a fr
      refine wp_seq ?_
      refine reg ?_
      refine lst rfl (ow_alloc fr st rfl zv_29 rfl rfl _ (by rfl) ?_)
      intro a w b1 fr st
      refine lst rfl (ow_v fr (rn_assign (fr.ev rfl)) rfl rfl ?_)
      intro a fr
      refine lst rfl (ow_v fr (rn_assign (fr.ev rfl)) rfl rfl ?_)
      intro a fr
      refine wpList_nil ?_
      refine then_n ?_
      refine wp_seq ?_
      refine wp_seq ?_
      refine reg ?_
      refine lst rfl (ow_v fr (rn_move (fr.ev rfl)) rfl rfl ?_)
      intro a fr
      refine lst rfl (ow_v fr (rn_as (v' := .bool false) (rn_lss (fr.ev rfl) (fr.ev rfl)) (congrArg Value.bool (decide_eq_false (by omega)))) rfl rfl ?_)
      intro a fr
      refine lst rfl (ow_v fr (rn_move (fr.ev rfl)) rfl rfl ?_)
      intro a fr
      refine lst_y (wanted_of fr rfl rfl rfl rfl) (ow_v fr (rn_move (fr.ev rfl)) rfl rfl ?_)
      intro a fr
      refine lst_y (wanted_of fr rfl rfl rfl rfl) (ow_v fr (rn_move (fr.ev rfl)) rfl rfl ?_)
      intro a fr
      refine lst_y (wanted_of fr rfl rfl rfl rfl) (ow_v fr (rn_len (fr.ev rfl) Try.underlying22) rfl rfl ?_)
      intro a fr
      refine lst_y (wanted_of fr rfl rfl rfl rfl) (ow_v fr (rn_as (v' := .bool false) (rn_geq (fr.ev rfl) (fr.ev rfl)) (congrArg Value.bool (decide_eq_false (by omega)))) rfl rfl ?_)
      intro a fr
      refine lst rfl (ow_v fr (rn_pick_f (fr.ev rfl) (fr.ev rfl)) rfl rfl ?_)
      intro a fr
      refine wpList_nil ?_
      refine then_n ?_
      refine cond_f fr rfl rfl ?_
      refine wp_skip ?_
      refine then_n ?_
      refine wp_seq ?_
      refine reg ?_
      refine lst rfl (ow_v fr (rn_move (fr.ev rfl)) rfl rfl ?_)
      intro a fr
      refine lst rfl (ow_v fr (rn_move (fr.ev rfl)) rfl rfl ?_)
      intro a fr
      have hb3 := u8lt (bs[k]'(by omega))
      obtain ⟨b2, o3, eA, st_⟩ := st.elem 1 rfl k (by omega) (by simp [C8])
      have fr_ := fr
      cases eA
      have st := st_
      have fr := fr_
      clear st_ fr_
      replace st : St _ [] w [ro b2 (o3 + k * 1) [.int .u8 ((bs[k].toNat : Nat))], .blk b1 [.int .i64 0, .int .i64 0, .int .i64 0, .int .i64 0] 29, els C8 1 (some ⟨b2, o3, none⟩) bs] := st
      refine lst rfl (ow_v fr (rn_at (i := k) (fr.ev rfl) (fr.ev rfl) Try.underlying22 sz_5 (by omega) (by rfl)) rfl rfl ?_)
      intro a fr
      refine lst rfl (ow_v fr (rn_load (fr.ev rfl) Try.underlying5 rfl (st.rocell 0 rfl (j := 0) rfl)) rfl rfl ?_)
      intro a fr
      refine lst rfl (ow_v fr (rn_conv (c := (bs[k].toNat : Nat)) (fr.ev rfl) (by kernel_rfl) Try.underlying3 (wr_i64 _ (by omega) (by omega))) rfl rfl ?_)
      intro a fr
      refine lst rfl (ow_v fr (rn_assign (fr.ev rfl)) rfl rfl ?_)
      intro a fr
      refine wpList_nil ?_
      refine then_n ?_
      refine wp_seq ?_
      refine reg ?_
      refine lst rfl (ow_v fr (rn_move (fr.ev rfl)) rfl rfl ?_)
      intro a fr
      refine lst rfl (ow_call fr rfl rfl Try.call19 (form_t _ h _) rfl rfl ?_)
      rintro e w ⟨rfl, hag⟩
      refine ⟨_, rfl, ?_⟩
      intro a fr
      have st := st.keep hag
      clear hag
      refine lst rfl (ow_v fr (rn_move (fr.ev rfl)) rfl rfl ?_)
      intro a fr
      refine lst rfl (ow_v fr (rn_extract (fr.ev rfl) rfl) rfl rfl ?_)
      intro a fr
      refine lst rfl (ow_v fr (rn_extract (fr.ev rfl) rfl) rfl rfl ?_)
      intro a fr
      refine lst rfl (ow_v fr (rn_assign (fr.ev rfl)) rfl rfl ?_)
      intro a fr
      refine lst rfl (ow_v fr (rn_assign (fr.ev rfl)) rfl rfl ?_)
      intro a fr
      refine wpList_nil ?_
      refine then_n ?_
      refine wp_seq ?_
      refine wp_seq ?_
      refine reg ?_
      refine lst rfl (ow_v fr (rn_move (fr.ev rfl)) rfl rfl ?_)
      intro a fr
      refine lst rfl (ow_v fr (rn_not (fr.ev rfl)) rfl rfl ?_)
      intro a fr
      refine wpList_nil ?_
      refine then_n ?_
      refine cond_f fr rfl rfl ?_
      refine wp_skip ?_
      refine then_n ?_
      refine wp_seq ?_
      refine reg ?_
      refine lst rfl (ow_v fr (rn_move (fr.ev rfl)) rfl rfl ?_)
      intro a fr
      refine lst rfl (ow_v fr (rn_move (fr.ev rfl)) rfl rfl ?_)
      intro a fr
      refine lst rfl (ow_v fr (rn_add (a := (k : Nat)) (b := 1) (c := ((k + 1 : Nat) : Int)) (fr.ev rfl) (fr.ev rfl) (wr_i64e (by omega) (by omega) (by omega))) rfl rfl ?_)
      intro a fr
      refine lst rfl (ow_v fr (rn_from (lo := k + 1) (fr.ev rfl) (fr.ev rfl) Try.underlying22 sz_5 (by omega)) rfl rfl ?_)
      intro a fr
      have st := st.cutFrom (m := bc) (lo := k + 1) 2 rfl (by decide) (fun _ => rfl) (by omega)
      obtain ⟨A4, hA_A4⟩ : ∃ A2, cutA (some ⟨b2, o3, none⟩) bc (k + 1) 1 = A2 := ⟨_, rfl⟩
      obtain ⟨ms5, hms6⟩ : ∃ ms, (bs.drop (k + 1)) = ms := ⟨_, rfl⟩
      have hl_ms5 : ms5.length = bs.length - (k + 1) := by rw [← hms6]; simp; try omega
      rw [hA_A4] at st fr
      rw [hms6] at st
      obtain ⟨cc7, hc_cc7⟩ : ∃ c, bc - (k + 1) = c := ⟨_, rfl⟩
      rw [hc_cc7, ← hl_ms5] at fr
      clear hA_A4
      have hce_cc7 : ms5.length ≤ cc7 := by have hq_ : bs.length ≤ bc := (by omega); omega
      refine lst rfl (ow_v fr (rn_assign (fr.ev rfl)) rfl rfl ?_)
      intro a fr
      refine wpList_nil ?_
      refine then_n ?_
      refine wp_seq ?_
      refine wp_seq ?_
      refine reg ?_
      refine lst rfl (ow_v fr (rn_move (fr.ev rfl)) rfl rfl ?_)
      intro a fr
      refine lst rfl (ow_v fr (rn_len (fr.ev rfl) Try.underlying22) rfl rfl ?_)
      intro a fr
      refine lst rfl (ow_v fr (rn_move (fr.ev rfl)) rfl rfl ?_)
      intro a fr
      refine lst rfl (ow_call fr rfl rfl Try.call43 (rest_lit 8 1 (by simp [Rng]) (by decide) _) rfl rfl ?_)
      rintro e w ⟨rfl, hag⟩
      refine ⟨_, rfl, ?_⟩
      intro a fr
      have st := st.keep hag
      clear hag
      refine lst rfl (ow_v fr (rn_as (v' := .bool false) (rn_lss (fr.ev rfl) (fr.ev rfl)) (congrArg Value.bool (decide_eq_false (by omega)))) rfl rfl ?_)
      intro a fr
      refine wpList_nil ?_
      refine then_n ?_
      refine cond_f fr rfl rfl ?_
      refine wp_skip ?_
      refine then_n ?_
      refine wp_seq ?_
      refine reg ?_
      refine lst rfl (ow_v fr (rn_move (fr.ev rfl)) rfl rfl ?_)
      intro a fr
      refine lst rfl (ow_v fr (rn_move (fr.ev rfl)) rfl rfl ?_)
      intro a fr
      refine lst rfl (ow_v fr (rn_build (cells := #[.int .i64 ((k : Nat)), .int .i64 ((bs[k].toNat : Nat)), .int .i64 0, .int .i64 0]) (by simp only [List.map_toArray, List.map_cons, List.map_nil]; rw [fr.ev (x := .tmp 44) rfl, fr.ev (x := .tmp 45) rfl]; rfl)) rfl rfl ?_)
      intro a fr
      refine lst rfl (ow_alloc fr st rfl zv_29 rfl rfl _ (by rfl) ?_)
      intro a w b8 fr st
      refine lst rfl (ow_stN fr st 0 (vs := [.int .i64 ((k : Nat)), .int .i64 ((bs[k].toNat : Nat)), .int .i64 0, .int .i64 0]) rfl rfl rfl rfl sz_29 rfl (Nat.le_of_ble_eq_true rfl) rfl ?_)
      intro w (st : St _ [] w [.blk b8 [.int .i64 ((k : Nat)), .int .i64 ((bs[k].toNat : Nat)), .int .i64 0, .int .i64 0] 29, els C8 1 A4 ms5, ro b2 (o3 + k * 1) [.int .u8 ((bs[k].toNat : Nat))], .blk b1 [.int .i64 0, .int .i64 0, .int .i64 0, .int .i64 0] 29, els C8 1 (some ⟨b2, o3, none⟩) bs])
      refine wpList_nil ?_
      refine then_n ?_
      refine wp_seq ?_
      refine wp_seq ?_
      refine reg ?_
      refine lst rfl (ow_v fr (rn_move (fr.ev rfl)) rfl rfl ?_)
      intro a fr
      refine wpList_nil ?_
      refine then_n ?_
      refine wp_block ?_
      refine wp_seq ?_
      refine wp_seq ?_
      refine reg ?_
      refine lst rfl (ow_v fr (rn_as (rn_eql (fr.ev rfl) (fr.ev rfl)) (by rfl)) rfl rfl ?_)
      intro a fr
      refine lst rfl (ow_v fr (rn_assign (fr.ev rfl)) rfl rfl ?_)
      intro a fr
      refine wpList_nil ?_
      refine then_n ?_
      refine cond_f fr rfl rfl ?_
      refine reg ?_
      refine lst rfl (ow_v fr (rn_as (rn_eql (fr.ev rfl) (fr.ev rfl)) (by rfl)) rfl rfl ?_)
      intro a fr
      refine lst rfl (ow_v fr (rn_assign (fr.ev rfl)) rfl rfl ?_)
      intro a fr
      refine wpList_nil ?_
      refine then_n ?_
      refine cond_f fr rfl rfl ?_
      refine wp_seq ?_
      refine reg ?_
      refine lst rfl (ow_v fr (rn_as (rn_eql (fr.ev rfl) (fr.ev rfl)) (by rfl)) rfl rfl ?_)
      intro a fr
      refine lst rfl (ow_v fr (rn_assign (fr.ev rfl)) rfl rfl ?_)
      intro a fr
      refine wpList_nil ?_
      refine then_n ?_
      refine cond_f fr rfl rfl ?_
      refine wp_seq ?_
      refine reg ?_
      refine lst rfl (ow_v fr (rn_as (rn_eql (fr.ev rfl) (fr.ev rfl)) (by rfl)) rfl rfl ?_)
      intro a fr
      refine lst rfl (ow_v fr (rn_assign (fr.ev rfl)) rfl rfl ?_)
      intro a fr
      refine wpList_nil ?_
      refine then_n ?_
      refine cond_f fr rfl rfl ?_
      refine wp_seq ?_
      refine reg ?_
      refine lst rfl (ow_v fr (rn_as (rn_eql (fr.ev rfl) (fr.ev rfl)) (by rfl)) rfl rfl ?_)
      intro a fr
      refine lst rfl (ow_v fr (rn_assign (fr.ev rfl)) rfl rfl ?_)
      intro a fr
      refine wpList_nil ?_
      refine then_n ?_
      refine cond_f fr rfl rfl ?_
      refine wp_seq ?_
      refine reg ?_
      refine lst rfl (ow_v fr (rn_as (rn_eql (fr.ev rfl) (fr.ev rfl)) (by rfl)) rfl rfl ?_)
      intro a fr
      refine lst rfl (ow_v fr (rn_assign (fr.ev rfl)) rfl rfl ?_)
      intro a fr
      refine wpList_nil ?_
      refine then_n ?_
      refine cond_f fr rfl rfl ?_
      refine wp_seq ?_
      refine reg ?_
      refine lst rfl (ow_v fr (rn_as (rn_eql (fr.ev rfl) (fr.ev rfl)) (by rfl)) rfl rfl ?_)
      intro a fr
      refine lst rfl (ow_v fr (rn_assign (fr.ev rfl)) rfl rfl ?_)
      intro a fr
      refine wpList_nil ?_
      refine then_n ?_
      refine cond_f fr rfl rfl ?_
      refine wp_seq ?_
      refine reg ?_
      refine lst rfl (ow_v fr (rn_as (rn_eql (fr.ev rfl) (fr.ev rfl)) (by rfl)) rfl rfl ?_)
      intro a fr
      refine lst rfl (ow_v fr (rn_assign (fr.ev rfl)) rfl rfl ?_)
      intro a fr
      refine wpList_nil ?_
      refine then_n ?_
      refine cond_t fr rfl rfl ?_
      refine wp_seq ?_
      refine reg ?_
      refine lst rfl (ow_v fr (rn_move (fr.ev rfl)) rfl rfl ?_)
      intro a fr
      have hb10 := u8lt (bs[k + 1]'(by omega))
      obtain ⟨b9, o10, eA, st_⟩ := st.elem 1 rfl 0 (by omega) (by simp [C8])
      have fr_ := fr
      cases eA
      have st := st_
      have fr := fr_
      clear st_ fr_
      rw [drop_get hms6 (m := k + 1) (by omega) (by omega) (by omega)] at st
      replace st : St _ [] w [ro b9 (o10 + 0 * 1) [.int .u8 ((bs[k + 1].toNat : Nat))], .blk b8 [.int .i64 ((k : Nat)), .int .i64 ((bs[k].toNat : Nat)), .int .i64 0, .int .i64 0] 29, els C8 1 (some ⟨b9, o10, none⟩) ms5, ro b2 (o3 + k * 1) [.int .u8 ((bs[k].toNat : Nat))], .blk b1 [.int .i64 0, .int .i64 0, .int .i64 0, .int .i64 0] 29, els C8 1 (some ⟨b2, o3, none⟩) bs] := st
      refine lst rfl (ow_v fr (rn_at (i := 0) (fr.ev rfl) (fr.ev rfl) Try.underlying22 sz_5 (by omega) (by rfl)) rfl rfl ?_)
      intro a fr
      refine lst rfl (ow_v fr (rn_load (fr.ev rfl) Try.underlying5 rfl (st.rocell 0 rfl (j := 0) rfl)) rfl rfl ?_)
      intro a fr
      refine lst rfl (ow_v fr (rn_conv (c := (bs[k + 1].toNat : Nat)) (fr.ev rfl) (by kernel_rfl) Try.underlying3 (wr_i64 _ (by omega) (by omega))) rfl rfl ?_)
      intro a fr
      refine lst rfl (ow_v fr (fa_29_2 (fr.ev rfl)) rfl rfl ?_)
      intro a fr
      refine lst rfl (ow_st fr st 1 rfl rfl rfl rfl sz_3 rfl rfl rfl ?_)
      intro w (st : St _ [] w [ro b9 (o10 + 0 * 1) [.int .u8 ((bs[k + 1].toNat : Nat))], .blk b8 [.int .i64 ((k : Nat)), .int .i64 ((bs[k].toNat : Nat)), .int .i64 ((bs[k + 1].toNat : Nat)), .int .i64 0] 29, els C8 1 (some ⟨b9, o10, none⟩) ms5, ro b2 (o3 + k * 1) [.int .u8 ((bs[k].toNat : Nat))], .blk b1 [.int .i64 0, .int .i64 0, .int .i64 0, .int .i64 0] 29, els C8 1 (some ⟨b2, o3, none⟩) bs])
      refine wpList_nil ?_
      refine then_n ?_
      refine wp_seq ?_
      refine reg ?_
      refine lst rfl (ow_v fr (fa_29_2 (fr.ev rfl)) rfl rfl ?_)
      intro a fr
      refine lst rfl (ow_v fr (rn_load (fr.ev rfl) Try.underlying3 rfl (st.cell 1 rfl rfl)) rfl rfl ?_)
      intro a fr
      refine lst rfl (ow_v fr (rn_as (v' := .bool true) (rn_neq (fr.ev rfl) (fr.ev rfl)) (congrArg Value.bool (by simp; omega))) rfl rfl ?_)
      intro a fr
      refine lst rfl (ow_v fr (rn_move (fr.ev rfl)) rfl rfl ?_)
      intro a fr
      refine lst_y (wanted_of fr rfl rfl rfl rfl) (ow_v fr (fa_29_2 (fr.ev rfl)) rfl rfl ?_)
      intro a fr
      refine lst_y (wanted_of fr rfl rfl rfl rfl) (ow_v fr (rn_load (fr.ev rfl) Try.underlying3 rfl (st.cell 1 rfl rfl)) rfl rfl ?_)
      intro a fr
      refine lst_y (wanted_of fr rfl rfl rfl rfl) (ow_v fr (rn_as (v' := .bool false) (rn_neq (fr.ev rfl) (fr.ev rfl)) (congrArg Value.bool (by simp; omega))) rfl rfl ?_)
      intro a fr
      refine lst rfl (ow_v fr (rn_pick_t (fr.ev rfl) (fr.ev rfl)) rfl rfl ?_)
      intro a fr
      refine wpList_nil ?_
      refine then_n ?_
      refine cond_f fr rfl rfl ?_
      refine wp_skip ?_
      refine blk_n ?_
      refine then_n ?_
      refine wp_seq ?_
      refine dr_start (by kernel_rfl) st (.cons_cons _ (.cons_cons _ (.cons_cons _ (.cons_cons _ (.cons _ (.cons_cons _ .slnil)))))) ?_
      intro w st
      refine dr_take 0 rfl (by kernel_rfl) (by kernel_rfl) (by kernel_rfl) (fun _ _ _ h => h) fr rfl (st.sub (.cons_cons _ (.cons_cons _ (.cons_cons _ (.cons_cons _ (.cons _ (.cons_cons _ .slnil))))))) (fun w st => rn_loadN (cs := [.int .i64 ((k : Nat)), .int .i64 ((bs[k].toNat : Nat)), .int .i64 ((bs[k + 1].toNat : Nat)), .int .i64 0]) (fr.ev rfl) Try.underlying29 rfl sz_29 (st.blkrange 1 rfl 0 rfl)) rfl rfl ?_
      intro a fr
      refine dr_take 1 rfl (by kernel_rfl) (by kernel_rfl) (by kernel_rfl) (fun _ _ _ h => h) fr rfl (st.sub (.cons_cons _ (.cons_cons _ (.cons_cons _ (.cons_cons _ (.cons _ (.cons_cons _ .slnil))))))) (fun w st => rn_move (fr.ev rfl)) rfl rfl ?_
      intro a fr
      refine dr_take 2 rfl (by kernel_rfl) (by kernel_rfl) (by kernel_rfl) (fun _ _ _ h => h) fr rfl (st.sub (.cons_cons _ (.cons_cons _ (.cons_cons _ (.cons_cons _ (.cons _ (.cons_cons _ .slnil))))))) (fun w st => rn_add (a := (k : Nat)) (b := 1) (c := ((k + 1 : Nat) : Int)) (fr.ev rfl) (fr.ev rfl) (wr_i64e (by omega) (by omega) (by omega))) rfl rfl ?_
      intro a fr
      refine dr_take 3 rfl (by kernel_rfl) (by kernel_rfl) (by kernel_rfl) (fun _ _ _ h => h) fr rfl (st.sub (.cons_cons _ (.cons_cons _ (.cons_cons _ (.cons_cons _ (.cons _ (.cons_cons _ .slnil))))))) (fun w st => rn_move (fr.ev rfl)) rfl rfl ?_
      intro a fr
      refine dr_one 4 (by kernel_rfl) rfl rfl (ow_call fr rfl rfl Try.call43 (rest_lit 8 1 (by simp [Rng]) (by decide) _) rfl rfl ?_)
      rintro e w ⟨rfl, hag⟩
      refine ⟨_, rfl, ?_⟩
      intro a fr
      have st := st.keep hag
      clear hag
      refine ⟨st.sub (.cons_cons _ (.cons_cons _ (.cons_cons _ (.cons_cons _ (.cons _ (.cons_cons _ .slnil)))))), ?_⟩
      refine dr_take 5 rfl (by kernel_rfl) (by kernel_rfl) (by kernel_rfl) (fun _ _ _ h => h) fr rfl (st.sub (.cons_cons _ (.cons_cons _ (.cons_cons _ (.cons_cons _ (.cons _ (.cons_cons _ .slnil))))))) (fun w st => rn_add (a := ((k + 1 : Nat) : Int)) (b := 1) (c := ((k + 1 + 1 : Nat) : Int)) (fr.ev rfl) (fr.ev rfl) (wr_i64e (by omega) (by omega) (by omega))) rfl rfl ?_
      intro a fr
      refine dr_one 6 (by kernel_rfl) rfl rfl (ow_stN fr st 4 (vs := [.int .i64 ((k : Nat)), .int .i64 ((bs[k].toNat : Nat)), .int .i64 ((bs[k + 1].toNat : Nat)), .int .i64 0]) rfl rfl rfl rfl sz_29 rfl (Nat.le_of_ble_eq_true rfl) rfl ?_)
      intro w (st : St _ [] w [ro b9 (o10 + 0 * 1) [.int .u8 ((bs[k + 1].toNat : Nat))], .blk b8 [.int .i64 ((k : Nat)), .int .i64 ((bs[k].toNat : Nat)), .int .i64 ((bs[k + 1].toNat : Nat)), .int .i64 0] 29, els C8 1 (some ⟨b9, o10, none⟩) ms5, ro b2 (o3 + k * 1) [.int .u8 ((bs[k].toNat : Nat))], .blk b1 [.int .i64 ((k : Nat)), .int .i64 ((bs[k].toNat : Nat)), .int .i64 ((bs[k + 1].toNat : Nat)), .int .i64 0] 29, els C8 1 (some ⟨b2, o3, none⟩) bs])
      refine ⟨st.sub (.cons_cons _ (.cons_cons _ (.cons_cons _ (.cons_cons _ (.cons _ (.cons_cons _ .slnil)))))), ?_⟩
      refine dr_take 7 rfl (by kernel_rfl) (by kernel_rfl) (by kernel_rfl) (fun _ _ _ h => h) fr rfl (st.sub (.cons_cons _ (.cons_cons _ (.cons_cons _ (.cons_cons _ (.cons _ (.cons_cons _ .slnil))))))) (fun w st => rn_assign (fr.ev rfl)) rfl rfl ?_
      intro a fr
      refine dr_take 8 rfl (by kernel_rfl) (by kernel_rfl) (by kernel_rfl) (fun _ _ _ h => h) fr rfl (st.sub (.cons_cons _ (.cons_cons _ (.cons_cons _ (.cons_cons _ (.cons _ (.cons_cons _ .slnil))))))) (fun w st => rn_assign (fr.ev rfl)) rfl rfl ?_
      intro a fr
      refine dr_done (by kernel_rfl) ?_
      refine then_n ?_
      refine wp_ret ?_
      refine ret3 Try.results13 fr (rv_row (cs := [.int .i64 ((k : Nat)), .int .i64 ((bs[k].toNat : Nat)), .int .i64 ((bs[k + 1].toNat : Nat)), .int .i64 0]) fr rfl Try.underlying29 rfl (by first | exact sz_29 | simpa using sz_29) (st.blkrange 4 rfl 0 rfl)) (rv_tmp fr rfl) (rv_tmp fr rfl) ?_
      exact ⟨by simp [okA, okB, behF, insC, ub_eq hk, ub_eq hk1, Nat.mul_comm 256], st.agr⟩

theorem one_calls (bs : List UInt8) (BA : Option Addr) (bc : Nat) (hbc : bs.length ≤ bc) (hbl : bs.length ≤ 4611686018427387904) (at_ : Int) (w0 : World) (hx : Els C8 1 w0 BA bs) : Calls Try.prog 13 #[.slice BA bs.length bc, .int .i64 at_] w0 fun e w' => e = .returned (encO (oneF bs at_)) ∧ Agr [] w0 w' := by
  unfold oneF
  by_cases h0 : at_ < 0
  · rw [if_pos h0]
    exact one_out bs BA bc hbc hbl at_ (.inl h0) w0 hx
  · rw [if_neg h0]
    obtain ⟨k, rfl⟩ : ∃ k : Nat, at_ = k := ⟨at_.toNat, by omega⟩
    rw [Int.toNat_natCast]
    unfold oneN
    by_cases h1 : bs.length ≤ k
    · rw [if_pos h1]
      exact one_out bs BA bc hbc hbl k (.inr (by omega)) w0 hx
    · rw [if_neg h1]
      have hk : k < bs.length := by omega
      rw [ub_eq hk]
      cases hr : tblL.find? (fun r : RowD => r.1 == ((bs[k].toNat : Nat) : Int)) with
      | none => exact one_bad bs BA bc hbc hbl k hk hr w0 hx
      | some r =>
        obtain ⟨p, q, f⟩ := r
        simp only
        by_cases h2 : bs.length < k + 1 + behF f
        · rw [if_pos h2]
          exact one_short bs BA bc hbc hbl k hk hr h2 w0 hx
        · rw [if_neg h2]
          by_cases h3 : f = 8 ∧ ub bs (k + 1) ≠ 10 ∧ ub bs (k + 1) ≠ 11
          · rw [if_pos h3]
            obtain ⟨rfl, h4, h5⟩ := h3
            have h6 : behF 8 = 1 := by decide
            have hk1 : k + 1 < bs.length := by omega
            rw [ub_eq hk1] at h4 h5
            exact one_arr bs BA bc hbc hbl k hk hk1 hr h4 h5 w0 hx
          · rw [if_neg h3]
            exact one_ok bs BA bc hbc hbl k hk hr (by omega) h3 w0 hx

end Go.Proofs.Yteiohpbghpmohaa.O4
