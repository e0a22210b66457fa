import Derived.Test.YtngpfbcjmlpplaaLibV
import Derived.Test.YtngpfbcjmlpplaaY2
set_option linter.unusedVariables false
set_option linter.unusedSimpArgs false
namespace Go.Proofs.Ytngpfbcjmlpplaa.Y3
open Go.RowKit Go.Proofs.Ytngpfbcjmlpplaa.LibA Go.Proofs.Ytngpfbcjmlpplaa.LibC Go.Proofs.Ytngpfbcjmlpplaa.LibS Go.Proofs.Ytngpfbcjmlpplaa.LibR Go.Proofs.Ytngpfbcjmlpplaa.LibT Go.Proofs.Ytngpfbcjmlpplaa.LibU Go.Proofs.Ytngpfbcjmlpplaa.LibV Go.Proofs.Ytngpfbcjmlpplaa.M Go.Proofs.Ytngpfbcjmlpplaa.Y
/-! contracts in the small logic's words -/
def CI (x : Int) : List Value := [.int .i64 x]
theorem CI_len (x : Int) : (CI x).length = 1 := rfl
def C8 (x : UInt8) : List Value := [.int .u8 (x.toNat : Int)]
theorem ints_els {w : World} {A : Option Addr} {xs : List Int} (h : Ints w A xs) : Els CI 1 w A xs := by
  intro i hi
  obtain ⟨b, off, e, hc⟩ := h i hi
  refine ⟨b, off, e, fun j u hu => ?_⟩
  cases j with
  | zero =>
    simp [CI] at hu
    subst hu
    rw [Nat.mul_one, Nat.add_zero, hc]
    simp [List.getD_eq_getElem?_getD, hi]
  | succ j => simp [CI] at hu
theorem els_ints {w : World} {A : Option Addr} {xs : List Int} (h : Els CI 1 w A xs) : Ints w A xs := by
  intro i hi
  obtain ⟨b, off, e, hc⟩ := h i hi
  refine ⟨b, off, e, ?_⟩
  have := hc 0 (.int .i64 xs[i]) rfl
  rw [Nat.mul_one, Nat.add_zero] at this
  rw [this]
  simp [List.getD_eq_getElem?_getD, hi]
theorem frame_ok (fn at_ : Int) (ls ss : List SlotD) (rs sp : List Int) (L S A : Option Addr) (lc sc c : Nat) (hr : rs.length = 16) (hl : ls.length * 24 ≤ 140737488351232) (hl2 : ss.length * 24 ≤ 140737488351232) (w : World) (hls : Els slotC 3 w L ls) (hss : Els slotC 3 w S ss) (hs : Els CI 1 w A sp) (hE : frE sp ls ss = 0) (xs ys : List ValD) (hx : ls.map (slotV rs sp) = xs) (hy : ss.map (slotV rs sp) = ys) :
    Calls Try.prog 15 #[.agg #[.int .i64 fn, .int .i64 at_, .slice L ls.length lc, .slice S ss.length sc], .agg (regsC rs (.slice A sp.length c))] w fun e w' => ∃ A1 c1 A2 c2, e = .returned (.tuple #[.agg #[.int .i64 fn, .int .i64 at_, .slice A1 xs.length c1, .slice A2 ys.length c2], .int .i64 0]) ∧ Row valC 2 43 w.heap.size (.slice A1 xs.length c1) xs w' ∧ Row valC 2 43 w.heap.size (.slice A2 ys.length c2) ys w' ∧ Agr [] w w' :=
  (frame_calls fn at_ ls ss rs sp L S A lc sc c hr hl hl2 w hls hss (els_ints hs)).mono fun e w' h => by
    subst hx; subst hy
    rcases h with ⟨_, v1, v2, rfl, h1, h2, hb⟩ | ⟨h0, _⟩
    · have r1 : Row valC 2 43 w.heap.size v1 (ls.map (slotV rs sp)) w' := by unfold Row; rw [List.length_map]; exact h1
      have r2 : Row valC 2 43 w.heap.size v2 (ss.map (slotV rs sp)) w' := by unfold Row; rw [List.length_map]; exact h2
      obtain ⟨A1, c1, rfl, _, _, _⟩ := row_form valC_len r1
      obtain ⟨A2, c2, rfl, _, _, _⟩ := row_form valC_len r2
      exact ⟨A1, c1, A2, c2, rfl, r1, r2, Agr.of_below hb⟩
    · rw [hE] at h0; cases h0
theorem eqVal_same (xs : List ValD) (A B : Option Addr) (c d : Nat) (hx : xs.length ≤ 9223372036854775807) (w : World) (ha : Els valC 2 w A xs) (hb : Els valC 2 w B xs) :
    Calls Try.prog 16 #[.slice A xs.length c, .slice B xs.length d] w fun e w' => e = .returned (.bool true) ∧ Agr [] w w' :=
  (eqVal_calls xs xs A B c d hx hx w ha hb).mono fun e w' ⟨h, n, h2⟩ => by subst h2; exact ⟨by rw [h]; simp, Agr.drewN w n⟩

theorem fa_42_0 {ρ : Operand → Value} {w : World} {dst : Option Tmp} {ty : TypeId} {pos : String} {aft : Array Edge} {gd : Option (Nat × Bool)} {x : Operand} {b o : Nat} (hx : ρ x = .pointer (some ⟨b, o, none⟩)) : (execOp ρ ⟨dst, .fieldAddr 42 x 0, ty, pos, aft, gd⟩).run Try.prog w = .ok (.value (.pointer (some ⟨b, o + 0, none⟩))) w := rn_field hx Try.underlying42 rfl (by kernel_rfl) rfl
theorem fa_42_1 {ρ : Operand → Value} {w : World} {dst : Option Tmp} {ty : TypeId} {pos : String} {aft : Array Edge} {gd : Option (Nat × Bool)} {x : Operand} {b o : Nat} (hx : ρ x = .pointer (some ⟨b, o, none⟩)) : (execOp ρ ⟨dst, .fieldAddr 42 x 1, ty, pos, aft, gd⟩).run Try.prog w = .ok (.value (.pointer (some ⟨b, o + 1, none⟩))) w := rn_field hx Try.underlying42 rfl (by kernel_rfl) rfl
theorem fa_45_2 {ρ : Operand → Value} {w : World} {dst : Option Tmp} {ty : TypeId} {pos : String} {aft : Array Edge} {gd : Option (Nat × Bool)} {x : Operand} {b o : Nat} (hx : ρ x = .pointer (some ⟨b, o, none⟩)) : (execOp ρ ⟨dst, .fieldAddr 45 x 2, ty, pos, aft, gd⟩).run Try.prog w = .ok (.value (.pointer (some ⟨b, o + 2, none⟩))) w := rn_field hx Try.underlying45 rfl (by kernel_rfl) rfl
theorem fa_62_5 {ρ : Operand → Value} {w : World} {dst : Option Tmp} {ty : TypeId} {pos : String} {aft : Array Edge} {gd : Option (Nat × Bool)} {x : Operand} {b o : Nat} (hx : ρ x = .pointer (some ⟨b, o, none⟩)) : (execOp ρ ⟨dst, .fieldAddr 62 x 5, ty, pos, aft, gd⟩).run Try.prog w = .ok (.value (.pointer (some ⟨b, o + 5, none⟩))) w := rn_field hx Try.underlying62 rfl (by kernel_rfl) rfl
theorem inf_42 : (Try.prog.info? 42).map (fun i => (i.zero, i.size, i.bytes)) = some (some (.agg #[.int .i64 0, .int .i64 0, .int .i64 0]), 3, 24) := by kernel_rfl
theorem inf_43 : (Try.prog.info? 43).map (fun i => (i.zero, i.size, i.bytes)) = some (some (.agg #[.int .i64 0, .int .i64 0]), 2, 16) := by kernel_rfl
theorem sz_2 : (Try.prog.info? 2).map (·.size) = some 1 := by kernel_rfl
theorem sz_3 : (Try.prog.info? 3).map (·.size) = some 1 := by kernel_rfl
theorem sz_5 : (Try.prog.info? 5).map (·.size) = some 1 := by kernel_rfl
theorem sz_23 : (Try.prog.info? 23).map (·.size) = some 2 := by kernel_rfl
theorem sz_27 : (Try.prog.info? 27).map (·.size) = some 17 := by kernel_rfl
theorem sz_37 : (Try.prog.info? 37).map (·.size) = some 1 := by kernel_rfl
theorem sz_40 : (Try.prog.info? 40).map (·.size) = some 1 := by kernel_rfl
theorem sz_42 : (Try.prog.info? 42).map (·.size) = some 3 := by kernel_rfl
theorem sz_43 : (Try.prog.info? 43).map (·.size) = some 2 := by kernel_rfl
theorem sz_45 : (Try.prog.info? 45).map (·.size) = some 4 := by kernel_rfl
theorem sz_62 : (Try.prog.info? 62).map (·.size) = some 7 := by kernel_rfl
theorem zv_27 : ∀ w : World, (zeroValue 27).run Try.prog w = .ok (.agg #[.int .i64 0, .int .i64 0, .int .i64 0, .int .i64 0, .int .i64 0, .int .i64 0, .int .i64 0, .int .i64 0, .int .i64 0, .int .i64 0, .int .i64 0, .int .i64 0, .int .i64 0, .int .i64 0, .int .i64 0, .int .i64 0, .slice none 0 0]) w := fun w => by kernel_rfl
theorem zv_42 : ∀ w : World, (zeroValue 42).run Try.prog w = .ok (.agg #[.int .i64 0, .int .i64 0, .int .i64 0]) w := fun w => by kernel_rfl
theorem zv_43 : ∀ w : World, (zeroValue 43).run Try.prog w = .ok (.agg #[.int .i64 0, .int .i64 0]) w := fun w => by kernel_rfl
theorem zv_45 : ∀ w : World, (zeroValue 45).run Try.prog w = .ok (.agg #[.int .i64 0, .int .i64 0, .slice none 0 0, .slice none 0 0]) w := fun w => by kernel_rfl
theorem zv_62 : ∀ w : World, (zeroValue 62).run Try.prog w = .ok (.agg #[.int .i64 0, .int .i64 0, .slice none 0 0, .slice none 0 0, .slice none 0 0, .slice none 0 0, .int .i64 0]) w := fun w => by kernel_rfl
set_option maxHeartbeats 1000000 in
theorem round_walk (ks : List UInt8) (vs : List Int) (KA VA : Option Addr) (kc vc : Nat) (hks : ks.length ≤ 9223372036854775807) (hvs : vs.length ≤ 9223372036854775807) (w0 : World) (ha : Els C8 1 w0 KA ks) (hb : Els CI 1 w0 VA vs) :
    Calls Try.prog 7 #[.slice KA ks.length kc, .slice VA vs.length vc] w0 fun e w' => e = .returned (.bool true) ∧ Below w0.heap.size w0 w' := by
  have st : St w0 [] w0 [els C8 1 KA ks, els CI 1 VA vs] := (add_ro (add_ro (start0 w0 []) (by simp [els, It.wr]) rfl (els_ok (C := CI) (sz := 1) (by decide) (fun x => rfl) hb)) (by simp [els, It.wr]) rfl (els_ok (C := C8) (sz := 1) (by decide) (fun x => rfl) ha))
  clear ha hb
  obtain ⟨m, hm0⟩ : ∃ m, m = min (min ks.length vs.length) 30 := ⟨_, rfl⟩
  refine enter Try.func7 rfl Try.ntmps7 (by simp) ?_
  intro a fr
  refine wp_seq ?_
  refine reg ?_
  refine lst rfl (ow_v fr (rn_assign (fr.ev rfl)) rfl rfl ?_)
  intro a fr
  refine wpList_nil ?_
  refine then_n ?_
  refine wp_seq ?_
  refine reg ?_
  refine lst rfl (ow_v fr (rn_move (fr.ev rfl)) rfl rfl ?_)
  intro a fr
  refine lst rfl (ow_v fr (rn_len (fr.ev rfl) Try.underlying36) rfl rfl ?_)
  intro a fr
  refine lst rfl (ow_v fr (rn_move (fr.ev rfl)) rfl rfl ?_)
  intro a fr
  refine lst rfl (ow_v fr (rn_len (fr.ev rfl) Try.underlying25) rfl rfl ?_)
  intro a fr
  refine lst rfl (ow_v fr (rn_min3 (c := ((m : Nat) : Int)) (fr.ev rfl) (fr.ev rfl) (fr.ev rfl) (by rw [hm0]; (repeat' split) <;> omega)) rfl rfl ?_)
  intro a fr
  refine lst rfl (ow_v fr (rn_assign (fr.ev rfl)) rfl rfl ?_)
  intro a fr
  refine wpList_nil ?_
  refine then_n ?_
  refine wp_seq ?_
  refine reg ?_
  refine lst rfl (ow_v fr (rn_build (cells := #[.int .i64 0, .int .i64 0, .slice none 0 0, .slice none 0 0, .slice none 0 0, .slice none 0 0, .int .i64 30]) (by simp only [List.map_toArray, List.map_cons, List.map_nil]; rfl)) rfl rfl ?_)
  intro a fr
  refine lst rfl (ow_alloc fr st rfl zv_62 rfl rfl _ (by rfl) ?_)
  intro a w b1 fr st
  refine lst rfl (ow_stN fr st 0 (vs := [.int .i64 0, .int .i64 0, .slice none 0 0, .slice none 0 0, .slice none 0 0, .slice none 0 0, .int .i64 30]) rfl rfl rfl rfl sz_62 rfl (Nat.le_of_ble_eq_true rfl) rfl ?_)
  intro w (st : St _ [] w [.blk b1 [.int .i64 0, .int .i64 0, .slice none 0 0, .slice none 0 0, .slice none 0 0, .slice none 0 0, .int .i64 30] 62, els C8 1 KA ks, els CI 1 VA vs])
  refine wpList_nil ?_
  refine then_n ?_
  refine wp_seq ?_
  refine reg ?_
  refine lst rfl (ow_alloc fr st rfl zv_45 rfl rfl _ (by rfl) ?_)
  intro a w b2 fr st
  refine wpList_nil ?_
  refine then_n ?_
  refine wp_seq ?_
  refine reg ?_
  refine lst rfl (ow_v fr (rn_assign (fr.ev rfl)) rfl rfl ?_)
  intro a fr
  refine wpList_nil ?_
  refine then_n ?_
  refine wp_seq ?_
  refine wp_seq ?_
  refine reg ?_
  refine lst rfl (ow_v fr (rn_move (fr.ev rfl)) rfl rfl ?_)
  intro a fr
  refine lst rfl (ow_v fr (rn_move (fr.ev rfl)) rfl rfl ?_)
  intro a fr
  refine wpList_nil ?_
  refine then_n ?_
  refine wp_block ?_
  have st := st.nil (E := ValD) valC 2 43 w0.heap.size (Nat.le_refl _)
  have st := st.nil (E := ValD) valC 2 43 w0.heap.size (Nat.le_refl _)
  have st := st.nil (E := SlotD) slotC 3 42 w0.heap.size (Nat.le_refl _)
  refine wp_loop_ghost (fun mz a w => ∃ (k : Nat) (Ae : Option Addr) (Al : Option Addr) (Aw : Option Addr) (ce : Nat) (cl : Nat) (cw : Nat), (k ≤ m) ∧ mz = m - k ∧ FrL 97 a [(0, .slice KA ks.length kc), (1, .slice VA vs.length vc), (6, .pointer (some ⟨b1, 0, none⟩)), (7, .pointer (some ⟨b2, 0, none⟩)), (8, .slice Aw (((List.range k).map (wantR ks vs)).length) cw), (21, .int .i64 ((m : Nat))), (22, .int .i64 ((k : Nat)))] ∧ St w0 [] w [row slotC 3 42 w0.heap.size (.slice Ae (((List.range k).map (slotR ks)).length) ce) (((List.range k).map (slotR ks))), row valC 2 43 w0.heap.size (.slice Al (((List.range k).map (valR ks vs)).length) cl) (((List.range k).map (valR ks vs))), row valC 2 43 w0.heap.size (.slice Aw (((List.range k).map (wantR ks vs)).length) cw) (((List.range k).map (wantR ks vs))), .blk b2 [.int .i64 0, .int .i64 0, .slice Al (((List.range k).map (valR ks vs)).length) cl, .slice none 0 0] 45, .blk b1 [.int .i64 0, .int .i64 0, .slice none 0 0, .slice none 0 0, .slice none 0 0, .slice Ae (((List.range k).map (slotR ks)).length) ce, .int .i64 30] 62, els C8 1 KA ks, els CI 1 VA vs]) _ ⟨0, none, none, none, 0, 0, 0, Nat.zero_le _, rfl, fr.prune ⟨rfl, rfl, rfl, rfl, rfl, rfl, rfl, trivial⟩, st⟩ ?_
  clear fr st
  intro mz a w hI
  obtain ⟨k, Ae, Al, Aw, ce, cl, cw, hk, hmz, fr, st⟩ := hI
  by_cases hlt : k < m
  · obtain ⟨b3, o4, eA, st⟩ := st.elem 5 rfl k (by omega) (by simp [C8])
    cases eA
    obtain ⟨x, hx_ks_x⟩ : ∃ x, ks[k] = x := ⟨_, rfl⟩
    rw [hx_ks_x] at st
    replace st : St _ [] w [ro b3 (o4 + k * 1) [.int .u8 ((x.toNat : Int))], row slotC 3 42 w0.heap.size (.slice Ae (((List.range k).map (slotR ks)).length) ce) (((List.range k).map (slotR ks))), row valC 2 43 w0.heap.size (.slice Al (((List.range k).map (valR ks vs)).length) cl) (((List.range k).map (valR ks vs))), row valC 2 43 w0.heap.size (.slice Aw (((List.range k).map (wantR ks vs)).length) cw) (((List.range k).map (wantR ks vs))), .blk b2 [.int .i64 0, .int .i64 0, .slice Al (((List.range k).map (valR ks vs)).length) cl, .slice none 0 0] 45, .blk b1 [.int .i64 0, .int .i64 0, .slice none 0 0, .slice none 0 0, .slice none 0 0, .slice Ae (((List.range k).map (slotR ks)).length) ce, .int .i64 30] 62, els C8 1 (some ⟨b3, o4, none⟩) ks, els CI 1 VA vs] := st
    obtain ⟨b5, o6, eA, st⟩ := st.elem 7 rfl k (by omega) (by simp [CI])
    cases eA
    obtain ⟨y, hx_vs_y⟩ : ∃ y, vs[k] = y := ⟨_, rfl⟩
    rw [hx_vs_y] at st
    replace st : St _ [] w [ro b5 (o6 + k * 1) [.int .i64 (y)], ro b3 (o4 + k * 1) [.int .u8 ((x.toNat : Int))], row slotC 3 42 w0.heap.size (.slice Ae (((List.range k).map (slotR ks)).length) ce) (((List.range k).map (slotR ks))), row valC 2 43 w0.heap.size (.slice Al (((List.range k).map (valR ks vs)).length) cl) (((List.range k).map (valR ks vs))), row valC 2 43 w0.heap.size (.slice Aw (((List.range k).map (wantR ks vs)).length) cw) (((List.range k).map (wantR ks vs))), .blk b2 [.int .i64 0, .int .i64 0, .slice Al (((List.range k).map (valR ks vs)).length) cl, .slice none 0 0] 45, .blk b1 [.int .i64 0, .int .i64 0, .slice none 0 0, .slice none 0 0, .slice none 0 0, .slice Ae (((List.range k).map (slotR ks)).length) ce, .int .i64 30] 62, els C8 1 (some ⟨b3, o4, none⟩) ks, els CI 1 (some ⟨b5, o6, none⟩) vs] := st
    have hx256 := x.toNat_lt
    have qk : kdR ks k = ((x.toNat % 4 : Nat) : Int) := by unfold kdR; rw [List.getD_eq_getElem?_getD, List.getElem?_eq_getElem (by omega), hx_ks_x]; rfl
    have qv : valR ks vs k = (if (1 : Int) > ((x.toNat % 4 : Nat) : Int) then 1 else ((x.toNat % 4 : Nat) : Int), y) := by unfold valR; rw [qk, List.getD_eq_getElem?_getD, List.getElem?_eq_getElem (by omega), hx_vs_y]; rfl
    by_cases h14 : k < 14
    · by_cases hkd : x.toNat % 4 = 0
      · have qs : slotR ks k = (((x.toNat % 4 : Nat) : Int), 1, ((k % 14 : Nat) : Int)) := by unfold slotR; rw [if_pos h14, qk]
        have qw : wantR ks vs k = (0, 0) := by unfold wantR; rw [if_pos (by rw [qk]; omega)]
        refine wp_seq ?_
        refine reg ?_
        refine lst rfl (ow_v fr (rn_as (v' := .bool true) (rn_lss (fr.ev rfl) (fr.ev rfl)) (congrArg Value.bool (decide_eq_true (by omega)))) rfl rfl ?_)
        intro a fr
        refine wpList_nil ?_
        refine then_n ?_
        refine wp_seq ?_
        refine cond_t fr rfl rfl ?_
        refine wp_skip ?_
        refine then_n ?_
        refine wp_seq ?_
        refine wp_block ?_
        refine wp_seq ?_
        refine reg ?_
        refine lst rfl (ow_v fr (rn_move (fr.ev rfl)) rfl rfl ?_)
        intro a fr
        refine lst rfl (ow_v fr (rn_assign (fr.ev rfl)) rfl rfl ?_)
        intro a fr
        refine wpList_nil ?_
        refine then_n ?_
        refine wp_seq ?_
        refine reg ?_
        refine lst rfl (ow_v fr (rn_move (fr.ev rfl)) rfl rfl ?_)
        intro a fr
        refine lst rfl (ow_v fr (rn_move (fr.ev rfl)) rfl rfl ?_)
        intro a fr
        refine lst rfl (ow_v fr (rn_at (i := k) (fr.ev rfl) (fr.ev rfl) Try.underlying36 sz_5 (by omega) (by rfl)) rfl rfl ?_)
        intro a fr
        refine lst rfl (ow_v fr (rn_load (fr.ev rfl) Try.underlying5 rfl (st.rocell 1 rfl (j := 0) rfl)) rfl rfl ?_)
        intro a fr
        refine lst rfl (ow_v fr (rn_conv (c := (x.toNat : Int)) (fr.ev rfl) (by kernel_rfl) Try.underlying3 (wr_i64 _ (by omega) (by omega))) rfl rfl ?_)
        intro a fr
        refine lst rfl (ow_v fr (rn_rem (c := ((x.toNat % 4 : Nat) : Int)) (fr.ev rfl) (fr.ev rfl) (by decide) (rm_nat (a := x.toNat) (m := 4) rfl rfl)) rfl rfl ?_)
        intro a fr
        refine lst rfl (ow_v fr (rn_move (fr.ev rfl)) rfl rfl ?_)
        intro a fr
        refine lst rfl (ow_v fr (rn_rem (c := ((k % 14 : Nat) : Int)) (fr.ev rfl) (fr.ev rfl) (by decide) (rm_nat (a := k) (m := 14) rfl rfl)) rfl rfl ?_)
        intro a fr
        refine lst rfl (ow_v fr (rn_build (cells := #[.int .i64 1, .int .i64 (((k % 14 : Nat) : Int))]) (by simp only [List.map_toArray, List.map_cons, List.map_nil]; rw [fr.ev (x := .tmp 32) rfl]; rfl)) rfl rfl ?_)
        intro a fr
        refine lst rfl (ow_v fr (rn_build (cells := #[.int .i64 (((x.toNat % 4 : Nat) : Int)), .int .i64 1, .int .i64 (((k % 14 : Nat) : Int))]) (by simp only [List.map_toArray, List.map_cons, List.map_nil]; rw [fr.ev (x := .tmp 30) rfl, fr.ev (x := .tmp 33) rfl]; rfl)) rfl rfl ?_)
        intro a fr
        refine lst rfl (ow_alloc fr st rfl zv_42 rfl rfl _ (by rfl) ?_)
        intro a w b7 fr st
        refine lst rfl (ow_stN fr st 0 (vs := [.int .i64 (((x.toNat % 4 : Nat) : Int)), .int .i64 1, .int .i64 (((k % 14 : Nat) : Int))]) rfl rfl rfl rfl sz_42 rfl (Nat.le_of_ble_eq_true rfl) rfl ?_)
        intro w (st : St _ [] w [.blk b7 [.int .i64 (((x.toNat % 4 : Nat) : Int)), .int .i64 1, .int .i64 (((k % 14 : Nat) : Int))] 42, ro b5 (o6 + k * 1) [.int .i64 (y)], ro b3 (o4 + k * 1) [.int .u8 ((x.toNat : Int))], row slotC 3 42 w0.heap.size (.slice Ae (((List.range k).map (slotR ks)).length) ce) (((List.range k).map (slotR ks))), row valC 2 43 w0.heap.size (.slice Al (((List.range k).map (valR ks vs)).length) cl) (((List.range k).map (valR ks vs))), row valC 2 43 w0.heap.size (.slice Aw (((List.range k).map (wantR ks vs)).length) cw) (((List.range k).map (wantR ks vs))), .blk b2 [.int .i64 0, .int .i64 0, .slice Al (((List.range k).map (valR ks vs)).length) cl, .slice none 0 0] 45, .blk b1 [.int .i64 0, .int .i64 0, .slice none 0 0, .slice none 0 0, .slice none 0 0, .slice Ae (((List.range k).map (slotR ks)).length) ce, .int .i64 30] 62, els C8 1 (some ⟨b3, o4, none⟩) ks, els CI 1 (some ⟨b5, o6, none⟩) vs])
        refine wpList_nil ?_
        refine then_n ?_
        refine wp_seq ?_
        refine wp_seq ?_
        refine reg ?_
        refine lst rfl (ow_v fr (rn_move (fr.ev rfl)) rfl rfl ?_)
        intro a fr
        refine lst rfl (ow_v fr (rn_as (v' := .bool false) (rn_geq (fr.ev rfl) (fr.ev rfl)) (congrArg Value.bool (decide_eq_false (by omega)))) rfl rfl ?_)
        intro a fr
        refine wpList_nil ?_
        refine then_n ?_
        refine cond_f fr rfl rfl ?_
        refine wp_skip ?_
        refine then_n ?_
        refine wp_seq ?_
        refine reg ?_
        refine lst rfl (ow_v fr (fa_62_5 (fr.ev rfl)) rfl rfl ?_)
        intro a fr
        refine lst rfl (ow_v fr (rn_load (fr.ev rfl) Try.underlying37 rfl (st.cell 7 rfl rfl)) rfl rfl ?_)
        intro a fr
        refine lst rfl (ow_v fr (rn_loadN (cs := [.int .i64 (((x.toNat % 4 : Nat) : Int)), .int .i64 1, .int .i64 (((k % 14 : Nat) : Int))]) (fr.ev rfl) Try.underlying42 rfl sz_42 (st.blkrange 0 rfl 0 rfl)) rfl rfl ?_)
        intro a fr
        refine lst rfl (ow_bslice (E := 42) fr st rfl [.int .i64 (((x.toNat % 4 : Nat) : Int)), .int .i64 1, .int .i64 (((k % 14 : Nat) : Int))] (fun w => by simp only [List.map_toArray, List.map_cons, List.map_nil]; rw [fr.ev (x := .tmp 42) rfl]; kernel_rfl) rfl rfl ?_)
        intro a w b8 fr st
        refine lst rfl (ow_append1 fr st 4 0 (((((x.toNat % 4 : Nat) : Int), 1, ((k % 14 : Nat) : Int)) : SlotD)) rfl rfl rfl rfl rfl Try.underlying37 inf_42 (by rfl) (by decide) (fun _ => rfl) rfl (by (simp; omega)) (by unfold maxLen; (simp; omega)) (Nat.le_refl _) st.agr.size rfl rfl ?_)
        intro a w A9 c10 fr (st : St _ [] w [.blk b8 [.int .i64 (((x.toNat % 4 : Nat) : Int)), .int .i64 1, .int .i64 (((k % 14 : Nat) : Int))] 42, .blk b7 [.int .i64 (((x.toNat % 4 : Nat) : Int)), .int .i64 1, .int .i64 (((k % 14 : Nat) : Int))] 42, ro b5 (o6 + k * 1) [.int .i64 (y)], ro b3 (o4 + k * 1) [.int .u8 ((x.toNat : Int))], row slotC 3 42 w0.heap.size (.slice A9 ((((List.range k).map (slotR ks)) ++ [((((x.toNat % 4 : Nat) : Int), 1, ((k % 14 : Nat) : Int)) : SlotD)]).length) c10) ((((List.range k).map (slotR ks)) ++ [((((x.toNat % 4 : Nat) : Int), 1, ((k % 14 : Nat) : Int)) : SlotD)])), row valC 2 43 w0.heap.size (.slice Al (((List.range k).map (valR ks vs)).length) cl) (((List.range k).map (valR ks vs))), row valC 2 43 w0.heap.size (.slice Aw (((List.range k).map (wantR ks vs)).length) cw) (((List.range k).map (wantR ks vs))), .blk b2 [.int .i64 0, .int .i64 0, .slice Al (((List.range k).map (valR ks vs)).length) cl, .slice none 0 0] 45, .blk b1 [.int .i64 0, .int .i64 0, .slice none 0 0, .slice none 0 0, .slice none 0 0, .slice Ae (((List.range k).map (slotR ks)).length) ce, .int .i64 30] 62, els C8 1 (some ⟨b3, o4, none⟩) ks, els CI 1 (some ⟨b5, o6, none⟩) vs])
        refine lst rfl (ow_v fr (fa_62_5 (fr.ev rfl)) rfl rfl ?_)
        intro a fr
        refine lst rfl (ow_st fr st 8 rfl rfl rfl rfl sz_37 rfl rfl rfl ?_)
        intro w (st : St _ [] w [.blk b8 [.int .i64 (((x.toNat % 4 : Nat) : Int)), .int .i64 1, .int .i64 (((k % 14 : Nat) : Int))] 42, .blk b7 [.int .i64 (((x.toNat % 4 : Nat) : Int)), .int .i64 1, .int .i64 (((k % 14 : Nat) : Int))] 42, ro b5 (o6 + k * 1) [.int .i64 (y)], ro b3 (o4 + k * 1) [.int .u8 ((x.toNat : Int))], row slotC 3 42 w0.heap.size (.slice A9 ((((List.range k).map (slotR ks)) ++ [((((x.toNat % 4 : Nat) : Int), 1, ((k % 14 : Nat) : Int)) : SlotD)]).length) c10) ((((List.range k).map (slotR ks)) ++ [((((x.toNat % 4 : Nat) : Int), 1, ((k % 14 : Nat) : Int)) : SlotD)])), row valC 2 43 w0.heap.size (.slice Al (((List.range k).map (valR ks vs)).length) cl) (((List.range k).map (valR ks vs))), row valC 2 43 w0.heap.size (.slice Aw (((List.range k).map (wantR ks vs)).length) cw) (((List.range k).map (wantR ks vs))), .blk b2 [.int .i64 0, .int .i64 0, .slice Al (((List.range k).map (valR ks vs)).length) cl, .slice none 0 0] 45, .blk b1 [.int .i64 0, .int .i64 0, .slice none 0 0, .slice none 0 0, .slice none 0 0, .slice A9 ((((List.range k).map (slotR ks)) ++ [((((x.toNat % 4 : Nat) : Int), 1, ((k % 14 : Nat) : Int)) : SlotD)]).length) c10, .int .i64 30] 62, els C8 1 (some ⟨b3, o4, none⟩) ks, els CI 1 (some ⟨b5, o6, none⟩) vs])
        refine wpList_nil ?_
        refine then_n ?_
        refine wp_seq ?_
        refine dr_start (by kernel_rfl) st (.cons_cons _ (.cons_cons _ (.cons_cons _ (.cons_cons _ (.cons_cons _ (.cons_cons _ (.cons_cons _ (.cons_cons _ (.cons_cons _ (.cons_cons _ (.cons_cons _ .slnil))))))))))) ?_
        intro w st
        refine dr_take 0 rfl (by kernel_rfl) (by kernel_rfl) (by kernel_rfl) (fun _ _ _ h => h) fr rfl (st.sub (.cons_cons _ (.cons_cons _ (.cons_cons _ (.cons_cons _ (.cons_cons _ (.cons_cons _ (.cons_cons _ (.cons_cons _ (.cons_cons _ (.cons_cons _ (.cons_cons _ .slnil)))))))))))) (fun w st => fa_42_0 (fr.ev rfl)) rfl rfl ?_
        intro a fr
        refine dr_take 1 rfl (by kernel_rfl) (by kernel_rfl) (by kernel_rfl) (fun _ _ _ h => h) fr rfl (st.sub (.cons_cons _ (.cons_cons _ (.cons_cons _ (.cons_cons _ (.cons_cons _ (.cons_cons _ (.cons_cons _ (.cons_cons _ (.cons_cons _ (.cons_cons _ (.cons_cons _ .slnil)))))))))))) (fun w st => rn_load (fr.ev rfl) Try.underlying3 rfl (st.cell 1 rfl rfl)) rfl rfl ?_
        intro a fr
        refine dr_take 2 rfl (by kernel_rfl) (by kernel_rfl) (by kernel_rfl) (fun _ _ _ h => h) fr rfl (st.sub (.cons_cons _ (.cons_cons _ (.cons_cons _ (.cons_cons _ (.cons_cons _ (.cons_cons _ (.cons_cons _ (.cons_cons _ (.cons_cons _ (.cons_cons _ (.cons_cons _ .slnil)))))))))))) (fun w st => rn_max2 (c := (if (1 : Int) > ((x.toNat % 4 : Nat) : Int) then 1 else ((x.toNat % 4 : Nat) : Int))) (fr.ev rfl) (fr.ev rfl) (rfl)) rfl rfl ?_
        intro a fr
        refine dr_take 3 rfl (by kernel_rfl) (by kernel_rfl) (by kernel_rfl) (fun _ _ _ h => h) fr rfl (st.sub (.cons_cons _ (.cons_cons _ (.cons_cons _ (.cons_cons _ (.cons_cons _ (.cons_cons _ (.cons_cons _ (.cons_cons _ (.cons_cons _ (.cons_cons _ (.cons_cons _ .slnil)))))))))))) (fun w st => rn_move (fr.ev rfl)) rfl rfl ?_
        intro a fr
        refine dr_take 4 rfl (by kernel_rfl) (by kernel_rfl) (by kernel_rfl) (fun _ _ _ h => h) fr rfl (st.sub (.cons_cons _ (.cons_cons _ (.cons_cons _ (.cons_cons _ (.cons_cons _ (.cons_cons _ (.cons_cons _ (.cons_cons _ (.cons_cons _ (.cons_cons _ (.cons_cons _ .slnil)))))))))))) (fun w st => rn_move (fr.ev rfl)) rfl rfl ?_
        intro a fr
        refine dr_take 5 rfl (by kernel_rfl) (by kernel_rfl) (by kernel_rfl) (fun _ _ _ h => h) fr rfl (st.sub (.cons_cons _ (.cons_cons _ (.cons_cons _ (.cons_cons _ (.cons_cons _ (.cons_cons _ (.cons_cons _ (.cons_cons _ (.cons_cons _ (.cons_cons _ (.cons_cons _ .slnil)))))))))))) (fun w st => rn_at (i := k) (fr.ev rfl) (fr.ev rfl) Try.underlying25 sz_2 (by omega) (by rfl)) rfl rfl ?_
        intro a fr
        refine dr_take 6 rfl (by kernel_rfl) (by kernel_rfl) (by kernel_rfl) (fun _ _ _ h => h) fr rfl (st.sub (.cons_cons _ (.cons_cons _ (.cons_cons _ (.cons_cons _ (.cons_cons _ (.cons_cons _ (.cons_cons _ (.cons_cons _ (.cons_cons _ (.cons_cons _ (.cons_cons _ .slnil)))))))))))) (fun w st => rn_load (fr.ev rfl) Try.underlying2 rfl (st.rocell 2 rfl (j := 0) rfl)) rfl rfl ?_
        intro a fr
        refine dr_take 7 rfl (by kernel_rfl) (by kernel_rfl) (by kernel_rfl) (fun _ _ _ h => h) fr rfl (st.sub (.cons_cons _ (.cons_cons _ (.cons_cons _ (.cons_cons _ (.cons_cons _ (.cons_cons _ (.cons_cons _ (.cons_cons _ (.cons_cons _ (.cons_cons _ (.cons_cons _ .slnil)))))))))))) (fun w st => rn_build (cells := #[.int .i64 ((if (1 : Int) > ((x.toNat % 4 : Nat) : Int) then 1 else ((x.toNat % 4 : Nat) : Int))), .int .i64 (y)]) (by simp only [List.map_toArray, List.map_cons, List.map_nil]; rw [fr.ev (x := .tmp 48) rfl, fr.ev (x := .tmp 52) rfl]; rfl)) rfl rfl ?_
        intro a fr
        refine dr_one 8 (by kernel_rfl) rfl rfl (ow_alloc fr st rfl zv_43 rfl rfl _ (by rfl) ?_)
        intro a w b11 fr st
        refine ⟨st.sub (.cons _ (.cons_cons _ (.cons_cons _ (.cons_cons _ (.cons_cons _ (.cons_cons _ (.cons_cons _ (.cons_cons _ (.cons_cons _ (.cons_cons _ (.cons_cons _ (.cons_cons _ .slnil)))))))))))), ?_⟩
        refine dr_one 9 (by kernel_rfl) rfl rfl (ow_stN fr st 0 (vs := [.int .i64 ((if (1 : Int) > ((x.toNat % 4 : Nat) : Int) then 1 else ((x.toNat % 4 : Nat) : Int))), .int .i64 (y)]) rfl rfl rfl rfl sz_43 rfl (Nat.le_of_ble_eq_true rfl) rfl ?_)
        intro w (st : St _ [] w [.blk b11 [.int .i64 ((if (1 : Int) > ((x.toNat % 4 : Nat) : Int) then 1 else ((x.toNat % 4 : Nat) : Int))), .int .i64 (y)] 43, .blk b8 [.int .i64 (((x.toNat % 4 : Nat) : Int)), .int .i64 1, .int .i64 (((k % 14 : Nat) : Int))] 42, .blk b7 [.int .i64 (((x.toNat % 4 : Nat) : Int)), .int .i64 1, .int .i64 (((k % 14 : Nat) : Int))] 42, ro b5 (o6 + k * 1) [.int .i64 (y)], ro b3 (o4 + k * 1) [.int .u8 ((x.toNat : Int))], row slotC 3 42 w0.heap.size (.slice A9 ((((List.range k).map (slotR ks)) ++ [((((x.toNat % 4 : Nat) : Int), 1, ((k % 14 : Nat) : Int)) : SlotD)]).length) c10) ((((List.range k).map (slotR ks)) ++ [((((x.toNat % 4 : Nat) : Int), 1, ((k % 14 : Nat) : Int)) : SlotD)])), row valC 2 43 w0.heap.size (.slice Al (((List.range k).map (valR ks vs)).length) cl) (((List.range k).map (valR ks vs))), row valC 2 43 w0.heap.size (.slice Aw (((List.range k).map (wantR ks vs)).length) cw) (((List.range k).map (wantR ks vs))), .blk b2 [.int .i64 0, .int .i64 0, .slice Al (((List.range k).map (valR ks vs)).length) cl, .slice none 0 0] 45, .blk b1 [.int .i64 0, .int .i64 0, .slice none 0 0, .slice none 0 0, .slice none 0 0, .slice A9 ((((List.range k).map (slotR ks)) ++ [((((x.toNat % 4 : Nat) : Int), 1, ((k % 14 : Nat) : Int)) : SlotD)]).length) c10, .int .i64 30] 62, els C8 1 (some ⟨b3, o4, none⟩) ks, els CI 1 (some ⟨b5, o6, none⟩) vs])
        refine ⟨st.sub (.cons _ (.cons_cons _ (.cons_cons _ (.cons_cons _ (.cons_cons _ (.cons_cons _ (.cons_cons _ (.cons_cons _ (.cons_cons _ (.cons_cons _ (.cons_cons _ (.cons_cons _ .slnil)))))))))))), ?_⟩
        refine dr_done (by kernel_rfl) ?_
        refine then_n ?_
        refine wp_seq ?_
        refine reg ?_
        refine lst rfl (ow_v fr (fa_45_2 (fr.ev rfl)) rfl rfl ?_)
        intro a fr
        refine lst rfl (ow_v fr (rn_load (fr.ev rfl) Try.underlying40 rfl (st.cell 8 rfl rfl)) rfl rfl ?_)
        intro a fr
        refine lst rfl (ow_v fr (rn_loadN (cs := [.int .i64 ((if (1 : Int) > ((x.toNat % 4 : Nat) : Int) then 1 else ((x.toNat % 4 : Nat) : Int))), .int .i64 (y)]) (fr.ev rfl) Try.underlying43 rfl sz_43 (st.blkrange 0 rfl 0 rfl)) rfl rfl ?_)
        intro a fr
        refine lst rfl (ow_bslice (E := 43) fr st rfl [.int .i64 ((if (1 : Int) > ((x.toNat % 4 : Nat) : Int) then 1 else ((x.toNat % 4 : Nat) : Int))), .int .i64 (y)] (fun w => by simp only [List.map_toArray, List.map_cons, List.map_nil]; rw [fr.ev (x := .tmp 56) rfl]; kernel_rfl) rfl rfl ?_)
        intro a w b12 fr st
        refine lst rfl (ow_append1 fr st 7 0 ((((if (1 : Int) > ((x.toNat % 4 : Nat) : Int) then 1 else ((x.toNat % 4 : Nat) : Int)), y) : ValD)) rfl rfl rfl rfl rfl Try.underlying40 inf_43 (by rfl) (by decide) (fun _ => rfl) rfl (by (simp; omega)) (by unfold maxLen; (simp; omega)) (Nat.le_refl _) st.agr.size rfl rfl ?_)
        intro a w A13 c14 fr (st : St _ [] w [.blk b12 [.int .i64 ((if (1 : Int) > ((x.toNat % 4 : Nat) : Int) then 1 else ((x.toNat % 4 : Nat) : Int))), .int .i64 (y)] 43, .blk b11 [.int .i64 ((if (1 : Int) > ((x.toNat % 4 : Nat) : Int) then 1 else ((x.toNat % 4 : Nat) : Int))), .int .i64 (y)] 43, .blk b8 [.int .i64 (((x.toNat % 4 : Nat) : Int)), .int .i64 1, .int .i64 (((k % 14 : Nat) : Int))] 42, .blk b7 [.int .i64 (((x.toNat % 4 : Nat) : Int)), .int .i64 1, .int .i64 (((k % 14 : Nat) : Int))] 42, ro b5 (o6 + k * 1) [.int .i64 (y)], ro b3 (o4 + k * 1) [.int .u8 ((x.toNat : Int))], row slotC 3 42 w0.heap.size (.slice A9 ((((List.range k).map (slotR ks)) ++ [((((x.toNat % 4 : Nat) : Int), 1, ((k % 14 : Nat) : Int)) : SlotD)]).length) c10) ((((List.range k).map (slotR ks)) ++ [((((x.toNat % 4 : Nat) : Int), 1, ((k % 14 : Nat) : Int)) : SlotD)])), row valC 2 43 w0.heap.size (.slice A13 ((((List.range k).map (valR ks vs)) ++ [(((if (1 : Int) > ((x.toNat % 4 : Nat) : Int) then 1 else ((x.toNat % 4 : Nat) : Int)), y) : ValD)]).length) c14) ((((List.range k).map (valR ks vs)) ++ [(((if (1 : Int) > ((x.toNat % 4 : Nat) : Int) then 1 else ((x.toNat % 4 : Nat) : Int)), y) : ValD)])), row valC 2 43 w0.heap.size (.slice Aw (((List.range k).map (wantR ks vs)).length) cw) (((List.range k).map (wantR ks vs))), .blk b2 [.int .i64 0, .int .i64 0, .slice Al (((List.range k).map (valR ks vs)).length) cl, .slice none 0 0] 45, .blk b1 [.int .i64 0, .int .i64 0, .slice none 0 0, .slice none 0 0, .slice none 0 0, .slice A9 ((((List.range k).map (slotR ks)) ++ [((((x.toNat % 4 : Nat) : Int), 1, ((k % 14 : Nat) : Int)) : SlotD)]).length) c10, .int .i64 30] 62, els C8 1 (some ⟨b3, o4, none⟩) ks, els CI 1 (some ⟨b5, o6, none⟩) vs])
        refine lst rfl (ow_v fr (fa_45_2 (fr.ev rfl)) rfl rfl ?_)
        intro a fr
        refine lst rfl (ow_st fr st 9 rfl rfl rfl rfl sz_40 rfl rfl rfl ?_)
        intro w (st : St _ [] w [.blk b12 [.int .i64 ((if (1 : Int) > ((x.toNat % 4 : Nat) : Int) then 1 else ((x.toNat % 4 : Nat) : Int))), .int .i64 (y)] 43, .blk b11 [.int .i64 ((if (1 : Int) > ((x.toNat % 4 : Nat) : Int) then 1 else ((x.toNat % 4 : Nat) : Int))), .int .i64 (y)] 43, .blk b8 [.int .i64 (((x.toNat % 4 : Nat) : Int)), .int .i64 1, .int .i64 (((k % 14 : Nat) : Int))] 42, .blk b7 [.int .i64 (((x.toNat % 4 : Nat) : Int)), .int .i64 1, .int .i64 (((k % 14 : Nat) : Int))] 42, ro b5 (o6 + k * 1) [.int .i64 (y)], ro b3 (o4 + k * 1) [.int .u8 ((x.toNat : Int))], row slotC 3 42 w0.heap.size (.slice A9 ((((List.range k).map (slotR ks)) ++ [((((x.toNat % 4 : Nat) : Int), 1, ((k % 14 : Nat) : Int)) : SlotD)]).length) c10) ((((List.range k).map (slotR ks)) ++ [((((x.toNat % 4 : Nat) : Int), 1, ((k % 14 : Nat) : Int)) : SlotD)])), row valC 2 43 w0.heap.size (.slice A13 ((((List.range k).map (valR ks vs)) ++ [(((if (1 : Int) > ((x.toNat % 4 : Nat) : Int) then 1 else ((x.toNat % 4 : Nat) : Int)), y) : ValD)]).length) c14) ((((List.range k).map (valR ks vs)) ++ [(((if (1 : Int) > ((x.toNat % 4 : Nat) : Int) then 1 else ((x.toNat % 4 : Nat) : Int)), y) : ValD)])), row valC 2 43 w0.heap.size (.slice Aw (((List.range k).map (wantR ks vs)).length) cw) (((List.range k).map (wantR ks vs))), .blk b2 [.int .i64 0, .int .i64 0, .slice A13 ((((List.range k).map (valR ks vs)) ++ [(((if (1 : Int) > ((x.toNat % 4 : Nat) : Int) then 1 else ((x.toNat % 4 : Nat) : Int)), y) : ValD)]).length) c14, .slice none 0 0] 45, .blk b1 [.int .i64 0, .int .i64 0, .slice none 0 0, .slice none 0 0, .slice none 0 0, .slice A9 ((((List.range k).map (slotR ks)) ++ [((((x.toNat % 4 : Nat) : Int), 1, ((k % 14 : Nat) : Int)) : SlotD)]).length) c10, .int .i64 30] 62, els C8 1 (some ⟨b3, o4, none⟩) ks, els CI 1 (some ⟨b5, o6, none⟩) vs])
        refine wpList_nil ?_
        refine then_n ?_
        refine wp_seq ?_
        refine wp_seq ?_
        refine reg ?_
        refine lst rfl (ow_v fr (fa_42_0 (fr.ev rfl)) rfl rfl ?_)
        intro a fr
        refine lst rfl (ow_v fr (rn_load (fr.ev rfl) Try.underlying3 rfl (st.cell 3 rfl rfl)) rfl rfl ?_)
        intro a fr
        refine lst rfl (ow_v fr (rn_as (v' := .bool true) (rn_eql (fr.ev rfl) (fr.ev rfl)) (congrArg Value.bool (by simp; omega))) rfl rfl ?_)
        intro a fr
        refine wpList_nil ?_
        refine then_n ?_
        refine cond_t fr rfl rfl ?_
        refine reg ?_
        refine lst rfl (ow_v fr (rn_build (cells := #[.int .i64 0, .int .i64 0]) (by simp only [List.map_toArray, List.map_cons, List.map_nil]; rfl)) rfl rfl ?_)
        intro a fr
        refine lst rfl (ow_stN fr st 1 (vs := [.int .i64 0, .int .i64 0]) rfl rfl rfl rfl sz_43 rfl (Nat.le_of_ble_eq_true rfl) rfl ?_)
        intro w (st : St _ [] w [.blk b12 [.int .i64 ((if (1 : Int) > ((x.toNat % 4 : Nat) : Int) then 1 else ((x.toNat % 4 : Nat) : Int))), .int .i64 (y)] 43, .blk b11 [.int .i64 0, .int .i64 0] 43, .blk b8 [.int .i64 (((x.toNat % 4 : Nat) : Int)), .int .i64 1, .int .i64 (((k % 14 : Nat) : Int))] 42, .blk b7 [.int .i64 (((x.toNat % 4 : Nat) : Int)), .int .i64 1, .int .i64 (((k % 14 : Nat) : Int))] 42, ro b5 (o6 + k * 1) [.int .i64 (y)], ro b3 (o4 + k * 1) [.int .u8 ((x.toNat : Int))], row slotC 3 42 w0.heap.size (.slice A9 ((((List.range k).map (slotR ks)) ++ [((((x.toNat % 4 : Nat) : Int), 1, ((k % 14 : Nat) : Int)) : SlotD)]).length) c10) ((((List.range k).map (slotR ks)) ++ [((((x.toNat % 4 : Nat) : Int), 1, ((k % 14 : Nat) : Int)) : SlotD)])), row valC 2 43 w0.heap.size (.slice A13 ((((List.range k).map (valR ks vs)) ++ [(((if (1 : Int) > ((x.toNat % 4 : Nat) : Int) then 1 else ((x.toNat % 4 : Nat) : Int)), y) : ValD)]).length) c14) ((((List.range k).map (valR ks vs)) ++ [(((if (1 : Int) > ((x.toNat % 4 : Nat) : Int) then 1 else ((x.toNat % 4 : Nat) : Int)), y) : ValD)])), row valC 2 43 w0.heap.size (.slice Aw (((List.range k).map (wantR ks vs)).length) cw) (((List.range k).map (wantR ks vs))), .blk b2 [.int .i64 0, .int .i64 0, .slice A13 ((((List.range k).map (valR ks vs)) ++ [(((if (1 : Int) > ((x.toNat % 4 : Nat) : Int) then 1 else ((x.toNat % 4 : Nat) : Int)), y) : ValD)]).length) c14, .slice none 0 0] 45, .blk b1 [.int .i64 0, .int .i64 0, .slice none 0 0, .slice none 0 0, .slice none 0 0, .slice A9 ((((List.range k).map (slotR ks)) ++ [((((x.toNat % 4 : Nat) : Int), 1, ((k % 14 : Nat) : Int)) : SlotD)]).length) c10, .int .i64 30] 62, els C8 1 (some ⟨b3, o4, none⟩) ks, els CI 1 (some ⟨b5, o6, none⟩) vs])
        refine wpList_nil ?_
        refine then_n ?_
        refine reg ?_
        refine lst rfl (ow_v fr (rn_move (fr.ev rfl)) rfl rfl ?_)
        intro a fr
        refine lst rfl (ow_v fr (rn_loadN (cs := [.int .i64 0, .int .i64 0]) (fr.ev rfl) Try.underlying43 rfl sz_43 (st.blkrange 1 rfl 0 rfl)) rfl rfl ?_)
        intro a fr
        refine lst rfl (ow_bslice (E := 43) fr st rfl [.int .i64 0, .int .i64 0] (fun w => by simp only [List.map_toArray, List.map_cons, List.map_nil]; rw [fr.ev (x := .tmp 65) rfl]; kernel_rfl) rfl rfl ?_)
        intro a w b15 fr st
        refine lst rfl (ow_append1 fr st 9 0 (((0, 0) : ValD)) rfl rfl rfl rfl rfl Try.underlying40 inf_43 (by rfl) (by decide) (fun _ => rfl) rfl (by (simp; omega)) (by unfold maxLen; (simp; omega)) (Nat.le_refl _) st.agr.size rfl rfl ?_)
        intro a w A16 c17 fr (st : St _ [] w [.blk b15 [.int .i64 0, .int .i64 0] 43, .blk b12 [.int .i64 ((if (1 : Int) > ((x.toNat % 4 : Nat) : Int) then 1 else ((x.toNat % 4 : Nat) : Int))), .int .i64 (y)] 43, .blk b11 [.int .i64 0, .int .i64 0] 43, .blk b8 [.int .i64 (((x.toNat % 4 : Nat) : Int)), .int .i64 1, .int .i64 (((k % 14 : Nat) : Int))] 42, .blk b7 [.int .i64 (((x.toNat % 4 : Nat) : Int)), .int .i64 1, .int .i64 (((k % 14 : Nat) : Int))] 42, ro b5 (o6 + k * 1) [.int .i64 (y)], ro b3 (o4 + k * 1) [.int .u8 ((x.toNat : Int))], row slotC 3 42 w0.heap.size (.slice A9 ((((List.range k).map (slotR ks)) ++ [((((x.toNat % 4 : Nat) : Int), 1, ((k % 14 : Nat) : Int)) : SlotD)]).length) c10) ((((List.range k).map (slotR ks)) ++ [((((x.toNat % 4 : Nat) : Int), 1, ((k % 14 : Nat) : Int)) : SlotD)])), row valC 2 43 w0.heap.size (.slice A13 ((((List.range k).map (valR ks vs)) ++ [(((if (1 : Int) > ((x.toNat % 4 : Nat) : Int) then 1 else ((x.toNat % 4 : Nat) : Int)), y) : ValD)]).length) c14) ((((List.range k).map (valR ks vs)) ++ [(((if (1 : Int) > ((x.toNat % 4 : Nat) : Int) then 1 else ((x.toNat % 4 : Nat) : Int)), y) : ValD)])), row valC 2 43 w0.heap.size (.slice A16 ((((List.range k).map (wantR ks vs)) ++ [((0, 0) : ValD)]).length) c17) ((((List.range k).map (wantR ks vs)) ++ [((0, 0) : ValD)])), .blk b2 [.int .i64 0, .int .i64 0, .slice A13 ((((List.range k).map (valR ks vs)) ++ [(((if (1 : Int) > ((x.toNat % 4 : Nat) : Int) then 1 else ((x.toNat % 4 : Nat) : Int)), y) : ValD)]).length) c14, .slice none 0 0] 45, .blk b1 [.int .i64 0, .int .i64 0, .slice none 0 0, .slice none 0 0, .slice none 0 0, .slice A9 ((((List.range k).map (slotR ks)) ++ [((((x.toNat % 4 : Nat) : Int), 1, ((k % 14 : Nat) : Int)) : SlotD)]).length) c10, .int .i64 30] 62, els C8 1 (some ⟨b3, o4, none⟩) ks, els CI 1 (some ⟨b5, o6, none⟩) vs])
        refine lst rfl (ow_v fr (rn_assign (fr.ev rfl)) rfl rfl ?_)
        intro a fr
        refine wpList_nil ?_
        refine blk_n ?_
        refine then_n ?_
        refine reg ?_
        refine lst rfl (ow_v fr (rn_add (c := ((k + 1 : Nat) : Int)) (fr.ev rfl) (fr.ev rfl) (wr_i64e (by omega) (by omega) (by omega))) rfl rfl ?_)
        intro a fr
        refine lst rfl (ow_v fr (rn_move (fr.ev rfl)) rfl rfl ?_)
        intro a fr
        refine wpList_nil ?_
        have eq_ : (((List.range k).map (slotR ks)) ++ [((((x.toNat % 4 : Nat) : Int), 1, ((k % 14 : Nat) : Int)) : SlotD)]) = (List.range (k + 1)).map (slotR ks) := by rw [List.range_succ, List.map_append, List.map_singleton]; congr 2; first | exact qs.symm | (simp [wantR, qk, qv])
        rw [eq_] at fr st
        clear eq_
        have eq_ : (((List.range k).map (valR ks vs)) ++ [(((if (1 : Int) > ((x.toNat % 4 : Nat) : Int) then 1 else ((x.toNat % 4 : Nat) : Int)), y) : ValD)]) = (List.range (k + 1)).map (valR ks vs) := by rw [List.range_succ, List.map_append, List.map_singleton]; congr 2; first | exact qv.symm | (simp [wantR, qk, qv])
        rw [eq_] at fr st
        clear eq_
        have eq_ : (((List.range k).map (wantR ks vs)) ++ [((0, 0) : ValD)]) = (List.range (k + 1)).map (wantR ks vs) := by rw [List.range_succ, List.map_append, List.map_singleton]; congr 2; first | exact qw.symm | (simp [wantR, qk, qv])
        rw [eq_] at fr st
        clear eq_
        refine then_n ⟨m - (k + 1), ?_, k + 1, A9, A13, A16, c10, c14, c17, by omega, rfl, fr.prune ⟨rfl, rfl, rfl, rfl, rfl, rfl, rfl, trivial⟩, st.sub (.cons _ (.cons _ (.cons _ (.cons _ (.cons _ (.cons _ (.cons _ (.cons_cons _ (.cons_cons _ (.cons_cons _ (.cons_cons _ (.cons_cons _ (.cons_cons _ (.cons_cons _ .slnil))))))))))))))⟩
        omega
      · have qs : slotR ks k = (((x.toNat % 4 : Nat) : Int), 1, ((k % 14 : Nat) : Int)) := by unfold slotR; rw [if_pos h14, qk]
        have qw : wantR ks vs k = (if (1 : Int) > ((x.toNat % 4 : Nat) : Int) then 1 else ((x.toNat % 4 : Nat) : Int), y) := by unfold wantR; rw [if_neg (by rw [qk]; omega), qv]
        refine wp_seq ?_
        refine reg ?_
        refine lst rfl (ow_v fr (rn_as (v' := .bool true) (rn_lss (fr.ev rfl) (fr.ev rfl)) (congrArg Value.bool (decide_eq_true (by omega)))) rfl rfl ?_)
        intro a fr
        refine wpList_nil ?_
        refine then_n ?_
        refine wp_seq ?_
        refine cond_t fr rfl rfl ?_
        refine wp_skip ?_
        refine then_n ?_
        refine wp_seq ?_
        refine wp_block ?_
        refine wp_seq ?_
        refine reg ?_
        refine lst rfl (ow_v fr (rn_move (fr.ev rfl)) rfl rfl ?_)
        intro a fr
        refine lst rfl (ow_v fr (rn_assign (fr.ev rfl)) rfl rfl ?_)
        intro a fr
        refine wpList_nil ?_
        refine then_n ?_
        refine wp_seq ?_
        refine reg ?_
        refine lst rfl (ow_v fr (rn_move (fr.ev rfl)) rfl rfl ?_)
        intro a fr
        refine lst rfl (ow_v fr (rn_move (fr.ev rfl)) rfl rfl ?_)
        intro a fr
        refine lst rfl (ow_v fr (rn_at (i := k) (fr.ev rfl) (fr.ev rfl) Try.underlying36 sz_5 (by omega) (by rfl)) rfl rfl ?_)
        intro a fr
        refine lst rfl (ow_v fr (rn_load (fr.ev rfl) Try.underlying5 rfl (st.rocell 1 rfl (j := 0) rfl)) rfl rfl ?_)
        intro a fr
        refine lst rfl (ow_v fr (rn_conv (c := (x.toNat : Int)) (fr.ev rfl) (by kernel_rfl) Try.underlying3 (wr_i64 _ (by omega) (by omega))) rfl rfl ?_)
        intro a fr
        refine lst rfl (ow_v fr (rn_rem (c := ((x.toNat % 4 : Nat) : Int)) (fr.ev rfl) (fr.ev rfl) (by decide) (rm_nat (a := x.toNat) (m := 4) rfl rfl)) rfl rfl ?_)
        intro a fr
        refine lst rfl (ow_v fr (rn_move (fr.ev rfl)) rfl rfl ?_)
        intro a fr
        refine lst rfl (ow_v fr (rn_rem (c := ((k % 14 : Nat) : Int)) (fr.ev rfl) (fr.ev rfl) (by decide) (rm_nat (a := k) (m := 14) rfl rfl)) rfl rfl ?_)
        intro a fr
        refine lst rfl (ow_v fr (rn_build (cells := #[.int .i64 1, .int .i64 (((k % 14 : Nat) : Int))]) (by simp only [List.map_toArray, List.map_cons, List.map_nil]; rw [fr.ev (x := .tmp 32) rfl]; rfl)) rfl rfl ?_)
        intro a fr
        refine lst rfl (ow_v fr (rn_build (cells := #[.int .i64 (((x.toNat % 4 : Nat) : Int)), .int .i64 1, .int .i64 (((k % 14 : Nat) : Int))]) (by simp only [List.map_toArray, List.map_cons, List.map_nil]; rw [fr.ev (x := .tmp 30) rfl, fr.ev (x := .tmp 33) rfl]; rfl)) rfl rfl ?_)
        intro a fr
        refine lst rfl (ow_alloc fr st rfl zv_42 rfl rfl _ (by rfl) ?_)
        intro a w b18 fr st
        refine lst rfl (ow_stN fr st 0 (vs := [.int .i64 (((x.toNat % 4 : Nat) : Int)), .int .i64 1, .int .i64 (((k % 14 : Nat) : Int))]) rfl rfl rfl rfl sz_42 rfl (Nat.le_of_ble_eq_true rfl) rfl ?_)
        intro w (st : St _ [] w [.blk b18 [.int .i64 (((x.toNat % 4 : Nat) : Int)), .int .i64 1, .int .i64 (((k % 14 : Nat) : Int))] 42, ro b5 (o6 + k * 1) [.int .i64 (y)], ro b3 (o4 + k * 1) [.int .u8 ((x.toNat : Int))], row slotC 3 42 w0.heap.size (.slice Ae (((List.range k).map (slotR ks)).length) ce) (((List.range k).map (slotR ks))), row valC 2 43 w0.heap.size (.slice Al (((List.range k).map (valR ks vs)).length) cl) (((List.range k).map (valR ks vs))), row valC 2 43 w0.heap.size (.slice Aw (((List.range k).map (wantR ks vs)).length) cw) (((List.range k).map (wantR ks vs))), .blk b2 [.int .i64 0, .int .i64 0, .slice Al (((List.range k).map (valR ks vs)).length) cl, .slice none 0 0] 45, .blk b1 [.int .i64 0, .int .i64 0, .slice none 0 0, .slice none 0 0, .slice none 0 0, .slice Ae (((List.range k).map (slotR ks)).length) ce, .int .i64 30] 62, els C8 1 (some ⟨b3, o4, none⟩) ks, els CI 1 (some ⟨b5, o6, none⟩) vs])
        refine wpList_nil ?_
        refine then_n ?_
        refine wp_seq ?_
        refine wp_seq ?_
        refine reg ?_
        refine lst rfl (ow_v fr (rn_move (fr.ev rfl)) rfl rfl ?_)
        intro a fr
        refine lst rfl (ow_v fr (rn_as (v' := .bool false) (rn_geq (fr.ev rfl) (fr.ev rfl)) (congrArg Value.bool (decide_eq_false (by omega)))) rfl rfl ?_)
        intro a fr
        refine wpList_nil ?_
        refine then_n ?_
        refine cond_f fr rfl rfl ?_
        refine wp_skip ?_
        refine then_n ?_
        refine wp_seq ?_
        refine reg ?_
        refine lst rfl (ow_v fr (fa_62_5 (fr.ev rfl)) rfl rfl ?_)
        intro a fr
        refine lst rfl (ow_v fr (rn_load (fr.ev rfl) Try.underlying37 rfl (st.cell 7 rfl rfl)) rfl rfl ?_)
        intro a fr
        refine lst rfl (ow_v fr (rn_loadN (cs := [.int .i64 (((x.toNat % 4 : Nat) : Int)), .int .i64 1, .int .i64 (((k % 14 : Nat) : Int))]) (fr.ev rfl) Try.underlying42 rfl sz_42 (st.blkrange 0 rfl 0 rfl)) rfl rfl ?_)
        intro a fr
        refine lst rfl (ow_bslice (E := 42) fr st rfl [.int .i64 (((x.toNat % 4 : Nat) : Int)), .int .i64 1, .int .i64 (((k % 14 : Nat) : Int))] (fun w => by simp only [List.map_toArray, List.map_cons, List.map_nil]; rw [fr.ev (x := .tmp 42) rfl]; kernel_rfl) rfl rfl ?_)
        intro a w b19 fr st
        refine lst rfl (ow_append1 fr st 4 0 (((((x.toNat % 4 : Nat) : Int), 1, ((k % 14 : Nat) : Int)) : SlotD)) rfl rfl rfl rfl rfl Try.underlying37 inf_42 (by rfl) (by decide) (fun _ => rfl) rfl (by (simp; omega)) (by unfold maxLen; (simp; omega)) (Nat.le_refl _) st.agr.size rfl rfl ?_)
        intro a w A20 c21 fr (st : St _ [] w [.blk b19 [.int .i64 (((x.toNat % 4 : Nat) : Int)), .int .i64 1, .int .i64 (((k % 14 : Nat) : Int))] 42, .blk b18 [.int .i64 (((x.toNat % 4 : Nat) : Int)), .int .i64 1, .int .i64 (((k % 14 : Nat) : Int))] 42, ro b5 (o6 + k * 1) [.int .i64 (y)], ro b3 (o4 + k * 1) [.int .u8 ((x.toNat : Int))], row slotC 3 42 w0.heap.size (.slice A20 ((((List.range k).map (slotR ks)) ++ [((((x.toNat % 4 : Nat) : Int), 1, ((k % 14 : Nat) : Int)) : SlotD)]).length) c21) ((((List.range k).map (slotR ks)) ++ [((((x.toNat % 4 : Nat) : Int), 1, ((k % 14 : Nat) : Int)) : SlotD)])), row valC 2 43 w0.heap.size (.slice Al (((List.range k).map (valR ks vs)).length) cl) (((List.range k).map (valR ks vs))), row valC 2 43 w0.heap.size (.slice Aw (((List.range k).map (wantR ks vs)).length) cw) (((List.range k).map (wantR ks vs))), .blk b2 [.int .i64 0, .int .i64 0, .slice Al (((List.range k).map (valR ks vs)).length) cl, .slice none 0 0] 45, .blk b1 [.int .i64 0, .int .i64 0, .slice none 0 0, .slice none 0 0, .slice none 0 0, .slice Ae (((List.range k).map (slotR ks)).length) ce, .int .i64 30] 62, els C8 1 (some ⟨b3, o4, none⟩) ks, els CI 1 (some ⟨b5, o6, none⟩) vs])
        refine lst rfl (ow_v fr (fa_62_5 (fr.ev rfl)) rfl rfl ?_)
        intro a fr
        refine lst rfl (ow_st fr st 8 rfl rfl rfl rfl sz_37 rfl rfl rfl ?_)
        intro w (st : St _ [] w [.blk b19 [.int .i64 (((x.toNat % 4 : Nat) : Int)), .int .i64 1, .int .i64 (((k % 14 : Nat) : Int))] 42, .blk b18 [.int .i64 (((x.toNat % 4 : Nat) : Int)), .int .i64 1, .int .i64 (((k % 14 : Nat) : Int))] 42, ro b5 (o6 + k * 1) [.int .i64 (y)], ro b3 (o4 + k * 1) [.int .u8 ((x.toNat : Int))], row slotC 3 42 w0.heap.size (.slice A20 ((((List.range k).map (slotR ks)) ++ [((((x.toNat % 4 : Nat) : Int), 1, ((k % 14 : Nat) : Int)) : SlotD)]).length) c21) ((((List.range k).map (slotR ks)) ++ [((((x.toNat % 4 : Nat) : Int), 1, ((k % 14 : Nat) : Int)) : SlotD)])), row valC 2 43 w0.heap.size (.slice Al (((List.range k).map (valR ks vs)).length) cl) (((List.range k).map (valR ks vs))), row valC 2 43 w0.heap.size (.slice Aw (((List.range k).map (wantR ks vs)).length) cw) (((List.range k).map (wantR ks vs))), .blk b2 [.int .i64 0, .int .i64 0, .slice Al (((List.range k).map (valR ks vs)).length) cl, .slice none 0 0] 45, .blk b1 [.int .i64 0, .int .i64 0, .slice none 0 0, .slice none 0 0, .slice none 0 0, .slice A20 ((((List.range k).map (slotR ks)) ++ [((((x.toNat % 4 : Nat) : Int), 1, ((k % 14 : Nat) : Int)) : SlotD)]).length) c21, .int .i64 30] 62, els C8 1 (some ⟨b3, o4, none⟩) ks, els CI 1 (some ⟨b5, o6, none⟩) vs])
        refine wpList_nil ?_
        refine then_n ?_
        refine wp_seq ?_
        refine dr_start (by kernel_rfl) st (.cons_cons _ (.cons_cons _ (.cons_cons _ (.cons_cons _ (.cons_cons _ (.cons_cons _ (.cons_cons _ (.cons_cons _ (.cons_cons _ (.cons_cons _ (.cons_cons _ .slnil))))))))))) ?_
        intro w st
        refine dr_take 0 rfl (by kernel_rfl) (by kernel_rfl) (by kernel_rfl) (fun _ _ _ h => h) fr rfl (st.sub (.cons_cons _ (.cons_cons _ (.cons_cons _ (.cons_cons _ (.cons_cons _ (.cons_cons _ (.cons_cons _ (.cons_cons _ (.cons_cons _ (.cons_cons _ (.cons_cons _ .slnil)))))))))))) (fun w st => fa_42_0 (fr.ev rfl)) rfl rfl ?_
        intro a fr
        refine dr_take 1 rfl (by kernel_rfl) (by kernel_rfl) (by kernel_rfl) (fun _ _ _ h => h) fr rfl (st.sub (.cons_cons _ (.cons_cons _ (.cons_cons _ (.cons_cons _ (.cons_cons _ (.cons_cons _ (.cons_cons _ (.cons_cons _ (.cons_cons _ (.cons_cons _ (.cons_cons _ .slnil)))))))))))) (fun w st => rn_load (fr.ev rfl) Try.underlying3 rfl (st.cell 1 rfl rfl)) rfl rfl ?_
        intro a fr
        refine dr_take 2 rfl (by kernel_rfl) (by kernel_rfl) (by kernel_rfl) (fun _ _ _ h => h) fr rfl (st.sub (.cons_cons _ (.cons_cons _ (.cons_cons _ (.cons_cons _ (.cons_cons _ (.cons_cons _ (.cons_cons _ (.cons_cons _ (.cons_cons _ (.cons_cons _ (.cons_cons _ .slnil)))))))))))) (fun w st => rn_max2 (c := (if (1 : Int) > ((x.toNat % 4 : Nat) : Int) then 1 else ((x.toNat % 4 : Nat) : Int))) (fr.ev rfl) (fr.ev rfl) (rfl)) rfl rfl ?_
        intro a fr
        refine dr_take 3 rfl (by kernel_rfl) (by kernel_rfl) (by kernel_rfl) (fun _ _ _ h => h) fr rfl (st.sub (.cons_cons _ (.cons_cons _ (.cons_cons _ (.cons_cons _ (.cons_cons _ (.cons_cons _ (.cons_cons _ (.cons_cons _ (.cons_cons _ (.cons_cons _ (.cons_cons _ .slnil)))))))))))) (fun w st => rn_move (fr.ev rfl)) rfl rfl ?_
        intro a fr
        refine dr_take 4 rfl (by kernel_rfl) (by kernel_rfl) (by kernel_rfl) (fun _ _ _ h => h) fr rfl (st.sub (.cons_cons _ (.cons_cons _ (.cons_cons _ (.cons_cons _ (.cons_cons _ (.cons_cons _ (.cons_cons _ (.cons_cons _ (.cons_cons _ (.cons_cons _ (.cons_cons _ .slnil)))))))))))) (fun w st => rn_move (fr.ev rfl)) rfl rfl ?_
        intro a fr
        refine dr_take 5 rfl (by kernel_rfl) (by kernel_rfl) (by kernel_rfl) (fun _ _ _ h => h) fr rfl (st.sub (.cons_cons _ (.cons_cons _ (.cons_cons _ (.cons_cons _ (.cons_cons _ (.cons_cons _ (.cons_cons _ (.cons_cons _ (.cons_cons _ (.cons_cons _ (.cons_cons _ .slnil)))))))))))) (fun w st => rn_at (i := k) (fr.ev rfl) (fr.ev rfl) Try.underlying25 sz_2 (by omega) (by rfl)) rfl rfl ?_
        intro a fr
        refine dr_take 6 rfl (by kernel_rfl) (by kernel_rfl) (by kernel_rfl) (fun _ _ _ h => h) fr rfl (st.sub (.cons_cons _ (.cons_cons _ (.cons_cons _ (.cons_cons _ (.cons_cons _ (.cons_cons _ (.cons_cons _ (.cons_cons _ (.cons_cons _ (.cons_cons _ (.cons_cons _ .slnil)))))))))))) (fun w st => rn_load (fr.ev rfl) Try.underlying2 rfl (st.rocell 2 rfl (j := 0) rfl)) rfl rfl ?_
        intro a fr
        refine dr_take 7 rfl (by kernel_rfl) (by kernel_rfl) (by kernel_rfl) (fun _ _ _ h => h) fr rfl (st.sub (.cons_cons _ (.cons_cons _ (.cons_cons _ (.cons_cons _ (.cons_cons _ (.cons_cons _ (.cons_cons _ (.cons_cons _ (.cons_cons _ (.cons_cons _ (.cons_cons _ .slnil)))))))))))) (fun w st => rn_build (cells := #[.int .i64 ((if (1 : Int) > ((x.toNat % 4 : Nat) : Int) then 1 else ((x.toNat % 4 : Nat) : Int))), .int .i64 (y)]) (by simp only [List.map_toArray, List.map_cons, List.map_nil]; rw [fr.ev (x := .tmp 48) rfl, fr.ev (x := .tmp 52) rfl]; rfl)) rfl rfl ?_
        intro a fr
        refine dr_one 8 (by kernel_rfl) rfl rfl (ow_alloc fr st rfl zv_43 rfl rfl _ (by rfl) ?_)
        intro a w b22 fr st
        refine ⟨st.sub (.cons _ (.cons_cons _ (.cons_cons _ (.cons_cons _ (.cons_cons _ (.cons_cons _ (.cons_cons _ (.cons_cons _ (.cons_cons _ (.cons_cons _ (.cons_cons _ (.cons_cons _ .slnil)))))))))))), ?_⟩
        refine dr_one 9 (by kernel_rfl) rfl rfl (ow_stN fr st 0 (vs := [.int .i64 ((if (1 : Int) > ((x.toNat % 4 : Nat) : Int) then 1 else ((x.toNat % 4 : Nat) : Int))), .int .i64 (y)]) rfl rfl rfl rfl sz_43 rfl (Nat.le_of_ble_eq_true rfl) rfl ?_)
        intro w (st : St _ [] w [.blk b22 [.int .i64 ((if (1 : Int) > ((x.toNat % 4 : Nat) : Int) then 1 else ((x.toNat % 4 : Nat) : Int))), .int .i64 (y)] 43, .blk b19 [.int .i64 (((x.toNat % 4 : Nat) : Int)), .int .i64 1, .int .i64 (((k % 14 : Nat) : Int))] 42, .blk b18 [.int .i64 (((x.toNat % 4 : Nat) : Int)), .int .i64 1, .int .i64 (((k % 14 : Nat) : Int))] 42, ro b5 (o6 + k * 1) [.int .i64 (y)], ro b3 (o4 + k * 1) [.int .u8 ((x.toNat : Int))], row slotC 3 42 w0.heap.size (.slice A20 ((((List.range k).map (slotR ks)) ++ [((((x.toNat % 4 : Nat) : Int), 1, ((k % 14 : Nat) : Int)) : SlotD)]).length) c21) ((((List.range k).map (slotR ks)) ++ [((((x.toNat % 4 : Nat) : Int), 1, ((k % 14 : Nat) : Int)) : SlotD)])), row valC 2 43 w0.heap.size (.slice Al (((List.range k).map (valR ks vs)).length) cl) (((List.range k).map (valR ks vs))), row valC 2 43 w0.heap.size (.slice Aw (((List.range k).map (wantR ks vs)).length) cw) (((List.range k).map (wantR ks vs))), .blk b2 [.int .i64 0, .int .i64 0, .slice Al (((List.range k).map (valR ks vs)).length) cl, .slice none 0 0] 45, .blk b1 [.int .i64 0, .int .i64 0, .slice none 0 0, .slice none 0 0, .slice none 0 0, .slice A20 ((((List.range k).map (slotR ks)) ++ [((((x.toNat % 4 : Nat) : Int), 1, ((k % 14 : Nat) : Int)) : SlotD)]).length) c21, .int .i64 30] 62, els C8 1 (some ⟨b3, o4, none⟩) ks, els CI 1 (some ⟨b5, o6, none⟩) vs])
        refine ⟨st.sub (.cons _ (.cons_cons _ (.cons_cons _ (.cons_cons _ (.cons_cons _ (.cons_cons _ (.cons_cons _ (.cons_cons _ (.cons_cons _ (.cons_cons _ (.cons_cons _ (.cons_cons _ .slnil)))))))))))), ?_⟩
        refine dr_done (by kernel_rfl) ?_
        refine then_n ?_
        refine wp_seq ?_
        refine reg ?_
        refine lst rfl (ow_v fr (fa_45_2 (fr.ev rfl)) rfl rfl ?_)
        intro a fr
        refine lst rfl (ow_v fr (rn_load (fr.ev rfl) Try.underlying40 rfl (st.cell 8 rfl rfl)) rfl rfl ?_)
        intro a fr
        refine lst rfl (ow_v fr (rn_loadN (cs := [.int .i64 ((if (1 : Int) > ((x.toNat % 4 : Nat) : Int) then 1 else ((x.toNat % 4 : Nat) : Int))), .int .i64 (y)]) (fr.ev rfl) Try.underlying43 rfl sz_43 (st.blkrange 0 rfl 0 rfl)) rfl rfl ?_)
        intro a fr
        refine lst rfl (ow_bslice (E := 43) fr st rfl [.int .i64 ((if (1 : Int) > ((x.toNat % 4 : Nat) : Int) then 1 else ((x.toNat % 4 : Nat) : Int))), .int .i64 (y)] (fun w => by simp only [List.map_toArray, List.map_cons, List.map_nil]; rw [fr.ev (x := .tmp 56) rfl]; kernel_rfl) rfl rfl ?_)
        intro a w b23 fr st
        refine lst rfl (ow_append1 fr st 7 0 ((((if (1 : Int) > ((x.toNat % 4 : Nat) : Int) then 1 else ((x.toNat % 4 : Nat) : Int)), y) : ValD)) rfl rfl rfl rfl rfl Try.underlying40 inf_43 (by rfl) (by decide) (fun _ => rfl) rfl (by (simp; omega)) (by unfold maxLen; (simp; omega)) (Nat.le_refl _) st.agr.size rfl rfl ?_)
        intro a w A24 c25 fr (st : St _ [] w [.blk b23 [.int .i64 ((if (1 : Int) > ((x.toNat % 4 : Nat) : Int) then 1 else ((x.toNat % 4 : Nat) : Int))), .int .i64 (y)] 43, .blk b22 [.int .i64 ((if (1 : Int) > ((x.toNat % 4 : Nat) : Int) then 1 else ((x.toNat % 4 : Nat) : Int))), .int .i64 (y)] 43, .blk b19 [.int .i64 (((x.toNat % 4 : Nat) : Int)), .int .i64 1, .int .i64 (((k % 14 : Nat) : Int))] 42, .blk b18 [.int .i64 (((x.toNat % 4 : Nat) : Int)), .int .i64 1, .int .i64 (((k % 14 : Nat) : Int))] 42, ro b5 (o6 + k * 1) [.int .i64 (y)], ro b3 (o4 + k * 1) [.int .u8 ((x.toNat : Int))], row slotC 3 42 w0.heap.size (.slice A20 ((((List.range k).map (slotR ks)) ++ [((((x.toNat % 4 : Nat) : Int), 1, ((k % 14 : Nat) : Int)) : SlotD)]).length) c21) ((((List.range k).map (slotR ks)) ++ [((((x.toNat % 4 : Nat) : Int), 1, ((k % 14 : Nat) : Int)) : SlotD)])), row valC 2 43 w0.heap.size (.slice A24 ((((List.range k).map (valR ks vs)) ++ [(((if (1 : Int) > ((x.toNat % 4 : Nat) : Int) then 1 else ((x.toNat % 4 : Nat) : Int)), y) : ValD)]).length) c25) ((((List.range k).map (valR ks vs)) ++ [(((if (1 : Int) > ((x.toNat % 4 : Nat) : Int) then 1 else ((x.toNat % 4 : Nat) : Int)), y) : ValD)])), row valC 2 43 w0.heap.size (.slice Aw (((List.range k).map (wantR ks vs)).length) cw) (((List.range k).map (wantR ks vs))), .blk b2 [.int .i64 0, .int .i64 0, .slice Al (((List.range k).map (valR ks vs)).length) cl, .slice none 0 0] 45, .blk b1 [.int .i64 0, .int .i64 0, .slice none 0 0, .slice none 0 0, .slice none 0 0, .slice A20 ((((List.range k).map (slotR ks)) ++ [((((x.toNat % 4 : Nat) : Int), 1, ((k % 14 : Nat) : Int)) : SlotD)]).length) c21, .int .i64 30] 62, els C8 1 (some ⟨b3, o4, none⟩) ks, els CI 1 (some ⟨b5, o6, none⟩) vs])
        refine lst rfl (ow_v fr (fa_45_2 (fr.ev rfl)) rfl rfl ?_)
        intro a fr
        refine lst rfl (ow_st fr st 9 rfl rfl rfl rfl sz_40 rfl rfl rfl ?_)
        intro w (st : St _ [] w [.blk b23 [.int .i64 ((if (1 : Int) > ((x.toNat % 4 : Nat) : Int) then 1 else ((x.toNat % 4 : Nat) : Int))), .int .i64 (y)] 43, .blk b22 [.int .i64 ((if (1 : Int) > ((x.toNat % 4 : Nat) : Int) then 1 else ((x.toNat % 4 : Nat) : Int))), .int .i64 (y)] 43, .blk b19 [.int .i64 (((x.toNat % 4 : Nat) : Int)), .int .i64 1, .int .i64 (((k % 14 : Nat) : Int))] 42, .blk b18 [.int .i64 (((x.toNat % 4 : Nat) : Int)), .int .i64 1, .int .i64 (((k % 14 : Nat) : Int))] 42, ro b5 (o6 + k * 1) [.int .i64 (y)], ro b3 (o4 + k * 1) [.int .u8 ((x.toNat : Int))], row slotC 3 42 w0.heap.size (.slice A20 ((((List.range k).map (slotR ks)) ++ [((((x.toNat % 4 : Nat) : Int), 1, ((k % 14 : Nat) : Int)) : SlotD)]).length) c21) ((((List.range k).map (slotR ks)) ++ [((((x.toNat % 4 : Nat) : Int), 1, ((k % 14 : Nat) : Int)) : SlotD)])), row valC 2 43 w0.heap.size (.slice A24 ((((List.range k).map (valR ks vs)) ++ [(((if (1 : Int) > ((x.toNat % 4 : Nat) : Int) then 1 else ((x.toNat % 4 : Nat) : Int)), y) : ValD)]).length) c25) ((((List.range k).map (valR ks vs)) ++ [(((if (1 : Int) > ((x.toNat % 4 : Nat) : Int) then 1 else ((x.toNat % 4 : Nat) : Int)), y) : ValD)])), row valC 2 43 w0.heap.size (.slice Aw (((List.range k).map (wantR ks vs)).length) cw) (((List.range k).map (wantR ks vs))), .blk b2 [.int .i64 0, .int .i64 0, .slice A24 ((((List.range k).map (valR ks vs)) ++ [(((if (1 : Int) > ((x.toNat % 4 : Nat) : Int) then 1 else ((x.toNat % 4 : Nat) : Int)), y) : ValD)]).length) c25, .slice none 0 0] 45, .blk b1 [.int .i64 0, .int .i64 0, .slice none 0 0, .slice none 0 0, .slice none 0 0, .slice A20 ((((List.range k).map (slotR ks)) ++ [((((x.toNat % 4 : Nat) : Int), 1, ((k % 14 : Nat) : Int)) : SlotD)]).length) c21, .int .i64 30] 62, els C8 1 (some ⟨b3, o4, none⟩) ks, els CI 1 (some ⟨b5, o6, none⟩) vs])
        refine wpList_nil ?_
        refine then_n ?_
        refine wp_seq ?_
        refine wp_seq ?_
        refine reg ?_
        refine lst rfl (ow_v fr (fa_42_0 (fr.ev rfl)) rfl rfl ?_)
        intro a fr
        refine lst rfl (ow_v fr (rn_load (fr.ev rfl) Try.underlying3 rfl (st.cell 3 rfl rfl)) rfl rfl ?_)
        intro a fr
        refine lst rfl (ow_v fr (rn_as (v' := .bool false) (rn_eql (fr.ev rfl) (fr.ev rfl)) (congrArg Value.bool (by simp; omega))) rfl rfl ?_)
        intro a fr
        refine wpList_nil ?_
        refine then_n ?_
        refine cond_f fr rfl rfl ?_
        refine wp_skip ?_
        refine then_n ?_
        refine reg ?_
        refine lst rfl (ow_v fr (rn_move (fr.ev rfl)) rfl rfl ?_)
        intro a fr
        refine lst rfl (ow_v fr (rn_loadN (cs := [.int .i64 ((if (1 : Int) > ((x.toNat % 4 : Nat) : Int) then 1 else ((x.toNat % 4 : Nat) : Int))), .int .i64 (y)]) (fr.ev rfl) Try.underlying43 rfl sz_43 (st.blkrange 1 rfl 0 rfl)) rfl rfl ?_)
        intro a fr
        refine lst rfl (ow_bslice (E := 43) fr st rfl [.int .i64 ((if (1 : Int) > ((x.toNat % 4 : Nat) : Int) then 1 else ((x.toNat % 4 : Nat) : Int))), .int .i64 (y)] (fun w => by simp only [List.map_toArray, List.map_cons, List.map_nil]; rw [fr.ev (x := .tmp 65) rfl]; kernel_rfl) rfl rfl ?_)
        intro a w b26 fr st
        refine lst rfl (ow_append1 fr st 9 0 ((((if (1 : Int) > ((x.toNat % 4 : Nat) : Int) then 1 else ((x.toNat % 4 : Nat) : Int)), y) : ValD)) rfl rfl rfl rfl rfl Try.underlying40 inf_43 (by rfl) (by decide) (fun _ => rfl) rfl (by (simp; omega)) (by unfold maxLen; (simp; omega)) (Nat.le_refl _) st.agr.size rfl rfl ?_)
        intro a w A27 c28 fr (st : St _ [] w [.blk b26 [.int .i64 ((if (1 : Int) > ((x.toNat % 4 : Nat) : Int) then 1 else ((x.toNat % 4 : Nat) : Int))), .int .i64 (y)] 43, .blk b23 [.int .i64 ((if (1 : Int) > ((x.toNat % 4 : Nat) : Int) then 1 else ((x.toNat % 4 : Nat) : Int))), .int .i64 (y)] 43, .blk b22 [.int .i64 ((if (1 : Int) > ((x.toNat % 4 : Nat) : Int) then 1 else ((x.toNat % 4 : Nat) : Int))), .int .i64 (y)] 43, .blk b19 [.int .i64 (((x.toNat % 4 : Nat) : Int)), .int .i64 1, .int .i64 (((k % 14 : Nat) : Int))] 42, .blk b18 [.int .i64 (((x.toNat % 4 : Nat) : Int)), .int .i64 1, .int .i64 (((k % 14 : Nat) : Int))] 42, ro b5 (o6 + k * 1) [.int .i64 (y)], ro b3 (o4 + k * 1) [.int .u8 ((x.toNat : Int))], row slotC 3 42 w0.heap.size (.slice A20 ((((List.range k).map (slotR ks)) ++ [((((x.toNat % 4 : Nat) : Int), 1, ((k % 14 : Nat) : Int)) : SlotD)]).length) c21) ((((List.range k).map (slotR ks)) ++ [((((x.toNat % 4 : Nat) : Int), 1, ((k % 14 : Nat) : Int)) : SlotD)])), row valC 2 43 w0.heap.size (.slice A24 ((((List.range k).map (valR ks vs)) ++ [(((if (1 : Int) > ((x.toNat % 4 : Nat) : Int) then 1 else ((x.toNat % 4 : Nat) : Int)), y) : ValD)]).length) c25) ((((List.range k).map (valR ks vs)) ++ [(((if (1 : Int) > ((x.toNat % 4 : Nat) : Int) then 1 else ((x.toNat % 4 : Nat) : Int)), y) : ValD)])), row valC 2 43 w0.heap.size (.slice A27 ((((List.range k).map (wantR ks vs)) ++ [(((if (1 : Int) > ((x.toNat % 4 : Nat) : Int) then 1 else ((x.toNat % 4 : Nat) : Int)), y) : ValD)]).length) c28) ((((List.range k).map (wantR ks vs)) ++ [(((if (1 : Int) > ((x.toNat % 4 : Nat) : Int) then 1 else ((x.toNat % 4 : Nat) : Int)), y) : ValD)])), .blk b2 [.int .i64 0, .int .i64 0, .slice A24 ((((List.range k).map (valR ks vs)) ++ [(((if (1 : Int) > ((x.toNat % 4 : Nat) : Int) then 1 else ((x.toNat % 4 : Nat) : Int)), y) : ValD)]).length) c25, .slice none 0 0] 45, .blk b1 [.int .i64 0, .int .i64 0, .slice none 0 0, .slice none 0 0, .slice none 0 0, .slice A20 ((((List.range k).map (slotR ks)) ++ [((((x.toNat % 4 : Nat) : Int), 1, ((k % 14 : Nat) : Int)) : SlotD)]).length) c21, .int .i64 30] 62, els C8 1 (some ⟨b3, o4, none⟩) ks, els CI 1 (some ⟨b5, o6, none⟩) vs])
        refine lst rfl (ow_v fr (rn_assign (fr.ev rfl)) rfl rfl ?_)
        intro a fr
        refine wpList_nil ?_
        refine blk_n ?_
        refine then_n ?_
        refine reg ?_
        refine lst rfl (ow_v fr (rn_add (c := ((k + 1 : Nat) : Int)) (fr.ev rfl) (fr.ev rfl) (wr_i64e (by omega) (by omega) (by omega))) rfl rfl ?_)
        intro a fr
        refine lst rfl (ow_v fr (rn_move (fr.ev rfl)) rfl rfl ?_)
        intro a fr
        refine wpList_nil ?_
        have eq_ : (((List.range k).map (slotR ks)) ++ [((((x.toNat % 4 : Nat) : Int), 1, ((k % 14 : Nat) : Int)) : SlotD)]) = (List.range (k + 1)).map (slotR ks) := by rw [List.range_succ, List.map_append, List.map_singleton]; congr 2; first | exact qs.symm | (simp [wantR, qk, qv])
        rw [eq_] at fr st
        clear eq_
        have eq_ : (((List.range k).map (valR ks vs)) ++ [(((if (1 : Int) > ((x.toNat % 4 : Nat) : Int) then 1 else ((x.toNat % 4 : Nat) : Int)), y) : ValD)]) = (List.range (k + 1)).map (valR ks vs) := by rw [List.range_succ, List.map_append, List.map_singleton]; congr 2; first | exact qv.symm | (simp [wantR, qk, qv])
        rw [eq_] at fr st
        clear eq_
        have eq_ : (((List.range k).map (wantR ks vs)) ++ [(((if (1 : Int) > ((x.toNat % 4 : Nat) : Int) then 1 else ((x.toNat % 4 : Nat) : Int)), y) : ValD)]) = (List.range (k + 1)).map (wantR ks vs) := by rw [List.range_succ, List.map_append, List.map_singleton]; congr 2; first | exact qw.symm | (simp [wantR, qk, qv])
        rw [eq_] at fr st
        clear eq_
        refine then_n ⟨m - (k + 1), ?_, k + 1, A20, A24, A27, c21, c25, c28, by omega, rfl, fr.prune ⟨rfl, rfl, rfl, rfl, rfl, rfl, rfl, trivial⟩, st.sub (.cons _ (.cons _ (.cons _ (.cons _ (.cons _ (.cons _ (.cons _ (.cons_cons _ (.cons_cons _ (.cons_cons _ (.cons_cons _ (.cons_cons _ (.cons_cons _ (.cons_cons _ .slnil))))))))))))))⟩
        omega
    · by_cases hkd : x.toNat % 4 = 0
      · have qs : slotR ks k = (((x.toNat % 4 : Nat) : Int), 2, (k : Int)) := by unfold slotR; rw [if_neg h14, qk]
        have qw : wantR ks vs k = (0, 0) := by unfold wantR; rw [if_pos (by rw [qk]; omega)]
        refine wp_seq ?_
        refine reg ?_
        refine lst rfl (ow_v fr (rn_as (v' := .bool true) (rn_lss (fr.ev rfl) (fr.ev rfl)) (congrArg Value.bool (decide_eq_true (by omega)))) rfl rfl ?_)
        intro a fr
        refine wpList_nil ?_
        refine then_n ?_
        refine wp_seq ?_
        refine cond_t fr rfl rfl ?_
        refine wp_skip ?_
        refine then_n ?_
        refine wp_seq ?_
        refine wp_block ?_
        refine wp_seq ?_
        refine reg ?_
        refine lst rfl (ow_v fr (rn_move (fr.ev rfl)) rfl rfl ?_)
        intro a fr
        refine lst rfl (ow_v fr (rn_assign (fr.ev rfl)) rfl rfl ?_)
        intro a fr
        refine wpList_nil ?_
        refine then_n ?_
        refine wp_seq ?_
        refine reg ?_
        refine lst rfl (ow_v fr (rn_move (fr.ev rfl)) rfl rfl ?_)
        intro a fr
        refine lst rfl (ow_v fr (rn_move (fr.ev rfl)) rfl rfl ?_)
        intro a fr
        refine lst rfl (ow_v fr (rn_at (i := k) (fr.ev rfl) (fr.ev rfl) Try.underlying36 sz_5 (by omega) (by rfl)) rfl rfl ?_)
        intro a fr
        refine lst rfl (ow_v fr (rn_load (fr.ev rfl) Try.underlying5 rfl (st.rocell 1 rfl (j := 0) rfl)) rfl rfl ?_)
        intro a fr
        refine lst rfl (ow_v fr (rn_conv (c := (x.toNat : Int)) (fr.ev rfl) (by kernel_rfl) Try.underlying3 (wr_i64 _ (by omega) (by omega))) rfl rfl ?_)
        intro a fr
        refine lst rfl (ow_v fr (rn_rem (c := ((x.toNat % 4 : Nat) : Int)) (fr.ev rfl) (fr.ev rfl) (by decide) (rm_nat (a := x.toNat) (m := 4) rfl rfl)) rfl rfl ?_)
        intro a fr
        refine lst rfl (ow_v fr (rn_move (fr.ev rfl)) rfl rfl ?_)
        intro a fr
        refine lst rfl (ow_v fr (rn_rem (c := ((k % 14 : Nat) : Int)) (fr.ev rfl) (fr.ev rfl) (by decide) (rm_nat (a := k) (m := 14) rfl rfl)) rfl rfl ?_)
        intro a fr
        refine lst rfl (ow_v fr (rn_build (cells := #[.int .i64 1, .int .i64 (((k % 14 : Nat) : Int))]) (by simp only [List.map_toArray, List.map_cons, List.map_nil]; rw [fr.ev (x := .tmp 32) rfl]; rfl)) rfl rfl ?_)
        intro a fr
        refine lst rfl (ow_v fr (rn_build (cells := #[.int .i64 (((x.toNat % 4 : Nat) : Int)), .int .i64 1, .int .i64 (((k % 14 : Nat) : Int))]) (by simp only [List.map_toArray, List.map_cons, List.map_nil]; rw [fr.ev (x := .tmp 30) rfl, fr.ev (x := .tmp 33) rfl]; rfl)) rfl rfl ?_)
        intro a fr
        refine lst rfl (ow_alloc fr st rfl zv_42 rfl rfl _ (by rfl) ?_)
        intro a w b29 fr st
        refine lst rfl (ow_stN fr st 0 (vs := [.int .i64 (((x.toNat % 4 : Nat) : Int)), .int .i64 1, .int .i64 (((k % 14 : Nat) : Int))]) rfl rfl rfl rfl sz_42 rfl (Nat.le_of_ble_eq_true rfl) rfl ?_)
        intro w (st : St _ [] w [.blk b29 [.int .i64 (((x.toNat % 4 : Nat) : Int)), .int .i64 1, .int .i64 (((k % 14 : Nat) : Int))] 42, ro b5 (o6 + k * 1) [.int .i64 (y)], ro b3 (o4 + k * 1) [.int .u8 ((x.toNat : Int))], row slotC 3 42 w0.heap.size (.slice Ae (((List.range k).map (slotR ks)).length) ce) (((List.range k).map (slotR ks))), row valC 2 43 w0.heap.size (.slice Al (((List.range k).map (valR ks vs)).length) cl) (((List.range k).map (valR ks vs))), row valC 2 43 w0.heap.size (.slice Aw (((List.range k).map (wantR ks vs)).length) cw) (((List.range k).map (wantR ks vs))), .blk b2 [.int .i64 0, .int .i64 0, .slice Al (((List.range k).map (valR ks vs)).length) cl, .slice none 0 0] 45, .blk b1 [.int .i64 0, .int .i64 0, .slice none 0 0, .slice none 0 0, .slice none 0 0, .slice Ae (((List.range k).map (slotR ks)).length) ce, .int .i64 30] 62, els C8 1 (some ⟨b3, o4, none⟩) ks, els CI 1 (some ⟨b5, o6, none⟩) vs])
        refine wpList_nil ?_
        refine then_n ?_
        refine wp_seq ?_
        refine wp_seq ?_
        refine reg ?_
        refine lst rfl (ow_v fr (rn_move (fr.ev rfl)) rfl rfl ?_)
        intro a fr
        refine lst rfl (ow_v fr (rn_as (v' := .bool true) (rn_geq (fr.ev rfl) (fr.ev rfl)) (congrArg Value.bool (decide_eq_true (by omega)))) rfl rfl ?_)
        intro a fr
        refine wpList_nil ?_
        refine then_n ?_
        refine cond_t fr rfl rfl ?_
        refine reg ?_
        refine lst rfl (ow_v fr (rn_move (fr.ev rfl)) rfl rfl ?_)
        intro a fr
        refine lst rfl (ow_v fr (rn_build (cells := #[.int .i64 2, .int .i64 ((k : Nat))]) (by simp only [List.map_toArray, List.map_cons, List.map_nil]; rw [fr.ev (x := .tmp 37) rfl]; rfl)) rfl rfl ?_)
        intro a fr
        refine lst rfl (ow_v fr (fa_42_1 (fr.ev rfl)) rfl rfl ?_)
        intro a fr
        refine lst rfl (ow_stN fr st 0 (vs := [.int .i64 2, .int .i64 ((k : Nat))]) rfl rfl rfl rfl sz_23 rfl (Nat.le_of_ble_eq_true rfl) rfl ?_)
        intro w (st : St _ [] w [.blk b29 [.int .i64 (((x.toNat % 4 : Nat) : Int)), .int .i64 2, .int .i64 ((k : Nat))] 42, ro b5 (o6 + k * 1) [.int .i64 (y)], ro b3 (o4 + k * 1) [.int .u8 ((x.toNat : Int))], row slotC 3 42 w0.heap.size (.slice Ae (((List.range k).map (slotR ks)).length) ce) (((List.range k).map (slotR ks))), row valC 2 43 w0.heap.size (.slice Al (((List.range k).map (valR ks vs)).length) cl) (((List.range k).map (valR ks vs))), row valC 2 43 w0.heap.size (.slice Aw (((List.range k).map (wantR ks vs)).length) cw) (((List.range k).map (wantR ks vs))), .blk b2 [.int .i64 0, .int .i64 0, .slice Al (((List.range k).map (valR ks vs)).length) cl, .slice none 0 0] 45, .blk b1 [.int .i64 0, .int .i64 0, .slice none 0 0, .slice none 0 0, .slice none 0 0, .slice Ae (((List.range k).map (slotR ks)).length) ce, .int .i64 30] 62, els C8 1 (some ⟨b3, o4, none⟩) ks, els CI 1 (some ⟨b5, o6, none⟩) vs])
        refine wpList_nil ?_
        refine then_n ?_
        refine wp_seq ?_
        refine reg ?_
        refine lst rfl (ow_v fr (fa_62_5 (fr.ev rfl)) rfl rfl ?_)
        intro a fr
        refine lst rfl (ow_v fr (rn_load (fr.ev rfl) Try.underlying37 rfl (st.cell 7 rfl rfl)) rfl rfl ?_)
        intro a fr
        refine lst rfl (ow_v fr (rn_loadN (cs := [.int .i64 (((x.toNat % 4 : Nat) : Int)), .int .i64 2, .int .i64 ((k : Nat))]) (fr.ev rfl) Try.underlying42 rfl sz_42 (st.blkrange 0 rfl 0 rfl)) rfl rfl ?_)
        intro a fr
        refine lst rfl (ow_bslice (E := 42) fr st rfl [.int .i64 (((x.toNat % 4 : Nat) : Int)), .int .i64 2, .int .i64 ((k : Nat))] (fun w => by simp only [List.map_toArray, List.map_cons, List.map_nil]; rw [fr.ev (x := .tmp 42) rfl]; kernel_rfl) rfl rfl ?_)
        intro a w b30 fr st
        refine lst rfl (ow_append1 fr st 4 0 (((((x.toNat % 4 : Nat) : Int), 2, (k : Nat)) : SlotD)) rfl rfl rfl rfl rfl Try.underlying37 inf_42 (by rfl) (by decide) (fun _ => rfl) rfl (by (simp; omega)) (by unfold maxLen; (simp; omega)) (Nat.le_refl _) st.agr.size rfl rfl ?_)
        intro a w A31 c32 fr (st : St _ [] w [.blk b30 [.int .i64 (((x.toNat % 4 : Nat) : Int)), .int .i64 2, .int .i64 ((k : Nat))] 42, .blk b29 [.int .i64 (((x.toNat % 4 : Nat) : Int)), .int .i64 2, .int .i64 ((k : Nat))] 42, ro b5 (o6 + k * 1) [.int .i64 (y)], ro b3 (o4 + k * 1) [.int .u8 ((x.toNat : Int))], row slotC 3 42 w0.heap.size (.slice A31 ((((List.range k).map (slotR ks)) ++ [((((x.toNat % 4 : Nat) : Int), 2, (k : Nat)) : SlotD)]).length) c32) ((((List.range k).map (slotR ks)) ++ [((((x.toNat % 4 : Nat) : Int), 2, (k : Nat)) : SlotD)])), row valC 2 43 w0.heap.size (.slice Al (((List.range k).map (valR ks vs)).length) cl) (((List.range k).map (valR ks vs))), row valC 2 43 w0.heap.size (.slice Aw (((List.range k).map (wantR ks vs)).length) cw) (((List.range k).map (wantR ks vs))), .blk b2 [.int .i64 0, .int .i64 0, .slice Al (((List.range k).map (valR ks vs)).length) cl, .slice none 0 0] 45, .blk b1 [.int .i64 0, .int .i64 0, .slice none 0 0, .slice none 0 0, .slice none 0 0, .slice Ae (((List.range k).map (slotR ks)).length) ce, .int .i64 30] 62, els C8 1 (some ⟨b3, o4, none⟩) ks, els CI 1 (some ⟨b5, o6, none⟩) vs])
        refine lst rfl (ow_v fr (fa_62_5 (fr.ev rfl)) rfl rfl ?_)
        intro a fr
        refine lst rfl (ow_st fr st 8 rfl rfl rfl rfl sz_37 rfl rfl rfl ?_)
        intro w (st : St _ [] w [.blk b30 [.int .i64 (((x.toNat % 4 : Nat) : Int)), .int .i64 2, .int .i64 ((k : Nat))] 42, .blk b29 [.int .i64 (((x.toNat % 4 : Nat) : Int)), .int .i64 2, .int .i64 ((k : Nat))] 42, ro b5 (o6 + k * 1) [.int .i64 (y)], ro b3 (o4 + k * 1) [.int .u8 ((x.toNat : Int))], row slotC 3 42 w0.heap.size (.slice A31 ((((List.range k).map (slotR ks)) ++ [((((x.toNat % 4 : Nat) : Int), 2, (k : Nat)) : SlotD)]).length) c32) ((((List.range k).map (slotR ks)) ++ [((((x.toNat % 4 : Nat) : Int), 2, (k : Nat)) : SlotD)])), row valC 2 43 w0.heap.size (.slice Al (((List.range k).map (valR ks vs)).length) cl) (((List.range k).map (valR ks vs))), row valC 2 43 w0.heap.size (.slice Aw (((List.range k).map (wantR ks vs)).length) cw) (((List.range k).map (wantR ks vs))), .blk b2 [.int .i64 0, .int .i64 0, .slice Al (((List.range k).map (valR ks vs)).length) cl, .slice none 0 0] 45, .blk b1 [.int .i64 0, .int .i64 0, .slice none 0 0, .slice none 0 0, .slice none 0 0, .slice A31 ((((List.range k).map (slotR ks)) ++ [((((x.toNat % 4 : Nat) : Int), 2, (k : Nat)) : SlotD)]).length) c32, .int .i64 30] 62, els C8 1 (some ⟨b3, o4, none⟩) ks, els CI 1 (some ⟨b5, o6, none⟩) vs])
        refine wpList_nil ?_
        refine then_n ?_
        refine wp_seq ?_
        refine dr_start (by kernel_rfl) st (.cons_cons _ (.cons_cons _ (.cons_cons _ (.cons_cons _ (.cons_cons _ (.cons_cons _ (.cons_cons _ (.cons_cons _ (.cons_cons _ (.cons_cons _ (.cons_cons _ .slnil))))))))))) ?_
        intro w st
        refine dr_take 0 rfl (by kernel_rfl) (by kernel_rfl) (by kernel_rfl) (fun _ _ _ h => h) fr rfl (st.sub (.cons_cons _ (.cons_cons _ (.cons_cons _ (.cons_cons _ (.cons_cons _ (.cons_cons _ (.cons_cons _ (.cons_cons _ (.cons_cons _ (.cons_cons _ (.cons_cons _ .slnil)))))))))))) (fun w st => fa_42_0 (fr.ev rfl)) rfl rfl ?_
        intro a fr
        refine dr_take 1 rfl (by kernel_rfl) (by kernel_rfl) (by kernel_rfl) (fun _ _ _ h => h) fr rfl (st.sub (.cons_cons _ (.cons_cons _ (.cons_cons _ (.cons_cons _ (.cons_cons _ (.cons_cons _ (.cons_cons _ (.cons_cons _ (.cons_cons _ (.cons_cons _ (.cons_cons _ .slnil)))))))))))) (fun w st => rn_load (fr.ev rfl) Try.underlying3 rfl (st.cell 1 rfl rfl)) rfl rfl ?_
        intro a fr
        refine dr_take 2 rfl (by kernel_rfl) (by kernel_rfl) (by kernel_rfl) (fun _ _ _ h => h) fr rfl (st.sub (.cons_cons _ (.cons_cons _ (.cons_cons _ (.cons_cons _ (.cons_cons _ (.cons_cons _ (.cons_cons _ (.cons_cons _ (.cons_cons _ (.cons_cons _ (.cons_cons _ .slnil)))))))))))) (fun w st => rn_max2 (c := (if (1 : Int) > ((x.toNat % 4 : Nat) : Int) then 1 else ((x.toNat % 4 : Nat) : Int))) (fr.ev rfl) (fr.ev rfl) (rfl)) rfl rfl ?_
        intro a fr
        refine dr_take 3 rfl (by kernel_rfl) (by kernel_rfl) (by kernel_rfl) (fun _ _ _ h => h) fr rfl (st.sub (.cons_cons _ (.cons_cons _ (.cons_cons _ (.cons_cons _ (.cons_cons _ (.cons_cons _ (.cons_cons _ (.cons_cons _ (.cons_cons _ (.cons_cons _ (.cons_cons _ .slnil)))))))))))) (fun w st => rn_move (fr.ev rfl)) rfl rfl ?_
        intro a fr
        refine dr_take 4 rfl (by kernel_rfl) (by kernel_rfl) (by kernel_rfl) (fun _ _ _ h => h) fr rfl (st.sub (.cons_cons _ (.cons_cons _ (.cons_cons _ (.cons_cons _ (.cons_cons _ (.cons_cons _ (.cons_cons _ (.cons_cons _ (.cons_cons _ (.cons_cons _ (.cons_cons _ .slnil)))))))))))) (fun w st => rn_move (fr.ev rfl)) rfl rfl ?_
        intro a fr
        refine dr_take 5 rfl (by kernel_rfl) (by kernel_rfl) (by kernel_rfl) (fun _ _ _ h => h) fr rfl (st.sub (.cons_cons _ (.cons_cons _ (.cons_cons _ (.cons_cons _ (.cons_cons _ (.cons_cons _ (.cons_cons _ (.cons_cons _ (.cons_cons _ (.cons_cons _ (.cons_cons _ .slnil)))))))))))) (fun w st => rn_at (i := k) (fr.ev rfl) (fr.ev rfl) Try.underlying25 sz_2 (by omega) (by rfl)) rfl rfl ?_
        intro a fr
        refine dr_take 6 rfl (by kernel_rfl) (by kernel_rfl) (by kernel_rfl) (fun _ _ _ h => h) fr rfl (st.sub (.cons_cons _ (.cons_cons _ (.cons_cons _ (.cons_cons _ (.cons_cons _ (.cons_cons _ (.cons_cons _ (.cons_cons _ (.cons_cons _ (.cons_cons _ (.cons_cons _ .slnil)))))))))))) (fun w st => rn_load (fr.ev rfl) Try.underlying2 rfl (st.rocell 2 rfl (j := 0) rfl)) rfl rfl ?_
        intro a fr
        refine dr_take 7 rfl (by kernel_rfl) (by kernel_rfl) (by kernel_rfl) (fun _ _ _ h => h) fr rfl (st.sub (.cons_cons _ (.cons_cons _ (.cons_cons _ (.cons_cons _ (.cons_cons _ (.cons_cons _ (.cons_cons _ (.cons_cons _ (.cons_cons _ (.cons_cons _ (.cons_cons _ .slnil)))))))))))) (fun w st => rn_build (cells := #[.int .i64 ((if (1 : Int) > ((x.toNat % 4 : Nat) : Int) then 1 else ((x.toNat % 4 : Nat) : Int))), .int .i64 (y)]) (by simp only [List.map_toArray, List.map_cons, List.map_nil]; rw [fr.ev (x := .tmp 48) rfl, fr.ev (x := .tmp 52) rfl]; rfl)) rfl rfl ?_
        intro a fr
        refine dr_one 8 (by kernel_rfl) rfl rfl (ow_alloc fr st rfl zv_43 rfl rfl _ (by rfl) ?_)
        intro a w b33 fr st
        refine ⟨st.sub (.cons _ (.cons_cons _ (.cons_cons _ (.cons_cons _ (.cons_cons _ (.cons_cons _ (.cons_cons _ (.cons_cons _ (.cons_cons _ (.cons_cons _ (.cons_cons _ (.cons_cons _ .slnil)))))))))))), ?_⟩
        refine dr_one 9 (by kernel_rfl) rfl rfl (ow_stN fr st 0 (vs := [.int .i64 ((if (1 : Int) > ((x.toNat % 4 : Nat) : Int) then 1 else ((x.toNat % 4 : Nat) : Int))), .int .i64 (y)]) rfl rfl rfl rfl sz_43 rfl (Nat.le_of_ble_eq_true rfl) rfl ?_)
        intro w (st : St _ [] w [.blk b33 [.int .i64 ((if (1 : Int) > ((x.toNat % 4 : Nat) : Int) then 1 else ((x.toNat % 4 : Nat) : Int))), .int .i64 (y)] 43, .blk b30 [.int .i64 (((x.toNat % 4 : Nat) : Int)), .int .i64 2, .int .i64 ((k : Nat))] 42, .blk b29 [.int .i64 (((x.toNat % 4 : Nat) : Int)), .int .i64 2, .int .i64 ((k : Nat))] 42, ro b5 (o6 + k * 1) [.int .i64 (y)], ro b3 (o4 + k * 1) [.int .u8 ((x.toNat : Int))], row slotC 3 42 w0.heap.size (.slice A31 ((((List.range k).map (slotR ks)) ++ [((((x.toNat % 4 : Nat) : Int), 2, (k : Nat)) : SlotD)]).length) c32) ((((List.range k).map (slotR ks)) ++ [((((x.toNat % 4 : Nat) : Int), 2, (k : Nat)) : SlotD)])), row valC 2 43 w0.heap.size (.slice Al (((List.range k).map (valR ks vs)).length) cl) (((List.range k).map (valR ks vs))), row valC 2 43 w0.heap.size (.slice Aw (((List.range k).map (wantR ks vs)).length) cw) (((List.range k).map (wantR ks vs))), .blk b2 [.int .i64 0, .int .i64 0, .slice Al (((List.range k).map (valR ks vs)).length) cl, .slice none 0 0] 45, .blk b1 [.int .i64 0, .int .i64 0, .slice none 0 0, .slice none 0 0, .slice none 0 0, .slice A31 ((((List.range k).map (slotR ks)) ++ [((((x.toNat % 4 : Nat) : Int), 2, (k : Nat)) : SlotD)]).length) c32, .int .i64 30] 62, els C8 1 (some ⟨b3, o4, none⟩) ks, els CI 1 (some ⟨b5, o6, none⟩) vs])
        refine ⟨st.sub (.cons _ (.cons_cons _ (.cons_cons _ (.cons_cons _ (.cons_cons _ (.cons_cons _ (.cons_cons _ (.cons_cons _ (.cons_cons _ (.cons_cons _ (.cons_cons _ (.cons_cons _ .slnil)))))))))))), ?_⟩
        refine dr_done (by kernel_rfl) ?_
        refine then_n ?_
        refine wp_seq ?_
        refine reg ?_
        refine lst rfl (ow_v fr (fa_45_2 (fr.ev rfl)) rfl rfl ?_)
        intro a fr
        refine lst rfl (ow_v fr (rn_load (fr.ev rfl) Try.underlying40 rfl (st.cell 8 rfl rfl)) rfl rfl ?_)
        intro a fr
        refine lst rfl (ow_v fr (rn_loadN (cs := [.int .i64 ((if (1 : Int) > ((x.toNat % 4 : Nat) : Int) then 1 else ((x.toNat % 4 : Nat) : Int))), .int .i64 (y)]) (fr.ev rfl) Try.underlying43 rfl sz_43 (st.blkrange 0 rfl 0 rfl)) rfl rfl ?_)
        intro a fr
        refine lst rfl (ow_bslice (E := 43) fr st rfl [.int .i64 ((if (1 : Int) > ((x.toNat % 4 : Nat) : Int) then 1 else ((x.toNat % 4 : Nat) : Int))), .int .i64 (y)] (fun w => by simp only [List.map_toArray, List.map_cons, List.map_nil]; rw [fr.ev (x := .tmp 56) rfl]; kernel_rfl) rfl rfl ?_)
        intro a w b34 fr st
        refine lst rfl (ow_append1 fr st 7 0 ((((if (1 : Int) > ((x.toNat % 4 : Nat) : Int) then 1 else ((x.toNat % 4 : Nat) : Int)), y) : ValD)) rfl rfl rfl rfl rfl Try.underlying40 inf_43 (by rfl) (by decide) (fun _ => rfl) rfl (by (simp; omega)) (by unfold maxLen; (simp; omega)) (Nat.le_refl _) st.agr.size rfl rfl ?_)
        intro a w A35 c36 fr (st : St _ [] w [.blk b34 [.int .i64 ((if (1 : Int) > ((x.toNat % 4 : Nat) : Int) then 1 else ((x.toNat % 4 : Nat) : Int))), .int .i64 (y)] 43, .blk b33 [.int .i64 ((if (1 : Int) > ((x.toNat % 4 : Nat) : Int) then 1 else ((x.toNat % 4 : Nat) : Int))), .int .i64 (y)] 43, .blk b30 [.int .i64 (((x.toNat % 4 : Nat) : Int)), .int .i64 2, .int .i64 ((k : Nat))] 42, .blk b29 [.int .i64 (((x.toNat % 4 : Nat) : Int)), .int .i64 2, .int .i64 ((k : Nat))] 42, ro b5 (o6 + k * 1) [.int .i64 (y)], ro b3 (o4 + k * 1) [.int .u8 ((x.toNat : Int))], row slotC 3 42 w0.heap.size (.slice A31 ((((List.range k).map (slotR ks)) ++ [((((x.toNat % 4 : Nat) : Int), 2, (k : Nat)) : SlotD)]).length) c32) ((((List.range k).map (slotR ks)) ++ [((((x.toNat % 4 : Nat) : Int), 2, (k : Nat)) : SlotD)])), row valC 2 43 w0.heap.size (.slice A35 ((((List.range k).map (valR ks vs)) ++ [(((if (1 : Int) > ((x.toNat % 4 : Nat) : Int) then 1 else ((x.toNat % 4 : Nat) : Int)), y) : ValD)]).length) c36) ((((List.range k).map (valR ks vs)) ++ [(((if (1 : Int) > ((x.toNat % 4 : Nat) : Int) then 1 else ((x.toNat % 4 : Nat) : Int)), y) : ValD)])), row valC 2 43 w0.heap.size (.slice Aw (((List.range k).map (wantR ks vs)).length) cw) (((List.range k).map (wantR ks vs))), .blk b2 [.int .i64 0, .int .i64 0, .slice Al (((List.range k).map (valR ks vs)).length) cl, .slice none 0 0] 45, .blk b1 [.int .i64 0, .int .i64 0, .slice none 0 0, .slice none 0 0, .slice none 0 0, .slice A31 ((((List.range k).map (slotR ks)) ++ [((((x.toNat % 4 : Nat) : Int), 2, (k : Nat)) : SlotD)]).length) c32, .int .i64 30] 62, els C8 1 (some ⟨b3, o4, none⟩) ks, els CI 1 (some ⟨b5, o6, none⟩) vs])
        refine lst rfl (ow_v fr (fa_45_2 (fr.ev rfl)) rfl rfl ?_)
        intro a fr
        refine lst rfl (ow_st fr st 9 rfl rfl rfl rfl sz_40 rfl rfl rfl ?_)
        intro w (st : St _ [] w [.blk b34 [.int .i64 ((if (1 : Int) > ((x.toNat % 4 : Nat) : Int) then 1 else ((x.toNat % 4 : Nat) : Int))), .int .i64 (y)] 43, .blk b33 [.int .i64 ((if (1 : Int) > ((x.toNat % 4 : Nat) : Int) then 1 else ((x.toNat % 4 : Nat) : Int))), .int .i64 (y)] 43, .blk b30 [.int .i64 (((x.toNat % 4 : Nat) : Int)), .int .i64 2, .int .i64 ((k : Nat))] 42, .blk b29 [.int .i64 (((x.toNat % 4 : Nat) : Int)), .int .i64 2, .int .i64 ((k : Nat))] 42, ro b5 (o6 + k * 1) [.int .i64 (y)], ro b3 (o4 + k * 1) [.int .u8 ((x.toNat : Int))], row slotC 3 42 w0.heap.size (.slice A31 ((((List.range k).map (slotR ks)) ++ [((((x.toNat % 4 : Nat) : Int), 2, (k : Nat)) : SlotD)]).length) c32) ((((List.range k).map (slotR ks)) ++ [((((x.toNat % 4 : Nat) : Int), 2, (k : Nat)) : SlotD)])), row valC 2 43 w0.heap.size (.slice A35 ((((List.range k).map (valR ks vs)) ++ [(((if (1 : Int) > ((x.toNat % 4 : Nat) : Int) then 1 else ((x.toNat % 4 : Nat) : Int)), y) : ValD)]).length) c36) ((((List.range k).map (valR ks vs)) ++ [(((if (1 : Int) > ((x.toNat % 4 : Nat) : Int) then 1 else ((x.toNat % 4 : Nat) : Int)), y) : ValD)])), row valC 2 43 w0.heap.size (.slice Aw (((List.range k).map (wantR ks vs)).length) cw) (((List.range k).map (wantR ks vs))), .blk b2 [.int .i64 0, .int .i64 0, .slice A35 ((((List.range k).map (valR ks vs)) ++ [(((if (1 : Int) > ((x.toNat % 4 : Nat) : Int) then 1 else ((x.toNat % 4 : Nat) : Int)), y) : ValD)]).length) c36, .slice none 0 0] 45, .blk b1 [.int .i64 0, .int .i64 0, .slice none 0 0, .slice none 0 0, .slice none 0 0, .slice A31 ((((List.range k).map (slotR ks)) ++ [((((x.toNat % 4 : Nat) : Int), 2, (k : Nat)) : SlotD)]).length) c32, .int .i64 30] 62, els C8 1 (some ⟨b3, o4, none⟩) ks, els CI 1 (some ⟨b5, o6, none⟩) vs])
        refine wpList_nil ?_
        refine then_n ?_
        refine wp_seq ?_
        refine wp_seq ?_
        refine reg ?_
        refine lst rfl (ow_v fr (fa_42_0 (fr.ev rfl)) rfl rfl ?_)
        intro a fr
        refine lst rfl (ow_v fr (rn_load (fr.ev rfl) Try.underlying3 rfl (st.cell 3 rfl rfl)) rfl rfl ?_)
        intro a fr
        refine lst rfl (ow_v fr (rn_as (v' := .bool true) (rn_eql (fr.ev rfl) (fr.ev rfl)) (congrArg Value.bool (by simp; omega))) rfl rfl ?_)
        intro a fr
        refine wpList_nil ?_
        refine then_n ?_
        refine cond_t fr rfl rfl ?_
        refine reg ?_
        refine lst rfl (ow_v fr (rn_build (cells := #[.int .i64 0, .int .i64 0]) (by simp only [List.map_toArray, List.map_cons, List.map_nil]; rfl)) rfl rfl ?_)
        intro a fr
        refine lst rfl (ow_stN fr st 1 (vs := [.int .i64 0, .int .i64 0]) rfl rfl rfl rfl sz_43 rfl (Nat.le_of_ble_eq_true rfl) rfl ?_)
        intro w (st : St _ [] w [.blk b34 [.int .i64 ((if (1 : Int) > ((x.toNat % 4 : Nat) : Int) then 1 else ((x.toNat % 4 : Nat) : Int))), .int .i64 (y)] 43, .blk b33 [.int .i64 0, .int .i64 0] 43, .blk b30 [.int .i64 (((x.toNat % 4 : Nat) : Int)), .int .i64 2, .int .i64 ((k : Nat))] 42, .blk b29 [.int .i64 (((x.toNat % 4 : Nat) : Int)), .int .i64 2, .int .i64 ((k : Nat))] 42, ro b5 (o6 + k * 1) [.int .i64 (y)], ro b3 (o4 + k * 1) [.int .u8 ((x.toNat : Int))], row slotC 3 42 w0.heap.size (.slice A31 ((((List.range k).map (slotR ks)) ++ [((((x.toNat % 4 : Nat) : Int), 2, (k : Nat)) : SlotD)]).length) c32) ((((List.range k).map (slotR ks)) ++ [((((x.toNat % 4 : Nat) : Int), 2, (k : Nat)) : SlotD)])), row valC 2 43 w0.heap.size (.slice A35 ((((List.range k).map (valR ks vs)) ++ [(((if (1 : Int) > ((x.toNat % 4 : Nat) : Int) then 1 else ((x.toNat % 4 : Nat) : Int)), y) : ValD)]).length) c36) ((((List.range k).map (valR ks vs)) ++ [(((if (1 : Int) > ((x.toNat % 4 : Nat) : Int) then 1 else ((x.toNat % 4 : Nat) : Int)), y) : ValD)])), row valC 2 43 w0.heap.size (.slice Aw (((List.range k).map (wantR ks vs)).length) cw) (((List.range k).map (wantR ks vs))), .blk b2 [.int .i64 0, .int .i64 0, .slice A35 ((((List.range k).map (valR ks vs)) ++ [(((if (1 : Int) > ((x.toNat % 4 : Nat) : Int) then 1 else ((x.toNat % 4 : Nat) : Int)), y) : ValD)]).length) c36, .slice none 0 0] 45, .blk b1 [.int .i64 0, .int .i64 0, .slice none 0 0, .slice none 0 0, .slice none 0 0, .slice A31 ((((List.range k).map (slotR ks)) ++ [((((x.toNat % 4 : Nat) : Int), 2, (k : Nat)) : SlotD)]).length) c32, .int .i64 30] 62, els C8 1 (some ⟨b3, o4, none⟩) ks, els CI 1 (some ⟨b5, o6, none⟩) vs])
        refine wpList_nil ?_
        refine then_n ?_
        refine reg ?_
        refine lst rfl (ow_v fr (rn_move (fr.ev rfl)) rfl rfl ?_)
        intro a fr
        refine lst rfl (ow_v fr (rn_loadN (cs := [.int .i64 0, .int .i64 0]) (fr.ev rfl) Try.underlying43 rfl sz_43 (st.blkrange 1 rfl 0 rfl)) rfl rfl ?_)
        intro a fr
        refine lst rfl (ow_bslice (E := 43) fr st rfl [.int .i64 0, .int .i64 0] (fun w => by simp only [List.map_toArray, List.map_cons, List.map_nil]; rw [fr.ev (x := .tmp 65) rfl]; kernel_rfl) rfl rfl ?_)
        intro a w b37 fr st
        refine lst rfl (ow_append1 fr st 9 0 (((0, 0) : ValD)) rfl rfl rfl rfl rfl Try.underlying40 inf_43 (by rfl) (by decide) (fun _ => rfl) rfl (by (simp; omega)) (by unfold maxLen; (simp; omega)) (Nat.le_refl _) st.agr.size rfl rfl ?_)
        intro a w A38 c39 fr (st : St _ [] w [.blk b37 [.int .i64 0, .int .i64 0] 43, .blk b34 [.int .i64 ((if (1 : Int) > ((x.toNat % 4 : Nat) : Int) then 1 else ((x.toNat % 4 : Nat) : Int))), .int .i64 (y)] 43, .blk b33 [.int .i64 0, .int .i64 0] 43, .blk b30 [.int .i64 (((x.toNat % 4 : Nat) : Int)), .int .i64 2, .int .i64 ((k : Nat))] 42, .blk b29 [.int .i64 (((x.toNat % 4 : Nat) : Int)), .int .i64 2, .int .i64 ((k : Nat))] 42, ro b5 (o6 + k * 1) [.int .i64 (y)], ro b3 (o4 + k * 1) [.int .u8 ((x.toNat : Int))], row slotC 3 42 w0.heap.size (.slice A31 ((((List.range k).map (slotR ks)) ++ [((((x.toNat % 4 : Nat) : Int), 2, (k : Nat)) : SlotD)]).length) c32) ((((List.range k).map (slotR ks)) ++ [((((x.toNat % 4 : Nat) : Int), 2, (k : Nat)) : SlotD)])), row valC 2 43 w0.heap.size (.slice A35 ((((List.range k).map (valR ks vs)) ++ [(((if (1 : Int) > ((x.toNat % 4 : Nat) : Int) then 1 else ((x.toNat % 4 : Nat) : Int)), y) : ValD)]).length) c36) ((((List.range k).map (valR ks vs)) ++ [(((if (1 : Int) > ((x.toNat % 4 : Nat) : Int) then 1 else ((x.toNat % 4 : Nat) : Int)), y) : ValD)])), row valC 2 43 w0.heap.size (.slice A38 ((((List.range k).map (wantR ks vs)) ++ [((0, 0) : ValD)]).length) c39) ((((List.range k).map (wantR ks vs)) ++ [((0, 0) : ValD)])), .blk b2 [.int .i64 0, .int .i64 0, .slice A35 ((((List.range k).map (valR ks vs)) ++ [(((if (1 : Int) > ((x.toNat % 4 : Nat) : Int) then 1 else ((x.toNat % 4 : Nat) : Int)), y) : ValD)]).length) c36, .slice none 0 0] 45, .blk b1 [.int .i64 0, .int .i64 0, .slice none 0 0, .slice none 0 0, .slice none 0 0, .slice A31 ((((List.range k).map (slotR ks)) ++ [((((x.toNat % 4 : Nat) : Int), 2, (k : Nat)) : SlotD)]).length) c32, .int .i64 30] 62, els C8 1 (some ⟨b3, o4, none⟩) ks, els CI 1 (some ⟨b5, o6, none⟩) vs])
        refine lst rfl (ow_v fr (rn_assign (fr.ev rfl)) rfl rfl ?_)
        intro a fr
        refine wpList_nil ?_
        refine blk_n ?_
        refine then_n ?_
        refine reg ?_
        refine lst rfl (ow_v fr (rn_add (c := ((k + 1 : Nat) : Int)) (fr.ev rfl) (fr.ev rfl) (wr_i64e (by omega) (by omega) (by omega))) rfl rfl ?_)
        intro a fr
        refine lst rfl (ow_v fr (rn_move (fr.ev rfl)) rfl rfl ?_)
        intro a fr
        refine wpList_nil ?_
        have eq_ : (((List.range k).map (slotR ks)) ++ [((((x.toNat % 4 : Nat) : Int), 2, (k : Nat)) : SlotD)]) = (List.range (k + 1)).map (slotR ks) := by rw [List.range_succ, List.map_append, List.map_singleton]; congr 2; first | exact qs.symm | (simp [wantR, qk, qv])
        rw [eq_] at fr st
        clear eq_
        have eq_ : (((List.range k).map (valR ks vs)) ++ [(((if (1 : Int) > ((x.toNat % 4 : Nat) : Int) then 1 else ((x.toNat % 4 : Nat) : Int)), y) : ValD)]) = (List.range (k + 1)).map (valR ks vs) := by rw [List.range_succ, List.map_append, List.map_singleton]; congr 2; first | exact qv.symm | (simp [wantR, qk, qv])
        rw [eq_] at fr st
        clear eq_
        have eq_ : (((List.range k).map (wantR ks vs)) ++ [((0, 0) : ValD)]) = (List.range (k + 1)).map (wantR ks vs) := by rw [List.range_succ, List.map_append, List.map_singleton]; congr 2; first | exact qw.symm | (simp [wantR, qk, qv])
        rw [eq_] at fr st
        clear eq_
        refine then_n ⟨m - (k + 1), ?_, k + 1, A31, A35, A38, c32, c36, c39, by omega, rfl, fr.prune ⟨rfl, rfl, rfl, rfl, rfl, rfl, rfl, trivial⟩, st.sub (.cons _ (.cons _ (.cons _ (.cons _ (.cons _ (.cons _ (.cons _ (.cons_cons _ (.cons_cons _ (.cons_cons _ (.cons_cons _ (.cons_cons _ (.cons_cons _ (.cons_cons _ .slnil))))))))))))))⟩
        omega
      · have qs : slotR ks k = (((x.toNat % 4 : Nat) : Int), 2, (k : Int)) := by unfold slotR; rw [if_neg h14, qk]
        have qw : wantR ks vs k = (if (1 : Int) > ((x.toNat % 4 : Nat) : Int) then 1 else ((x.toNat % 4 : Nat) : Int), y) := by unfold wantR; rw [if_neg (by rw [qk]; omega), qv]
        refine wp_seq ?_
        refine reg ?_
        refine lst rfl (ow_v fr (rn_as (v' := .bool true) (rn_lss (fr.ev rfl) (fr.ev rfl)) (congrArg Value.bool (decide_eq_true (by omega)))) rfl rfl ?_)
        intro a fr
        refine wpList_nil ?_
        refine then_n ?_
        refine wp_seq ?_
        refine cond_t fr rfl rfl ?_
        refine wp_skip ?_
        refine then_n ?_
        refine wp_seq ?_
        refine wp_block ?_
        refine wp_seq ?_
        refine reg ?_
        refine lst rfl (ow_v fr (rn_move (fr.ev rfl)) rfl rfl ?_)
        intro a fr
        refine lst rfl (ow_v fr (rn_assign (fr.ev rfl)) rfl rfl ?_)
        intro a fr
        refine wpList_nil ?_
        refine then_n ?_
        refine wp_seq ?_
        refine reg ?_
        refine lst rfl (ow_v fr (rn_move (fr.ev rfl)) rfl rfl ?_)
        intro a fr
        refine lst rfl (ow_v fr (rn_move (fr.ev rfl)) rfl rfl ?_)
        intro a fr
        refine lst rfl (ow_v fr (rn_at (i := k) (fr.ev rfl) (fr.ev rfl) Try.underlying36 sz_5 (by omega) (by rfl)) rfl rfl ?_)
        intro a fr
        refine lst rfl (ow_v fr (rn_load (fr.ev rfl) Try.underlying5 rfl (st.rocell 1 rfl (j := 0) rfl)) rfl rfl ?_)
        intro a fr
        refine lst rfl (ow_v fr (rn_conv (c := (x.toNat : Int)) (fr.ev rfl) (by kernel_rfl) Try.underlying3 (wr_i64 _ (by omega) (by omega))) rfl rfl ?_)
        intro a fr
        refine lst rfl (ow_v fr (rn_rem (c := ((x.toNat % 4 : Nat) : Int)) (fr.ev rfl) (fr.ev rfl) (by decide) (rm_nat (a := x.toNat) (m := 4) rfl rfl)) rfl rfl ?_)
        intro a fr
        refine lst rfl (ow_v fr (rn_move (fr.ev rfl)) rfl rfl ?_)
        intro a fr
        refine lst rfl (ow_v fr (rn_rem (c := ((k % 14 : Nat) : Int)) (fr.ev rfl) (fr.ev rfl) (by decide) (rm_nat (a := k) (m := 14) rfl rfl)) rfl rfl ?_)
        intro a fr
        refine lst rfl (ow_v fr (rn_build (cells := #[.int .i64 1, .int .i64 (((k % 14 : Nat) : Int))]) (by simp only [List.map_toArray, List.map_cons, List.map_nil]; rw [fr.ev (x := .tmp 32) rfl]; rfl)) rfl rfl ?_)
        intro a fr
        refine lst rfl (ow_v fr (rn_build (cells := #[.int .i64 (((x.toNat % 4 : Nat) : Int)), .int .i64 1, .int .i64 (((k % 14 : Nat) : Int))]) (by simp only [List.map_toArray, List.map_cons, List.map_nil]; rw [fr.ev (x := .tmp 30) rfl, fr.ev (x := .tmp 33) rfl]; rfl)) rfl rfl ?_)
        intro a fr
        refine lst rfl (ow_alloc fr st rfl zv_42 rfl rfl _ (by rfl) ?_)
        intro a w b40 fr st
        refine lst rfl (ow_stN fr st 0 (vs := [.int .i64 (((x.toNat % 4 : Nat) : Int)), .int .i64 1, .int .i64 (((k % 14 : Nat) : Int))]) rfl rfl rfl rfl sz_42 rfl (Nat.le_of_ble_eq_true rfl) rfl ?_)
        intro w (st : St _ [] w [.blk b40 [.int .i64 (((x.toNat % 4 : Nat) : Int)), .int .i64 1, .int .i64 (((k % 14 : Nat) : Int))] 42, ro b5 (o6 + k * 1) [.int .i64 (y)], ro b3 (o4 + k * 1) [.int .u8 ((x.toNat : Int))], row slotC 3 42 w0.heap.size (.slice Ae (((List.range k).map (slotR ks)).length) ce) (((List.range k).map (slotR ks))), row valC 2 43 w0.heap.size (.slice Al (((List.range k).map (valR ks vs)).length) cl) (((List.range k).map (valR ks vs))), row valC 2 43 w0.heap.size (.slice Aw (((List.range k).map (wantR ks vs)).length) cw) (((List.range k).map (wantR ks vs))), .blk b2 [.int .i64 0, .int .i64 0, .slice Al (((List.range k).map (valR ks vs)).length) cl, .slice none 0 0] 45, .blk b1 [.int .i64 0, .int .i64 0, .slice none 0 0, .slice none 0 0, .slice none 0 0, .slice Ae (((List.range k).map (slotR ks)).length) ce, .int .i64 30] 62, els C8 1 (some ⟨b3, o4, none⟩) ks, els CI 1 (some ⟨b5, o6, none⟩) vs])
        refine wpList_nil ?_
        refine then_n ?_
        refine wp_seq ?_
        refine wp_seq ?_
        refine reg ?_
        refine lst rfl (ow_v fr (rn_move (fr.ev rfl)) rfl rfl ?_)
        intro a fr
        refine lst rfl (ow_v fr (rn_as (v' := .bool true) (rn_geq (fr.ev rfl) (fr.ev rfl)) (congrArg Value.bool (decide_eq_true (by omega)))) rfl rfl ?_)
        intro a fr
        refine wpList_nil ?_
        refine then_n ?_
        refine cond_t fr rfl rfl ?_
        refine reg ?_
        refine lst rfl (ow_v fr (rn_move (fr.ev rfl)) rfl rfl ?_)
        intro a fr
        refine lst rfl (ow_v fr (rn_build (cells := #[.int .i64 2, .int .i64 ((k : Nat))]) (by simp only [List.map_toArray, List.map_cons, List.map_nil]; rw [fr.ev (x := .tmp 37) rfl]; rfl)) rfl rfl ?_)
        intro a fr
        refine lst rfl (ow_v fr (fa_42_1 (fr.ev rfl)) rfl rfl ?_)
        intro a fr
        refine lst rfl (ow_stN fr st 0 (vs := [.int .i64 2, .int .i64 ((k : Nat))]) rfl rfl rfl rfl sz_23 rfl (Nat.le_of_ble_eq_true rfl) rfl ?_)
        intro w (st : St _ [] w [.blk b40 [.int .i64 (((x.toNat % 4 : Nat) : Int)), .int .i64 2, .int .i64 ((k : Nat))] 42, ro b5 (o6 + k * 1) [.int .i64 (y)], ro b3 (o4 + k * 1) [.int .u8 ((x.toNat : Int))], row slotC 3 42 w0.heap.size (.slice Ae (((List.range k).map (slotR ks)).length) ce) (((List.range k).map (slotR ks))), row valC 2 43 w0.heap.size (.slice Al (((List.range k).map (valR ks vs)).length) cl) (((List.range k).map (valR ks vs))), row valC 2 43 w0.heap.size (.slice Aw (((List.range k).map (wantR ks vs)).length) cw) (((List.range k).map (wantR ks vs))), .blk b2 [.int .i64 0, .int .i64 0, .slice Al (((List.range k).map (valR ks vs)).length) cl, .slice none 0 0] 45, .blk b1 [.int .i64 0, .int .i64 0, .slice none 0 0, .slice none 0 0, .slice none 0 0, .slice Ae (((List.range k).map (slotR ks)).length) ce, .int .i64 30] 62, els C8 1 (some ⟨b3, o4, none⟩) ks, els CI 1 (some ⟨b5, o6, none⟩) vs])
        refine wpList_nil ?_
        refine then_n ?_
        refine wp_seq ?_
        refine reg ?_
        refine lst rfl (ow_v fr (fa_62_5 (fr.ev rfl)) rfl rfl ?_)
        intro a fr
        refine lst rfl (ow_v fr (rn_load (fr.ev rfl) Try.underlying37 rfl (st.cell 7 rfl rfl)) rfl rfl ?_)
        intro a fr
        refine lst rfl (ow_v fr (rn_loadN (cs := [.int .i64 (((x.toNat % 4 : Nat) : Int)), .int .i64 2, .int .i64 ((k : Nat))]) (fr.ev rfl) Try.underlying42 rfl sz_42 (st.blkrange 0 rfl 0 rfl)) rfl rfl ?_)
        intro a fr
        refine lst rfl (ow_bslice (E := 42) fr st rfl [.int .i64 (((x.toNat % 4 : Nat) : Int)), .int .i64 2, .int .i64 ((k : Nat))] (fun w => by simp only [List.map_toArray, List.map_cons, List.map_nil]; rw [fr.ev (x := .tmp 42) rfl]; kernel_rfl) rfl rfl ?_)
        intro a w b41 fr st
        refine lst rfl (ow_append1 fr st 4 0 (((((x.toNat % 4 : Nat) : Int), 2, (k : Nat)) : SlotD)) rfl rfl rfl rfl rfl Try.underlying37 inf_42 (by rfl) (by decide) (fun _ => rfl) rfl (by (simp; omega)) (by unfold maxLen; (simp; omega)) (Nat.le_refl _) st.agr.size rfl rfl ?_)
        intro a w A42 c43 fr (st : St _ [] w [.blk b41 [.int .i64 (((x.toNat % 4 : Nat) : Int)), .int .i64 2, .int .i64 ((k : Nat))] 42, .blk b40 [.int .i64 (((x.toNat % 4 : Nat) : Int)), .int .i64 2, .int .i64 ((k : Nat))] 42, ro b5 (o6 + k * 1) [.int .i64 (y)], ro b3 (o4 + k * 1) [.int .u8 ((x.toNat : Int))], row slotC 3 42 w0.heap.size (.slice A42 ((((List.range k).map (slotR ks)) ++ [((((x.toNat % 4 : Nat) : Int), 2, (k : Nat)) : SlotD)]).length) c43) ((((List.range k).map (slotR ks)) ++ [((((x.toNat % 4 : Nat) : Int), 2, (k : Nat)) : SlotD)])), row valC 2 43 w0.heap.size (.slice Al (((List.range k).map (valR ks vs)).length) cl) (((List.range k).map (valR ks vs))), row valC 2 43 w0.heap.size (.slice Aw (((List.range k).map (wantR ks vs)).length) cw) (((List.range k).map (wantR ks vs))), .blk b2 [.int .i64 0, .int .i64 0, .slice Al (((List.range k).map (valR ks vs)).length) cl, .slice none 0 0] 45, .blk b1 [.int .i64 0, .int .i64 0, .slice none 0 0, .slice none 0 0, .slice none 0 0, .slice Ae (((List.range k).map (slotR ks)).length) ce, .int .i64 30] 62, els C8 1 (some ⟨b3, o4, none⟩) ks, els CI 1 (some ⟨b5, o6, none⟩) vs])
        refine lst rfl (ow_v fr (fa_62_5 (fr.ev rfl)) rfl rfl ?_)
        intro a fr
        refine lst rfl (ow_st fr st 8 rfl rfl rfl rfl sz_37 rfl rfl rfl ?_)
        intro w (st : St _ [] w [.blk b41 [.int .i64 (((x.toNat % 4 : Nat) : Int)), .int .i64 2, .int .i64 ((k : Nat))] 42, .blk b40 [.int .i64 (((x.toNat % 4 : Nat) : Int)), .int .i64 2, .int .i64 ((k : Nat))] 42, ro b5 (o6 + k * 1) [.int .i64 (y)], ro b3 (o4 + k * 1) [.int .u8 ((x.toNat : Int))], row slotC 3 42 w0.heap.size (.slice A42 ((((List.range k).map (slotR ks)) ++ [((((x.toNat % 4 : Nat) : Int), 2, (k : Nat)) : SlotD)]).length) c43) ((((List.range k).map (slotR ks)) ++ [((((x.toNat % 4 : Nat) : Int), 2, (k : Nat)) : SlotD)])), row valC 2 43 w0.heap.size (.slice Al (((List.range k).map (valR ks vs)).length) cl) (((List.range k).map (valR ks vs))), row valC 2 43 w0.heap.size (.slice Aw (((List.range k).map (wantR ks vs)).length) cw) (((List.range k).map (wantR ks vs))), .blk b2 [.int .i64 0, .int .i64 0, .slice Al (((List.range k).map (valR ks vs)).length) cl, .slice none 0 0] 45, .blk b1 [.int .i64 0, .int .i64 0, .slice none 0 0, .slice none 0 0, .slice none 0 0, .slice A42 ((((List.range k).map (slotR ks)) ++ [((((x.toNat % 4 : Nat) : Int), 2, (k : Nat)) : SlotD)]).length) c43, .int .i64 30] 62, els C8 1 (some ⟨b3, o4, none⟩) ks, els CI 1 (some ⟨b5, o6, none⟩) vs])
        refine wpList_nil ?_
        refine then_n ?_
        refine wp_seq ?_
        refine dr_start (by kernel_rfl) st (.cons_cons _ (.cons_cons _ (.cons_cons _ (.cons_cons _ (.cons_cons _ (.cons_cons _ (.cons_cons _ (.cons_cons _ (.cons_cons _ (.cons_cons _ (.cons_cons _ .slnil))))))))))) ?_
        intro w st
        refine dr_take 0 rfl (by kernel_rfl) (by kernel_rfl) (by kernel_rfl) (fun _ _ _ h => h) fr rfl (st.sub (.cons_cons _ (.cons_cons _ (.cons_cons _ (.cons_cons _ (.cons_cons _ (.cons_cons _ (.cons_cons _ (.cons_cons _ (.cons_cons _ (.cons_cons _ (.cons_cons _ .slnil)))))))))))) (fun w st => fa_42_0 (fr.ev rfl)) rfl rfl ?_
        intro a fr
        refine dr_take 1 rfl (by kernel_rfl) (by kernel_rfl) (by kernel_rfl) (fun _ _ _ h => h) fr rfl (st.sub (.cons_cons _ (.cons_cons _ (.cons_cons _ (.cons_cons _ (.cons_cons _ (.cons_cons _ (.cons_cons _ (.cons_cons _ (.cons_cons _ (.cons_cons _ (.cons_cons _ .slnil)))))))))))) (fun w st => rn_load (fr.ev rfl) Try.underlying3 rfl (st.cell 1 rfl rfl)) rfl rfl ?_
        intro a fr
        refine dr_take 2 rfl (by kernel_rfl) (by kernel_rfl) (by kernel_rfl) (fun _ _ _ h => h) fr rfl (st.sub (.cons_cons _ (.cons_cons _ (.cons_cons _ (.cons_cons _ (.cons_cons _ (.cons_cons _ (.cons_cons _ (.cons_cons _ (.cons_cons _ (.cons_cons _ (.cons_cons _ .slnil)))))))))))) (fun w st => rn_max2 (c := (if (1 : Int) > ((x.toNat % 4 : Nat) : Int) then 1 else ((x.toNat % 4 : Nat) : Int))) (fr.ev rfl) (fr.ev rfl) (rfl)) rfl rfl ?_
        intro a fr
        refine dr_take 3 rfl (by kernel_rfl) (by kernel_rfl) (by kernel_rfl) (fun _ _ _ h => h) fr rfl (st.sub (.cons_cons _ (.cons_cons _ (.cons_cons _ (.cons_cons _ (.cons_cons _ (.cons_cons _ (.cons_cons _ (.cons_cons _ (.cons_cons _ (.cons_cons _ (.cons_cons _ .slnil)))))))))))) (fun w st => rn_move (fr.ev rfl)) rfl rfl ?_
        intro a fr
        refine dr_take 4 rfl (by kernel_rfl) (by kernel_rfl) (by kernel_rfl) (fun _ _ _ h => h) fr rfl (st.sub (.cons_cons _ (.cons_cons _ (.cons_cons _ (.cons_cons _ (.cons_cons _ (.cons_cons _ (.cons_cons _ (.cons_cons _ (.cons_cons _ (.cons_cons _ (.cons_cons _ .slnil)))))))))))) (fun w st => rn_move (fr.ev rfl)) rfl rfl ?_
        intro a fr
        refine dr_take 5 rfl (by kernel_rfl) (by kernel_rfl) (by kernel_rfl) (fun _ _ _ h => h) fr rfl (st.sub (.cons_cons _ (.cons_cons _ (.cons_cons _ (.cons_cons _ (.cons_cons _ (.cons_cons _ (.cons_cons _ (.cons_cons _ (.cons_cons _ (.cons_cons _ (.cons_cons _ .slnil)))))))))))) (fun w st => rn_at (i := k) (fr.ev rfl) (fr.ev rfl) Try.underlying25 sz_2 (by omega) (by rfl)) rfl rfl ?_
        intro a fr
        refine dr_take 6 rfl (by kernel_rfl) (by kernel_rfl) (by kernel_rfl) (fun _ _ _ h => h) fr rfl (st.sub (.cons_cons _ (.cons_cons _ (.cons_cons _ (.cons_cons _ (.cons_cons _ (.cons_cons _ (.cons_cons _ (.cons_cons _ (.cons_cons _ (.cons_cons _ (.cons_cons _ .slnil)))))))))))) (fun w st => rn_load (fr.ev rfl) Try.underlying2 rfl (st.rocell 2 rfl (j := 0) rfl)) rfl rfl ?_
        intro a fr
        refine dr_take 7 rfl (by kernel_rfl) (by kernel_rfl) (by kernel_rfl) (fun _ _ _ h => h) fr rfl (st.sub (.cons_cons _ (.cons_cons _ (.cons_cons _ (.cons_cons _ (.cons_cons _ (.cons_cons _ (.cons_cons _ (.cons_cons _ (.cons_cons _ (.cons_cons _ (.cons_cons _ .slnil)))))))))))) (fun w st => rn_build (cells := #[.int .i64 ((if (1 : Int) > ((x.toNat % 4 : Nat) : Int) then 1 else ((x.toNat % 4 : Nat) : Int))), .int .i64 (y)]) (by simp only [List.map_toArray, List.map_cons, List.map_nil]; rw [fr.ev (x := .tmp 48) rfl, fr.ev (x := .tmp 52) rfl]; rfl)) rfl rfl ?_
        intro a fr
        refine dr_one 8 (by kernel_rfl) rfl rfl (ow_alloc fr st rfl zv_43 rfl rfl _ (by rfl) ?_)
        intro a w b44 fr st
        refine ⟨st.sub (.cons _ (.cons_cons _ (.cons_cons _ (.cons_cons _ (.cons_cons _ (.cons_cons _ (.cons_cons _ (.cons_cons _ (.cons_cons _ (.cons_cons _ (.cons_cons _ (.cons_cons _ .slnil)))))))))))), ?_⟩
        refine dr_one 9 (by kernel_rfl) rfl rfl (ow_stN fr st 0 (vs := [.int .i64 ((if (1 : Int) > ((x.toNat % 4 : Nat) : Int) then 1 else ((x.toNat % 4 : Nat) : Int))), .int .i64 (y)]) rfl rfl rfl rfl sz_43 rfl (Nat.le_of_ble_eq_true rfl) rfl ?_)
        intro w (st : St _ [] w [.blk b44 [.int .i64 ((if (1 : Int) > ((x.toNat % 4 : Nat) : Int) then 1 else ((x.toNat % 4 : Nat) : Int))), .int .i64 (y)] 43, .blk b41 [.int .i64 (((x.toNat % 4 : Nat) : Int)), .int .i64 2, .int .i64 ((k : Nat))] 42, .blk b40 [.int .i64 (((x.toNat % 4 : Nat) : Int)), .int .i64 2, .int .i64 ((k : Nat))] 42, ro b5 (o6 + k * 1) [.int .i64 (y)], ro b3 (o4 + k * 1) [.int .u8 ((x.toNat : Int))], row slotC 3 42 w0.heap.size (.slice A42 ((((List.range k).map (slotR ks)) ++ [((((x.toNat % 4 : Nat) : Int), 2, (k : Nat)) : SlotD)]).length) c43) ((((List.range k).map (slotR ks)) ++ [((((x.toNat % 4 : Nat) : Int), 2, (k : Nat)) : SlotD)])), row valC 2 43 w0.heap.size (.slice Al (((List.range k).map (valR ks vs)).length) cl) (((List.range k).map (valR ks vs))), row valC 2 43 w0.heap.size (.slice Aw (((List.range k).map (wantR ks vs)).length) cw) (((List.range k).map (wantR ks vs))), .blk b2 [.int .i64 0, .int .i64 0, .slice Al (((List.range k).map (valR ks vs)).length) cl, .slice none 0 0] 45, .blk b1 [.int .i64 0, .int .i64 0, .slice none 0 0, .slice none 0 0, .slice none 0 0, .slice A42 ((((List.range k).map (slotR ks)) ++ [((((x.toNat % 4 : Nat) : Int), 2, (k : Nat)) : SlotD)]).length) c43, .int .i64 30] 62, els C8 1 (some ⟨b3, o4, none⟩) ks, els CI 1 (some ⟨b5, o6, none⟩) vs])
        refine ⟨st.sub (.cons _ (.cons_cons _ (.cons_cons _ (.cons_cons _ (.cons_cons _ (.cons_cons _ (.cons_cons _ (.cons_cons _ (.cons_cons _ (.cons_cons _ (.cons_cons _ (.cons_cons _ .slnil)))))))))))), ?_⟩
        refine dr_done (by kernel_rfl) ?_
        refine then_n ?_
        refine wp_seq ?_
        refine reg ?_
        refine lst rfl (ow_v fr (fa_45_2 (fr.ev rfl)) rfl rfl ?_)
        intro a fr
        refine lst rfl (ow_v fr (rn_load (fr.ev rfl) Try.underlying40 rfl (st.cell 8 rfl rfl)) rfl rfl ?_)
        intro a fr
        refine lst rfl (ow_v fr (rn_loadN (cs := [.int .i64 ((if (1 : Int) > ((x.toNat % 4 : Nat) : Int) then 1 else ((x.toNat % 4 : Nat) : Int))), .int .i64 (y)]) (fr.ev rfl) Try.underlying43 rfl sz_43 (st.blkrange 0 rfl 0 rfl)) rfl rfl ?_)
        intro a fr
        refine lst rfl (ow_bslice (E := 43) fr st rfl [.int .i64 ((if (1 : Int) > ((x.toNat % 4 : Nat) : Int) then 1 else ((x.toNat % 4 : Nat) : Int))), .int .i64 (y)] (fun w => by simp only [List.map_toArray, List.map_cons, List.map_nil]; rw [fr.ev (x := .tmp 56) rfl]; kernel_rfl) rfl rfl ?_)
        intro a w b45 fr st
        refine lst rfl (ow_append1 fr st 7 0 ((((if (1 : Int) > ((x.toNat % 4 : Nat) : Int) then 1 else ((x.toNat % 4 : Nat) : Int)), y) : ValD)) rfl rfl rfl rfl rfl Try.underlying40 inf_43 (by rfl) (by decide) (fun _ => rfl) rfl (by (simp; omega)) (by unfold maxLen; (simp; omega)) (Nat.le_refl _) st.agr.size rfl rfl ?_)
        intro a w A46 c47 fr (st : St _ [] w [.blk b45 [.int .i64 ((if (1 : Int) > ((x.toNat % 4 : Nat) : Int) then 1 else ((x.toNat % 4 : Nat) : Int))), .int .i64 (y)] 43, .blk b44 [.int .i64 ((if (1 : Int) > ((x.toNat % 4 : Nat) : Int) then 1 else ((x.toNat % 4 : Nat) : Int))), .int .i64 (y)] 43, .blk b41 [.int .i64 (((x.toNat % 4 : Nat) : Int)), .int .i64 2, .int .i64 ((k : Nat))] 42, .blk b40 [.int .i64 (((x.toNat % 4 : Nat) : Int)), .int .i64 2, .int .i64 ((k : Nat))] 42, ro b5 (o6 + k * 1) [.int .i64 (y)], ro b3 (o4 + k * 1) [.int .u8 ((x.toNat : Int))], row slotC 3 42 w0.heap.size (.slice A42 ((((List.range k).map (slotR ks)) ++ [((((x.toNat % 4 : Nat) : Int), 2, (k : Nat)) : SlotD)]).length) c43) ((((List.range k).map (slotR ks)) ++ [((((x.toNat % 4 : Nat) : Int), 2, (k : Nat)) : SlotD)])), row valC 2 43 w0.heap.size (.slice A46 ((((List.range k).map (valR ks vs)) ++ [(((if (1 : Int) > ((x.toNat % 4 : Nat) : Int) then 1 else ((x.toNat % 4 : Nat) : Int)), y) : ValD)]).length) c47) ((((List.range k).map (valR ks vs)) ++ [(((if (1 : Int) > ((x.toNat % 4 : Nat) : Int) then 1 else ((x.toNat % 4 : Nat) : Int)), y) : ValD)])), row valC 2 43 w0.heap.size (.slice Aw (((List.range k).map (wantR ks vs)).length) cw) (((List.range k).map (wantR ks vs))), .blk b2 [.int .i64 0, .int .i64 0, .slice Al (((List.range k).map (valR ks vs)).length) cl, .slice none 0 0] 45, .blk b1 [.int .i64 0, .int .i64 0, .slice none 0 0, .slice none 0 0, .slice none 0 0, .slice A42 ((((List.range k).map (slotR ks)) ++ [((((x.toNat % 4 : Nat) : Int), 2, (k : Nat)) : SlotD)]).length) c43, .int .i64 30] 62, els C8 1 (some ⟨b3, o4, none⟩) ks, els CI 1 (some ⟨b5, o6, none⟩) vs])
        refine lst rfl (ow_v fr (fa_45_2 (fr.ev rfl)) rfl rfl ?_)
        intro a fr
        refine lst rfl (ow_st fr st 9 rfl rfl rfl rfl sz_40 rfl rfl rfl ?_)
        intro w (st : St _ [] w [.blk b45 [.int .i64 ((if (1 : Int) > ((x.toNat % 4 : Nat) : Int) then 1 else ((x.toNat % 4 : Nat) : Int))), .int .i64 (y)] 43, .blk b44 [.int .i64 ((if (1 : Int) > ((x.toNat % 4 : Nat) : Int) then 1 else ((x.toNat % 4 : Nat) : Int))), .int .i64 (y)] 43, .blk b41 [.int .i64 (((x.toNat % 4 : Nat) : Int)), .int .i64 2, .int .i64 ((k : Nat))] 42, .blk b40 [.int .i64 (((x.toNat % 4 : Nat) : Int)), .int .i64 2, .int .i64 ((k : Nat))] 42, ro b5 (o6 + k * 1) [.int .i64 (y)], ro b3 (o4 + k * 1) [.int .u8 ((x.toNat : Int))], row slotC 3 42 w0.heap.size (.slice A42 ((((List.range k).map (slotR ks)) ++ [((((x.toNat % 4 : Nat) : Int), 2, (k : Nat)) : SlotD)]).length) c43) ((((List.range k).map (slotR ks)) ++ [((((x.toNat % 4 : Nat) : Int), 2, (k : Nat)) : SlotD)])), row valC 2 43 w0.heap.size (.slice A46 ((((List.range k).map (valR ks vs)) ++ [(((if (1 : Int) > ((x.toNat % 4 : Nat) : Int) then 1 else ((x.toNat % 4 : Nat) : Int)), y) : ValD)]).length) c47) ((((List.range k).map (valR ks vs)) ++ [(((if (1 : Int) > ((x.toNat % 4 : Nat) : Int) then 1 else ((x.toNat % 4 : Nat) : Int)), y) : ValD)])), row valC 2 43 w0.heap.size (.slice Aw (((List.range k).map (wantR ks vs)).length) cw) (((List.range k).map (wantR ks vs))), .blk b2 [.int .i64 0, .int .i64 0, .slice A46 ((((List.range k).map (valR ks vs)) ++ [(((if (1 : Int) > ((x.toNat % 4 : Nat) : Int) then 1 else ((x.toNat % 4 : Nat) : Int)), y) : ValD)]).length) c47, .slice none 0 0] 45, .blk b1 [.int .i64 0, .int .i64 0, .slice none 0 0, .slice none 0 0, .slice none 0 0, .slice A42 ((((List.range k).map (slotR ks)) ++ [((((x.toNat % 4 : Nat) : Int), 2, (k : Nat)) : SlotD)]).length) c43, .int .i64 30] 62, els C8 1 (some ⟨b3, o4, none⟩) ks, els CI 1 (some ⟨b5, o6, none⟩) vs])
        refine wpList_nil ?_
        refine then_n ?_
        refine wp_seq ?_
        refine wp_seq ?_
        refine reg ?_
        refine lst rfl (ow_v fr (fa_42_0 (fr.ev rfl)) rfl rfl ?_)
        intro a fr
        refine lst rfl (ow_v fr (rn_load (fr.ev rfl) Try.underlying3 rfl (st.cell 3 rfl rfl)) rfl rfl ?_)
        intro a fr
        refine lst rfl (ow_v fr (rn_as (v' := .bool false) (rn_eql (fr.ev rfl) (fr.ev rfl)) (congrArg Value.bool (by simp; omega))) rfl rfl ?_)
        intro a fr
        refine wpList_nil ?_
        refine then_n ?_
        refine cond_f fr rfl rfl ?_
        refine wp_skip ?_
        refine then_n ?_
        refine reg ?_
        refine lst rfl (ow_v fr (rn_move (fr.ev rfl)) rfl rfl ?_)
        intro a fr
        refine lst rfl (ow_v fr (rn_loadN (cs := [.int .i64 ((if (1 : Int) > ((x.toNat % 4 : Nat) : Int) then 1 else ((x.toNat % 4 : Nat) : Int))), .int .i64 (y)]) (fr.ev rfl) Try.underlying43 rfl sz_43 (st.blkrange 1 rfl 0 rfl)) rfl rfl ?_)
        intro a fr
        refine lst rfl (ow_bslice (E := 43) fr st rfl [.int .i64 ((if (1 : Int) > ((x.toNat % 4 : Nat) : Int) then 1 else ((x.toNat % 4 : Nat) : Int))), .int .i64 (y)] (fun w => by simp only [List.map_toArray, List.map_cons, List.map_nil]; rw [fr.ev (x := .tmp 65) rfl]; kernel_rfl) rfl rfl ?_)
        intro a w b48 fr st
        refine lst rfl (ow_append1 fr st 9 0 ((((if (1 : Int) > ((x.toNat % 4 : Nat) : Int) then 1 else ((x.toNat % 4 : Nat) : Int)), y) : ValD)) rfl rfl rfl rfl rfl Try.underlying40 inf_43 (by rfl) (by decide) (fun _ => rfl) rfl (by (simp; omega)) (by unfold maxLen; (simp; omega)) (Nat.le_refl _) st.agr.size rfl rfl ?_)
        intro a w A49 c50 fr (st : St _ [] w [.blk b48 [.int .i64 ((if (1 : Int) > ((x.toNat % 4 : Nat) : Int) then 1 else ((x.toNat % 4 : Nat) : Int))), .int .i64 (y)] 43, .blk b45 [.int .i64 ((if (1 : Int) > ((x.toNat % 4 : Nat) : Int) then 1 else ((x.toNat % 4 : Nat) : Int))), .int .i64 (y)] 43, .blk b44 [.int .i64 ((if (1 : Int) > ((x.toNat % 4 : Nat) : Int) then 1 else ((x.toNat % 4 : Nat) : Int))), .int .i64 (y)] 43, .blk b41 [.int .i64 (((x.toNat % 4 : Nat) : Int)), .int .i64 2, .int .i64 ((k : Nat))] 42, .blk b40 [.int .i64 (((x.toNat % 4 : Nat) : Int)), .int .i64 2, .int .i64 ((k : Nat))] 42, ro b5 (o6 + k * 1) [.int .i64 (y)], ro b3 (o4 + k * 1) [.int .u8 ((x.toNat : Int))], row slotC 3 42 w0.heap.size (.slice A42 ((((List.range k).map (slotR ks)) ++ [((((x.toNat % 4 : Nat) : Int), 2, (k : Nat)) : SlotD)]).length) c43) ((((List.range k).map (slotR ks)) ++ [((((x.toNat % 4 : Nat) : Int), 2, (k : Nat)) : SlotD)])), row valC 2 43 w0.heap.size (.slice A46 ((((List.range k).map (valR ks vs)) ++ [(((if (1 : Int) > ((x.toNat % 4 : Nat) : Int) then 1 else ((x.toNat % 4 : Nat) : Int)), y) : ValD)]).length) c47) ((((List.range k).map (valR ks vs)) ++ [(((if (1 : Int) > ((x.toNat % 4 : Nat) : Int) then 1 else ((x.toNat % 4 : Nat) : Int)), y) : ValD)])), row valC 2 43 w0.heap.size (.slice A49 ((((List.range k).map (wantR ks vs)) ++ [(((if (1 : Int) > ((x.toNat % 4 : Nat) : Int) then 1 else ((x.toNat % 4 : Nat) : Int)), y) : ValD)]).length) c50) ((((List.range k).map (wantR ks vs)) ++ [(((if (1 : Int) > ((x.toNat % 4 : Nat) : Int) then 1 else ((x.toNat % 4 : Nat) : Int)), y) : ValD)])), .blk b2 [.int .i64 0, .int .i64 0, .slice A46 ((((List.range k).map (valR ks vs)) ++ [(((if (1 : Int) > ((x.toNat % 4 : Nat) : Int) then 1 else ((x.toNat % 4 : Nat) : Int)), y) : ValD)]).length) c47, .slice none 0 0] 45, .blk b1 [.int .i64 0, .int .i64 0, .slice none 0 0, .slice none 0 0, .slice none 0 0, .slice A42 ((((List.range k).map (slotR ks)) ++ [((((x.toNat % 4 : Nat) : Int), 2, (k : Nat)) : SlotD)]).length) c43, .int .i64 30] 62, els C8 1 (some ⟨b3, o4, none⟩) ks, els CI 1 (some ⟨b5, o6, none⟩) vs])
        refine lst rfl (ow_v fr (rn_assign (fr.ev rfl)) rfl rfl ?_)
        intro a fr
        refine wpList_nil ?_
        refine blk_n ?_
        refine then_n ?_
        refine reg ?_
        refine lst rfl (ow_v fr (rn_add (c := ((k + 1 : Nat) : Int)) (fr.ev rfl) (fr.ev rfl) (wr_i64e (by omega) (by omega) (by omega))) rfl rfl ?_)
        intro a fr
        refine lst rfl (ow_v fr (rn_move (fr.ev rfl)) rfl rfl ?_)
        intro a fr
        refine wpList_nil ?_
        have eq_ : (((List.range k).map (slotR ks)) ++ [((((x.toNat % 4 : Nat) : Int), 2, (k : Nat)) : SlotD)]) = (List.range (k + 1)).map (slotR ks) := by rw [List.range_succ, List.map_append, List.map_singleton]; congr 2; first | exact qs.symm | (simp [wantR, qk, qv])
        rw [eq_] at fr st
        clear eq_
        have eq_ : (((List.range k).map (valR ks vs)) ++ [(((if (1 : Int) > ((x.toNat % 4 : Nat) : Int) then 1 else ((x.toNat % 4 : Nat) : Int)), y) : ValD)]) = (List.range (k + 1)).map (valR ks vs) := by rw [List.range_succ, List.map_append, List.map_singleton]; congr 2; first | exact qv.symm | (simp [wantR, qk, qv])
        rw [eq_] at fr st
        clear eq_
        have eq_ : (((List.range k).map (wantR ks vs)) ++ [(((if (1 : Int) > ((x.toNat % 4 : Nat) : Int) then 1 else ((x.toNat % 4 : Nat) : Int)), y) : ValD)]) = (List.range (k + 1)).map (wantR ks vs) := by rw [List.range_succ, List.map_append, List.map_singleton]; congr 2; first | exact qw.symm | (simp [wantR, qk, qv])
        rw [eq_] at fr st
        clear eq_
        refine then_n ⟨m - (k + 1), ?_, k + 1, A42, A46, A49, c43, c47, c50, by omega, rfl, fr.prune ⟨rfl, rfl, rfl, rfl, rfl, rfl, rfl, trivial⟩, st.sub (.cons _ (.cons _ (.cons _ (.cons _ (.cons _ (.cons _ (.cons _ (.cons_cons _ (.cons_cons _ (.cons_cons _ (.cons_cons _ (.cons_cons _ (.cons_cons _ (.cons_cons _ .slnil))))))))))))))⟩
        omega
  · have hk30 : k ≤ 30 := by omega
    refine wp_seq ?_
    refine reg ?_
    refine lst rfl (ow_v fr (rn_as (v' := .bool false) (rn_lss (fr.ev rfl) (fr.ev rfl)) (congrArg Value.bool (decide_eq_false (by omega)))) rfl rfl ?_)
    intro a fr
    refine wpList_nil ?_
    refine then_n ?_
    refine wp_seq ?_
    refine cond_f fr rfl rfl ?_
    refine wp_exit ?_
    refine then_x ?_
    refine then_x ?_
    refine blk_x ?_
    refine then_n ?_
    refine wp_seq ?_
    refine reg ?_
    refine lst rfl (ow_v fr (rn_loadN (cs := [.int .i64 0, .int .i64 0, .slice none 0 0, .slice none 0 0, .slice none 0 0, .slice Ae (((List.range k).map (slotR ks)).length) ce, .int .i64 30]) (fr.ev rfl) Try.underlying62 rfl sz_62 (st.blkrange 4 rfl 0 rfl)) rfl rfl ?_)
    intro a fr
    refine lst rfl (ow_v fr (rn_loadN (cs := [.int .i64 0, .int .i64 0, .slice Al (((List.range k).map (valR ks vs)).length) cl, .slice none 0 0]) (fr.ev rfl) Try.underlying45 rfl sz_45 (st.blkrange 3 rfl 0 rfl)) rfl rfl ?_)
    intro a fr
    obtain ⟨R, SP, hv⟩ : ∃ R SP, entV (fitsB 0 0 0 0 0 ((List.range k).map (slotR ks)) ((List.range k).map (valR ks vs))) 30 ((List.range k).map (slotR ks)) ((List.range k).map (valR ks vs)) = (R, SP) := ⟨_, _, rfl⟩
    obtain ⟨hR, hSP, hfr, hmap⟩ := round_law ks vs k hk30 R SP hv
    have hx0 : entE (fitsB 0 0 0 0 0 ((List.range k).map (slotR ks)) ((List.range k).map (valR ks vs))) 30 ((List.range k).map (slotR ks)) = 0 := by rw [round_fits]; exact round_E ks k hk30
    have hL17 : ∀ (A : Option Addr) (c : Nat), (R.map (Value.int .i64) ++ [Value.slice A SP.length c]).length = 17 := by intro A c; simp [hR]
    refine lst rfl (ow_call fr rfl rfl Try.call22 (enter_g 0 0 0 0 30 (.slice none 0 0) (.slice none 0 0) (.slice none 0 0) ((List.range k).map (slotR ks)) ((List.range k).map (valR ks vs)) Ae Al none ce cl 0 0 (by simp; omega) (by simp; omega) (by omega) _ (row_els slotC_len (st.get 0 rfl).1) (row_els valC_len (st.get 1 rfl).1) R SP 0 hv hx0) rfl rfl ?_)
    rintro e w ⟨A1, c1, rfl, hi1, hb1⟩
    refine ⟨_, rfl, ?_⟩
    intro a fr
    have hag := Agr.of_below hb1
    have stk := st.keep hag
    have st : St w0 [] w [ro b1 0 [.int .i64 0, .int .i64 0, .slice none 0 0, .slice none 0 0, .slice none 0 0, .slice Ae (((List.range k).map (slotR ks)).length) ce, .int .i64 30], els slotC 3 Ae ((List.range k).map (slotR ks)), els valC 2 Aw ((List.range k).map (wantR ks vs)), els CI 1 A1 SP] := of_ro1 (of_ro1 (of_ro1 (of_ro1 (of_ro0 stk.agr) (by simp [els, ro, It.wr]) (els_ok (by decide) CI_len (ints_els hi1)) rfl) (by simp [els, ro, It.wr]) (els_of_row (by decide) valC_len (stk.get 2 rfl)) rfl) (by simp [els, ro, It.wr]) (els_of_row (by decide) slotC_len (stk.get 0 rfl)) rfl) (by simp [els, ro, It.wr]) (ro_of_blk (stk.get 4 rfl)) rfl
    clear stk hag hi1 hb1
    refine lst rfl (ow_v fr (rn_move (fr.ev rfl)) rfl rfl ?_)
    intro a fr
    refine lst rfl (ow_v fr (rn_extract (fr.ev rfl) rfl) rfl rfl ?_)
    intro a fr
    refine lst rfl (ow_v fr (rn_extract (fr.ev rfl) rfl) rfl rfl ?_)
    intro a fr
    refine lst rfl (ow_alloc fr st rfl zv_27 rfl rfl _ (by rfl) ?_)
    intro a w b51 fr st
    refine lst rfl (ow_stN fr st 0 (vs := R.map (Value.int .i64) ++ [Value.slice A1 SP.length c1]) rfl rfl rfl (by simp [Value.oneCell']) (by rw [hL17 _ _]; exact sz_27) rfl (by rw [hL17 _ _]; exact Nat.le_of_ble_eq_true rfl) rfl ?_)
    intro w st
    rw [setR_all _ _ (by rw [hL17 _ _]; rfl)] at st
    replace st : St _ [] w [.blk b51 (R.map (Value.int .i64) ++ [Value.slice A1 SP.length c1]) 27, ro b1 0 [.int .i64 0, .int .i64 0, .slice none 0 0, .slice none 0 0, .slice none 0 0, .slice Ae (((List.range k).map (slotR ks)).length) ce, .int .i64 30], els slotC 3 Ae ((List.range k).map (slotR ks)), els valC 2 Aw ((List.range k).map (wantR ks vs)), els CI 1 A1 SP] := st
    refine lst rfl (ow_v fr (rn_assign (fr.ev rfl)) rfl rfl ?_)
    intro a fr
    refine wpList_nil ?_
    refine then_n ?_
    refine wp_seq ?_
    refine wp_seq ?_
    refine reg ?_
    refine lst rfl (ow_v fr (rn_move (fr.ev rfl)) rfl rfl ?_)
    intro a fr
    refine lst rfl (ow_v fr (rn_as (rn_neq (fr.ev rfl) (fr.ev rfl)) (by rfl)) rfl rfl ?_)
    intro a fr
    refine lst rfl (ow_v fr (rn_move (fr.ev rfl)) rfl rfl ?_)
    intro a fr
    refine lst_y (wanted_of fr rfl rfl rfl rfl) (ow_call fr rfl rfl Try.call13 (live_calls _) rfl rfl ?_)
    rintro e w ⟨rfl, hb1⟩
    refine ⟨_, rfl, ?_⟩
    intro a fr
    have st := st.keep (Agr.of_below hb1)
    clear hb1
    refine lst_y (wanted_of fr rfl rfl rfl rfl) (ow_v fr (rn_not (fr.ev rfl)) rfl rfl ?_)
    intro a fr
    refine lst rfl (ow_v fr (rn_pick_f (fr.ev rfl) (fr.ev rfl)) rfl rfl ?_)
    intro a fr
    refine wpList_nil ?_
    refine then_n ?_
    refine cond_f fr rfl rfl ?_
    refine wp_skip ?_
    refine then_n ?_
    refine wp_seq ?_
    refine reg ?_
    refine lst rfl (ow_v fr (fa_62_5 (fr.ev rfl)) rfl rfl ?_)
    intro a fr
    refine lst rfl (ow_v fr (rn_load (fr.ev rfl) Try.underlying37 rfl (st.rocell 1 rfl (j := 5) rfl)) rfl rfl ?_)
    intro a fr
    refine lst rfl (ow_v fr (rn_build (cells := #[.int .i64 0, .int .i64 0, .slice Ae (((List.range k).map (slotR ks)).length) ce, .slice none 0 0]) (by simp only [List.map_toArray, List.map_cons, List.map_nil]; rw [fr.ev (x := .tmp 83) rfl]; rfl)) rfl rfl ?_)
    intro a fr
    refine lst rfl (ow_v fr (rn_loadN (cs := R.map (Value.int .i64) ++ [Value.slice A1 SP.length c1]) (fr.ev rfl) Try.underlying27 rfl (by rw [hL17 _ _]; exact sz_27) (st.blkrange 0 rfl 0 (by rw [List.drop_zero, List.take_length]))) rfl rfl ?_)
    intro a fr
    refine lst rfl (ow_call fr rfl rfl Try.call15 (frame_ok 0 0 ((List.range k).map (slotR ks)) [] R SP Ae none A1 ce 0 c1 hR (by simp; omega) (by simp) _ (st.get 2 rfl).1 (fun i hi => absurd hi (Nat.not_lt_zero _)) (st.get 4 rfl).1 hfr ((List.range k).map (wantR ks vs)) [] hmap rfl) rfl rfl ?_)
    rintro e w ⟨A3, c3, A4, c4, rfl, r3, r4, hag⟩
    refine ⟨_, rfl, ?_⟩
    intro a fr
    have st := st.call_els (C := valC) (sz := 2) hag (by decide) valC_len (row_els valC_len r3) (row_base r3)
    clear r3 r4 hag
    refine lst rfl (ow_v fr (rn_move (fr.ev rfl)) rfl rfl ?_)
    intro a fr
    refine lst rfl (ow_v fr (rn_extract (fr.ev rfl) rfl) rfl rfl ?_)
    intro a fr
    refine lst rfl (ow_v fr (rn_extract (fr.ev rfl) rfl) rfl rfl ?_)
    intro a fr
    refine lst rfl (ow_alloc fr st rfl zv_45 rfl rfl _ (by rfl) ?_)
    intro a w b52 fr st
    refine lst rfl (ow_stN fr st 0 (vs := [.int .i64 0, .int .i64 0, .slice A3 (((List.range k).map (wantR ks vs)).length) c3, .slice A4 0 c4]) rfl rfl rfl rfl sz_45 rfl (Nat.le_of_ble_eq_true rfl) rfl ?_)
    intro w (st : St _ [] w [.blk b52 [.int .i64 0, .int .i64 0, .slice A3 (((List.range k).map (wantR ks vs)).length) c3, .slice A4 0 c4] 45, els valC 2 A3 ((List.range k).map (wantR ks vs)), .blk b51 (R.map (Value.int .i64) ++ [Value.slice A1 SP.length c1]) 27, ro b1 0 [.int .i64 0, .int .i64 0, .slice none 0 0, .slice none 0 0, .slice none 0 0, .slice Ae (((List.range k).map (slotR ks)).length) ce, .int .i64 30], els slotC 3 Ae ((List.range k).map (slotR ks)), els valC 2 Aw ((List.range k).map (wantR ks vs)), els CI 1 A1 SP])
    refine lst rfl (ow_v fr (rn_assign (fr.ev rfl)) rfl rfl ?_)
    intro a fr
    refine wpList_nil ?_
    refine then_n ?_
    refine wp_seq ?_
    refine reg ?_
    refine lst rfl (ow_v fr (rn_move (fr.ev rfl)) rfl rfl ?_)
    intro a fr
    refine lst rfl (ow_v fr (rn_as (rn_eql (fr.ev rfl) (fr.ev rfl)) (by rfl)) rfl rfl ?_)
    intro a fr
    refine lst rfl (ow_v fr (rn_move (fr.ev rfl)) rfl rfl ?_)
    intro a fr
    refine lst_y (wanted_of fr rfl rfl rfl rfl) (ow_v fr (fa_45_2 (fr.ev rfl)) rfl rfl ?_)
    intro a fr
    refine lst_y (wanted_of fr rfl rfl rfl rfl) (ow_v fr (rn_load (fr.ev rfl) Try.underlying40 rfl (st.cell 0 rfl rfl)) rfl rfl ?_)
    intro a fr
    refine lst_y (wanted_of fr rfl rfl rfl rfl) (ow_v fr (rn_move (fr.ev rfl)) rfl rfl ?_)
    intro a fr
    refine lst_y (wanted_of fr rfl rfl rfl rfl) (ow_call fr rfl rfl Try.call16 (eqVal_same ((List.range k).map (wantR ks vs)) A3 Aw c3 cw (by simp; omega) _ (st.get 1 rfl).1 (st.get 5 rfl).1) rfl rfl ?_)
    rintro e w ⟨rfl, hag⟩
    refine ⟨_, rfl, ?_⟩
    intro a fr
    have st := st.keep hag
    refine lst rfl (ow_v fr (rn_pick_t (fr.ev rfl) (fr.ev rfl)) rfl rfl ?_)
    intro a fr
    refine lst rfl (ow_v fr (rn_assign (fr.ev rfl)) rfl rfl ?_)
    intro a fr
    refine wpList_nil ?_
    refine then_n ?_
    refine wp_ret ?_
    refine ret1 Try.results7 fr (rv_tmp fr rfl) ?_
    exact ⟨rfl, st.agr.below⟩

end Go.Proofs.Ytngpfbcjmlpplaa.Y3
