import Derived.Test.YtngpfbcjmlpplaaLibV
import Derived.Test.YtngpfbcjmlpplaaY3
import Derived.Test.YtngpfbcjmlpplaaY4
import Derived.Test.YtngpfbcjmlpplaaY6
set_option linter.unusedVariables false
set_option linter.unusedSimpArgs false
namespace Go.Proofs.Ytngpfbcjmlpplaa.Y5
open Go.RowKit Go.Proofs.Ytngpfbcjmlpplaa.LibA Go.Proofs.Ytngpfbcjmlpplaa.LibC Go.Proofs.Ytngpfbcjmlpplaa.LibS Go.Proofs.Ytngpfbcjmlpplaa.LibR Go.Proofs.Ytngpfbcjmlpplaa.LibT Go.Proofs.Ytngpfbcjmlpplaa.LibU Go.Proofs.Ytngpfbcjmlpplaa.LibV Go.Proofs.Ytngpfbcjmlpplaa.M Go.Proofs.Ytngpfbcjmlpplaa.Y Go.Proofs.Ytngpfbcjmlpplaa.Y3
theorem put_next (vs : List Int) (k : Nat) (hk : k < 30) (a b y : Int) (hloc : locB k = (a, b)) (hy : vs.getD k 0 = y) (A : Option Addr) (c : Nat) (hA : A = none → c = 0) (w : World) (hs : Els CI 1 w A (bK vs k).2) :
    Calls Try.prog 11 #[.agg #[.int .i64 a, .int .i64 b], .int .i64 y, .agg (regsC (bK vs k).1 (.slice A (bK vs k).2.length c))] w fun e w' => ∃ A1 c1, e = .returned (.tuple #[.agg (regsC (bK vs (k + 1)).1 (.slice A1 (bK vs (k + 1)).2.length c1)), .int .i64 0]) ∧ Els CI 1 w' A1 (bK vs (k + 1)).2 ∧ (A1 = none → c1 = 0) ∧ (∀ ad, A1 = some ad → w.heap.size ≤ ad.block) ∧ Agr [] w w' := by
  have hl := bK_len vs k
  have hb := locB_lies k hk
  rw [hloc] at hb
  have e1 : (bK vs (k + 1)).1 = putR a b y (bK vs k).1 := by rw [← hy]; simp only [bK, hloc]
  have e2 : (bK vs (k + 1)).2 = putS a b y (bK vs k).2 := by rw [← hy]; simp only [bK, hloc]
  rw [e1, e2]
  refine (put_own a b y (bK vs k).1 (bK vs k).2 A c hl.1 (by rw [hl.2]; omega) hA w (els_ints hs) (by rw [hl.2]; exact hb)).mono fun e w' ⟨A1, c1, h1, h2, h3, h4, h5⟩ => ⟨A1, c1, h1, ints_els h2, h3, h4, Agr.of_below h5⟩
theorem frame_ok2 (fn at_ : Int) (ls ss : List SlotD) (rs sp : List Int) (L S A : Option Addr) (lc sc c : Nat) (hr : rs.length = 16) (hl : ls.length * 24 ≤ 140737488351232) (hl2 : ss.length * 24 ≤ 140737488351232) (w : World) (hls : Els slotC 3 w L ls) (hss : Els slotC 3 w S ss) (hs : Els CI 1 w A sp) (hE : frE sp ls ss = 0) (xs ys : List ValD) (hx : ls.map (slotV rs sp) = xs) (hy : ss.map (slotV rs sp) = ys) :
    Calls Try.prog 15 #[.agg #[.int .i64 fn, .int .i64 at_, .slice L ls.length lc, .slice S ss.length sc], .agg (regsC rs (.slice A sp.length c))] w fun e w' => ∃ A1 c1 A2 c2, e = .returned (.tuple #[.agg #[.int .i64 fn, .int .i64 at_, .slice A1 xs.length c1, .slice A2 ys.length c2], .int .i64 0]) ∧ Row valC 2 43 w.heap.size (.slice A1 xs.length c1) xs w' ∧ Row valC 2 43 w.heap.size (.slice A2 ys.length c2) ys w' ∧ (∀ a1 a2, A2 = some a1 → A1 = some a2 → a1.block ≠ a2.block) ∧ Agr [] w w' :=
  (frame_calls2 fn at_ ls ss rs sp L S A lc sc c hr hl hl2 w hls hss (els_ints hs)).mono fun e w' h => by
    subst hx; subst hy
    rcases h with ⟨_, v1, v2, rfl, h1, h2, hb, hd⟩ | ⟨h0, _⟩
    · have r1 : Row valC 2 43 w.heap.size v1 (ls.map (slotV rs sp)) w' := by unfold Row; rw [List.length_map]; exact h1
      have r2 : Row valC 2 43 w.heap.size v2 (ss.map (slotV rs sp)) w' := by unfold Row; rw [List.length_map]; exact h2
      obtain ⟨A1, c1, rfl, _, _, _⟩ := row_form valC_len r1
      obtain ⟨A2, c2, rfl, _, _, _⟩ := row_form valC_len r2
      refine ⟨A1, c1, A2, c2, rfl, r1, r2, ?_, Agr.of_below hb⟩
      intro a1 a2 e1 e2 he
      subst e1; subst e2
      exact hd a2.block rfl (by simp [Value.ownBlock, he])
    · rw [hE] at h0; cases h0
theorem regsL_one (R : List Int) (A : Option Addr) (n c : Nat) : (R.map (Value.int .i64) ++ [Value.slice A n c]).all (·.oneCell') = true := by simp [Value.oneCell']
theorem bK_17 (vs : List Int) (k : Nat) (v : Value) : ((bK vs k).1.map (Value.int .i64) ++ [v]).length = 17 := by simp [(bK_len vs k).1]

theorem fa_39_2 {ρ : Operand → Value} {w : World} {dst : Option Tmp} {ty : TypeId} {pos : String} {aft : Array Edge} {gd : Option (Nat × Bool)} {x : Operand} {b o : Nat} (hx : ρ x = .pointer (some ⟨b, o, none⟩)) : (execOp ρ ⟨dst, .fieldAddr 39 x 2, ty, pos, aft, gd⟩).run Try.prog w = .ok (.value (.pointer (some ⟨b, o + 2, none⟩))) w := rn_field hx Try.underlying39 rfl (by kernel_rfl) rfl
theorem fa_39_3 {ρ : Operand → Value} {w : World} {dst : Option Tmp} {ty : TypeId} {pos : String} {aft : Array Edge} {gd : Option (Nat × Bool)} {x : Operand} {b o : Nat} (hx : ρ x = .pointer (some ⟨b, o, none⟩)) : (execOp ρ ⟨dst, .fieldAddr 39 x 3, ty, pos, aft, gd⟩).run Try.prog w = .ok (.value (.pointer (some ⟨b, o + 3, none⟩))) w := rn_field hx Try.underlying39 rfl (by kernel_rfl) rfl
theorem fa_42_0 {ρ : Operand → Value} {w : World} {dst : Option Tmp} {ty : TypeId} {pos : String} {aft : Array Edge} {gd : Option (Nat × Bool)} {x : Operand} {b o : Nat} (hx : ρ x = .pointer (some ⟨b, o, none⟩)) : (execOp ρ ⟨dst, .fieldAddr 42 x 0, ty, pos, aft, gd⟩).run Try.prog w = .ok (.value (.pointer (some ⟨b, o + 0, none⟩))) w := rn_field hx Try.underlying42 rfl (by kernel_rfl) rfl
theorem fa_45_2 {ρ : Operand → Value} {w : World} {dst : Option Tmp} {ty : TypeId} {pos : String} {aft : Array Edge} {gd : Option (Nat × Bool)} {x : Operand} {b o : Nat} (hx : ρ x = .pointer (some ⟨b, o, none⟩)) : (execOp ρ ⟨dst, .fieldAddr 45 x 2, ty, pos, aft, gd⟩).run Try.prog w = .ok (.value (.pointer (some ⟨b, o + 2, none⟩))) w := rn_field hx Try.underlying45 rfl (by kernel_rfl) rfl
theorem fa_45_3 {ρ : Operand → Value} {w : World} {dst : Option Tmp} {ty : TypeId} {pos : String} {aft : Array Edge} {gd : Option (Nat × Bool)} {x : Operand} {b o : Nat} (hx : ρ x = .pointer (some ⟨b, o, none⟩)) : (execOp ρ ⟨dst, .fieldAddr 45 x 3, ty, pos, aft, gd⟩).run Try.prog w = .ok (.value (.pointer (some ⟨b, o + 3, none⟩))) w := rn_field hx Try.underlying45 rfl (by kernel_rfl) rfl
theorem inf_42 : (Try.prog.info? 42).map (fun i => (i.zero, i.size, i.bytes)) = some (some (.agg #[.int .i64 0, .int .i64 0, .int .i64 0]), 3, 24) := by kernel_rfl
theorem inf_43 : (Try.prog.info? 43).map (fun i => (i.zero, i.size, i.bytes)) = some (some (.agg #[.int .i64 0, .int .i64 0]), 2, 16) := by kernel_rfl
theorem sz_2 : (Try.prog.info? 2).map (·.size) = some 1 := by kernel_rfl
theorem sz_3 : (Try.prog.info? 3).map (·.size) = some 1 := by kernel_rfl
theorem sz_5 : (Try.prog.info? 5).map (·.size) = some 1 := by kernel_rfl
theorem sz_23 : (Try.prog.info? 23).map (·.size) = some 2 := by kernel_rfl
theorem sz_27 : (Try.prog.info? 27).map (·.size) = some 17 := by kernel_rfl
theorem sz_37 : (Try.prog.info? 37).map (·.size) = some 1 := by kernel_rfl
theorem sz_39 : (Try.prog.info? 39).map (·.size) = some 4 := by kernel_rfl
theorem sz_40 : (Try.prog.info? 40).map (·.size) = some 1 := by kernel_rfl
theorem sz_42 : (Try.prog.info? 42).map (·.size) = some 3 := by kernel_rfl
theorem sz_45 : (Try.prog.info? 45).map (·.size) = some 4 := by kernel_rfl
theorem zv_23 : ∀ w : World, (zeroValue 23).run Try.prog w = .ok (.agg #[.int .i64 0, .int .i64 0]) w := fun w => by kernel_rfl
theorem zv_27 : ∀ w : World, (zeroValue 27).run Try.prog w = .ok (.agg #[.int .i64 0, .int .i64 0, .int .i64 0, .int .i64 0, .int .i64 0, .int .i64 0, .int .i64 0, .int .i64 0, .int .i64 0, .int .i64 0, .int .i64 0, .int .i64 0, .int .i64 0, .int .i64 0, .int .i64 0, .int .i64 0, .slice none 0 0]) w := fun w => by kernel_rfl
theorem zv_39 : ∀ w : World, (zeroValue 39).run Try.prog w = .ok (.agg #[.int .i64 0, .int .i64 0, .slice none 0 0, .slice none 0 0]) w := fun w => by kernel_rfl
theorem zv_42 : ∀ w : World, (zeroValue 42).run Try.prog w = .ok (.agg #[.int .i64 0, .int .i64 0, .int .i64 0]) w := fun w => by kernel_rfl
theorem zv_45 : ∀ w : World, (zeroValue 45).run Try.prog w = .ok (.agg #[.int .i64 0, .int .i64 0, .slice none 0 0, .slice none 0 0]) w := fun w => by kernel_rfl
set_option maxHeartbeats 1000000 in
theorem back_walk (ks : List UInt8) (vs : List Int) (sb : UInt8) (KA VA : Option Addr) (kc vc : Nat) (hks : ks.length ≤ 9223372036854775807) (hvs : vs.length ≤ 9223372036854775807) (w0 : World) (ha : Els C8 1 w0 KA ks) (hb : Els CI 1 w0 VA vs) :
    Calls Try.prog 4 #[.slice KA ks.length kc, .slice VA vs.length vc, .int .u8 (sb.toNat : Int)] w0 fun e w' => e = .returned (.bool true) ∧ Below w0.heap.size w0 w' := by
  have st : St w0 [] w0 [els C8 1 KA ks, els CI 1 VA vs] := (add_ro (add_ro (start0 w0 []) (by simp [els, It.wr]) rfl (els_ok (C := CI) (sz := 1) (by decide) (fun x => rfl) hb)) (by simp [els, It.wr]) rfl (els_ok (C := C8) (sz := 1) (by decide) (fun x => rfl) ha))
  clear ha hb
  obtain ⟨m, hm0⟩ : ∃ m, m = min (min ks.length vs.length) 30 := ⟨_, rfl⟩
  have hsn := sb.toNat_lt
  generalize sb.toNat = sn at hsn
  refine enter Try.func4 rfl Try.ntmps4 (by simp) ?_
  intro a fr
  refine wp_seq ?_
  refine reg ?_
  refine lst rfl (ow_v fr (rn_assign (fr.ev rfl)) rfl rfl ?_)
  intro a fr
  refine wpList_nil ?_
  refine then_n ?_
  refine wp_seq ?_
  refine reg ?_
  refine lst rfl (ow_v fr (rn_move (fr.ev rfl)) rfl rfl ?_)
  intro a fr
  refine lst rfl (ow_v fr (rn_len (fr.ev rfl) Try.underlying36) rfl rfl ?_)
  intro a fr
  refine lst rfl (ow_v fr (rn_move (fr.ev rfl)) rfl rfl ?_)
  intro a fr
  refine lst rfl (ow_v fr (rn_len (fr.ev rfl) Try.underlying25) rfl rfl ?_)
  intro a fr
  refine lst rfl (ow_v fr (rn_min3 (c := ((m : Nat) : Int)) (fr.ev rfl) (fr.ev rfl) (fr.ev rfl) (by rw [hm0]; (repeat' split) <;> omega)) rfl rfl ?_)
  intro a fr
  refine lst rfl (ow_v fr (rn_assign (fr.ev rfl)) rfl rfl ?_)
  intro a fr
  refine wpList_nil ?_
  refine then_n ?_
  refine wp_seq ?_
  refine reg ?_
  have hmk : ∀ w : World, (Instr.makeSlice 25 (.int .i64 30) (.int .i64 30)).run Try.prog w = .ok (.slice (some ⟨w.heap.size, 0, none⟩) 30 30) (w.alloc (.cells ([.int .i64 0, .int .i64 0, .int .i64 0, .int .i64 0, .int .i64 0, .int .i64 0, .int .i64 0, .int .i64 0, .int .i64 0, .int .i64 0, .int .i64 0, .int .i64 0, .int .i64 0, .int .i64 0, .int .i64 0, .int .i64 0, .int .i64 0, .int .i64 0, .int .i64 0, .int .i64 0, .int .i64 0, .int .i64 0, .int .i64 0, .int .i64 0, .int .i64 0, .int .i64 0, .int .i64 0, .int .i64 0, .int .i64 0, .int .i64 0]).toArray 2)) := fun w => by kernel_rfl
  refine lst rfl (ow_make (E := 2) fr st ([.int .i64 0, .int .i64 0, .int .i64 0, .int .i64 0, .int .i64 0, .int .i64 0, .int .i64 0, .int .i64 0, .int .i64 0, .int .i64 0, .int .i64 0, .int .i64 0, .int .i64 0, .int .i64 0, .int .i64 0, .int .i64 0, .int .i64 0, .int .i64 0, .int .i64 0, .int .i64 0, .int .i64 0, .int .i64 0, .int .i64 0, .int .i64 0, .int .i64 0, .int .i64 0, .int .i64 0, .int .i64 0, .int .i64 0, .int .i64 0]) (fun b => .slice (some ⟨b, 0, none⟩) 30 30) (fun w => by simp only [execOp]; rw [fr.ev (x := .const (.int .i64 30)) rfl]; simp only [Sem.run_bind, hmk w, Result.andThen_ok, Sem.run_pure]) rfl rfl ?_)
  intro a w b1 fr st
  clear hmk
  refine lst rfl (ow_v fr (rn_build (cells := #[.int .i64 0, .int .i64 0, .int .i64 0, .int .i64 0, .int .i64 0, .int .i64 0, .int .i64 0, .int .i64 0, .int .i64 0, .int .i64 0, .int .i64 0, .int .i64 0, .int .i64 0, .int .i64 0, .int .i64 0, .int .i64 0, .slice (some ⟨b1, 0, none⟩) 30 30]) (by simp only [List.map_toArray, List.map_cons, List.map_nil]; rw [fr.ev (x := .tmp 23) rfl]; rfl)) rfl rfl ?_)
  intro a fr
  refine lst rfl (ow_alloc fr st rfl zv_27 rfl rfl _ (by rfl) ?_)
  intro a w b2 fr st
  refine lst rfl (ow_stN fr st 0 (vs := [.int .i64 0, .int .i64 0, .int .i64 0, .int .i64 0, .int .i64 0, .int .i64 0, .int .i64 0, .int .i64 0, .int .i64 0, .int .i64 0, .int .i64 0, .int .i64 0, .int .i64 0, .int .i64 0, .int .i64 0, .int .i64 0, .slice (some ⟨b1, 0, none⟩) 30 30]) rfl rfl rfl rfl sz_27 rfl (Nat.le_of_ble_eq_true rfl) rfl ?_)
  intro w (st : St _ [] w [.blk b2 [.int .i64 0, .int .i64 0, .int .i64 0, .int .i64 0, .int .i64 0, .int .i64 0, .int .i64 0, .int .i64 0, .int .i64 0, .int .i64 0, .int .i64 0, .int .i64 0, .int .i64 0, .int .i64 0, .int .i64 0, .int .i64 0, .slice (some ⟨b1, 0, none⟩) 30 30] 27, .blk b1 [.int .i64 0, .int .i64 0, .int .i64 0, .int .i64 0, .int .i64 0, .int .i64 0, .int .i64 0, .int .i64 0, .int .i64 0, .int .i64 0, .int .i64 0, .int .i64 0, .int .i64 0, .int .i64 0, .int .i64 0, .int .i64 0, .int .i64 0, .int .i64 0, .int .i64 0, .int .i64 0, .int .i64 0, .int .i64 0, .int .i64 0, .int .i64 0, .int .i64 0, .int .i64 0, .int .i64 0, .int .i64 0, .int .i64 0, .int .i64 0] 2, els C8 1 KA ks, els CI 1 VA vs])
  refine wpList_nil ?_
  refine then_n ?_
  refine wp_seq ?_
  refine reg ?_
  refine lst rfl (ow_alloc fr st rfl zv_39 rfl rfl _ (by rfl) ?_)
  intro a w b3 fr st
  refine wpList_nil ?_
  refine then_n ?_
  refine wp_seq ?_
  refine reg ?_
  refine lst rfl (ow_v fr (rn_assign (fr.ev rfl)) rfl rfl ?_)
  intro a fr
  refine wpList_nil ?_
  refine then_n ?_
  refine wp_seq ?_
  refine wp_seq ?_
  refine reg ?_
  refine lst rfl (ow_v fr (rn_move (fr.ev rfl)) rfl rfl ?_)
  intro a fr
  refine lst rfl (ow_v fr (rn_move (fr.ev rfl)) rfl rfl ?_)
  intro a fr
  refine wpList_nil ?_
  refine then_n ?_
  refine wp_block ?_
  have hz := els_of_blk (C := CI) (xs := (bK vs 0).2) CI_len (by decide) (st.get 2 rfl) (by rfl)
  have st := st.weaken 2 rfl (it := els CI 1 (some ⟨b1, 0, none⟩) (bK vs 0).2) (fun h => by cases h) (fun b hb => by simpa [els, It.fp, elsFp, bK] using hb) hz
  clear hz
  have st := st.nil (E := ValD) valC 2 43 w0.heap.size (Nat.le_refl _)
  have st := st.nil (E := SlotD) slotC 3 42 w0.heap.size (Nat.le_refl _)
  have st := st.nil (E := SlotD) slotC 3 42 w0.heap.size (Nat.le_refl _)
  have st := st.focus 5 rfl rfl (it := els CI 1 (some ⟨b1, 0, none⟩) (bK vs 0).2) rfl (st.get 5 rfl) (fun b hb => hb)
  have st := st.sub (.cons_cons _ (.cons_cons _ (.cons_cons _ (.cons_cons _ (.cons_cons _ (.cons_cons _ (.cons _ (.cons_cons _ (.cons_cons _ .slnil)))))))))
  refine wp_loop_ghost (fun mz a w => ∃ (k : Nat) (A : Option Addr) (As : Option Addr) (Al : Option Addr) (Aw : Option Addr) (c : Nat) (cs : Nat) (cl : Nat) (cw : Nat), (k ≤ m) ∧ (A = none → c = 0) ∧ mz = m - k ∧ FrL 106 a [(0, .slice KA ks.length kc), (1, .slice VA vs.length vc), (2, .int .u8 ((sn : Nat))), (8, .pointer (some ⟨b2, 0, none⟩)), (9, .pointer (some ⟨b3, 0, none⟩)), (10, .slice Aw (((List.range k).map (wantB ks vs)).length) cw), (25, .int .i64 ((m : Nat))), (26, .int .i64 ((k : Nat)))] ∧ St w0 [] w [els CI 1 A (bK vs k).2, row slotC 3 42 w0.heap.size (.slice As (((stI sn k).map (slotB ks)).length) cs) (((stI sn k).map (slotB ks))), row slotC 3 42 w0.heap.size (.slice Al (((loI sn k).map (slotB ks)).length) cl) (((loI sn k).map (slotB ks))), row valC 2 43 w0.heap.size (.slice Aw (((List.range k).map (wantB ks vs)).length) cw) (((List.range k).map (wantB ks vs))), .blk b3 [.int .i64 0, .int .i64 0, .slice Al (((loI sn k).map (slotB ks)).length) cl, .slice As (((stI sn k).map (slotB ks)).length) cs] 39, .blk b2 ((bK vs k).1.map (Value.int .i64) ++ [Value.slice A (bK vs k).2.length c]) 27, els C8 1 KA ks, els CI 1 VA vs]) _ ⟨0, some ⟨b1, 0, none⟩, none, none, none, 30, 0, 0, 0, (Nat.zero_le _), (fun h => by cases h), rfl, fr.prune ⟨rfl, rfl, rfl, rfl, rfl, rfl, rfl, rfl, trivial⟩, st⟩ ?_
  clear fr st
  intro mz a w hI
  obtain ⟨k, A, As, Al, Aw, c, cs, cl, cw, hk, hnA, hmz, fr, st⟩ := hI
  by_cases hlt : k < m
  · obtain ⟨b4, o5, eA, st⟩ := st.elem 6 rfl k (by omega) (by simp [C8])
    cases eA
    obtain ⟨x, hx_ks_x⟩ : ∃ x, ks[k] = x := ⟨_, rfl⟩
    rw [hx_ks_x] at st
    replace st : St _ [] w [ro b4 (o5 + k * 1) [.int .u8 ((x.toNat : Int))], els CI 1 A (bK vs k).2, row slotC 3 42 w0.heap.size (.slice As (((stI sn k).map (slotB ks)).length) cs) (((stI sn k).map (slotB ks))), row slotC 3 42 w0.heap.size (.slice Al (((loI sn k).map (slotB ks)).length) cl) (((loI sn k).map (slotB ks))), row valC 2 43 w0.heap.size (.slice Aw (((List.range k).map (wantB ks vs)).length) cw) (((List.range k).map (wantB ks vs))), .blk b3 [.int .i64 0, .int .i64 0, .slice Al (((loI sn k).map (slotB ks)).length) cl, .slice As (((stI sn k).map (slotB ks)).length) cs] 39, .blk b2 ((bK vs k).1.map (Value.int .i64) ++ [Value.slice A (bK vs k).2.length c]) 27, els C8 1 (some ⟨b4, o5, none⟩) ks, els CI 1 VA vs] := st
    obtain ⟨b6, o7, eA, st⟩ := st.elem 8 rfl k (by omega) (by simp [CI])
    cases eA
    obtain ⟨y, hx_vs_y⟩ : ∃ y, vs[k] = y := ⟨_, rfl⟩
    rw [hx_vs_y] at st
    replace st : St _ [] w [ro b6 (o7 + k * 1) [.int .i64 (y)], ro b4 (o5 + k * 1) [.int .u8 ((x.toNat : Int))], els CI 1 A (bK vs k).2, row slotC 3 42 w0.heap.size (.slice As (((stI sn k).map (slotB ks)).length) cs) (((stI sn k).map (slotB ks))), row slotC 3 42 w0.heap.size (.slice Al (((loI sn k).map (slotB ks)).length) cl) (((loI sn k).map (slotB ks))), row valC 2 43 w0.heap.size (.slice Aw (((List.range k).map (wantB ks vs)).length) cw) (((List.range k).map (wantB ks vs))), .blk b3 [.int .i64 0, .int .i64 0, .slice Al (((loI sn k).map (slotB ks)).length) cl, .slice As (((stI sn k).map (slotB ks)).length) cs] 39, .blk b2 ((bK vs k).1.map (Value.int .i64) ++ [Value.slice A (bK vs k).2.length c]) 27, els C8 1 (some ⟨b4, o5, none⟩) ks, els CI 1 (some ⟨b6, o7, none⟩) vs] := st
    have hx256 := x.toNat_lt
    have qk : kdB ks k = ((1 + x.toNat % 3 : Nat) : Int) := by unfold kdB; rw [List.getD_eq_getElem?_getD, List.getElem?_eq_getElem (by omega), hx_ks_x]; rfl
    have qy : vs.getD k 0 = y := by rw [List.getD_eq_getElem?_getD, List.getElem?_eq_getElem (by omega), hx_vs_y]; rfl
    have qw : wantB ks vs k = (((1 + x.toNat % 3 : Nat) : Int), y) := by unfold wantB; rw [qk, qy]
    by_cases h2 : k % 2 = 1
    · by_cases hs : k < sn
      · have qs : slotB ks k = (((1 + x.toNat % 3 : Nat) : Int), 2, (k : Int)) := by unfold slotB; rw [qk, locB_odd h2]
        have ql : locB k = (2, (k : Int)) := locB_odd h2
        refine wp_seq ?_
        refine reg ?_
        refine lst rfl (ow_v fr (rn_as (v' := .bool true) (rn_lss (fr.ev rfl) (fr.ev rfl)) (congrArg Value.bool (decide_eq_true (by omega)))) rfl rfl ?_)
        intro a fr
        refine wpList_nil ?_
        refine then_n ?_
        refine wp_seq ?_
        refine cond_t fr rfl rfl ?_
        refine wp_skip ?_
        refine then_n ?_
        refine wp_seq ?_
        refine wp_block ?_
        refine wp_seq ?_
        refine reg ?_
        refine lst rfl (ow_v fr (rn_move (fr.ev rfl)) rfl rfl ?_)
        intro a fr
        refine lst rfl (ow_v fr (rn_assign (fr.ev rfl)) rfl rfl ?_)
        intro a fr
        refine wpList_nil ?_
        refine then_n ?_
        refine wp_seq ?_
        refine reg ?_
        refine lst rfl (ow_v fr (rn_move (fr.ev rfl)) rfl rfl ?_)
        intro a fr
        refine lst rfl (ow_v fr (rn_quo (c := ((k / 2 : Nat) : Int)) (fr.ev rfl) (fr.ev rfl) (by decide) (wdv (a := k) (m := 2) rfl rfl (by omega))) rfl rfl ?_)
        intro a fr
        refine lst rfl (ow_v fr (rn_build (cells := #[.int .i64 1, .int .i64 (((k / 2 : Nat) : Int))]) (by simp only [List.map_toArray, List.map_cons, List.map_nil]; rw [fr.ev (x := .tmp 30) rfl]; rfl)) rfl rfl ?_)
        intro a fr
        refine lst rfl (ow_alloc fr st rfl zv_23 rfl rfl _ (by rfl) ?_)
        intro a w b8 fr st
        refine lst rfl (ow_stN fr st 0 (vs := [.int .i64 1, .int .i64 (((k / 2 : Nat) : Int))]) rfl rfl rfl rfl sz_23 rfl (Nat.le_of_ble_eq_true rfl) rfl ?_)
        intro w (st : St _ [] w [.blk b8 [.int .i64 1, .int .i64 (((k / 2 : Nat) : Int))] 23, ro b6 (o7 + k * 1) [.int .i64 (y)], ro b4 (o5 + k * 1) [.int .u8 ((x.toNat : Int))], els CI 1 A (bK vs k).2, row slotC 3 42 w0.heap.size (.slice As (((stI sn k).map (slotB ks)).length) cs) (((stI sn k).map (slotB ks))), row slotC 3 42 w0.heap.size (.slice Al (((loI sn k).map (slotB ks)).length) cl) (((loI sn k).map (slotB ks))), row valC 2 43 w0.heap.size (.slice Aw (((List.range k).map (wantB ks vs)).length) cw) (((List.range k).map (wantB ks vs))), .blk b3 [.int .i64 0, .int .i64 0, .slice Al (((loI sn k).map (slotB ks)).length) cl, .slice As (((stI sn k).map (slotB ks)).length) cs] 39, .blk b2 ((bK vs k).1.map (Value.int .i64) ++ [Value.slice A (bK vs k).2.length c]) 27, els C8 1 (some ⟨b4, o5, none⟩) ks, els CI 1 (some ⟨b6, o7, none⟩) vs])
        refine wpList_nil ?_
        refine then_n ?_
        refine wp_seq ?_
        refine wp_seq ?_
        refine reg ?_
        refine lst rfl (ow_v fr (rn_move (fr.ev rfl)) rfl rfl ?_)
        intro a fr
        refine lst rfl (ow_v fr (rn_rem (c := ((k % 2 : Nat) : Int)) (fr.ev rfl) (fr.ev rfl) (by decide) (rm_nat (a := k) (m := 2) rfl rfl)) rfl rfl ?_)
        intro a fr
        refine lst rfl (ow_v fr (rn_as (v' := .bool true) (rn_eql (fr.ev rfl) (fr.ev rfl)) (congrArg Value.bool (by simp; omega))) rfl rfl ?_)
        intro a fr
        refine wpList_nil ?_
        refine then_n ?_
        refine cond_t fr rfl rfl ?_
        refine reg ?_
        refine lst rfl (ow_v fr (rn_move (fr.ev rfl)) rfl rfl ?_)
        intro a fr
        refine lst rfl (ow_v fr (rn_build (cells := #[.int .i64 2, .int .i64 ((k : Nat))]) (by simp only [List.map_toArray, List.map_cons, List.map_nil]; rw [fr.ev (x := .tmp 35) rfl]; rfl)) rfl rfl ?_)
        intro a fr
        refine lst rfl (ow_stN fr st 0 (vs := [.int .i64 2, .int .i64 ((k : Nat))]) rfl rfl rfl rfl sz_23 rfl (Nat.le_of_ble_eq_true rfl) rfl ?_)
        intro w (st : St _ [] w [.blk b8 [.int .i64 2, .int .i64 ((k : Nat))] 23, ro b6 (o7 + k * 1) [.int .i64 (y)], ro b4 (o5 + k * 1) [.int .u8 ((x.toNat : Int))], els CI 1 A (bK vs k).2, row slotC 3 42 w0.heap.size (.slice As (((stI sn k).map (slotB ks)).length) cs) (((stI sn k).map (slotB ks))), row slotC 3 42 w0.heap.size (.slice Al (((loI sn k).map (slotB ks)).length) cl) (((loI sn k).map (slotB ks))), row valC 2 43 w0.heap.size (.slice Aw (((List.range k).map (wantB ks vs)).length) cw) (((List.range k).map (wantB ks vs))), .blk b3 [.int .i64 0, .int .i64 0, .slice Al (((loI sn k).map (slotB ks)).length) cl, .slice As (((stI sn k).map (slotB ks)).length) cs] 39, .blk b2 ((bK vs k).1.map (Value.int .i64) ++ [Value.slice A (bK vs k).2.length c]) 27, els C8 1 (some ⟨b4, o5, none⟩) ks, els CI 1 (some ⟨b6, o7, none⟩) vs])
        refine wpList_nil ?_
        refine then_n ?_
        refine wp_seq ?_
        refine dr_start (by kernel_rfl) st (.cons_cons _ (.cons_cons _ (.cons_cons _ (.cons_cons _ (.cons_cons _ (.cons_cons _ (.cons_cons _ (.cons_cons _ (.cons_cons _ (.cons_cons _ (.cons_cons _ .slnil))))))))))) ?_
        intro w st
        refine dr_take 0 rfl (by kernel_rfl) (by kernel_rfl) (by kernel_rfl) (fun _ _ _ h => h) fr rfl (st.sub (.cons_cons _ (.cons_cons _ (.cons_cons _ (.cons_cons _ (.cons_cons _ (.cons_cons _ (.cons_cons _ (.cons_cons _ (.cons_cons _ (.cons_cons _ (.cons_cons _ .slnil)))))))))))) (fun w st => rn_loadN (cs := [.int .i64 2, .int .i64 ((k : Nat))]) (fr.ev rfl) Try.underlying23 rfl sz_23 (st.blkrange 0 rfl 0 rfl)) rfl rfl ?_
        intro a fr
        refine dr_take 1 rfl (by kernel_rfl) (by kernel_rfl) (by kernel_rfl) (fun _ _ _ h => h) fr rfl (st.sub (.cons_cons _ (.cons_cons _ (.cons_cons _ (.cons_cons _ (.cons_cons _ (.cons_cons _ (.cons_cons _ (.cons_cons _ (.cons_cons _ (.cons_cons _ (.cons_cons _ .slnil)))))))))))) (fun w st => rn_move (fr.ev rfl)) rfl rfl ?_
        intro a fr
        refine dr_take 2 rfl (by kernel_rfl) (by kernel_rfl) (by kernel_rfl) (fun _ _ _ h => h) fr rfl (st.sub (.cons_cons _ (.cons_cons _ (.cons_cons _ (.cons_cons _ (.cons_cons _ (.cons_cons _ (.cons_cons _ (.cons_cons _ (.cons_cons _ (.cons_cons _ (.cons_cons _ .slnil)))))))))))) (fun w st => rn_move (fr.ev rfl)) rfl rfl ?_
        intro a fr
        refine dr_take 3 rfl (by kernel_rfl) (by kernel_rfl) (by kernel_rfl) (fun _ _ _ h => h) fr rfl (st.sub (.cons_cons _ (.cons_cons _ (.cons_cons _ (.cons_cons _ (.cons_cons _ (.cons_cons _ (.cons_cons _ (.cons_cons _ (.cons_cons _ (.cons_cons _ (.cons_cons _ .slnil)))))))))))) (fun w st => rn_at (i := k) (fr.ev rfl) (fr.ev rfl) Try.underlying25 sz_2 (by omega) (by rfl)) rfl rfl ?_
        intro a fr
        refine dr_take 4 rfl (by kernel_rfl) (by kernel_rfl) (by kernel_rfl) (fun _ _ _ h => h) fr rfl (st.sub (.cons_cons _ (.cons_cons _ (.cons_cons _ (.cons_cons _ (.cons_cons _ (.cons_cons _ (.cons_cons _ (.cons_cons _ (.cons_cons _ (.cons_cons _ (.cons_cons _ .slnil)))))))))))) (fun w st => rn_load (fr.ev rfl) Try.underlying2 rfl (st.rocell 1 rfl (j := 0) rfl)) rfl rfl ?_
        intro a fr
        refine dr_take 5 rfl (by kernel_rfl) (by kernel_rfl) (by kernel_rfl) (fun _ _ _ h => h) fr rfl (st.sub (.cons_cons _ (.cons_cons _ (.cons_cons _ (.cons_cons _ (.cons_cons _ (.cons_cons _ (.cons_cons _ (.cons_cons _ (.cons_cons _ (.cons_cons _ (.cons_cons _ .slnil)))))))))))) (fun w st => rn_loadN (cs := (bK vs k).1.map (Value.int .i64) ++ [Value.slice A (bK vs k).2.length c]) (fr.ev rfl) Try.underlying27 rfl (by rw [bK_17 _ _ _]; exact sz_27) (st.blkrange 8 rfl 0 (by rw [List.drop_zero, List.take_length]))) rfl rfl ?_
        intro a fr
        refine dr_two 6 10 (by kernel_rfl) rfl rfl rfl rfl ?_ ?_
        · refine ow_call fr rfl rfl Try.call11 (put_next vs k (by omega) 2 (k : Int) y ql qy A c hnA _ (st.get 3 rfl).1) rfl rfl ?_
          rintro e w ⟨A9, c10, rfl, he1, hn1, hf1, hag⟩
          refine ⟨_, rfl, ?_⟩
          intro a fr
          have st := st.call_els (C := CI) (sz := 1) hag (by decide) CI_len he1 hf1
          clear he1 hf1 hag
          refine ⟨st.sub (.cons _ (.cons_cons _ (.cons_cons _ (.cons_cons _ (.cons_cons _ (.cons_cons _ (.cons_cons _ (.cons_cons _ (.cons_cons _ (.cons_cons _ (.cons_cons _ (.cons_cons _ .slnil)))))))))))), ?_⟩
          refine dr_take 7 rfl (by kernel_rfl) (by kernel_rfl) (by kernel_rfl) (fun _ _ _ h => h) fr rfl (st.sub (.cons _ (.cons_cons _ (.cons_cons _ (.cons_cons _ (.cons_cons _ (.cons_cons _ (.cons_cons _ (.cons_cons _ (.cons_cons _ (.cons_cons _ (.cons_cons _ (.cons_cons _ .slnil))))))))))))) (fun w st => rn_move (fr.ev rfl)) rfl rfl ?_
          intro a fr
          refine dr_take 8 rfl (by kernel_rfl) (by kernel_rfl) (by kernel_rfl) (fun _ _ _ h => h) fr rfl (st.sub (.cons _ (.cons_cons _ (.cons_cons _ (.cons_cons _ (.cons_cons _ (.cons_cons _ (.cons_cons _ (.cons_cons _ (.cons_cons _ (.cons_cons _ (.cons_cons _ (.cons_cons _ .slnil))))))))))))) (fun w st => rn_extract (fr.ev rfl) rfl) rfl rfl ?_
          intro a fr
          refine dr_take 9 rfl (by kernel_rfl) (by kernel_rfl) (by kernel_rfl) (fun _ _ _ h => h) fr rfl (st.sub (.cons _ (.cons_cons _ (.cons_cons _ (.cons_cons _ (.cons_cons _ (.cons_cons _ (.cons_cons _ (.cons_cons _ (.cons_cons _ (.cons_cons _ (.cons_cons _ (.cons_cons _ .slnil))))))))))))) (fun w st => rn_extract (fr.ev rfl) rfl) rfl rfl ?_
          intro a fr
          refine dr_one 10 (by kernel_rfl) rfl rfl (ow_alloc fr st rfl zv_27 rfl rfl _ (by rfl) ?_)
          intro a w b11 fr st
          refine ⟨st.sub (.cons _ (.cons _ (.cons_cons _ (.cons_cons _ (.cons_cons _ (.cons_cons _ (.cons_cons _ (.cons_cons _ (.cons_cons _ (.cons_cons _ (.cons_cons _ (.cons_cons _ (.cons_cons _ .slnil))))))))))))), ?_⟩
          refine dr_one 11 (by kernel_rfl) rfl rfl (ow_stN fr st 0 (vs := (bK vs (k + 1)).1.map (Value.int .i64) ++ [Value.slice A9 (bK vs (k + 1)).2.length c10]) rfl rfl rfl (regsL_one _ _ _ _) (by rw [bK_17 _ _ _]; exact sz_27) rfl (by simp only [bK_17]; exact Nat.le_of_ble_eq_true rfl) rfl ?_)
          intro w st
          rw [setR_all _ _ (by first | (simp only [bK_17]; done) | (simp only [bK_17]; rfl))] at st
          replace st : St _ [] w [.blk b11 ((bK vs (k + 1)).1.map (Value.int .i64) ++ [Value.slice A9 (bK vs (k + 1)).2.length c10]) 27, els CI 1 A9 (bK vs (k + 1)).2, .blk b8 [.int .i64 2, .int .i64 ((k : Nat))] 23, ro b6 (o7 + k * 1) [.int .i64 (y)], ro b4 (o5 + k * 1) [.int .u8 ((x.toNat : Int))], els CI 1 A (bK vs k).2, row slotC 3 42 w0.heap.size (.slice As (((stI sn k).map (slotB ks)).length) cs) (((stI sn k).map (slotB ks))), row slotC 3 42 w0.heap.size (.slice Al (((loI sn k).map (slotB ks)).length) cl) (((loI sn k).map (slotB ks))), row valC 2 43 w0.heap.size (.slice Aw (((List.range k).map (wantB ks vs)).length) cw) (((List.range k).map (wantB ks vs))), .blk b3 [.int .i64 0, .int .i64 0, .slice Al (((loI sn k).map (slotB ks)).length) cl, .slice As (((stI sn k).map (slotB ks)).length) cs] 39, .blk b2 ((bK vs k).1.map (Value.int .i64) ++ [Value.slice A (bK vs k).2.length c]) 27, els C8 1 (some ⟨b4, o5, none⟩) ks, els CI 1 (some ⟨b6, o7, none⟩) vs] := st
          refine ⟨st.sub (.cons _ (.cons _ (.cons_cons _ (.cons_cons _ (.cons_cons _ (.cons_cons _ (.cons_cons _ (.cons_cons _ (.cons_cons _ (.cons_cons _ (.cons_cons _ (.cons_cons _ (.cons_cons _ .slnil))))))))))))), ?_⟩
          refine dr_take 12 rfl (by kernel_rfl) (by kernel_rfl) (by kernel_rfl) (fun _ _ _ h => h) fr rfl (st.sub (.cons _ (.cons _ (.cons_cons _ (.cons_cons _ (.cons_cons _ (.cons_cons _ (.cons_cons _ (.cons_cons _ (.cons_cons _ (.cons_cons _ (.cons_cons _ (.cons_cons _ (.cons_cons _ .slnil)))))))))))))) (fun w st => rn_assign (fr.ev rfl)) rfl rfl ?_
          intro a fr
          refine dr_done (by kernel_rfl) ?_
          refine then_n ?_
          refine wp_seq ?_
          refine wp_seq ?_
          refine reg ?_
          refine lst rfl (ow_v fr (rn_move (fr.ev rfl)) rfl rfl ?_)
          intro a fr
          refine lst rfl (ow_v fr (rn_as (rn_neq (fr.ev rfl) (fr.ev rfl)) (by rfl)) rfl rfl ?_)
          intro a fr
          refine wpList_nil ?_
          refine then_n ?_
          refine cond_f fr rfl rfl ?_
          refine wp_skip ?_
          refine then_n ?_
          refine wp_seq ?_
          refine reg ?_
          refine lst rfl (ow_v fr (rn_loadN (cs := (bK vs (k + 1)).1.map (Value.int .i64) ++ [Value.slice A9 (bK vs (k + 1)).2.length c10]) (fr.ev rfl) Try.underlying27 rfl (by rw [bK_17 _ _ _]; exact sz_27) (st.blkrange 0 rfl 0 (by rw [List.drop_zero, List.take_length]))) rfl rfl ?_)
          intro a fr
          refine lst rfl (ow_stN fr st 10 (vs := (bK vs (k + 1)).1.map (Value.int .i64) ++ [Value.slice A9 (bK vs (k + 1)).2.length c10]) rfl rfl rfl (regsL_one _ _ _ _) (by rw [bK_17 _ _ _]; exact sz_27) rfl (by simp only [bK_17]; exact Nat.le_of_ble_eq_true rfl) rfl ?_)
          intro w st
          rw [setR_all _ _ (by first | (simp only [bK_17]; done) | (simp only [bK_17]; rfl))] at st
          replace st : St _ [] w [.blk b11 ((bK vs (k + 1)).1.map (Value.int .i64) ++ [Value.slice A9 (bK vs (k + 1)).2.length c10]) 27, els CI 1 A9 (bK vs (k + 1)).2, .blk b8 [.int .i64 2, .int .i64 ((k : Nat))] 23, ro b6 (o7 + k * 1) [.int .i64 (y)], ro b4 (o5 + k * 1) [.int .u8 ((x.toNat : Int))], els CI 1 A (bK vs k).2, row slotC 3 42 w0.heap.size (.slice As (((stI sn k).map (slotB ks)).length) cs) (((stI sn k).map (slotB ks))), row slotC 3 42 w0.heap.size (.slice Al (((loI sn k).map (slotB ks)).length) cl) (((loI sn k).map (slotB ks))), row valC 2 43 w0.heap.size (.slice Aw (((List.range k).map (wantB ks vs)).length) cw) (((List.range k).map (wantB ks vs))), .blk b3 [.int .i64 0, .int .i64 0, .slice Al (((loI sn k).map (slotB ks)).length) cl, .slice As (((stI sn k).map (slotB ks)).length) cs] 39, .blk b2 ((bK vs (k + 1)).1.map (Value.int .i64) ++ [Value.slice A9 (bK vs (k + 1)).2.length c10]) 27, els C8 1 (some ⟨b4, o5, none⟩) ks, els CI 1 (some ⟨b6, o7, none⟩) vs] := st
          refine wpList_nil ?_
          refine then_n ?_
          refine wp_seq ?_
          refine dr_start (by kernel_rfl) st (.cons_cons _ (.cons_cons _ (.cons_cons _ (.cons_cons _ (.cons_cons _ (.cons_cons _ (.cons_cons _ (.cons_cons _ (.cons_cons _ (.cons_cons _ (.cons_cons _ (.cons_cons _ (.cons_cons _ .slnil))))))))))))) ?_
          intro w st
          refine dr_take 0 rfl (by kernel_rfl) (by kernel_rfl) (by kernel_rfl) (fun _ _ _ h => h) fr rfl (st.sub (.cons_cons _ (.cons_cons _ (.cons_cons _ (.cons_cons _ (.cons_cons _ (.cons_cons _ (.cons_cons _ (.cons_cons _ (.cons_cons _ (.cons_cons _ (.cons_cons _ (.cons_cons _ (.cons_cons _ .slnil)))))))))))))) (fun w st => rn_move (fr.ev rfl)) rfl rfl ?_
          intro a fr
          refine dr_take 1 rfl (by kernel_rfl) (by kernel_rfl) (by kernel_rfl) (fun _ _ _ h => h) fr rfl (st.sub (.cons_cons _ (.cons_cons _ (.cons_cons _ (.cons_cons _ (.cons_cons _ (.cons_cons _ (.cons_cons _ (.cons_cons _ (.cons_cons _ (.cons_cons _ (.cons_cons _ (.cons_cons _ (.cons_cons _ .slnil)))))))))))))) (fun w st => rn_move (fr.ev rfl)) rfl rfl ?_
          intro a fr
          refine dr_take 2 rfl (by kernel_rfl) (by kernel_rfl) (by kernel_rfl) (fun _ _ _ h => h) fr rfl (st.sub (.cons_cons _ (.cons_cons _ (.cons_cons _ (.cons_cons _ (.cons_cons _ (.cons_cons _ (.cons_cons _ (.cons_cons _ (.cons_cons _ (.cons_cons _ (.cons_cons _ (.cons_cons _ (.cons_cons _ .slnil)))))))))))))) (fun w st => rn_at (i := k) (fr.ev rfl) (fr.ev rfl) Try.underlying36 sz_5 (by omega) (by rfl)) rfl rfl ?_
          intro a fr
          refine dr_take 3 rfl (by kernel_rfl) (by kernel_rfl) (by kernel_rfl) (fun _ _ _ h => h) fr rfl (st.sub (.cons_cons _ (.cons_cons _ (.cons_cons _ (.cons_cons _ (.cons_cons _ (.cons_cons _ (.cons_cons _ (.cons_cons _ (.cons_cons _ (.cons_cons _ (.cons_cons _ (.cons_cons _ (.cons_cons _ .slnil)))))))))))))) (fun w st => rn_load (fr.ev rfl) Try.underlying5 rfl (st.rocell 4 rfl (j := 0) rfl)) rfl rfl ?_
          intro a fr
          refine dr_take 4 rfl (by kernel_rfl) (by kernel_rfl) (by kernel_rfl) (fun _ _ _ h => h) fr rfl (st.sub (.cons_cons _ (.cons_cons _ (.cons_cons _ (.cons_cons _ (.cons_cons _ (.cons_cons _ (.cons_cons _ (.cons_cons _ (.cons_cons _ (.cons_cons _ (.cons_cons _ (.cons_cons _ (.cons_cons _ .slnil)))))))))))))) (fun w st => rn_conv (c := (x.toNat : Int)) (fr.ev rfl) (by kernel_rfl) Try.underlying3 (wr_i64 _ (by omega) (by omega))) rfl rfl ?_
          intro a fr
          refine dr_take 5 rfl (by kernel_rfl) (by kernel_rfl) (by kernel_rfl) (fun _ _ _ h => h) fr rfl (st.sub (.cons_cons _ (.cons_cons _ (.cons_cons _ (.cons_cons _ (.cons_cons _ (.cons_cons _ (.cons_cons _ (.cons_cons _ (.cons_cons _ (.cons_cons _ (.cons_cons _ (.cons_cons _ (.cons_cons _ .slnil)))))))))))))) (fun w st => rn_rem (c := ((x.toNat % 3 : Nat) : Int)) (fr.ev rfl) (fr.ev rfl) (by decide) (rm_nat (a := x.toNat) (m := 3) rfl rfl)) rfl rfl ?_
          intro a fr
          refine dr_take 6 rfl (by kernel_rfl) (by kernel_rfl) (by kernel_rfl) (fun _ _ _ h => h) fr rfl (st.sub (.cons_cons _ (.cons_cons _ (.cons_cons _ (.cons_cons _ (.cons_cons _ (.cons_cons _ (.cons_cons _ (.cons_cons _ (.cons_cons _ (.cons_cons _ (.cons_cons _ (.cons_cons _ (.cons_cons _ .slnil)))))))))))))) (fun w st => rn_add (c := ((1 + x.toNat % 3 : Nat) : Int)) (fr.ev rfl) (fr.ev rfl) (wr_i64e (by omega) (by omega) (by omega))) rfl rfl ?_
          intro a fr
          refine dr_take 7 rfl (by kernel_rfl) (by kernel_rfl) (by kernel_rfl) (fun _ _ _ h => h) fr rfl (st.sub (.cons_cons _ (.cons_cons _ (.cons_cons _ (.cons_cons _ (.cons_cons _ (.cons_cons _ (.cons_cons _ (.cons_cons _ (.cons_cons _ (.cons_cons _ (.cons_cons _ (.cons_cons _ (.cons_cons _ .slnil)))))))))))))) (fun w st => rn_loadN (cs := [.int .i64 2, .int .i64 ((k : Nat))]) (fr.ev rfl) Try.underlying23 rfl sz_23 (st.blkrange 2 rfl 0 rfl)) rfl rfl ?_
          intro a fr
          refine dr_take 8 rfl (by kernel_rfl) (by kernel_rfl) (by kernel_rfl) (fun _ _ _ h => h) fr rfl (st.sub (.cons_cons _ (.cons_cons _ (.cons_cons _ (.cons_cons _ (.cons_cons _ (.cons_cons _ (.cons_cons _ (.cons_cons _ (.cons_cons _ (.cons_cons _ (.cons_cons _ (.cons_cons _ (.cons_cons _ .slnil)))))))))))))) (fun w st => rn_build (cells := #[.int .i64 (((1 + x.toNat % 3 : Nat) : Int)), .int .i64 2, .int .i64 ((k : Nat))]) (by simp only [List.map_toArray, List.map_cons, List.map_nil]; rw [fr.ev (x := .tmp 56) rfl, fr.ev (x := .tmp 57) rfl]; rfl)) rfl rfl ?_
          intro a fr
          refine dr_one 9 (by kernel_rfl) rfl rfl (ow_alloc fr st rfl zv_42 rfl rfl _ (by rfl) ?_)
          intro a w b12 fr st
          refine ⟨st.sub (.cons _ (.cons_cons _ (.cons_cons _ (.cons_cons _ (.cons_cons _ (.cons_cons _ (.cons_cons _ (.cons_cons _ (.cons_cons _ (.cons_cons _ (.cons_cons _ (.cons_cons _ (.cons_cons _ (.cons_cons _ .slnil)))))))))))))), ?_⟩
          refine dr_one 10 (by kernel_rfl) rfl rfl (ow_stN fr st 0 (vs := [.int .i64 (((1 + x.toNat % 3 : Nat) : Int)), .int .i64 2, .int .i64 ((k : Nat))]) rfl rfl rfl rfl sz_42 rfl (Nat.le_of_ble_eq_true rfl) rfl ?_)
          intro w (st : St _ [] w [.blk b12 [.int .i64 (((1 + x.toNat % 3 : Nat) : Int)), .int .i64 2, .int .i64 ((k : Nat))] 42, .blk b11 ((bK vs (k + 1)).1.map (Value.int .i64) ++ [Value.slice A9 (bK vs (k + 1)).2.length c10]) 27, els CI 1 A9 (bK vs (k + 1)).2, .blk b8 [.int .i64 2, .int .i64 ((k : Nat))] 23, ro b6 (o7 + k * 1) [.int .i64 (y)], ro b4 (o5 + k * 1) [.int .u8 ((x.toNat : Int))], els CI 1 A (bK vs k).2, row slotC 3 42 w0.heap.size (.slice As (((stI sn k).map (slotB ks)).length) cs) (((stI sn k).map (slotB ks))), row slotC 3 42 w0.heap.size (.slice Al (((loI sn k).map (slotB ks)).length) cl) (((loI sn k).map (slotB ks))), row valC 2 43 w0.heap.size (.slice Aw (((List.range k).map (wantB ks vs)).length) cw) (((List.range k).map (wantB ks vs))), .blk b3 [.int .i64 0, .int .i64 0, .slice Al (((loI sn k).map (slotB ks)).length) cl, .slice As (((stI sn k).map (slotB ks)).length) cs] 39, .blk b2 ((bK vs (k + 1)).1.map (Value.int .i64) ++ [Value.slice A9 (bK vs (k + 1)).2.length c10]) 27, els C8 1 (some ⟨b4, o5, none⟩) ks, els CI 1 (some ⟨b6, o7, none⟩) vs])
          refine ⟨st.sub (.cons _ (.cons_cons _ (.cons_cons _ (.cons_cons _ (.cons_cons _ (.cons_cons _ (.cons_cons _ (.cons_cons _ (.cons_cons _ (.cons_cons _ (.cons_cons _ (.cons_cons _ (.cons_cons _ (.cons_cons _ .slnil)))))))))))))), ?_⟩
          refine dr_done (by kernel_rfl) ?_
          refine then_n ?_
          refine wp_seq ?_
          refine dr_start (by kernel_rfl) st (.cons_cons _ (.cons_cons _ (.cons_cons _ (.cons_cons _ (.cons_cons _ (.cons_cons _ (.cons_cons _ (.cons_cons _ (.cons_cons _ (.cons _ (.cons_cons _ (.cons_cons _ (.cons_cons _ (.cons_cons _ .slnil)))))))))))))) ?_
          intro w st
          refine dr_take 0 rfl (by kernel_rfl) (by kernel_rfl) (by kernel_rfl) (fun _ _ _ h => h) fr rfl (st.sub (.cons_cons _ (.cons_cons _ (.cons_cons _ (.cons_cons _ (.cons_cons _ (.cons_cons _ (.cons_cons _ (.cons_cons _ (.cons_cons _ (.cons _ (.cons_cons _ (.cons_cons _ (.cons_cons _ (.cons_cons _ .slnil))))))))))))))) (fun w st => rn_move (fr.ev rfl)) rfl rfl ?_
          intro a fr
          refine dr_take 1 rfl (by kernel_rfl) (by kernel_rfl) (by kernel_rfl) (fun _ _ _ h => h) fr rfl (st.sub (.cons_cons _ (.cons_cons _ (.cons_cons _ (.cons_cons _ (.cons_cons _ (.cons_cons _ (.cons_cons _ (.cons_cons _ (.cons_cons _ (.cons _ (.cons_cons _ (.cons_cons _ (.cons_cons _ (.cons_cons _ .slnil))))))))))))))) (fun w st => fa_42_0 (fr.ev rfl)) rfl rfl ?_
          intro a fr
          refine dr_take 2 rfl (by kernel_rfl) (by kernel_rfl) (by kernel_rfl) (fun _ _ _ h => h) fr rfl (st.sub (.cons_cons _ (.cons_cons _ (.cons_cons _ (.cons_cons _ (.cons_cons _ (.cons_cons _ (.cons_cons _ (.cons_cons _ (.cons_cons _ (.cons _ (.cons_cons _ (.cons_cons _ (.cons_cons _ (.cons_cons _ .slnil))))))))))))))) (fun w st => rn_load (fr.ev rfl) Try.underlying3 rfl (st.cell 0 rfl rfl)) rfl rfl ?_
          intro a fr
          refine dr_take 3 rfl (by kernel_rfl) (by kernel_rfl) (by kernel_rfl) (fun _ _ _ h => h) fr rfl (st.sub (.cons_cons _ (.cons_cons _ (.cons_cons _ (.cons_cons _ (.cons_cons _ (.cons_cons _ (.cons_cons _ (.cons_cons _ (.cons_cons _ (.cons _ (.cons_cons _ (.cons_cons _ (.cons_cons _ (.cons_cons _ .slnil))))))))))))))) (fun w st => rn_move (fr.ev rfl)) rfl rfl ?_
          intro a fr
          refine dr_take 4 rfl (by kernel_rfl) (by kernel_rfl) (by kernel_rfl) (fun _ _ _ h => h) fr rfl (st.sub (.cons_cons _ (.cons_cons _ (.cons_cons _ (.cons_cons _ (.cons_cons _ (.cons_cons _ (.cons_cons _ (.cons_cons _ (.cons_cons _ (.cons _ (.cons_cons _ (.cons_cons _ (.cons_cons _ (.cons_cons _ .slnil))))))))))))))) (fun w st => rn_move (fr.ev rfl)) rfl rfl ?_
          intro a fr
          refine dr_take 5 rfl (by kernel_rfl) (by kernel_rfl) (by kernel_rfl) (fun _ _ _ h => h) fr rfl (st.sub (.cons_cons _ (.cons_cons _ (.cons_cons _ (.cons_cons _ (.cons_cons _ (.cons_cons _ (.cons_cons _ (.cons_cons _ (.cons_cons _ (.cons _ (.cons_cons _ (.cons_cons _ (.cons_cons _ (.cons_cons _ .slnil))))))))))))))) (fun w st => rn_at (i := k) (fr.ev rfl) (fr.ev rfl) Try.underlying25 sz_2 (by omega) (by rfl)) rfl rfl ?_
          intro a fr
          refine dr_take 6 rfl (by kernel_rfl) (by kernel_rfl) (by kernel_rfl) (fun _ _ _ h => h) fr rfl (st.sub (.cons_cons _ (.cons_cons _ (.cons_cons _ (.cons_cons _ (.cons_cons _ (.cons_cons _ (.cons_cons _ (.cons_cons _ (.cons_cons _ (.cons _ (.cons_cons _ (.cons_cons _ (.cons_cons _ (.cons_cons _ .slnil))))))))))))))) (fun w st => rn_load (fr.ev rfl) Try.underlying2 rfl (st.rocell 4 rfl (j := 0) rfl)) rfl rfl ?_
          intro a fr
          refine dr_take 7 rfl (by kernel_rfl) (by kernel_rfl) (by kernel_rfl) (fun _ _ _ h => h) fr rfl (st.sub (.cons_cons _ (.cons_cons _ (.cons_cons _ (.cons_cons _ (.cons_cons _ (.cons_cons _ (.cons_cons _ (.cons_cons _ (.cons_cons _ (.cons _ (.cons_cons _ (.cons_cons _ (.cons_cons _ (.cons_cons _ .slnil))))))))))))))) (fun w st => rn_build (cells := #[.int .i64 (((1 + x.toNat % 3 : Nat) : Int)), .int .i64 (y)]) (by simp only [List.map_toArray, List.map_cons, List.map_nil]; rw [fr.ev (x := .tmp 61) rfl, fr.ev (x := .tmp 65) rfl]; rfl)) rfl rfl ?_
          intro a fr
          refine dr_one 8 (by kernel_rfl) rfl rfl (ow_bslice (E := 43) fr st rfl [.int .i64 (((1 + x.toNat % 3 : Nat) : Int)), .int .i64 (y)] (fun w => by simp only [List.map_toArray, List.map_cons, List.map_nil]; rw [fr.ev (x := .tmp 66) rfl]; kernel_rfl) rfl rfl ?_)
          intro a w b13 fr st
          refine ⟨st.sub (.cons _ (.cons_cons _ (.cons_cons _ (.cons_cons _ (.cons_cons _ (.cons_cons _ (.cons_cons _ (.cons_cons _ (.cons_cons _ (.cons_cons _ (.cons _ (.cons_cons _ (.cons_cons _ (.cons_cons _ (.cons_cons _ .slnil))))))))))))))), ?_⟩
          refine dr_one 9 (by kernel_rfl) rfl rfl (ow_append1 fr st 10 0 (((((1 + x.toNat % 3 : Nat) : Int), y) : ValD)) rfl rfl rfl rfl rfl Try.underlying40 inf_43 (by rfl) (by decide) (fun _ => rfl) rfl (by (simp; have := stI_len sn k; omega)) (by unfold maxLen; (simp; have := stI_len sn k; omega)) (Nat.le_refl _) st.agr.size rfl rfl ?_)
          intro a w A14 c15 fr (st : St _ [] w [.blk b13 [.int .i64 (((1 + x.toNat % 3 : Nat) : Int)), .int .i64 (y)] 43, .blk b12 [.int .i64 (((1 + x.toNat % 3 : Nat) : Int)), .int .i64 2, .int .i64 ((k : Nat))] 42, .blk b11 ((bK vs (k + 1)).1.map (Value.int .i64) ++ [Value.slice A9 (bK vs (k + 1)).2.length c10]) 27, els CI 1 A9 (bK vs (k + 1)).2, .blk b8 [.int .i64 2, .int .i64 ((k : Nat))] 23, ro b6 (o7 + k * 1) [.int .i64 (y)], ro b4 (o5 + k * 1) [.int .u8 ((x.toNat : Int))], els CI 1 A (bK vs k).2, row slotC 3 42 w0.heap.size (.slice As (((stI sn k).map (slotB ks)).length) cs) (((stI sn k).map (slotB ks))), row slotC 3 42 w0.heap.size (.slice Al (((loI sn k).map (slotB ks)).length) cl) (((loI sn k).map (slotB ks))), row valC 2 43 w0.heap.size (.slice A14 ((((List.range k).map (wantB ks vs)) ++ [((((1 + x.toNat % 3 : Nat) : Int), y) : ValD)]).length) c15) ((((List.range k).map (wantB ks vs)) ++ [((((1 + x.toNat % 3 : Nat) : Int), y) : ValD)])), .blk b3 [.int .i64 0, .int .i64 0, .slice Al (((loI sn k).map (slotB ks)).length) cl, .slice As (((stI sn k).map (slotB ks)).length) cs] 39, .blk b2 ((bK vs (k + 1)).1.map (Value.int .i64) ++ [Value.slice A9 (bK vs (k + 1)).2.length c10]) 27, els C8 1 (some ⟨b4, o5, none⟩) ks, els CI 1 (some ⟨b6, o7, none⟩) vs])
          refine ⟨st.sub (.cons _ (.cons_cons _ (.cons_cons _ (.cons_cons _ (.cons_cons _ (.cons_cons _ (.cons_cons _ (.cons_cons _ (.cons_cons _ (.cons_cons _ (.cons _ (.cons_cons _ (.cons_cons _ (.cons_cons _ (.cons_cons _ .slnil))))))))))))))), ?_⟩
          refine dr_take 10 rfl (by kernel_rfl) (by kernel_rfl) (by kernel_rfl) (fun _ _ _ h => h) fr rfl (st.sub (.cons _ (.cons_cons _ (.cons_cons _ (.cons_cons _ (.cons_cons _ (.cons_cons _ (.cons_cons _ (.cons_cons _ (.cons_cons _ (.cons_cons _ (.cons _ (.cons_cons _ (.cons_cons _ (.cons_cons _ (.cons_cons _ .slnil)))))))))))))))) (fun w st => rn_assign (fr.ev rfl)) rfl rfl ?_
          intro a fr
          refine dr_done (by kernel_rfl) ?_
          refine then_n ?_
          refine wp_seq ?_
          refine reg ?_
          refine lst rfl (ow_v fr (rn_move (fr.ev rfl)) rfl rfl ?_)
          intro a fr
          refine lst rfl (ow_v fr (rn_move (fr.ev rfl)) rfl rfl ?_)
          intro a fr
          refine lst rfl (ow_v fr (rn_conv (c := (sn : Nat)) (fr.ev rfl) (by kernel_rfl) Try.underlying3 (wr_i64 _ (by omega) (by omega))) rfl rfl ?_)
          intro a fr
          refine lst rfl (ow_v fr (rn_as (v' := .bool true) (rn_lss (fr.ev rfl) (fr.ev rfl)) (congrArg Value.bool (decide_eq_true (by omega)))) rfl rfl ?_)
          intro a fr
          refine wpList_nil ?_
          refine then_n ?_
          refine cond_t fr rfl rfl ?_
          refine reg ?_
          refine lst rfl (ow_v fr (fa_39_3 (fr.ev rfl)) rfl rfl ?_)
          intro a fr
          refine lst rfl (ow_v fr (rn_load (fr.ev rfl) Try.underlying37 rfl (st.cell 11 rfl rfl)) rfl rfl ?_)
          intro a fr
          refine lst rfl (ow_v fr (rn_loadN (cs := [.int .i64 (((1 + x.toNat % 3 : Nat) : Int)), .int .i64 2, .int .i64 ((k : Nat))]) (fr.ev rfl) Try.underlying42 rfl sz_42 (st.blkrange 1 rfl 0 rfl)) rfl rfl ?_)
          intro a fr
          refine lst rfl (ow_bslice (E := 42) fr st rfl [.int .i64 (((1 + x.toNat % 3 : Nat) : Int)), .int .i64 2, .int .i64 ((k : Nat))] (fun w => by simp only [List.map_toArray, List.map_cons, List.map_nil]; rw [fr.ev (x := .tmp 75) rfl]; kernel_rfl) rfl rfl ?_)
          intro a w b16 fr st
          refine lst rfl (ow_append1 fr st 9 0 (((((1 + x.toNat % 3 : Nat) : Int), 2, (k : Nat)) : SlotD)) rfl rfl rfl rfl rfl Try.underlying37 inf_42 (by rfl) (by decide) (fun _ => rfl) rfl (by (simp; have := stI_len sn k; omega)) (by unfold maxLen; (simp; have := stI_len sn k; omega)) (Nat.le_refl _) st.agr.size rfl rfl ?_)
          intro a w A17 c18 fr (st : St _ [] w [.blk b16 [.int .i64 (((1 + x.toNat % 3 : Nat) : Int)), .int .i64 2, .int .i64 ((k : Nat))] 42, .blk b13 [.int .i64 (((1 + x.toNat % 3 : Nat) : Int)), .int .i64 (y)] 43, .blk b12 [.int .i64 (((1 + x.toNat % 3 : Nat) : Int)), .int .i64 2, .int .i64 ((k : Nat))] 42, .blk b11 ((bK vs (k + 1)).1.map (Value.int .i64) ++ [Value.slice A9 (bK vs (k + 1)).2.length c10]) 27, els CI 1 A9 (bK vs (k + 1)).2, .blk b8 [.int .i64 2, .int .i64 ((k : Nat))] 23, ro b6 (o7 + k * 1) [.int .i64 (y)], ro b4 (o5 + k * 1) [.int .u8 ((x.toNat : Int))], els CI 1 A (bK vs k).2, row slotC 3 42 w0.heap.size (.slice A17 ((((stI sn k).map (slotB ks)) ++ [((((1 + x.toNat % 3 : Nat) : Int), 2, (k : Nat)) : SlotD)]).length) c18) ((((stI sn k).map (slotB ks)) ++ [((((1 + x.toNat % 3 : Nat) : Int), 2, (k : Nat)) : SlotD)])), row slotC 3 42 w0.heap.size (.slice Al (((loI sn k).map (slotB ks)).length) cl) (((loI sn k).map (slotB ks))), row valC 2 43 w0.heap.size (.slice A14 ((((List.range k).map (wantB ks vs)) ++ [((((1 + x.toNat % 3 : Nat) : Int), y) : ValD)]).length) c15) ((((List.range k).map (wantB ks vs)) ++ [((((1 + x.toNat % 3 : Nat) : Int), y) : ValD)])), .blk b3 [.int .i64 0, .int .i64 0, .slice Al (((loI sn k).map (slotB ks)).length) cl, .slice As (((stI sn k).map (slotB ks)).length) cs] 39, .blk b2 ((bK vs (k + 1)).1.map (Value.int .i64) ++ [Value.slice A9 (bK vs (k + 1)).2.length c10]) 27, els C8 1 (some ⟨b4, o5, none⟩) ks, els CI 1 (some ⟨b6, o7, none⟩) vs])
          refine lst rfl (ow_v fr (fa_39_3 (fr.ev rfl)) rfl rfl ?_)
          intro a fr
          refine lst rfl (ow_st fr st 12 rfl rfl rfl rfl sz_37 rfl rfl rfl ?_)
          intro w (st : St _ [] w [.blk b16 [.int .i64 (((1 + x.toNat % 3 : Nat) : Int)), .int .i64 2, .int .i64 ((k : Nat))] 42, .blk b13 [.int .i64 (((1 + x.toNat % 3 : Nat) : Int)), .int .i64 (y)] 43, .blk b12 [.int .i64 (((1 + x.toNat % 3 : Nat) : Int)), .int .i64 2, .int .i64 ((k : Nat))] 42, .blk b11 ((bK vs (k + 1)).1.map (Value.int .i64) ++ [Value.slice A9 (bK vs (k + 1)).2.length c10]) 27, els CI 1 A9 (bK vs (k + 1)).2, .blk b8 [.int .i64 2, .int .i64 ((k : Nat))] 23, ro b6 (o7 + k * 1) [.int .i64 (y)], ro b4 (o5 + k * 1) [.int .u8 ((x.toNat : Int))], els CI 1 A (bK vs k).2, row slotC 3 42 w0.heap.size (.slice A17 ((((stI sn k).map (slotB ks)) ++ [((((1 + x.toNat % 3 : Nat) : Int), 2, (k : Nat)) : SlotD)]).length) c18) ((((stI sn k).map (slotB ks)) ++ [((((1 + x.toNat % 3 : Nat) : Int), 2, (k : Nat)) : SlotD)])), row slotC 3 42 w0.heap.size (.slice Al (((loI sn k).map (slotB ks)).length) cl) (((loI sn k).map (slotB ks))), row valC 2 43 w0.heap.size (.slice A14 ((((List.range k).map (wantB ks vs)) ++ [((((1 + x.toNat % 3 : Nat) : Int), y) : ValD)]).length) c15) ((((List.range k).map (wantB ks vs)) ++ [((((1 + x.toNat % 3 : Nat) : Int), y) : ValD)])), .blk b3 [.int .i64 0, .int .i64 0, .slice Al (((loI sn k).map (slotB ks)).length) cl, .slice A17 ((((stI sn k).map (slotB ks)) ++ [((((1 + x.toNat % 3 : Nat) : Int), 2, (k : Nat)) : SlotD)]).length) c18] 39, .blk b2 ((bK vs (k + 1)).1.map (Value.int .i64) ++ [Value.slice A9 (bK vs (k + 1)).2.length c10]) 27, els C8 1 (some ⟨b4, o5, none⟩) ks, els CI 1 (some ⟨b6, o7, none⟩) vs])
          refine wpList_nil ?_
          refine blk_n ?_
          refine then_n ?_
          refine reg ?_
          refine lst rfl (ow_v fr (rn_add (c := ((k + 1 : Nat) : Int)) (fr.ev rfl) (fr.ev rfl) (wr_i64e (by omega) (by omega) (by omega))) rfl rfl ?_)
          intro a fr
          refine lst rfl (ow_v fr (rn_move (fr.ev rfl)) rfl rfl ?_)
          intro a fr
          refine wpList_nil ?_
          have eqs_ : (((stI sn k).map (slotB ks)) ++ [((((1 + x.toNat % 3 : Nat) : Int), 2, (k : Nat)) : SlotD)]) = (stI sn (k + 1)).map (slotB ks) := by rw [(stI_y hs).1, List.map_append, List.map_singleton, qs]
          (try rw [eqs_] at fr); (try rw [eqs_] at st)
          have eql_ : (loI sn k) = loI sn (k + 1) := (stI_y hs).2.symm
          (try rw [eql_] at fr); (try rw [eql_] at st)
          have eqw_ : (((List.range k).map (wantB ks vs)) ++ [((((1 + x.toNat % 3 : Nat) : Int), y) : ValD)]) = (List.range (k + 1)).map (wantB ks vs) := by rw [List.range_succ, List.map_append, List.map_singleton, qw]
          (try rw [eqw_] at fr); (try rw [eqw_] at st)
          refine then_n ⟨m - (k + 1), ?_, k + 1, A9, A17, Al, A14, c10, c18, cl, c15, (by omega), (hn1), rfl, fr.prune ⟨rfl, rfl, rfl, rfl, rfl, rfl, rfl, rfl, trivial⟩, st.sub (.cons _ (.cons _ (.cons _ (.cons _ (.cons_cons _ (.cons _ (.cons _ (.cons _ (.cons _ (.cons_cons _ (.cons_cons _ (.cons_cons _ (.cons_cons _ (.cons_cons _ (.cons_cons _ (.cons_cons _ .slnil))))))))))))))))⟩
          omega
        · refine ow_alloc fr st rfl zv_27 rfl rfl _ (by rfl) ?_
          intro a w b19 fr st
          refine ⟨st.sub (.cons _ (.cons_cons _ (.cons_cons _ (.cons_cons _ (.cons_cons _ (.cons_cons _ (.cons_cons _ (.cons_cons _ (.cons_cons _ (.cons_cons _ (.cons_cons _ (.cons_cons _ .slnil)))))))))))), ?_⟩
          refine dr_one 6 (by kernel_rfl) rfl rfl (ow_call fr rfl rfl Try.call11 (put_next vs k (by omega) 2 (k : Int) y ql qy A c hnA _ (st.get 4 rfl).1) rfl rfl ?_)
          rintro e w ⟨A20, c21, rfl, he1, hn1, hf1, hag⟩
          refine ⟨_, rfl, ?_⟩
          intro a fr
          have st := st.call_els (C := CI) (sz := 1) hag (by decide) CI_len he1 hf1
          clear he1 hf1 hag
          refine ⟨st.sub (.cons _ (.cons _ (.cons_cons _ (.cons_cons _ (.cons_cons _ (.cons_cons _ (.cons_cons _ (.cons_cons _ (.cons_cons _ (.cons_cons _ (.cons_cons _ (.cons_cons _ (.cons_cons _ .slnil))))))))))))), ?_⟩
          refine dr_take 7 rfl (by kernel_rfl) (by kernel_rfl) (by kernel_rfl) (fun _ _ _ h => h) fr rfl (st.sub (.cons _ (.cons _ (.cons_cons _ (.cons_cons _ (.cons_cons _ (.cons_cons _ (.cons_cons _ (.cons_cons _ (.cons_cons _ (.cons_cons _ (.cons_cons _ (.cons_cons _ (.cons_cons _ .slnil)))))))))))))) (fun w st => rn_move (fr.ev rfl)) rfl rfl ?_
          intro a fr
          refine dr_take 8 rfl (by kernel_rfl) (by kernel_rfl) (by kernel_rfl) (fun _ _ _ h => h) fr rfl (st.sub (.cons _ (.cons _ (.cons_cons _ (.cons_cons _ (.cons_cons _ (.cons_cons _ (.cons_cons _ (.cons_cons _ (.cons_cons _ (.cons_cons _ (.cons_cons _ (.cons_cons _ (.cons_cons _ .slnil)))))))))))))) (fun w st => rn_extract (fr.ev rfl) rfl) rfl rfl ?_
          intro a fr
          refine dr_take 9 rfl (by kernel_rfl) (by kernel_rfl) (by kernel_rfl) (fun _ _ _ h => h) fr rfl (st.sub (.cons _ (.cons _ (.cons_cons _ (.cons_cons _ (.cons_cons _ (.cons_cons _ (.cons_cons _ (.cons_cons _ (.cons_cons _ (.cons_cons _ (.cons_cons _ (.cons_cons _ (.cons_cons _ .slnil)))))))))))))) (fun w st => rn_extract (fr.ev rfl) rfl) rfl rfl ?_
          intro a fr
          refine dr_one 11 (by kernel_rfl) rfl rfl (ow_stN fr st 1 (vs := (bK vs (k + 1)).1.map (Value.int .i64) ++ [Value.slice A20 (bK vs (k + 1)).2.length c21]) rfl rfl rfl (regsL_one _ _ _ _) (by rw [bK_17 _ _ _]; exact sz_27) rfl (by simp only [bK_17]; exact Nat.le_of_ble_eq_true rfl) rfl ?_)
          intro w st
          rw [setR_all _ _ (by first | (simp only [bK_17]; done) | (simp only [bK_17]; rfl))] at st
          replace st : St _ [] w [els CI 1 A20 (bK vs (k + 1)).2, .blk b19 ((bK vs (k + 1)).1.map (Value.int .i64) ++ [Value.slice A20 (bK vs (k + 1)).2.length c21]) 27, .blk b8 [.int .i64 2, .int .i64 ((k : Nat))] 23, ro b6 (o7 + k * 1) [.int .i64 (y)], ro b4 (o5 + k * 1) [.int .u8 ((x.toNat : Int))], els CI 1 A (bK vs k).2, row slotC 3 42 w0.heap.size (.slice As (((stI sn k).map (slotB ks)).length) cs) (((stI sn k).map (slotB ks))), row slotC 3 42 w0.heap.size (.slice Al (((loI sn k).map (slotB ks)).length) cl) (((loI sn k).map (slotB ks))), row valC 2 43 w0.heap.size (.slice Aw (((List.range k).map (wantB ks vs)).length) cw) (((List.range k).map (wantB ks vs))), .blk b3 [.int .i64 0, .int .i64 0, .slice Al (((loI sn k).map (slotB ks)).length) cl, .slice As (((stI sn k).map (slotB ks)).length) cs] 39, .blk b2 ((bK vs k).1.map (Value.int .i64) ++ [Value.slice A (bK vs k).2.length c]) 27, els C8 1 (some ⟨b4, o5, none⟩) ks, els CI 1 (some ⟨b6, o7, none⟩) vs] := st
          refine ⟨st.sub (.cons _ (.cons _ (.cons_cons _ (.cons_cons _ (.cons_cons _ (.cons_cons _ (.cons_cons _ (.cons_cons _ (.cons_cons _ (.cons_cons _ (.cons_cons _ (.cons_cons _ (.cons_cons _ .slnil))))))))))))), ?_⟩
          refine dr_take 12 rfl (by kernel_rfl) (by kernel_rfl) (by kernel_rfl) (fun _ _ _ h => h) fr rfl (st.sub (.cons _ (.cons _ (.cons_cons _ (.cons_cons _ (.cons_cons _ (.cons_cons _ (.cons_cons _ (.cons_cons _ (.cons_cons _ (.cons_cons _ (.cons_cons _ (.cons_cons _ (.cons_cons _ .slnil)))))))))))))) (fun w st => rn_assign (fr.ev rfl)) rfl rfl ?_
          intro a fr
          refine dr_done (by kernel_rfl) ?_
          refine then_n ?_
          refine wp_seq ?_
          refine wp_seq ?_
          refine reg ?_
          refine lst rfl (ow_v fr (rn_move (fr.ev rfl)) rfl rfl ?_)
          intro a fr
          refine lst rfl (ow_v fr (rn_as (rn_neq (fr.ev rfl) (fr.ev rfl)) (by rfl)) rfl rfl ?_)
          intro a fr
          refine wpList_nil ?_
          refine then_n ?_
          refine cond_f fr rfl rfl ?_
          refine wp_skip ?_
          refine then_n ?_
          refine wp_seq ?_
          refine reg ?_
          refine lst rfl (ow_v fr (rn_loadN (cs := (bK vs (k + 1)).1.map (Value.int .i64) ++ [Value.slice A20 (bK vs (k + 1)).2.length c21]) (fr.ev rfl) Try.underlying27 rfl (by rw [bK_17 _ _ _]; exact sz_27) (st.blkrange 1 rfl 0 (by rw [List.drop_zero, List.take_length]))) rfl rfl ?_)
          intro a fr
          refine lst rfl (ow_stN fr st 10 (vs := (bK vs (k + 1)).1.map (Value.int .i64) ++ [Value.slice A20 (bK vs (k + 1)).2.length c21]) rfl rfl rfl (regsL_one _ _ _ _) (by rw [bK_17 _ _ _]; exact sz_27) rfl (by simp only [bK_17]; exact Nat.le_of_ble_eq_true rfl) rfl ?_)
          intro w st
          rw [setR_all _ _ (by first | (simp only [bK_17]; done) | (simp only [bK_17]; rfl))] at st
          replace st : St _ [] w [els CI 1 A20 (bK vs (k + 1)).2, .blk b19 ((bK vs (k + 1)).1.map (Value.int .i64) ++ [Value.slice A20 (bK vs (k + 1)).2.length c21]) 27, .blk b8 [.int .i64 2, .int .i64 ((k : Nat))] 23, ro b6 (o7 + k * 1) [.int .i64 (y)], ro b4 (o5 + k * 1) [.int .u8 ((x.toNat : Int))], els CI 1 A (bK vs k).2, row slotC 3 42 w0.heap.size (.slice As (((stI sn k).map (slotB ks)).length) cs) (((stI sn k).map (slotB ks))), row slotC 3 42 w0.heap.size (.slice Al (((loI sn k).map (slotB ks)).length) cl) (((loI sn k).map (slotB ks))), row valC 2 43 w0.heap.size (.slice Aw (((List.range k).map (wantB ks vs)).length) cw) (((List.range k).map (wantB ks vs))), .blk b3 [.int .i64 0, .int .i64 0, .slice Al (((loI sn k).map (slotB ks)).length) cl, .slice As (((stI sn k).map (slotB ks)).length) cs] 39, .blk b2 ((bK vs (k + 1)).1.map (Value.int .i64) ++ [Value.slice A20 (bK vs (k + 1)).2.length c21]) 27, els C8 1 (some ⟨b4, o5, none⟩) ks, els CI 1 (some ⟨b6, o7, none⟩) vs] := st
          refine wpList_nil ?_
          refine then_n ?_
          refine wp_seq ?_
          refine dr_start (by kernel_rfl) st (.cons_cons _ (.cons_cons _ (.cons_cons _ (.cons_cons _ (.cons_cons _ (.cons_cons _ (.cons_cons _ (.cons_cons _ (.cons_cons _ (.cons_cons _ (.cons_cons _ (.cons_cons _ (.cons_cons _ .slnil))))))))))))) ?_
          intro w st
          refine dr_take 0 rfl (by kernel_rfl) (by kernel_rfl) (by kernel_rfl) (fun _ _ _ h => h) fr rfl (st.sub (.cons_cons _ (.cons_cons _ (.cons_cons _ (.cons_cons _ (.cons_cons _ (.cons_cons _ (.cons_cons _ (.cons_cons _ (.cons_cons _ (.cons_cons _ (.cons_cons _ (.cons_cons _ (.cons_cons _ .slnil)))))))))))))) (fun w st => rn_move (fr.ev rfl)) rfl rfl ?_
          intro a fr
          refine dr_take 1 rfl (by kernel_rfl) (by kernel_rfl) (by kernel_rfl) (fun _ _ _ h => h) fr rfl (st.sub (.cons_cons _ (.cons_cons _ (.cons_cons _ (.cons_cons _ (.cons_cons _ (.cons_cons _ (.cons_cons _ (.cons_cons _ (.cons_cons _ (.cons_cons _ (.cons_cons _ (.cons_cons _ (.cons_cons _ .slnil)))))))))))))) (fun w st => rn_move (fr.ev rfl)) rfl rfl ?_
          intro a fr
          refine dr_take 2 rfl (by kernel_rfl) (by kernel_rfl) (by kernel_rfl) (fun _ _ _ h => h) fr rfl (st.sub (.cons_cons _ (.cons_cons _ (.cons_cons _ (.cons_cons _ (.cons_cons _ (.cons_cons _ (.cons_cons _ (.cons_cons _ (.cons_cons _ (.cons_cons _ (.cons_cons _ (.cons_cons _ (.cons_cons _ .slnil)))))))))))))) (fun w st => rn_at (i := k) (fr.ev rfl) (fr.ev rfl) Try.underlying36 sz_5 (by omega) (by rfl)) rfl rfl ?_
          intro a fr
          refine dr_take 3 rfl (by kernel_rfl) (by kernel_rfl) (by kernel_rfl) (fun _ _ _ h => h) fr rfl (st.sub (.cons_cons _ (.cons_cons _ (.cons_cons _ (.cons_cons _ (.cons_cons _ (.cons_cons _ (.cons_cons _ (.cons_cons _ (.cons_cons _ (.cons_cons _ (.cons_cons _ (.cons_cons _ (.cons_cons _ .slnil)))))))))))))) (fun w st => rn_load (fr.ev rfl) Try.underlying5 rfl (st.rocell 4 rfl (j := 0) rfl)) rfl rfl ?_
          intro a fr
          refine dr_take 4 rfl (by kernel_rfl) (by kernel_rfl) (by kernel_rfl) (fun _ _ _ h => h) fr rfl (st.sub (.cons_cons _ (.cons_cons _ (.cons_cons _ (.cons_cons _ (.cons_cons _ (.cons_cons _ (.cons_cons _ (.cons_cons _ (.cons_cons _ (.cons_cons _ (.cons_cons _ (.cons_cons _ (.cons_cons _ .slnil)))))))))))))) (fun w st => rn_conv (c := (x.toNat : Int)) (fr.ev rfl) (by kernel_rfl) Try.underlying3 (wr_i64 _ (by omega) (by omega))) rfl rfl ?_
          intro a fr
          refine dr_take 5 rfl (by kernel_rfl) (by kernel_rfl) (by kernel_rfl) (fun _ _ _ h => h) fr rfl (st.sub (.cons_cons _ (.cons_cons _ (.cons_cons _ (.cons_cons _ (.cons_cons _ (.cons_cons _ (.cons_cons _ (.cons_cons _ (.cons_cons _ (.cons_cons _ (.cons_cons _ (.cons_cons _ (.cons_cons _ .slnil)))))))))))))) (fun w st => rn_rem (c := ((x.toNat % 3 : Nat) : Int)) (fr.ev rfl) (fr.ev rfl) (by decide) (rm_nat (a := x.toNat) (m := 3) rfl rfl)) rfl rfl ?_
          intro a fr
          refine dr_take 6 rfl (by kernel_rfl) (by kernel_rfl) (by kernel_rfl) (fun _ _ _ h => h) fr rfl (st.sub (.cons_cons _ (.cons_cons _ (.cons_cons _ (.cons_cons _ (.cons_cons _ (.cons_cons _ (.cons_cons _ (.cons_cons _ (.cons_cons _ (.cons_cons _ (.cons_cons _ (.cons_cons _ (.cons_cons _ .slnil)))))))))))))) (fun w st => rn_add (c := ((1 + x.toNat % 3 : Nat) : Int)) (fr.ev rfl) (fr.ev rfl) (wr_i64e (by omega) (by omega) (by omega))) rfl rfl ?_
          intro a fr
          refine dr_take 7 rfl (by kernel_rfl) (by kernel_rfl) (by kernel_rfl) (fun _ _ _ h => h) fr rfl (st.sub (.cons_cons _ (.cons_cons _ (.cons_cons _ (.cons_cons _ (.cons_cons _ (.cons_cons _ (.cons_cons _ (.cons_cons _ (.cons_cons _ (.cons_cons _ (.cons_cons _ (.cons_cons _ (.cons_cons _ .slnil)))))))))))))) (fun w st => rn_loadN (cs := [.int .i64 2, .int .i64 ((k : Nat))]) (fr.ev rfl) Try.underlying23 rfl sz_23 (st.blkrange 2 rfl 0 rfl)) rfl rfl ?_
          intro a fr
          refine dr_take 8 rfl (by kernel_rfl) (by kernel_rfl) (by kernel_rfl) (fun _ _ _ h => h) fr rfl (st.sub (.cons_cons _ (.cons_cons _ (.cons_cons _ (.cons_cons _ (.cons_cons _ (.cons_cons _ (.cons_cons _ (.cons_cons _ (.cons_cons _ (.cons_cons _ (.cons_cons _ (.cons_cons _ (.cons_cons _ .slnil)))))))))))))) (fun w st => rn_build (cells := #[.int .i64 (((1 + x.toNat % 3 : Nat) : Int)), .int .i64 2, .int .i64 ((k : Nat))]) (by simp only [List.map_toArray, List.map_cons, List.map_nil]; rw [fr.ev (x := .tmp 56) rfl, fr.ev (x := .tmp 57) rfl]; rfl)) rfl rfl ?_
          intro a fr
          refine dr_one 9 (by kernel_rfl) rfl rfl (ow_alloc fr st rfl zv_42 rfl rfl _ (by rfl) ?_)
          intro a w b22 fr st
          refine ⟨st.sub (.cons _ (.cons_cons _ (.cons_cons _ (.cons_cons _ (.cons_cons _ (.cons_cons _ (.cons_cons _ (.cons_cons _ (.cons_cons _ (.cons_cons _ (.cons_cons _ (.cons_cons _ (.cons_cons _ (.cons_cons _ .slnil)))))))))))))), ?_⟩
          refine dr_one 10 (by kernel_rfl) rfl rfl (ow_stN fr st 0 (vs := [.int .i64 (((1 + x.toNat % 3 : Nat) : Int)), .int .i64 2, .int .i64 ((k : Nat))]) rfl rfl rfl rfl sz_42 rfl (Nat.le_of_ble_eq_true rfl) rfl ?_)
          intro w (st : St _ [] w [.blk b22 [.int .i64 (((1 + x.toNat % 3 : Nat) : Int)), .int .i64 2, .int .i64 ((k : Nat))] 42, els CI 1 A20 (bK vs (k + 1)).2, .blk b19 ((bK vs (k + 1)).1.map (Value.int .i64) ++ [Value.slice A20 (bK vs (k + 1)).2.length c21]) 27, .blk b8 [.int .i64 2, .int .i64 ((k : Nat))] 23, ro b6 (o7 + k * 1) [.int .i64 (y)], ro b4 (o5 + k * 1) [.int .u8 ((x.toNat : Int))], els CI 1 A (bK vs k).2, row slotC 3 42 w0.heap.size (.slice As (((stI sn k).map (slotB ks)).length) cs) (((stI sn k).map (slotB ks))), row slotC 3 42 w0.heap.size (.slice Al (((loI sn k).map (slotB ks)).length) cl) (((loI sn k).map (slotB ks))), row valC 2 43 w0.heap.size (.slice Aw (((List.range k).map (wantB ks vs)).length) cw) (((List.range k).map (wantB ks vs))), .blk b3 [.int .i64 0, .int .i64 0, .slice Al (((loI sn k).map (slotB ks)).length) cl, .slice As (((stI sn k).map (slotB ks)).length) cs] 39, .blk b2 ((bK vs (k + 1)).1.map (Value.int .i64) ++ [Value.slice A20 (bK vs (k + 1)).2.length c21]) 27, els C8 1 (some ⟨b4, o5, none⟩) ks, els CI 1 (some ⟨b6, o7, none⟩) vs])
          refine ⟨st.sub (.cons _ (.cons_cons _ (.cons_cons _ (.cons_cons _ (.cons_cons _ (.cons_cons _ (.cons_cons _ (.cons_cons _ (.cons_cons _ (.cons_cons _ (.cons_cons _ (.cons_cons _ (.cons_cons _ (.cons_cons _ .slnil)))))))))))))), ?_⟩
          refine dr_done (by kernel_rfl) ?_
          refine then_n ?_
          refine wp_seq ?_
          refine dr_start (by kernel_rfl) st (.cons_cons _ (.cons_cons _ (.cons_cons _ (.cons_cons _ (.cons_cons _ (.cons_cons _ (.cons_cons _ (.cons_cons _ (.cons_cons _ (.cons _ (.cons_cons _ (.cons_cons _ (.cons_cons _ (.cons_cons _ .slnil)))))))))))))) ?_
          intro w st
          refine dr_take 0 rfl (by kernel_rfl) (by kernel_rfl) (by kernel_rfl) (fun _ _ _ h => h) fr rfl (st.sub (.cons_cons _ (.cons_cons _ (.cons_cons _ (.cons_cons _ (.cons_cons _ (.cons_cons _ (.cons_cons _ (.cons_cons _ (.cons_cons _ (.cons _ (.cons_cons _ (.cons_cons _ (.cons_cons _ (.cons_cons _ .slnil))))))))))))))) (fun w st => rn_move (fr.ev rfl)) rfl rfl ?_
          intro a fr
          refine dr_take 1 rfl (by kernel_rfl) (by kernel_rfl) (by kernel_rfl) (fun _ _ _ h => h) fr rfl (st.sub (.cons_cons _ (.cons_cons _ (.cons_cons _ (.cons_cons _ (.cons_cons _ (.cons_cons _ (.cons_cons _ (.cons_cons _ (.cons_cons _ (.cons _ (.cons_cons _ (.cons_cons _ (.cons_cons _ (.cons_cons _ .slnil))))))))))))))) (fun w st => fa_42_0 (fr.ev rfl)) rfl rfl ?_
          intro a fr
          refine dr_take 2 rfl (by kernel_rfl) (by kernel_rfl) (by kernel_rfl) (fun _ _ _ h => h) fr rfl (st.sub (.cons_cons _ (.cons_cons _ (.cons_cons _ (.cons_cons _ (.cons_cons _ (.cons_cons _ (.cons_cons _ (.cons_cons _ (.cons_cons _ (.cons _ (.cons_cons _ (.cons_cons _ (.cons_cons _ (.cons_cons _ .slnil))))))))))))))) (fun w st => rn_load (fr.ev rfl) Try.underlying3 rfl (st.cell 0 rfl rfl)) rfl rfl ?_
          intro a fr
          refine dr_take 3 rfl (by kernel_rfl) (by kernel_rfl) (by kernel_rfl) (fun _ _ _ h => h) fr rfl (st.sub (.cons_cons _ (.cons_cons _ (.cons_cons _ (.cons_cons _ (.cons_cons _ (.cons_cons _ (.cons_cons _ (.cons_cons _ (.cons_cons _ (.cons _ (.cons_cons _ (.cons_cons _ (.cons_cons _ (.cons_cons _ .slnil))))))))))))))) (fun w st => rn_move (fr.ev rfl)) rfl rfl ?_
          intro a fr
          refine dr_take 4 rfl (by kernel_rfl) (by kernel_rfl) (by kernel_rfl) (fun _ _ _ h => h) fr rfl (st.sub (.cons_cons _ (.cons_cons _ (.cons_cons _ (.cons_cons _ (.cons_cons _ (.cons_cons _ (.cons_cons _ (.cons_cons _ (.cons_cons _ (.cons _ (.cons_cons _ (.cons_cons _ (.cons_cons _ (.cons_cons _ .slnil))))))))))))))) (fun w st => rn_move (fr.ev rfl)) rfl rfl ?_
          intro a fr
          refine dr_take 5 rfl (by kernel_rfl) (by kernel_rfl) (by kernel_rfl) (fun _ _ _ h => h) fr rfl (st.sub (.cons_cons _ (.cons_cons _ (.cons_cons _ (.cons_cons _ (.cons_cons _ (.cons_cons _ (.cons_cons _ (.cons_cons _ (.cons_cons _ (.cons _ (.cons_cons _ (.cons_cons _ (.cons_cons _ (.cons_cons _ .slnil))))))))))))))) (fun w st => rn_at (i := k) (fr.ev rfl) (fr.ev rfl) Try.underlying25 sz_2 (by omega) (by rfl)) rfl rfl ?_
          intro a fr
          refine dr_take 6 rfl (by kernel_rfl) (by kernel_rfl) (by kernel_rfl) (fun _ _ _ h => h) fr rfl (st.sub (.cons_cons _ (.cons_cons _ (.cons_cons _ (.cons_cons _ (.cons_cons _ (.cons_cons _ (.cons_cons _ (.cons_cons _ (.cons_cons _ (.cons _ (.cons_cons _ (.cons_cons _ (.cons_cons _ (.cons_cons _ .slnil))))))))))))))) (fun w st => rn_load (fr.ev rfl) Try.underlying2 rfl (st.rocell 4 rfl (j := 0) rfl)) rfl rfl ?_
          intro a fr
          refine dr_take 7 rfl (by kernel_rfl) (by kernel_rfl) (by kernel_rfl) (fun _ _ _ h => h) fr rfl (st.sub (.cons_cons _ (.cons_cons _ (.cons_cons _ (.cons_cons _ (.cons_cons _ (.cons_cons _ (.cons_cons _ (.cons_cons _ (.cons_cons _ (.cons _ (.cons_cons _ (.cons_cons _ (.cons_cons _ (.cons_cons _ .slnil))))))))))))))) (fun w st => rn_build (cells := #[.int .i64 (((1 + x.toNat % 3 : Nat) : Int)), .int .i64 (y)]) (by simp only [List.map_toArray, List.map_cons, List.map_nil]; rw [fr.ev (x := .tmp 61) rfl, fr.ev (x := .tmp 65) rfl]; rfl)) rfl rfl ?_
          intro a fr
          refine dr_one 8 (by kernel_rfl) rfl rfl (ow_bslice (E := 43) fr st rfl [.int .i64 (((1 + x.toNat % 3 : Nat) : Int)), .int .i64 (y)] (fun w => by simp only [List.map_toArray, List.map_cons, List.map_nil]; rw [fr.ev (x := .tmp 66) rfl]; kernel_rfl) rfl rfl ?_)
          intro a w b23 fr st
          refine ⟨st.sub (.cons _ (.cons_cons _ (.cons_cons _ (.cons_cons _ (.cons_cons _ (.cons_cons _ (.cons_cons _ (.cons_cons _ (.cons_cons _ (.cons_cons _ (.cons _ (.cons_cons _ (.cons_cons _ (.cons_cons _ (.cons_cons _ .slnil))))))))))))))), ?_⟩
          refine dr_one 9 (by kernel_rfl) rfl rfl (ow_append1 fr st 10 0 (((((1 + x.toNat % 3 : Nat) : Int), y) : ValD)) rfl rfl rfl rfl rfl Try.underlying40 inf_43 (by rfl) (by decide) (fun _ => rfl) rfl (by (simp; have := stI_len sn k; omega)) (by unfold maxLen; (simp; have := stI_len sn k; omega)) (Nat.le_refl _) st.agr.size rfl rfl ?_)
          intro a w A24 c25 fr (st : St _ [] w [.blk b23 [.int .i64 (((1 + x.toNat % 3 : Nat) : Int)), .int .i64 (y)] 43, .blk b22 [.int .i64 (((1 + x.toNat % 3 : Nat) : Int)), .int .i64 2, .int .i64 ((k : Nat))] 42, els CI 1 A20 (bK vs (k + 1)).2, .blk b19 ((bK vs (k + 1)).1.map (Value.int .i64) ++ [Value.slice A20 (bK vs (k + 1)).2.length c21]) 27, .blk b8 [.int .i64 2, .int .i64 ((k : Nat))] 23, ro b6 (o7 + k * 1) [.int .i64 (y)], ro b4 (o5 + k * 1) [.int .u8 ((x.toNat : Int))], els CI 1 A (bK vs k).2, row slotC 3 42 w0.heap.size (.slice As (((stI sn k).map (slotB ks)).length) cs) (((stI sn k).map (slotB ks))), row slotC 3 42 w0.heap.size (.slice Al (((loI sn k).map (slotB ks)).length) cl) (((loI sn k).map (slotB ks))), row valC 2 43 w0.heap.size (.slice A24 ((((List.range k).map (wantB ks vs)) ++ [((((1 + x.toNat % 3 : Nat) : Int), y) : ValD)]).length) c25) ((((List.range k).map (wantB ks vs)) ++ [((((1 + x.toNat % 3 : Nat) : Int), y) : ValD)])), .blk b3 [.int .i64 0, .int .i64 0, .slice Al (((loI sn k).map (slotB ks)).length) cl, .slice As (((stI sn k).map (slotB ks)).length) cs] 39, .blk b2 ((bK vs (k + 1)).1.map (Value.int .i64) ++ [Value.slice A20 (bK vs (k + 1)).2.length c21]) 27, els C8 1 (some ⟨b4, o5, none⟩) ks, els CI 1 (some ⟨b6, o7, none⟩) vs])
          refine ⟨st.sub (.cons _ (.cons_cons _ (.cons_cons _ (.cons_cons _ (.cons_cons _ (.cons_cons _ (.cons_cons _ (.cons_cons _ (.cons_cons _ (.cons_cons _ (.cons _ (.cons_cons _ (.cons_cons _ (.cons_cons _ (.cons_cons _ .slnil))))))))))))))), ?_⟩
          refine dr_take 10 rfl (by kernel_rfl) (by kernel_rfl) (by kernel_rfl) (fun _ _ _ h => h) fr rfl (st.sub (.cons _ (.cons_cons _ (.cons_cons _ (.cons_cons _ (.cons_cons _ (.cons_cons _ (.cons_cons _ (.cons_cons _ (.cons_cons _ (.cons_cons _ (.cons _ (.cons_cons _ (.cons_cons _ (.cons_cons _ (.cons_cons _ .slnil)))))))))))))))) (fun w st => rn_assign (fr.ev rfl)) rfl rfl ?_
          intro a fr
          refine dr_done (by kernel_rfl) ?_
          refine then_n ?_
          refine wp_seq ?_
          refine reg ?_
          refine lst rfl (ow_v fr (rn_move (fr.ev rfl)) rfl rfl ?_)
          intro a fr
          refine lst rfl (ow_v fr (rn_move (fr.ev rfl)) rfl rfl ?_)
          intro a fr
          refine lst rfl (ow_v fr (rn_conv (c := (sn : Nat)) (fr.ev rfl) (by kernel_rfl) Try.underlying3 (wr_i64 _ (by omega) (by omega))) rfl rfl ?_)
          intro a fr
          refine lst rfl (ow_v fr (rn_as (v' := .bool true) (rn_lss (fr.ev rfl) (fr.ev rfl)) (congrArg Value.bool (decide_eq_true (by omega)))) rfl rfl ?_)
          intro a fr
          refine wpList_nil ?_
          refine then_n ?_
          refine cond_t fr rfl rfl ?_
          refine reg ?_
          refine lst rfl (ow_v fr (fa_39_3 (fr.ev rfl)) rfl rfl ?_)
          intro a fr
          refine lst rfl (ow_v fr (rn_load (fr.ev rfl) Try.underlying37 rfl (st.cell 11 rfl rfl)) rfl rfl ?_)
          intro a fr
          refine lst rfl (ow_v fr (rn_loadN (cs := [.int .i64 (((1 + x.toNat % 3 : Nat) : Int)), .int .i64 2, .int .i64 ((k : Nat))]) (fr.ev rfl) Try.underlying42 rfl sz_42 (st.blkrange 1 rfl 0 rfl)) rfl rfl ?_)
          intro a fr
          refine lst rfl (ow_bslice (E := 42) fr st rfl [.int .i64 (((1 + x.toNat % 3 : Nat) : Int)), .int .i64 2, .int .i64 ((k : Nat))] (fun w => by simp only [List.map_toArray, List.map_cons, List.map_nil]; rw [fr.ev (x := .tmp 75) rfl]; kernel_rfl) rfl rfl ?_)
          intro a w b26 fr st
          refine lst rfl (ow_append1 fr st 9 0 (((((1 + x.toNat % 3 : Nat) : Int), 2, (k : Nat)) : SlotD)) rfl rfl rfl rfl rfl Try.underlying37 inf_42 (by rfl) (by decide) (fun _ => rfl) rfl (by (simp; have := stI_len sn k; omega)) (by unfold maxLen; (simp; have := stI_len sn k; omega)) (Nat.le_refl _) st.agr.size rfl rfl ?_)
          intro a w A27 c28 fr (st : St _ [] w [.blk b26 [.int .i64 (((1 + x.toNat % 3 : Nat) : Int)), .int .i64 2, .int .i64 ((k : Nat))] 42, .blk b23 [.int .i64 (((1 + x.toNat % 3 : Nat) : Int)), .int .i64 (y)] 43, .blk b22 [.int .i64 (((1 + x.toNat % 3 : Nat) : Int)), .int .i64 2, .int .i64 ((k : Nat))] 42, els CI 1 A20 (bK vs (k + 1)).2, .blk b19 ((bK vs (k + 1)).1.map (Value.int .i64) ++ [Value.slice A20 (bK vs (k + 1)).2.length c21]) 27, .blk b8 [.int .i64 2, .int .i64 ((k : Nat))] 23, ro b6 (o7 + k * 1) [.int .i64 (y)], ro b4 (o5 + k * 1) [.int .u8 ((x.toNat : Int))], els CI 1 A (bK vs k).2, row slotC 3 42 w0.heap.size (.slice A27 ((((stI sn k).map (slotB ks)) ++ [((((1 + x.toNat % 3 : Nat) : Int), 2, (k : Nat)) : SlotD)]).length) c28) ((((stI sn k).map (slotB ks)) ++ [((((1 + x.toNat % 3 : Nat) : Int), 2, (k : Nat)) : SlotD)])), row slotC 3 42 w0.heap.size (.slice Al (((loI sn k).map (slotB ks)).length) cl) (((loI sn k).map (slotB ks))), row valC 2 43 w0.heap.size (.slice A24 ((((List.range k).map (wantB ks vs)) ++ [((((1 + x.toNat % 3 : Nat) : Int), y) : ValD)]).length) c25) ((((List.range k).map (wantB ks vs)) ++ [((((1 + x.toNat % 3 : Nat) : Int), y) : ValD)])), .blk b3 [.int .i64 0, .int .i64 0, .slice Al (((loI sn k).map (slotB ks)).length) cl, .slice As (((stI sn k).map (slotB ks)).length) cs] 39, .blk b2 ((bK vs (k + 1)).1.map (Value.int .i64) ++ [Value.slice A20 (bK vs (k + 1)).2.length c21]) 27, els C8 1 (some ⟨b4, o5, none⟩) ks, els CI 1 (some ⟨b6, o7, none⟩) vs])
          refine lst rfl (ow_v fr (fa_39_3 (fr.ev rfl)) rfl rfl ?_)
          intro a fr
          refine lst rfl (ow_st fr st 12 rfl rfl rfl rfl sz_37 rfl rfl rfl ?_)
          intro w (st : St _ [] w [.blk b26 [.int .i64 (((1 + x.toNat % 3 : Nat) : Int)), .int .i64 2, .int .i64 ((k : Nat))] 42, .blk b23 [.int .i64 (((1 + x.toNat % 3 : Nat) : Int)), .int .i64 (y)] 43, .blk b22 [.int .i64 (((1 + x.toNat % 3 : Nat) : Int)), .int .i64 2, .int .i64 ((k : Nat))] 42, els CI 1 A20 (bK vs (k + 1)).2, .blk b19 ((bK vs (k + 1)).1.map (Value.int .i64) ++ [Value.slice A20 (bK vs (k + 1)).2.length c21]) 27, .blk b8 [.int .i64 2, .int .i64 ((k : Nat))] 23, ro b6 (o7 + k * 1) [.int .i64 (y)], ro b4 (o5 + k * 1) [.int .u8 ((x.toNat : Int))], els CI 1 A (bK vs k).2, row slotC 3 42 w0.heap.size (.slice A27 ((((stI sn k).map (slotB ks)) ++ [((((1 + x.toNat % 3 : Nat) : Int), 2, (k : Nat)) : SlotD)]).length) c28) ((((stI sn k).map (slotB ks)) ++ [((((1 + x.toNat % 3 : Nat) : Int), 2, (k : Nat)) : SlotD)])), row slotC 3 42 w0.heap.size (.slice Al (((loI sn k).map (slotB ks)).length) cl) (((loI sn k).map (slotB ks))), row valC 2 43 w0.heap.size (.slice A24 ((((List.range k).map (wantB ks vs)) ++ [((((1 + x.toNat % 3 : Nat) : Int), y) : ValD)]).length) c25) ((((List.range k).map (wantB ks vs)) ++ [((((1 + x.toNat % 3 : Nat) : Int), y) : ValD)])), .blk b3 [.int .i64 0, .int .i64 0, .slice Al (((loI sn k).map (slotB ks)).length) cl, .slice A27 ((((stI sn k).map (slotB ks)) ++ [((((1 + x.toNat % 3 : Nat) : Int), 2, (k : Nat)) : SlotD)]).length) c28] 39, .blk b2 ((bK vs (k + 1)).1.map (Value.int .i64) ++ [Value.slice A20 (bK vs (k + 1)).2.length c21]) 27, els C8 1 (some ⟨b4, o5, none⟩) ks, els CI 1 (some ⟨b6, o7, none⟩) vs])
          refine wpList_nil ?_
          refine blk_n ?_
          refine then_n ?_
          refine reg ?_
          refine lst rfl (ow_v fr (rn_add (c := ((k + 1 : Nat) : Int)) (fr.ev rfl) (fr.ev rfl) (wr_i64e (by omega) (by omega) (by omega))) rfl rfl ?_)
          intro a fr
          refine lst rfl (ow_v fr (rn_move (fr.ev rfl)) rfl rfl ?_)
          intro a fr
          refine wpList_nil ?_
          have eqs_ : (((stI sn k).map (slotB ks)) ++ [((((1 + x.toNat % 3 : Nat) : Int), 2, (k : Nat)) : SlotD)]) = (stI sn (k + 1)).map (slotB ks) := by rw [(stI_y hs).1, List.map_append, List.map_singleton, qs]
          (try rw [eqs_] at fr); (try rw [eqs_] at st)
          have eql_ : (loI sn k) = loI sn (k + 1) := (stI_y hs).2.symm
          (try rw [eql_] at fr); (try rw [eql_] at st)
          have eqw_ : (((List.range k).map (wantB ks vs)) ++ [((((1 + x.toNat % 3 : Nat) : Int), y) : ValD)]) = (List.range (k + 1)).map (wantB ks vs) := by rw [List.range_succ, List.map_append, List.map_singleton, qw]
          (try rw [eqw_] at fr); (try rw [eqw_] at st)
          refine then_n ⟨m - (k + 1), ?_, k + 1, A20, A27, Al, A24, c21, c28, cl, c25, (by omega), (hn1), rfl, fr.prune ⟨rfl, rfl, rfl, rfl, rfl, rfl, rfl, rfl, trivial⟩, st.sub (.cons _ (.cons _ (.cons _ (.cons_cons _ (.cons _ (.cons _ (.cons _ (.cons _ (.cons _ (.cons_cons _ (.cons_cons _ (.cons_cons _ (.cons_cons _ (.cons_cons _ (.cons_cons _ (.cons_cons _ .slnil))))))))))))))))⟩
          omega
      · have qs : slotB ks k = (((1 + x.toNat % 3 : Nat) : Int), 2, (k : Int)) := by unfold slotB; rw [qk, locB_odd h2]
        have ql : locB k = (2, (k : Int)) := locB_odd h2
        refine wp_seq ?_
        refine reg ?_
        refine lst rfl (ow_v fr (rn_as (v' := .bool true) (rn_lss (fr.ev rfl) (fr.ev rfl)) (congrArg Value.bool (decide_eq_true (by omega)))) rfl rfl ?_)
        intro a fr
        refine wpList_nil ?_
        refine then_n ?_
        refine wp_seq ?_
        refine cond_t fr rfl rfl ?_
        refine wp_skip ?_
        refine then_n ?_
        refine wp_seq ?_
        refine wp_block ?_
        refine wp_seq ?_
        refine reg ?_
        refine lst rfl (ow_v fr (rn_move (fr.ev rfl)) rfl rfl ?_)
        intro a fr
        refine lst rfl (ow_v fr (rn_assign (fr.ev rfl)) rfl rfl ?_)
        intro a fr
        refine wpList_nil ?_
        refine then_n ?_
        refine wp_seq ?_
        refine reg ?_
        refine lst rfl (ow_v fr (rn_move (fr.ev rfl)) rfl rfl ?_)
        intro a fr
        refine lst rfl (ow_v fr (rn_quo (c := ((k / 2 : Nat) : Int)) (fr.ev rfl) (fr.ev rfl) (by decide) (wdv (a := k) (m := 2) rfl rfl (by omega))) rfl rfl ?_)
        intro a fr
        refine lst rfl (ow_v fr (rn_build (cells := #[.int .i64 1, .int .i64 (((k / 2 : Nat) : Int))]) (by simp only [List.map_toArray, List.map_cons, List.map_nil]; rw [fr.ev (x := .tmp 30) rfl]; rfl)) rfl rfl ?_)
        intro a fr
        refine lst rfl (ow_alloc fr st rfl zv_23 rfl rfl _ (by rfl) ?_)
        intro a w b29 fr st
        refine lst rfl (ow_stN fr st 0 (vs := [.int .i64 1, .int .i64 (((k / 2 : Nat) : Int))]) rfl rfl rfl rfl sz_23 rfl (Nat.le_of_ble_eq_true rfl) rfl ?_)
        intro w (st : St _ [] w [.blk b29 [.int .i64 1, .int .i64 (((k / 2 : Nat) : Int))] 23, ro b6 (o7 + k * 1) [.int .i64 (y)], ro b4 (o5 + k * 1) [.int .u8 ((x.toNat : Int))], els CI 1 A (bK vs k).2, row slotC 3 42 w0.heap.size (.slice As (((stI sn k).map (slotB ks)).length) cs) (((stI sn k).map (slotB ks))), row slotC 3 42 w0.heap.size (.slice Al (((loI sn k).map (slotB ks)).length) cl) (((loI sn k).map (slotB ks))), row valC 2 43 w0.heap.size (.slice Aw (((List.range k).map (wantB ks vs)).length) cw) (((List.range k).map (wantB ks vs))), .blk b3 [.int .i64 0, .int .i64 0, .slice Al (((loI sn k).map (slotB ks)).length) cl, .slice As (((stI sn k).map (slotB ks)).length) cs] 39, .blk b2 ((bK vs k).1.map (Value.int .i64) ++ [Value.slice A (bK vs k).2.length c]) 27, els C8 1 (some ⟨b4, o5, none⟩) ks, els CI 1 (some ⟨b6, o7, none⟩) vs])
        refine wpList_nil ?_
        refine then_n ?_
        refine wp_seq ?_
        refine wp_seq ?_
        refine reg ?_
        refine lst rfl (ow_v fr (rn_move (fr.ev rfl)) rfl rfl ?_)
        intro a fr
        refine lst rfl (ow_v fr (rn_rem (c := ((k % 2 : Nat) : Int)) (fr.ev rfl) (fr.ev rfl) (by decide) (rm_nat (a := k) (m := 2) rfl rfl)) rfl rfl ?_)
        intro a fr
        refine lst rfl (ow_v fr (rn_as (v' := .bool true) (rn_eql (fr.ev rfl) (fr.ev rfl)) (congrArg Value.bool (by simp; omega))) rfl rfl ?_)
        intro a fr
        refine wpList_nil ?_
        refine then_n ?_
        refine cond_t fr rfl rfl ?_
        refine reg ?_
        refine lst rfl (ow_v fr (rn_move (fr.ev rfl)) rfl rfl ?_)
        intro a fr
        refine lst rfl (ow_v fr (rn_build (cells := #[.int .i64 2, .int .i64 ((k : Nat))]) (by simp only [List.map_toArray, List.map_cons, List.map_nil]; rw [fr.ev (x := .tmp 35) rfl]; rfl)) rfl rfl ?_)
        intro a fr
        refine lst rfl (ow_stN fr st 0 (vs := [.int .i64 2, .int .i64 ((k : Nat))]) rfl rfl rfl rfl sz_23 rfl (Nat.le_of_ble_eq_true rfl) rfl ?_)
        intro w (st : St _ [] w [.blk b29 [.int .i64 2, .int .i64 ((k : Nat))] 23, ro b6 (o7 + k * 1) [.int .i64 (y)], ro b4 (o5 + k * 1) [.int .u8 ((x.toNat : Int))], els CI 1 A (bK vs k).2, row slotC 3 42 w0.heap.size (.slice As (((stI sn k).map (slotB ks)).length) cs) (((stI sn k).map (slotB ks))), row slotC 3 42 w0.heap.size (.slice Al (((loI sn k).map (slotB ks)).length) cl) (((loI sn k).map (slotB ks))), row valC 2 43 w0.heap.size (.slice Aw (((List.range k).map (wantB ks vs)).length) cw) (((List.range k).map (wantB ks vs))), .blk b3 [.int .i64 0, .int .i64 0, .slice Al (((loI sn k).map (slotB ks)).length) cl, .slice As (((stI sn k).map (slotB ks)).length) cs] 39, .blk b2 ((bK vs k).1.map (Value.int .i64) ++ [Value.slice A (bK vs k).2.length c]) 27, els C8 1 (some ⟨b4, o5, none⟩) ks, els CI 1 (some ⟨b6, o7, none⟩) vs])
        refine wpList_nil ?_
        refine then_n ?_
        refine wp_seq ?_
        refine dr_start (by kernel_rfl) st (.cons_cons _ (.cons_cons _ (.cons_cons _ (.cons_cons _ (.cons_cons _ (.cons_cons _ (.cons_cons _ (.cons_cons _ (.cons_cons _ (.cons_cons _ (.cons_cons _ .slnil))))))))))) ?_
        intro w st
        refine dr_take 0 rfl (by kernel_rfl) (by kernel_rfl) (by kernel_rfl) (fun _ _ _ h => h) fr rfl (st.sub (.cons_cons _ (.cons_cons _ (.cons_cons _ (.cons_cons _ (.cons_cons _ (.cons_cons _ (.cons_cons _ (.cons_cons _ (.cons_cons _ (.cons_cons _ (.cons_cons _ .slnil)))))))))))) (fun w st => rn_loadN (cs := [.int .i64 2, .int .i64 ((k : Nat))]) (fr.ev rfl) Try.underlying23 rfl sz_23 (st.blkrange 0 rfl 0 rfl)) rfl rfl ?_
        intro a fr
        refine dr_take 1 rfl (by kernel_rfl) (by kernel_rfl) (by kernel_rfl) (fun _ _ _ h => h) fr rfl (st.sub (.cons_cons _ (.cons_cons _ (.cons_cons _ (.cons_cons _ (.cons_cons _ (.cons_cons _ (.cons_cons _ (.cons_cons _ (.cons_cons _ (.cons_cons _ (.cons_cons _ .slnil)))))))))))) (fun w st => rn_move (fr.ev rfl)) rfl rfl ?_
        intro a fr
        refine dr_take 2 rfl (by kernel_rfl) (by kernel_rfl) (by kernel_rfl) (fun _ _ _ h => h) fr rfl (st.sub (.cons_cons _ (.cons_cons _ (.cons_cons _ (.cons_cons _ (.cons_cons _ (.cons_cons _ (.cons_cons _ (.cons_cons _ (.cons_cons _ (.cons_cons _ (.cons_cons _ .slnil)))))))))))) (fun w st => rn_move (fr.ev rfl)) rfl rfl ?_
        intro a fr
        refine dr_take 3 rfl (by kernel_rfl) (by kernel_rfl) (by kernel_rfl) (fun _ _ _ h => h) fr rfl (st.sub (.cons_cons _ (.cons_cons _ (.cons_cons _ (.cons_cons _ (.cons_cons _ (.cons_cons _ (.cons_cons _ (.cons_cons _ (.cons_cons _ (.cons_cons _ (.cons_cons _ .slnil)))))))))))) (fun w st => rn_at (i := k) (fr.ev rfl) (fr.ev rfl) Try.underlying25 sz_2 (by omega) (by rfl)) rfl rfl ?_
        intro a fr
        refine dr_take 4 rfl (by kernel_rfl) (by kernel_rfl) (by kernel_rfl) (fun _ _ _ h => h) fr rfl (st.sub (.cons_cons _ (.cons_cons _ (.cons_cons _ (.cons_cons _ (.cons_cons _ (.cons_cons _ (.cons_cons _ (.cons_cons _ (.cons_cons _ (.cons_cons _ (.cons_cons _ .slnil)))))))))))) (fun w st => rn_load (fr.ev rfl) Try.underlying2 rfl (st.rocell 1 rfl (j := 0) rfl)) rfl rfl ?_
        intro a fr
        refine dr_take 5 rfl (by kernel_rfl) (by kernel_rfl) (by kernel_rfl) (fun _ _ _ h => h) fr rfl (st.sub (.cons_cons _ (.cons_cons _ (.cons_cons _ (.cons_cons _ (.cons_cons _ (.cons_cons _ (.cons_cons _ (.cons_cons _ (.cons_cons _ (.cons_cons _ (.cons_cons _ .slnil)))))))))))) (fun w st => rn_loadN (cs := (bK vs k).1.map (Value.int .i64) ++ [Value.slice A (bK vs k).2.length c]) (fr.ev rfl) Try.underlying27 rfl (by rw [bK_17 _ _ _]; exact sz_27) (st.blkrange 8 rfl 0 (by rw [List.drop_zero, List.take_length]))) rfl rfl ?_
        intro a fr
        refine dr_two 6 10 (by kernel_rfl) rfl rfl rfl rfl ?_ ?_
        · refine ow_call fr rfl rfl Try.call11 (put_next vs k (by omega) 2 (k : Int) y ql qy A c hnA _ (st.get 3 rfl).1) rfl rfl ?_
          rintro e w ⟨A30, c31, rfl, he1, hn1, hf1, hag⟩
          refine ⟨_, rfl, ?_⟩
          intro a fr
          have st := st.call_els (C := CI) (sz := 1) hag (by decide) CI_len he1 hf1
          clear he1 hf1 hag
          refine ⟨st.sub (.cons _ (.cons_cons _ (.cons_cons _ (.cons_cons _ (.cons_cons _ (.cons_cons _ (.cons_cons _ (.cons_cons _ (.cons_cons _ (.cons_cons _ (.cons_cons _ (.cons_cons _ .slnil)))))))))))), ?_⟩
          refine dr_take 7 rfl (by kernel_rfl) (by kernel_rfl) (by kernel_rfl) (fun _ _ _ h => h) fr rfl (st.sub (.cons _ (.cons_cons _ (.cons_cons _ (.cons_cons _ (.cons_cons _ (.cons_cons _ (.cons_cons _ (.cons_cons _ (.cons_cons _ (.cons_cons _ (.cons_cons _ (.cons_cons _ .slnil))))))))))))) (fun w st => rn_move (fr.ev rfl)) rfl rfl ?_
          intro a fr
          refine dr_take 8 rfl (by kernel_rfl) (by kernel_rfl) (by kernel_rfl) (fun _ _ _ h => h) fr rfl (st.sub (.cons _ (.cons_cons _ (.cons_cons _ (.cons_cons _ (.cons_cons _ (.cons_cons _ (.cons_cons _ (.cons_cons _ (.cons_cons _ (.cons_cons _ (.cons_cons _ (.cons_cons _ .slnil))))))))))))) (fun w st => rn_extract (fr.ev rfl) rfl) rfl rfl ?_
          intro a fr
          refine dr_take 9 rfl (by kernel_rfl) (by kernel_rfl) (by kernel_rfl) (fun _ _ _ h => h) fr rfl (st.sub (.cons _ (.cons_cons _ (.cons_cons _ (.cons_cons _ (.cons_cons _ (.cons_cons _ (.cons_cons _ (.cons_cons _ (.cons_cons _ (.cons_cons _ (.cons_cons _ (.cons_cons _ .slnil))))))))))))) (fun w st => rn_extract (fr.ev rfl) rfl) rfl rfl ?_
          intro a fr
          refine dr_one 10 (by kernel_rfl) rfl rfl (ow_alloc fr st rfl zv_27 rfl rfl _ (by rfl) ?_)
          intro a w b32 fr st
          refine ⟨st.sub (.cons _ (.cons _ (.cons_cons _ (.cons_cons _ (.cons_cons _ (.cons_cons _ (.cons_cons _ (.cons_cons _ (.cons_cons _ (.cons_cons _ (.cons_cons _ (.cons_cons _ (.cons_cons _ .slnil))))))))))))), ?_⟩
          refine dr_one 11 (by kernel_rfl) rfl rfl (ow_stN fr st 0 (vs := (bK vs (k + 1)).1.map (Value.int .i64) ++ [Value.slice A30 (bK vs (k + 1)).2.length c31]) rfl rfl rfl (regsL_one _ _ _ _) (by rw [bK_17 _ _ _]; exact sz_27) rfl (by simp only [bK_17]; exact Nat.le_of_ble_eq_true rfl) rfl ?_)
          intro w st
          rw [setR_all _ _ (by first | (simp only [bK_17]; done) | (simp only [bK_17]; rfl))] at st
          replace st : St _ [] w [.blk b32 ((bK vs (k + 1)).1.map (Value.int .i64) ++ [Value.slice A30 (bK vs (k + 1)).2.length c31]) 27, els CI 1 A30 (bK vs (k + 1)).2, .blk b29 [.int .i64 2, .int .i64 ((k : Nat))] 23, ro b6 (o7 + k * 1) [.int .i64 (y)], ro b4 (o5 + k * 1) [.int .u8 ((x.toNat : Int))], els CI 1 A (bK vs k).2, row slotC 3 42 w0.heap.size (.slice As (((stI sn k).map (slotB ks)).length) cs) (((stI sn k).map (slotB ks))), row slotC 3 42 w0.heap.size (.slice Al (((loI sn k).map (slotB ks)).length) cl) (((loI sn k).map (slotB ks))), row valC 2 43 w0.heap.size (.slice Aw (((List.range k).map (wantB ks vs)).length) cw) (((List.range k).map (wantB ks vs))), .blk b3 [.int .i64 0, .int .i64 0, .slice Al (((loI sn k).map (slotB ks)).length) cl, .slice As (((stI sn k).map (slotB ks)).length) cs] 39, .blk b2 ((bK vs k).1.map (Value.int .i64) ++ [Value.slice A (bK vs k).2.length c]) 27, els C8 1 (some ⟨b4, o5, none⟩) ks, els CI 1 (some ⟨b6, o7, none⟩) vs] := st
          refine ⟨st.sub (.cons _ (.cons _ (.cons_cons _ (.cons_cons _ (.cons_cons _ (.cons_cons _ (.cons_cons _ (.cons_cons _ (.cons_cons _ (.cons_cons _ (.cons_cons _ (.cons_cons _ (.cons_cons _ .slnil))))))))))))), ?_⟩
          refine dr_take 12 rfl (by kernel_rfl) (by kernel_rfl) (by kernel_rfl) (fun _ _ _ h => h) fr rfl (st.sub (.cons _ (.cons _ (.cons_cons _ (.cons_cons _ (.cons_cons _ (.cons_cons _ (.cons_cons _ (.cons_cons _ (.cons_cons _ (.cons_cons _ (.cons_cons _ (.cons_cons _ (.cons_cons _ .slnil)))))))))))))) (fun w st => rn_assign (fr.ev rfl)) rfl rfl ?_
          intro a fr
          refine dr_done (by kernel_rfl) ?_
          refine then_n ?_
          refine wp_seq ?_
          refine wp_seq ?_
          refine reg ?_
          refine lst rfl (ow_v fr (rn_move (fr.ev rfl)) rfl rfl ?_)
          intro a fr
          refine lst rfl (ow_v fr (rn_as (rn_neq (fr.ev rfl) (fr.ev rfl)) (by rfl)) rfl rfl ?_)
          intro a fr
          refine wpList_nil ?_
          refine then_n ?_
          refine cond_f fr rfl rfl ?_
          refine wp_skip ?_
          refine then_n ?_
          refine wp_seq ?_
          refine reg ?_
          refine lst rfl (ow_v fr (rn_loadN (cs := (bK vs (k + 1)).1.map (Value.int .i64) ++ [Value.slice A30 (bK vs (k + 1)).2.length c31]) (fr.ev rfl) Try.underlying27 rfl (by rw [bK_17 _ _ _]; exact sz_27) (st.blkrange 0 rfl 0 (by rw [List.drop_zero, List.take_length]))) rfl rfl ?_)
          intro a fr
          refine lst rfl (ow_stN fr st 10 (vs := (bK vs (k + 1)).1.map (Value.int .i64) ++ [Value.slice A30 (bK vs (k + 1)).2.length c31]) rfl rfl rfl (regsL_one _ _ _ _) (by rw [bK_17 _ _ _]; exact sz_27) rfl (by simp only [bK_17]; exact Nat.le_of_ble_eq_true rfl) rfl ?_)
          intro w st
          rw [setR_all _ _ (by first | (simp only [bK_17]; done) | (simp only [bK_17]; rfl))] at st
          replace st : St _ [] w [.blk b32 ((bK vs (k + 1)).1.map (Value.int .i64) ++ [Value.slice A30 (bK vs (k + 1)).2.length c31]) 27, els CI 1 A30 (bK vs (k + 1)).2, .blk b29 [.int .i64 2, .int .i64 ((k : Nat))] 23, ro b6 (o7 + k * 1) [.int .i64 (y)], ro b4 (o5 + k * 1) [.int .u8 ((x.toNat : Int))], els CI 1 A (bK vs k).2, row slotC 3 42 w0.heap.size (.slice As (((stI sn k).map (slotB ks)).length) cs) (((stI sn k).map (slotB ks))), row slotC 3 42 w0.heap.size (.slice Al (((loI sn k).map (slotB ks)).length) cl) (((loI sn k).map (slotB ks))), row valC 2 43 w0.heap.size (.slice Aw (((List.range k).map (wantB ks vs)).length) cw) (((List.range k).map (wantB ks vs))), .blk b3 [.int .i64 0, .int .i64 0, .slice Al (((loI sn k).map (slotB ks)).length) cl, .slice As (((stI sn k).map (slotB ks)).length) cs] 39, .blk b2 ((bK vs (k + 1)).1.map (Value.int .i64) ++ [Value.slice A30 (bK vs (k + 1)).2.length c31]) 27, els C8 1 (some ⟨b4, o5, none⟩) ks, els CI 1 (some ⟨b6, o7, none⟩) vs] := st
          refine wpList_nil ?_
          refine then_n ?_
          refine wp_seq ?_
          refine dr_start (by kernel_rfl) st (.cons_cons _ (.cons_cons _ (.cons_cons _ (.cons_cons _ (.cons_cons _ (.cons_cons _ (.cons_cons _ (.cons_cons _ (.cons_cons _ (.cons_cons _ (.cons_cons _ (.cons_cons _ (.cons_cons _ .slnil))))))))))))) ?_
          intro w st
          refine dr_take 0 rfl (by kernel_rfl) (by kernel_rfl) (by kernel_rfl) (fun _ _ _ h => h) fr rfl (st.sub (.cons_cons _ (.cons_cons _ (.cons_cons _ (.cons_cons _ (.cons_cons _ (.cons_cons _ (.cons_cons _ (.cons_cons _ (.cons_cons _ (.cons_cons _ (.cons_cons _ (.cons_cons _ (.cons_cons _ .slnil)))))))))))))) (fun w st => rn_move (fr.ev rfl)) rfl rfl ?_
          intro a fr
          refine dr_take 1 rfl (by kernel_rfl) (by kernel_rfl) (by kernel_rfl) (fun _ _ _ h => h) fr rfl (st.sub (.cons_cons _ (.cons_cons _ (.cons_cons _ (.cons_cons _ (.cons_cons _ (.cons_cons _ (.cons_cons _ (.cons_cons _ (.cons_cons _ (.cons_cons _ (.cons_cons _ (.cons_cons _ (.cons_cons _ .slnil)))))))))))))) (fun w st => rn_move (fr.ev rfl)) rfl rfl ?_
          intro a fr
          refine dr_take 2 rfl (by kernel_rfl) (by kernel_rfl) (by kernel_rfl) (fun _ _ _ h => h) fr rfl (st.sub (.cons_cons _ (.cons_cons _ (.cons_cons _ (.cons_cons _ (.cons_cons _ (.cons_cons _ (.cons_cons _ (.cons_cons _ (.cons_cons _ (.cons_cons _ (.cons_cons _ (.cons_cons _ (.cons_cons _ .slnil)))))))))))))) (fun w st => rn_at (i := k) (fr.ev rfl) (fr.ev rfl) Try.underlying36 sz_5 (by omega) (by rfl)) rfl rfl ?_
          intro a fr
          refine dr_take 3 rfl (by kernel_rfl) (by kernel_rfl) (by kernel_rfl) (fun _ _ _ h => h) fr rfl (st.sub (.cons_cons _ (.cons_cons _ (.cons_cons _ (.cons_cons _ (.cons_cons _ (.cons_cons _ (.cons_cons _ (.cons_cons _ (.cons_cons _ (.cons_cons _ (.cons_cons _ (.cons_cons _ (.cons_cons _ .slnil)))))))))))))) (fun w st => rn_load (fr.ev rfl) Try.underlying5 rfl (st.rocell 4 rfl (j := 0) rfl)) rfl rfl ?_
          intro a fr
          refine dr_take 4 rfl (by kernel_rfl) (by kernel_rfl) (by kernel_rfl) (fun _ _ _ h => h) fr rfl (st.sub (.cons_cons _ (.cons_cons _ (.cons_cons _ (.cons_cons _ (.cons_cons _ (.cons_cons _ (.cons_cons _ (.cons_cons _ (.cons_cons _ (.cons_cons _ (.cons_cons _ (.cons_cons _ (.cons_cons _ .slnil)))))))))))))) (fun w st => rn_conv (c := (x.toNat : Int)) (fr.ev rfl) (by kernel_rfl) Try.underlying3 (wr_i64 _ (by omega) (by omega))) rfl rfl ?_
          intro a fr
          refine dr_take 5 rfl (by kernel_rfl) (by kernel_rfl) (by kernel_rfl) (fun _ _ _ h => h) fr rfl (st.sub (.cons_cons _ (.cons_cons _ (.cons_cons _ (.cons_cons _ (.cons_cons _ (.cons_cons _ (.cons_cons _ (.cons_cons _ (.cons_cons _ (.cons_cons _ (.cons_cons _ (.cons_cons _ (.cons_cons _ .slnil)))))))))))))) (fun w st => rn_rem (c := ((x.toNat % 3 : Nat) : Int)) (fr.ev rfl) (fr.ev rfl) (by decide) (rm_nat (a := x.toNat) (m := 3) rfl rfl)) rfl rfl ?_
          intro a fr
          refine dr_take 6 rfl (by kernel_rfl) (by kernel_rfl) (by kernel_rfl) (fun _ _ _ h => h) fr rfl (st.sub (.cons_cons _ (.cons_cons _ (.cons_cons _ (.cons_cons _ (.cons_cons _ (.cons_cons _ (.cons_cons _ (.cons_cons _ (.cons_cons _ (.cons_cons _ (.cons_cons _ (.cons_cons _ (.cons_cons _ .slnil)))))))))))))) (fun w st => rn_add (c := ((1 + x.toNat % 3 : Nat) : Int)) (fr.ev rfl) (fr.ev rfl) (wr_i64e (by omega) (by omega) (by omega))) rfl rfl ?_
          intro a fr
          refine dr_take 7 rfl (by kernel_rfl) (by kernel_rfl) (by kernel_rfl) (fun _ _ _ h => h) fr rfl (st.sub (.cons_cons _ (.cons_cons _ (.cons_cons _ (.cons_cons _ (.cons_cons _ (.cons_cons _ (.cons_cons _ (.cons_cons _ (.cons_cons _ (.cons_cons _ (.cons_cons _ (.cons_cons _ (.cons_cons _ .slnil)))))))))))))) (fun w st => rn_loadN (cs := [.int .i64 2, .int .i64 ((k : Nat))]) (fr.ev rfl) Try.underlying23 rfl sz_23 (st.blkrange 2 rfl 0 rfl)) rfl rfl ?_
          intro a fr
          refine dr_take 8 rfl (by kernel_rfl) (by kernel_rfl) (by kernel_rfl) (fun _ _ _ h => h) fr rfl (st.sub (.cons_cons _ (.cons_cons _ (.cons_cons _ (.cons_cons _ (.cons_cons _ (.cons_cons _ (.cons_cons _ (.cons_cons _ (.cons_cons _ (.cons_cons _ (.cons_cons _ (.cons_cons _ (.cons_cons _ .slnil)))))))))))))) (fun w st => rn_build (cells := #[.int .i64 (((1 + x.toNat % 3 : Nat) : Int)), .int .i64 2, .int .i64 ((k : Nat))]) (by simp only [List.map_toArray, List.map_cons, List.map_nil]; rw [fr.ev (x := .tmp 56) rfl, fr.ev (x := .tmp 57) rfl]; rfl)) rfl rfl ?_
          intro a fr
          refine dr_one 9 (by kernel_rfl) rfl rfl (ow_alloc fr st rfl zv_42 rfl rfl _ (by rfl) ?_)
          intro a w b33 fr st
          refine ⟨st.sub (.cons _ (.cons_cons _ (.cons_cons _ (.cons_cons _ (.cons_cons _ (.cons_cons _ (.cons_cons _ (.cons_cons _ (.cons_cons _ (.cons_cons _ (.cons_cons _ (.cons_cons _ (.cons_cons _ (.cons_cons _ .slnil)))))))))))))), ?_⟩
          refine dr_one 10 (by kernel_rfl) rfl rfl (ow_stN fr st 0 (vs := [.int .i64 (((1 + x.toNat % 3 : Nat) : Int)), .int .i64 2, .int .i64 ((k : Nat))]) rfl rfl rfl rfl sz_42 rfl (Nat.le_of_ble_eq_true rfl) rfl ?_)
          intro w (st : St _ [] w [.blk b33 [.int .i64 (((1 + x.toNat % 3 : Nat) : Int)), .int .i64 2, .int .i64 ((k : Nat))] 42, .blk b32 ((bK vs (k + 1)).1.map (Value.int .i64) ++ [Value.slice A30 (bK vs (k + 1)).2.length c31]) 27, els CI 1 A30 (bK vs (k + 1)).2, .blk b29 [.int .i64 2, .int .i64 ((k : Nat))] 23, ro b6 (o7 + k * 1) [.int .i64 (y)], ro b4 (o5 + k * 1) [.int .u8 ((x.toNat : Int))], els CI 1 A (bK vs k).2, row slotC 3 42 w0.heap.size (.slice As (((stI sn k).map (slotB ks)).length) cs) (((stI sn k).map (slotB ks))), row slotC 3 42 w0.heap.size (.slice Al (((loI sn k).map (slotB ks)).length) cl) (((loI sn k).map (slotB ks))), row valC 2 43 w0.heap.size (.slice Aw (((List.range k).map (wantB ks vs)).length) cw) (((List.range k).map (wantB ks vs))), .blk b3 [.int .i64 0, .int .i64 0, .slice Al (((loI sn k).map (slotB ks)).length) cl, .slice As (((stI sn k).map (slotB ks)).length) cs] 39, .blk b2 ((bK vs (k + 1)).1.map (Value.int .i64) ++ [Value.slice A30 (bK vs (k + 1)).2.length c31]) 27, els C8 1 (some ⟨b4, o5, none⟩) ks, els CI 1 (some ⟨b6, o7, none⟩) vs])
          refine ⟨st.sub (.cons _ (.cons_cons _ (.cons_cons _ (.cons_cons _ (.cons_cons _ (.cons_cons _ (.cons_cons _ (.cons_cons _ (.cons_cons _ (.cons_cons _ (.cons_cons _ (.cons_cons _ (.cons_cons _ (.cons_cons _ .slnil)))))))))))))), ?_⟩
          refine dr_done (by kernel_rfl) ?_
          refine then_n ?_
          refine wp_seq ?_
          refine dr_start (by kernel_rfl) st (.cons_cons _ (.cons_cons _ (.cons_cons _ (.cons_cons _ (.cons_cons _ (.cons_cons _ (.cons_cons _ (.cons_cons _ (.cons_cons _ (.cons _ (.cons_cons _ (.cons_cons _ (.cons_cons _ (.cons_cons _ .slnil)))))))))))))) ?_
          intro w st
          refine dr_take 0 rfl (by kernel_rfl) (by kernel_rfl) (by kernel_rfl) (fun _ _ _ h => h) fr rfl (st.sub (.cons_cons _ (.cons_cons _ (.cons_cons _ (.cons_cons _ (.cons_cons _ (.cons_cons _ (.cons_cons _ (.cons_cons _ (.cons_cons _ (.cons _ (.cons_cons _ (.cons_cons _ (.cons_cons _ (.cons_cons _ .slnil))))))))))))))) (fun w st => rn_move (fr.ev rfl)) rfl rfl ?_
          intro a fr
          refine dr_take 1 rfl (by kernel_rfl) (by kernel_rfl) (by kernel_rfl) (fun _ _ _ h => h) fr rfl (st.sub (.cons_cons _ (.cons_cons _ (.cons_cons _ (.cons_cons _ (.cons_cons _ (.cons_cons _ (.cons_cons _ (.cons_cons _ (.cons_cons _ (.cons _ (.cons_cons _ (.cons_cons _ (.cons_cons _ (.cons_cons _ .slnil))))))))))))))) (fun w st => fa_42_0 (fr.ev rfl)) rfl rfl ?_
          intro a fr
          refine dr_take 2 rfl (by kernel_rfl) (by kernel_rfl) (by kernel_rfl) (fun _ _ _ h => h) fr rfl (st.sub (.cons_cons _ (.cons_cons _ (.cons_cons _ (.cons_cons _ (.cons_cons _ (.cons_cons _ (.cons_cons _ (.cons_cons _ (.cons_cons _ (.cons _ (.cons_cons _ (.cons_cons _ (.cons_cons _ (.cons_cons _ .slnil))))))))))))))) (fun w st => rn_load (fr.ev rfl) Try.underlying3 rfl (st.cell 0 rfl rfl)) rfl rfl ?_
          intro a fr
          refine dr_take 3 rfl (by kernel_rfl) (by kernel_rfl) (by kernel_rfl) (fun _ _ _ h => h) fr rfl (st.sub (.cons_cons _ (.cons_cons _ (.cons_cons _ (.cons_cons _ (.cons_cons _ (.cons_cons _ (.cons_cons _ (.cons_cons _ (.cons_cons _ (.cons _ (.cons_cons _ (.cons_cons _ (.cons_cons _ (.cons_cons _ .slnil))))))))))))))) (fun w st => rn_move (fr.ev rfl)) rfl rfl ?_
          intro a fr
          refine dr_take 4 rfl (by kernel_rfl) (by kernel_rfl) (by kernel_rfl) (fun _ _ _ h => h) fr rfl (st.sub (.cons_cons _ (.cons_cons _ (.cons_cons _ (.cons_cons _ (.cons_cons _ (.cons_cons _ (.cons_cons _ (.cons_cons _ (.cons_cons _ (.cons _ (.cons_cons _ (.cons_cons _ (.cons_cons _ (.cons_cons _ .slnil))))))))))))))) (fun w st => rn_move (fr.ev rfl)) rfl rfl ?_
          intro a fr
          refine dr_take 5 rfl (by kernel_rfl) (by kernel_rfl) (by kernel_rfl) (fun _ _ _ h => h) fr rfl (st.sub (.cons_cons _ (.cons_cons _ (.cons_cons _ (.cons_cons _ (.cons_cons _ (.cons_cons _ (.cons_cons _ (.cons_cons _ (.cons_cons _ (.cons _ (.cons_cons _ (.cons_cons _ (.cons_cons _ (.cons_cons _ .slnil))))))))))))))) (fun w st => rn_at (i := k) (fr.ev rfl) (fr.ev rfl) Try.underlying25 sz_2 (by omega) (by rfl)) rfl rfl ?_
          intro a fr
          refine dr_take 6 rfl (by kernel_rfl) (by kernel_rfl) (by kernel_rfl) (fun _ _ _ h => h) fr rfl (st.sub (.cons_cons _ (.cons_cons _ (.cons_cons _ (.cons_cons _ (.cons_cons _ (.cons_cons _ (.cons_cons _ (.cons_cons _ (.cons_cons _ (.cons _ (.cons_cons _ (.cons_cons _ (.cons_cons _ (.cons_cons _ .slnil))))))))))))))) (fun w st => rn_load (fr.ev rfl) Try.underlying2 rfl (st.rocell 4 rfl (j := 0) rfl)) rfl rfl ?_
          intro a fr
          refine dr_take 7 rfl (by kernel_rfl) (by kernel_rfl) (by kernel_rfl) (fun _ _ _ h => h) fr rfl (st.sub (.cons_cons _ (.cons_cons _ (.cons_cons _ (.cons_cons _ (.cons_cons _ (.cons_cons _ (.cons_cons _ (.cons_cons _ (.cons_cons _ (.cons _ (.cons_cons _ (.cons_cons _ (.cons_cons _ (.cons_cons _ .slnil))))))))))))))) (fun w st => rn_build (cells := #[.int .i64 (((1 + x.toNat % 3 : Nat) : Int)), .int .i64 (y)]) (by simp only [List.map_toArray, List.map_cons, List.map_nil]; rw [fr.ev (x := .tmp 61) rfl, fr.ev (x := .tmp 65) rfl]; rfl)) rfl rfl ?_
          intro a fr
          refine dr_one 8 (by kernel_rfl) rfl rfl (ow_bslice (E := 43) fr st rfl [.int .i64 (((1 + x.toNat % 3 : Nat) : Int)), .int .i64 (y)] (fun w => by simp only [List.map_toArray, List.map_cons, List.map_nil]; rw [fr.ev (x := .tmp 66) rfl]; kernel_rfl) rfl rfl ?_)
          intro a w b34 fr st
          refine ⟨st.sub (.cons _ (.cons_cons _ (.cons_cons _ (.cons_cons _ (.cons_cons _ (.cons_cons _ (.cons_cons _ (.cons_cons _ (.cons_cons _ (.cons_cons _ (.cons _ (.cons_cons _ (.cons_cons _ (.cons_cons _ (.cons_cons _ .slnil))))))))))))))), ?_⟩
          refine dr_one 9 (by kernel_rfl) rfl rfl (ow_append1 fr st 10 0 (((((1 + x.toNat % 3 : Nat) : Int), y) : ValD)) rfl rfl rfl rfl rfl Try.underlying40 inf_43 (by rfl) (by decide) (fun _ => rfl) rfl (by (simp; have := stI_len sn k; omega)) (by unfold maxLen; (simp; have := stI_len sn k; omega)) (Nat.le_refl _) st.agr.size rfl rfl ?_)
          intro a w A35 c36 fr (st : St _ [] w [.blk b34 [.int .i64 (((1 + x.toNat % 3 : Nat) : Int)), .int .i64 (y)] 43, .blk b33 [.int .i64 (((1 + x.toNat % 3 : Nat) : Int)), .int .i64 2, .int .i64 ((k : Nat))] 42, .blk b32 ((bK vs (k + 1)).1.map (Value.int .i64) ++ [Value.slice A30 (bK vs (k + 1)).2.length c31]) 27, els CI 1 A30 (bK vs (k + 1)).2, .blk b29 [.int .i64 2, .int .i64 ((k : Nat))] 23, ro b6 (o7 + k * 1) [.int .i64 (y)], ro b4 (o5 + k * 1) [.int .u8 ((x.toNat : Int))], els CI 1 A (bK vs k).2, row slotC 3 42 w0.heap.size (.slice As (((stI sn k).map (slotB ks)).length) cs) (((stI sn k).map (slotB ks))), row slotC 3 42 w0.heap.size (.slice Al (((loI sn k).map (slotB ks)).length) cl) (((loI sn k).map (slotB ks))), row valC 2 43 w0.heap.size (.slice A35 ((((List.range k).map (wantB ks vs)) ++ [((((1 + x.toNat % 3 : Nat) : Int), y) : ValD)]).length) c36) ((((List.range k).map (wantB ks vs)) ++ [((((1 + x.toNat % 3 : Nat) : Int), y) : ValD)])), .blk b3 [.int .i64 0, .int .i64 0, .slice Al (((loI sn k).map (slotB ks)).length) cl, .slice As (((stI sn k).map (slotB ks)).length) cs] 39, .blk b2 ((bK vs (k + 1)).1.map (Value.int .i64) ++ [Value.slice A30 (bK vs (k + 1)).2.length c31]) 27, els C8 1 (some ⟨b4, o5, none⟩) ks, els CI 1 (some ⟨b6, o7, none⟩) vs])
          refine ⟨st.sub (.cons _ (.cons_cons _ (.cons_cons _ (.cons_cons _ (.cons_cons _ (.cons_cons _ (.cons_cons _ (.cons_cons _ (.cons_cons _ (.cons_cons _ (.cons _ (.cons_cons _ (.cons_cons _ (.cons_cons _ (.cons_cons _ .slnil))))))))))))))), ?_⟩
          refine dr_take 10 rfl (by kernel_rfl) (by kernel_rfl) (by kernel_rfl) (fun _ _ _ h => h) fr rfl (st.sub (.cons _ (.cons_cons _ (.cons_cons _ (.cons_cons _ (.cons_cons _ (.cons_cons _ (.cons_cons _ (.cons_cons _ (.cons_cons _ (.cons_cons _ (.cons _ (.cons_cons _ (.cons_cons _ (.cons_cons _ (.cons_cons _ .slnil)))))))))))))))) (fun w st => rn_assign (fr.ev rfl)) rfl rfl ?_
          intro a fr
          refine dr_done (by kernel_rfl) ?_
          refine then_n ?_
          refine wp_seq ?_
          refine reg ?_
          refine lst rfl (ow_v fr (rn_move (fr.ev rfl)) rfl rfl ?_)
          intro a fr
          refine lst rfl (ow_v fr (rn_move (fr.ev rfl)) rfl rfl ?_)
          intro a fr
          refine lst rfl (ow_v fr (rn_conv (c := (sn : Nat)) (fr.ev rfl) (by kernel_rfl) Try.underlying3 (wr_i64 _ (by omega) (by omega))) rfl rfl ?_)
          intro a fr
          refine lst rfl (ow_v fr (rn_as (v' := .bool false) (rn_lss (fr.ev rfl) (fr.ev rfl)) (congrArg Value.bool (decide_eq_false (by omega)))) rfl rfl ?_)
          intro a fr
          refine wpList_nil ?_
          refine then_n ?_
          refine cond_f fr rfl rfl ?_
          refine reg ?_
          refine lst rfl (ow_v fr (fa_39_2 (fr.ev rfl)) rfl rfl ?_)
          intro a fr
          refine lst rfl (ow_v fr (rn_load (fr.ev rfl) Try.underlying37 rfl (st.cell 11 rfl rfl)) rfl rfl ?_)
          intro a fr
          refine lst rfl (ow_v fr (rn_loadN (cs := [.int .i64 (((1 + x.toNat % 3 : Nat) : Int)), .int .i64 2, .int .i64 ((k : Nat))]) (fr.ev rfl) Try.underlying42 rfl sz_42 (st.blkrange 1 rfl 0 rfl)) rfl rfl ?_)
          intro a fr
          refine lst rfl (ow_bslice (E := 42) fr st rfl [.int .i64 (((1 + x.toNat % 3 : Nat) : Int)), .int .i64 2, .int .i64 ((k : Nat))] (fun w => by simp only [List.map_toArray, List.map_cons, List.map_nil]; rw [fr.ev (x := .tmp 81) rfl]; kernel_rfl) rfl rfl ?_)
          intro a w b37 fr st
          refine lst rfl (ow_append1 fr st 10 0 (((((1 + x.toNat % 3 : Nat) : Int), 2, (k : Nat)) : SlotD)) rfl rfl rfl rfl rfl Try.underlying37 inf_42 (by rfl) (by decide) (fun _ => rfl) rfl (by (simp; have := stI_len sn k; omega)) (by unfold maxLen; (simp; have := stI_len sn k; omega)) (Nat.le_refl _) st.agr.size rfl rfl ?_)
          intro a w A38 c39 fr (st : St _ [] w [.blk b37 [.int .i64 (((1 + x.toNat % 3 : Nat) : Int)), .int .i64 2, .int .i64 ((k : Nat))] 42, .blk b34 [.int .i64 (((1 + x.toNat % 3 : Nat) : Int)), .int .i64 (y)] 43, .blk b33 [.int .i64 (((1 + x.toNat % 3 : Nat) : Int)), .int .i64 2, .int .i64 ((k : Nat))] 42, .blk b32 ((bK vs (k + 1)).1.map (Value.int .i64) ++ [Value.slice A30 (bK vs (k + 1)).2.length c31]) 27, els CI 1 A30 (bK vs (k + 1)).2, .blk b29 [.int .i64 2, .int .i64 ((k : Nat))] 23, ro b6 (o7 + k * 1) [.int .i64 (y)], ro b4 (o5 + k * 1) [.int .u8 ((x.toNat : Int))], els CI 1 A (bK vs k).2, row slotC 3 42 w0.heap.size (.slice As (((stI sn k).map (slotB ks)).length) cs) (((stI sn k).map (slotB ks))), row slotC 3 42 w0.heap.size (.slice A38 ((((loI sn k).map (slotB ks)) ++ [((((1 + x.toNat % 3 : Nat) : Int), 2, (k : Nat)) : SlotD)]).length) c39) ((((loI sn k).map (slotB ks)) ++ [((((1 + x.toNat % 3 : Nat) : Int), 2, (k : Nat)) : SlotD)])), row valC 2 43 w0.heap.size (.slice A35 ((((List.range k).map (wantB ks vs)) ++ [((((1 + x.toNat % 3 : Nat) : Int), y) : ValD)]).length) c36) ((((List.range k).map (wantB ks vs)) ++ [((((1 + x.toNat % 3 : Nat) : Int), y) : ValD)])), .blk b3 [.int .i64 0, .int .i64 0, .slice Al (((loI sn k).map (slotB ks)).length) cl, .slice As (((stI sn k).map (slotB ks)).length) cs] 39, .blk b2 ((bK vs (k + 1)).1.map (Value.int .i64) ++ [Value.slice A30 (bK vs (k + 1)).2.length c31]) 27, els C8 1 (some ⟨b4, o5, none⟩) ks, els CI 1 (some ⟨b6, o7, none⟩) vs])
          refine lst rfl (ow_v fr (fa_39_2 (fr.ev rfl)) rfl rfl ?_)
          intro a fr
          refine lst rfl (ow_st fr st 12 rfl rfl rfl rfl sz_37 rfl rfl rfl ?_)
          intro w (st : St _ [] w [.blk b37 [.int .i64 (((1 + x.toNat % 3 : Nat) : Int)), .int .i64 2, .int .i64 ((k : Nat))] 42, .blk b34 [.int .i64 (((1 + x.toNat % 3 : Nat) : Int)), .int .i64 (y)] 43, .blk b33 [.int .i64 (((1 + x.toNat % 3 : Nat) : Int)), .int .i64 2, .int .i64 ((k : Nat))] 42, .blk b32 ((bK vs (k + 1)).1.map (Value.int .i64) ++ [Value.slice A30 (bK vs (k + 1)).2.length c31]) 27, els CI 1 A30 (bK vs (k + 1)).2, .blk b29 [.int .i64 2, .int .i64 ((k : Nat))] 23, ro b6 (o7 + k * 1) [.int .i64 (y)], ro b4 (o5 + k * 1) [.int .u8 ((x.toNat : Int))], els CI 1 A (bK vs k).2, row slotC 3 42 w0.heap.size (.slice As (((stI sn k).map (slotB ks)).length) cs) (((stI sn k).map (slotB ks))), row slotC 3 42 w0.heap.size (.slice A38 ((((loI sn k).map (slotB ks)) ++ [((((1 + x.toNat % 3 : Nat) : Int), 2, (k : Nat)) : SlotD)]).length) c39) ((((loI sn k).map (slotB ks)) ++ [((((1 + x.toNat % 3 : Nat) : Int), 2, (k : Nat)) : SlotD)])), row valC 2 43 w0.heap.size (.slice A35 ((((List.range k).map (wantB ks vs)) ++ [((((1 + x.toNat % 3 : Nat) : Int), y) : ValD)]).length) c36) ((((List.range k).map (wantB ks vs)) ++ [((((1 + x.toNat % 3 : Nat) : Int), y) : ValD)])), .blk b3 [.int .i64 0, .int .i64 0, .slice A38 ((((loI sn k).map (slotB ks)) ++ [((((1 + x.toNat % 3 : Nat) : Int), 2, (k : Nat)) : SlotD)]).length) c39, .slice As (((stI sn k).map (slotB ks)).length) cs] 39, .blk b2 ((bK vs (k + 1)).1.map (Value.int .i64) ++ [Value.slice A30 (bK vs (k + 1)).2.length c31]) 27, els C8 1 (some ⟨b4, o5, none⟩) ks, els CI 1 (some ⟨b6, o7, none⟩) vs])
          refine wpList_nil ?_
          refine blk_n ?_
          refine then_n ?_
          refine reg ?_
          refine lst rfl (ow_v fr (rn_add (c := ((k + 1 : Nat) : Int)) (fr.ev rfl) (fr.ev rfl) (wr_i64e (by omega) (by omega) (by omega))) rfl rfl ?_)
          intro a fr
          refine lst rfl (ow_v fr (rn_move (fr.ev rfl)) rfl rfl ?_)
          intro a fr
          refine wpList_nil ?_
          have eql_ : (((loI sn k).map (slotB ks)) ++ [((((1 + x.toNat % 3 : Nat) : Int), 2, (k : Nat)) : SlotD)]) = (loI sn (k + 1)).map (slotB ks) := by rw [(stI_n hs).2, List.map_append, List.map_singleton, qs]
          (try rw [eql_] at fr); (try rw [eql_] at st)
          have eqs_ : (stI sn k) = stI sn (k + 1) := (stI_n hs).1.symm
          (try rw [eqs_] at fr); (try rw [eqs_] at st)
          have eqw_ : (((List.range k).map (wantB ks vs)) ++ [((((1 + x.toNat % 3 : Nat) : Int), y) : ValD)]) = (List.range (k + 1)).map (wantB ks vs) := by rw [List.range_succ, List.map_append, List.map_singleton, qw]
          (try rw [eqw_] at fr); (try rw [eqw_] at st)
          refine then_n ⟨m - (k + 1), ?_, k + 1, A30, As, A38, A35, c31, cs, c39, c36, (by omega), (hn1), rfl, fr.prune ⟨rfl, rfl, rfl, rfl, rfl, rfl, rfl, rfl, trivial⟩, st.sub (.cons _ (.cons _ (.cons _ (.cons _ (.cons_cons _ (.cons _ (.cons _ (.cons _ (.cons _ (.cons_cons _ (.cons_cons _ (.cons_cons _ (.cons_cons _ (.cons_cons _ (.cons_cons _ (.cons_cons _ .slnil))))))))))))))))⟩
          omega
        · refine ow_alloc fr st rfl zv_27 rfl rfl _ (by rfl) ?_
          intro a w b40 fr st
          refine ⟨st.sub (.cons _ (.cons_cons _ (.cons_cons _ (.cons_cons _ (.cons_cons _ (.cons_cons _ (.cons_cons _ (.cons_cons _ (.cons_cons _ (.cons_cons _ (.cons_cons _ (.cons_cons _ .slnil)))))))))))), ?_⟩
          refine dr_one 6 (by kernel_rfl) rfl rfl (ow_call fr rfl rfl Try.call11 (put_next vs k (by omega) 2 (k : Int) y ql qy A c hnA _ (st.get 4 rfl).1) rfl rfl ?_)
          rintro e w ⟨A41, c42, rfl, he1, hn1, hf1, hag⟩
          refine ⟨_, rfl, ?_⟩
          intro a fr
          have st := st.call_els (C := CI) (sz := 1) hag (by decide) CI_len he1 hf1
          clear he1 hf1 hag
          refine ⟨st.sub (.cons _ (.cons _ (.cons_cons _ (.cons_cons _ (.cons_cons _ (.cons_cons _ (.cons_cons _ (.cons_cons _ (.cons_cons _ (.cons_cons _ (.cons_cons _ (.cons_cons _ (.cons_cons _ .slnil))))))))))))), ?_⟩
          refine dr_take 7 rfl (by kernel_rfl) (by kernel_rfl) (by kernel_rfl) (fun _ _ _ h => h) fr rfl (st.sub (.cons _ (.cons _ (.cons_cons _ (.cons_cons _ (.cons_cons _ (.cons_cons _ (.cons_cons _ (.cons_cons _ (.cons_cons _ (.cons_cons _ (.cons_cons _ (.cons_cons _ (.cons_cons _ .slnil)))))))))))))) (fun w st => rn_move (fr.ev rfl)) rfl rfl ?_
          intro a fr
          refine dr_take 8 rfl (by kernel_rfl) (by kernel_rfl) (by kernel_rfl) (fun _ _ _ h => h) fr rfl (st.sub (.cons _ (.cons _ (.cons_cons _ (.cons_cons _ (.cons_cons _ (.cons_cons _ (.cons_cons _ (.cons_cons _ (.cons_cons _ (.cons_cons _ (.cons_cons _ (.cons_cons _ (.cons_cons _ .slnil)))))))))))))) (fun w st => rn_extract (fr.ev rfl) rfl) rfl rfl ?_
          intro a fr
          refine dr_take 9 rfl (by kernel_rfl) (by kernel_rfl) (by kernel_rfl) (fun _ _ _ h => h) fr rfl (st.sub (.cons _ (.cons _ (.cons_cons _ (.cons_cons _ (.cons_cons _ (.cons_cons _ (.cons_cons _ (.cons_cons _ (.cons_cons _ (.cons_cons _ (.cons_cons _ (.cons_cons _ (.cons_cons _ .slnil)))))))))))))) (fun w st => rn_extract (fr.ev rfl) rfl) rfl rfl ?_
          intro a fr
          refine dr_one 11 (by kernel_rfl) rfl rfl (ow_stN fr st 1 (vs := (bK vs (k + 1)).1.map (Value.int .i64) ++ [Value.slice A41 (bK vs (k + 1)).2.length c42]) rfl rfl rfl (regsL_one _ _ _ _) (by rw [bK_17 _ _ _]; exact sz_27) rfl (by simp only [bK_17]; exact Nat.le_of_ble_eq_true rfl) rfl ?_)
          intro w st
          rw [setR_all _ _ (by first | (simp only [bK_17]; done) | (simp only [bK_17]; rfl))] at st
          replace st : St _ [] w [els CI 1 A41 (bK vs (k + 1)).2, .blk b40 ((bK vs (k + 1)).1.map (Value.int .i64) ++ [Value.slice A41 (bK vs (k + 1)).2.length c42]) 27, .blk b29 [.int .i64 2, .int .i64 ((k : Nat))] 23, ro b6 (o7 + k * 1) [.int .i64 (y)], ro b4 (o5 + k * 1) [.int .u8 ((x.toNat : Int))], els CI 1 A (bK vs k).2, row slotC 3 42 w0.heap.size (.slice As (((stI sn k).map (slotB ks)).length) cs) (((stI sn k).map (slotB ks))), row slotC 3 42 w0.heap.size (.slice Al (((loI sn k).map (slotB ks)).length) cl) (((loI sn k).map (slotB ks))), row valC 2 43 w0.heap.size (.slice Aw (((List.range k).map (wantB ks vs)).length) cw) (((List.range k).map (wantB ks vs))), .blk b3 [.int .i64 0, .int .i64 0, .slice Al (((loI sn k).map (slotB ks)).length) cl, .slice As (((stI sn k).map (slotB ks)).length) cs] 39, .blk b2 ((bK vs k).1.map (Value.int .i64) ++ [Value.slice A (bK vs k).2.length c]) 27, els C8 1 (some ⟨b4, o5, none⟩) ks, els CI 1 (some ⟨b6, o7, none⟩) vs] := st
          refine ⟨st.sub (.cons _ (.cons _ (.cons_cons _ (.cons_cons _ (.cons_cons _ (.cons_cons _ (.cons_cons _ (.cons_cons _ (.cons_cons _ (.cons_cons _ (.cons_cons _ (.cons_cons _ (.cons_cons _ .slnil))))))))))))), ?_⟩
          refine dr_take 12 rfl (by kernel_rfl) (by kernel_rfl) (by kernel_rfl) (fun _ _ _ h => h) fr rfl (st.sub (.cons _ (.cons _ (.cons_cons _ (.cons_cons _ (.cons_cons _ (.cons_cons _ (.cons_cons _ (.cons_cons _ (.cons_cons _ (.cons_cons _ (.cons_cons _ (.cons_cons _ (.cons_cons _ .slnil)))))))))))))) (fun w st => rn_assign (fr.ev rfl)) rfl rfl ?_
          intro a fr
          refine dr_done (by kernel_rfl) ?_
          refine then_n ?_
          refine wp_seq ?_
          refine wp_seq ?_
          refine reg ?_
          refine lst rfl (ow_v fr (rn_move (fr.ev rfl)) rfl rfl ?_)
          intro a fr
          refine lst rfl (ow_v fr (rn_as (rn_neq (fr.ev rfl) (fr.ev rfl)) (by rfl)) rfl rfl ?_)
          intro a fr
          refine wpList_nil ?_
          refine then_n ?_
          refine cond_f fr rfl rfl ?_
          refine wp_skip ?_
          refine then_n ?_
          refine wp_seq ?_
          refine reg ?_
          refine lst rfl (ow_v fr (rn_loadN (cs := (bK vs (k + 1)).1.map (Value.int .i64) ++ [Value.slice A41 (bK vs (k + 1)).2.length c42]) (fr.ev rfl) Try.underlying27 rfl (by rw [bK_17 _ _ _]; exact sz_27) (st.blkrange 1 rfl 0 (by rw [List.drop_zero, List.take_length]))) rfl rfl ?_)
          intro a fr
          refine lst rfl (ow_stN fr st 10 (vs := (bK vs (k + 1)).1.map (Value.int .i64) ++ [Value.slice A41 (bK vs (k + 1)).2.length c42]) rfl rfl rfl (regsL_one _ _ _ _) (by rw [bK_17 _ _ _]; exact sz_27) rfl (by simp only [bK_17]; exact Nat.le_of_ble_eq_true rfl) rfl ?_)
          intro w st
          rw [setR_all _ _ (by first | (simp only [bK_17]; done) | (simp only [bK_17]; rfl))] at st
          replace st : St _ [] w [els CI 1 A41 (bK vs (k + 1)).2, .blk b40 ((bK vs (k + 1)).1.map (Value.int .i64) ++ [Value.slice A41 (bK vs (k + 1)).2.length c42]) 27, .blk b29 [.int .i64 2, .int .i64 ((k : Nat))] 23, ro b6 (o7 + k * 1) [.int .i64 (y)], ro b4 (o5 + k * 1) [.int .u8 ((x.toNat : Int))], els CI 1 A (bK vs k).2, row slotC 3 42 w0.heap.size (.slice As (((stI sn k).map (slotB ks)).length) cs) (((stI sn k).map (slotB ks))), row slotC 3 42 w0.heap.size (.slice Al (((loI sn k).map (slotB ks)).length) cl) (((loI sn k).map (slotB ks))), row valC 2 43 w0.heap.size (.slice Aw (((List.range k).map (wantB ks vs)).length) cw) (((List.range k).map (wantB ks vs))), .blk b3 [.int .i64 0, .int .i64 0, .slice Al (((loI sn k).map (slotB ks)).length) cl, .slice As (((stI sn k).map (slotB ks)).length) cs] 39, .blk b2 ((bK vs (k + 1)).1.map (Value.int .i64) ++ [Value.slice A41 (bK vs (k + 1)).2.length c42]) 27, els C8 1 (some ⟨b4, o5, none⟩) ks, els CI 1 (some ⟨b6, o7, none⟩) vs] := st
          refine wpList_nil ?_
          refine then_n ?_
          refine wp_seq ?_
          refine dr_start (by kernel_rfl) st (.cons_cons _ (.cons_cons _ (.cons_cons _ (.cons_cons _ (.cons_cons _ (.cons_cons _ (.cons_cons _ (.cons_cons _ (.cons_cons _ (.cons_cons _ (.cons_cons _ (.cons_cons _ (.cons_cons _ .slnil))))))))))))) ?_
          intro w st
          refine dr_take 0 rfl (by kernel_rfl) (by kernel_rfl) (by kernel_rfl) (fun _ _ _ h => h) fr rfl (st.sub (.cons_cons _ (.cons_cons _ (.cons_cons _ (.cons_cons _ (.cons_cons _ (.cons_cons _ (.cons_cons _ (.cons_cons _ (.cons_cons _ (.cons_cons _ (.cons_cons _ (.cons_cons _ (.cons_cons _ .slnil)))))))))))))) (fun w st => rn_move (fr.ev rfl)) rfl rfl ?_
          intro a fr
          refine dr_take 1 rfl (by kernel_rfl) (by kernel_rfl) (by kernel_rfl) (fun _ _ _ h => h) fr rfl (st.sub (.cons_cons _ (.cons_cons _ (.cons_cons _ (.cons_cons _ (.cons_cons _ (.cons_cons _ (.cons_cons _ (.cons_cons _ (.cons_cons _ (.cons_cons _ (.cons_cons _ (.cons_cons _ (.cons_cons _ .slnil)))))))))))))) (fun w st => rn_move (fr.ev rfl)) rfl rfl ?_
          intro a fr
          refine dr_take 2 rfl (by kernel_rfl) (by kernel_rfl) (by kernel_rfl) (fun _ _ _ h => h) fr rfl (st.sub (.cons_cons _ (.cons_cons _ (.cons_cons _ (.cons_cons _ (.cons_cons _ (.cons_cons _ (.cons_cons _ (.cons_cons _ (.cons_cons _ (.cons_cons _ (.cons_cons _ (.cons_cons _ (.cons_cons _ .slnil)))))))))))))) (fun w st => rn_at (i := k) (fr.ev rfl) (fr.ev rfl) Try.underlying36 sz_5 (by omega) (by rfl)) rfl rfl ?_
          intro a fr
          refine dr_take 3 rfl (by kernel_rfl) (by kernel_rfl) (by kernel_rfl) (fun _ _ _ h => h) fr rfl (st.sub (.cons_cons _ (.cons_cons _ (.cons_cons _ (.cons_cons _ (.cons_cons _ (.cons_cons _ (.cons_cons _ (.cons_cons _ (.cons_cons _ (.cons_cons _ (.cons_cons _ (.cons_cons _ (.cons_cons _ .slnil)))))))))))))) (fun w st => rn_load (fr.ev rfl) Try.underlying5 rfl (st.rocell 4 rfl (j := 0) rfl)) rfl rfl ?_
          intro a fr
          refine dr_take 4 rfl (by kernel_rfl) (by kernel_rfl) (by kernel_rfl) (fun _ _ _ h => h) fr rfl (st.sub (.cons_cons _ (.cons_cons _ (.cons_cons _ (.cons_cons _ (.cons_cons _ (.cons_cons _ (.cons_cons _ (.cons_cons _ (.cons_cons _ (.cons_cons _ (.cons_cons _ (.cons_cons _ (.cons_cons _ .slnil)))))))))))))) (fun w st => rn_conv (c := (x.toNat : Int)) (fr.ev rfl) (by kernel_rfl) Try.underlying3 (wr_i64 _ (by omega) (by omega))) rfl rfl ?_
          intro a fr
          refine dr_take 5 rfl (by kernel_rfl) (by kernel_rfl) (by kernel_rfl) (fun _ _ _ h => h) fr rfl (st.sub (.cons_cons _ (.cons_cons _ (.cons_cons _ (.cons_cons _ (.cons_cons _ (.cons_cons _ (.cons_cons _ (.cons_cons _ (.cons_cons _ (.cons_cons _ (.cons_cons _ (.cons_cons _ (.cons_cons _ .slnil)))))))))))))) (fun w st => rn_rem (c := ((x.toNat % 3 : Nat) : Int)) (fr.ev rfl) (fr.ev rfl) (by decide) (rm_nat (a := x.toNat) (m := 3) rfl rfl)) rfl rfl ?_
          intro a fr
          refine dr_take 6 rfl (by kernel_rfl) (by kernel_rfl) (by kernel_rfl) (fun _ _ _ h => h) fr rfl (st.sub (.cons_cons _ (.cons_cons _ (.cons_cons _ (.cons_cons _ (.cons_cons _ (.cons_cons _ (.cons_cons _ (.cons_cons _ (.cons_cons _ (.cons_cons _ (.cons_cons _ (.cons_cons _ (.cons_cons _ .slnil)))))))))))))) (fun w st => rn_add (c := ((1 + x.toNat % 3 : Nat) : Int)) (fr.ev rfl) (fr.ev rfl) (wr_i64e (by omega) (by omega) (by omega))) rfl rfl ?_
          intro a fr
          refine dr_take 7 rfl (by kernel_rfl) (by kernel_rfl) (by kernel_rfl) (fun _ _ _ h => h) fr rfl (st.sub (.cons_cons _ (.cons_cons _ (.cons_cons _ (.cons_cons _ (.cons_cons _ (.cons_cons _ (.cons_cons _ (.cons_cons _ (.cons_cons _ (.cons_cons _ (.cons_cons _ (.cons_cons _ (.cons_cons _ .slnil)))))))))))))) (fun w st => rn_loadN (cs := [.int .i64 2, .int .i64 ((k : Nat))]) (fr.ev rfl) Try.underlying23 rfl sz_23 (st.blkrange 2 rfl 0 rfl)) rfl rfl ?_
          intro a fr
          refine dr_take 8 rfl (by kernel_rfl) (by kernel_rfl) (by kernel_rfl) (fun _ _ _ h => h) fr rfl (st.sub (.cons_cons _ (.cons_cons _ (.cons_cons _ (.cons_cons _ (.cons_cons _ (.cons_cons _ (.cons_cons _ (.cons_cons _ (.cons_cons _ (.cons_cons _ (.cons_cons _ (.cons_cons _ (.cons_cons _ .slnil)))))))))))))) (fun w st => rn_build (cells := #[.int .i64 (((1 + x.toNat % 3 : Nat) : Int)), .int .i64 2, .int .i64 ((k : Nat))]) (by simp only [List.map_toArray, List.map_cons, List.map_nil]; rw [fr.ev (x := .tmp 56) rfl, fr.ev (x := .tmp 57) rfl]; rfl)) rfl rfl ?_
          intro a fr
          refine dr_one 9 (by kernel_rfl) rfl rfl (ow_alloc fr st rfl zv_42 rfl rfl _ (by rfl) ?_)
          intro a w b43 fr st
          refine ⟨st.sub (.cons _ (.cons_cons _ (.cons_cons _ (.cons_cons _ (.cons_cons _ (.cons_cons _ (.cons_cons _ (.cons_cons _ (.cons_cons _ (.cons_cons _ (.cons_cons _ (.cons_cons _ (.cons_cons _ (.cons_cons _ .slnil)))))))))))))), ?_⟩
          refine dr_one 10 (by kernel_rfl) rfl rfl (ow_stN fr st 0 (vs := [.int .i64 (((1 + x.toNat % 3 : Nat) : Int)), .int .i64 2, .int .i64 ((k : Nat))]) rfl rfl rfl rfl sz_42 rfl (Nat.le_of_ble_eq_true rfl) rfl ?_)
          intro w (st : St _ [] w [.blk b43 [.int .i64 (((1 + x.toNat % 3 : Nat) : Int)), .int .i64 2, .int .i64 ((k : Nat))] 42, els CI 1 A41 (bK vs (k + 1)).2, .blk b40 ((bK vs (k + 1)).1.map (Value.int .i64) ++ [Value.slice A41 (bK vs (k + 1)).2.length c42]) 27, .blk b29 [.int .i64 2, .int .i64 ((k : Nat))] 23, ro b6 (o7 + k * 1) [.int .i64 (y)], ro b4 (o5 + k * 1) [.int .u8 ((x.toNat : Int))], els CI 1 A (bK vs k).2, row slotC 3 42 w0.heap.size (.slice As (((stI sn k).map (slotB ks)).length) cs) (((stI sn k).map (slotB ks))), row slotC 3 42 w0.heap.size (.slice Al (((loI sn k).map (slotB ks)).length) cl) (((loI sn k).map (slotB ks))), row valC 2 43 w0.heap.size (.slice Aw (((List.range k).map (wantB ks vs)).length) cw) (((List.range k).map (wantB ks vs))), .blk b3 [.int .i64 0, .int .i64 0, .slice Al (((loI sn k).map (slotB ks)).length) cl, .slice As (((stI sn k).map (slotB ks)).length) cs] 39, .blk b2 ((bK vs (k + 1)).1.map (Value.int .i64) ++ [Value.slice A41 (bK vs (k + 1)).2.length c42]) 27, els C8 1 (some ⟨b4, o5, none⟩) ks, els CI 1 (some ⟨b6, o7, none⟩) vs])
          refine ⟨st.sub (.cons _ (.cons_cons _ (.cons_cons _ (.cons_cons _ (.cons_cons _ (.cons_cons _ (.cons_cons _ (.cons_cons _ (.cons_cons _ (.cons_cons _ (.cons_cons _ (.cons_cons _ (.cons_cons _ (.cons_cons _ .slnil)))))))))))))), ?_⟩
          refine dr_done (by kernel_rfl) ?_
          refine then_n ?_
          refine wp_seq ?_
          refine dr_start (by kernel_rfl) st (.cons_cons _ (.cons_cons _ (.cons_cons _ (.cons_cons _ (.cons_cons _ (.cons_cons _ (.cons_cons _ (.cons_cons _ (.cons_cons _ (.cons _ (.cons_cons _ (.cons_cons _ (.cons_cons _ (.cons_cons _ .slnil)))))))))))))) ?_
          intro w st
          refine dr_take 0 rfl (by kernel_rfl) (by kernel_rfl) (by kernel_rfl) (fun _ _ _ h => h) fr rfl (st.sub (.cons_cons _ (.cons_cons _ (.cons_cons _ (.cons_cons _ (.cons_cons _ (.cons_cons _ (.cons_cons _ (.cons_cons _ (.cons_cons _ (.cons _ (.cons_cons _ (.cons_cons _ (.cons_cons _ (.cons_cons _ .slnil))))))))))))))) (fun w st => rn_move (fr.ev rfl)) rfl rfl ?_
          intro a fr
          refine dr_take 1 rfl (by kernel_rfl) (by kernel_rfl) (by kernel_rfl) (fun _ _ _ h => h) fr rfl (st.sub (.cons_cons _ (.cons_cons _ (.cons_cons _ (.cons_cons _ (.cons_cons _ (.cons_cons _ (.cons_cons _ (.cons_cons _ (.cons_cons _ (.cons _ (.cons_cons _ (.cons_cons _ (.cons_cons _ (.cons_cons _ .slnil))))))))))))))) (fun w st => fa_42_0 (fr.ev rfl)) rfl rfl ?_
          intro a fr
          refine dr_take 2 rfl (by kernel_rfl) (by kernel_rfl) (by kernel_rfl) (fun _ _ _ h => h) fr rfl (st.sub (.cons_cons _ (.cons_cons _ (.cons_cons _ (.cons_cons _ (.cons_cons _ (.cons_cons _ (.cons_cons _ (.cons_cons _ (.cons_cons _ (.cons _ (.cons_cons _ (.cons_cons _ (.cons_cons _ (.cons_cons _ .slnil))))))))))))))) (fun w st => rn_load (fr.ev rfl) Try.underlying3 rfl (st.cell 0 rfl rfl)) rfl rfl ?_
          intro a fr
          refine dr_take 3 rfl (by kernel_rfl) (by kernel_rfl) (by kernel_rfl) (fun _ _ _ h => h) fr rfl (st.sub (.cons_cons _ (.cons_cons _ (.cons_cons _ (.cons_cons _ (.cons_cons _ (.cons_cons _ (.cons_cons _ (.cons_cons _ (.cons_cons _ (.cons _ (.cons_cons _ (.cons_cons _ (.cons_cons _ (.cons_cons _ .slnil))))))))))))))) (fun w st => rn_move (fr.ev rfl)) rfl rfl ?_
          intro a fr
          refine dr_take 4 rfl (by kernel_rfl) (by kernel_rfl) (by kernel_rfl) (fun _ _ _ h => h) fr rfl (st.sub (.cons_cons _ (.cons_cons _ (.cons_cons _ (.cons_cons _ (.cons_cons _ (.cons_cons _ (.cons_cons _ (.cons_cons _ (.cons_cons _ (.cons _ (.cons_cons _ (.cons_cons _ (.cons_cons _ (.cons_cons _ .slnil))))))))))))))) (fun w st => rn_move (fr.ev rfl)) rfl rfl ?_
          intro a fr
          refine dr_take 5 rfl (by kernel_rfl) (by kernel_rfl) (by kernel_rfl) (fun _ _ _ h => h) fr rfl (st.sub (.cons_cons _ (.cons_cons _ (.cons_cons _ (.cons_cons _ (.cons_cons _ (.cons_cons _ (.cons_cons _ (.cons_cons _ (.cons_cons _ (.cons _ (.cons_cons _ (.cons_cons _ (.cons_cons _ (.cons_cons _ .slnil))))))))))))))) (fun w st => rn_at (i := k) (fr.ev rfl) (fr.ev rfl) Try.underlying25 sz_2 (by omega) (by rfl)) rfl rfl ?_
          intro a fr
          refine dr_take 6 rfl (by kernel_rfl) (by kernel_rfl) (by kernel_rfl) (fun _ _ _ h => h) fr rfl (st.sub (.cons_cons _ (.cons_cons _ (.cons_cons _ (.cons_cons _ (.cons_cons _ (.cons_cons _ (.cons_cons _ (.cons_cons _ (.cons_cons _ (.cons _ (.cons_cons _ (.cons_cons _ (.cons_cons _ (.cons_cons _ .slnil))))))))))))))) (fun w st => rn_load (fr.ev rfl) Try.underlying2 rfl (st.rocell 4 rfl (j := 0) rfl)) rfl rfl ?_
          intro a fr
          refine dr_take 7 rfl (by kernel_rfl) (by kernel_rfl) (by kernel_rfl) (fun _ _ _ h => h) fr rfl (st.sub (.cons_cons _ (.cons_cons _ (.cons_cons _ (.cons_cons _ (.cons_cons _ (.cons_cons _ (.cons_cons _ (.cons_cons _ (.cons_cons _ (.cons _ (.cons_cons _ (.cons_cons _ (.cons_cons _ (.cons_cons _ .slnil))))))))))))))) (fun w st => rn_build (cells := #[.int .i64 (((1 + x.toNat % 3 : Nat) : Int)), .int .i64 (y)]) (by simp only [List.map_toArray, List.map_cons, List.map_nil]; rw [fr.ev (x := .tmp 61) rfl, fr.ev (x := .tmp 65) rfl]; rfl)) rfl rfl ?_
          intro a fr
          refine dr_one 8 (by kernel_rfl) rfl rfl (ow_bslice (E := 43) fr st rfl [.int .i64 (((1 + x.toNat % 3 : Nat) : Int)), .int .i64 (y)] (fun w => by simp only [List.map_toArray, List.map_cons, List.map_nil]; rw [fr.ev (x := .tmp 66) rfl]; kernel_rfl) rfl rfl ?_)
          intro a w b44 fr st
          refine ⟨st.sub (.cons _ (.cons_cons _ (.cons_cons _ (.cons_cons _ (.cons_cons _ (.cons_cons _ (.cons_cons _ (.cons_cons _ (.cons_cons _ (.cons_cons _ (.cons _ (.cons_cons _ (.cons_cons _ (.cons_cons _ (.cons_cons _ .slnil))))))))))))))), ?_⟩
          refine dr_one 9 (by kernel_rfl) rfl rfl (ow_append1 fr st 10 0 (((((1 + x.toNat % 3 : Nat) : Int), y) : ValD)) rfl rfl rfl rfl rfl Try.underlying40 inf_43 (by rfl) (by decide) (fun _ => rfl) rfl (by (simp; have := stI_len sn k; omega)) (by unfold maxLen; (simp; have := stI_len sn k; omega)) (Nat.le_refl _) st.agr.size rfl rfl ?_)
          intro a w A45 c46 fr (st : St _ [] w [.blk b44 [.int .i64 (((1 + x.toNat % 3 : Nat) : Int)), .int .i64 (y)] 43, .blk b43 [.int .i64 (((1 + x.toNat % 3 : Nat) : Int)), .int .i64 2, .int .i64 ((k : Nat))] 42, els CI 1 A41 (bK vs (k + 1)).2, .blk b40 ((bK vs (k + 1)).1.map (Value.int .i64) ++ [Value.slice A41 (bK vs (k + 1)).2.length c42]) 27, .blk b29 [.int .i64 2, .int .i64 ((k : Nat))] 23, ro b6 (o7 + k * 1) [.int .i64 (y)], ro b4 (o5 + k * 1) [.int .u8 ((x.toNat : Int))], els CI 1 A (bK vs k).2, row slotC 3 42 w0.heap.size (.slice As (((stI sn k).map (slotB ks)).length) cs) (((stI sn k).map (slotB ks))), row slotC 3 42 w0.heap.size (.slice Al (((loI sn k).map (slotB ks)).length) cl) (((loI sn k).map (slotB ks))), row valC 2 43 w0.heap.size (.slice A45 ((((List.range k).map (wantB ks vs)) ++ [((((1 + x.toNat % 3 : Nat) : Int), y) : ValD)]).length) c46) ((((List.range k).map (wantB ks vs)) ++ [((((1 + x.toNat % 3 : Nat) : Int), y) : ValD)])), .blk b3 [.int .i64 0, .int .i64 0, .slice Al (((loI sn k).map (slotB ks)).length) cl, .slice As (((stI sn k).map (slotB ks)).length) cs] 39, .blk b2 ((bK vs (k + 1)).1.map (Value.int .i64) ++ [Value.slice A41 (bK vs (k + 1)).2.length c42]) 27, els C8 1 (some ⟨b4, o5, none⟩) ks, els CI 1 (some ⟨b6, o7, none⟩) vs])
          refine ⟨st.sub (.cons _ (.cons_cons _ (.cons_cons _ (.cons_cons _ (.cons_cons _ (.cons_cons _ (.cons_cons _ (.cons_cons _ (.cons_cons _ (.cons_cons _ (.cons _ (.cons_cons _ (.cons_cons _ (.cons_cons _ (.cons_cons _ .slnil))))))))))))))), ?_⟩
          refine dr_take 10 rfl (by kernel_rfl) (by kernel_rfl) (by kernel_rfl) (fun _ _ _ h => h) fr rfl (st.sub (.cons _ (.cons_cons _ (.cons_cons _ (.cons_cons _ (.cons_cons _ (.cons_cons _ (.cons_cons _ (.cons_cons _ (.cons_cons _ (.cons_cons _ (.cons _ (.cons_cons _ (.cons_cons _ (.cons_cons _ (.cons_cons _ .slnil)))))))))))))))) (fun w st => rn_assign (fr.ev rfl)) rfl rfl ?_
          intro a fr
          refine dr_done (by kernel_rfl) ?_
          refine then_n ?_
          refine wp_seq ?_
          refine reg ?_
          refine lst rfl (ow_v fr (rn_move (fr.ev rfl)) rfl rfl ?_)
          intro a fr
          refine lst rfl (ow_v fr (rn_move (fr.ev rfl)) rfl rfl ?_)
          intro a fr
          refine lst rfl (ow_v fr (rn_conv (c := (sn : Nat)) (fr.ev rfl) (by kernel_rfl) Try.underlying3 (wr_i64 _ (by omega) (by omega))) rfl rfl ?_)
          intro a fr
          refine lst rfl (ow_v fr (rn_as (v' := .bool false) (rn_lss (fr.ev rfl) (fr.ev rfl)) (congrArg Value.bool (decide_eq_false (by omega)))) rfl rfl ?_)
          intro a fr
          refine wpList_nil ?_
          refine then_n ?_
          refine cond_f fr rfl rfl ?_
          refine reg ?_
          refine lst rfl (ow_v fr (fa_39_2 (fr.ev rfl)) rfl rfl ?_)
          intro a fr
          refine lst rfl (ow_v fr (rn_load (fr.ev rfl) Try.underlying37 rfl (st.cell 11 rfl rfl)) rfl rfl ?_)
          intro a fr
          refine lst rfl (ow_v fr (rn_loadN (cs := [.int .i64 (((1 + x.toNat % 3 : Nat) : Int)), .int .i64 2, .int .i64 ((k : Nat))]) (fr.ev rfl) Try.underlying42 rfl sz_42 (st.blkrange 1 rfl 0 rfl)) rfl rfl ?_)
          intro a fr
          refine lst rfl (ow_bslice (E := 42) fr st rfl [.int .i64 (((1 + x.toNat % 3 : Nat) : Int)), .int .i64 2, .int .i64 ((k : Nat))] (fun w => by simp only [List.map_toArray, List.map_cons, List.map_nil]; rw [fr.ev (x := .tmp 81) rfl]; kernel_rfl) rfl rfl ?_)
          intro a w b47 fr st
          refine lst rfl (ow_append1 fr st 10 0 (((((1 + x.toNat % 3 : Nat) : Int), 2, (k : Nat)) : SlotD)) rfl rfl rfl rfl rfl Try.underlying37 inf_42 (by rfl) (by decide) (fun _ => rfl) rfl (by (simp; have := stI_len sn k; omega)) (by unfold maxLen; (simp; have := stI_len sn k; omega)) (Nat.le_refl _) st.agr.size rfl rfl ?_)
          intro a w A48 c49 fr (st : St _ [] w [.blk b47 [.int .i64 (((1 + x.toNat % 3 : Nat) : Int)), .int .i64 2, .int .i64 ((k : Nat))] 42, .blk b44 [.int .i64 (((1 + x.toNat % 3 : Nat) : Int)), .int .i64 (y)] 43, .blk b43 [.int .i64 (((1 + x.toNat % 3 : Nat) : Int)), .int .i64 2, .int .i64 ((k : Nat))] 42, els CI 1 A41 (bK vs (k + 1)).2, .blk b40 ((bK vs (k + 1)).1.map (Value.int .i64) ++ [Value.slice A41 (bK vs (k + 1)).2.length c42]) 27, .blk b29 [.int .i64 2, .int .i64 ((k : Nat))] 23, ro b6 (o7 + k * 1) [.int .i64 (y)], ro b4 (o5 + k * 1) [.int .u8 ((x.toNat : Int))], els CI 1 A (bK vs k).2, row slotC 3 42 w0.heap.size (.slice As (((stI sn k).map (slotB ks)).length) cs) (((stI sn k).map (slotB ks))), row slotC 3 42 w0.heap.size (.slice A48 ((((loI sn k).map (slotB ks)) ++ [((((1 + x.toNat % 3 : Nat) : Int), 2, (k : Nat)) : SlotD)]).length) c49) ((((loI sn k).map (slotB ks)) ++ [((((1 + x.toNat % 3 : Nat) : Int), 2, (k : Nat)) : SlotD)])), row valC 2 43 w0.heap.size (.slice A45 ((((List.range k).map (wantB ks vs)) ++ [((((1 + x.toNat % 3 : Nat) : Int), y) : ValD)]).length) c46) ((((List.range k).map (wantB ks vs)) ++ [((((1 + x.toNat % 3 : Nat) : Int), y) : ValD)])), .blk b3 [.int .i64 0, .int .i64 0, .slice Al (((loI sn k).map (slotB ks)).length) cl, .slice As (((stI sn k).map (slotB ks)).length) cs] 39, .blk b2 ((bK vs (k + 1)).1.map (Value.int .i64) ++ [Value.slice A41 (bK vs (k + 1)).2.length c42]) 27, els C8 1 (some ⟨b4, o5, none⟩) ks, els CI 1 (some ⟨b6, o7, none⟩) vs])
          refine lst rfl (ow_v fr (fa_39_2 (fr.ev rfl)) rfl rfl ?_)
          intro a fr
          refine lst rfl (ow_st fr st 12 rfl rfl rfl rfl sz_37 rfl rfl rfl ?_)
          intro w (st : St _ [] w [.blk b47 [.int .i64 (((1 + x.toNat % 3 : Nat) : Int)), .int .i64 2, .int .i64 ((k : Nat))] 42, .blk b44 [.int .i64 (((1 + x.toNat % 3 : Nat) : Int)), .int .i64 (y)] 43, .blk b43 [.int .i64 (((1 + x.toNat % 3 : Nat) : Int)), .int .i64 2, .int .i64 ((k : Nat))] 42, els CI 1 A41 (bK vs (k + 1)).2, .blk b40 ((bK vs (k + 1)).1.map (Value.int .i64) ++ [Value.slice A41 (bK vs (k + 1)).2.length c42]) 27, .blk b29 [.int .i64 2, .int .i64 ((k : Nat))] 23, ro b6 (o7 + k * 1) [.int .i64 (y)], ro b4 (o5 + k * 1) [.int .u8 ((x.toNat : Int))], els CI 1 A (bK vs k).2, row slotC 3 42 w0.heap.size (.slice As (((stI sn k).map (slotB ks)).length) cs) (((stI sn k).map (slotB ks))), row slotC 3 42 w0.heap.size (.slice A48 ((((loI sn k).map (slotB ks)) ++ [((((1 + x.toNat % 3 : Nat) : Int), 2, (k : Nat)) : SlotD)]).length) c49) ((((loI sn k).map (slotB ks)) ++ [((((1 + x.toNat % 3 : Nat) : Int), 2, (k : Nat)) : SlotD)])), row valC 2 43 w0.heap.size (.slice A45 ((((List.range k).map (wantB ks vs)) ++ [((((1 + x.toNat % 3 : Nat) : Int), y) : ValD)]).length) c46) ((((List.range k).map (wantB ks vs)) ++ [((((1 + x.toNat % 3 : Nat) : Int), y) : ValD)])), .blk b3 [.int .i64 0, .int .i64 0, .slice A48 ((((loI sn k).map (slotB ks)) ++ [((((1 + x.toNat % 3 : Nat) : Int), 2, (k : Nat)) : SlotD)]).length) c49, .slice As (((stI sn k).map (slotB ks)).length) cs] 39, .blk b2 ((bK vs (k + 1)).1.map (Value.int .i64) ++ [Value.slice A41 (bK vs (k + 1)).2.length c42]) 27, els C8 1 (some ⟨b4, o5, none⟩) ks, els CI 1 (some ⟨b6, o7, none⟩) vs])
          refine wpList_nil ?_
          refine blk_n ?_
          refine then_n ?_
          refine reg ?_
          refine lst rfl (ow_v fr (rn_add (c := ((k + 1 : Nat) : Int)) (fr.ev rfl) (fr.ev rfl) (wr_i64e (by omega) (by omega) (by omega))) rfl rfl ?_)
          intro a fr
          refine lst rfl (ow_v fr (rn_move (fr.ev rfl)) rfl rfl ?_)
          intro a fr
          refine wpList_nil ?_
          have eql_ : (((loI sn k).map (slotB ks)) ++ [((((1 + x.toNat % 3 : Nat) : Int), 2, (k : Nat)) : SlotD)]) = (loI sn (k + 1)).map (slotB ks) := by rw [(stI_n hs).2, List.map_append, List.map_singleton, qs]
          (try rw [eql_] at fr); (try rw [eql_] at st)
          have eqs_ : (stI sn k) = stI sn (k + 1) := (stI_n hs).1.symm
          (try rw [eqs_] at fr); (try rw [eqs_] at st)
          have eqw_ : (((List.range k).map (wantB ks vs)) ++ [((((1 + x.toNat % 3 : Nat) : Int), y) : ValD)]) = (List.range (k + 1)).map (wantB ks vs) := by rw [List.range_succ, List.map_append, List.map_singleton, qw]
          (try rw [eqw_] at fr); (try rw [eqw_] at st)
          refine then_n ⟨m - (k + 1), ?_, k + 1, A41, As, A48, A45, c42, cs, c49, c46, (by omega), (hn1), rfl, fr.prune ⟨rfl, rfl, rfl, rfl, rfl, rfl, rfl, rfl, trivial⟩, st.sub (.cons _ (.cons _ (.cons _ (.cons_cons _ (.cons _ (.cons _ (.cons _ (.cons _ (.cons _ (.cons_cons _ (.cons_cons _ (.cons_cons _ (.cons_cons _ (.cons_cons _ (.cons_cons _ (.cons_cons _ .slnil))))))))))))))))⟩
          omega
    · by_cases hs : k < sn
      · have qs : slotB ks k = (((1 + x.toNat % 3 : Nat) : Int), 1, ((k / 2 : Nat) : Int)) := by unfold slotB; rw [qk, locB_even h2]
        have ql : locB k = (1, ((k / 2 : Nat) : Int)) := locB_even h2
        refine wp_seq ?_
        refine reg ?_
        refine lst rfl (ow_v fr (rn_as (v' := .bool true) (rn_lss (fr.ev rfl) (fr.ev rfl)) (congrArg Value.bool (decide_eq_true (by omega)))) rfl rfl ?_)
        intro a fr
        refine wpList_nil ?_
        refine then_n ?_
        refine wp_seq ?_
        refine cond_t fr rfl rfl ?_
        refine wp_skip ?_
        refine then_n ?_
        refine wp_seq ?_
        refine wp_block ?_
        refine wp_seq ?_
        refine reg ?_
        refine lst rfl (ow_v fr (rn_move (fr.ev rfl)) rfl rfl ?_)
        intro a fr
        refine lst rfl (ow_v fr (rn_assign (fr.ev rfl)) rfl rfl ?_)
        intro a fr
        refine wpList_nil ?_
        refine then_n ?_
        refine wp_seq ?_
        refine reg ?_
        refine lst rfl (ow_v fr (rn_move (fr.ev rfl)) rfl rfl ?_)
        intro a fr
        refine lst rfl (ow_v fr (rn_quo (c := ((k / 2 : Nat) : Int)) (fr.ev rfl) (fr.ev rfl) (by decide) (wdv (a := k) (m := 2) rfl rfl (by omega))) rfl rfl ?_)
        intro a fr
        refine lst rfl (ow_v fr (rn_build (cells := #[.int .i64 1, .int .i64 (((k / 2 : Nat) : Int))]) (by simp only [List.map_toArray, List.map_cons, List.map_nil]; rw [fr.ev (x := .tmp 30) rfl]; rfl)) rfl rfl ?_)
        intro a fr
        refine lst rfl (ow_alloc fr st rfl zv_23 rfl rfl _ (by rfl) ?_)
        intro a w b50 fr st
        refine lst rfl (ow_stN fr st 0 (vs := [.int .i64 1, .int .i64 (((k / 2 : Nat) : Int))]) rfl rfl rfl rfl sz_23 rfl (Nat.le_of_ble_eq_true rfl) rfl ?_)
        intro w (st : St _ [] w [.blk b50 [.int .i64 1, .int .i64 (((k / 2 : Nat) : Int))] 23, ro b6 (o7 + k * 1) [.int .i64 (y)], ro b4 (o5 + k * 1) [.int .u8 ((x.toNat : Int))], els CI 1 A (bK vs k).2, row slotC 3 42 w0.heap.size (.slice As (((stI sn k).map (slotB ks)).length) cs) (((stI sn k).map (slotB ks))), row slotC 3 42 w0.heap.size (.slice Al (((loI sn k).map (slotB ks)).length) cl) (((loI sn k).map (slotB ks))), row valC 2 43 w0.heap.size (.slice Aw (((List.range k).map (wantB ks vs)).length) cw) (((List.range k).map (wantB ks vs))), .blk b3 [.int .i64 0, .int .i64 0, .slice Al (((loI sn k).map (slotB ks)).length) cl, .slice As (((stI sn k).map (slotB ks)).length) cs] 39, .blk b2 ((bK vs k).1.map (Value.int .i64) ++ [Value.slice A (bK vs k).2.length c]) 27, els C8 1 (some ⟨b4, o5, none⟩) ks, els CI 1 (some ⟨b6, o7, none⟩) vs])
        refine wpList_nil ?_
        refine then_n ?_
        refine wp_seq ?_
        refine wp_seq ?_
        refine reg ?_
        refine lst rfl (ow_v fr (rn_move (fr.ev rfl)) rfl rfl ?_)
        intro a fr
        refine lst rfl (ow_v fr (rn_rem (c := ((k % 2 : Nat) : Int)) (fr.ev rfl) (fr.ev rfl) (by decide) (rm_nat (a := k) (m := 2) rfl rfl)) rfl rfl ?_)
        intro a fr
        refine lst rfl (ow_v fr (rn_as (v' := .bool false) (rn_eql (fr.ev rfl) (fr.ev rfl)) (congrArg Value.bool (by simp; omega))) rfl rfl ?_)
        intro a fr
        refine wpList_nil ?_
        refine then_n ?_
        refine cond_f fr rfl rfl ?_
        refine wp_skip ?_
        refine then_n ?_
        refine wp_seq ?_
        refine dr_start (by kernel_rfl) st (.cons_cons _ (.cons_cons _ (.cons_cons _ (.cons_cons _ (.cons_cons _ (.cons_cons _ (.cons_cons _ (.cons_cons _ (.cons_cons _ (.cons_cons _ (.cons_cons _ .slnil))))))))))) ?_
        intro w st
        refine dr_take 0 rfl (by kernel_rfl) (by kernel_rfl) (by kernel_rfl) (fun _ _ _ h => h) fr rfl (st.sub (.cons_cons _ (.cons_cons _ (.cons_cons _ (.cons_cons _ (.cons_cons _ (.cons_cons _ (.cons_cons _ (.cons_cons _ (.cons_cons _ (.cons_cons _ (.cons_cons _ .slnil)))))))))))) (fun w st => rn_loadN (cs := [.int .i64 1, .int .i64 (((k / 2 : Nat) : Int))]) (fr.ev rfl) Try.underlying23 rfl sz_23 (st.blkrange 0 rfl 0 rfl)) rfl rfl ?_
        intro a fr
        refine dr_take 1 rfl (by kernel_rfl) (by kernel_rfl) (by kernel_rfl) (fun _ _ _ h => h) fr rfl (st.sub (.cons_cons _ (.cons_cons _ (.cons_cons _ (.cons_cons _ (.cons_cons _ (.cons_cons _ (.cons_cons _ (.cons_cons _ (.cons_cons _ (.cons_cons _ (.cons_cons _ .slnil)))))))))))) (fun w st => rn_move (fr.ev rfl)) rfl rfl ?_
        intro a fr
        refine dr_take 2 rfl (by kernel_rfl) (by kernel_rfl) (by kernel_rfl) (fun _ _ _ h => h) fr rfl (st.sub (.cons_cons _ (.cons_cons _ (.cons_cons _ (.cons_cons _ (.cons_cons _ (.cons_cons _ (.cons_cons _ (.cons_cons _ (.cons_cons _ (.cons_cons _ (.cons_cons _ .slnil)))))))))))) (fun w st => rn_move (fr.ev rfl)) rfl rfl ?_
        intro a fr
        refine dr_take 3 rfl (by kernel_rfl) (by kernel_rfl) (by kernel_rfl) (fun _ _ _ h => h) fr rfl (st.sub (.cons_cons _ (.cons_cons _ (.cons_cons _ (.cons_cons _ (.cons_cons _ (.cons_cons _ (.cons_cons _ (.cons_cons _ (.cons_cons _ (.cons_cons _ (.cons_cons _ .slnil)))))))))))) (fun w st => rn_at (i := k) (fr.ev rfl) (fr.ev rfl) Try.underlying25 sz_2 (by omega) (by rfl)) rfl rfl ?_
        intro a fr
        refine dr_take 4 rfl (by kernel_rfl) (by kernel_rfl) (by kernel_rfl) (fun _ _ _ h => h) fr rfl (st.sub (.cons_cons _ (.cons_cons _ (.cons_cons _ (.cons_cons _ (.cons_cons _ (.cons_cons _ (.cons_cons _ (.cons_cons _ (.cons_cons _ (.cons_cons _ (.cons_cons _ .slnil)))))))))))) (fun w st => rn_load (fr.ev rfl) Try.underlying2 rfl (st.rocell 1 rfl (j := 0) rfl)) rfl rfl ?_
        intro a fr
        refine dr_take 5 rfl (by kernel_rfl) (by kernel_rfl) (by kernel_rfl) (fun _ _ _ h => h) fr rfl (st.sub (.cons_cons _ (.cons_cons _ (.cons_cons _ (.cons_cons _ (.cons_cons _ (.cons_cons _ (.cons_cons _ (.cons_cons _ (.cons_cons _ (.cons_cons _ (.cons_cons _ .slnil)))))))))))) (fun w st => rn_loadN (cs := (bK vs k).1.map (Value.int .i64) ++ [Value.slice A (bK vs k).2.length c]) (fr.ev rfl) Try.underlying27 rfl (by rw [bK_17 _ _ _]; exact sz_27) (st.blkrange 8 rfl 0 (by rw [List.drop_zero, List.take_length]))) rfl rfl ?_
        intro a fr
        refine dr_two 6 10 (by kernel_rfl) rfl rfl rfl rfl ?_ ?_
        · refine ow_call fr rfl rfl Try.call11 (put_next vs k (by omega) 1 ((k / 2 : Nat) : Int) y ql qy A c hnA _ (st.get 3 rfl).1) rfl rfl ?_
          rintro e w ⟨A51, c52, rfl, he1, hn1, hf1, hag⟩
          refine ⟨_, rfl, ?_⟩
          intro a fr
          have st := st.call_els (C := CI) (sz := 1) hag (by decide) CI_len he1 hf1
          clear he1 hf1 hag
          refine ⟨st.sub (.cons _ (.cons_cons _ (.cons_cons _ (.cons_cons _ (.cons_cons _ (.cons_cons _ (.cons_cons _ (.cons_cons _ (.cons_cons _ (.cons_cons _ (.cons_cons _ (.cons_cons _ .slnil)))))))))))), ?_⟩
          refine dr_take 7 rfl (by kernel_rfl) (by kernel_rfl) (by kernel_rfl) (fun _ _ _ h => h) fr rfl (st.sub (.cons _ (.cons_cons _ (.cons_cons _ (.cons_cons _ (.cons_cons _ (.cons_cons _ (.cons_cons _ (.cons_cons _ (.cons_cons _ (.cons_cons _ (.cons_cons _ (.cons_cons _ .slnil))))))))))))) (fun w st => rn_move (fr.ev rfl)) rfl rfl ?_
          intro a fr
          refine dr_take 8 rfl (by kernel_rfl) (by kernel_rfl) (by kernel_rfl) (fun _ _ _ h => h) fr rfl (st.sub (.cons _ (.cons_cons _ (.cons_cons _ (.cons_cons _ (.cons_cons _ (.cons_cons _ (.cons_cons _ (.cons_cons _ (.cons_cons _ (.cons_cons _ (.cons_cons _ (.cons_cons _ .slnil))))))))))))) (fun w st => rn_extract (fr.ev rfl) rfl) rfl rfl ?_
          intro a fr
          refine dr_take 9 rfl (by kernel_rfl) (by kernel_rfl) (by kernel_rfl) (fun _ _ _ h => h) fr rfl (st.sub (.cons _ (.cons_cons _ (.cons_cons _ (.cons_cons _ (.cons_cons _ (.cons_cons _ (.cons_cons _ (.cons_cons _ (.cons_cons _ (.cons_cons _ (.cons_cons _ (.cons_cons _ .slnil))))))))))))) (fun w st => rn_extract (fr.ev rfl) rfl) rfl rfl ?_
          intro a fr
          refine dr_one 10 (by kernel_rfl) rfl rfl (ow_alloc fr st rfl zv_27 rfl rfl _ (by rfl) ?_)
          intro a w b53 fr st
          refine ⟨st.sub (.cons _ (.cons _ (.cons_cons _ (.cons_cons _ (.cons_cons _ (.cons_cons _ (.cons_cons _ (.cons_cons _ (.cons_cons _ (.cons_cons _ (.cons_cons _ (.cons_cons _ (.cons_cons _ .slnil))))))))))))), ?_⟩
          refine dr_one 11 (by kernel_rfl) rfl rfl (ow_stN fr st 0 (vs := (bK vs (k + 1)).1.map (Value.int .i64) ++ [Value.slice A51 (bK vs (k + 1)).2.length c52]) rfl rfl rfl (regsL_one _ _ _ _) (by rw [bK_17 _ _ _]; exact sz_27) rfl (by simp only [bK_17]; exact Nat.le_of_ble_eq_true rfl) rfl ?_)
          intro w st
          rw [setR_all _ _ (by first | (simp only [bK_17]; done) | (simp only [bK_17]; rfl))] at st
          replace st : St _ [] w [.blk b53 ((bK vs (k + 1)).1.map (Value.int .i64) ++ [Value.slice A51 (bK vs (k + 1)).2.length c52]) 27, els CI 1 A51 (bK vs (k + 1)).2, .blk b50 [.int .i64 1, .int .i64 (((k / 2 : Nat) : Int))] 23, ro b6 (o7 + k * 1) [.int .i64 (y)], ro b4 (o5 + k * 1) [.int .u8 ((x.toNat : Int))], els CI 1 A (bK vs k).2, row slotC 3 42 w0.heap.size (.slice As (((stI sn k).map (slotB ks)).length) cs) (((stI sn k).map (slotB ks))), row slotC 3 42 w0.heap.size (.slice Al (((loI sn k).map (slotB ks)).length) cl) (((loI sn k).map (slotB ks))), row valC 2 43 w0.heap.size (.slice Aw (((List.range k).map (wantB ks vs)).length) cw) (((List.range k).map (wantB ks vs))), .blk b3 [.int .i64 0, .int .i64 0, .slice Al (((loI sn k).map (slotB ks)).length) cl, .slice As (((stI sn k).map (slotB ks)).length) cs] 39, .blk b2 ((bK vs k).1.map (Value.int .i64) ++ [Value.slice A (bK vs k).2.length c]) 27, els C8 1 (some ⟨b4, o5, none⟩) ks, els CI 1 (some ⟨b6, o7, none⟩) vs] := st
          refine ⟨st.sub (.cons _ (.cons _ (.cons_cons _ (.cons_cons _ (.cons_cons _ (.cons_cons _ (.cons_cons _ (.cons_cons _ (.cons_cons _ (.cons_cons _ (.cons_cons _ (.cons_cons _ (.cons_cons _ .slnil))))))))))))), ?_⟩
          refine dr_take 12 rfl (by kernel_rfl) (by kernel_rfl) (by kernel_rfl) (fun _ _ _ h => h) fr rfl (st.sub (.cons _ (.cons _ (.cons_cons _ (.cons_cons _ (.cons_cons _ (.cons_cons _ (.cons_cons _ (.cons_cons _ (.cons_cons _ (.cons_cons _ (.cons_cons _ (.cons_cons _ (.cons_cons _ .slnil)))))))))))))) (fun w st => rn_assign (fr.ev rfl)) rfl rfl ?_
          intro a fr
          refine dr_done (by kernel_rfl) ?_
          refine then_n ?_
          refine wp_seq ?_
          refine wp_seq ?_
          refine reg ?_
          refine lst rfl (ow_v fr (rn_move (fr.ev rfl)) rfl rfl ?_)
          intro a fr
          refine lst rfl (ow_v fr (rn_as (rn_neq (fr.ev rfl) (fr.ev rfl)) (by rfl)) rfl rfl ?_)
          intro a fr
          refine wpList_nil ?_
          refine then_n ?_
          refine cond_f fr rfl rfl ?_
          refine wp_skip ?_
          refine then_n ?_
          refine wp_seq ?_
          refine reg ?_
          refine lst rfl (ow_v fr (rn_loadN (cs := (bK vs (k + 1)).1.map (Value.int .i64) ++ [Value.slice A51 (bK vs (k + 1)).2.length c52]) (fr.ev rfl) Try.underlying27 rfl (by rw [bK_17 _ _ _]; exact sz_27) (st.blkrange 0 rfl 0 (by rw [List.drop_zero, List.take_length]))) rfl rfl ?_)
          intro a fr
          refine lst rfl (ow_stN fr st 10 (vs := (bK vs (k + 1)).1.map (Value.int .i64) ++ [Value.slice A51 (bK vs (k + 1)).2.length c52]) rfl rfl rfl (regsL_one _ _ _ _) (by rw [bK_17 _ _ _]; exact sz_27) rfl (by simp only [bK_17]; exact Nat.le_of_ble_eq_true rfl) rfl ?_)
          intro w st
          rw [setR_all _ _ (by first | (simp only [bK_17]; done) | (simp only [bK_17]; rfl))] at st
          replace st : St _ [] w [.blk b53 ((bK vs (k + 1)).1.map (Value.int .i64) ++ [Value.slice A51 (bK vs (k + 1)).2.length c52]) 27, els CI 1 A51 (bK vs (k + 1)).2, .blk b50 [.int .i64 1, .int .i64 (((k / 2 : Nat) : Int))] 23, ro b6 (o7 + k * 1) [.int .i64 (y)], ro b4 (o5 + k * 1) [.int .u8 ((x.toNat : Int))], els CI 1 A (bK vs k).2, row slotC 3 42 w0.heap.size (.slice As (((stI sn k).map (slotB ks)).length) cs) (((stI sn k).map (slotB ks))), row slotC 3 42 w0.heap.size (.slice Al (((loI sn k).map (slotB ks)).length) cl) (((loI sn k).map (slotB ks))), row valC 2 43 w0.heap.size (.slice Aw (((List.range k).map (wantB ks vs)).length) cw) (((List.range k).map (wantB ks vs))), .blk b3 [.int .i64 0, .int .i64 0, .slice Al (((loI sn k).map (slotB ks)).length) cl, .slice As (((stI sn k).map (slotB ks)).length) cs] 39, .blk b2 ((bK vs (k + 1)).1.map (Value.int .i64) ++ [Value.slice A51 (bK vs (k + 1)).2.length c52]) 27, els C8 1 (some ⟨b4, o5, none⟩) ks, els CI 1 (some ⟨b6, o7, none⟩) vs] := st
          refine wpList_nil ?_
          refine then_n ?_
          refine wp_seq ?_
          refine dr_start (by kernel_rfl) st (.cons_cons _ (.cons_cons _ (.cons_cons _ (.cons_cons _ (.cons_cons _ (.cons_cons _ (.cons_cons _ (.cons_cons _ (.cons_cons _ (.cons_cons _ (.cons_cons _ (.cons_cons _ (.cons_cons _ .slnil))))))))))))) ?_
          intro w st
          refine dr_take 0 rfl (by kernel_rfl) (by kernel_rfl) (by kernel_rfl) (fun _ _ _ h => h) fr rfl (st.sub (.cons_cons _ (.cons_cons _ (.cons_cons _ (.cons_cons _ (.cons_cons _ (.cons_cons _ (.cons_cons _ (.cons_cons _ (.cons_cons _ (.cons_cons _ (.cons_cons _ (.cons_cons _ (.cons_cons _ .slnil)))))))))))))) (fun w st => rn_move (fr.ev rfl)) rfl rfl ?_
          intro a fr
          refine dr_take 1 rfl (by kernel_rfl) (by kernel_rfl) (by kernel_rfl) (fun _ _ _ h => h) fr rfl (st.sub (.cons_cons _ (.cons_cons _ (.cons_cons _ (.cons_cons _ (.cons_cons _ (.cons_cons _ (.cons_cons _ (.cons_cons _ (.cons_cons _ (.cons_cons _ (.cons_cons _ (.cons_cons _ (.cons_cons _ .slnil)))))))))))))) (fun w st => rn_move (fr.ev rfl)) rfl rfl ?_
          intro a fr
          refine dr_take 2 rfl (by kernel_rfl) (by kernel_rfl) (by kernel_rfl) (fun _ _ _ h => h) fr rfl (st.sub (.cons_cons _ (.cons_cons _ (.cons_cons _ (.cons_cons _ (.cons_cons _ (.cons_cons _ (.cons_cons _ (.cons_cons _ (.cons_cons _ (.cons_cons _ (.cons_cons _ (.cons_cons _ (.cons_cons _ .slnil)))))))))))))) (fun w st => rn_at (i := k) (fr.ev rfl) (fr.ev rfl) Try.underlying36 sz_5 (by omega) (by rfl)) rfl rfl ?_
          intro a fr
          refine dr_take 3 rfl (by kernel_rfl) (by kernel_rfl) (by kernel_rfl) (fun _ _ _ h => h) fr rfl (st.sub (.cons_cons _ (.cons_cons _ (.cons_cons _ (.cons_cons _ (.cons_cons _ (.cons_cons _ (.cons_cons _ (.cons_cons _ (.cons_cons _ (.cons_cons _ (.cons_cons _ (.cons_cons _ (.cons_cons _ .slnil)))))))))))))) (fun w st => rn_load (fr.ev rfl) Try.underlying5 rfl (st.rocell 4 rfl (j := 0) rfl)) rfl rfl ?_
          intro a fr
          refine dr_take 4 rfl (by kernel_rfl) (by kernel_rfl) (by kernel_rfl) (fun _ _ _ h => h) fr rfl (st.sub (.cons_cons _ (.cons_cons _ (.cons_cons _ (.cons_cons _ (.cons_cons _ (.cons_cons _ (.cons_cons _ (.cons_cons _ (.cons_cons _ (.cons_cons _ (.cons_cons _ (.cons_cons _ (.cons_cons _ .slnil)))))))))))))) (fun w st => rn_conv (c := (x.toNat : Int)) (fr.ev rfl) (by kernel_rfl) Try.underlying3 (wr_i64 _ (by omega) (by omega))) rfl rfl ?_
          intro a fr
          refine dr_take 5 rfl (by kernel_rfl) (by kernel_rfl) (by kernel_rfl) (fun _ _ _ h => h) fr rfl (st.sub (.cons_cons _ (.cons_cons _ (.cons_cons _ (.cons_cons _ (.cons_cons _ (.cons_cons _ (.cons_cons _ (.cons_cons _ (.cons_cons _ (.cons_cons _ (.cons_cons _ (.cons_cons _ (.cons_cons _ .slnil)))))))))))))) (fun w st => rn_rem (c := ((x.toNat % 3 : Nat) : Int)) (fr.ev rfl) (fr.ev rfl) (by decide) (rm_nat (a := x.toNat) (m := 3) rfl rfl)) rfl rfl ?_
          intro a fr
          refine dr_take 6 rfl (by kernel_rfl) (by kernel_rfl) (by kernel_rfl) (fun _ _ _ h => h) fr rfl (st.sub (.cons_cons _ (.cons_cons _ (.cons_cons _ (.cons_cons _ (.cons_cons _ (.cons_cons _ (.cons_cons _ (.cons_cons _ (.cons_cons _ (.cons_cons _ (.cons_cons _ (.cons_cons _ (.cons_cons _ .slnil)))))))))))))) (fun w st => rn_add (c := ((1 + x.toNat % 3 : Nat) : Int)) (fr.ev rfl) (fr.ev rfl) (wr_i64e (by omega) (by omega) (by omega))) rfl rfl ?_
          intro a fr
          refine dr_take 7 rfl (by kernel_rfl) (by kernel_rfl) (by kernel_rfl) (fun _ _ _ h => h) fr rfl (st.sub (.cons_cons _ (.cons_cons _ (.cons_cons _ (.cons_cons _ (.cons_cons _ (.cons_cons _ (.cons_cons _ (.cons_cons _ (.cons_cons _ (.cons_cons _ (.cons_cons _ (.cons_cons _ (.cons_cons _ .slnil)))))))))))))) (fun w st => rn_loadN (cs := [.int .i64 1, .int .i64 (((k / 2 : Nat) : Int))]) (fr.ev rfl) Try.underlying23 rfl sz_23 (st.blkrange 2 rfl 0 rfl)) rfl rfl ?_
          intro a fr
          refine dr_take 8 rfl (by kernel_rfl) (by kernel_rfl) (by kernel_rfl) (fun _ _ _ h => h) fr rfl (st.sub (.cons_cons _ (.cons_cons _ (.cons_cons _ (.cons_cons _ (.cons_cons _ (.cons_cons _ (.cons_cons _ (.cons_cons _ (.cons_cons _ (.cons_cons _ (.cons_cons _ (.cons_cons _ (.cons_cons _ .slnil)))))))))))))) (fun w st => rn_build (cells := #[.int .i64 (((1 + x.toNat % 3 : Nat) : Int)), .int .i64 1, .int .i64 (((k / 2 : Nat) : Int))]) (by simp only [List.map_toArray, List.map_cons, List.map_nil]; rw [fr.ev (x := .tmp 56) rfl, fr.ev (x := .tmp 57) rfl]; rfl)) rfl rfl ?_
          intro a fr
          refine dr_one 9 (by kernel_rfl) rfl rfl (ow_alloc fr st rfl zv_42 rfl rfl _ (by rfl) ?_)
          intro a w b54 fr st
          refine ⟨st.sub (.cons _ (.cons_cons _ (.cons_cons _ (.cons_cons _ (.cons_cons _ (.cons_cons _ (.cons_cons _ (.cons_cons _ (.cons_cons _ (.cons_cons _ (.cons_cons _ (.cons_cons _ (.cons_cons _ (.cons_cons _ .slnil)))))))))))))), ?_⟩
          refine dr_one 10 (by kernel_rfl) rfl rfl (ow_stN fr st 0 (vs := [.int .i64 (((1 + x.toNat % 3 : Nat) : Int)), .int .i64 1, .int .i64 (((k / 2 : Nat) : Int))]) rfl rfl rfl rfl sz_42 rfl (Nat.le_of_ble_eq_true rfl) rfl ?_)
          intro w (st : St _ [] w [.blk b54 [.int .i64 (((1 + x.toNat % 3 : Nat) : Int)), .int .i64 1, .int .i64 (((k / 2 : Nat) : Int))] 42, .blk b53 ((bK vs (k + 1)).1.map (Value.int .i64) ++ [Value.slice A51 (bK vs (k + 1)).2.length c52]) 27, els CI 1 A51 (bK vs (k + 1)).2, .blk b50 [.int .i64 1, .int .i64 (((k / 2 : Nat) : Int))] 23, ro b6 (o7 + k * 1) [.int .i64 (y)], ro b4 (o5 + k * 1) [.int .u8 ((x.toNat : Int))], els CI 1 A (bK vs k).2, row slotC 3 42 w0.heap.size (.slice As (((stI sn k).map (slotB ks)).length) cs) (((stI sn k).map (slotB ks))), row slotC 3 42 w0.heap.size (.slice Al (((loI sn k).map (slotB ks)).length) cl) (((loI sn k).map (slotB ks))), row valC 2 43 w0.heap.size (.slice Aw (((List.range k).map (wantB ks vs)).length) cw) (((List.range k).map (wantB ks vs))), .blk b3 [.int .i64 0, .int .i64 0, .slice Al (((loI sn k).map (slotB ks)).length) cl, .slice As (((stI sn k).map (slotB ks)).length) cs] 39, .blk b2 ((bK vs (k + 1)).1.map (Value.int .i64) ++ [Value.slice A51 (bK vs (k + 1)).2.length c52]) 27, els C8 1 (some ⟨b4, o5, none⟩) ks, els CI 1 (some ⟨b6, o7, none⟩) vs])
          refine ⟨st.sub (.cons _ (.cons_cons _ (.cons_cons _ (.cons_cons _ (.cons_cons _ (.cons_cons _ (.cons_cons _ (.cons_cons _ (.cons_cons _ (.cons_cons _ (.cons_cons _ (.cons_cons _ (.cons_cons _ (.cons_cons _ .slnil)))))))))))))), ?_⟩
          refine dr_done (by kernel_rfl) ?_
          refine then_n ?_
          refine wp_seq ?_
          refine dr_start (by kernel_rfl) st (.cons_cons _ (.cons_cons _ (.cons_cons _ (.cons_cons _ (.cons_cons _ (.cons_cons _ (.cons_cons _ (.cons_cons _ (.cons_cons _ (.cons _ (.cons_cons _ (.cons_cons _ (.cons_cons _ (.cons_cons _ .slnil)))))))))))))) ?_
          intro w st
          refine dr_take 0 rfl (by kernel_rfl) (by kernel_rfl) (by kernel_rfl) (fun _ _ _ h => h) fr rfl (st.sub (.cons_cons _ (.cons_cons _ (.cons_cons _ (.cons_cons _ (.cons_cons _ (.cons_cons _ (.cons_cons _ (.cons_cons _ (.cons_cons _ (.cons _ (.cons_cons _ (.cons_cons _ (.cons_cons _ (.cons_cons _ .slnil))))))))))))))) (fun w st => rn_move (fr.ev rfl)) rfl rfl ?_
          intro a fr
          refine dr_take 1 rfl (by kernel_rfl) (by kernel_rfl) (by kernel_rfl) (fun _ _ _ h => h) fr rfl (st.sub (.cons_cons _ (.cons_cons _ (.cons_cons _ (.cons_cons _ (.cons_cons _ (.cons_cons _ (.cons_cons _ (.cons_cons _ (.cons_cons _ (.cons _ (.cons_cons _ (.cons_cons _ (.cons_cons _ (.cons_cons _ .slnil))))))))))))))) (fun w st => fa_42_0 (fr.ev rfl)) rfl rfl ?_
          intro a fr
          refine dr_take 2 rfl (by kernel_rfl) (by kernel_rfl) (by kernel_rfl) (fun _ _ _ h => h) fr rfl (st.sub (.cons_cons _ (.cons_cons _ (.cons_cons _ (.cons_cons _ (.cons_cons _ (.cons_cons _ (.cons_cons _ (.cons_cons _ (.cons_cons _ (.cons _ (.cons_cons _ (.cons_cons _ (.cons_cons _ (.cons_cons _ .slnil))))))))))))))) (fun w st => rn_load (fr.ev rfl) Try.underlying3 rfl (st.cell 0 rfl rfl)) rfl rfl ?_
          intro a fr
          refine dr_take 3 rfl (by kernel_rfl) (by kernel_rfl) (by kernel_rfl) (fun _ _ _ h => h) fr rfl (st.sub (.cons_cons _ (.cons_cons _ (.cons_cons _ (.cons_cons _ (.cons_cons _ (.cons_cons _ (.cons_cons _ (.cons_cons _ (.cons_cons _ (.cons _ (.cons_cons _ (.cons_cons _ (.cons_cons _ (.cons_cons _ .slnil))))))))))))))) (fun w st => rn_move (fr.ev rfl)) rfl rfl ?_
          intro a fr
          refine dr_take 4 rfl (by kernel_rfl) (by kernel_rfl) (by kernel_rfl) (fun _ _ _ h => h) fr rfl (st.sub (.cons_cons _ (.cons_cons _ (.cons_cons _ (.cons_cons _ (.cons_cons _ (.cons_cons _ (.cons_cons _ (.cons_cons _ (.cons_cons _ (.cons _ (.cons_cons _ (.cons_cons _ (.cons_cons _ (.cons_cons _ .slnil))))))))))))))) (fun w st => rn_move (fr.ev rfl)) rfl rfl ?_
          intro a fr
          refine dr_take 5 rfl (by kernel_rfl) (by kernel_rfl) (by kernel_rfl) (fun _ _ _ h => h) fr rfl (st.sub (.cons_cons _ (.cons_cons _ (.cons_cons _ (.cons_cons _ (.cons_cons _ (.cons_cons _ (.cons_cons _ (.cons_cons _ (.cons_cons _ (.cons _ (.cons_cons _ (.cons_cons _ (.cons_cons _ (.cons_cons _ .slnil))))))))))))))) (fun w st => rn_at (i := k) (fr.ev rfl) (fr.ev rfl) Try.underlying25 sz_2 (by omega) (by rfl)) rfl rfl ?_
          intro a fr
          refine dr_take 6 rfl (by kernel_rfl) (by kernel_rfl) (by kernel_rfl) (fun _ _ _ h => h) fr rfl (st.sub (.cons_cons _ (.cons_cons _ (.cons_cons _ (.cons_cons _ (.cons_cons _ (.cons_cons _ (.cons_cons _ (.cons_cons _ (.cons_cons _ (.cons _ (.cons_cons _ (.cons_cons _ (.cons_cons _ (.cons_cons _ .slnil))))))))))))))) (fun w st => rn_load (fr.ev rfl) Try.underlying2 rfl (st.rocell 4 rfl (j := 0) rfl)) rfl rfl ?_
          intro a fr
          refine dr_take 7 rfl (by kernel_rfl) (by kernel_rfl) (by kernel_rfl) (fun _ _ _ h => h) fr rfl (st.sub (.cons_cons _ (.cons_cons _ (.cons_cons _ (.cons_cons _ (.cons_cons _ (.cons_cons _ (.cons_cons _ (.cons_cons _ (.cons_cons _ (.cons _ (.cons_cons _ (.cons_cons _ (.cons_cons _ (.cons_cons _ .slnil))))))))))))))) (fun w st => rn_build (cells := #[.int .i64 (((1 + x.toNat % 3 : Nat) : Int)), .int .i64 (y)]) (by simp only [List.map_toArray, List.map_cons, List.map_nil]; rw [fr.ev (x := .tmp 61) rfl, fr.ev (x := .tmp 65) rfl]; rfl)) rfl rfl ?_
          intro a fr
          refine dr_one 8 (by kernel_rfl) rfl rfl (ow_bslice (E := 43) fr st rfl [.int .i64 (((1 + x.toNat % 3 : Nat) : Int)), .int .i64 (y)] (fun w => by simp only [List.map_toArray, List.map_cons, List.map_nil]; rw [fr.ev (x := .tmp 66) rfl]; kernel_rfl) rfl rfl ?_)
          intro a w b55 fr st
          refine ⟨st.sub (.cons _ (.cons_cons _ (.cons_cons _ (.cons_cons _ (.cons_cons _ (.cons_cons _ (.cons_cons _ (.cons_cons _ (.cons_cons _ (.cons_cons _ (.cons _ (.cons_cons _ (.cons_cons _ (.cons_cons _ (.cons_cons _ .slnil))))))))))))))), ?_⟩
          refine dr_one 9 (by kernel_rfl) rfl rfl (ow_append1 fr st 10 0 (((((1 + x.toNat % 3 : Nat) : Int), y) : ValD)) rfl rfl rfl rfl rfl Try.underlying40 inf_43 (by rfl) (by decide) (fun _ => rfl) rfl (by (simp; have := stI_len sn k; omega)) (by unfold maxLen; (simp; have := stI_len sn k; omega)) (Nat.le_refl _) st.agr.size rfl rfl ?_)
          intro a w A56 c57 fr (st : St _ [] w [.blk b55 [.int .i64 (((1 + x.toNat % 3 : Nat) : Int)), .int .i64 (y)] 43, .blk b54 [.int .i64 (((1 + x.toNat % 3 : Nat) : Int)), .int .i64 1, .int .i64 (((k / 2 : Nat) : Int))] 42, .blk b53 ((bK vs (k + 1)).1.map (Value.int .i64) ++ [Value.slice A51 (bK vs (k + 1)).2.length c52]) 27, els CI 1 A51 (bK vs (k + 1)).2, .blk b50 [.int .i64 1, .int .i64 (((k / 2 : Nat) : Int))] 23, ro b6 (o7 + k * 1) [.int .i64 (y)], ro b4 (o5 + k * 1) [.int .u8 ((x.toNat : Int))], els CI 1 A (bK vs k).2, row slotC 3 42 w0.heap.size (.slice As (((stI sn k).map (slotB ks)).length) cs) (((stI sn k).map (slotB ks))), row slotC 3 42 w0.heap.size (.slice Al (((loI sn k).map (slotB ks)).length) cl) (((loI sn k).map (slotB ks))), row valC 2 43 w0.heap.size (.slice A56 ((((List.range k).map (wantB ks vs)) ++ [((((1 + x.toNat % 3 : Nat) : Int), y) : ValD)]).length) c57) ((((List.range k).map (wantB ks vs)) ++ [((((1 + x.toNat % 3 : Nat) : Int), y) : ValD)])), .blk b3 [.int .i64 0, .int .i64 0, .slice Al (((loI sn k).map (slotB ks)).length) cl, .slice As (((stI sn k).map (slotB ks)).length) cs] 39, .blk b2 ((bK vs (k + 1)).1.map (Value.int .i64) ++ [Value.slice A51 (bK vs (k + 1)).2.length c52]) 27, els C8 1 (some ⟨b4, o5, none⟩) ks, els CI 1 (some ⟨b6, o7, none⟩) vs])
          refine ⟨st.sub (.cons _ (.cons_cons _ (.cons_cons _ (.cons_cons _ (.cons_cons _ (.cons_cons _ (.cons_cons _ (.cons_cons _ (.cons_cons _ (.cons_cons _ (.cons _ (.cons_cons _ (.cons_cons _ (.cons_cons _ (.cons_cons _ .slnil))))))))))))))), ?_⟩
          refine dr_take 10 rfl (by kernel_rfl) (by kernel_rfl) (by kernel_rfl) (fun _ _ _ h => h) fr rfl (st.sub (.cons _ (.cons_cons _ (.cons_cons _ (.cons_cons _ (.cons_cons _ (.cons_cons _ (.cons_cons _ (.cons_cons _ (.cons_cons _ (.cons_cons _ (.cons _ (.cons_cons _ (.cons_cons _ (.cons_cons _ (.cons_cons _ .slnil)))))))))))))))) (fun w st => rn_assign (fr.ev rfl)) rfl rfl ?_
          intro a fr
          refine dr_done (by kernel_rfl) ?_
          refine then_n ?_
          refine wp_seq ?_
          refine reg ?_
          refine lst rfl (ow_v fr (rn_move (fr.ev rfl)) rfl rfl ?_)
          intro a fr
          refine lst rfl (ow_v fr (rn_move (fr.ev rfl)) rfl rfl ?_)
          intro a fr
          refine lst rfl (ow_v fr (rn_conv (c := (sn : Nat)) (fr.ev rfl) (by kernel_rfl) Try.underlying3 (wr_i64 _ (by omega) (by omega))) rfl rfl ?_)
          intro a fr
          refine lst rfl (ow_v fr (rn_as (v' := .bool true) (rn_lss (fr.ev rfl) (fr.ev rfl)) (congrArg Value.bool (decide_eq_true (by omega)))) rfl rfl ?_)
          intro a fr
          refine wpList_nil ?_
          refine then_n ?_
          refine cond_t fr rfl rfl ?_
          refine reg ?_
          refine lst rfl (ow_v fr (fa_39_3 (fr.ev rfl)) rfl rfl ?_)
          intro a fr
          refine lst rfl (ow_v fr (rn_load (fr.ev rfl) Try.underlying37 rfl (st.cell 11 rfl rfl)) rfl rfl ?_)
          intro a fr
          refine lst rfl (ow_v fr (rn_loadN (cs := [.int .i64 (((1 + x.toNat % 3 : Nat) : Int)), .int .i64 1, .int .i64 (((k / 2 : Nat) : Int))]) (fr.ev rfl) Try.underlying42 rfl sz_42 (st.blkrange 1 rfl 0 rfl)) rfl rfl ?_)
          intro a fr
          refine lst rfl (ow_bslice (E := 42) fr st rfl [.int .i64 (((1 + x.toNat % 3 : Nat) : Int)), .int .i64 1, .int .i64 (((k / 2 : Nat) : Int))] (fun w => by simp only [List.map_toArray, List.map_cons, List.map_nil]; rw [fr.ev (x := .tmp 75) rfl]; kernel_rfl) rfl rfl ?_)
          intro a w b58 fr st
          refine lst rfl (ow_append1 fr st 9 0 (((((1 + x.toNat % 3 : Nat) : Int), 1, ((k / 2 : Nat) : Int)) : SlotD)) rfl rfl rfl rfl rfl Try.underlying37 inf_42 (by rfl) (by decide) (fun _ => rfl) rfl (by (simp; have := stI_len sn k; omega)) (by unfold maxLen; (simp; have := stI_len sn k; omega)) (Nat.le_refl _) st.agr.size rfl rfl ?_)
          intro a w A59 c60 fr (st : St _ [] w [.blk b58 [.int .i64 (((1 + x.toNat % 3 : Nat) : Int)), .int .i64 1, .int .i64 (((k / 2 : Nat) : Int))] 42, .blk b55 [.int .i64 (((1 + x.toNat % 3 : Nat) : Int)), .int .i64 (y)] 43, .blk b54 [.int .i64 (((1 + x.toNat % 3 : Nat) : Int)), .int .i64 1, .int .i64 (((k / 2 : Nat) : Int))] 42, .blk b53 ((bK vs (k + 1)).1.map (Value.int .i64) ++ [Value.slice A51 (bK vs (k + 1)).2.length c52]) 27, els CI 1 A51 (bK vs (k + 1)).2, .blk b50 [.int .i64 1, .int .i64 (((k / 2 : Nat) : Int))] 23, ro b6 (o7 + k * 1) [.int .i64 (y)], ro b4 (o5 + k * 1) [.int .u8 ((x.toNat : Int))], els CI 1 A (bK vs k).2, row slotC 3 42 w0.heap.size (.slice A59 ((((stI sn k).map (slotB ks)) ++ [((((1 + x.toNat % 3 : Nat) : Int), 1, ((k / 2 : Nat) : Int)) : SlotD)]).length) c60) ((((stI sn k).map (slotB ks)) ++ [((((1 + x.toNat % 3 : Nat) : Int), 1, ((k / 2 : Nat) : Int)) : SlotD)])), row slotC 3 42 w0.heap.size (.slice Al (((loI sn k).map (slotB ks)).length) cl) (((loI sn k).map (slotB ks))), row valC 2 43 w0.heap.size (.slice A56 ((((List.range k).map (wantB ks vs)) ++ [((((1 + x.toNat % 3 : Nat) : Int), y) : ValD)]).length) c57) ((((List.range k).map (wantB ks vs)) ++ [((((1 + x.toNat % 3 : Nat) : Int), y) : ValD)])), .blk b3 [.int .i64 0, .int .i64 0, .slice Al (((loI sn k).map (slotB ks)).length) cl, .slice As (((stI sn k).map (slotB ks)).length) cs] 39, .blk b2 ((bK vs (k + 1)).1.map (Value.int .i64) ++ [Value.slice A51 (bK vs (k + 1)).2.length c52]) 27, els C8 1 (some ⟨b4, o5, none⟩) ks, els CI 1 (some ⟨b6, o7, none⟩) vs])
          refine lst rfl (ow_v fr (fa_39_3 (fr.ev rfl)) rfl rfl ?_)
          intro a fr
          refine lst rfl (ow_st fr st 12 rfl rfl rfl rfl sz_37 rfl rfl rfl ?_)
          intro w (st : St _ [] w [.blk b58 [.int .i64 (((1 + x.toNat % 3 : Nat) : Int)), .int .i64 1, .int .i64 (((k / 2 : Nat) : Int))] 42, .blk b55 [.int .i64 (((1 + x.toNat % 3 : Nat) : Int)), .int .i64 (y)] 43, .blk b54 [.int .i64 (((1 + x.toNat % 3 : Nat) : Int)), .int .i64 1, .int .i64 (((k / 2 : Nat) : Int))] 42, .blk b53 ((bK vs (k + 1)).1.map (Value.int .i64) ++ [Value.slice A51 (bK vs (k + 1)).2.length c52]) 27, els CI 1 A51 (bK vs (k + 1)).2, .blk b50 [.int .i64 1, .int .i64 (((k / 2 : Nat) : Int))] 23, ro b6 (o7 + k * 1) [.int .i64 (y)], ro b4 (o5 + k * 1) [.int .u8 ((x.toNat : Int))], els CI 1 A (bK vs k).2, row slotC 3 42 w0.heap.size (.slice A59 ((((stI sn k).map (slotB ks)) ++ [((((1 + x.toNat % 3 : Nat) : Int), 1, ((k / 2 : Nat) : Int)) : SlotD)]).length) c60) ((((stI sn k).map (slotB ks)) ++ [((((1 + x.toNat % 3 : Nat) : Int), 1, ((k / 2 : Nat) : Int)) : SlotD)])), row slotC 3 42 w0.heap.size (.slice Al (((loI sn k).map (slotB ks)).length) cl) (((loI sn k).map (slotB ks))), row valC 2 43 w0.heap.size (.slice A56 ((((List.range k).map (wantB ks vs)) ++ [((((1 + x.toNat % 3 : Nat) : Int), y) : ValD)]).length) c57) ((((List.range k).map (wantB ks vs)) ++ [((((1 + x.toNat % 3 : Nat) : Int), y) : ValD)])), .blk b3 [.int .i64 0, .int .i64 0, .slice Al (((loI sn k).map (slotB ks)).length) cl, .slice A59 ((((stI sn k).map (slotB ks)) ++ [((((1 + x.toNat % 3 : Nat) : Int), 1, ((k / 2 : Nat) : Int)) : SlotD)]).length) c60] 39, .blk b2 ((bK vs (k + 1)).1.map (Value.int .i64) ++ [Value.slice A51 (bK vs (k + 1)).2.length c52]) 27, els C8 1 (some ⟨b4, o5, none⟩) ks, els CI 1 (some ⟨b6, o7, none⟩) vs])
          refine wpList_nil ?_
          refine blk_n ?_
          refine then_n ?_
          refine reg ?_
          refine lst rfl (ow_v fr (rn_add (c := ((k + 1 : Nat) : Int)) (fr.ev rfl) (fr.ev rfl) (wr_i64e (by omega) (by omega) (by omega))) rfl rfl ?_)
          intro a fr
          refine lst rfl (ow_v fr (rn_move (fr.ev rfl)) rfl rfl ?_)
          intro a fr
          refine wpList_nil ?_
          have eqs_ : (((stI sn k).map (slotB ks)) ++ [((((1 + x.toNat % 3 : Nat) : Int), 1, ((k / 2 : Nat) : Int)) : SlotD)]) = (stI sn (k + 1)).map (slotB ks) := by rw [(stI_y hs).1, List.map_append, List.map_singleton, qs]
          (try rw [eqs_] at fr); (try rw [eqs_] at st)
          have eql_ : (loI sn k) = loI sn (k + 1) := (stI_y hs).2.symm
          (try rw [eql_] at fr); (try rw [eql_] at st)
          have eqw_ : (((List.range k).map (wantB ks vs)) ++ [((((1 + x.toNat % 3 : Nat) : Int), y) : ValD)]) = (List.range (k + 1)).map (wantB ks vs) := by rw [List.range_succ, List.map_append, List.map_singleton, qw]
          (try rw [eqw_] at fr); (try rw [eqw_] at st)
          refine then_n ⟨m - (k + 1), ?_, k + 1, A51, A59, Al, A56, c52, c60, cl, c57, (by omega), (hn1), rfl, fr.prune ⟨rfl, rfl, rfl, rfl, rfl, rfl, rfl, rfl, trivial⟩, st.sub (.cons _ (.cons _ (.cons _ (.cons _ (.cons_cons _ (.cons _ (.cons _ (.cons _ (.cons _ (.cons_cons _ (.cons_cons _ (.cons_cons _ (.cons_cons _ (.cons_cons _ (.cons_cons _ (.cons_cons _ .slnil))))))))))))))))⟩
          omega
        · refine ow_alloc fr st rfl zv_27 rfl rfl _ (by rfl) ?_
          intro a w b61 fr st
          refine ⟨st.sub (.cons _ (.cons_cons _ (.cons_cons _ (.cons_cons _ (.cons_cons _ (.cons_cons _ (.cons_cons _ (.cons_cons _ (.cons_cons _ (.cons_cons _ (.cons_cons _ (.cons_cons _ .slnil)))))))))))), ?_⟩
          refine dr_one 6 (by kernel_rfl) rfl rfl (ow_call fr rfl rfl Try.call11 (put_next vs k (by omega) 1 ((k / 2 : Nat) : Int) y ql qy A c hnA _ (st.get 4 rfl).1) rfl rfl ?_)
          rintro e w ⟨A62, c63, rfl, he1, hn1, hf1, hag⟩
          refine ⟨_, rfl, ?_⟩
          intro a fr
          have st := st.call_els (C := CI) (sz := 1) hag (by decide) CI_len he1 hf1
          clear he1 hf1 hag
          refine ⟨st.sub (.cons _ (.cons _ (.cons_cons _ (.cons_cons _ (.cons_cons _ (.cons_cons _ (.cons_cons _ (.cons_cons _ (.cons_cons _ (.cons_cons _ (.cons_cons _ (.cons_cons _ (.cons_cons _ .slnil))))))))))))), ?_⟩
          refine dr_take 7 rfl (by kernel_rfl) (by kernel_rfl) (by kernel_rfl) (fun _ _ _ h => h) fr rfl (st.sub (.cons _ (.cons _ (.cons_cons _ (.cons_cons _ (.cons_cons _ (.cons_cons _ (.cons_cons _ (.cons_cons _ (.cons_cons _ (.cons_cons _ (.cons_cons _ (.cons_cons _ (.cons_cons _ .slnil)))))))))))))) (fun w st => rn_move (fr.ev rfl)) rfl rfl ?_
          intro a fr
          refine dr_take 8 rfl (by kernel_rfl) (by kernel_rfl) (by kernel_rfl) (fun _ _ _ h => h) fr rfl (st.sub (.cons _ (.cons _ (.cons_cons _ (.cons_cons _ (.cons_cons _ (.cons_cons _ (.cons_cons _ (.cons_cons _ (.cons_cons _ (.cons_cons _ (.cons_cons _ (.cons_cons _ (.cons_cons _ .slnil)))))))))))))) (fun w st => rn_extract (fr.ev rfl) rfl) rfl rfl ?_
          intro a fr
          refine dr_take 9 rfl (by kernel_rfl) (by kernel_rfl) (by kernel_rfl) (fun _ _ _ h => h) fr rfl (st.sub (.cons _ (.cons _ (.cons_cons _ (.cons_cons _ (.cons_cons _ (.cons_cons _ (.cons_cons _ (.cons_cons _ (.cons_cons _ (.cons_cons _ (.cons_cons _ (.cons_cons _ (.cons_cons _ .slnil)))))))))))))) (fun w st => rn_extract (fr.ev rfl) rfl) rfl rfl ?_
          intro a fr
          refine dr_one 11 (by kernel_rfl) rfl rfl (ow_stN fr st 1 (vs := (bK vs (k + 1)).1.map (Value.int .i64) ++ [Value.slice A62 (bK vs (k + 1)).2.length c63]) rfl rfl rfl (regsL_one _ _ _ _) (by rw [bK_17 _ _ _]; exact sz_27) rfl (by simp only [bK_17]; exact Nat.le_of_ble_eq_true rfl) rfl ?_)
          intro w st
          rw [setR_all _ _ (by first | (simp only [bK_17]; done) | (simp only [bK_17]; rfl))] at st
          replace st : St _ [] w [els CI 1 A62 (bK vs (k + 1)).2, .blk b61 ((bK vs (k + 1)).1.map (Value.int .i64) ++ [Value.slice A62 (bK vs (k + 1)).2.length c63]) 27, .blk b50 [.int .i64 1, .int .i64 (((k / 2 : Nat) : Int))] 23, ro b6 (o7 + k * 1) [.int .i64 (y)], ro b4 (o5 + k * 1) [.int .u8 ((x.toNat : Int))], els CI 1 A (bK vs k).2, row slotC 3 42 w0.heap.size (.slice As (((stI sn k).map (slotB ks)).length) cs) (((stI sn k).map (slotB ks))), row slotC 3 42 w0.heap.size (.slice Al (((loI sn k).map (slotB ks)).length) cl) (((loI sn k).map (slotB ks))), row valC 2 43 w0.heap.size (.slice Aw (((List.range k).map (wantB ks vs)).length) cw) (((List.range k).map (wantB ks vs))), .blk b3 [.int .i64 0, .int .i64 0, .slice Al (((loI sn k).map (slotB ks)).length) cl, .slice As (((stI sn k).map (slotB ks)).length) cs] 39, .blk b2 ((bK vs k).1.map (Value.int .i64) ++ [Value.slice A (bK vs k).2.length c]) 27, els C8 1 (some ⟨b4, o5, none⟩) ks, els CI 1 (some ⟨b6, o7, none⟩) vs] := st
          refine ⟨st.sub (.cons _ (.cons _ (.cons_cons _ (.cons_cons _ (.cons_cons _ (.cons_cons _ (.cons_cons _ (.cons_cons _ (.cons_cons _ (.cons_cons _ (.cons_cons _ (.cons_cons _ (.cons_cons _ .slnil))))))))))))), ?_⟩
          refine dr_take 12 rfl (by kernel_rfl) (by kernel_rfl) (by kernel_rfl) (fun _ _ _ h => h) fr rfl (st.sub (.cons _ (.cons _ (.cons_cons _ (.cons_cons _ (.cons_cons _ (.cons_cons _ (.cons_cons _ (.cons_cons _ (.cons_cons _ (.cons_cons _ (.cons_cons _ (.cons_cons _ (.cons_cons _ .slnil)))))))))))))) (fun w st => rn_assign (fr.ev rfl)) rfl rfl ?_
          intro a fr
          refine dr_done (by kernel_rfl) ?_
          refine then_n ?_
          refine wp_seq ?_
          refine wp_seq ?_
          refine reg ?_
          refine lst rfl (ow_v fr (rn_move (fr.ev rfl)) rfl rfl ?_)
          intro a fr
          refine lst rfl (ow_v fr (rn_as (rn_neq (fr.ev rfl) (fr.ev rfl)) (by rfl)) rfl rfl ?_)
          intro a fr
          refine wpList_nil ?_
          refine then_n ?_
          refine cond_f fr rfl rfl ?_
          refine wp_skip ?_
          refine then_n ?_
          refine wp_seq ?_
          refine reg ?_
          refine lst rfl (ow_v fr (rn_loadN (cs := (bK vs (k + 1)).1.map (Value.int .i64) ++ [Value.slice A62 (bK vs (k + 1)).2.length c63]) (fr.ev rfl) Try.underlying27 rfl (by rw [bK_17 _ _ _]; exact sz_27) (st.blkrange 1 rfl 0 (by rw [List.drop_zero, List.take_length]))) rfl rfl ?_)
          intro a fr
          refine lst rfl (ow_stN fr st 10 (vs := (bK vs (k + 1)).1.map (Value.int .i64) ++ [Value.slice A62 (bK vs (k + 1)).2.length c63]) rfl rfl rfl (regsL_one _ _ _ _) (by rw [bK_17 _ _ _]; exact sz_27) rfl (by simp only [bK_17]; exact Nat.le_of_ble_eq_true rfl) rfl ?_)
          intro w st
          rw [setR_all _ _ (by first | (simp only [bK_17]; done) | (simp only [bK_17]; rfl))] at st
          replace st : St _ [] w [els CI 1 A62 (bK vs (k + 1)).2, .blk b61 ((bK vs (k + 1)).1.map (Value.int .i64) ++ [Value.slice A62 (bK vs (k + 1)).2.length c63]) 27, .blk b50 [.int .i64 1, .int .i64 (((k / 2 : Nat) : Int))] 23, ro b6 (o7 + k * 1) [.int .i64 (y)], ro b4 (o5 + k * 1) [.int .u8 ((x.toNat : Int))], els CI 1 A (bK vs k).2, row slotC 3 42 w0.heap.size (.slice As (((stI sn k).map (slotB ks)).length) cs) (((stI sn k).map (slotB ks))), row slotC 3 42 w0.heap.size (.slice Al (((loI sn k).map (slotB ks)).length) cl) (((loI sn k).map (slotB ks))), row valC 2 43 w0.heap.size (.slice Aw (((List.range k).map (wantB ks vs)).length) cw) (((List.range k).map (wantB ks vs))), .blk b3 [.int .i64 0, .int .i64 0, .slice Al (((loI sn k).map (slotB ks)).length) cl, .slice As (((stI sn k).map (slotB ks)).length) cs] 39, .blk b2 ((bK vs (k + 1)).1.map (Value.int .i64) ++ [Value.slice A62 (bK vs (k + 1)).2.length c63]) 27, els C8 1 (some ⟨b4, o5, none⟩) ks, els CI 1 (some ⟨b6, o7, none⟩) vs] := st
          refine wpList_nil ?_
          refine then_n ?_
          refine wp_seq ?_
          refine dr_start (by kernel_rfl) st (.cons_cons _ (.cons_cons _ (.cons_cons _ (.cons_cons _ (.cons_cons _ (.cons_cons _ (.cons_cons _ (.cons_cons _ (.cons_cons _ (.cons_cons _ (.cons_cons _ (.cons_cons _ (.cons_cons _ .slnil))))))))))))) ?_
          intro w st
          refine dr_take 0 rfl (by kernel_rfl) (by kernel_rfl) (by kernel_rfl) (fun _ _ _ h => h) fr rfl (st.sub (.cons_cons _ (.cons_cons _ (.cons_cons _ (.cons_cons _ (.cons_cons _ (.cons_cons _ (.cons_cons _ (.cons_cons _ (.cons_cons _ (.cons_cons _ (.cons_cons _ (.cons_cons _ (.cons_cons _ .slnil)))))))))))))) (fun w st => rn_move (fr.ev rfl)) rfl rfl ?_
          intro a fr
          refine dr_take 1 rfl (by kernel_rfl) (by kernel_rfl) (by kernel_rfl) (fun _ _ _ h => h) fr rfl (st.sub (.cons_cons _ (.cons_cons _ (.cons_cons _ (.cons_cons _ (.cons_cons _ (.cons_cons _ (.cons_cons _ (.cons_cons _ (.cons_cons _ (.cons_cons _ (.cons_cons _ (.cons_cons _ (.cons_cons _ .slnil)))))))))))))) (fun w st => rn_move (fr.ev rfl)) rfl rfl ?_
          intro a fr
          refine dr_take 2 rfl (by kernel_rfl) (by kernel_rfl) (by kernel_rfl) (fun _ _ _ h => h) fr rfl (st.sub (.cons_cons _ (.cons_cons _ (.cons_cons _ (.cons_cons _ (.cons_cons _ (.cons_cons _ (.cons_cons _ (.cons_cons _ (.cons_cons _ (.cons_cons _ (.cons_cons _ (.cons_cons _ (.cons_cons _ .slnil)))))))))))))) (fun w st => rn_at (i := k) (fr.ev rfl) (fr.ev rfl) Try.underlying36 sz_5 (by omega) (by rfl)) rfl rfl ?_
          intro a fr
          refine dr_take 3 rfl (by kernel_rfl) (by kernel_rfl) (by kernel_rfl) (fun _ _ _ h => h) fr rfl (st.sub (.cons_cons _ (.cons_cons _ (.cons_cons _ (.cons_cons _ (.cons_cons _ (.cons_cons _ (.cons_cons _ (.cons_cons _ (.cons_cons _ (.cons_cons _ (.cons_cons _ (.cons_cons _ (.cons_cons _ .slnil)))))))))))))) (fun w st => rn_load (fr.ev rfl) Try.underlying5 rfl (st.rocell 4 rfl (j := 0) rfl)) rfl rfl ?_
          intro a fr
          refine dr_take 4 rfl (by kernel_rfl) (by kernel_rfl) (by kernel_rfl) (fun _ _ _ h => h) fr rfl (st.sub (.cons_cons _ (.cons_cons _ (.cons_cons _ (.cons_cons _ (.cons_cons _ (.cons_cons _ (.cons_cons _ (.cons_cons _ (.cons_cons _ (.cons_cons _ (.cons_cons _ (.cons_cons _ (.cons_cons _ .slnil)))))))))))))) (fun w st => rn_conv (c := (x.toNat : Int)) (fr.ev rfl) (by kernel_rfl) Try.underlying3 (wr_i64 _ (by omega) (by omega))) rfl rfl ?_
          intro a fr
          refine dr_take 5 rfl (by kernel_rfl) (by kernel_rfl) (by kernel_rfl) (fun _ _ _ h => h) fr rfl (st.sub (.cons_cons _ (.cons_cons _ (.cons_cons _ (.cons_cons _ (.cons_cons _ (.cons_cons _ (.cons_cons _ (.cons_cons _ (.cons_cons _ (.cons_cons _ (.cons_cons _ (.cons_cons _ (.cons_cons _ .slnil)))))))))))))) (fun w st => rn_rem (c := ((x.toNat % 3 : Nat) : Int)) (fr.ev rfl) (fr.ev rfl) (by decide) (rm_nat (a := x.toNat) (m := 3) rfl rfl)) rfl rfl ?_
          intro a fr
          refine dr_take 6 rfl (by kernel_rfl) (by kernel_rfl) (by kernel_rfl) (fun _ _ _ h => h) fr rfl (st.sub (.cons_cons _ (.cons_cons _ (.cons_cons _ (.cons_cons _ (.cons_cons _ (.cons_cons _ (.cons_cons _ (.cons_cons _ (.cons_cons _ (.cons_cons _ (.cons_cons _ (.cons_cons _ (.cons_cons _ .slnil)))))))))))))) (fun w st => rn_add (c := ((1 + x.toNat % 3 : Nat) : Int)) (fr.ev rfl) (fr.ev rfl) (wr_i64e (by omega) (by omega) (by omega))) rfl rfl ?_
          intro a fr
          refine dr_take 7 rfl (by kernel_rfl) (by kernel_rfl) (by kernel_rfl) (fun _ _ _ h => h) fr rfl (st.sub (.cons_cons _ (.cons_cons _ (.cons_cons _ (.cons_cons _ (.cons_cons _ (.cons_cons _ (.cons_cons _ (.cons_cons _ (.cons_cons _ (.cons_cons _ (.cons_cons _ (.cons_cons _ (.cons_cons _ .slnil)))))))))))))) (fun w st => rn_loadN (cs := [.int .i64 1, .int .i64 (((k / 2 : Nat) : Int))]) (fr.ev rfl) Try.underlying23 rfl sz_23 (st.blkrange 2 rfl 0 rfl)) rfl rfl ?_
          intro a fr
          refine dr_take 8 rfl (by kernel_rfl) (by kernel_rfl) (by kernel_rfl) (fun _ _ _ h => h) fr rfl (st.sub (.cons_cons _ (.cons_cons _ (.cons_cons _ (.cons_cons _ (.cons_cons _ (.cons_cons _ (.cons_cons _ (.cons_cons _ (.cons_cons _ (.cons_cons _ (.cons_cons _ (.cons_cons _ (.cons_cons _ .slnil)))))))))))))) (fun w st => rn_build (cells := #[.int .i64 (((1 + x.toNat % 3 : Nat) : Int)), .int .i64 1, .int .i64 (((k / 2 : Nat) : Int))]) (by simp only [List.map_toArray, List.map_cons, List.map_nil]; rw [fr.ev (x := .tmp 56) rfl, fr.ev (x := .tmp 57) rfl]; rfl)) rfl rfl ?_
          intro a fr
          refine dr_one 9 (by kernel_rfl) rfl rfl (ow_alloc fr st rfl zv_42 rfl rfl _ (by rfl) ?_)
          intro a w b64 fr st
          refine ⟨st.sub (.cons _ (.cons_cons _ (.cons_cons _ (.cons_cons _ (.cons_cons _ (.cons_cons _ (.cons_cons _ (.cons_cons _ (.cons_cons _ (.cons_cons _ (.cons_cons _ (.cons_cons _ (.cons_cons _ (.cons_cons _ .slnil)))))))))))))), ?_⟩
          refine dr_one 10 (by kernel_rfl) rfl rfl (ow_stN fr st 0 (vs := [.int .i64 (((1 + x.toNat % 3 : Nat) : Int)), .int .i64 1, .int .i64 (((k / 2 : Nat) : Int))]) rfl rfl rfl rfl sz_42 rfl (Nat.le_of_ble_eq_true rfl) rfl ?_)
          intro w (st : St _ [] w [.blk b64 [.int .i64 (((1 + x.toNat % 3 : Nat) : Int)), .int .i64 1, .int .i64 (((k / 2 : Nat) : Int))] 42, els CI 1 A62 (bK vs (k + 1)).2, .blk b61 ((bK vs (k + 1)).1.map (Value.int .i64) ++ [Value.slice A62 (bK vs (k + 1)).2.length c63]) 27, .blk b50 [.int .i64 1, .int .i64 (((k / 2 : Nat) : Int))] 23, ro b6 (o7 + k * 1) [.int .i64 (y)], ro b4 (o5 + k * 1) [.int .u8 ((x.toNat : Int))], els CI 1 A (bK vs k).2, row slotC 3 42 w0.heap.size (.slice As (((stI sn k).map (slotB ks)).length) cs) (((stI sn k).map (slotB ks))), row slotC 3 42 w0.heap.size (.slice Al (((loI sn k).map (slotB ks)).length) cl) (((loI sn k).map (slotB ks))), row valC 2 43 w0.heap.size (.slice Aw (((List.range k).map (wantB ks vs)).length) cw) (((List.range k).map (wantB ks vs))), .blk b3 [.int .i64 0, .int .i64 0, .slice Al (((loI sn k).map (slotB ks)).length) cl, .slice As (((stI sn k).map (slotB ks)).length) cs] 39, .blk b2 ((bK vs (k + 1)).1.map (Value.int .i64) ++ [Value.slice A62 (bK vs (k + 1)).2.length c63]) 27, els C8 1 (some ⟨b4, o5, none⟩) ks, els CI 1 (some ⟨b6, o7, none⟩) vs])
          refine ⟨st.sub (.cons _ (.cons_cons _ (.cons_cons _ (.cons_cons _ (.cons_cons _ (.cons_cons _ (.cons_cons _ (.cons_cons _ (.cons_cons _ (.cons_cons _ (.cons_cons _ (.cons_cons _ (.cons_cons _ (.cons_cons _ .slnil)))))))))))))), ?_⟩
          refine dr_done (by kernel_rfl) ?_
          refine then_n ?_
          refine wp_seq ?_
          refine dr_start (by kernel_rfl) st (.cons_cons _ (.cons_cons _ (.cons_cons _ (.cons_cons _ (.cons_cons _ (.cons_cons _ (.cons_cons _ (.cons_cons _ (.cons_cons _ (.cons _ (.cons_cons _ (.cons_cons _ (.cons_cons _ (.cons_cons _ .slnil)))))))))))))) ?_
          intro w st
          refine dr_take 0 rfl (by kernel_rfl) (by kernel_rfl) (by kernel_rfl) (fun _ _ _ h => h) fr rfl (st.sub (.cons_cons _ (.cons_cons _ (.cons_cons _ (.cons_cons _ (.cons_cons _ (.cons_cons _ (.cons_cons _ (.cons_cons _ (.cons_cons _ (.cons _ (.cons_cons _ (.cons_cons _ (.cons_cons _ (.cons_cons _ .slnil))))))))))))))) (fun w st => rn_move (fr.ev rfl)) rfl rfl ?_
          intro a fr
          refine dr_take 1 rfl (by kernel_rfl) (by kernel_rfl) (by kernel_rfl) (fun _ _ _ h => h) fr rfl (st.sub (.cons_cons _ (.cons_cons _ (.cons_cons _ (.cons_cons _ (.cons_cons _ (.cons_cons _ (.cons_cons _ (.cons_cons _ (.cons_cons _ (.cons _ (.cons_cons _ (.cons_cons _ (.cons_cons _ (.cons_cons _ .slnil))))))))))))))) (fun w st => fa_42_0 (fr.ev rfl)) rfl rfl ?_
          intro a fr
          refine dr_take 2 rfl (by kernel_rfl) (by kernel_rfl) (by kernel_rfl) (fun _ _ _ h => h) fr rfl (st.sub (.cons_cons _ (.cons_cons _ (.cons_cons _ (.cons_cons _ (.cons_cons _ (.cons_cons _ (.cons_cons _ (.cons_cons _ (.cons_cons _ (.cons _ (.cons_cons _ (.cons_cons _ (.cons_cons _ (.cons_cons _ .slnil))))))))))))))) (fun w st => rn_load (fr.ev rfl) Try.underlying3 rfl (st.cell 0 rfl rfl)) rfl rfl ?_
          intro a fr
          refine dr_take 3 rfl (by kernel_rfl) (by kernel_rfl) (by kernel_rfl) (fun _ _ _ h => h) fr rfl (st.sub (.cons_cons _ (.cons_cons _ (.cons_cons _ (.cons_cons _ (.cons_cons _ (.cons_cons _ (.cons_cons _ (.cons_cons _ (.cons_cons _ (.cons _ (.cons_cons _ (.cons_cons _ (.cons_cons _ (.cons_cons _ .slnil))))))))))))))) (fun w st => rn_move (fr.ev rfl)) rfl rfl ?_
          intro a fr
          refine dr_take 4 rfl (by kernel_rfl) (by kernel_rfl) (by kernel_rfl) (fun _ _ _ h => h) fr rfl (st.sub (.cons_cons _ (.cons_cons _ (.cons_cons _ (.cons_cons _ (.cons_cons _ (.cons_cons _ (.cons_cons _ (.cons_cons _ (.cons_cons _ (.cons _ (.cons_cons _ (.cons_cons _ (.cons_cons _ (.cons_cons _ .slnil))))))))))))))) (fun w st => rn_move (fr.ev rfl)) rfl rfl ?_
          intro a fr
          refine dr_take 5 rfl (by kernel_rfl) (by kernel_rfl) (by kernel_rfl) (fun _ _ _ h => h) fr rfl (st.sub (.cons_cons _ (.cons_cons _ (.cons_cons _ (.cons_cons _ (.cons_cons _ (.cons_cons _ (.cons_cons _ (.cons_cons _ (.cons_cons _ (.cons _ (.cons_cons _ (.cons_cons _ (.cons_cons _ (.cons_cons _ .slnil))))))))))))))) (fun w st => rn_at (i := k) (fr.ev rfl) (fr.ev rfl) Try.underlying25 sz_2 (by omega) (by rfl)) rfl rfl ?_
          intro a fr
          refine dr_take 6 rfl (by kernel_rfl) (by kernel_rfl) (by kernel_rfl) (fun _ _ _ h => h) fr rfl (st.sub (.cons_cons _ (.cons_cons _ (.cons_cons _ (.cons_cons _ (.cons_cons _ (.cons_cons _ (.cons_cons _ (.cons_cons _ (.cons_cons _ (.cons _ (.cons_cons _ (.cons_cons _ (.cons_cons _ (.cons_cons _ .slnil))))))))))))))) (fun w st => rn_load (fr.ev rfl) Try.underlying2 rfl (st.rocell 4 rfl (j := 0) rfl)) rfl rfl ?_
          intro a fr
          refine dr_take 7 rfl (by kernel_rfl) (by kernel_rfl) (by kernel_rfl) (fun _ _ _ h => h) fr rfl (st.sub (.cons_cons _ (.cons_cons _ (.cons_cons _ (.cons_cons _ (.cons_cons _ (.cons_cons _ (.cons_cons _ (.cons_cons _ (.cons_cons _ (.cons _ (.cons_cons _ (.cons_cons _ (.cons_cons _ (.cons_cons _ .slnil))))))))))))))) (fun w st => rn_build (cells := #[.int .i64 (((1 + x.toNat % 3 : Nat) : Int)), .int .i64 (y)]) (by simp only [List.map_toArray, List.map_cons, List.map_nil]; rw [fr.ev (x := .tmp 61) rfl, fr.ev (x := .tmp 65) rfl]; rfl)) rfl rfl ?_
          intro a fr
          refine dr_one 8 (by kernel_rfl) rfl rfl (ow_bslice (E := 43) fr st rfl [.int .i64 (((1 + x.toNat % 3 : Nat) : Int)), .int .i64 (y)] (fun w => by simp only [List.map_toArray, List.map_cons, List.map_nil]; rw [fr.ev (x := .tmp 66) rfl]; kernel_rfl) rfl rfl ?_)
          intro a w b65 fr st
          refine ⟨st.sub (.cons _ (.cons_cons _ (.cons_cons _ (.cons_cons _ (.cons_cons _ (.cons_cons _ (.cons_cons _ (.cons_cons _ (.cons_cons _ (.cons_cons _ (.cons _ (.cons_cons _ (.cons_cons _ (.cons_cons _ (.cons_cons _ .slnil))))))))))))))), ?_⟩
          refine dr_one 9 (by kernel_rfl) rfl rfl (ow_append1 fr st 10 0 (((((1 + x.toNat % 3 : Nat) : Int), y) : ValD)) rfl rfl rfl rfl rfl Try.underlying40 inf_43 (by rfl) (by decide) (fun _ => rfl) rfl (by (simp; have := stI_len sn k; omega)) (by unfold maxLen; (simp; have := stI_len sn k; omega)) (Nat.le_refl _) st.agr.size rfl rfl ?_)
          intro a w A66 c67 fr (st : St _ [] w [.blk b65 [.int .i64 (((1 + x.toNat % 3 : Nat) : Int)), .int .i64 (y)] 43, .blk b64 [.int .i64 (((1 + x.toNat % 3 : Nat) : Int)), .int .i64 1, .int .i64 (((k / 2 : Nat) : Int))] 42, els CI 1 A62 (bK vs (k + 1)).2, .blk b61 ((bK vs (k + 1)).1.map (Value.int .i64) ++ [Value.slice A62 (bK vs (k + 1)).2.length c63]) 27, .blk b50 [.int .i64 1, .int .i64 (((k / 2 : Nat) : Int))] 23, ro b6 (o7 + k * 1) [.int .i64 (y)], ro b4 (o5 + k * 1) [.int .u8 ((x.toNat : Int))], els CI 1 A (bK vs k).2, row slotC 3 42 w0.heap.size (.slice As (((stI sn k).map (slotB ks)).length) cs) (((stI sn k).map (slotB ks))), row slotC 3 42 w0.heap.size (.slice Al (((loI sn k).map (slotB ks)).length) cl) (((loI sn k).map (slotB ks))), row valC 2 43 w0.heap.size (.slice A66 ((((List.range k).map (wantB ks vs)) ++ [((((1 + x.toNat % 3 : Nat) : Int), y) : ValD)]).length) c67) ((((List.range k).map (wantB ks vs)) ++ [((((1 + x.toNat % 3 : Nat) : Int), y) : ValD)])), .blk b3 [.int .i64 0, .int .i64 0, .slice Al (((loI sn k).map (slotB ks)).length) cl, .slice As (((stI sn k).map (slotB ks)).length) cs] 39, .blk b2 ((bK vs (k + 1)).1.map (Value.int .i64) ++ [Value.slice A62 (bK vs (k + 1)).2.length c63]) 27, els C8 1 (some ⟨b4, o5, none⟩) ks, els CI 1 (some ⟨b6, o7, none⟩) vs])
          refine ⟨st.sub (.cons _ (.cons_cons _ (.cons_cons _ (.cons_cons _ (.cons_cons _ (.cons_cons _ (.cons_cons _ (.cons_cons _ (.cons_cons _ (.cons_cons _ (.cons _ (.cons_cons _ (.cons_cons _ (.cons_cons _ (.cons_cons _ .slnil))))))))))))))), ?_⟩
          refine dr_take 10 rfl (by kernel_rfl) (by kernel_rfl) (by kernel_rfl) (fun _ _ _ h => h) fr rfl (st.sub (.cons _ (.cons_cons _ (.cons_cons _ (.cons_cons _ (.cons_cons _ (.cons_cons _ (.cons_cons _ (.cons_cons _ (.cons_cons _ (.cons_cons _ (.cons _ (.cons_cons _ (.cons_cons _ (.cons_cons _ (.cons_cons _ .slnil)))))))))))))))) (fun w st => rn_assign (fr.ev rfl)) rfl rfl ?_
          intro a fr
          refine dr_done (by kernel_rfl) ?_
          refine then_n ?_
          refine wp_seq ?_
          refine reg ?_
          refine lst rfl (ow_v fr (rn_move (fr.ev rfl)) rfl rfl ?_)
          intro a fr
          refine lst rfl (ow_v fr (rn_move (fr.ev rfl)) rfl rfl ?_)
          intro a fr
          refine lst rfl (ow_v fr (rn_conv (c := (sn : Nat)) (fr.ev rfl) (by kernel_rfl) Try.underlying3 (wr_i64 _ (by omega) (by omega))) rfl rfl ?_)
          intro a fr
          refine lst rfl (ow_v fr (rn_as (v' := .bool true) (rn_lss (fr.ev rfl) (fr.ev rfl)) (congrArg Value.bool (decide_eq_true (by omega)))) rfl rfl ?_)
          intro a fr
          refine wpList_nil ?_
          refine then_n ?_
          refine cond_t fr rfl rfl ?_
          refine reg ?_
          refine lst rfl (ow_v fr (fa_39_3 (fr.ev rfl)) rfl rfl ?_)
          intro a fr
          refine lst rfl (ow_v fr (rn_load (fr.ev rfl) Try.underlying37 rfl (st.cell 11 rfl rfl)) rfl rfl ?_)
          intro a fr
          refine lst rfl (ow_v fr (rn_loadN (cs := [.int .i64 (((1 + x.toNat % 3 : Nat) : Int)), .int .i64 1, .int .i64 (((k / 2 : Nat) : Int))]) (fr.ev rfl) Try.underlying42 rfl sz_42 (st.blkrange 1 rfl 0 rfl)) rfl rfl ?_)
          intro a fr
          refine lst rfl (ow_bslice (E := 42) fr st rfl [.int .i64 (((1 + x.toNat % 3 : Nat) : Int)), .int .i64 1, .int .i64 (((k / 2 : Nat) : Int))] (fun w => by simp only [List.map_toArray, List.map_cons, List.map_nil]; rw [fr.ev (x := .tmp 75) rfl]; kernel_rfl) rfl rfl ?_)
          intro a w b68 fr st
          refine lst rfl (ow_append1 fr st 9 0 (((((1 + x.toNat % 3 : Nat) : Int), 1, ((k / 2 : Nat) : Int)) : SlotD)) rfl rfl rfl rfl rfl Try.underlying37 inf_42 (by rfl) (by decide) (fun _ => rfl) rfl (by (simp; have := stI_len sn k; omega)) (by unfold maxLen; (simp; have := stI_len sn k; omega)) (Nat.le_refl _) st.agr.size rfl rfl ?_)
          intro a w A69 c70 fr (st : St _ [] w [.blk b68 [.int .i64 (((1 + x.toNat % 3 : Nat) : Int)), .int .i64 1, .int .i64 (((k / 2 : Nat) : Int))] 42, .blk b65 [.int .i64 (((1 + x.toNat % 3 : Nat) : Int)), .int .i64 (y)] 43, .blk b64 [.int .i64 (((1 + x.toNat % 3 : Nat) : Int)), .int .i64 1, .int .i64 (((k / 2 : Nat) : Int))] 42, els CI 1 A62 (bK vs (k + 1)).2, .blk b61 ((bK vs (k + 1)).1.map (Value.int .i64) ++ [Value.slice A62 (bK vs (k + 1)).2.length c63]) 27, .blk b50 [.int .i64 1, .int .i64 (((k / 2 : Nat) : Int))] 23, ro b6 (o7 + k * 1) [.int .i64 (y)], ro b4 (o5 + k * 1) [.int .u8 ((x.toNat : Int))], els CI 1 A (bK vs k).2, row slotC 3 42 w0.heap.size (.slice A69 ((((stI sn k).map (slotB ks)) ++ [((((1 + x.toNat % 3 : Nat) : Int), 1, ((k / 2 : Nat) : Int)) : SlotD)]).length) c70) ((((stI sn k).map (slotB ks)) ++ [((((1 + x.toNat % 3 : Nat) : Int), 1, ((k / 2 : Nat) : Int)) : SlotD)])), row slotC 3 42 w0.heap.size (.slice Al (((loI sn k).map (slotB ks)).length) cl) (((loI sn k).map (slotB ks))), row valC 2 43 w0.heap.size (.slice A66 ((((List.range k).map (wantB ks vs)) ++ [((((1 + x.toNat % 3 : Nat) : Int), y) : ValD)]).length) c67) ((((List.range k).map (wantB ks vs)) ++ [((((1 + x.toNat % 3 : Nat) : Int), y) : ValD)])), .blk b3 [.int .i64 0, .int .i64 0, .slice Al (((loI sn k).map (slotB ks)).length) cl, .slice As (((stI sn k).map (slotB ks)).length) cs] 39, .blk b2 ((bK vs (k + 1)).1.map (Value.int .i64) ++ [Value.slice A62 (bK vs (k + 1)).2.length c63]) 27, els C8 1 (some ⟨b4, o5, none⟩) ks, els CI 1 (some ⟨b6, o7, none⟩) vs])
          refine lst rfl (ow_v fr (fa_39_3 (fr.ev rfl)) rfl rfl ?_)
          intro a fr
          refine lst rfl (ow_st fr st 12 rfl rfl rfl rfl sz_37 rfl rfl rfl ?_)
          intro w (st : St _ [] w [.blk b68 [.int .i64 (((1 + x.toNat % 3 : Nat) : Int)), .int .i64 1, .int .i64 (((k / 2 : Nat) : Int))] 42, .blk b65 [.int .i64 (((1 + x.toNat % 3 : Nat) : Int)), .int .i64 (y)] 43, .blk b64 [.int .i64 (((1 + x.toNat % 3 : Nat) : Int)), .int .i64 1, .int .i64 (((k / 2 : Nat) : Int))] 42, els CI 1 A62 (bK vs (k + 1)).2, .blk b61 ((bK vs (k + 1)).1.map (Value.int .i64) ++ [Value.slice A62 (bK vs (k + 1)).2.length c63]) 27, .blk b50 [.int .i64 1, .int .i64 (((k / 2 : Nat) : Int))] 23, ro b6 (o7 + k * 1) [.int .i64 (y)], ro b4 (o5 + k * 1) [.int .u8 ((x.toNat : Int))], els CI 1 A (bK vs k).2, row slotC 3 42 w0.heap.size (.slice A69 ((((stI sn k).map (slotB ks)) ++ [((((1 + x.toNat % 3 : Nat) : Int), 1, ((k / 2 : Nat) : Int)) : SlotD)]).length) c70) ((((stI sn k).map (slotB ks)) ++ [((((1 + x.toNat % 3 : Nat) : Int), 1, ((k / 2 : Nat) : Int)) : SlotD)])), row slotC 3 42 w0.heap.size (.slice Al (((loI sn k).map (slotB ks)).length) cl) (((loI sn k).map (slotB ks))), row valC 2 43 w0.heap.size (.slice A66 ((((List.range k).map (wantB ks vs)) ++ [((((1 + x.toNat % 3 : Nat) : Int), y) : ValD)]).length) c67) ((((List.range k).map (wantB ks vs)) ++ [((((1 + x.toNat % 3 : Nat) : Int), y) : ValD)])), .blk b3 [.int .i64 0, .int .i64 0, .slice Al (((loI sn k).map (slotB ks)).length) cl, .slice A69 ((((stI sn k).map (slotB ks)) ++ [((((1 + x.toNat % 3 : Nat) : Int), 1, ((k / 2 : Nat) : Int)) : SlotD)]).length) c70] 39, .blk b2 ((bK vs (k + 1)).1.map (Value.int .i64) ++ [Value.slice A62 (bK vs (k + 1)).2.length c63]) 27, els C8 1 (some ⟨b4, o5, none⟩) ks, els CI 1 (some ⟨b6, o7, none⟩) vs])
          refine wpList_nil ?_
          refine blk_n ?_
          refine then_n ?_
          refine reg ?_
          refine lst rfl (ow_v fr (rn_add (c := ((k + 1 : Nat) : Int)) (fr.ev rfl) (fr.ev rfl) (wr_i64e (by omega) (by omega) (by omega))) rfl rfl ?_)
          intro a fr
          refine lst rfl (ow_v fr (rn_move (fr.ev rfl)) rfl rfl ?_)
          intro a fr
          refine wpList_nil ?_
          have eqs_ : (((stI sn k).map (slotB ks)) ++ [((((1 + x.toNat % 3 : Nat) : Int), 1, ((k / 2 : Nat) : Int)) : SlotD)]) = (stI sn (k + 1)).map (slotB ks) := by rw [(stI_y hs).1, List.map_append, List.map_singleton, qs]
          (try rw [eqs_] at fr); (try rw [eqs_] at st)
          have eql_ : (loI sn k) = loI sn (k + 1) := (stI_y hs).2.symm
          (try rw [eql_] at fr); (try rw [eql_] at st)
          have eqw_ : (((List.range k).map (wantB ks vs)) ++ [((((1 + x.toNat % 3 : Nat) : Int), y) : ValD)]) = (List.range (k + 1)).map (wantB ks vs) := by rw [List.range_succ, List.map_append, List.map_singleton, qw]
          (try rw [eqw_] at fr); (try rw [eqw_] at st)
          refine then_n ⟨m - (k + 1), ?_, k + 1, A62, A69, Al, A66, c63, c70, cl, c67, (by omega), (hn1), rfl, fr.prune ⟨rfl, rfl, rfl, rfl, rfl, rfl, rfl, rfl, trivial⟩, st.sub (.cons _ (.cons _ (.cons _ (.cons_cons _ (.cons _ (.cons _ (.cons _ (.cons _ (.cons _ (.cons_cons _ (.cons_cons _ (.cons_cons _ (.cons_cons _ (.cons_cons _ (.cons_cons _ (.cons_cons _ .slnil))))))))))))))))⟩
          omega
      · have qs : slotB ks k = (((1 + x.toNat % 3 : Nat) : Int), 1, ((k / 2 : Nat) : Int)) := by unfold slotB; rw [qk, locB_even h2]
        have ql : locB k = (1, ((k / 2 : Nat) : Int)) := locB_even h2
        refine wp_seq ?_
        refine reg ?_
        refine lst rfl (ow_v fr (rn_as (v' := .bool true) (rn_lss (fr.ev rfl) (fr.ev rfl)) (congrArg Value.bool (decide_eq_true (by omega)))) rfl rfl ?_)
        intro a fr
        refine wpList_nil ?_
        refine then_n ?_
        refine wp_seq ?_
        refine cond_t fr rfl rfl ?_
        refine wp_skip ?_
        refine then_n ?_
        refine wp_seq ?_
        refine wp_block ?_
        refine wp_seq ?_
        refine reg ?_
        refine lst rfl (ow_v fr (rn_move (fr.ev rfl)) rfl rfl ?_)
        intro a fr
        refine lst rfl (ow_v fr (rn_assign (fr.ev rfl)) rfl rfl ?_)
        intro a fr
        refine wpList_nil ?_
        refine then_n ?_
        refine wp_seq ?_
        refine reg ?_
        refine lst rfl (ow_v fr (rn_move (fr.ev rfl)) rfl rfl ?_)
        intro a fr
        refine lst rfl (ow_v fr (rn_quo (c := ((k / 2 : Nat) : Int)) (fr.ev rfl) (fr.ev rfl) (by decide) (wdv (a := k) (m := 2) rfl rfl (by omega))) rfl rfl ?_)
        intro a fr
        refine lst rfl (ow_v fr (rn_build (cells := #[.int .i64 1, .int .i64 (((k / 2 : Nat) : Int))]) (by simp only [List.map_toArray, List.map_cons, List.map_nil]; rw [fr.ev (x := .tmp 30) rfl]; rfl)) rfl rfl ?_)
        intro a fr
        refine lst rfl (ow_alloc fr st rfl zv_23 rfl rfl _ (by rfl) ?_)
        intro a w b71 fr st
        refine lst rfl (ow_stN fr st 0 (vs := [.int .i64 1, .int .i64 (((k / 2 : Nat) : Int))]) rfl rfl rfl rfl sz_23 rfl (Nat.le_of_ble_eq_true rfl) rfl ?_)
        intro w (st : St _ [] w [.blk b71 [.int .i64 1, .int .i64 (((k / 2 : Nat) : Int))] 23, ro b6 (o7 + k * 1) [.int .i64 (y)], ro b4 (o5 + k * 1) [.int .u8 ((x.toNat : Int))], els CI 1 A (bK vs k).2, row slotC 3 42 w0.heap.size (.slice As (((stI sn k).map (slotB ks)).length) cs) (((stI sn k).map (slotB ks))), row slotC 3 42 w0.heap.size (.slice Al (((loI sn k).map (slotB ks)).length) cl) (((loI sn k).map (slotB ks))), row valC 2 43 w0.heap.size (.slice Aw (((List.range k).map (wantB ks vs)).length) cw) (((List.range k).map (wantB ks vs))), .blk b3 [.int .i64 0, .int .i64 0, .slice Al (((loI sn k).map (slotB ks)).length) cl, .slice As (((stI sn k).map (slotB ks)).length) cs] 39, .blk b2 ((bK vs k).1.map (Value.int .i64) ++ [Value.slice A (bK vs k).2.length c]) 27, els C8 1 (some ⟨b4, o5, none⟩) ks, els CI 1 (some ⟨b6, o7, none⟩) vs])
        refine wpList_nil ?_
        refine then_n ?_
        refine wp_seq ?_
        refine wp_seq ?_
        refine reg ?_
        refine lst rfl (ow_v fr (rn_move (fr.ev rfl)) rfl rfl ?_)
        intro a fr
        refine lst rfl (ow_v fr (rn_rem (c := ((k % 2 : Nat) : Int)) (fr.ev rfl) (fr.ev rfl) (by decide) (rm_nat (a := k) (m := 2) rfl rfl)) rfl rfl ?_)
        intro a fr
        refine lst rfl (ow_v fr (rn_as (v' := .bool false) (rn_eql (fr.ev rfl) (fr.ev rfl)) (congrArg Value.bool (by simp; omega))) rfl rfl ?_)
        intro a fr
        refine wpList_nil ?_
        refine then_n ?_
        refine cond_f fr rfl rfl ?_
        refine wp_skip ?_
        refine then_n ?_
        refine wp_seq ?_
        refine dr_start (by kernel_rfl) st (.cons_cons _ (.cons_cons _ (.cons_cons _ (.cons_cons _ (.cons_cons _ (.cons_cons _ (.cons_cons _ (.cons_cons _ (.cons_cons _ (.cons_cons _ (.cons_cons _ .slnil))))))))))) ?_
        intro w st
        refine dr_take 0 rfl (by kernel_rfl) (by kernel_rfl) (by kernel_rfl) (fun _ _ _ h => h) fr rfl (st.sub (.cons_cons _ (.cons_cons _ (.cons_cons _ (.cons_cons _ (.cons_cons _ (.cons_cons _ (.cons_cons _ (.cons_cons _ (.cons_cons _ (.cons_cons _ (.cons_cons _ .slnil)))))))))))) (fun w st => rn_loadN (cs := [.int .i64 1, .int .i64 (((k / 2 : Nat) : Int))]) (fr.ev rfl) Try.underlying23 rfl sz_23 (st.blkrange 0 rfl 0 rfl)) rfl rfl ?_
        intro a fr
        refine dr_take 1 rfl (by kernel_rfl) (by kernel_rfl) (by kernel_rfl) (fun _ _ _ h => h) fr rfl (st.sub (.cons_cons _ (.cons_cons _ (.cons_cons _ (.cons_cons _ (.cons_cons _ (.cons_cons _ (.cons_cons _ (.cons_cons _ (.cons_cons _ (.cons_cons _ (.cons_cons _ .slnil)))))))))))) (fun w st => rn_move (fr.ev rfl)) rfl rfl ?_
        intro a fr
        refine dr_take 2 rfl (by kernel_rfl) (by kernel_rfl) (by kernel_rfl) (fun _ _ _ h => h) fr rfl (st.sub (.cons_cons _ (.cons_cons _ (.cons_cons _ (.cons_cons _ (.cons_cons _ (.cons_cons _ (.cons_cons _ (.cons_cons _ (.cons_cons _ (.cons_cons _ (.cons_cons _ .slnil)))))))))))) (fun w st => rn_move (fr.ev rfl)) rfl rfl ?_
        intro a fr
        refine dr_take 3 rfl (by kernel_rfl) (by kernel_rfl) (by kernel_rfl) (fun _ _ _ h => h) fr rfl (st.sub (.cons_cons _ (.cons_cons _ (.cons_cons _ (.cons_cons _ (.cons_cons _ (.cons_cons _ (.cons_cons _ (.cons_cons _ (.cons_cons _ (.cons_cons _ (.cons_cons _ .slnil)))))))))))) (fun w st => rn_at (i := k) (fr.ev rfl) (fr.ev rfl) Try.underlying25 sz_2 (by omega) (by rfl)) rfl rfl ?_
        intro a fr
        refine dr_take 4 rfl (by kernel_rfl) (by kernel_rfl) (by kernel_rfl) (fun _ _ _ h => h) fr rfl (st.sub (.cons_cons _ (.cons_cons _ (.cons_cons _ (.cons_cons _ (.cons_cons _ (.cons_cons _ (.cons_cons _ (.cons_cons _ (.cons_cons _ (.cons_cons _ (.cons_cons _ .slnil)))))))))))) (fun w st => rn_load (fr.ev rfl) Try.underlying2 rfl (st.rocell 1 rfl (j := 0) rfl)) rfl rfl ?_
        intro a fr
        refine dr_take 5 rfl (by kernel_rfl) (by kernel_rfl) (by kernel_rfl) (fun _ _ _ h => h) fr rfl (st.sub (.cons_cons _ (.cons_cons _ (.cons_cons _ (.cons_cons _ (.cons_cons _ (.cons_cons _ (.cons_cons _ (.cons_cons _ (.cons_cons _ (.cons_cons _ (.cons_cons _ .slnil)))))))))))) (fun w st => rn_loadN (cs := (bK vs k).1.map (Value.int .i64) ++ [Value.slice A (bK vs k).2.length c]) (fr.ev rfl) Try.underlying27 rfl (by rw [bK_17 _ _ _]; exact sz_27) (st.blkrange 8 rfl 0 (by rw [List.drop_zero, List.take_length]))) rfl rfl ?_
        intro a fr
        refine dr_two 6 10 (by kernel_rfl) rfl rfl rfl rfl ?_ ?_
        · refine ow_call fr rfl rfl Try.call11 (put_next vs k (by omega) 1 ((k / 2 : Nat) : Int) y ql qy A c hnA _ (st.get 3 rfl).1) rfl rfl ?_
          rintro e w ⟨A72, c73, rfl, he1, hn1, hf1, hag⟩
          refine ⟨_, rfl, ?_⟩
          intro a fr
          have st := st.call_els (C := CI) (sz := 1) hag (by decide) CI_len he1 hf1
          clear he1 hf1 hag
          refine ⟨st.sub (.cons _ (.cons_cons _ (.cons_cons _ (.cons_cons _ (.cons_cons _ (.cons_cons _ (.cons_cons _ (.cons_cons _ (.cons_cons _ (.cons_cons _ (.cons_cons _ (.cons_cons _ .slnil)))))))))))), ?_⟩
          refine dr_take 7 rfl (by kernel_rfl) (by kernel_rfl) (by kernel_rfl) (fun _ _ _ h => h) fr rfl (st.sub (.cons _ (.cons_cons _ (.cons_cons _ (.cons_cons _ (.cons_cons _ (.cons_cons _ (.cons_cons _ (.cons_cons _ (.cons_cons _ (.cons_cons _ (.cons_cons _ (.cons_cons _ .slnil))))))))))))) (fun w st => rn_move (fr.ev rfl)) rfl rfl ?_
          intro a fr
          refine dr_take 8 rfl (by kernel_rfl) (by kernel_rfl) (by kernel_rfl) (fun _ _ _ h => h) fr rfl (st.sub (.cons _ (.cons_cons _ (.cons_cons _ (.cons_cons _ (.cons_cons _ (.cons_cons _ (.cons_cons _ (.cons_cons _ (.cons_cons _ (.cons_cons _ (.cons_cons _ (.cons_cons _ .slnil))))))))))))) (fun w st => rn_extract (fr.ev rfl) rfl) rfl rfl ?_
          intro a fr
          refine dr_take 9 rfl (by kernel_rfl) (by kernel_rfl) (by kernel_rfl) (fun _ _ _ h => h) fr rfl (st.sub (.cons _ (.cons_cons _ (.cons_cons _ (.cons_cons _ (.cons_cons _ (.cons_cons _ (.cons_cons _ (.cons_cons _ (.cons_cons _ (.cons_cons _ (.cons_cons _ (.cons_cons _ .slnil))))))))))))) (fun w st => rn_extract (fr.ev rfl) rfl) rfl rfl ?_
          intro a fr
          refine dr_one 10 (by kernel_rfl) rfl rfl (ow_alloc fr st rfl zv_27 rfl rfl _ (by rfl) ?_)
          intro a w b74 fr st
          refine ⟨st.sub (.cons _ (.cons _ (.cons_cons _ (.cons_cons _ (.cons_cons _ (.cons_cons _ (.cons_cons _ (.cons_cons _ (.cons_cons _ (.cons_cons _ (.cons_cons _ (.cons_cons _ (.cons_cons _ .slnil))))))))))))), ?_⟩
          refine dr_one 11 (by kernel_rfl) rfl rfl (ow_stN fr st 0 (vs := (bK vs (k + 1)).1.map (Value.int .i64) ++ [Value.slice A72 (bK vs (k + 1)).2.length c73]) rfl rfl rfl (regsL_one _ _ _ _) (by rw [bK_17 _ _ _]; exact sz_27) rfl (by simp only [bK_17]; exact Nat.le_of_ble_eq_true rfl) rfl ?_)
          intro w st
          rw [setR_all _ _ (by first | (simp only [bK_17]; done) | (simp only [bK_17]; rfl))] at st
          replace st : St _ [] w [.blk b74 ((bK vs (k + 1)).1.map (Value.int .i64) ++ [Value.slice A72 (bK vs (k + 1)).2.length c73]) 27, els CI 1 A72 (bK vs (k + 1)).2, .blk b71 [.int .i64 1, .int .i64 (((k / 2 : Nat) : Int))] 23, ro b6 (o7 + k * 1) [.int .i64 (y)], ro b4 (o5 + k * 1) [.int .u8 ((x.toNat : Int))], els CI 1 A (bK vs k).2, row slotC 3 42 w0.heap.size (.slice As (((stI sn k).map (slotB ks)).length) cs) (((stI sn k).map (slotB ks))), row slotC 3 42 w0.heap.size (.slice Al (((loI sn k).map (slotB ks)).length) cl) (((loI sn k).map (slotB ks))), row valC 2 43 w0.heap.size (.slice Aw (((List.range k).map (wantB ks vs)).length) cw) (((List.range k).map (wantB ks vs))), .blk b3 [.int .i64 0, .int .i64 0, .slice Al (((loI sn k).map (slotB ks)).length) cl, .slice As (((stI sn k).map (slotB ks)).length) cs] 39, .blk b2 ((bK vs k).1.map (Value.int .i64) ++ [Value.slice A (bK vs k).2.length c]) 27, els C8 1 (some ⟨b4, o5, none⟩) ks, els CI 1 (some ⟨b6, o7, none⟩) vs] := st
          refine ⟨st.sub (.cons _ (.cons _ (.cons_cons _ (.cons_cons _ (.cons_cons _ (.cons_cons _ (.cons_cons _ (.cons_cons _ (.cons_cons _ (.cons_cons _ (.cons_cons _ (.cons_cons _ (.cons_cons _ .slnil))))))))))))), ?_⟩
          refine dr_take 12 rfl (by kernel_rfl) (by kernel_rfl) (by kernel_rfl) (fun _ _ _ h => h) fr rfl (st.sub (.cons _ (.cons _ (.cons_cons _ (.cons_cons _ (.cons_cons _ (.cons_cons _ (.cons_cons _ (.cons_cons _ (.cons_cons _ (.cons_cons _ (.cons_cons _ (.cons_cons _ (.cons_cons _ .slnil)))))))))))))) (fun w st => rn_assign (fr.ev rfl)) rfl rfl ?_
          intro a fr
          refine dr_done (by kernel_rfl) ?_
          refine then_n ?_
          refine wp_seq ?_
          refine wp_seq ?_
          refine reg ?_
          refine lst rfl (ow_v fr (rn_move (fr.ev rfl)) rfl rfl ?_)
          intro a fr
          refine lst rfl (ow_v fr (rn_as (rn_neq (fr.ev rfl) (fr.ev rfl)) (by rfl)) rfl rfl ?_)
          intro a fr
          refine wpList_nil ?_
          refine then_n ?_
          refine cond_f fr rfl rfl ?_
          refine wp_skip ?_
          refine then_n ?_
          refine wp_seq ?_
          refine reg ?_
          refine lst rfl (ow_v fr (rn_loadN (cs := (bK vs (k + 1)).1.map (Value.int .i64) ++ [Value.slice A72 (bK vs (k + 1)).2.length c73]) (fr.ev rfl) Try.underlying27 rfl (by rw [bK_17 _ _ _]; exact sz_27) (st.blkrange 0 rfl 0 (by rw [List.drop_zero, List.take_length]))) rfl rfl ?_)
          intro a fr
          refine lst rfl (ow_stN fr st 10 (vs := (bK vs (k + 1)).1.map (Value.int .i64) ++ [Value.slice A72 (bK vs (k + 1)).2.length c73]) rfl rfl rfl (regsL_one _ _ _ _) (by rw [bK_17 _ _ _]; exact sz_27) rfl (by simp only [bK_17]; exact Nat.le_of_ble_eq_true rfl) rfl ?_)
          intro w st
          rw [setR_all _ _ (by first | (simp only [bK_17]; done) | (simp only [bK_17]; rfl))] at st
          replace st : St _ [] w [.blk b74 ((bK vs (k + 1)).1.map (Value.int .i64) ++ [Value.slice A72 (bK vs (k + 1)).2.length c73]) 27, els CI 1 A72 (bK vs (k + 1)).2, .blk b71 [.int .i64 1, .int .i64 (((k / 2 : Nat) : Int))] 23, ro b6 (o7 + k * 1) [.int .i64 (y)], ro b4 (o5 + k * 1) [.int .u8 ((x.toNat : Int))], els CI 1 A (bK vs k).2, row slotC 3 42 w0.heap.size (.slice As (((stI sn k).map (slotB ks)).length) cs) (((stI sn k).map (slotB ks))), row slotC 3 42 w0.heap.size (.slice Al (((loI sn k).map (slotB ks)).length) cl) (((loI sn k).map (slotB ks))), row valC 2 43 w0.heap.size (.slice Aw (((List.range k).map (wantB ks vs)).length) cw) (((List.range k).map (wantB ks vs))), .blk b3 [.int .i64 0, .int .i64 0, .slice Al (((loI sn k).map (slotB ks)).length) cl, .slice As (((stI sn k).map (slotB ks)).length) cs] 39, .blk b2 ((bK vs (k + 1)).1.map (Value.int .i64) ++ [Value.slice A72 (bK vs (k + 1)).2.length c73]) 27, els C8 1 (some ⟨b4, o5, none⟩) ks, els CI 1 (some ⟨b6, o7, none⟩) vs] := st
          refine wpList_nil ?_
          refine then_n ?_
          refine wp_seq ?_
          refine dr_start (by kernel_rfl) st (.cons_cons _ (.cons_cons _ (.cons_cons _ (.cons_cons _ (.cons_cons _ (.cons_cons _ (.cons_cons _ (.cons_cons _ (.cons_cons _ (.cons_cons _ (.cons_cons _ (.cons_cons _ (.cons_cons _ .slnil))))))))))))) ?_
          intro w st
          refine dr_take 0 rfl (by kernel_rfl) (by kernel_rfl) (by kernel_rfl) (fun _ _ _ h => h) fr rfl (st.sub (.cons_cons _ (.cons_cons _ (.cons_cons _ (.cons_cons _ (.cons_cons _ (.cons_cons _ (.cons_cons _ (.cons_cons _ (.cons_cons _ (.cons_cons _ (.cons_cons _ (.cons_cons _ (.cons_cons _ .slnil)))))))))))))) (fun w st => rn_move (fr.ev rfl)) rfl rfl ?_
          intro a fr
          refine dr_take 1 rfl (by kernel_rfl) (by kernel_rfl) (by kernel_rfl) (fun _ _ _ h => h) fr rfl (st.sub (.cons_cons _ (.cons_cons _ (.cons_cons _ (.cons_cons _ (.cons_cons _ (.cons_cons _ (.cons_cons _ (.cons_cons _ (.cons_cons _ (.cons_cons _ (.cons_cons _ (.cons_cons _ (.cons_cons _ .slnil)))))))))))))) (fun w st => rn_move (fr.ev rfl)) rfl rfl ?_
          intro a fr
          refine dr_take 2 rfl (by kernel_rfl) (by kernel_rfl) (by kernel_rfl) (fun _ _ _ h => h) fr rfl (st.sub (.cons_cons _ (.cons_cons _ (.cons_cons _ (.cons_cons _ (.cons_cons _ (.cons_cons _ (.cons_cons _ (.cons_cons _ (.cons_cons _ (.cons_cons _ (.cons_cons _ (.cons_cons _ (.cons_cons _ .slnil)))))))))))))) (fun w st => rn_at (i := k) (fr.ev rfl) (fr.ev rfl) Try.underlying36 sz_5 (by omega) (by rfl)) rfl rfl ?_
          intro a fr
          refine dr_take 3 rfl (by kernel_rfl) (by kernel_rfl) (by kernel_rfl) (fun _ _ _ h => h) fr rfl (st.sub (.cons_cons _ (.cons_cons _ (.cons_cons _ (.cons_cons _ (.cons_cons _ (.cons_cons _ (.cons_cons _ (.cons_cons _ (.cons_cons _ (.cons_cons _ (.cons_cons _ (.cons_cons _ (.cons_cons _ .slnil)))))))))))))) (fun w st => rn_load (fr.ev rfl) Try.underlying5 rfl (st.rocell 4 rfl (j := 0) rfl)) rfl rfl ?_
          intro a fr
          refine dr_take 4 rfl (by kernel_rfl) (by kernel_rfl) (by kernel_rfl) (fun _ _ _ h => h) fr rfl (st.sub (.cons_cons _ (.cons_cons _ (.cons_cons _ (.cons_cons _ (.cons_cons _ (.cons_cons _ (.cons_cons _ (.cons_cons _ (.cons_cons _ (.cons_cons _ (.cons_cons _ (.cons_cons _ (.cons_cons _ .slnil)))))))))))))) (fun w st => rn_conv (c := (x.toNat : Int)) (fr.ev rfl) (by kernel_rfl) Try.underlying3 (wr_i64 _ (by omega) (by omega))) rfl rfl ?_
          intro a fr
          refine dr_take 5 rfl (by kernel_rfl) (by kernel_rfl) (by kernel_rfl) (fun _ _ _ h => h) fr rfl (st.sub (.cons_cons _ (.cons_cons _ (.cons_cons _ (.cons_cons _ (.cons_cons _ (.cons_cons _ (.cons_cons _ (.cons_cons _ (.cons_cons _ (.cons_cons _ (.cons_cons _ (.cons_cons _ (.cons_cons _ .slnil)))))))))))))) (fun w st => rn_rem (c := ((x.toNat % 3 : Nat) : Int)) (fr.ev rfl) (fr.ev rfl) (by decide) (rm_nat (a := x.toNat) (m := 3) rfl rfl)) rfl rfl ?_
          intro a fr
          refine dr_take 6 rfl (by kernel_rfl) (by kernel_rfl) (by kernel_rfl) (fun _ _ _ h => h) fr rfl (st.sub (.cons_cons _ (.cons_cons _ (.cons_cons _ (.cons_cons _ (.cons_cons _ (.cons_cons _ (.cons_cons _ (.cons_cons _ (.cons_cons _ (.cons_cons _ (.cons_cons _ (.cons_cons _ (.cons_cons _ .slnil)))))))))))))) (fun w st => rn_add (c := ((1 + x.toNat % 3 : Nat) : Int)) (fr.ev rfl) (fr.ev rfl) (wr_i64e (by omega) (by omega) (by omega))) rfl rfl ?_
          intro a fr
          refine dr_take 7 rfl (by kernel_rfl) (by kernel_rfl) (by kernel_rfl) (fun _ _ _ h => h) fr rfl (st.sub (.cons_cons _ (.cons_cons _ (.cons_cons _ (.cons_cons _ (.cons_cons _ (.cons_cons _ (.cons_cons _ (.cons_cons _ (.cons_cons _ (.cons_cons _ (.cons_cons _ (.cons_cons _ (.cons_cons _ .slnil)))))))))))))) (fun w st => rn_loadN (cs := [.int .i64 1, .int .i64 (((k / 2 : Nat) : Int))]) (fr.ev rfl) Try.underlying23 rfl sz_23 (st.blkrange 2 rfl 0 rfl)) rfl rfl ?_
          intro a fr
          refine dr_take 8 rfl (by kernel_rfl) (by kernel_rfl) (by kernel_rfl) (fun _ _ _ h => h) fr rfl (st.sub (.cons_cons _ (.cons_cons _ (.cons_cons _ (.cons_cons _ (.cons_cons _ (.cons_cons _ (.cons_cons _ (.cons_cons _ (.cons_cons _ (.cons_cons _ (.cons_cons _ (.cons_cons _ (.cons_cons _ .slnil)))))))))))))) (fun w st => rn_build (cells := #[.int .i64 (((1 + x.toNat % 3 : Nat) : Int)), .int .i64 1, .int .i64 (((k / 2 : Nat) : Int))]) (by simp only [List.map_toArray, List.map_cons, List.map_nil]; rw [fr.ev (x := .tmp 56) rfl, fr.ev (x := .tmp 57) rfl]; rfl)) rfl rfl ?_
          intro a fr
          refine dr_one 9 (by kernel_rfl) rfl rfl (ow_alloc fr st rfl zv_42 rfl rfl _ (by rfl) ?_)
          intro a w b75 fr st
          refine ⟨st.sub (.cons _ (.cons_cons _ (.cons_cons _ (.cons_cons _ (.cons_cons _ (.cons_cons _ (.cons_cons _ (.cons_cons _ (.cons_cons _ (.cons_cons _ (.cons_cons _ (.cons_cons _ (.cons_cons _ (.cons_cons _ .slnil)))))))))))))), ?_⟩
          refine dr_one 10 (by kernel_rfl) rfl rfl (ow_stN fr st 0 (vs := [.int .i64 (((1 + x.toNat % 3 : Nat) : Int)), .int .i64 1, .int .i64 (((k / 2 : Nat) : Int))]) rfl rfl rfl rfl sz_42 rfl (Nat.le_of_ble_eq_true rfl) rfl ?_)
          intro w (st : St _ [] w [.blk b75 [.int .i64 (((1 + x.toNat % 3 : Nat) : Int)), .int .i64 1, .int .i64 (((k / 2 : Nat) : Int))] 42, .blk b74 ((bK vs (k + 1)).1.map (Value.int .i64) ++ [Value.slice A72 (bK vs (k + 1)).2.length c73]) 27, els CI 1 A72 (bK vs (k + 1)).2, .blk b71 [.int .i64 1, .int .i64 (((k / 2 : Nat) : Int))] 23, ro b6 (o7 + k * 1) [.int .i64 (y)], ro b4 (o5 + k * 1) [.int .u8 ((x.toNat : Int))], els CI 1 A (bK vs k).2, row slotC 3 42 w0.heap.size (.slice As (((stI sn k).map (slotB ks)).length) cs) (((stI sn k).map (slotB ks))), row slotC 3 42 w0.heap.size (.slice Al (((loI sn k).map (slotB ks)).length) cl) (((loI sn k).map (slotB ks))), row valC 2 43 w0.heap.size (.slice Aw (((List.range k).map (wantB ks vs)).length) cw) (((List.range k).map (wantB ks vs))), .blk b3 [.int .i64 0, .int .i64 0, .slice Al (((loI sn k).map (slotB ks)).length) cl, .slice As (((stI sn k).map (slotB ks)).length) cs] 39, .blk b2 ((bK vs (k + 1)).1.map (Value.int .i64) ++ [Value.slice A72 (bK vs (k + 1)).2.length c73]) 27, els C8 1 (some ⟨b4, o5, none⟩) ks, els CI 1 (some ⟨b6, o7, none⟩) vs])
          refine ⟨st.sub (.cons _ (.cons_cons _ (.cons_cons _ (.cons_cons _ (.cons_cons _ (.cons_cons _ (.cons_cons _ (.cons_cons _ (.cons_cons _ (.cons_cons _ (.cons_cons _ (.cons_cons _ (.cons_cons _ (.cons_cons _ .slnil)))))))))))))), ?_⟩
          refine dr_done (by kernel_rfl) ?_
          refine then_n ?_
          refine wp_seq ?_
          refine dr_start (by kernel_rfl) st (.cons_cons _ (.cons_cons _ (.cons_cons _ (.cons_cons _ (.cons_cons _ (.cons_cons _ (.cons_cons _ (.cons_cons _ (.cons_cons _ (.cons _ (.cons_cons _ (.cons_cons _ (.cons_cons _ (.cons_cons _ .slnil)))))))))))))) ?_
          intro w st
          refine dr_take 0 rfl (by kernel_rfl) (by kernel_rfl) (by kernel_rfl) (fun _ _ _ h => h) fr rfl (st.sub (.cons_cons _ (.cons_cons _ (.cons_cons _ (.cons_cons _ (.cons_cons _ (.cons_cons _ (.cons_cons _ (.cons_cons _ (.cons_cons _ (.cons _ (.cons_cons _ (.cons_cons _ (.cons_cons _ (.cons_cons _ .slnil))))))))))))))) (fun w st => rn_move (fr.ev rfl)) rfl rfl ?_
          intro a fr
          refine dr_take 1 rfl (by kernel_rfl) (by kernel_rfl) (by kernel_rfl) (fun _ _ _ h => h) fr rfl (st.sub (.cons_cons _ (.cons_cons _ (.cons_cons _ (.cons_cons _ (.cons_cons _ (.cons_cons _ (.cons_cons _ (.cons_cons _ (.cons_cons _ (.cons _ (.cons_cons _ (.cons_cons _ (.cons_cons _ (.cons_cons _ .slnil))))))))))))))) (fun w st => fa_42_0 (fr.ev rfl)) rfl rfl ?_
          intro a fr
          refine dr_take 2 rfl (by kernel_rfl) (by kernel_rfl) (by kernel_rfl) (fun _ _ _ h => h) fr rfl (st.sub (.cons_cons _ (.cons_cons _ (.cons_cons _ (.cons_cons _ (.cons_cons _ (.cons_cons _ (.cons_cons _ (.cons_cons _ (.cons_cons _ (.cons _ (.cons_cons _ (.cons_cons _ (.cons_cons _ (.cons_cons _ .slnil))))))))))))))) (fun w st => rn_load (fr.ev rfl) Try.underlying3 rfl (st.cell 0 rfl rfl)) rfl rfl ?_
          intro a fr
          refine dr_take 3 rfl (by kernel_rfl) (by kernel_rfl) (by kernel_rfl) (fun _ _ _ h => h) fr rfl (st.sub (.cons_cons _ (.cons_cons _ (.cons_cons _ (.cons_cons _ (.cons_cons _ (.cons_cons _ (.cons_cons _ (.cons_cons _ (.cons_cons _ (.cons _ (.cons_cons _ (.cons_cons _ (.cons_cons _ (.cons_cons _ .slnil))))))))))))))) (fun w st => rn_move (fr.ev rfl)) rfl rfl ?_
          intro a fr
          refine dr_take 4 rfl (by kernel_rfl) (by kernel_rfl) (by kernel_rfl) (fun _ _ _ h => h) fr rfl (st.sub (.cons_cons _ (.cons_cons _ (.cons_cons _ (.cons_cons _ (.cons_cons _ (.cons_cons _ (.cons_cons _ (.cons_cons _ (.cons_cons _ (.cons _ (.cons_cons _ (.cons_cons _ (.cons_cons _ (.cons_cons _ .slnil))))))))))))))) (fun w st => rn_move (fr.ev rfl)) rfl rfl ?_
          intro a fr
          refine dr_take 5 rfl (by kernel_rfl) (by kernel_rfl) (by kernel_rfl) (fun _ _ _ h => h) fr rfl (st.sub (.cons_cons _ (.cons_cons _ (.cons_cons _ (.cons_cons _ (.cons_cons _ (.cons_cons _ (.cons_cons _ (.cons_cons _ (.cons_cons _ (.cons _ (.cons_cons _ (.cons_cons _ (.cons_cons _ (.cons_cons _ .slnil))))))))))))))) (fun w st => rn_at (i := k) (fr.ev rfl) (fr.ev rfl) Try.underlying25 sz_2 (by omega) (by rfl)) rfl rfl ?_
          intro a fr
          refine dr_take 6 rfl (by kernel_rfl) (by kernel_rfl) (by kernel_rfl) (fun _ _ _ h => h) fr rfl (st.sub (.cons_cons _ (.cons_cons _ (.cons_cons _ (.cons_cons _ (.cons_cons _ (.cons_cons _ (.cons_cons _ (.cons_cons _ (.cons_cons _ (.cons _ (.cons_cons _ (.cons_cons _ (.cons_cons _ (.cons_cons _ .slnil))))))))))))))) (fun w st => rn_load (fr.ev rfl) Try.underlying2 rfl (st.rocell 4 rfl (j := 0) rfl)) rfl rfl ?_
          intro a fr
          refine dr_take 7 rfl (by kernel_rfl) (by kernel_rfl) (by kernel_rfl) (fun _ _ _ h => h) fr rfl (st.sub (.cons_cons _ (.cons_cons _ (.cons_cons _ (.cons_cons _ (.cons_cons _ (.cons_cons _ (.cons_cons _ (.cons_cons _ (.cons_cons _ (.cons _ (.cons_cons _ (.cons_cons _ (.cons_cons _ (.cons_cons _ .slnil))))))))))))))) (fun w st => rn_build (cells := #[.int .i64 (((1 + x.toNat % 3 : Nat) : Int)), .int .i64 (y)]) (by simp only [List.map_toArray, List.map_cons, List.map_nil]; rw [fr.ev (x := .tmp 61) rfl, fr.ev (x := .tmp 65) rfl]; rfl)) rfl rfl ?_
          intro a fr
          refine dr_one 8 (by kernel_rfl) rfl rfl (ow_bslice (E := 43) fr st rfl [.int .i64 (((1 + x.toNat % 3 : Nat) : Int)), .int .i64 (y)] (fun w => by simp only [List.map_toArray, List.map_cons, List.map_nil]; rw [fr.ev (x := .tmp 66) rfl]; kernel_rfl) rfl rfl ?_)
          intro a w b76 fr st
          refine ⟨st.sub (.cons _ (.cons_cons _ (.cons_cons _ (.cons_cons _ (.cons_cons _ (.cons_cons _ (.cons_cons _ (.cons_cons _ (.cons_cons _ (.cons_cons _ (.cons _ (.cons_cons _ (.cons_cons _ (.cons_cons _ (.cons_cons _ .slnil))))))))))))))), ?_⟩
          refine dr_one 9 (by kernel_rfl) rfl rfl (ow_append1 fr st 10 0 (((((1 + x.toNat % 3 : Nat) : Int), y) : ValD)) rfl rfl rfl rfl rfl Try.underlying40 inf_43 (by rfl) (by decide) (fun _ => rfl) rfl (by (simp; have := stI_len sn k; omega)) (by unfold maxLen; (simp; have := stI_len sn k; omega)) (Nat.le_refl _) st.agr.size rfl rfl ?_)
          intro a w A77 c78 fr (st : St _ [] w [.blk b76 [.int .i64 (((1 + x.toNat % 3 : Nat) : Int)), .int .i64 (y)] 43, .blk b75 [.int .i64 (((1 + x.toNat % 3 : Nat) : Int)), .int .i64 1, .int .i64 (((k / 2 : Nat) : Int))] 42, .blk b74 ((bK vs (k + 1)).1.map (Value.int .i64) ++ [Value.slice A72 (bK vs (k + 1)).2.length c73]) 27, els CI 1 A72 (bK vs (k + 1)).2, .blk b71 [.int .i64 1, .int .i64 (((k / 2 : Nat) : Int))] 23, ro b6 (o7 + k * 1) [.int .i64 (y)], ro b4 (o5 + k * 1) [.int .u8 ((x.toNat : Int))], els CI 1 A (bK vs k).2, row slotC 3 42 w0.heap.size (.slice As (((stI sn k).map (slotB ks)).length) cs) (((stI sn k).map (slotB ks))), row slotC 3 42 w0.heap.size (.slice Al (((loI sn k).map (slotB ks)).length) cl) (((loI sn k).map (slotB ks))), row valC 2 43 w0.heap.size (.slice A77 ((((List.range k).map (wantB ks vs)) ++ [((((1 + x.toNat % 3 : Nat) : Int), y) : ValD)]).length) c78) ((((List.range k).map (wantB ks vs)) ++ [((((1 + x.toNat % 3 : Nat) : Int), y) : ValD)])), .blk b3 [.int .i64 0, .int .i64 0, .slice Al (((loI sn k).map (slotB ks)).length) cl, .slice As (((stI sn k).map (slotB ks)).length) cs] 39, .blk b2 ((bK vs (k + 1)).1.map (Value.int .i64) ++ [Value.slice A72 (bK vs (k + 1)).2.length c73]) 27, els C8 1 (some ⟨b4, o5, none⟩) ks, els CI 1 (some ⟨b6, o7, none⟩) vs])
          refine ⟨st.sub (.cons _ (.cons_cons _ (.cons_cons _ (.cons_cons _ (.cons_cons _ (.cons_cons _ (.cons_cons _ (.cons_cons _ (.cons_cons _ (.cons_cons _ (.cons _ (.cons_cons _ (.cons_cons _ (.cons_cons _ (.cons_cons _ .slnil))))))))))))))), ?_⟩
          refine dr_take 10 rfl (by kernel_rfl) (by kernel_rfl) (by kernel_rfl) (fun _ _ _ h => h) fr rfl (st.sub (.cons _ (.cons_cons _ (.cons_cons _ (.cons_cons _ (.cons_cons _ (.cons_cons _ (.cons_cons _ (.cons_cons _ (.cons_cons _ (.cons_cons _ (.cons _ (.cons_cons _ (.cons_cons _ (.cons_cons _ (.cons_cons _ .slnil)))))))))))))))) (fun w st => rn_assign (fr.ev rfl)) rfl rfl ?_
          intro a fr
          refine dr_done (by kernel_rfl) ?_
          refine then_n ?_
          refine wp_seq ?_
          refine reg ?_
          refine lst rfl (ow_v fr (rn_move (fr.ev rfl)) rfl rfl ?_)
          intro a fr
          refine lst rfl (ow_v fr (rn_move (fr.ev rfl)) rfl rfl ?_)
          intro a fr
          refine lst rfl (ow_v fr (rn_conv (c := (sn : Nat)) (fr.ev rfl) (by kernel_rfl) Try.underlying3 (wr_i64 _ (by omega) (by omega))) rfl rfl ?_)
          intro a fr
          refine lst rfl (ow_v fr (rn_as (v' := .bool false) (rn_lss (fr.ev rfl) (fr.ev rfl)) (congrArg Value.bool (decide_eq_false (by omega)))) rfl rfl ?_)
          intro a fr
          refine wpList_nil ?_
          refine then_n ?_
          refine cond_f fr rfl rfl ?_
          refine reg ?_
          refine lst rfl (ow_v fr (fa_39_2 (fr.ev rfl)) rfl rfl ?_)
          intro a fr
          refine lst rfl (ow_v fr (rn_load (fr.ev rfl) Try.underlying37 rfl (st.cell 11 rfl rfl)) rfl rfl ?_)
          intro a fr
          refine lst rfl (ow_v fr (rn_loadN (cs := [.int .i64 (((1 + x.toNat % 3 : Nat) : Int)), .int .i64 1, .int .i64 (((k / 2 : Nat) : Int))]) (fr.ev rfl) Try.underlying42 rfl sz_42 (st.blkrange 1 rfl 0 rfl)) rfl rfl ?_)
          intro a fr
          refine lst rfl (ow_bslice (E := 42) fr st rfl [.int .i64 (((1 + x.toNat % 3 : Nat) : Int)), .int .i64 1, .int .i64 (((k / 2 : Nat) : Int))] (fun w => by simp only [List.map_toArray, List.map_cons, List.map_nil]; rw [fr.ev (x := .tmp 81) rfl]; kernel_rfl) rfl rfl ?_)
          intro a w b79 fr st
          refine lst rfl (ow_append1 fr st 10 0 (((((1 + x.toNat % 3 : Nat) : Int), 1, ((k / 2 : Nat) : Int)) : SlotD)) rfl rfl rfl rfl rfl Try.underlying37 inf_42 (by rfl) (by decide) (fun _ => rfl) rfl (by (simp; have := stI_len sn k; omega)) (by unfold maxLen; (simp; have := stI_len sn k; omega)) (Nat.le_refl _) st.agr.size rfl rfl ?_)
          intro a w A80 c81 fr (st : St _ [] w [.blk b79 [.int .i64 (((1 + x.toNat % 3 : Nat) : Int)), .int .i64 1, .int .i64 (((k / 2 : Nat) : Int))] 42, .blk b76 [.int .i64 (((1 + x.toNat % 3 : Nat) : Int)), .int .i64 (y)] 43, .blk b75 [.int .i64 (((1 + x.toNat % 3 : Nat) : Int)), .int .i64 1, .int .i64 (((k / 2 : Nat) : Int))] 42, .blk b74 ((bK vs (k + 1)).1.map (Value.int .i64) ++ [Value.slice A72 (bK vs (k + 1)).2.length c73]) 27, els CI 1 A72 (bK vs (k + 1)).2, .blk b71 [.int .i64 1, .int .i64 (((k / 2 : Nat) : Int))] 23, ro b6 (o7 + k * 1) [.int .i64 (y)], ro b4 (o5 + k * 1) [.int .u8 ((x.toNat : Int))], els CI 1 A (bK vs k).2, row slotC 3 42 w0.heap.size (.slice As (((stI sn k).map (slotB ks)).length) cs) (((stI sn k).map (slotB ks))), row slotC 3 42 w0.heap.size (.slice A80 ((((loI sn k).map (slotB ks)) ++ [((((1 + x.toNat % 3 : Nat) : Int), 1, ((k / 2 : Nat) : Int)) : SlotD)]).length) c81) ((((loI sn k).map (slotB ks)) ++ [((((1 + x.toNat % 3 : Nat) : Int), 1, ((k / 2 : Nat) : Int)) : SlotD)])), row valC 2 43 w0.heap.size (.slice A77 ((((List.range k).map (wantB ks vs)) ++ [((((1 + x.toNat % 3 : Nat) : Int), y) : ValD)]).length) c78) ((((List.range k).map (wantB ks vs)) ++ [((((1 + x.toNat % 3 : Nat) : Int), y) : ValD)])), .blk b3 [.int .i64 0, .int .i64 0, .slice Al (((loI sn k).map (slotB ks)).length) cl, .slice As (((stI sn k).map (slotB ks)).length) cs] 39, .blk b2 ((bK vs (k + 1)).1.map (Value.int .i64) ++ [Value.slice A72 (bK vs (k + 1)).2.length c73]) 27, els C8 1 (some ⟨b4, o5, none⟩) ks, els CI 1 (some ⟨b6, o7, none⟩) vs])
          refine lst rfl (ow_v fr (fa_39_2 (fr.ev rfl)) rfl rfl ?_)
          intro a fr
          refine lst rfl (ow_st fr st 12 rfl rfl rfl rfl sz_37 rfl rfl rfl ?_)
          intro w (st : St _ [] w [.blk b79 [.int .i64 (((1 + x.toNat % 3 : Nat) : Int)), .int .i64 1, .int .i64 (((k / 2 : Nat) : Int))] 42, .blk b76 [.int .i64 (((1 + x.toNat % 3 : Nat) : Int)), .int .i64 (y)] 43, .blk b75 [.int .i64 (((1 + x.toNat % 3 : Nat) : Int)), .int .i64 1, .int .i64 (((k / 2 : Nat) : Int))] 42, .blk b74 ((bK vs (k + 1)).1.map (Value.int .i64) ++ [Value.slice A72 (bK vs (k + 1)).2.length c73]) 27, els CI 1 A72 (bK vs (k + 1)).2, .blk b71 [.int .i64 1, .int .i64 (((k / 2 : Nat) : Int))] 23, ro b6 (o7 + k * 1) [.int .i64 (y)], ro b4 (o5 + k * 1) [.int .u8 ((x.toNat : Int))], els CI 1 A (bK vs k).2, row slotC 3 42 w0.heap.size (.slice As (((stI sn k).map (slotB ks)).length) cs) (((stI sn k).map (slotB ks))), row slotC 3 42 w0.heap.size (.slice A80 ((((loI sn k).map (slotB ks)) ++ [((((1 + x.toNat % 3 : Nat) : Int), 1, ((k / 2 : Nat) : Int)) : SlotD)]).length) c81) ((((loI sn k).map (slotB ks)) ++ [((((1 + x.toNat % 3 : Nat) : Int), 1, ((k / 2 : Nat) : Int)) : SlotD)])), row valC 2 43 w0.heap.size (.slice A77 ((((List.range k).map (wantB ks vs)) ++ [((((1 + x.toNat % 3 : Nat) : Int), y) : ValD)]).length) c78) ((((List.range k).map (wantB ks vs)) ++ [((((1 + x.toNat % 3 : Nat) : Int), y) : ValD)])), .blk b3 [.int .i64 0, .int .i64 0, .slice A80 ((((loI sn k).map (slotB ks)) ++ [((((1 + x.toNat % 3 : Nat) : Int), 1, ((k / 2 : Nat) : Int)) : SlotD)]).length) c81, .slice As (((stI sn k).map (slotB ks)).length) cs] 39, .blk b2 ((bK vs (k + 1)).1.map (Value.int .i64) ++ [Value.slice A72 (bK vs (k + 1)).2.length c73]) 27, els C8 1 (some ⟨b4, o5, none⟩) ks, els CI 1 (some ⟨b6, o7, none⟩) vs])
          refine wpList_nil ?_
          refine blk_n ?_
          refine then_n ?_
          refine reg ?_
          refine lst rfl (ow_v fr (rn_add (c := ((k + 1 : Nat) : Int)) (fr.ev rfl) (fr.ev rfl) (wr_i64e (by omega) (by omega) (by omega))) rfl rfl ?_)
          intro a fr
          refine lst rfl (ow_v fr (rn_move (fr.ev rfl)) rfl rfl ?_)
          intro a fr
          refine wpList_nil ?_
          have eql_ : (((loI sn k).map (slotB ks)) ++ [((((1 + x.toNat % 3 : Nat) : Int), 1, ((k / 2 : Nat) : Int)) : SlotD)]) = (loI sn (k + 1)).map (slotB ks) := by rw [(stI_n hs).2, List.map_append, List.map_singleton, qs]
          (try rw [eql_] at fr); (try rw [eql_] at st)
          have eqs_ : (stI sn k) = stI sn (k + 1) := (stI_n hs).1.symm
          (try rw [eqs_] at fr); (try rw [eqs_] at st)
          have eqw_ : (((List.range k).map (wantB ks vs)) ++ [((((1 + x.toNat % 3 : Nat) : Int), y) : ValD)]) = (List.range (k + 1)).map (wantB ks vs) := by rw [List.range_succ, List.map_append, List.map_singleton, qw]
          (try rw [eqw_] at fr); (try rw [eqw_] at st)
          refine then_n ⟨m - (k + 1), ?_, k + 1, A72, As, A80, A77, c73, cs, c81, c78, (by omega), (hn1), rfl, fr.prune ⟨rfl, rfl, rfl, rfl, rfl, rfl, rfl, rfl, trivial⟩, st.sub (.cons _ (.cons _ (.cons _ (.cons _ (.cons_cons _ (.cons _ (.cons _ (.cons _ (.cons _ (.cons_cons _ (.cons_cons _ (.cons_cons _ (.cons_cons _ (.cons_cons _ (.cons_cons _ (.cons_cons _ .slnil))))))))))))))))⟩
          omega
        · refine ow_alloc fr st rfl zv_27 rfl rfl _ (by rfl) ?_
          intro a w b82 fr st
          refine ⟨st.sub (.cons _ (.cons_cons _ (.cons_cons _ (.cons_cons _ (.cons_cons _ (.cons_cons _ (.cons_cons _ (.cons_cons _ (.cons_cons _ (.cons_cons _ (.cons_cons _ (.cons_cons _ .slnil)))))))))))), ?_⟩
          refine dr_one 6 (by kernel_rfl) rfl rfl (ow_call fr rfl rfl Try.call11 (put_next vs k (by omega) 1 ((k / 2 : Nat) : Int) y ql qy A c hnA _ (st.get 4 rfl).1) rfl rfl ?_)
          rintro e w ⟨A83, c84, rfl, he1, hn1, hf1, hag⟩
          refine ⟨_, rfl, ?_⟩
          intro a fr
          have st := st.call_els (C := CI) (sz := 1) hag (by decide) CI_len he1 hf1
          clear he1 hf1 hag
          refine ⟨st.sub (.cons _ (.cons _ (.cons_cons _ (.cons_cons _ (.cons_cons _ (.cons_cons _ (.cons_cons _ (.cons_cons _ (.cons_cons _ (.cons_cons _ (.cons_cons _ (.cons_cons _ (.cons_cons _ .slnil))))))))))))), ?_⟩
          refine dr_take 7 rfl (by kernel_rfl) (by kernel_rfl) (by kernel_rfl) (fun _ _ _ h => h) fr rfl (st.sub (.cons _ (.cons _ (.cons_cons _ (.cons_cons _ (.cons_cons _ (.cons_cons _ (.cons_cons _ (.cons_cons _ (.cons_cons _ (.cons_cons _ (.cons_cons _ (.cons_cons _ (.cons_cons _ .slnil)))))))))))))) (fun w st => rn_move (fr.ev rfl)) rfl rfl ?_
          intro a fr
          refine dr_take 8 rfl (by kernel_rfl) (by kernel_rfl) (by kernel_rfl) (fun _ _ _ h => h) fr rfl (st.sub (.cons _ (.cons _ (.cons_cons _ (.cons_cons _ (.cons_cons _ (.cons_cons _ (.cons_cons _ (.cons_cons _ (.cons_cons _ (.cons_cons _ (.cons_cons _ (.cons_cons _ (.cons_cons _ .slnil)))))))))))))) (fun w st => rn_extract (fr.ev rfl) rfl) rfl rfl ?_
          intro a fr
          refine dr_take 9 rfl (by kernel_rfl) (by kernel_rfl) (by kernel_rfl) (fun _ _ _ h => h) fr rfl (st.sub (.cons _ (.cons _ (.cons_cons _ (.cons_cons _ (.cons_cons _ (.cons_cons _ (.cons_cons _ (.cons_cons _ (.cons_cons _ (.cons_cons _ (.cons_cons _ (.cons_cons _ (.cons_cons _ .slnil)))))))))))))) (fun w st => rn_extract (fr.ev rfl) rfl) rfl rfl ?_
          intro a fr
          refine dr_one 11 (by kernel_rfl) rfl rfl (ow_stN fr st 1 (vs := (bK vs (k + 1)).1.map (Value.int .i64) ++ [Value.slice A83 (bK vs (k + 1)).2.length c84]) rfl rfl rfl (regsL_one _ _ _ _) (by rw [bK_17 _ _ _]; exact sz_27) rfl (by simp only [bK_17]; exact Nat.le_of_ble_eq_true rfl) rfl ?_)
          intro w st
          rw [setR_all _ _ (by first | (simp only [bK_17]; done) | (simp only [bK_17]; rfl))] at st
          replace st : St _ [] w [els CI 1 A83 (bK vs (k + 1)).2, .blk b82 ((bK vs (k + 1)).1.map (Value.int .i64) ++ [Value.slice A83 (bK vs (k + 1)).2.length c84]) 27, .blk b71 [.int .i64 1, .int .i64 (((k / 2 : Nat) : Int))] 23, ro b6 (o7 + k * 1) [.int .i64 (y)], ro b4 (o5 + k * 1) [.int .u8 ((x.toNat : Int))], els CI 1 A (bK vs k).2, row slotC 3 42 w0.heap.size (.slice As (((stI sn k).map (slotB ks)).length) cs) (((stI sn k).map (slotB ks))), row slotC 3 42 w0.heap.size (.slice Al (((loI sn k).map (slotB ks)).length) cl) (((loI sn k).map (slotB ks))), row valC 2 43 w0.heap.size (.slice Aw (((List.range k).map (wantB ks vs)).length) cw) (((List.range k).map (wantB ks vs))), .blk b3 [.int .i64 0, .int .i64 0, .slice Al (((loI sn k).map (slotB ks)).length) cl, .slice As (((stI sn k).map (slotB ks)).length) cs] 39, .blk b2 ((bK vs k).1.map (Value.int .i64) ++ [Value.slice A (bK vs k).2.length c]) 27, els C8 1 (some ⟨b4, o5, none⟩) ks, els CI 1 (some ⟨b6, o7, none⟩) vs] := st
          refine ⟨st.sub (.cons _ (.cons _ (.cons_cons _ (.cons_cons _ (.cons_cons _ (.cons_cons _ (.cons_cons _ (.cons_cons _ (.cons_cons _ (.cons_cons _ (.cons_cons _ (.cons_cons _ (.cons_cons _ .slnil))))))))))))), ?_⟩
          refine dr_take 12 rfl (by kernel_rfl) (by kernel_rfl) (by kernel_rfl) (fun _ _ _ h => h) fr rfl (st.sub (.cons _ (.cons _ (.cons_cons _ (.cons_cons _ (.cons_cons _ (.cons_cons _ (.cons_cons _ (.cons_cons _ (.cons_cons _ (.cons_cons _ (.cons_cons _ (.cons_cons _ (.cons_cons _ .slnil)))))))))))))) (fun w st => rn_assign (fr.ev rfl)) rfl rfl ?_
          intro a fr
          refine dr_done (by kernel_rfl) ?_
          refine then_n ?_
          refine wp_seq ?_
          refine wp_seq ?_
          refine reg ?_
          refine lst rfl (ow_v fr (rn_move (fr.ev rfl)) rfl rfl ?_)
          intro a fr
          refine lst rfl (ow_v fr (rn_as (rn_neq (fr.ev rfl) (fr.ev rfl)) (by rfl)) rfl rfl ?_)
          intro a fr
          refine wpList_nil ?_
          refine then_n ?_
          refine cond_f fr rfl rfl ?_
          refine wp_skip ?_
          refine then_n ?_
          refine wp_seq ?_
          refine reg ?_
          refine lst rfl (ow_v fr (rn_loadN (cs := (bK vs (k + 1)).1.map (Value.int .i64) ++ [Value.slice A83 (bK vs (k + 1)).2.length c84]) (fr.ev rfl) Try.underlying27 rfl (by rw [bK_17 _ _ _]; exact sz_27) (st.blkrange 1 rfl 0 (by rw [List.drop_zero, List.take_length]))) rfl rfl ?_)
          intro a fr
          refine lst rfl (ow_stN fr st 10 (vs := (bK vs (k + 1)).1.map (Value.int .i64) ++ [Value.slice A83 (bK vs (k + 1)).2.length c84]) rfl rfl rfl (regsL_one _ _ _ _) (by rw [bK_17 _ _ _]; exact sz_27) rfl (by simp only [bK_17]; exact Nat.le_of_ble_eq_true rfl) rfl ?_)
          intro w st
          rw [setR_all _ _ (by first | (simp only [bK_17]; done) | (simp only [bK_17]; rfl))] at st
          replace st : St _ [] w [els CI 1 A83 (bK vs (k + 1)).2, .blk b82 ((bK vs (k + 1)).1.map (Value.int .i64) ++ [Value.slice A83 (bK vs (k + 1)).2.length c84]) 27, .blk b71 [.int .i64 1, .int .i64 (((k / 2 : Nat) : Int))] 23, ro b6 (o7 + k * 1) [.int .i64 (y)], ro b4 (o5 + k * 1) [.int .u8 ((x.toNat : Int))], els CI 1 A (bK vs k).2, row slotC 3 42 w0.heap.size (.slice As (((stI sn k).map (slotB ks)).length) cs) (((stI sn k).map (slotB ks))), row slotC 3 42 w0.heap.size (.slice Al (((loI sn k).map (slotB ks)).length) cl) (((loI sn k).map (slotB ks))), row valC 2 43 w0.heap.size (.slice Aw (((List.range k).map (wantB ks vs)).length) cw) (((List.range k).map (wantB ks vs))), .blk b3 [.int .i64 0, .int .i64 0, .slice Al (((loI sn k).map (slotB ks)).length) cl, .slice As (((stI sn k).map (slotB ks)).length) cs] 39, .blk b2 ((bK vs (k + 1)).1.map (Value.int .i64) ++ [Value.slice A83 (bK vs (k + 1)).2.length c84]) 27, els C8 1 (some ⟨b4, o5, none⟩) ks, els CI 1 (some ⟨b6, o7, none⟩) vs] := st
          refine wpList_nil ?_
          refine then_n ?_
          refine wp_seq ?_
          refine dr_start (by kernel_rfl) st (.cons_cons _ (.cons_cons _ (.cons_cons _ (.cons_cons _ (.cons_cons _ (.cons_cons _ (.cons_cons _ (.cons_cons _ (.cons_cons _ (.cons_cons _ (.cons_cons _ (.cons_cons _ (.cons_cons _ .slnil))))))))))))) ?_
          intro w st
          refine dr_take 0 rfl (by kernel_rfl) (by kernel_rfl) (by kernel_rfl) (fun _ _ _ h => h) fr rfl (st.sub (.cons_cons _ (.cons_cons _ (.cons_cons _ (.cons_cons _ (.cons_cons _ (.cons_cons _ (.cons_cons _ (.cons_cons _ (.cons_cons _ (.cons_cons _ (.cons_cons _ (.cons_cons _ (.cons_cons _ .slnil)))))))))))))) (fun w st => rn_move (fr.ev rfl)) rfl rfl ?_
          intro a fr
          refine dr_take 1 rfl (by kernel_rfl) (by kernel_rfl) (by kernel_rfl) (fun _ _ _ h => h) fr rfl (st.sub (.cons_cons _ (.cons_cons _ (.cons_cons _ (.cons_cons _ (.cons_cons _ (.cons_cons _ (.cons_cons _ (.cons_cons _ (.cons_cons _ (.cons_cons _ (.cons_cons _ (.cons_cons _ (.cons_cons _ .slnil)))))))))))))) (fun w st => rn_move (fr.ev rfl)) rfl rfl ?_
          intro a fr
          refine dr_take 2 rfl (by kernel_rfl) (by kernel_rfl) (by kernel_rfl) (fun _ _ _ h => h) fr rfl (st.sub (.cons_cons _ (.cons_cons _ (.cons_cons _ (.cons_cons _ (.cons_cons _ (.cons_cons _ (.cons_cons _ (.cons_cons _ (.cons_cons _ (.cons_cons _ (.cons_cons _ (.cons_cons _ (.cons_cons _ .slnil)))))))))))))) (fun w st => rn_at (i := k) (fr.ev rfl) (fr.ev rfl) Try.underlying36 sz_5 (by omega) (by rfl)) rfl rfl ?_
          intro a fr
          refine dr_take 3 rfl (by kernel_rfl) (by kernel_rfl) (by kernel_rfl) (fun _ _ _ h => h) fr rfl (st.sub (.cons_cons _ (.cons_cons _ (.cons_cons _ (.cons_cons _ (.cons_cons _ (.cons_cons _ (.cons_cons _ (.cons_cons _ (.cons_cons _ (.cons_cons _ (.cons_cons _ (.cons_cons _ (.cons_cons _ .slnil)))))))))))))) (fun w st => rn_load (fr.ev rfl) Try.underlying5 rfl (st.rocell 4 rfl (j := 0) rfl)) rfl rfl ?_
          intro a fr
          refine dr_take 4 rfl (by kernel_rfl) (by kernel_rfl) (by kernel_rfl) (fun _ _ _ h => h) fr rfl (st.sub (.cons_cons _ (.cons_cons _ (.cons_cons _ (.cons_cons _ (.cons_cons _ (.cons_cons _ (.cons_cons _ (.cons_cons _ (.cons_cons _ (.cons_cons _ (.cons_cons _ (.cons_cons _ (.cons_cons _ .slnil)))))))))))))) (fun w st => rn_conv (c := (x.toNat : Int)) (fr.ev rfl) (by kernel_rfl) Try.underlying3 (wr_i64 _ (by omega) (by omega))) rfl rfl ?_
          intro a fr
          refine dr_take 5 rfl (by kernel_rfl) (by kernel_rfl) (by kernel_rfl) (fun _ _ _ h => h) fr rfl (st.sub (.cons_cons _ (.cons_cons _ (.cons_cons _ (.cons_cons _ (.cons_cons _ (.cons_cons _ (.cons_cons _ (.cons_cons _ (.cons_cons _ (.cons_cons _ (.cons_cons _ (.cons_cons _ (.cons_cons _ .slnil)))))))))))))) (fun w st => rn_rem (c := ((x.toNat % 3 : Nat) : Int)) (fr.ev rfl) (fr.ev rfl) (by decide) (rm_nat (a := x.toNat) (m := 3) rfl rfl)) rfl rfl ?_
          intro a fr
          refine dr_take 6 rfl (by kernel_rfl) (by kernel_rfl) (by kernel_rfl) (fun _ _ _ h => h) fr rfl (st.sub (.cons_cons _ (.cons_cons _ (.cons_cons _ (.cons_cons _ (.cons_cons _ (.cons_cons _ (.cons_cons _ (.cons_cons _ (.cons_cons _ (.cons_cons _ (.cons_cons _ (.cons_cons _ (.cons_cons _ .slnil)))))))))))))) (fun w st => rn_add (c := ((1 + x.toNat % 3 : Nat) : Int)) (fr.ev rfl) (fr.ev rfl) (wr_i64e (by omega) (by omega) (by omega))) rfl rfl ?_
          intro a fr
          refine dr_take 7 rfl (by kernel_rfl) (by kernel_rfl) (by kernel_rfl) (fun _ _ _ h => h) fr rfl (st.sub (.cons_cons _ (.cons_cons _ (.cons_cons _ (.cons_cons _ (.cons_cons _ (.cons_cons _ (.cons_cons _ (.cons_cons _ (.cons_cons _ (.cons_cons _ (.cons_cons _ (.cons_cons _ (.cons_cons _ .slnil)))))))))))))) (fun w st => rn_loadN (cs := [.int .i64 1, .int .i64 (((k / 2 : Nat) : Int))]) (fr.ev rfl) Try.underlying23 rfl sz_23 (st.blkrange 2 rfl 0 rfl)) rfl rfl ?_
          intro a fr
          refine dr_take 8 rfl (by kernel_rfl) (by kernel_rfl) (by kernel_rfl) (fun _ _ _ h => h) fr rfl (st.sub (.cons_cons _ (.cons_cons _ (.cons_cons _ (.cons_cons _ (.cons_cons _ (.cons_cons _ (.cons_cons _ (.cons_cons _ (.cons_cons _ (.cons_cons _ (.cons_cons _ (.cons_cons _ (.cons_cons _ .slnil)))))))))))))) (fun w st => rn_build (cells := #[.int .i64 (((1 + x.toNat % 3 : Nat) : Int)), .int .i64 1, .int .i64 (((k / 2 : Nat) : Int))]) (by simp only [List.map_toArray, List.map_cons, List.map_nil]; rw [fr.ev (x := .tmp 56) rfl, fr.ev (x := .tmp 57) rfl]; rfl)) rfl rfl ?_
          intro a fr
          refine dr_one 9 (by kernel_rfl) rfl rfl (ow_alloc fr st rfl zv_42 rfl rfl _ (by rfl) ?_)
          intro a w b85 fr st
          refine ⟨st.sub (.cons _ (.cons_cons _ (.cons_cons _ (.cons_cons _ (.cons_cons _ (.cons_cons _ (.cons_cons _ (.cons_cons _ (.cons_cons _ (.cons_cons _ (.cons_cons _ (.cons_cons _ (.cons_cons _ (.cons_cons _ .slnil)))))))))))))), ?_⟩
          refine dr_one 10 (by kernel_rfl) rfl rfl (ow_stN fr st 0 (vs := [.int .i64 (((1 + x.toNat % 3 : Nat) : Int)), .int .i64 1, .int .i64 (((k / 2 : Nat) : Int))]) rfl rfl rfl rfl sz_42 rfl (Nat.le_of_ble_eq_true rfl) rfl ?_)
          intro w (st : St _ [] w [.blk b85 [.int .i64 (((1 + x.toNat % 3 : Nat) : Int)), .int .i64 1, .int .i64 (((k / 2 : Nat) : Int))] 42, els CI 1 A83 (bK vs (k + 1)).2, .blk b82 ((bK vs (k + 1)).1.map (Value.int .i64) ++ [Value.slice A83 (bK vs (k + 1)).2.length c84]) 27, .blk b71 [.int .i64 1, .int .i64 (((k / 2 : Nat) : Int))] 23, ro b6 (o7 + k * 1) [.int .i64 (y)], ro b4 (o5 + k * 1) [.int .u8 ((x.toNat : Int))], els CI 1 A (bK vs k).2, row slotC 3 42 w0.heap.size (.slice As (((stI sn k).map (slotB ks)).length) cs) (((stI sn k).map (slotB ks))), row slotC 3 42 w0.heap.size (.slice Al (((loI sn k).map (slotB ks)).length) cl) (((loI sn k).map (slotB ks))), row valC 2 43 w0.heap.size (.slice Aw (((List.range k).map (wantB ks vs)).length) cw) (((List.range k).map (wantB ks vs))), .blk b3 [.int .i64 0, .int .i64 0, .slice Al (((loI sn k).map (slotB ks)).length) cl, .slice As (((stI sn k).map (slotB ks)).length) cs] 39, .blk b2 ((bK vs (k + 1)).1.map (Value.int .i64) ++ [Value.slice A83 (bK vs (k + 1)).2.length c84]) 27, els C8 1 (some ⟨b4, o5, none⟩) ks, els CI 1 (some ⟨b6, o7, none⟩) vs])
          refine ⟨st.sub (.cons _ (.cons_cons _ (.cons_cons _ (.cons_cons _ (.cons_cons _ (.cons_cons _ (.cons_cons _ (.cons_cons _ (.cons_cons _ (.cons_cons _ (.cons_cons _ (.cons_cons _ (.cons_cons _ (.cons_cons _ .slnil)))))))))))))), ?_⟩
          refine dr_done (by kernel_rfl) ?_
          refine then_n ?_
          refine wp_seq ?_
          refine dr_start (by kernel_rfl) st (.cons_cons _ (.cons_cons _ (.cons_cons _ (.cons_cons _ (.cons_cons _ (.cons_cons _ (.cons_cons _ (.cons_cons _ (.cons_cons _ (.cons _ (.cons_cons _ (.cons_cons _ (.cons_cons _ (.cons_cons _ .slnil)))))))))))))) ?_
          intro w st
          refine dr_take 0 rfl (by kernel_rfl) (by kernel_rfl) (by kernel_rfl) (fun _ _ _ h => h) fr rfl (st.sub (.cons_cons _ (.cons_cons _ (.cons_cons _ (.cons_cons _ (.cons_cons _ (.cons_cons _ (.cons_cons _ (.cons_cons _ (.cons_cons _ (.cons _ (.cons_cons _ (.cons_cons _ (.cons_cons _ (.cons_cons _ .slnil))))))))))))))) (fun w st => rn_move (fr.ev rfl)) rfl rfl ?_
          intro a fr
          refine dr_take 1 rfl (by kernel_rfl) (by kernel_rfl) (by kernel_rfl) (fun _ _ _ h => h) fr rfl (st.sub (.cons_cons _ (.cons_cons _ (.cons_cons _ (.cons_cons _ (.cons_cons _ (.cons_cons _ (.cons_cons _ (.cons_cons _ (.cons_cons _ (.cons _ (.cons_cons _ (.cons_cons _ (.cons_cons _ (.cons_cons _ .slnil))))))))))))))) (fun w st => fa_42_0 (fr.ev rfl)) rfl rfl ?_
          intro a fr
          refine dr_take 2 rfl (by kernel_rfl) (by kernel_rfl) (by kernel_rfl) (fun _ _ _ h => h) fr rfl (st.sub (.cons_cons _ (.cons_cons _ (.cons_cons _ (.cons_cons _ (.cons_cons _ (.cons_cons _ (.cons_cons _ (.cons_cons _ (.cons_cons _ (.cons _ (.cons_cons _ (.cons_cons _ (.cons_cons _ (.cons_cons _ .slnil))))))))))))))) (fun w st => rn_load (fr.ev rfl) Try.underlying3 rfl (st.cell 0 rfl rfl)) rfl rfl ?_
          intro a fr
          refine dr_take 3 rfl (by kernel_rfl) (by kernel_rfl) (by kernel_rfl) (fun _ _ _ h => h) fr rfl (st.sub (.cons_cons _ (.cons_cons _ (.cons_cons _ (.cons_cons _ (.cons_cons _ (.cons_cons _ (.cons_cons _ (.cons_cons _ (.cons_cons _ (.cons _ (.cons_cons _ (.cons_cons _ (.cons_cons _ (.cons_cons _ .slnil))))))))))))))) (fun w st => rn_move (fr.ev rfl)) rfl rfl ?_
          intro a fr
          refine dr_take 4 rfl (by kernel_rfl) (by kernel_rfl) (by kernel_rfl) (fun _ _ _ h => h) fr rfl (st.sub (.cons_cons _ (.cons_cons _ (.cons_cons _ (.cons_cons _ (.cons_cons _ (.cons_cons _ (.cons_cons _ (.cons_cons _ (.cons_cons _ (.cons _ (.cons_cons _ (.cons_cons _ (.cons_cons _ (.cons_cons _ .slnil))))))))))))))) (fun w st => rn_move (fr.ev rfl)) rfl rfl ?_
          intro a fr
          refine dr_take 5 rfl (by kernel_rfl) (by kernel_rfl) (by kernel_rfl) (fun _ _ _ h => h) fr rfl (st.sub (.cons_cons _ (.cons_cons _ (.cons_cons _ (.cons_cons _ (.cons_cons _ (.cons_cons _ (.cons_cons _ (.cons_cons _ (.cons_cons _ (.cons _ (.cons_cons _ (.cons_cons _ (.cons_cons _ (.cons_cons _ .slnil))))))))))))))) (fun w st => rn_at (i := k) (fr.ev rfl) (fr.ev rfl) Try.underlying25 sz_2 (by omega) (by rfl)) rfl rfl ?_
          intro a fr
          refine dr_take 6 rfl (by kernel_rfl) (by kernel_rfl) (by kernel_rfl) (fun _ _ _ h => h) fr rfl (st.sub (.cons_cons _ (.cons_cons _ (.cons_cons _ (.cons_cons _ (.cons_cons _ (.cons_cons _ (.cons_cons _ (.cons_cons _ (.cons_cons _ (.cons _ (.cons_cons _ (.cons_cons _ (.cons_cons _ (.cons_cons _ .slnil))))))))))))))) (fun w st => rn_load (fr.ev rfl) Try.underlying2 rfl (st.rocell 4 rfl (j := 0) rfl)) rfl rfl ?_
          intro a fr
          refine dr_take 7 rfl (by kernel_rfl) (by kernel_rfl) (by kernel_rfl) (fun _ _ _ h => h) fr rfl (st.sub (.cons_cons _ (.cons_cons _ (.cons_cons _ (.cons_cons _ (.cons_cons _ (.cons_cons _ (.cons_cons _ (.cons_cons _ (.cons_cons _ (.cons _ (.cons_cons _ (.cons_cons _ (.cons_cons _ (.cons_cons _ .slnil))))))))))))))) (fun w st => rn_build (cells := #[.int .i64 (((1 + x.toNat % 3 : Nat) : Int)), .int .i64 (y)]) (by simp only [List.map_toArray, List.map_cons, List.map_nil]; rw [fr.ev (x := .tmp 61) rfl, fr.ev (x := .tmp 65) rfl]; rfl)) rfl rfl ?_
          intro a fr
          refine dr_one 8 (by kernel_rfl) rfl rfl (ow_bslice (E := 43) fr st rfl [.int .i64 (((1 + x.toNat % 3 : Nat) : Int)), .int .i64 (y)] (fun w => by simp only [List.map_toArray, List.map_cons, List.map_nil]; rw [fr.ev (x := .tmp 66) rfl]; kernel_rfl) rfl rfl ?_)
          intro a w b86 fr st
          refine ⟨st.sub (.cons _ (.cons_cons _ (.cons_cons _ (.cons_cons _ (.cons_cons _ (.cons_cons _ (.cons_cons _ (.cons_cons _ (.cons_cons _ (.cons_cons _ (.cons _ (.cons_cons _ (.cons_cons _ (.cons_cons _ (.cons_cons _ .slnil))))))))))))))), ?_⟩
          refine dr_one 9 (by kernel_rfl) rfl rfl (ow_append1 fr st 10 0 (((((1 + x.toNat % 3 : Nat) : Int), y) : ValD)) rfl rfl rfl rfl rfl Try.underlying40 inf_43 (by rfl) (by decide) (fun _ => rfl) rfl (by (simp; have := stI_len sn k; omega)) (by unfold maxLen; (simp; have := stI_len sn k; omega)) (Nat.le_refl _) st.agr.size rfl rfl ?_)
          intro a w A87 c88 fr (st : St _ [] w [.blk b86 [.int .i64 (((1 + x.toNat % 3 : Nat) : Int)), .int .i64 (y)] 43, .blk b85 [.int .i64 (((1 + x.toNat % 3 : Nat) : Int)), .int .i64 1, .int .i64 (((k / 2 : Nat) : Int))] 42, els CI 1 A83 (bK vs (k + 1)).2, .blk b82 ((bK vs (k + 1)).1.map (Value.int .i64) ++ [Value.slice A83 (bK vs (k + 1)).2.length c84]) 27, .blk b71 [.int .i64 1, .int .i64 (((k / 2 : Nat) : Int))] 23, ro b6 (o7 + k * 1) [.int .i64 (y)], ro b4 (o5 + k * 1) [.int .u8 ((x.toNat : Int))], els CI 1 A (bK vs k).2, row slotC 3 42 w0.heap.size (.slice As (((stI sn k).map (slotB ks)).length) cs) (((stI sn k).map (slotB ks))), row slotC 3 42 w0.heap.size (.slice Al (((loI sn k).map (slotB ks)).length) cl) (((loI sn k).map (slotB ks))), row valC 2 43 w0.heap.size (.slice A87 ((((List.range k).map (wantB ks vs)) ++ [((((1 + x.toNat % 3 : Nat) : Int), y) : ValD)]).length) c88) ((((List.range k).map (wantB ks vs)) ++ [((((1 + x.toNat % 3 : Nat) : Int), y) : ValD)])), .blk b3 [.int .i64 0, .int .i64 0, .slice Al (((loI sn k).map (slotB ks)).length) cl, .slice As (((stI sn k).map (slotB ks)).length) cs] 39, .blk b2 ((bK vs (k + 1)).1.map (Value.int .i64) ++ [Value.slice A83 (bK vs (k + 1)).2.length c84]) 27, els C8 1 (some ⟨b4, o5, none⟩) ks, els CI 1 (some ⟨b6, o7, none⟩) vs])
          refine ⟨st.sub (.cons _ (.cons_cons _ (.cons_cons _ (.cons_cons _ (.cons_cons _ (.cons_cons _ (.cons_cons _ (.cons_cons _ (.cons_cons _ (.cons_cons _ (.cons _ (.cons_cons _ (.cons_cons _ (.cons_cons _ (.cons_cons _ .slnil))))))))))))))), ?_⟩
          refine dr_take 10 rfl (by kernel_rfl) (by kernel_rfl) (by kernel_rfl) (fun _ _ _ h => h) fr rfl (st.sub (.cons _ (.cons_cons _ (.cons_cons _ (.cons_cons _ (.cons_cons _ (.cons_cons _ (.cons_cons _ (.cons_cons _ (.cons_cons _ (.cons_cons _ (.cons _ (.cons_cons _ (.cons_cons _ (.cons_cons _ (.cons_cons _ .slnil)))))))))))))))) (fun w st => rn_assign (fr.ev rfl)) rfl rfl ?_
          intro a fr
          refine dr_done (by kernel_rfl) ?_
          refine then_n ?_
          refine wp_seq ?_
          refine reg ?_
          refine lst rfl (ow_v fr (rn_move (fr.ev rfl)) rfl rfl ?_)
          intro a fr
          refine lst rfl (ow_v fr (rn_move (fr.ev rfl)) rfl rfl ?_)
          intro a fr
          refine lst rfl (ow_v fr (rn_conv (c := (sn : Nat)) (fr.ev rfl) (by kernel_rfl) Try.underlying3 (wr_i64 _ (by omega) (by omega))) rfl rfl ?_)
          intro a fr
          refine lst rfl (ow_v fr (rn_as (v' := .bool false) (rn_lss (fr.ev rfl) (fr.ev rfl)) (congrArg Value.bool (decide_eq_false (by omega)))) rfl rfl ?_)
          intro a fr
          refine wpList_nil ?_
          refine then_n ?_
          refine cond_f fr rfl rfl ?_
          refine reg ?_
          refine lst rfl (ow_v fr (fa_39_2 (fr.ev rfl)) rfl rfl ?_)
          intro a fr
          refine lst rfl (ow_v fr (rn_load (fr.ev rfl) Try.underlying37 rfl (st.cell 11 rfl rfl)) rfl rfl ?_)
          intro a fr
          refine lst rfl (ow_v fr (rn_loadN (cs := [.int .i64 (((1 + x.toNat % 3 : Nat) : Int)), .int .i64 1, .int .i64 (((k / 2 : Nat) : Int))]) (fr.ev rfl) Try.underlying42 rfl sz_42 (st.blkrange 1 rfl 0 rfl)) rfl rfl ?_)
          intro a fr
          refine lst rfl (ow_bslice (E := 42) fr st rfl [.int .i64 (((1 + x.toNat % 3 : Nat) : Int)), .int .i64 1, .int .i64 (((k / 2 : Nat) : Int))] (fun w => by simp only [List.map_toArray, List.map_cons, List.map_nil]; rw [fr.ev (x := .tmp 81) rfl]; kernel_rfl) rfl rfl ?_)
          intro a w b89 fr st
          refine lst rfl (ow_append1 fr st 10 0 (((((1 + x.toNat % 3 : Nat) : Int), 1, ((k / 2 : Nat) : Int)) : SlotD)) rfl rfl rfl rfl rfl Try.underlying37 inf_42 (by rfl) (by decide) (fun _ => rfl) rfl (by (simp; have := stI_len sn k; omega)) (by unfold maxLen; (simp; have := stI_len sn k; omega)) (Nat.le_refl _) st.agr.size rfl rfl ?_)
          intro a w A90 c91 fr (st : St _ [] w [.blk b89 [.int .i64 (((1 + x.toNat % 3 : Nat) : Int)), .int .i64 1, .int .i64 (((k / 2 : Nat) : Int))] 42, .blk b86 [.int .i64 (((1 + x.toNat % 3 : Nat) : Int)), .int .i64 (y)] 43, .blk b85 [.int .i64 (((1 + x.toNat % 3 : Nat) : Int)), .int .i64 1, .int .i64 (((k / 2 : Nat) : Int))] 42, els CI 1 A83 (bK vs (k + 1)).2, .blk b82 ((bK vs (k + 1)).1.map (Value.int .i64) ++ [Value.slice A83 (bK vs (k + 1)).2.length c84]) 27, .blk b71 [.int .i64 1, .int .i64 (((k / 2 : Nat) : Int))] 23, ro b6 (o7 + k * 1) [.int .i64 (y)], ro b4 (o5 + k * 1) [.int .u8 ((x.toNat : Int))], els CI 1 A (bK vs k).2, row slotC 3 42 w0.heap.size (.slice As (((stI sn k).map (slotB ks)).length) cs) (((stI sn k).map (slotB ks))), row slotC 3 42 w0.heap.size (.slice A90 ((((loI sn k).map (slotB ks)) ++ [((((1 + x.toNat % 3 : Nat) : Int), 1, ((k / 2 : Nat) : Int)) : SlotD)]).length) c91) ((((loI sn k).map (slotB ks)) ++ [((((1 + x.toNat % 3 : Nat) : Int), 1, ((k / 2 : Nat) : Int)) : SlotD)])), row valC 2 43 w0.heap.size (.slice A87 ((((List.range k).map (wantB ks vs)) ++ [((((1 + x.toNat % 3 : Nat) : Int), y) : ValD)]).length) c88) ((((List.range k).map (wantB ks vs)) ++ [((((1 + x.toNat % 3 : Nat) : Int), y) : ValD)])), .blk b3 [.int .i64 0, .int .i64 0, .slice Al (((loI sn k).map (slotB ks)).length) cl, .slice As (((stI sn k).map (slotB ks)).length) cs] 39, .blk b2 ((bK vs (k + 1)).1.map (Value.int .i64) ++ [Value.slice A83 (bK vs (k + 1)).2.length c84]) 27, els C8 1 (some ⟨b4, o5, none⟩) ks, els CI 1 (some ⟨b6, o7, none⟩) vs])
          refine lst rfl (ow_v fr (fa_39_2 (fr.ev rfl)) rfl rfl ?_)
          intro a fr
          refine lst rfl (ow_st fr st 12 rfl rfl rfl rfl sz_37 rfl rfl rfl ?_)
          intro w (st : St _ [] w [.blk b89 [.int .i64 (((1 + x.toNat % 3 : Nat) : Int)), .int .i64 1, .int .i64 (((k / 2 : Nat) : Int))] 42, .blk b86 [.int .i64 (((1 + x.toNat % 3 : Nat) : Int)), .int .i64 (y)] 43, .blk b85 [.int .i64 (((1 + x.toNat % 3 : Nat) : Int)), .int .i64 1, .int .i64 (((k / 2 : Nat) : Int))] 42, els CI 1 A83 (bK vs (k + 1)).2, .blk b82 ((bK vs (k + 1)).1.map (Value.int .i64) ++ [Value.slice A83 (bK vs (k + 1)).2.length c84]) 27, .blk b71 [.int .i64 1, .int .i64 (((k / 2 : Nat) : Int))] 23, ro b6 (o7 + k * 1) [.int .i64 (y)], ro b4 (o5 + k * 1) [.int .u8 ((x.toNat : Int))], els CI 1 A (bK vs k).2, row slotC 3 42 w0.heap.size (.slice As (((stI sn k).map (slotB ks)).length) cs) (((stI sn k).map (slotB ks))), row slotC 3 42 w0.heap.size (.slice A90 ((((loI sn k).map (slotB ks)) ++ [((((1 + x.toNat % 3 : Nat) : Int), 1, ((k / 2 : Nat) : Int)) : SlotD)]).length) c91) ((((loI sn k).map (slotB ks)) ++ [((((1 + x.toNat % 3 : Nat) : Int), 1, ((k / 2 : Nat) : Int)) : SlotD)])), row valC 2 43 w0.heap.size (.slice A87 ((((List.range k).map (wantB ks vs)) ++ [((((1 + x.toNat % 3 : Nat) : Int), y) : ValD)]).length) c88) ((((List.range k).map (wantB ks vs)) ++ [((((1 + x.toNat % 3 : Nat) : Int), y) : ValD)])), .blk b3 [.int .i64 0, .int .i64 0, .slice A90 ((((loI sn k).map (slotB ks)) ++ [((((1 + x.toNat % 3 : Nat) : Int), 1, ((k / 2 : Nat) : Int)) : SlotD)]).length) c91, .slice As (((stI sn k).map (slotB ks)).length) cs] 39, .blk b2 ((bK vs (k + 1)).1.map (Value.int .i64) ++ [Value.slice A83 (bK vs (k + 1)).2.length c84]) 27, els C8 1 (some ⟨b4, o5, none⟩) ks, els CI 1 (some ⟨b6, o7, none⟩) vs])
          refine wpList_nil ?_
          refine blk_n ?_
          refine then_n ?_
          refine reg ?_
          refine lst rfl (ow_v fr (rn_add (c := ((k + 1 : Nat) : Int)) (fr.ev rfl) (fr.ev rfl) (wr_i64e (by omega) (by omega) (by omega))) rfl rfl ?_)
          intro a fr
          refine lst rfl (ow_v fr (rn_move (fr.ev rfl)) rfl rfl ?_)
          intro a fr
          refine wpList_nil ?_
          have eql_ : (((loI sn k).map (slotB ks)) ++ [((((1 + x.toNat % 3 : Nat) : Int), 1, ((k / 2 : Nat) : Int)) : SlotD)]) = (loI sn (k + 1)).map (slotB ks) := by rw [(stI_n hs).2, List.map_append, List.map_singleton, qs]
          (try rw [eql_] at fr); (try rw [eql_] at st)
          have eqs_ : (stI sn k) = stI sn (k + 1) := (stI_n hs).1.symm
          (try rw [eqs_] at fr); (try rw [eqs_] at st)
          have eqw_ : (((List.range k).map (wantB ks vs)) ++ [((((1 + x.toNat % 3 : Nat) : Int), y) : ValD)]) = (List.range (k + 1)).map (wantB ks vs) := by rw [List.range_succ, List.map_append, List.map_singleton, qw]
          (try rw [eqw_] at fr); (try rw [eqw_] at st)
          refine then_n ⟨m - (k + 1), ?_, k + 1, A83, As, A90, A87, c84, cs, c91, c88, (by omega), (hn1), rfl, fr.prune ⟨rfl, rfl, rfl, rfl, rfl, rfl, rfl, rfl, trivial⟩, st.sub (.cons _ (.cons _ (.cons _ (.cons_cons _ (.cons _ (.cons _ (.cons _ (.cons _ (.cons _ (.cons_cons _ (.cons_cons _ (.cons_cons _ (.cons_cons _ (.cons_cons _ (.cons_cons _ (.cons_cons _ .slnil))))))))))))))))⟩
          omega
  · have hk30 : k ≤ 30 := by omega
    refine wp_seq ?_
    refine reg ?_
    refine lst rfl (ow_v fr (rn_as (v' := .bool false) (rn_lss (fr.ev rfl) (fr.ev rfl)) (congrArg Value.bool (decide_eq_false (by omega)))) rfl rfl ?_)
    intro a fr
    refine wpList_nil ?_
    refine then_n ?_
    refine wp_seq ?_
    refine cond_f fr rfl rfl ?_
    refine wp_exit ?_
    refine then_x ?_
    refine then_x ?_
    refine blk_x ?_
    refine then_n ?_
    refine wp_seq ?_
    refine reg ?_
    refine lst rfl (ow_v fr (rn_loadN (cs := [.int .i64 0, .int .i64 0, .slice Al (((loI sn k).map (slotB ks)).length) cl, .slice As (((stI sn k).map (slotB ks)).length) cs]) (fr.ev rfl) Try.underlying39 rfl sz_39 (st.blkrange 4 rfl 0 rfl)) rfl rfl ?_)
    intro a fr
    refine lst rfl (ow_v fr (rn_loadN (cs := (bK vs k).1.map (Value.int .i64) ++ [Value.slice A (bK vs k).2.length c]) (fr.ev rfl) Try.underlying27 rfl (by rw [bK_17 _ _ _]; exact sz_27) (st.blkrange 5 rfl 0 (by rw [List.drop_zero, List.take_length]))) rfl rfl ?_)
    intro a fr
    obtain ⟨hfr, hm1, hm2, happ⟩ := back_law ks vs sn k hk30
    have hbl := bK_len vs k
    have hsl := stI_len sn k
    refine lst rfl (ow_call fr rfl rfl Try.call15 (frame_ok2 0 0 ((loI sn k).map (slotB ks)) ((stI sn k).map (slotB ks)) (bK vs k).1 (bK vs k).2 Al As A cl cs c hbl.1 (by simp; omega) (by simp; omega) _ (row_els slotC_len (st.get 2 rfl).1) (row_els slotC_len (st.get 1 rfl).1) (st.get 0 rfl).1 hfr ((loI sn k).map (wantB ks vs)) ((stI sn k).map (wantB ks vs)) hm1 hm2) rfl rfl ?_)
    rintro e w ⟨A3, c3, A4, c4, rfl, r3, r4, hd34, hag⟩
    refine ⟨_, rfl, ?_⟩
    intro a fr
    have st := st.call_row_els hag (by decide) valC_len r4 r3 hd34
    clear r3 r4 hd34 hag
    refine lst rfl (ow_v fr (rn_move (fr.ev rfl)) rfl rfl ?_)
    intro a fr
    refine lst rfl (ow_v fr (rn_extract (fr.ev rfl) rfl) rfl rfl ?_)
    intro a fr
    refine lst rfl (ow_v fr (rn_extract (fr.ev rfl) rfl) rfl rfl ?_)
    intro a fr
    refine lst rfl (ow_alloc fr st rfl zv_45 rfl rfl _ (by rfl) ?_)
    intro a w b92 fr st
    refine lst rfl (ow_stN fr st 0 (vs := [.int .i64 0, .int .i64 0, .slice A3 (((loI sn k).map (wantB ks vs)).length) c3, .slice A4 (((stI sn k).map (wantB ks vs)).length) c4]) rfl rfl rfl rfl sz_45 rfl (Nat.le_of_ble_eq_true rfl) rfl ?_)
    intro w (st : St _ [] w [.blk b92 [.int .i64 0, .int .i64 0, .slice A3 (((loI sn k).map (wantB ks vs)).length) c3, .slice A4 (((stI sn k).map (wantB ks vs)).length) c4] 45, row valC 2 43 w0.heap.size (.slice A4 (((stI sn k).map (wantB ks vs)).length) c4) (((stI sn k).map (wantB ks vs))), els valC 2 A3 ((loI sn k).map (wantB ks vs)), els CI 1 A (bK vs k).2, row slotC 3 42 w0.heap.size (.slice As (((stI sn k).map (slotB ks)).length) cs) (((stI sn k).map (slotB ks))), row slotC 3 42 w0.heap.size (.slice Al (((loI sn k).map (slotB ks)).length) cl) (((loI sn k).map (slotB ks))), row valC 2 43 w0.heap.size (.slice Aw (((List.range k).map (wantB ks vs)).length) cw) (((List.range k).map (wantB ks vs))), .blk b3 [.int .i64 0, .int .i64 0, .slice Al (((loI sn k).map (slotB ks)).length) cl, .slice As (((stI sn k).map (slotB ks)).length) cs] 39, .blk b2 ((bK vs k).1.map (Value.int .i64) ++ [Value.slice A (bK vs k).2.length c]) 27, els C8 1 KA ks, els CI 1 VA vs])
    refine lst rfl (ow_v fr (rn_assign (fr.ev rfl)) rfl rfl ?_)
    intro a fr
    refine wpList_nil ?_
    refine then_n ?_
    refine wp_seq ?_
    refine reg ?_
    refine lst rfl (ow_call fr rfl rfl Try.call13 (live_calls _) rfl rfl ?_)
    rintro e w ⟨rfl, hb1⟩
    refine ⟨_, rfl, ?_⟩
    intro a fr
    have st := st.keep (Agr.of_below hb1)
    clear hb1
    refine lst rfl (ow_v fr (rn_move (fr.ev rfl)) rfl rfl ?_)
    intro a fr
    refine lst_y (wanted_of fr rfl rfl rfl rfl) (ow_v fr (rn_move (fr.ev rfl)) rfl rfl ?_)
    intro a fr
    refine lst_y (wanted_of fr rfl rfl rfl rfl) (ow_v fr (rn_as (rn_eql (fr.ev rfl) (fr.ev rfl)) (by rfl)) rfl rfl ?_)
    intro a fr
    refine lst rfl (ow_v fr (rn_pick_t (fr.ev rfl) (fr.ev rfl)) rfl rfl ?_)
    intro a fr
    refine lst rfl (ow_v fr (rn_move (fr.ev rfl)) rfl rfl ?_)
    intro a fr
    refine lst_y (wanted_of fr rfl rfl rfl rfl) (ow_v fr (fa_45_3 (fr.ev rfl)) rfl rfl ?_)
    intro a fr
    refine lst_y (wanted_of fr rfl rfl rfl rfl) (ow_v fr (rn_load (fr.ev rfl) Try.underlying40 rfl (st.cell 0 rfl rfl)) rfl rfl ?_)
    intro a fr
    refine lst_y (wanted_of fr rfl rfl rfl rfl) (ow_v fr (fa_45_2 (fr.ev rfl)) rfl rfl ?_)
    intro a fr
    refine lst_y (wanted_of fr rfl rfl rfl rfl) (ow_v fr (rn_load (fr.ev rfl) Try.underlying40 rfl (st.cell 0 rfl rfl)) rfl rfl ?_)
    intro a fr
    refine lst_y (wanted_of fr rfl rfl rfl rfl) (ow_appendE fr st 1 (ys := ((loI sn k).map (wantB ks vs))) ((st.get 2 rfl).1) rfl rfl rfl rfl Try.underlying40 inf_43 (by rfl) (by decide) (fun _ => rfl) (fun q => rfl) (by (simp; omega)) (by unfold maxLen; (simp; omega)) (Nat.le_refl _) st.agr.size rfl rfl ?_)
    intro a w A93 c94 fr (st : St _ [] w [.blk b92 [.int .i64 0, .int .i64 0, .slice A3 (((loI sn k).map (wantB ks vs)).length) c3, .slice A4 (((stI sn k).map (wantB ks vs)).length) c4] 45, row valC 2 43 w0.heap.size (.slice A93 ((((stI sn k).map (wantB ks vs)) ++ (((loI sn k).map (wantB ks vs)))).length) c94) ((((stI sn k).map (wantB ks vs)) ++ (((loI sn k).map (wantB ks vs))))), els valC 2 A3 ((loI sn k).map (wantB ks vs)), els CI 1 A (bK vs k).2, row slotC 3 42 w0.heap.size (.slice As (((stI sn k).map (slotB ks)).length) cs) (((stI sn k).map (slotB ks))), row slotC 3 42 w0.heap.size (.slice Al (((loI sn k).map (slotB ks)).length) cl) (((loI sn k).map (slotB ks))), row valC 2 43 w0.heap.size (.slice Aw (((List.range k).map (wantB ks vs)).length) cw) (((List.range k).map (wantB ks vs))), .blk b3 [.int .i64 0, .int .i64 0, .slice Al (((loI sn k).map (slotB ks)).length) cl, .slice As (((stI sn k).map (slotB ks)).length) cs] 39, .blk b2 ((bK vs k).1.map (Value.int .i64) ++ [Value.slice A (bK vs k).2.length c]) 27, els C8 1 KA ks, els CI 1 VA vs])
    refine lst_y (wanted_of fr rfl rfl rfl rfl) (ow_v fr (rn_move (fr.ev rfl)) rfl rfl ?_)
    intro a fr
    (try rw [happ] at fr); (try rw [happ] at st)
    refine lst_y (wanted_of fr rfl rfl rfl rfl) (ow_call fr rfl rfl Try.call16 (eqVal_same ((List.range k).map (wantB ks vs)) A93 Aw c94 cw (by simp; omega) _ (row_els valC_len (st.get 1 rfl).1) (row_els valC_len (st.get 6 rfl).1)) rfl rfl ?_)
    rintro e w ⟨rfl, hag⟩
    refine ⟨_, rfl, ?_⟩
    intro a fr
    have st := st.keep hag
    refine lst rfl (ow_v fr (rn_pick_t (fr.ev rfl) (fr.ev rfl)) rfl rfl ?_)
    intro a fr
    refine lst rfl (ow_v fr (rn_assign (fr.ev rfl)) rfl rfl ?_)
    intro a fr
    refine wpList_nil ?_
    refine then_n ?_
    refine wp_ret ?_
    refine ret1 Try.results4 fr (rv_tmp fr rfl) ?_
    exact ⟨rfl, st.agr.below⟩

end Go.Proofs.Ytngpfbcjmlpplaa.Y5
