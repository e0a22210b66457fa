import Derived.Test.YtnggnacaghcclaaH3
set_option linter.unusedVariables false
set_option linter.unusedSimpArgs false
namespace Go.Proofs.Ytnggnacaghcclaa.H4
open Go.RowKit Go.Proofs.Ytnggnacaghcclaa.LibA Go.Proofs.Ytnggnacaghcclaa.LibC Go.Proofs.Ytnggnacaghcclaa.LibS Go.Proofs.Ytnggnacaghcclaa.LibR Go.Proofs.Ytnggnacaghcclaa.LibT Go.Proofs.Ytnggnacaghcclaa.LibU Go.Proofs.Ytnggnacaghcclaa.LibV Go.Proofs.Ytnggnacaghcclaa.LibW Go.Proofs.Ytnggnacaghcclaa.H1 Go.Proofs.Ytnggnacaghcclaa.H2 Go.Proofs.Ytnggnacaghcclaa.H3
/-- the least above two -/
structure ComP (L : Nat) (ss : List Int) (a b c : Int) : Prop where
  ex : ∃ i, itS ss i a = c ∧ ∀ j, j < i → ¬ UndP L ss b (itS ss j a)
  left : UndP L ss a c
  right : UndP L ss b c
theorem comP_of {L : Nat} {ss : List Int} (hf : HF L ss) {a b c : Int} (ha : 0 ≤ a ∧ a < L) {i : Nat} (h1 : itS ss i a = c) (h2 : UndP L ss b c) (h3 : ∀ j, j < i → ¬ UndP L ss b (itS ss j a)) : ComP L ss a b c := ⟨⟨i, h1, h3⟩, ⟨ha, h2.2.1, i, h1⟩, h2⟩
theorem und_trans {L : Nat} {ss : List Int} {a b c : Int} (h : UndP L ss a b) (h2 : UndP L ss b c) : UndP L ss a c := by
  obtain ⟨ha, _, i, hi⟩ := h
  obtain ⟨_, hc, j, hj⟩ := h2
  exact ⟨ha, hc, i + j, by rw [itS_add, hi, hj]⟩
/-- what stands above a and b stands above the least -/
theorem comP_least {L : Nat} {ss : List Int} (hf : HF L ss) {a b c k : Int} (h : ComP L ss a b c) (ha : UndP L ss a k) (hb : UndP L ss b k) : UndP L ss c k := by
  obtain ⟨⟨i, hi, hno⟩, hl, hr⟩ := h
  obtain ⟨_, hk, j, hj⟩ := ha
  have : ¬ j < i := fun h => hno j h (by rw [hj]; exact hb)
  refine ⟨hl.2.1, hk, j - i, ?_⟩
  rw [← hi, ← itS_add, show i + (j - i) = j by omega, hj]
theorem comP_symm {L : Nat} {ss : List Int} (hf : HF L ss) {a b c d : Int} (h : ComP L ss a b c) (h2 : ComP L ss b a d) : c = d := by
  have h3 := comP_least hf h h2.right h2.left
  have h4 := comP_least hf h2 h.right h.left
  refine Classical.byContradiction fun hne => und_anti hf hne h3 h4
theorem common_c (g m : Nat) (A1 A2 : Option Addr) (c1 c2 : Nat) (ns : List ByteArray) (ss : List Int) (hf : HF ns.length ss) (p1 p2 : Int) (ha : 0 ≤ p1 ∧ p1 < ns.length) (hb : 0 ≤ p2 ∧ p2 < ns.length) (w0 : World) (hok : HOk g m A1 A2 c1 c2 ns ss w0) : Calls Try.prog 13 #[.pointer (some ⟨g, 0, none⟩), .int .i64 p1, .int .i64 p2] w0 fun e w' => (∃ c, e = .returned (.int .i64 c) ∧ ComP ns.length ss p1 p2 c) ∧ Agr [] w0 w' :=
  (common_t g m A1 A2 c1 c2 ns ss hf p1 p2 ha hb w0 hok).mono fun e w' ⟨⟨c, h1, i, h2, h3, h4⟩, h5⟩ => ⟨⟨c, h1, comP_of hf ha h2 h3 h4⟩, h5⟩
theorem common_again (g m : Nat) (A1 A2 : Option Addr) (c1 c2 : Nat) (ns : List ByteArray) (ss : List Int) (hf : HF ns.length ss) (p1 p2 c : Int) (ha : 0 ≤ p1 ∧ p1 < ns.length) (hb : 0 ≤ p2 ∧ p2 < ns.length) (hc : ComP ns.length ss p2 p1 c) (w0 : World) (hok : HOk g m A1 A2 c1 c2 ns ss w0) : Calls Try.prog 13 #[.pointer (some ⟨g, 0, none⟩), .int .i64 p1, .int .i64 p2] w0 fun e w' => e = .returned (.int .i64 c) ∧ Agr [] w0 w' :=
  (common_c g m A1 A2 c1 c2 ns ss hf p1 p2 ha hb w0 hok).mono fun e w' ⟨⟨d, h1, h2⟩, h5⟩ => ⟨by rw [h1, comP_symm hf h2 hc], h5⟩
/-- how many stand above n -/
theorem depth_has {L : Nat} {ss : List Int} (hf : HF L ss) {n : Int} (hn : 0 ≤ n ∧ n < L) : ∃ d : Nat, 0 < d ∧ d ≤ 1000 ∧ (∀ j, j < d → 0 ≤ itS ss j n ∧ itS ss j n < L) ∧ ¬ (0 ≤ itS ss d n ∧ itS ss d n < L) := by
  obtain ⟨q, rfl⟩ := Int.eq_ofNat_of_zero_le hn.1
  obtain ⟨i, hi, hneg⟩ := hf.acyc q (by omega)
  have hfh := hf.high
  have key : ∀ i, itS ss i (q : Int) < 0 → ∃ d, d ≤ i ∧ itS ss d (q : Int) < 0 ∧ ∀ j, j < d → 0 ≤ itS ss j (q : Int) := by
    intro i
    induction i with
    | zero => intro h; exact ⟨0, Nat.le_refl _, h, fun j hj => absurd hj (Nat.not_lt_zero _)⟩
    | succ i ih =>
      intro h
      rcases Int.lt_or_le (itS ss i (q : Int)) 0 with h2 | h2
      · obtain ⟨d, h3, h4, h5⟩ := ih h2
        exact ⟨d, by omega, h4, h5⟩
      · refine ⟨i + 1, Nat.le_refl _, h, fun j hj => ?_⟩
        refine Int.not_lt.1 fun hl => ?_
        have := itS_mono hf (by omega) hn.2 hl i (by omega)
        omega
  obtain ⟨d, hd, h1, h2⟩ := key i hneg
  refine ⟨d, ?_, by omega, fun j hj => ⟨h2 j hj, (itS_neg hf (by omega) hn.2 j).1.2⟩, fun h => by omega⟩
  rcases Nat.eq_zero_or_pos d with rfl | h
  · exact absurd h1 (by show ¬ (q : Int) < 0; omega)
  · exact h
theorem depth_y (g m : Nat) (A1 A2 : Option Addr) (c1 c2 : Nat) (ns : List ByteArray) (ss : List Int) (hf : HF ns.length ss) (n : Int) (hn : 0 ≤ n ∧ n < ns.length) (w0 : World) (hok : HOk g m A1 A2 c1 c2 ns ss w0) : Calls Try.prog 12 #[.pointer (some ⟨g, 0, none⟩), .int .i64 n] w0 fun e w' => (∃ d : Int, e = .returned (.int .i64 d) ∧ 0 ≤ d) ∧ Agr [] w0 w' := by
  obtain ⟨d, h0, h1, h2, h3⟩ := depth_has hf hn
  exact (depth_calls g m A1 A2 c1 c2 ns ss hf n d h1 h2 h3 w0 hok).mono fun e w' ⟨h4, h5⟩ => ⟨⟨_, h4, by omega⟩, h5⟩
theorem depth_n (g m : Nat) (A1 A2 : Option Addr) (c1 c2 : Nat) (ns : List ByteArray) (ss : List Int) (hf : HF ns.length ss) (n : Int) (hn : ¬ (0 ≤ n ∧ n < ns.length)) (w0 : World) (hok : HOk g m A1 A2 c1 c2 ns ss w0) : Calls Try.prog 12 #[.pointer (some ⟨g, 0, none⟩), .int .i64 n] w0 fun e w' => e = .returned (.int .i64 (-1)) ∧ Agr [] w0 w' :=
  (depth_calls g m A1 A2 c1 c2 ns ss hf n 0 (by omega) (fun j hj => absurd hj (Nat.not_lt_zero _)) hn w0 hok).mono fun e w' ⟨h4, h5⟩ => ⟨h4, h5⟩

theorem fa_33_0 {ρ : Operand → Value} {w : World} {dst : Option Tmp} {ty : TypeId} {pos : String} {aft : Array Edge} {gd : Option (Nat × Bool)} {x : Operand} {b o : Nat} (hx : ρ x = .pointer (some ⟨b, o, none⟩)) : (execOp ρ ⟨dst, .fieldAddr 33 x 0, ty, pos, aft, gd⟩).run Try.prog w = .ok (.value (.pointer (some ⟨b, o + 0, none⟩))) w := rn_field hx Try.underlying33 rfl (by kernel_rfl) rfl
theorem fa_33_1 {ρ : Operand → Value} {w : World} {dst : Option Tmp} {ty : TypeId} {pos : String} {aft : Array Edge} {gd : Option (Nat × Bool)} {x : Operand} {b o : Nat} (hx : ρ x = .pointer (some ⟨b, o, none⟩)) : (execOp ρ ⟨dst, .fieldAddr 33 x 1, ty, pos, aft, gd⟩).run Try.prog w = .ok (.value (.pointer (some ⟨b, o + 1, none⟩))) w := rn_field hx Try.underlying33 rfl (by kernel_rfl) rfl
set_option maxHeartbeats 1000000 in
theorem least_walk (l : List LineD) (LA : Option Addr) (lc : Nat) (pa pb pc : Int) (hl : l.length ≤ 9223372036854775807) (w0 : World) (ha0 : Els lineC 2 w0 LA l) : Calls Try.prog 4 #[.slice LA l.length lc, .agg #[.int .i64 pa, .int .i64 pb, .int .i64 pc]] w0 fun e w' => e = .returned (.bool true) ∧ Below w0.heap.size w0 w' := by
  have st : St w0 [] w0 [els lineC 2 LA l] := (add_ro (start0 w0 []) (by simp [els, It.wr]) rfl (els_ok (C := lineC) (sz := 2) (by decide) (fun x => rfl) ha0))
  clear ha0
  by_cases hfi : Fine l
  · refine enter Try.func4 rfl Try.ntmps4 (by simp) ?_
    intro a fr
    refine wp_seq ?_
    refine reg ?_
    refine lst rfl (ow_box fr st rfl rfl rfl rfl ([.int .i64 (pa), .int .i64 (pb), .int .i64 (pc)]) (by rfl) ?_)
    intro a w b1 fr st
    refine lst rfl (ow_v fr (rn_assign (fr.ev rfl)) rfl rfl ?_)
    intro a fr
    refine wpList_nil ?_
    refine then_n ?_
    refine wp_seq ?_
    refine reg ?_
    refine lst rfl (ow_v fr (rn_move (fr.ev rfl)) rfl rfl ?_)
    intro a fr
    refine lst rfl (ow_call fr rfl rfl Try.call7 (new_fine hfi _ _ hl _ (st.get 1 rfl).1) rfl rfl ?_)
    rintro e w ⟨ns, ss, g, m, A1, A2, c1, c2, rfl, hf, hes, st2, hnw⟩
    refine ⟨_, rfl, ?_⟩
    intro a fr
    have st := st.join st2 hnw
    clear st2 hnw
    replace st : St _ [] w [ro g 0 [.slice A1 ns.length c1, .slice A2 ss.length c2, (.map (some m))], els CS 1 A1 ns, els CI 1 A2 ss, mapRo kS vN m ((mL ns)), .blk b1 [.int .i64 (pa), .int .i64 (pb), .int .i64 (pc)] 33, els lineC 2 LA l] := st
    refine lst rfl (ow_v fr (rn_move (fr.ev rfl)) rfl rfl ?_)
    intro a fr
    refine lst rfl (ow_v fr (rn_extract (fr.ev rfl) rfl) rfl rfl ?_)
    intro a fr
    refine lst rfl (ow_v fr (rn_extract (fr.ev rfl) rfl) rfl rfl ?_)
    intro a fr
    refine lst rfl (ow_v fr (rn_assign (fr.ev rfl)) rfl rfl ?_)
    intro a fr
    refine lst rfl (ow_v fr (rn_assign (fr.ev rfl)) rfl rfl ?_)
    intro a fr
    refine wpList_nil ?_
    refine then_n ?_
    refine wp_seq ?_
    refine wp_seq ?_
    refine reg ?_
    refine lst rfl (ow_call fr rfl rfl Try.call8 (live_calls _) rfl rfl ?_)
    rintro e w ⟨rfl, hag⟩
    refine ⟨_, rfl, ?_⟩
    intro a fr
    have st := st.keep hag
    clear hag
    refine lst rfl (ow_v fr (rn_not (fr.ev rfl)) rfl rfl ?_)
    intro a fr
    refine wpList_nil ?_
    refine then_n ?_
    refine cond_f fr rfl rfl ?_
    refine wp_skip ?_
    refine then_n ?_
    refine wp_seq ?_
    refine wp_seq ?_
    refine reg ?_
    refine lst rfl (ow_v fr (rn_move (fr.ev rfl)) rfl rfl ?_)
    intro a fr
    refine lst rfl (ow_v fr (rn_as (rn_neq (fr.ev rfl) (fr.ev rfl)) (by rfl)) rfl rfl ?_)
    intro a fr
    refine wpList_nil ?_
    refine then_n ?_
    refine cond_f fr rfl rfl ?_
    refine wp_skip ?_
    refine then_n ?_
    refine wp_seq ?_
    refine wp_seq ?_
    have hfh := hf.high
    have hfl := hf.low
    by_cases ha : 0 ≤ pa ∧ pa < ns.length
    · by_cases hb : 0 ≤ pb ∧ pb < ns.length
      · refine reg ?_
        refine lst rfl (ow_v fr (rn_move (fr.ev rfl)) rfl rfl ?_)
        intro a fr
        refine lst rfl (ow_v fr (fa_33_0 (fr.ev rfl)) rfl rfl ?_)
        intro a fr
        refine lst rfl (ow_v fr (rn_load (fr.ev rfl) Try.underlying3 rfl (st.cell 4 rfl rfl)) rfl rfl ?_)
        intro a fr
        refine lst rfl (ow_call fr rfl rfl Try.call12 (depth_y g m _ _ c1 c2 ns ss hf pa ha _ (hok4 (st.get 0 rfl) (st.get 1 rfl) (st.get 2 rfl) (st.get 3 rfl))) rfl rfl ?_)
        rintro e w ⟨⟨dpa, rfl, hdpa⟩, hag⟩
        refine ⟨_, rfl, ?_⟩
        intro a fr
        have st := st.keep hag
        clear hag
        refine lst rfl (ow_v fr (rn_as (v' := .bool false) (rn_lss (fr.ev rfl) (fr.ev rfl)) (congrArg Value.bool (decide_eq_false (by omega)))) rfl rfl ?_)
        intro a fr
        refine lst rfl (ow_v fr (rn_move (fr.ev rfl)) rfl rfl ?_)
        intro a fr
        refine lst_y (wanted_of fr rfl rfl rfl rfl) (ow_v fr (rn_move (fr.ev rfl)) rfl rfl ?_)
        intro a fr
        refine lst_y (wanted_of fr rfl rfl rfl rfl) (ow_v fr (fa_33_1 (fr.ev rfl)) rfl rfl ?_)
        intro a fr
        refine lst_y (wanted_of fr rfl rfl rfl rfl) (ow_v fr (rn_load (fr.ev rfl) Try.underlying3 rfl (st.cell 4 rfl rfl)) rfl rfl ?_)
        intro a fr
        refine lst_y (wanted_of fr rfl rfl rfl rfl) (ow_call fr rfl rfl Try.call12 (depth_y g m _ _ c1 c2 ns ss hf pb hb _ (hok4 (st.get 0 rfl) (st.get 1 rfl) (st.get 2 rfl) (st.get 3 rfl))) rfl rfl ?_)
        rintro e w ⟨⟨dpb, rfl, hdpb⟩, hag⟩
        refine ⟨_, rfl, ?_⟩
        intro a fr
        have st := st.keep hag
        clear hag
        refine lst_y (wanted_of fr rfl rfl rfl rfl) (ow_v fr (rn_as (v' := .bool false) (rn_lss (fr.ev rfl) (fr.ev rfl)) (congrArg Value.bool (decide_eq_false (by omega)))) rfl rfl ?_)
        intro a fr
        refine lst rfl (ow_v fr (rn_pick_f (fr.ev rfl) (fr.ev rfl)) rfl rfl ?_)
        intro a fr
        refine wpList_nil ?_
        refine then_n ?_
        refine cond_f fr rfl rfl ?_
        refine wp_skip ?_
        refine then_n ?_
        refine wp_seq ?_
        refine reg ?_
        refine lst rfl (ow_v fr (rn_move (fr.ev rfl)) rfl rfl ?_)
        intro a fr
        refine lst rfl (ow_v fr (fa_33_0 (fr.ev rfl)) rfl rfl ?_)
        intro a fr
        refine lst rfl (ow_v fr (rn_load (fr.ev rfl) Try.underlying3 rfl (st.cell 4 rfl rfl)) rfl rfl ?_)
        intro a fr
        refine lst rfl (ow_v fr (fa_33_1 (fr.ev rfl)) rfl rfl ?_)
        intro a fr
        refine lst rfl (ow_v fr (rn_load (fr.ev rfl) Try.underlying3 rfl (st.cell 4 rfl rfl)) rfl rfl ?_)
        intro a fr
        refine lst rfl (ow_call fr rfl rfl Try.call13 (common_c g m _ _ c1 c2 ns ss hf pa pb ha hb _ (hok4 (st.get 0 rfl) (st.get 1 rfl) (st.get 2 rfl) (st.get 3 rfl))) rfl rfl ?_)
        rintro e w ⟨⟨c, rfl, hc⟩, hag⟩
        refine ⟨_, rfl, ?_⟩
        intro a fr
        have st := st.keep hag
        clear hag
        refine lst rfl (ow_v fr (rn_assign (fr.ev rfl)) rfl rfl ?_)
        intro a fr
        refine wpList_nil ?_
        refine then_n ?_
        refine wp_seq ?_
        refine wp_seq ?_
        refine reg ?_
        refine lst rfl (ow_v fr (rn_move (fr.ev rfl)) rfl rfl ?_)
        intro a fr
        refine lst rfl (ow_v fr (fa_33_0 (fr.ev rfl)) rfl rfl ?_)
        intro a fr
        refine lst rfl (ow_v fr (rn_load (fr.ev rfl) Try.underlying3 rfl (st.cell 4 rfl rfl)) rfl rfl ?_)
        intro a fr
        refine lst rfl (ow_v fr (rn_move (fr.ev rfl)) rfl rfl ?_)
        intro a fr
        refine lst rfl (ow_call fr rfl rfl Try.call10 (under_t g m _ _ c1 c2 ns ss hf pa c (hc.left) _ (hok4 (st.get 0 rfl) (st.get 1 rfl) (st.get 2 rfl) (st.get 3 rfl))) rfl rfl ?_)
        rintro e w ⟨rfl, hag⟩
        refine ⟨_, rfl, ?_⟩
        intro a fr
        have st := st.keep hag
        clear hag
        refine lst rfl (ow_v fr (rn_not (fr.ev rfl)) rfl rfl ?_)
        intro a fr
        refine lst rfl (ow_v fr (rn_move (fr.ev rfl)) rfl rfl ?_)
        intro a fr
        refine lst_y (wanted_of fr rfl rfl rfl rfl) (ow_v fr (rn_move (fr.ev rfl)) rfl rfl ?_)
        intro a fr
        refine lst_y (wanted_of fr rfl rfl rfl rfl) (ow_v fr (fa_33_1 (fr.ev rfl)) rfl rfl ?_)
        intro a fr
        refine lst_y (wanted_of fr rfl rfl rfl rfl) (ow_v fr (rn_load (fr.ev rfl) Try.underlying3 rfl (st.cell 4 rfl rfl)) rfl rfl ?_)
        intro a fr
        refine lst_y (wanted_of fr rfl rfl rfl rfl) (ow_v fr (rn_move (fr.ev rfl)) rfl rfl ?_)
        intro a fr
        refine lst_y (wanted_of fr rfl rfl rfl rfl) (ow_call fr rfl rfl Try.call10 (under_t g m _ _ c1 c2 ns ss hf pb c (hc.right) _ (hok4 (st.get 0 rfl) (st.get 1 rfl) (st.get 2 rfl) (st.get 3 rfl))) rfl rfl ?_)
        rintro e w ⟨rfl, hag⟩
        refine ⟨_, rfl, ?_⟩
        intro a fr
        have st := st.keep hag
        clear hag
        refine lst_y (wanted_of fr rfl rfl rfl rfl) (ow_v fr (rn_not (fr.ev rfl)) rfl rfl ?_)
        intro a fr
        refine lst rfl (ow_v fr (rn_pick_f (fr.ev rfl) (fr.ev rfl)) rfl rfl ?_)
        intro a fr
        refine lst rfl (ow_v fr (rn_move (fr.ev rfl)) rfl rfl ?_)
        intro a fr
        refine lst_y (wanted_of fr rfl rfl rfl rfl) (ow_v fr (rn_move (fr.ev rfl)) rfl rfl ?_)
        intro a fr
        refine lst_y (wanted_of fr rfl rfl rfl rfl) (ow_v fr (rn_move (fr.ev rfl)) rfl rfl ?_)
        intro a fr
        refine lst_y (wanted_of fr rfl rfl rfl rfl) (ow_v fr (fa_33_1 (fr.ev rfl)) rfl rfl ?_)
        intro a fr
        refine lst_y (wanted_of fr rfl rfl rfl rfl) (ow_v fr (rn_load (fr.ev rfl) Try.underlying3 rfl (st.cell 4 rfl rfl)) rfl rfl ?_)
        intro a fr
        refine lst_y (wanted_of fr rfl rfl rfl rfl) (ow_v fr (fa_33_0 (fr.ev rfl)) rfl rfl ?_)
        intro a fr
        refine lst_y (wanted_of fr rfl rfl rfl rfl) (ow_v fr (rn_load (fr.ev rfl) Try.underlying3 rfl (st.cell 4 rfl rfl)) rfl rfl ?_)
        intro a fr
        refine lst_y (wanted_of fr rfl rfl rfl rfl) (ow_call fr rfl rfl Try.call13 (common_again g m _ _ c1 c2 ns ss hf pb pa c hb ha hc _ (hok4 (st.get 0 rfl) (st.get 1 rfl) (st.get 2 rfl) (st.get 3 rfl))) rfl rfl ?_)
        rintro e w ⟨rfl, hag⟩
        refine ⟨_, rfl, ?_⟩
        intro a fr
        have st := st.keep hag
        clear hag
        refine lst_y (wanted_of fr rfl rfl rfl rfl) (ow_v fr (rn_as (v' := .bool false) (rn_neq (fr.ev rfl) (fr.ev rfl)) (congrArg Value.bool (by simp))) rfl rfl ?_)
        intro a fr
        refine lst rfl (ow_v fr (rn_pick_f (fr.ev rfl) (fr.ev rfl)) rfl rfl ?_)
        intro a fr
        refine wpList_nil ?_
        refine then_n ?_
        refine cond_f fr rfl rfl ?_
        refine wp_skip ?_
        refine then_n ?_
        refine wp_seq ?_
        refine wp_seq ?_
        refine reg ?_
        refine lst rfl (ow_v fr (rn_move (fr.ev rfl)) rfl rfl ?_)
        intro a fr
        refine lst rfl (ow_call fr rfl rfl Try.call9 (len_calls g m _ _ c1 c2 ns ss _ (hok4 (st.get 0 rfl) (st.get 1 rfl) (st.get 2 rfl) (st.get 3 rfl))) rfl rfl ?_)
        rintro e w ⟨rfl, hag⟩
        refine ⟨_, rfl, ?_⟩
        intro a fr
        have st := st.keep hag
        clear hag
        refine lst rfl (ow_v fr (rn_move (fr.ev rfl)) rfl rfl ?_)
        intro a fr
        refine wpList_nil ?_
        refine then_n ?_
        refine wp_block ?_
        have st := st.sub (.cons_cons _ (.cons_cons _ (.cons_cons _ (.cons_cons _ (.cons_cons _ (.cons _ .slnil))))))
        refine wp_loop_ghost (fun mz a w => ∃ (k : Nat), (k ≤ ns.length) ∧ mz = ns.length - k ∧ FrL 94 a [(3, .pointer (some ⟨b1, 0, none⟩)), (5, .pointer (some ⟨g, 0, none⟩)), (7, .int .i64 (c)), (70, .int .i64 ((ns.length : Nat))), (71, .int .i64 ((k : Nat)))] ∧ St w0 [] w [ro g 0 [.slice A1 ns.length c1, .slice A2 ss.length c2, (.map (some m))], els CS 1 A1 ns, els CI 1 A2 ss, mapRo kS vN m ((mL ns)), .blk b1 [.int .i64 (pa), .int .i64 (pb), .int .i64 (pc)] 33]) _ ⟨0, (Nat.zero_le _), rfl, fr.prune ⟨rfl, rfl, rfl, rfl, rfl, trivial⟩, st⟩ ?_
        clear fr st
        intro mz a w hI
        obtain ⟨k, hk, hmz, fr, st⟩ := hI
        by_cases hk2 : k < ns.length
        · by_cases h1 : UndP ns.length ss pa (k : Nat)
          · by_cases h2 : UndP ns.length ss pb (k : Nat)
            · refine wp_seq ?_
              refine reg ?_
              refine lst rfl (ow_v fr (rn_as (v' := .bool true) (rn_lss (fr.ev rfl) (fr.ev rfl)) (congrArg Value.bool (decide_eq_true (by omega)))) rfl rfl ?_)
              intro a fr
              refine wpList_nil ?_
              refine then_n ?_
              refine wp_seq ?_
              refine cond_t fr rfl rfl ?_
              refine wp_skip ?_
              refine then_n ?_
              refine wp_seq ?_
              refine wp_block ?_
              refine wp_seq ?_
              refine reg ?_
              refine lst rfl (ow_v fr (rn_move (fr.ev rfl)) rfl rfl ?_)
              intro a fr
              refine lst rfl (ow_v fr (rn_assign (fr.ev rfl)) rfl rfl ?_)
              intro a fr
              refine wpList_nil ?_
              refine then_n ?_
              refine wp_seq ?_
              refine reg ?_
              refine lst rfl (ow_v fr (rn_move (fr.ev rfl)) rfl rfl ?_)
              intro a fr
              refine lst rfl (ow_v fr (fa_33_0 (fr.ev rfl)) rfl rfl ?_)
              intro a fr
              refine lst rfl (ow_v fr (rn_load (fr.ev rfl) Try.underlying3 rfl (st.cell 4 rfl rfl)) rfl rfl ?_)
              intro a fr
              refine lst rfl (ow_v fr (rn_move (fr.ev rfl)) rfl rfl ?_)
              intro a fr
              refine lst rfl (ow_call fr rfl rfl Try.call10 (under_t g m _ _ c1 c2 ns ss hf pa ((k : Nat)) (h1) _ (hok4 (st.get 0 rfl) (st.get 1 rfl) (st.get 2 rfl) (st.get 3 rfl))) rfl rfl ?_)
              rintro e w ⟨rfl, hag⟩
              refine ⟨_, rfl, ?_⟩
              intro a fr
              have st := st.keep hag
              clear hag
              refine lst rfl (ow_v fr (rn_move (fr.ev rfl)) rfl rfl ?_)
              intro a fr
              refine lst_y (wanted_of fr rfl rfl rfl rfl) (ow_v fr (rn_move (fr.ev rfl)) rfl rfl ?_)
              intro a fr
              refine lst_y (wanted_of fr rfl rfl rfl rfl) (ow_v fr (fa_33_1 (fr.ev rfl)) rfl rfl ?_)
              intro a fr
              refine lst_y (wanted_of fr rfl rfl rfl rfl) (ow_v fr (rn_load (fr.ev rfl) Try.underlying3 rfl (st.cell 4 rfl rfl)) rfl rfl ?_)
              intro a fr
              refine lst_y (wanted_of fr rfl rfl rfl rfl) (ow_v fr (rn_move (fr.ev rfl)) rfl rfl ?_)
              intro a fr
              refine lst_y (wanted_of fr rfl rfl rfl rfl) (ow_call fr rfl rfl Try.call10 (under_t g m _ _ c1 c2 ns ss hf pb ((k : Nat)) (h2) _ (hok4 (st.get 0 rfl) (st.get 1 rfl) (st.get 2 rfl) (st.get 3 rfl))) rfl rfl ?_)
              rintro e w ⟨rfl, hag⟩
              refine ⟨_, rfl, ?_⟩
              intro a fr
              have st := st.keep hag
              clear hag
              refine lst rfl (ow_v fr (rn_pick_t (fr.ev rfl) (fr.ev rfl)) rfl rfl ?_)
              intro a fr
              refine lst rfl (ow_v fr (rn_move (fr.ev rfl)) rfl rfl ?_)
              intro a fr
              refine lst_y (wanted_of fr rfl rfl rfl rfl) (ow_v fr (rn_move (fr.ev rfl)) rfl rfl ?_)
              intro a fr
              refine lst_y (wanted_of fr rfl rfl rfl rfl) (ow_v fr (rn_move (fr.ev rfl)) rfl rfl ?_)
              intro a fr
              refine lst_y (wanted_of fr rfl rfl rfl rfl) (ow_v fr (rn_move (fr.ev rfl)) rfl rfl ?_)
              intro a fr
              refine lst_y (wanted_of fr rfl rfl rfl rfl) (ow_call fr rfl rfl Try.call10 (under_t g m _ _ c1 c2 ns ss hf c ((k : Nat)) (comP_least hf hc h1 h2) _ (hok4 (st.get 0 rfl) (st.get 1 rfl) (st.get 2 rfl) (st.get 3 rfl))) rfl rfl ?_)
              rintro e w ⟨rfl, hag⟩
              refine ⟨_, rfl, ?_⟩
              intro a fr
              have st := st.keep hag
              clear hag
              refine lst_y (wanted_of fr rfl rfl rfl rfl) (ow_v fr (rn_not (fr.ev rfl)) rfl rfl ?_)
              intro a fr
              refine lst rfl (ow_v fr (rn_pick_t (fr.ev rfl) (fr.ev rfl)) rfl rfl ?_)
              intro a fr
              refine wpList_nil ?_
              refine then_n ?_
              refine cond_f fr rfl rfl ?_
              refine wp_skip ?_
              refine blk_n ?_
              refine then_n ?_
              refine reg ?_
              refine lst rfl (ow_v fr (rn_add (c := ((k + 1 : Nat) : Int)) (fr.ev rfl) (fr.ev rfl) (wr_i64e (by omega) (by omega) (by omega))) rfl rfl ?_)
              intro a fr
              refine lst rfl (ow_v fr (rn_move (fr.ev rfl)) rfl rfl ?_)
              intro a fr
              refine wpList_nil ?_
              refine then_n ⟨ns.length - (k + 1), ?_, k + 1, (by omega), rfl, fr.prune ⟨rfl, rfl, rfl, rfl, rfl, trivial⟩, st.sub (.cons_cons _ (.cons_cons _ (.cons_cons _ (.cons_cons _ (.cons_cons _ .slnil)))))⟩
              omega
            · refine wp_seq ?_
              refine reg ?_
              refine lst rfl (ow_v fr (rn_as (v' := .bool true) (rn_lss (fr.ev rfl) (fr.ev rfl)) (congrArg Value.bool (decide_eq_true (by omega)))) rfl rfl ?_)
              intro a fr
              refine wpList_nil ?_
              refine then_n ?_
              refine wp_seq ?_
              refine cond_t fr rfl rfl ?_
              refine wp_skip ?_
              refine then_n ?_
              refine wp_seq ?_
              refine wp_block ?_
              refine wp_seq ?_
              refine reg ?_
              refine lst rfl (ow_v fr (rn_move (fr.ev rfl)) rfl rfl ?_)
              intro a fr
              refine lst rfl (ow_v fr (rn_assign (fr.ev rfl)) rfl rfl ?_)
              intro a fr
              refine wpList_nil ?_
              refine then_n ?_
              refine wp_seq ?_
              refine reg ?_
              refine lst rfl (ow_v fr (rn_move (fr.ev rfl)) rfl rfl ?_)
              intro a fr
              refine lst rfl (ow_v fr (fa_33_0 (fr.ev rfl)) rfl rfl ?_)
              intro a fr
              refine lst rfl (ow_v fr (rn_load (fr.ev rfl) Try.underlying3 rfl (st.cell 4 rfl rfl)) rfl rfl ?_)
              intro a fr
              refine lst rfl (ow_v fr (rn_move (fr.ev rfl)) rfl rfl ?_)
              intro a fr
              refine lst rfl (ow_call fr rfl rfl Try.call10 (under_t g m _ _ c1 c2 ns ss hf pa ((k : Nat)) (h1) _ (hok4 (st.get 0 rfl) (st.get 1 rfl) (st.get 2 rfl) (st.get 3 rfl))) rfl rfl ?_)
              rintro e w ⟨rfl, hag⟩
              refine ⟨_, rfl, ?_⟩
              intro a fr
              have st := st.keep hag
              clear hag
              refine lst rfl (ow_v fr (rn_move (fr.ev rfl)) rfl rfl ?_)
              intro a fr
              refine lst_y (wanted_of fr rfl rfl rfl rfl) (ow_v fr (rn_move (fr.ev rfl)) rfl rfl ?_)
              intro a fr
              refine lst_y (wanted_of fr rfl rfl rfl rfl) (ow_v fr (fa_33_1 (fr.ev rfl)) rfl rfl ?_)
              intro a fr
              refine lst_y (wanted_of fr rfl rfl rfl rfl) (ow_v fr (rn_load (fr.ev rfl) Try.underlying3 rfl (st.cell 4 rfl rfl)) rfl rfl ?_)
              intro a fr
              refine lst_y (wanted_of fr rfl rfl rfl rfl) (ow_v fr (rn_move (fr.ev rfl)) rfl rfl ?_)
              intro a fr
              refine lst_y (wanted_of fr rfl rfl rfl rfl) (ow_call fr rfl rfl Try.call10 (under_f g m _ _ c1 c2 ns ss hf pb ((k : Nat)) (h2) _ (hok4 (st.get 0 rfl) (st.get 1 rfl) (st.get 2 rfl) (st.get 3 rfl))) rfl rfl ?_)
              rintro e w ⟨rfl, hag⟩
              refine ⟨_, rfl, ?_⟩
              intro a fr
              have st := st.keep hag
              clear hag
              refine lst rfl (ow_v fr (rn_pick_t (fr.ev rfl) (fr.ev rfl)) rfl rfl ?_)
              intro a fr
              refine lst rfl (ow_v fr (rn_move (fr.ev rfl)) rfl rfl ?_)
              intro a fr
              refine lst_n (unwanted_of fr rfl rfl rfl rfl) fr rfl rfl ?_
              intro a fr
              refine lst_n (unwanted_of fr rfl rfl rfl rfl) fr rfl rfl ?_
              intro a fr
              refine lst_n (unwanted_of fr rfl rfl rfl rfl) fr rfl rfl ?_
              intro a fr
              refine lst_n (unwanted_of fr rfl rfl rfl rfl) fr rfl rfl ?_
              intro a fr
              refine lst_n (unwanted_of fr rfl rfl rfl rfl) fr rfl rfl ?_
              intro a fr
              refine lst rfl (ow_v fr (rn_pick_f (fr.ev rfl) (fr.ev rfl)) rfl rfl ?_)
              intro a fr
              refine wpList_nil ?_
              refine then_n ?_
              refine cond_f fr rfl rfl ?_
              refine wp_skip ?_
              refine blk_n ?_
              refine then_n ?_
              refine reg ?_
              refine lst rfl (ow_v fr (rn_add (c := ((k + 1 : Nat) : Int)) (fr.ev rfl) (fr.ev rfl) (wr_i64e (by omega) (by omega) (by omega))) rfl rfl ?_)
              intro a fr
              refine lst rfl (ow_v fr (rn_move (fr.ev rfl)) rfl rfl ?_)
              intro a fr
              refine wpList_nil ?_
              refine then_n ⟨ns.length - (k + 1), ?_, k + 1, (by omega), rfl, fr.prune ⟨rfl, rfl, rfl, rfl, rfl, trivial⟩, st.sub (.cons_cons _ (.cons_cons _ (.cons_cons _ (.cons_cons _ (.cons_cons _ .slnil)))))⟩
              omega
          · refine wp_seq ?_
            refine reg ?_
            refine lst rfl (ow_v fr (rn_as (v' := .bool true) (rn_lss (fr.ev rfl) (fr.ev rfl)) (congrArg Value.bool (decide_eq_true (by omega)))) rfl rfl ?_)
            intro a fr
            refine wpList_nil ?_
            refine then_n ?_
            refine wp_seq ?_
            refine cond_t fr rfl rfl ?_
            refine wp_skip ?_
            refine then_n ?_
            refine wp_seq ?_
            refine wp_block ?_
            refine wp_seq ?_
            refine reg ?_
            refine lst rfl (ow_v fr (rn_move (fr.ev rfl)) rfl rfl ?_)
            intro a fr
            refine lst rfl (ow_v fr (rn_assign (fr.ev rfl)) rfl rfl ?_)
            intro a fr
            refine wpList_nil ?_
            refine then_n ?_
            refine wp_seq ?_
            refine reg ?_
            refine lst rfl (ow_v fr (rn_move (fr.ev rfl)) rfl rfl ?_)
            intro a fr
            refine lst rfl (ow_v fr (fa_33_0 (fr.ev rfl)) rfl rfl ?_)
            intro a fr
            refine lst rfl (ow_v fr (rn_load (fr.ev rfl) Try.underlying3 rfl (st.cell 4 rfl rfl)) rfl rfl ?_)
            intro a fr
            refine lst rfl (ow_v fr (rn_move (fr.ev rfl)) rfl rfl ?_)
            intro a fr
            refine lst rfl (ow_call fr rfl rfl Try.call10 (under_f g m _ _ c1 c2 ns ss hf pa ((k : Nat)) (h1) _ (hok4 (st.get 0 rfl) (st.get 1 rfl) (st.get 2 rfl) (st.get 3 rfl))) rfl rfl ?_)
            rintro e w ⟨rfl, hag⟩
            refine ⟨_, rfl, ?_⟩
            intro a fr
            have st := st.keep hag
            clear hag
            refine lst rfl (ow_v fr (rn_move (fr.ev rfl)) rfl rfl ?_)
            intro a fr
            refine lst_n (unwanted_of fr rfl rfl rfl rfl) fr rfl rfl ?_
            intro a fr
            refine lst_n (unwanted_of fr rfl rfl rfl rfl) fr rfl rfl ?_
            intro a fr
            refine lst_n (unwanted_of fr rfl rfl rfl rfl) fr rfl rfl ?_
            intro a fr
            refine lst_n (unwanted_of fr rfl rfl rfl rfl) fr rfl rfl ?_
            intro a fr
            refine lst_n (unwanted_of fr rfl rfl rfl rfl) fr rfl rfl ?_
            intro a fr
            refine lst rfl (ow_v fr (rn_pick_f (fr.ev rfl) (fr.ev rfl)) rfl rfl ?_)
            intro a fr
            refine lst rfl (ow_v fr (rn_move (fr.ev rfl)) rfl rfl ?_)
            intro a fr
            refine lst_n (unwanted_of fr rfl rfl rfl rfl) fr rfl rfl ?_
            intro a fr
            refine lst_n (unwanted_of fr rfl rfl rfl rfl) fr rfl rfl ?_
            intro a fr
            refine lst_n (unwanted_of fr rfl rfl rfl rfl) fr rfl rfl ?_
            intro a fr
            refine lst_n (unwanted_of fr rfl rfl rfl rfl) fr rfl rfl ?_
            intro a fr
            refine lst_n (unwanted_of fr rfl rfl rfl rfl) fr rfl rfl ?_
            intro a fr
            refine lst rfl (ow_v fr (rn_pick_f (fr.ev rfl) (fr.ev rfl)) rfl rfl ?_)
            intro a fr
            refine wpList_nil ?_
            refine then_n ?_
            refine cond_f fr rfl rfl ?_
            refine wp_skip ?_
            refine blk_n ?_
            refine then_n ?_
            refine reg ?_
            refine lst rfl (ow_v fr (rn_add (c := ((k + 1 : Nat) : Int)) (fr.ev rfl) (fr.ev rfl) (wr_i64e (by omega) (by omega) (by omega))) rfl rfl ?_)
            intro a fr
            refine lst rfl (ow_v fr (rn_move (fr.ev rfl)) rfl rfl ?_)
            intro a fr
            refine wpList_nil ?_
            refine then_n ⟨ns.length - (k + 1), ?_, k + 1, (by omega), rfl, fr.prune ⟨rfl, rfl, rfl, rfl, rfl, trivial⟩, st.sub (.cons_cons _ (.cons_cons _ (.cons_cons _ (.cons_cons _ (.cons_cons _ .slnil)))))⟩
            omega
        · refine wp_seq ?_
          refine reg ?_
          refine lst rfl (ow_v fr (rn_as (v' := .bool false) (rn_lss (fr.ev rfl) (fr.ev rfl)) (congrArg Value.bool (decide_eq_false (by omega)))) rfl rfl ?_)
          intro a fr
          refine wpList_nil ?_
          refine then_n ?_
          refine wp_seq ?_
          refine cond_f fr rfl rfl ?_
          refine wp_exit ?_
          refine then_x ?_
          refine then_x ?_
          refine blk_x ?_
          refine then_n ?_
          refine wp_seq ?_
          refine reg ?_
          refine lst rfl (ow_v fr (rn_assign (fr.ev rfl)) rfl rfl ?_)
          intro a fr
          refine wpList_nil ?_
          refine then_n ?_
          refine wp_ret ?_
          refine ret1 Try.results4 fr (rv_tmp fr rfl) ?_
          exact ⟨rfl, st.agr.below⟩
      · refine reg ?_
        refine lst rfl (ow_v fr (rn_move (fr.ev rfl)) rfl rfl ?_)
        intro a fr
        refine lst rfl (ow_v fr (fa_33_0 (fr.ev rfl)) rfl rfl ?_)
        intro a fr
        refine lst rfl (ow_v fr (rn_load (fr.ev rfl) Try.underlying3 rfl (st.cell 4 rfl rfl)) rfl rfl ?_)
        intro a fr
        refine lst rfl (ow_call fr rfl rfl Try.call12 (depth_y g m _ _ c1 c2 ns ss hf pa ha _ (hok4 (st.get 0 rfl) (st.get 1 rfl) (st.get 2 rfl) (st.get 3 rfl))) rfl rfl ?_)
        rintro e w ⟨⟨dpa, rfl, hdpa⟩, hag⟩
        refine ⟨_, rfl, ?_⟩
        intro a fr
        have st := st.keep hag
        clear hag
        refine lst rfl (ow_v fr (rn_as (v' := .bool false) (rn_lss (fr.ev rfl) (fr.ev rfl)) (congrArg Value.bool (decide_eq_false (by omega)))) rfl rfl ?_)
        intro a fr
        refine lst rfl (ow_v fr (rn_move (fr.ev rfl)) rfl rfl ?_)
        intro a fr
        refine lst_y (wanted_of fr rfl rfl rfl rfl) (ow_v fr (rn_move (fr.ev rfl)) rfl rfl ?_)
        intro a fr
        refine lst_y (wanted_of fr rfl rfl rfl rfl) (ow_v fr (fa_33_1 (fr.ev rfl)) rfl rfl ?_)
        intro a fr
        refine lst_y (wanted_of fr rfl rfl rfl rfl) (ow_v fr (rn_load (fr.ev rfl) Try.underlying3 rfl (st.cell 4 rfl rfl)) rfl rfl ?_)
        intro a fr
        refine lst_y (wanted_of fr rfl rfl rfl rfl) (ow_call fr rfl rfl Try.call12 (depth_n g m _ _ c1 c2 ns ss hf pb hb _ (hok4 (st.get 0 rfl) (st.get 1 rfl) (st.get 2 rfl) (st.get 3 rfl))) rfl rfl ?_)
        rintro e w ⟨rfl, hag⟩
        refine ⟨_, rfl, ?_⟩
        intro a fr
        have st := st.keep hag
        clear hag
        refine lst_y (wanted_of fr rfl rfl rfl rfl) (ow_v fr (rn_as (rn_lss (fr.ev rfl) (fr.ev rfl)) (by rfl)) rfl rfl ?_)
        intro a fr
        refine lst rfl (ow_v fr (rn_pick_f (fr.ev rfl) (fr.ev rfl)) rfl rfl ?_)
        intro a fr
        refine wpList_nil ?_
        refine then_n ?_
        refine cond_t fr rfl rfl ?_
        refine wp_seq ?_
        refine reg ?_
        refine lst rfl (ow_v fr (rn_move (fr.ev rfl)) rfl rfl ?_)
        intro a fr
        refine lst rfl (ow_v fr (fa_33_0 (fr.ev rfl)) rfl rfl ?_)
        intro a fr
        refine lst rfl (ow_v fr (rn_load (fr.ev rfl) Try.underlying3 rfl (st.cell 4 rfl rfl)) rfl rfl ?_)
        intro a fr
        refine lst rfl (ow_v fr (fa_33_1 (fr.ev rfl)) rfl rfl ?_)
        intro a fr
        refine lst rfl (ow_v fr (rn_load (fr.ev rfl) Try.underlying3 rfl (st.cell 4 rfl rfl)) rfl rfl ?_)
        intro a fr
        refine lst rfl (ow_call fr rfl rfl Try.call13 (common_f g m _ _ c1 c2 ns ss pa pb (fun h => hb h.2) _ (hok4 (st.get 0 rfl) (st.get 1 rfl) (st.get 2 rfl) (st.get 3 rfl))) rfl rfl ?_)
        rintro e w ⟨rfl, hag⟩
        refine ⟨_, rfl, ?_⟩
        intro a fr
        have st := st.keep hag
        clear hag
        refine lst rfl (ow_v fr (rn_as (rn_eql (fr.ev rfl) (fr.ev rfl)) (by rfl)) rfl rfl ?_)
        intro a fr
        refine lst rfl (ow_v fr (rn_assign (fr.ev rfl)) rfl rfl ?_)
        intro a fr
        refine wpList_nil ?_
        refine then_n ?_
        refine wp_ret ?_
        refine then_r ?_
        refine ret1 Try.results4 fr (rv_tmp fr rfl) ?_
        exact ⟨rfl, st.agr.below⟩
    · refine reg ?_
      refine lst rfl (ow_v fr (rn_move (fr.ev rfl)) rfl rfl ?_)
      intro a fr
      refine lst rfl (ow_v fr (fa_33_0 (fr.ev rfl)) rfl rfl ?_)
      intro a fr
      refine lst rfl (ow_v fr (rn_load (fr.ev rfl) Try.underlying3 rfl (st.cell 4 rfl rfl)) rfl rfl ?_)
      intro a fr
      refine lst rfl (ow_call fr rfl rfl Try.call12 (depth_n g m _ _ c1 c2 ns ss hf pa ha _ (hok4 (st.get 0 rfl) (st.get 1 rfl) (st.get 2 rfl) (st.get 3 rfl))) rfl rfl ?_)
      rintro e w ⟨rfl, hag⟩
      refine ⟨_, rfl, ?_⟩
      intro a fr
      have st := st.keep hag
      clear hag
      refine lst rfl (ow_v fr (rn_as (rn_lss (fr.ev rfl) (fr.ev rfl)) (by rfl)) rfl rfl ?_)
      intro a fr
      refine lst rfl (ow_v fr (rn_move (fr.ev rfl)) rfl rfl ?_)
      intro a fr
      refine lst_n (unwanted_of fr rfl rfl rfl rfl) fr rfl rfl ?_
      intro a fr
      refine lst_n (unwanted_of fr rfl rfl rfl rfl) fr rfl rfl ?_
      intro a fr
      refine lst_n (unwanted_of fr rfl rfl rfl rfl) fr rfl rfl ?_
      intro a fr
      refine lst_n (unwanted_of fr rfl rfl rfl rfl) fr rfl rfl ?_
      intro a fr
      refine lst_n (unwanted_of fr rfl rfl rfl rfl) fr rfl rfl ?_
      intro a fr
      refine lst rfl (ow_v fr (rn_pick_t (fr.ev rfl) (fr.ev rfl)) rfl rfl ?_)
      intro a fr
      refine wpList_nil ?_
      refine then_n ?_
      refine cond_t fr rfl rfl ?_
      refine wp_seq ?_
      refine reg ?_
      refine lst rfl (ow_v fr (rn_move (fr.ev rfl)) rfl rfl ?_)
      intro a fr
      refine lst rfl (ow_v fr (fa_33_0 (fr.ev rfl)) rfl rfl ?_)
      intro a fr
      refine lst rfl (ow_v fr (rn_load (fr.ev rfl) Try.underlying3 rfl (st.cell 4 rfl rfl)) rfl rfl ?_)
      intro a fr
      refine lst rfl (ow_v fr (fa_33_1 (fr.ev rfl)) rfl rfl ?_)
      intro a fr
      refine lst rfl (ow_v fr (rn_load (fr.ev rfl) Try.underlying3 rfl (st.cell 4 rfl rfl)) rfl rfl ?_)
      intro a fr
      refine lst rfl (ow_call fr rfl rfl Try.call13 (common_f g m _ _ c1 c2 ns ss pa pb (fun h => ha h.1) _ (hok4 (st.get 0 rfl) (st.get 1 rfl) (st.get 2 rfl) (st.get 3 rfl))) rfl rfl ?_)
      rintro e w ⟨rfl, hag⟩
      refine ⟨_, rfl, ?_⟩
      intro a fr
      have st := st.keep hag
      clear hag
      refine lst rfl (ow_v fr (rn_as (rn_eql (fr.ev rfl) (fr.ev rfl)) (by rfl)) rfl rfl ?_)
      intro a fr
      refine lst rfl (ow_v fr (rn_assign (fr.ev rfl)) rfl rfl ?_)
      intro a fr
      refine wpList_nil ?_
      refine then_n ?_
      refine wp_ret ?_
      refine then_r ?_
      refine ret1 Try.results4 fr (rv_tmp fr rfl) ?_
      exact ⟨rfl, st.agr.below⟩
  · refine enter Try.func4 rfl Try.ntmps4 (by simp) ?_
    intro a fr
    refine wp_seq ?_
    refine reg ?_
    refine lst rfl (ow_box fr st rfl rfl rfl rfl ([.int .i64 (pa), .int .i64 (pb), .int .i64 (pc)]) (by rfl) ?_)
    intro a w b1 fr st
    refine lst rfl (ow_v fr (rn_assign (fr.ev rfl)) rfl rfl ?_)
    intro a fr
    refine wpList_nil ?_
    refine then_n ?_
    refine wp_seq ?_
    refine reg ?_
    refine lst rfl (ow_v fr (rn_move (fr.ev rfl)) rfl rfl ?_)
    intro a fr
    refine lst rfl (ow_call fr rfl rfl Try.call7 (new_not hfi _ _ hl _ (st.get 1 rfl).1) rfl rfl ?_)
    rintro e w ⟨er, rfl, her, hag⟩
    refine ⟨_, rfl, ?_⟩
    intro a fr
    have st := st.keep hag
    clear hag
    refine lst rfl (ow_v fr (rn_move (fr.ev rfl)) rfl rfl ?_)
    intro a fr
    refine lst rfl (ow_v fr (rn_extract (fr.ev rfl) rfl) rfl rfl ?_)
    intro a fr
    refine lst rfl (ow_v fr (rn_extract (fr.ev rfl) rfl) rfl rfl ?_)
    intro a fr
    refine lst rfl (ow_v fr (rn_assign (fr.ev rfl)) rfl rfl ?_)
    intro a fr
    refine lst rfl (ow_v fr (rn_assign (fr.ev rfl)) rfl rfl ?_)
    intro a fr
    refine wpList_nil ?_
    refine then_n ?_
    refine wp_seq ?_
    refine wp_seq ?_
    refine reg ?_
    refine lst rfl (ow_call fr rfl rfl Try.call8 (live_calls _) rfl rfl ?_)
    rintro e w ⟨rfl, hag⟩
    refine ⟨_, rfl, ?_⟩
    intro a fr
    have st := st.keep hag
    clear hag
    refine lst rfl (ow_v fr (rn_not (fr.ev rfl)) rfl rfl ?_)
    intro a fr
    refine wpList_nil ?_
    refine then_n ?_
    refine cond_f fr rfl rfl ?_
    refine wp_skip ?_
    refine then_n ?_
    refine wp_seq ?_
    refine wp_seq ?_
    refine reg ?_
    refine lst rfl (ow_v fr (rn_move (fr.ev rfl)) rfl rfl ?_)
    intro a fr
    refine lst rfl (ow_v fr (rn_as (v' := .bool true) (rn_neq (fr.ev rfl) (fr.ev rfl)) (congrArg Value.bool (by simpa using her))) rfl rfl ?_)
    intro a fr
    refine wpList_nil ?_
    refine then_n ?_
    refine cond_t fr rfl rfl ?_
    refine wp_seq ?_
    refine reg ?_
    refine lst rfl (ow_v fr (rn_move (fr.ev rfl)) rfl rfl ?_)
    intro a fr
    refine lst rfl (ow_v fr (rn_eql_nn (fr.ev rfl) (fr.ev rfl) Try.underlying23) rfl rfl ?_)
    intro a fr
    refine lst rfl (ow_v fr (rn_assign (fr.ev rfl)) rfl rfl ?_)
    intro a fr
    refine wpList_nil ?_
    refine then_n ?_
    refine wp_ret ?_
    refine then_r ?_
    refine ret1 Try.results4 fr (rv_tmp fr rfl) ?_
    exact ⟨rfl, st.agr.below⟩

end Go.Proofs.Ytnggnacaghcclaa.H4
