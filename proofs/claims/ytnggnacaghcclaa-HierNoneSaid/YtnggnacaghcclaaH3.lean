import Derived.Test.YtnggnacaghcclaaH2
set_option linter.unusedVariables false
set_option linter.unusedSimpArgs false
namespace Go.Proofs.Ytnggnacaghcclaa.H3
open Go.RowKit Go.Proofs.Ytnggnacaghcclaa.LibA Go.Proofs.Ytnggnacaghcclaa.LibC Go.Proofs.Ytnggnacaghcclaa.LibS Go.Proofs.Ytnggnacaghcclaa.LibR Go.Proofs.Ytnggnacaghcclaa.LibT Go.Proofs.Ytnggnacaghcclaa.LibU Go.Proofs.Ytnggnacaghcclaa.LibV Go.Proofs.Ytnggnacaghcclaa.LibW Go.Proofs.Ytnggnacaghcclaa.H1 Go.Proofs.Ytnggnacaghcclaa.H2
def Fine (l : List LineD) : Prop := l.length ≤ 64 ∧ ¬ Dup l ∧ ¬ Miss l ∧ ¬ Cyc l
theorem hf_of {l : List LineD} (h : Fine l) : HF (nm l l.length).length (sl l l.length) := by
  have h1 := nm_len l l.length (Nat.le_refl _)
  have h2 := sl_len l l.length (Nat.le_refl _)
  obtain ⟨h64, _, hm, hc⟩ := h
  refine ⟨by omega, by omega, by omega, fun m h => sl_rng l hm m h, rfl, fun m h hp => ?_, fun n hn => ?_⟩
  · have hx := List.getElem?_eq_getElem h
    generalize (sl l l.length)[m] = x at hx ⊢
    unfold sl at hx
    rw [List.getElem?_append] at hx
    split at hx
    · rename_i h8
      rw [bS_len] at h8
      match m, h8, hp, hx with
      | 1, _, _, hx => cases hx; decide
      | 2, _, _, hx => cases hx; decide
      | 3, _, _, hx => cases hx; decide
      | 4, _, _, hx => cases hx; decide
      | 5, _, _, hx => cases hx; decide
      | 6, _, _, hx => cases hx; decide
      | 7, _, _, hx => cases hx; decide
      | m + 8, h8, _, _ => omega
    · rw [List.getElem?_map] at hx
      obtain ⟨p, _, rfl⟩ := Option.map_eq_some_iff.1 hx
      exact Int.natCast_nonneg _
  · refine Classical.byContradiction fun hno => hc ⟨n, hn, fun i hi => ?_⟩
    refine Int.not_lt.1 fun h => hno ⟨i, hi, h⟩
theorem hI_new {g m : Nat} {A1 A2 : Option Addr} {c1 c2 B : Nat} {ns : List ByteArray} {ss : List Int} (h : B ≤ g ∧ B ≤ m ∧ (∀ a, A1 = some a → B ≤ a.block) ∧ (∀ a, A2 = some a → B ≤ a.block)) : ∀ it ∈ hI g m A1 A2 c1 c2 ns ss, ∀ b ∈ it.fp, B ≤ b := by
  intro it hi b hb
  simp only [hI, List.mem_cons, List.not_mem_nil, or_false] at hi
  rcases hi with rfl | rfl | rfl | rfl
  · simp [ro, It.fp] at hb; subst hb; exact h.1
  · obtain ⟨ad, rfl, rfl⟩ := elsFp_mem hb; exact h.2.2.1 _ rfl
  · obtain ⟨ad, rfl, rfl⟩ := elsFp_mem hb; exact h.2.2.2 _ rfl
  · simp [mapRo, It.fp] at hb; subst hb; exact h.2.1
theorem new_fine {l : List LineD} (hfi : Fine l) (LA : Option Addr) (lc : Nat) (hl : l.length ≤ 9223372036854775807) (w0 : World) (ha : Els lineC 2 w0 LA l) : Calls Try.prog 7 #[.slice LA l.length lc] w0 fun e w' => ∃ ns ss g m A1 A2 c1 c2, e = .returned (.tuple #[.pointer (some ⟨g, 0, none⟩), .int .i64 0]) ∧ HF ns.length ss ∧ (ns = nm l l.length ∧ ss = sl l l.length) ∧ St w0 [] w' (hI g m A1 A2 c1 c2 ns ss) ∧ (∀ it ∈ hI g m A1 A2 c1 c2 ns ss, ∀ b ∈ it.fp, w0.heap.size ≤ b) :=
  (new_calls l LA lc hl w0 ha).mono fun e w' h => by
    obtain ⟨f1, f2, f3, f4⟩ := hfi
    rcases h with ⟨h1, _⟩ | ⟨_, h1, _⟩ | ⟨_, _, h1, _⟩ | ⟨_, _, _, h1, _⟩ | ⟨_, _, _, _, g, m, A1, A2, c1, c2, rfl, st, hn⟩
    · omega
    · exact absurd h1 f2
    · exact absurd h1 f3
    · exact absurd h1 f4
    · exact ⟨_, _, g, m, A1, A2, c1, c2, rfl, hf_of ⟨f1, f2, f3, f4⟩, ⟨rfl, rfl⟩, st, hI_new hn⟩
theorem new_not {l : List LineD} (hfi : ¬ Fine l) (LA : Option Addr) (lc : Nat) (hl : l.length ≤ 9223372036854775807) (w0 : World) (ha : Els lineC 2 w0 LA l) : Calls Try.prog 7 #[.slice LA l.length lc] w0 fun e w' => ∃ x : Int, e = .returned (.tuple #[.pointer none, .int .i64 x]) ∧ x ≠ 0 ∧ Agr [] w0 w' :=
  (new_calls l LA lc hl w0 ha).mono fun e w' h => by
    rcases h with ⟨_, h1, h2⟩ | ⟨_, _, h1, h2⟩ | ⟨_, _, _, h1, h2⟩ | ⟨_, _, _, _, h1, h2⟩ | ⟨h1, h2, h3, h4, _⟩
    · exact ⟨3, h1, by decide, h2⟩
    · exact ⟨70, h1, by decide, h2⟩
    · exact ⟨71, h1, by decide, h2⟩
    · exact ⟨72, h1, by decide, h2⟩
    · exact absurd ⟨h1, h2, h3, h4⟩ hfi
/-! the plain law -/
theorem und_self {L : Nat} {ss : List Int} {a : Int} (h0 : 0 ≤ a) (hL : a < L) : UndP L ss a a := ⟨⟨h0, hL⟩, ⟨h0, hL⟩, 0, rfl⟩
theorem itS_loop {L : Nat} {ss : List Int} (hf : HF L ss) {a : Int} (h0 : 0 ≤ a) (hL : a < L) {p : Nat} (hp : 0 < p) : itS ss p a ≠ a := by
  intro h
  obtain ⟨d, hd⟩ := hf.end_ h0 hL
  have hall : ∀ k, itS ss (k * p) a = a := by
    intro k
    induction k with
    | zero => rw [Nat.zero_mul]; rfl
    | succ k ih => rw [Nat.succ_mul, itS_add, ih, h]
  have := itS_mono hf (by omega) hL hd (d * p) (Nat.le_mul_of_pos_right d hp)
  rw [hall] at this
  omega
theorem und_anti {L : Nat} {ss : List Int} (hf : HF L ss) {a b : Int} (hne : a ≠ b) (h : UndP L ss a b) : ¬ UndP L ss b a := by
  obtain ⟨ha, hb, i, hi⟩ := h
  rintro ⟨_, _, j, hj⟩
  have h1 : itS ss (i + j) a = a := by rw [itS_add, hi, hj]
  rcases Nat.eq_zero_or_pos (i + j) with h0 | hp
  · have : i = 0 := by omega
    subst this
    exact hne hi
  · exact itS_loop hf ha.1 ha.2 hp h1
theorem und_step {L : Nat} {ss : List Int} (hf : HF L ss) {q : Nat} {y b : Int} (hq : q < L) (hy : ss[q]? = some y) (hb : 0 ≤ b ∧ b < L) (hne : (q : Int) ≠ b) : UndP L ss q b ↔ (0 ≤ y ∧ UndP L ss y b) := by
  obtain ⟨hql, hy⟩ := List.getElem?_eq_some_iff.1 hy
  have hr := hf.rng q hql
  rw [hy] at hr
  constructor
  · rintro ⟨_, _, i, hi⟩
    cases i with
    | zero => exact absurd hi hne
    | succ i =>
      rw [itS_shift hql hy] at hi
      have hy0 : 0 ≤ y := by
        refine Int.not_lt.1 fun h => ?_
        have := itS_mono hf hr.1 hr.2 (d := 0) h i (Nat.zero_le _)
        omega
      exact ⟨hy0, ⟨hy0, hr.2⟩, hb, i, hi⟩
  · rintro ⟨hy0, _, _, i, hi⟩
    exact ⟨⟨by omega, by omega⟩, hb, i + 1, by rw [itS_shift hql hy, hi]⟩
def undB (L : Nat) (ss : List Int) (a b : Int) : Bool := decide (0 ≤ a ∧ a < L) && decide (0 ≤ b ∧ b < L) && (List.range (L + 1)).any fun i => itS ss i a == b
theorem undB_iff {L : Nat} {ss : List Int} (hf : HF L ss) (a b : Int) : undB L ss a b = true ↔ UndP L ss a b := by
  unfold undB UndP
  simp only [Bool.and_eq_true, decide_eq_true_eq, List.any_eq_true, List.mem_range, beq_iff_eq]
  constructor
  · rintro ⟨⟨h1, h2⟩, i, _, h3⟩; exact ⟨h1, h2, i, h3⟩
  · rintro ⟨h1, h2, i, h3⟩
    refine ⟨⟨h1, h2⟩, i, ?_, h3⟩
    obtain ⟨n, rfl⟩ := Int.eq_ofNat_of_zero_le h1.1
    obtain ⟨d, hd, hd2⟩ := hf.acyc n (by omega)
    have := itS_lt hf (by omega) h1.2 (i := i) hd2 (by omega)
    omega
def lv : List LineD := [({ data := #[66] }, { data := #[65] }), ({ data := #[65] }, { data := #[106, 97, 118, 97, 47, 108, 97, 110, 103, 47, 79, 98, 106, 101, 99, 116] })]
def lvS : List Int := [-1, 0, 1, 1, 1, 1, 1, 1, 9, 0]
theorem lv_sl : sl lv lv.length = lvS := by kernel_rfl
theorem lv_nm : (nm lv lv.length).length = 10 := by kernel_rfl
theorem lv_fine : Fine lv := by
  refine ⟨by decide, ?_, ?_, ?_⟩
  · rintro ⟨k, x, h1, h2⟩
    match k, h1 with
    | 0, h1 => cases h1; exact h2 (by kernel_rfl)
    | 1, h1 => cases h1; exact h2 (by kernel_rfl)
    | k + 2, h1 => cases h1
  · rintro ⟨k, x, h1, h2⟩
    match k, h1 with
    | 0, h1 =>
      cases h1
      have h3 : (lkp (mL (nm lv lv.length)) (⟨#[65]⟩ : ByteArray)).isSome = true := by kernel_rfl
      have h4 : lkp (mL (nm lv lv.length)) (⟨#[65]⟩ : ByteArray) = none := h2
      rw [h4] at h3; cases h3
    | 1, h1 =>
      cases h1
      have h3 : (lkp (mL (nm lv lv.length)) ({ data := #[106, 97, 118, 97, 47, 108, 97, 110, 103, 47, 79, 98, 106, 101, 99, 116] } : ByteArray)).isSome = true := by kernel_rfl
      have h4 : lkp (mL (nm lv lv.length)) ({ data := #[106, 97, 118, 97, 47, 108, 97, 110, 103, 47, 79, 98, 106, 101, 99, 116] } : ByteArray) = none := h2
      rw [h4] at h3; cases h3
    | k + 2, h1 => cases h1
  · rintro ⟨n, hn, h⟩
    rw [lv_nm] at hn h
    rw [lv_sl] at h
    have h1 := h 10 (Nat.le_refl _)
    have h2 : ((List.range 10).all fun n => decide (itS lvS 10 (n : Int) < 0)) = true := by kernel_rfl
    have h3 := List.all_eq_true.1 h2 n (List.mem_range.2 hn)
    simp only [decide_eq_true_eq] at h3
    omega
theorem lv_und {ns : List ByteArray} {ss : List Int} (hf : HF ns.length ss) (e1 : ns = nm lv lv.length) (e2 : ss = sl lv lv.length) {a b : Int} {r : Bool} (h : undB 10 lvS a b = r) : r = true ↔ UndP ns.length ss a b := by
  have h1 := undB_iff hf a b
  rw [e1, lv_nm, e2, lv_sl] at h1 ⊢
  rw [← h]
  exact h1
theorem lv_common {ns : List ByteArray} {ss : List Int} (hf : HF ns.length ss) (e1 : ns = nm lv lv.length) (e2 : ss = sl lv lv.length) {c : Int} {i : Nat} (h1 : itS ss i 8 = c) (h2 : UndP ns.length ss 2 c) (h3 : ∀ j, j < i → ¬ UndP ns.length ss 2 (itS ss j 8)) : c = 0 := by
  have h4 : i ≤ 2 := by
    refine Nat.not_lt.1 fun h => h3 2 h ?_
    refine (lv_und hf e1 e2 (r := true) ?_).1 rfl
    rw [e2, lv_sl]
    kernel_rfl
  subst h1
  have hr := (lv_und hf e1 e2 (a := 2) (b := itS ss i 8) rfl).2 h2
  rw [e2, lv_sl] at hr ⊢
  match i, h4 with
  | 0, _ => exact absurd hr (by decide +kernel)
  | 1, _ => exact absurd hr (by decide +kernel)
  | 2, _ => rfl


set_option maxHeartbeats 1000000 in
theorem live_calls (w0 : World) : Calls Try.prog 8 #[] w0 fun e w' => e = .returned (.bool true) ∧ Agr [] w0 w' := by
  have st := St.start w0 []
  refine enter Try.func8 rfl Try.ntmps8 (by simp) ?_
  intro a fr
  refine wp_seq ?_
  refine reg ?_
  refine lst rfl (ow_v fr (rn_assign (fr.ev rfl)) rfl rfl ?_)
  intro a fr
  refine wpList_nil ?_
  refine then_n ?_
  refine wp_seq ?_
  refine reg ?_
  refine lst rfl (ow_v fr (rn_build (cells := #[(.string { data := #[66] }), (.string { data := #[65] })]) (by simp only [List.map_toArray, List.map_cons, List.map_nil]; rfl)) rfl rfl ?_)
  intro a fr
  refine lst rfl (ow_v fr (rn_build (cells := #[(.string { data := #[65] }), (.string { data := #[106, 97, 118, 97, 47, 108, 97, 110, 103, 47, 79, 98, 106, 101, 99, 116] })]) (by simp only [List.map_toArray, List.map_cons, List.map_nil]; rfl)) rfl rfl ?_)
  intro a fr
  refine lst rfl (ow_bslice (E := 56) fr st rfl [(.string { data := #[66] }), (.string { data := #[65] }), (.string { data := #[65] }), (.string { data := #[106, 97, 118, 97, 47, 108, 97, 110, 103, 47, 79, 98, 106, 101, 99, 116] })] (fun w => by simp only [List.map_toArray, List.map_cons, List.map_nil]; rw [fr.ev (x := .tmp 6) rfl, fr.ev (x := .tmp 7) rfl]; kernel_rfl) rfl rfl ?_)
  intro a w b1 fr st
  refine lst rfl (ow_call fr rfl rfl Try.call7 (new_fine lv_fine _ _ (by decide) _ (els_of_blk (C := lineC) (xs := lv) lineC_len (by decide) (st.get 0 rfl) (by rfl)).1) rfl rfl ?_)
  rintro e w ⟨ns, ss, g, m, A1, A2, c1, c2, rfl, hf, hes, st2, hnw⟩
  refine ⟨_, rfl, ?_⟩
  intro a fr
  have st := st.join st2 hnw
  clear st2 hnw
  replace st : St _ [] w [ro g 0 [.slice A1 ns.length c1, .slice A2 ss.length c2, (.map (some m))], els CS 1 A1 ns, els CI 1 A2 ss, mapRo kS vN m ((mL ns)), .blk b1 [(.string { data := #[66] }), (.string { data := #[65] }), (.string { data := #[65] }), (.string { data := #[106, 97, 118, 97, 47, 108, 97, 110, 103, 47, 79, 98, 106, 101, 99, 116] })] 56] := st
  refine lst rfl (ow_v fr (rn_move (fr.ev rfl)) rfl rfl ?_)
  intro a fr
  refine lst rfl (ow_v fr (rn_extract (fr.ev rfl) rfl) rfl rfl ?_)
  intro a fr
  refine lst rfl (ow_v fr (rn_extract (fr.ev rfl) rfl) rfl rfl ?_)
  intro a fr
  refine lst rfl (ow_v fr (rn_assign (fr.ev rfl)) rfl rfl ?_)
  intro a fr
  refine lst rfl (ow_v fr (rn_assign (fr.ev rfl)) rfl rfl ?_)
  intro a fr
  refine wpList_nil ?_
  refine then_n ?_
  refine wp_seq ?_
  refine wp_seq ?_
  refine reg ?_
  refine lst rfl (ow_v fr (rn_move (fr.ev rfl)) rfl rfl ?_)
  intro a fr
  refine lst rfl (ow_v fr (rn_as (rn_neq (fr.ev rfl) (fr.ev rfl)) (by rfl)) rfl rfl ?_)
  intro a fr
  refine lst rfl (ow_v fr (rn_move (fr.ev rfl)) rfl rfl ?_)
  intro a fr
  refine lst_y (wanted_of fr rfl rfl rfl rfl) (ow_v fr (rn_move (fr.ev rfl)) rfl rfl ?_)
  intro a fr
  refine lst_y (wanted_of fr rfl rfl rfl rfl) (ow_v fr (rn_eql_pn (fr.ev rfl) (fr.ev rfl) Try.underlying23) rfl rfl ?_)
  intro a fr
  refine lst rfl (ow_v fr (rn_pick_f (fr.ev rfl) (fr.ev rfl)) rfl rfl ?_)
  intro a fr
  refine wpList_nil ?_
  refine then_n ?_
  refine cond_f fr rfl rfl ?_
  refine wp_skip ?_
  refine then_n ?_
  refine wp_seq ?_
  have hnl : ns.length = 10 := by rw [hes.1, lv_nm]
  refine reg ?_
  refine lst rfl (ow_v fr (rn_move (fr.ev rfl)) rfl rfl ?_)
  intro a fr
  refine lst rfl (ow_call fr rfl rfl Try.call20 (find_t g m _ _ c1 c2 ns ss { data := #[65] } 9 (by rw [hes.1]; kernel_rfl) _ (hok4 (st.get 0 rfl) (st.get 1 rfl) (st.get 2 rfl) (st.get 3 rfl))) rfl rfl ?_)
  rintro e w ⟨rfl, hag⟩
  refine ⟨_, rfl, ?_⟩
  intro a fr
  have st := st.keep hag
  clear hag
  refine lst rfl (ow_v fr (rn_move (fr.ev rfl)) rfl rfl ?_)
  intro a fr
  refine lst rfl (ow_v fr (rn_extract (fr.ev rfl) rfl) rfl rfl ?_)
  intro a fr
  refine lst rfl (ow_v fr (rn_extract (fr.ev rfl) rfl) rfl rfl ?_)
  intro a fr
  refine lst rfl (ow_v fr (rn_assign (fr.ev rfl)) rfl rfl ?_)
  intro a fr
  refine lst rfl (ow_v fr (rn_assign (fr.ev rfl)) rfl rfl ?_)
  intro a fr
  refine wpList_nil ?_
  refine then_n ?_
  refine wp_seq ?_
  refine reg ?_
  refine lst rfl (ow_v fr (rn_move (fr.ev rfl)) rfl rfl ?_)
  intro a fr
  refine lst rfl (ow_call fr rfl rfl Try.call9 (len_calls g m _ _ c1 c2 ns ss _ (hok4 (st.get 0 rfl) (st.get 1 rfl) (st.get 2 rfl) (st.get 3 rfl))) rfl rfl ?_)
  rintro e w ⟨rfl, hag⟩
  refine ⟨_, rfl, ?_⟩
  intro a fr
  have st := st.keep hag
  clear hag
  refine lst rfl (ow_v fr (rn_as (v' := .bool true) (rn_eql (fr.ev rfl) (fr.ev rfl)) (congrArg Value.bool (by rw [hnl]; rfl))) rfl rfl ?_)
  intro a fr
  refine lst rfl (ow_v fr (rn_move (fr.ev rfl)) rfl rfl ?_)
  intro a fr
  refine lst_y (wanted_of fr rfl rfl rfl rfl) (ow_v fr (rn_move (fr.ev rfl)) rfl rfl ?_)
  intro a fr
  refine lst rfl (ow_v fr (rn_pick_t (fr.ev rfl) (fr.ev rfl)) rfl rfl ?_)
  intro a fr
  refine lst rfl (ow_v fr (rn_move (fr.ev rfl)) rfl rfl ?_)
  intro a fr
  refine lst_y (wanted_of fr rfl rfl rfl rfl) (ow_v fr (rn_move (fr.ev rfl)) rfl rfl ?_)
  intro a fr
  refine lst_y (wanted_of fr rfl rfl rfl rfl) (ow_v fr (rn_as (rn_eql (fr.ev rfl) (fr.ev rfl)) (by rfl)) rfl rfl ?_)
  intro a fr
  refine lst rfl (ow_v fr (rn_pick_t (fr.ev rfl) (fr.ev rfl)) rfl rfl ?_)
  intro a fr
  refine lst rfl (ow_v fr (rn_move (fr.ev rfl)) rfl rfl ?_)
  intro a fr
  refine lst_y (wanted_of fr rfl rfl rfl rfl) (ow_v fr (rn_move (fr.ev rfl)) rfl rfl ?_)
  intro a fr
  refine lst_y (wanted_of fr rfl rfl rfl rfl) (ow_call fr rfl rfl Try.call10 (under_t g m _ _ c1 c2 ns ss hf 8 9 ((lv_und hf hes.1 hes.2 (r := true) (by kernel_rfl)).1 rfl) _ (hok4 (st.get 0 rfl) (st.get 1 rfl) (st.get 2 rfl) (st.get 3 rfl))) rfl rfl ?_)
  rintro e w ⟨rfl, hag⟩
  refine ⟨_, rfl, ?_⟩
  intro a fr
  have st := st.keep hag
  clear hag
  refine lst rfl (ow_v fr (rn_pick_t (fr.ev rfl) (fr.ev rfl)) rfl rfl ?_)
  intro a fr
  refine lst rfl (ow_v fr (rn_move (fr.ev rfl)) rfl rfl ?_)
  intro a fr
  refine lst_y (wanted_of fr rfl rfl rfl rfl) (ow_v fr (rn_move (fr.ev rfl)) rfl rfl ?_)
  intro a fr
  refine lst_y (wanted_of fr rfl rfl rfl rfl) (ow_call fr rfl rfl Try.call10 (under_f g m _ _ c1 c2 ns ss hf 9 8 (fun h => by cases (lv_und hf hes.1 hes.2 (r := false) (by kernel_rfl)).2 h) _ (hok4 (st.get 0 rfl) (st.get 1 rfl) (st.get 2 rfl) (st.get 3 rfl))) rfl rfl ?_)
  rintro e w ⟨rfl, hag⟩
  refine ⟨_, rfl, ?_⟩
  intro a fr
  have st := st.keep hag
  clear hag
  refine lst_y (wanted_of fr rfl rfl rfl rfl) (ow_v fr (rn_not (fr.ev rfl)) rfl rfl ?_)
  intro a fr
  refine lst rfl (ow_v fr (rn_pick_t (fr.ev rfl) (fr.ev rfl)) rfl rfl ?_)
  intro a fr
  refine lst rfl (ow_v fr (rn_move (fr.ev rfl)) rfl rfl ?_)
  intro a fr
  refine lst_y (wanted_of fr rfl rfl rfl rfl) (ow_v fr (rn_move (fr.ev rfl)) rfl rfl ?_)
  intro a fr
  refine lst_y (wanted_of fr rfl rfl rfl rfl) (ow_call fr rfl rfl Try.call13 (common_t g m _ _ c1 c2 ns ss hf 8 2 (by omega) (by omega) _ (hok4 (st.get 0 rfl) (st.get 1 rfl) (st.get 2 rfl) (st.get 3 rfl))) rfl rfl ?_)
  rintro e w ⟨⟨c, rfl, ci, hc1, hc2, hc3⟩, hag⟩
  refine ⟨_, rfl, ?_⟩
  intro a fr
  have st := st.keep hag
  clear hag
  have hc0 := lv_common hf hes.1 hes.2 hc1 hc2 hc3
  subst hc0
  refine lst_y (wanted_of fr rfl rfl rfl rfl) (ow_v fr (rn_as (v' := .bool true) (rn_eql (fr.ev rfl) (fr.ev rfl)) (congrArg Value.bool (by rfl))) rfl rfl ?_)
  intro a fr
  refine lst rfl (ow_v fr (rn_pick_t (fr.ev rfl) (fr.ev rfl)) rfl rfl ?_)
  intro a fr
  refine lst rfl (ow_v fr (rn_assign (fr.ev rfl)) rfl rfl ?_)
  intro a fr
  refine wpList_nil ?_
  refine then_n ?_
  refine wp_ret ?_
  refine ret1 Try.results8 fr (rv_tmp fr rfl) ?_
  exact ⟨rfl, st.agr⟩

set_option maxHeartbeats 1000000 in
theorem order_walk (l : List LineD) (LA : Option Addr) (lc : Nat) (hl : l.length ≤ 9223372036854775807) (w0 : World) (ha : Els lineC 2 w0 LA l) : Calls Try.prog 3 #[.slice LA l.length lc] w0 fun e w' => e = .returned (.bool true) ∧ Below w0.heap.size w0 w' := by
  have st : St w0 [] w0 [els lineC 2 LA l] := (add_ro (start0 w0 []) (by simp [els, It.wr]) rfl (els_ok (C := lineC) (sz := 2) (by decide) (fun x => rfl) ha))
  clear ha
  by_cases hfi : Fine l
  · refine enter Try.func3 rfl Try.ntmps3 (by simp) ?_
    intro a fr
    refine wp_seq ?_
    refine reg ?_
    refine lst rfl (ow_v fr (rn_assign (fr.ev rfl)) rfl rfl ?_)
    intro a fr
    refine wpList_nil ?_
    refine then_n ?_
    refine wp_seq ?_
    refine reg ?_
    refine lst rfl (ow_v fr (rn_move (fr.ev rfl)) rfl rfl ?_)
    intro a fr
    refine lst rfl (ow_call fr rfl rfl Try.call7 (new_fine hfi _ _ hl _ (st.get 0 rfl).1) rfl rfl ?_)
    rintro e w ⟨ns, ss, g, m, A1, A2, c1, c2, rfl, hf, hes, st2, hnw⟩
    refine ⟨_, rfl, ?_⟩
    intro a fr
    have st := st.join st2 hnw
    clear st2 hnw
    replace st : St _ [] w [ro g 0 [.slice A1 ns.length c1, .slice A2 ss.length c2, (.map (some m))], els CS 1 A1 ns, els CI 1 A2 ss, mapRo kS vN m ((mL ns)), els lineC 2 LA l] := st
    refine lst rfl (ow_v fr (rn_move (fr.ev rfl)) rfl rfl ?_)
    intro a fr
    refine lst rfl (ow_v fr (rn_extract (fr.ev rfl) rfl) rfl rfl ?_)
    intro a fr
    refine lst rfl (ow_v fr (rn_extract (fr.ev rfl) rfl) rfl rfl ?_)
    intro a fr
    refine lst rfl (ow_v fr (rn_assign (fr.ev rfl)) rfl rfl ?_)
    intro a fr
    refine lst rfl (ow_v fr (rn_assign (fr.ev rfl)) rfl rfl ?_)
    intro a fr
    refine wpList_nil ?_
    refine then_n ?_
    refine wp_seq ?_
    refine wp_seq ?_
    refine reg ?_
    refine lst rfl (ow_call fr rfl rfl Try.call8 (live_calls _) rfl rfl ?_)
    rintro e w ⟨rfl, hag⟩
    refine ⟨_, rfl, ?_⟩
    intro a fr
    have st := st.keep hag
    clear hag
    refine lst rfl (ow_v fr (rn_not (fr.ev rfl)) rfl rfl ?_)
    intro a fr
    refine wpList_nil ?_
    refine then_n ?_
    refine cond_f fr rfl rfl ?_
    refine wp_skip ?_
    refine then_n ?_
    refine wp_seq ?_
    refine wp_seq ?_
    refine reg ?_
    refine lst rfl (ow_v fr (rn_move (fr.ev rfl)) rfl rfl ?_)
    intro a fr
    refine lst rfl (ow_v fr (rn_as (rn_neq (fr.ev rfl) (fr.ev rfl)) (by rfl)) rfl rfl ?_)
    intro a fr
    refine wpList_nil ?_
    refine then_n ?_
    refine cond_f fr rfl rfl ?_
    refine wp_skip ?_
    refine then_n ?_
    refine wp_seq ?_
    refine reg ?_
    refine lst rfl (ow_v fr (rn_move (fr.ev rfl)) rfl rfl ?_)
    intro a fr
    refine lst rfl (ow_call fr rfl rfl Try.call9 (len_calls g m _ _ c1 c2 ns ss _ (hok4 (st.get 0 rfl) (st.get 1 rfl) (st.get 2 rfl) (st.get 3 rfl))) rfl rfl ?_)
    rintro e w ⟨rfl, hag⟩
    refine ⟨_, rfl, ?_⟩
    intro a fr
    have st := st.keep hag
    clear hag
    refine lst rfl (ow_v fr (rn_assign (fr.ev rfl)) rfl rfl ?_)
    intro a fr
    refine wpList_nil ?_
    refine then_n ?_
    refine wp_seq ?_
    refine wp_seq ?_
    refine reg ?_
    refine lst rfl (ow_v fr (rn_move (fr.ev rfl)) rfl rfl ?_)
    intro a fr
    refine lst rfl (ow_v fr (rn_move (fr.ev rfl)) rfl rfl ?_)
    intro a fr
    refine wpList_nil ?_
    refine then_n ?_
    refine wp_block ?_
    have st := st.sub (.cons_cons _ (.cons_cons _ (.cons_cons _ (.cons_cons _ (.cons _ .slnil)))))
    have hfh := hf.high
    have hfl := hf.low
    refine wp_loop_ghost (fun mz a w => ∃ (k : Nat), (k ≤ ns.length) ∧ mz = ns.length - k ∧ FrL 90 a [(3, .pointer (some ⟨g, 0, none⟩)), (5, .int .i64 ((ns.length : Nat))), (22, .int .i64 ((ns.length : Nat))), (23, .int .i64 ((k : Nat)))] ∧ St w0 [] w [ro g 0 [.slice A1 ns.length c1, .slice A2 ss.length c2, (.map (some m))], els CS 1 A1 ns, els CI 1 A2 ss, mapRo kS vN m ((mL ns))]) _ ⟨0, (Nat.zero_le _), rfl, fr.prune ⟨rfl, rfl, rfl, rfl, trivial⟩, st⟩ ?_
    clear fr st
    intro mz a w hI
    obtain ⟨k, hk, hmz, fr, st⟩ := hI
    by_cases hk2 : k < ns.length
    · refine wp_seq ?_
      refine reg ?_
      refine lst rfl (ow_v fr (rn_as (v' := .bool true) (rn_lss (fr.ev rfl) (fr.ev rfl)) (congrArg Value.bool (decide_eq_true (by omega)))) rfl rfl ?_)
      intro a fr
      refine wpList_nil ?_
      refine then_n ?_
      refine wp_seq ?_
      refine cond_t fr rfl rfl ?_
      refine wp_skip ?_
      refine then_n ?_
      refine wp_seq ?_
      refine wp_block ?_
      refine wp_seq ?_
      refine reg ?_
      refine lst rfl (ow_v fr (rn_move (fr.ev rfl)) rfl rfl ?_)
      intro a fr
      refine lst rfl (ow_v fr (rn_assign (fr.ev rfl)) rfl rfl ?_)
      intro a fr
      refine wpList_nil ?_
      refine then_n ?_
      refine wp_seq ?_
      refine wp_seq ?_
      refine reg ?_
      refine lst rfl (ow_v fr (rn_move (fr.ev rfl)) rfl rfl ?_)
      intro a fr
      refine lst rfl (ow_v fr (rn_move (fr.ev rfl)) rfl rfl ?_)
      intro a fr
      refine lst rfl (ow_v fr (rn_move (fr.ev rfl)) rfl rfl ?_)
      intro a fr
      refine lst rfl (ow_call fr rfl rfl Try.call10 (under_t g m _ _ c1 c2 ns ss hf ((k : Nat)) ((k : Nat)) (und_self (by omega) (by omega)) _ (hok4 (st.get 0 rfl) (st.get 1 rfl) (st.get 2 rfl) (st.get 3 rfl))) rfl rfl ?_)
      rintro e w ⟨rfl, hag⟩
      refine ⟨_, rfl, ?_⟩
      intro a fr
      have st := st.keep hag
      clear hag
      refine lst rfl (ow_v fr (rn_not (fr.ev rfl)) rfl rfl ?_)
      intro a fr
      refine lst rfl (ow_v fr (rn_move (fr.ev rfl)) rfl rfl ?_)
      intro a fr
      refine lst_y (wanted_of fr rfl rfl rfl rfl) (ow_v fr (rn_move (fr.ev rfl)) rfl rfl ?_)
      intro a fr
      refine lst_y (wanted_of fr rfl rfl rfl rfl) (ow_v fr (rn_move (fr.ev rfl)) rfl rfl ?_)
      intro a fr
      refine lst_y (wanted_of fr rfl rfl rfl rfl) (ow_call fr rfl rfl Try.call10 (under_t g m _ _ c1 c2 ns ss hf ((k : Nat)) 0 (und_top hf (by omega) (by omega)) _ (hok4 (st.get 0 rfl) (st.get 1 rfl) (st.get 2 rfl) (st.get 3 rfl))) rfl rfl ?_)
      rintro e w ⟨rfl, hag⟩
      refine ⟨_, rfl, ?_⟩
      intro a fr
      have st := st.keep hag
      clear hag
      refine lst_y (wanted_of fr rfl rfl rfl rfl) (ow_v fr (rn_not (fr.ev rfl)) rfl rfl ?_)
      intro a fr
      refine lst rfl (ow_v fr (rn_pick_f (fr.ev rfl) (fr.ev rfl)) rfl rfl ?_)
      intro a fr
      refine lst rfl (ow_v fr (rn_move (fr.ev rfl)) rfl rfl ?_)
      intro a fr
      refine lst_y (wanted_of fr rfl rfl rfl rfl) (ow_v fr (rn_move (fr.ev rfl)) rfl rfl ?_)
      intro a fr
      refine lst_y (wanted_of fr rfl rfl rfl rfl) (ow_v fr (rn_move (fr.ev rfl)) rfl rfl ?_)
      intro a fr
      refine lst_y (wanted_of fr rfl rfl rfl rfl) (ow_call fr rfl rfl Try.call10 (under_f g m _ _ c1 c2 ns ss hf ((k : Nat)) (-1) (fun h => by have := h.2.1; omega) _ (hok4 (st.get 0 rfl) (st.get 1 rfl) (st.get 2 rfl) (st.get 3 rfl))) rfl rfl ?_)
      rintro e w ⟨rfl, hag⟩
      refine ⟨_, rfl, ?_⟩
      intro a fr
      have st := st.keep hag
      clear hag
      refine lst rfl (ow_v fr (rn_pick_f (fr.ev rfl) (fr.ev rfl)) rfl rfl ?_)
      intro a fr
      refine lst rfl (ow_v fr (rn_move (fr.ev rfl)) rfl rfl ?_)
      intro a fr
      refine lst_y (wanted_of fr rfl rfl rfl rfl) (ow_v fr (rn_move (fr.ev rfl)) rfl rfl ?_)
      intro a fr
      refine lst_y (wanted_of fr rfl rfl rfl rfl) (ow_v fr (rn_move (fr.ev rfl)) rfl rfl ?_)
      intro a fr
      refine lst_y (wanted_of fr rfl rfl rfl rfl) (ow_v fr (rn_move (fr.ev rfl)) rfl rfl ?_)
      intro a fr
      refine lst_y (wanted_of fr rfl rfl rfl rfl) (ow_call fr rfl rfl Try.call10 (under_f g m _ _ c1 c2 ns ss hf ((ns.length : Nat)) ((k : Nat)) (fun h => by have := h.1; omega) _ (hok4 (st.get 0 rfl) (st.get 1 rfl) (st.get 2 rfl) (st.get 3 rfl))) rfl rfl ?_)
      rintro e w ⟨rfl, hag⟩
      refine ⟨_, rfl, ?_⟩
      intro a fr
      have st := st.keep hag
      clear hag
      refine lst rfl (ow_v fr (rn_pick_f (fr.ev rfl) (fr.ev rfl)) rfl rfl ?_)
      intro a fr
      refine wpList_nil ?_
      refine then_n ?_
      refine cond_f fr rfl rfl ?_
      refine wp_skip ?_
      refine then_n ?_
      refine wp_seq ?_
      refine reg ?_
      refine lst rfl (ow_v fr (rn_move (fr.ev rfl)) rfl rfl ?_)
      intro a fr
      refine lst rfl (ow_v fr (rn_move (fr.ev rfl)) rfl rfl ?_)
      intro a fr
      refine wpList_nil ?_
      refine then_n ?_
      refine wp_block ?_
      refine wp_loop_ghost (fun mz a w => ∃ (j : Nat), (j ≤ ns.length) ∧ mz = ns.length - j ∧ FrL 90 a [(3, .pointer (some ⟨g, 0, none⟩)), (5, .int .i64 ((ns.length : Nat))), (6, .int .i64 ((k : Nat))), (22, .int .i64 ((ns.length : Nat))), (23, .int .i64 ((k : Nat))), (48, .int .i64 ((ns.length : Nat))), (49, .int .i64 ((j : Nat)))] ∧ St w0 [] w [ro g 0 [.slice A1 ns.length c1, .slice A2 ss.length c2, (.map (some m))], els CS 1 A1 ns, els CI 1 A2 ss, mapRo kS vN m ((mL ns))]) _ ⟨0, (Nat.zero_le _), rfl, fr.prune ⟨rfl, rfl, rfl, rfl, rfl, rfl, rfl, trivial⟩, st⟩ ?_
      clear fr st
      intro mz a w hI
      obtain ⟨j, hj, hmz, fr, st⟩ := hI
      by_cases hj2 : j < ns.length
      · by_cases hkj : k = j
        · subst hkj
          refine wp_seq ?_
          refine reg ?_
          refine lst rfl (ow_v fr (rn_as (v' := .bool true) (rn_lss (fr.ev rfl) (fr.ev rfl)) (congrArg Value.bool (decide_eq_true (by omega)))) rfl rfl ?_)
          intro a fr
          refine wpList_nil ?_
          refine then_n ?_
          refine wp_seq ?_
          refine cond_t fr rfl rfl ?_
          refine wp_skip ?_
          refine then_n ?_
          refine wp_seq ?_
          refine wp_block ?_
          refine wp_seq ?_
          refine reg ?_
          refine lst rfl (ow_v fr (rn_move (fr.ev rfl)) rfl rfl ?_)
          intro a fr
          refine lst rfl (ow_v fr (rn_assign (fr.ev rfl)) rfl rfl ?_)
          intro a fr
          refine wpList_nil ?_
          refine then_n ?_
          refine wp_seq ?_
          refine wp_seq ?_
          refine reg ?_
          refine lst rfl (ow_v fr (rn_move (fr.ev rfl)) rfl rfl ?_)
          intro a fr
          refine lst rfl (ow_v fr (rn_move (fr.ev rfl)) rfl rfl ?_)
          intro a fr
          refine lst rfl (ow_v fr (rn_as (v' := .bool false) (rn_neq (fr.ev rfl) (fr.ev rfl)) (congrArg Value.bool (by simp))) rfl rfl ?_)
          intro a fr
          refine lst rfl (ow_v fr (rn_move (fr.ev rfl)) rfl rfl ?_)
          intro a fr
          refine lst_n (unwanted_of fr rfl rfl rfl rfl) fr rfl rfl ?_
          intro a fr
          refine lst_n (unwanted_of fr rfl rfl rfl rfl) fr rfl rfl ?_
          intro a fr
          refine lst_n (unwanted_of fr rfl rfl rfl rfl) fr rfl rfl ?_
          intro a fr
          refine lst_n (unwanted_of fr rfl rfl rfl rfl) fr rfl rfl ?_
          intro a fr
          refine lst rfl (ow_v fr (rn_pick_f (fr.ev rfl) (fr.ev rfl)) rfl rfl ?_)
          intro a fr
          refine lst rfl (ow_v fr (rn_move (fr.ev rfl)) rfl rfl ?_)
          intro a fr
          refine lst_n (unwanted_of fr rfl rfl rfl rfl) fr rfl rfl ?_
          intro a fr
          refine lst_n (unwanted_of fr rfl rfl rfl rfl) fr rfl rfl ?_
          intro a fr
          refine lst_n (unwanted_of fr rfl rfl rfl rfl) fr rfl rfl ?_
          intro a fr
          refine lst_n (unwanted_of fr rfl rfl rfl rfl) fr rfl rfl ?_
          intro a fr
          refine lst rfl (ow_v fr (rn_pick_f (fr.ev rfl) (fr.ev rfl)) rfl rfl ?_)
          intro a fr
          refine wpList_nil ?_
          refine then_n ?_
          refine cond_f fr rfl rfl ?_
          refine wp_skip ?_
          refine then_n ?_
          refine wp_seq ?_
          refine reg ?_
          refine lst rfl (ow_v fr (rn_move (fr.ev rfl)) rfl rfl ?_)
          intro a fr
          refine lst rfl (ow_v fr (rn_move (fr.ev rfl)) rfl rfl ?_)
          intro a fr
          refine lst rfl (ow_call fr rfl rfl Try.call11 (super_t g m _ _ c1 c2 ns ss hf k (by omega) _ (hok4 (st.get 0 rfl) (st.get 1 rfl) (st.get 2 rfl) (st.get 3 rfl))) rfl rfl ?_)
          rintro e w ⟨⟨y, rfl, hsy⟩, hag⟩
          refine ⟨_, rfl, ?_⟩
          intro a fr
          have st := st.keep hag
          clear hag
          refine lst rfl (ow_v fr (rn_assign (fr.ev rfl)) rfl rfl ?_)
          intro a fr
          refine wpList_nil ?_
          refine then_n ?_
          refine wp_seq ?_
          refine reg ?_
          refine lst rfl (ow_v fr (rn_move (fr.ev rfl)) rfl rfl ?_)
          intro a fr
          refine lst rfl (ow_v fr (rn_move (fr.ev rfl)) rfl rfl ?_)
          intro a fr
          refine lst rfl (ow_v fr (rn_move (fr.ev rfl)) rfl rfl ?_)
          intro a fr
          refine lst rfl (ow_call fr rfl rfl Try.call10 (under_t g m _ _ c1 c2 ns ss hf ((k : Nat)) ((k : Nat)) (und_self (by omega) (by omega)) _ (hok4 (st.get 0 rfl) (st.get 1 rfl) (st.get 2 rfl) (st.get 3 rfl))) rfl rfl ?_)
          rintro e w ⟨rfl, hag⟩
          refine ⟨_, rfl, ?_⟩
          intro a fr
          have st := st.keep hag
          clear hag
          refine lst rfl (ow_v fr (rn_move (fr.ev rfl)) rfl rfl ?_)
          intro a fr
          refine lst rfl (ow_v fr (rn_move (fr.ev rfl)) rfl rfl ?_)
          intro a fr
          refine lst rfl (ow_v fr (rn_as (v' := .bool true) (rn_eql (fr.ev rfl) (fr.ev rfl)) (congrArg Value.bool (by simp))) rfl rfl ?_)
          intro a fr
          refine lst rfl (ow_v fr (rn_move (fr.ev rfl)) rfl rfl ?_)
          intro a fr
          refine lst_n (unwanted_of fr rfl rfl rfl rfl) fr rfl rfl ?_
          intro a fr
          refine lst_n (unwanted_of fr rfl rfl rfl rfl) fr rfl rfl ?_
          intro a fr
          refine lst_n (unwanted_of fr rfl rfl rfl rfl) fr rfl rfl ?_
          intro a fr
          refine lst_n (unwanted_u fr rfl rfl rfl) fr rfl rfl ?_
          intro a fr
          refine lst_n (unwanted_u fr rfl rfl rfl) fr rfl rfl ?_
          intro a fr
          refine lst_n (unwanted_u fr rfl rfl rfl) fr rfl rfl ?_
          intro a fr
          refine lst_n (unwanted_u fr rfl rfl rfl) fr rfl rfl ?_
          intro a fr
          refine lst_n (unwanted_of fr rfl rfl rfl rfl) fr rfl rfl ?_
          intro a fr
          refine lst rfl (ow_v fr (rn_pick_t (fr.ev rfl) (fr.ev rfl)) rfl rfl ?_)
          intro a fr
          refine lst rfl (ow_v fr (rn_as (v' := .bool false) (rn_neb (fr.ev rfl) (fr.ev rfl) Try.underlying4) (congrArg Value.bool (by rfl))) rfl rfl ?_)
          intro a fr
          refine wpList_nil ?_
          refine then_n ?_
          refine cond_f fr rfl rfl ?_
          refine wp_skip ?_
          refine blk_n ?_
          refine then_n ?_
          refine reg ?_
          refine lst rfl (ow_v fr (rn_add (c := ((k + 1 : Nat) : Int)) (fr.ev rfl) (fr.ev rfl) (wr_i64e (by omega) (by omega) (by omega))) rfl rfl ?_)
          intro a fr
          refine lst rfl (ow_v fr (rn_move (fr.ev rfl)) rfl rfl ?_)
          intro a fr
          refine wpList_nil ?_
          refine then_n ⟨ns.length - (k + 1), ?_, k + 1, (by omega), rfl, fr.prune ⟨rfl, rfl, rfl, rfl, rfl, rfl, rfl, trivial⟩, st.sub (.cons_cons _ (.cons_cons _ (.cons_cons _ (.cons_cons _ .slnil))))⟩
          omega
        · by_cases hu : UndP ns.length ss (k : Nat) (j : Nat)
          · refine wp_seq ?_
            refine reg ?_
            refine lst rfl (ow_v fr (rn_as (v' := .bool true) (rn_lss (fr.ev rfl) (fr.ev rfl)) (congrArg Value.bool (decide_eq_true (by omega)))) rfl rfl ?_)
            intro a fr
            refine wpList_nil ?_
            refine then_n ?_
            refine wp_seq ?_
            refine cond_t fr rfl rfl ?_
            refine wp_skip ?_
            refine then_n ?_
            refine wp_seq ?_
            refine wp_block ?_
            refine wp_seq ?_
            refine reg ?_
            refine lst rfl (ow_v fr (rn_move (fr.ev rfl)) rfl rfl ?_)
            intro a fr
            refine lst rfl (ow_v fr (rn_assign (fr.ev rfl)) rfl rfl ?_)
            intro a fr
            refine wpList_nil ?_
            refine then_n ?_
            refine wp_seq ?_
            refine wp_seq ?_
            refine reg ?_
            refine lst rfl (ow_v fr (rn_move (fr.ev rfl)) rfl rfl ?_)
            intro a fr
            refine lst rfl (ow_v fr (rn_move (fr.ev rfl)) rfl rfl ?_)
            intro a fr
            refine lst rfl (ow_v fr (rn_as (v' := .bool true) (rn_neq (fr.ev rfl) (fr.ev rfl)) (congrArg Value.bool (by simp; omega))) rfl rfl ?_)
            intro a fr
            refine lst rfl (ow_v fr (rn_move (fr.ev rfl)) rfl rfl ?_)
            intro a fr
            refine lst_y (wanted_of fr rfl rfl rfl rfl) (ow_v fr (rn_move (fr.ev rfl)) rfl rfl ?_)
            intro a fr
            refine lst_y (wanted_of fr rfl rfl rfl rfl) (ow_v fr (rn_move (fr.ev rfl)) rfl rfl ?_)
            intro a fr
            refine lst_y (wanted_of fr rfl rfl rfl rfl) (ow_v fr (rn_move (fr.ev rfl)) rfl rfl ?_)
            intro a fr
            refine lst_y (wanted_of fr rfl rfl rfl rfl) (ow_call fr rfl rfl Try.call10 (under_t g m _ _ c1 c2 ns ss hf ((k : Nat)) ((j : Nat)) (hu) _ (hok4 (st.get 0 rfl) (st.get 1 rfl) (st.get 2 rfl) (st.get 3 rfl))) rfl rfl ?_)
            rintro e w ⟨rfl, hag⟩
            refine ⟨_, rfl, ?_⟩
            intro a fr
            have st := st.keep hag
            clear hag
            refine lst rfl (ow_v fr (rn_pick_t (fr.ev rfl) (fr.ev rfl)) rfl rfl ?_)
            intro a fr
            refine lst rfl (ow_v fr (rn_move (fr.ev rfl)) rfl rfl ?_)
            intro a fr
            refine lst_y (wanted_of fr rfl rfl rfl rfl) (ow_v fr (rn_move (fr.ev rfl)) rfl rfl ?_)
            intro a fr
            refine lst_y (wanted_of fr rfl rfl rfl rfl) (ow_v fr (rn_move (fr.ev rfl)) rfl rfl ?_)
            intro a fr
            refine lst_y (wanted_of fr rfl rfl rfl rfl) (ow_v fr (rn_move (fr.ev rfl)) rfl rfl ?_)
            intro a fr
            refine lst_y (wanted_of fr rfl rfl rfl rfl) (ow_call fr rfl rfl Try.call10 (under_f g m _ _ c1 c2 ns ss hf ((j : Nat)) ((k : Nat)) (und_anti hf (by omega) hu) _ (hok4 (st.get 0 rfl) (st.get 1 rfl) (st.get 2 rfl) (st.get 3 rfl))) rfl rfl ?_)
            rintro e w ⟨rfl, hag⟩
            refine ⟨_, rfl, ?_⟩
            intro a fr
            have st := st.keep hag
            clear hag
            refine lst rfl (ow_v fr (rn_pick_t (fr.ev rfl) (fr.ev rfl)) rfl rfl ?_)
            intro a fr
            refine wpList_nil ?_
            refine then_n ?_
            refine cond_f fr rfl rfl ?_
            refine wp_skip ?_
            refine then_n ?_
            refine wp_seq ?_
            refine reg ?_
            refine lst rfl (ow_v fr (rn_move (fr.ev rfl)) rfl rfl ?_)
            intro a fr
            refine lst rfl (ow_v fr (rn_move (fr.ev rfl)) rfl rfl ?_)
            intro a fr
            refine lst rfl (ow_call fr rfl rfl Try.call11 (super_t g m _ _ c1 c2 ns ss hf k (by omega) _ (hok4 (st.get 0 rfl) (st.get 1 rfl) (st.get 2 rfl) (st.get 3 rfl))) rfl rfl ?_)
            rintro e w ⟨⟨y, rfl, hsy⟩, hag⟩
            refine ⟨_, rfl, ?_⟩
            intro a fr
            have st := st.keep hag
            clear hag
            refine lst rfl (ow_v fr (rn_assign (fr.ev rfl)) rfl rfl ?_)
            intro a fr
            refine wpList_nil ?_
            refine then_n ?_
            refine wp_seq ?_
            have hyu := (und_step hf hk2 hsy (by omega) (by omega)).1 hu
            refine reg ?_
            refine lst rfl (ow_v fr (rn_move (fr.ev rfl)) rfl rfl ?_)
            intro a fr
            refine lst rfl (ow_v fr (rn_move (fr.ev rfl)) rfl rfl ?_)
            intro a fr
            refine lst rfl (ow_v fr (rn_move (fr.ev rfl)) rfl rfl ?_)
            intro a fr
            refine lst rfl (ow_call fr rfl rfl Try.call10 (under_t g m _ _ c1 c2 ns ss hf ((k : Nat)) ((j : Nat)) (hu) _ (hok4 (st.get 0 rfl) (st.get 1 rfl) (st.get 2 rfl) (st.get 3 rfl))) rfl rfl ?_)
            rintro e w ⟨rfl, hag⟩
            refine ⟨_, rfl, ?_⟩
            intro a fr
            have st := st.keep hag
            clear hag
            refine lst rfl (ow_v fr (rn_move (fr.ev rfl)) rfl rfl ?_)
            intro a fr
            refine lst rfl (ow_v fr (rn_move (fr.ev rfl)) rfl rfl ?_)
            intro a fr
            refine lst rfl (ow_v fr (rn_as (v' := .bool false) (rn_eql (fr.ev rfl) (fr.ev rfl)) (congrArg Value.bool (by simp; omega))) rfl rfl ?_)
            intro a fr
            refine lst rfl (ow_v fr (rn_move (fr.ev rfl)) rfl rfl ?_)
            intro a fr
            refine lst_y (wanted_of fr rfl rfl rfl rfl) (ow_v fr (rn_move (fr.ev rfl)) rfl rfl ?_)
            intro a fr
            refine lst_y (wanted_of fr rfl rfl rfl rfl) (ow_v fr (rn_as (v' := .bool true) (rn_geq (fr.ev rfl) (fr.ev rfl)) (congrArg Value.bool (decide_eq_true hyu.1))) rfl rfl ?_)
            intro a fr
            refine lst_y (wanted_of fr rfl rfl rfl rfl) (ow_v fr (rn_move (fr.ev rfl)) rfl rfl ?_)
            intro a fr
            refine lst_y (wanted_of fr rfl rfl rfl rfl) (ow_v fr (rn_move (fr.ev rfl)) rfl rfl ?_)
            intro a fr
            refine lst_y (wanted_of fr rfl rfl rfl rfl) (ow_v fr (rn_move (fr.ev rfl)) rfl rfl ?_)
            intro a fr
            refine lst_y (wanted_of fr rfl rfl rfl rfl) (ow_v fr (rn_move (fr.ev rfl)) rfl rfl ?_)
            intro a fr
            refine lst_y (wanted_of fr rfl rfl rfl rfl) (ow_call fr rfl rfl Try.call10 (under_t g m _ _ c1 c2 ns ss hf y ((j : Nat)) (hyu.2) _ (hok4 (st.get 0 rfl) (st.get 1 rfl) (st.get 2 rfl) (st.get 3 rfl))) rfl rfl ?_)
            rintro e w ⟨rfl, hag⟩
            refine ⟨_, rfl, ?_⟩
            intro a fr
            have st := st.keep hag
            clear hag
            refine lst_y (wanted_of fr rfl rfl rfl rfl) (ow_v fr (rn_pick_t (fr.ev rfl) (fr.ev rfl)) rfl rfl ?_)
            intro a fr
            refine lst rfl (ow_v fr (rn_pick_f (fr.ev rfl) (fr.ev rfl)) rfl rfl ?_)
            intro a fr
            refine lst rfl (ow_v fr (rn_as (v' := .bool false) (rn_neb (fr.ev rfl) (fr.ev rfl) Try.underlying4) (congrArg Value.bool (by rfl))) rfl rfl ?_)
            intro a fr
            refine wpList_nil ?_
            refine then_n ?_
            refine cond_f fr rfl rfl ?_
            refine wp_skip ?_
            refine blk_n ?_
            refine then_n ?_
            refine reg ?_
            refine lst rfl (ow_v fr (rn_add (c := ((j + 1 : Nat) : Int)) (fr.ev rfl) (fr.ev rfl) (wr_i64e (by omega) (by omega) (by omega))) rfl rfl ?_)
            intro a fr
            refine lst rfl (ow_v fr (rn_move (fr.ev rfl)) rfl rfl ?_)
            intro a fr
            refine wpList_nil ?_
            refine then_n ⟨ns.length - (j + 1), ?_, j + 1, (by omega), rfl, fr.prune ⟨rfl, rfl, rfl, rfl, rfl, rfl, rfl, trivial⟩, st.sub (.cons_cons _ (.cons_cons _ (.cons_cons _ (.cons_cons _ .slnil))))⟩
            omega
          · refine wp_seq ?_
            refine reg ?_
            refine lst rfl (ow_v fr (rn_as (v' := .bool true) (rn_lss (fr.ev rfl) (fr.ev rfl)) (congrArg Value.bool (decide_eq_true (by omega)))) rfl rfl ?_)
            intro a fr
            refine wpList_nil ?_
            refine then_n ?_
            refine wp_seq ?_
            refine cond_t fr rfl rfl ?_
            refine wp_skip ?_
            refine then_n ?_
            refine wp_seq ?_
            refine wp_block ?_
            refine wp_seq ?_
            refine reg ?_
            refine lst rfl (ow_v fr (rn_move (fr.ev rfl)) rfl rfl ?_)
            intro a fr
            refine lst rfl (ow_v fr (rn_assign (fr.ev rfl)) rfl rfl ?_)
            intro a fr
            refine wpList_nil ?_
            refine then_n ?_
            refine wp_seq ?_
            refine wp_seq ?_
            refine reg ?_
            refine lst rfl (ow_v fr (rn_move (fr.ev rfl)) rfl rfl ?_)
            intro a fr
            refine lst rfl (ow_v fr (rn_move (fr.ev rfl)) rfl rfl ?_)
            intro a fr
            refine lst rfl (ow_v fr (rn_as (v' := .bool true) (rn_neq (fr.ev rfl) (fr.ev rfl)) (congrArg Value.bool (by simp; omega))) rfl rfl ?_)
            intro a fr
            refine lst rfl (ow_v fr (rn_move (fr.ev rfl)) rfl rfl ?_)
            intro a fr
            refine lst_y (wanted_of fr rfl rfl rfl rfl) (ow_v fr (rn_move (fr.ev rfl)) rfl rfl ?_)
            intro a fr
            refine lst_y (wanted_of fr rfl rfl rfl rfl) (ow_v fr (rn_move (fr.ev rfl)) rfl rfl ?_)
            intro a fr
            refine lst_y (wanted_of fr rfl rfl rfl rfl) (ow_v fr (rn_move (fr.ev rfl)) rfl rfl ?_)
            intro a fr
            refine lst_y (wanted_of fr rfl rfl rfl rfl) (ow_call fr rfl rfl Try.call10 (under_f g m _ _ c1 c2 ns ss hf ((k : Nat)) ((j : Nat)) (hu) _ (hok4 (st.get 0 rfl) (st.get 1 rfl) (st.get 2 rfl) (st.get 3 rfl))) rfl rfl ?_)
            rintro e w ⟨rfl, hag⟩
            refine ⟨_, rfl, ?_⟩
            intro a fr
            have st := st.keep hag
            clear hag
            refine lst rfl (ow_v fr (rn_pick_t (fr.ev rfl) (fr.ev rfl)) rfl rfl ?_)
            intro a fr
            refine lst rfl (ow_v fr (rn_move (fr.ev rfl)) rfl rfl ?_)
            intro a fr
            refine lst_n (unwanted_of fr rfl rfl rfl rfl) fr rfl rfl ?_
            intro a fr
            refine lst_n (unwanted_of fr rfl rfl rfl rfl) fr rfl rfl ?_
            intro a fr
            refine lst_n (unwanted_of fr rfl rfl rfl rfl) fr rfl rfl ?_
            intro a fr
            refine lst_n (unwanted_of fr rfl rfl rfl rfl) fr rfl rfl ?_
            intro a fr
            refine lst rfl (ow_v fr (rn_pick_f (fr.ev rfl) (fr.ev rfl)) rfl rfl ?_)
            intro a fr
            refine wpList_nil ?_
            refine then_n ?_
            refine cond_f fr rfl rfl ?_
            refine wp_skip ?_
            refine then_n ?_
            refine wp_seq ?_
            refine reg ?_
            refine lst rfl (ow_v fr (rn_move (fr.ev rfl)) rfl rfl ?_)
            intro a fr
            refine lst rfl (ow_v fr (rn_move (fr.ev rfl)) rfl rfl ?_)
            intro a fr
            refine lst rfl (ow_call fr rfl rfl Try.call11 (super_t g m _ _ c1 c2 ns ss hf k (by omega) _ (hok4 (st.get 0 rfl) (st.get 1 rfl) (st.get 2 rfl) (st.get 3 rfl))) rfl rfl ?_)
            rintro e w ⟨⟨y, rfl, hsy⟩, hag⟩
            refine ⟨_, rfl, ?_⟩
            intro a fr
            have st := st.keep hag
            clear hag
            refine lst rfl (ow_v fr (rn_assign (fr.ev rfl)) rfl rfl ?_)
            intro a fr
            refine wpList_nil ?_
            refine then_n ?_
            refine wp_seq ?_
            by_cases hy0 : 0 ≤ y
            · refine reg ?_
              refine lst rfl (ow_v fr (rn_move (fr.ev rfl)) rfl rfl ?_)
              intro a fr
              refine lst rfl (ow_v fr (rn_move (fr.ev rfl)) rfl rfl ?_)
              intro a fr
              refine lst rfl (ow_v fr (rn_move (fr.ev rfl)) rfl rfl ?_)
              intro a fr
              refine lst rfl (ow_call fr rfl rfl Try.call10 (under_f g m _ _ c1 c2 ns ss hf ((k : Nat)) ((j : Nat)) (hu) _ (hok4 (st.get 0 rfl) (st.get 1 rfl) (st.get 2 rfl) (st.get 3 rfl))) rfl rfl ?_)
              rintro e w ⟨rfl, hag⟩
              refine ⟨_, rfl, ?_⟩
              intro a fr
              have st := st.keep hag
              clear hag
              refine lst rfl (ow_v fr (rn_move (fr.ev rfl)) rfl rfl ?_)
              intro a fr
              refine lst rfl (ow_v fr (rn_move (fr.ev rfl)) rfl rfl ?_)
              intro a fr
              refine lst rfl (ow_v fr (rn_as (v' := .bool false) (rn_eql (fr.ev rfl) (fr.ev rfl)) (congrArg Value.bool (by simp; omega))) rfl rfl ?_)
              intro a fr
              refine lst rfl (ow_v fr (rn_move (fr.ev rfl)) rfl rfl ?_)
              intro a fr
              refine lst_y (wanted_of fr rfl rfl rfl rfl) (ow_v fr (rn_move (fr.ev rfl)) rfl rfl ?_)
              intro a fr
              refine lst_y (wanted_of fr rfl rfl rfl rfl) (ow_v fr (rn_as (v' := .bool true) (rn_geq (fr.ev rfl) (fr.ev rfl)) (congrArg Value.bool (decide_eq_true hy0))) rfl rfl ?_)
              intro a fr
              refine lst_y (wanted_of fr rfl rfl rfl rfl) (ow_v fr (rn_move (fr.ev rfl)) rfl rfl ?_)
              intro a fr
              refine lst_y (wanted_of fr rfl rfl rfl rfl) (ow_v fr (rn_move (fr.ev rfl)) rfl rfl ?_)
              intro a fr
              refine lst_y (wanted_of fr rfl rfl rfl rfl) (ow_v fr (rn_move (fr.ev rfl)) rfl rfl ?_)
              intro a fr
              refine lst_y (wanted_of fr rfl rfl rfl rfl) (ow_v fr (rn_move (fr.ev rfl)) rfl rfl ?_)
              intro a fr
              refine lst_y (wanted_of fr rfl rfl rfl rfl) (ow_call fr rfl rfl Try.call10 (under_f g m _ _ c1 c2 ns ss hf y ((j : Nat)) (fun h => hu ((und_step hf hk2 hsy (by omega) (by omega)).2 ⟨hy0, h⟩)) _ (hok4 (st.get 0 rfl) (st.get 1 rfl) (st.get 2 rfl) (st.get 3 rfl))) rfl rfl ?_)
              rintro e w ⟨rfl, hag⟩
              refine ⟨_, rfl, ?_⟩
              intro a fr
              have st := st.keep hag
              clear hag
              refine lst_y (wanted_of fr rfl rfl rfl rfl) (ow_v fr (rn_pick_t (fr.ev rfl) (fr.ev rfl)) rfl rfl ?_)
              intro a fr
              refine lst rfl (ow_v fr (rn_pick_f (fr.ev rfl) (fr.ev rfl)) rfl rfl ?_)
              intro a fr
              refine lst rfl (ow_v fr (rn_as (v' := .bool false) (rn_neb (fr.ev rfl) (fr.ev rfl) Try.underlying4) (congrArg Value.bool (by rfl))) rfl rfl ?_)
              intro a fr
              refine wpList_nil ?_
              refine then_n ?_
              refine cond_f fr rfl rfl ?_
              refine wp_skip ?_
              refine blk_n ?_
              refine then_n ?_
              refine reg ?_
              refine lst rfl (ow_v fr (rn_add (c := ((j + 1 : Nat) : Int)) (fr.ev rfl) (fr.ev rfl) (wr_i64e (by omega) (by omega) (by omega))) rfl rfl ?_)
              intro a fr
              refine lst rfl (ow_v fr (rn_move (fr.ev rfl)) rfl rfl ?_)
              intro a fr
              refine wpList_nil ?_
              refine then_n ⟨ns.length - (j + 1), ?_, j + 1, (by omega), rfl, fr.prune ⟨rfl, rfl, rfl, rfl, rfl, rfl, rfl, trivial⟩, st.sub (.cons_cons _ (.cons_cons _ (.cons_cons _ (.cons_cons _ .slnil))))⟩
              omega
            · refine reg ?_
              refine lst rfl (ow_v fr (rn_move (fr.ev rfl)) rfl rfl ?_)
              intro a fr
              refine lst rfl (ow_v fr (rn_move (fr.ev rfl)) rfl rfl ?_)
              intro a fr
              refine lst rfl (ow_v fr (rn_move (fr.ev rfl)) rfl rfl ?_)
              intro a fr
              refine lst rfl (ow_call fr rfl rfl Try.call10 (under_f g m _ _ c1 c2 ns ss hf ((k : Nat)) ((j : Nat)) (hu) _ (hok4 (st.get 0 rfl) (st.get 1 rfl) (st.get 2 rfl) (st.get 3 rfl))) rfl rfl ?_)
              rintro e w ⟨rfl, hag⟩
              refine ⟨_, rfl, ?_⟩
              intro a fr
              have st := st.keep hag
              clear hag
              refine lst rfl (ow_v fr (rn_move (fr.ev rfl)) rfl rfl ?_)
              intro a fr
              refine lst rfl (ow_v fr (rn_move (fr.ev rfl)) rfl rfl ?_)
              intro a fr
              refine lst rfl (ow_v fr (rn_as (v' := .bool false) (rn_eql (fr.ev rfl) (fr.ev rfl)) (congrArg Value.bool (by simp; omega))) rfl rfl ?_)
              intro a fr
              refine lst rfl (ow_v fr (rn_move (fr.ev rfl)) rfl rfl ?_)
              intro a fr
              refine lst_y (wanted_of fr rfl rfl rfl rfl) (ow_v fr (rn_move (fr.ev rfl)) rfl rfl ?_)
              intro a fr
              refine lst_y (wanted_of fr rfl rfl rfl rfl) (ow_v fr (rn_as (v' := .bool false) (rn_geq (fr.ev rfl) (fr.ev rfl)) (congrArg Value.bool (decide_eq_false hy0))) rfl rfl ?_)
              intro a fr
              refine lst_y (wanted_of fr rfl rfl rfl rfl) (ow_v fr (rn_move (fr.ev rfl)) rfl rfl ?_)
              intro a fr
              refine lst_n (unwanted_of fr rfl rfl rfl rfl) fr rfl rfl ?_
              intro a fr
              refine lst_n (unwanted_of fr rfl rfl rfl rfl) fr rfl rfl ?_
              intro a fr
              refine lst_n (unwanted_of fr rfl rfl rfl rfl) fr rfl rfl ?_
              intro a fr
              refine lst_n (unwanted_of fr rfl rfl rfl rfl) fr rfl rfl ?_
              intro a fr
              refine lst_y (wanted_of fr rfl rfl rfl rfl) (ow_v fr (rn_pick_f (fr.ev rfl) (fr.ev rfl)) rfl rfl ?_)
              intro a fr
              refine lst rfl (ow_v fr (rn_pick_f (fr.ev rfl) (fr.ev rfl)) rfl rfl ?_)
              intro a fr
              refine lst rfl (ow_v fr (rn_as (v' := .bool false) (rn_neb (fr.ev rfl) (fr.ev rfl) Try.underlying4) (congrArg Value.bool (by rfl))) rfl rfl ?_)
              intro a fr
              refine wpList_nil ?_
              refine then_n ?_
              refine cond_f fr rfl rfl ?_
              refine wp_skip ?_
              refine blk_n ?_
              refine then_n ?_
              refine reg ?_
              refine lst rfl (ow_v fr (rn_add (c := ((j + 1 : Nat) : Int)) (fr.ev rfl) (fr.ev rfl) (wr_i64e (by omega) (by omega) (by omega))) rfl rfl ?_)
              intro a fr
              refine lst rfl (ow_v fr (rn_move (fr.ev rfl)) rfl rfl ?_)
              intro a fr
              refine wpList_nil ?_
              refine then_n ⟨ns.length - (j + 1), ?_, j + 1, (by omega), rfl, fr.prune ⟨rfl, rfl, rfl, rfl, rfl, rfl, rfl, trivial⟩, st.sub (.cons_cons _ (.cons_cons _ (.cons_cons _ (.cons_cons _ .slnil))))⟩
              omega
      · refine wp_seq ?_
        refine reg ?_
        refine lst rfl (ow_v fr (rn_as (v' := .bool false) (rn_lss (fr.ev rfl) (fr.ev rfl)) (congrArg Value.bool (decide_eq_false (by omega)))) rfl rfl ?_)
        intro a fr
        refine wpList_nil ?_
        refine then_n ?_
        refine wp_seq ?_
        refine cond_f fr rfl rfl ?_
        refine wp_exit ?_
        refine then_x ?_
        refine then_x ?_
        refine blk_x ?_
        refine blk_n ?_
        refine then_n ?_
        refine reg ?_
        refine lst rfl (ow_v fr (rn_add (c := ((k + 1 : Nat) : Int)) (fr.ev rfl) (fr.ev rfl) (wr_i64e (by omega) (by omega) (by omega))) rfl rfl ?_)
        intro a fr
        refine lst rfl (ow_v fr (rn_move (fr.ev rfl)) rfl rfl ?_)
        intro a fr
        refine wpList_nil ?_
        refine then_n ⟨ns.length - (k + 1), ?_, k + 1, (by omega), rfl, fr.prune ⟨rfl, rfl, rfl, rfl, trivial⟩, st.sub (.cons_cons _ (.cons_cons _ (.cons_cons _ (.cons_cons _ .slnil))))⟩
        omega
    · refine wp_seq ?_
      refine reg ?_
      refine lst rfl (ow_v fr (rn_as (v' := .bool false) (rn_lss (fr.ev rfl) (fr.ev rfl)) (congrArg Value.bool (decide_eq_false (by omega)))) rfl rfl ?_)
      intro a fr
      refine wpList_nil ?_
      refine then_n ?_
      refine wp_seq ?_
      refine cond_f fr rfl rfl ?_
      refine wp_exit ?_
      refine then_x ?_
      refine then_x ?_
      refine blk_x ?_
      refine then_n ?_
      refine wp_seq ?_
      refine reg ?_
      refine lst rfl (ow_v fr (rn_assign (fr.ev rfl)) rfl rfl ?_)
      intro a fr
      refine wpList_nil ?_
      refine then_n ?_
      refine wp_ret ?_
      refine ret1 Try.results3 fr (rv_tmp fr rfl) ?_
      exact ⟨rfl, st.agr.below⟩
  · refine enter Try.func3 rfl Try.ntmps3 (by simp) ?_
    intro a fr
    refine wp_seq ?_
    refine reg ?_
    refine lst rfl (ow_v fr (rn_assign (fr.ev rfl)) rfl rfl ?_)
    intro a fr
    refine wpList_nil ?_
    refine then_n ?_
    refine wp_seq ?_
    refine reg ?_
    refine lst rfl (ow_v fr (rn_move (fr.ev rfl)) rfl rfl ?_)
    intro a fr
    refine lst rfl (ow_call fr rfl rfl Try.call7 (new_not hfi _ _ hl _ (st.get 0 rfl).1) rfl rfl ?_)
    rintro e w ⟨er, rfl, her, hag⟩
    refine ⟨_, rfl, ?_⟩
    intro a fr
    have st := st.keep hag
    clear hag
    refine lst rfl (ow_v fr (rn_move (fr.ev rfl)) rfl rfl ?_)
    intro a fr
    refine lst rfl (ow_v fr (rn_extract (fr.ev rfl) rfl) rfl rfl ?_)
    intro a fr
    refine lst rfl (ow_v fr (rn_extract (fr.ev rfl) rfl) rfl rfl ?_)
    intro a fr
    refine lst rfl (ow_v fr (rn_assign (fr.ev rfl)) rfl rfl ?_)
    intro a fr
    refine lst rfl (ow_v fr (rn_assign (fr.ev rfl)) rfl rfl ?_)
    intro a fr
    refine wpList_nil ?_
    refine then_n ?_
    refine wp_seq ?_
    refine wp_seq ?_
    refine reg ?_
    refine lst rfl (ow_call fr rfl rfl Try.call8 (live_calls _) rfl rfl ?_)
    rintro e w ⟨rfl, hag⟩
    refine ⟨_, rfl, ?_⟩
    intro a fr
    have st := st.keep hag
    clear hag
    refine lst rfl (ow_v fr (rn_not (fr.ev rfl)) rfl rfl ?_)
    intro a fr
    refine wpList_nil ?_
    refine then_n ?_
    refine cond_f fr rfl rfl ?_
    refine wp_skip ?_
    refine then_n ?_
    refine wp_seq ?_
    refine wp_seq ?_
    refine reg ?_
    refine lst rfl (ow_v fr (rn_move (fr.ev rfl)) rfl rfl ?_)
    intro a fr
    refine lst rfl (ow_v fr (rn_as (v' := .bool true) (rn_neq (fr.ev rfl) (fr.ev rfl)) (congrArg Value.bool (by simpa using her))) rfl rfl ?_)
    intro a fr
    refine wpList_nil ?_
    refine then_n ?_
    refine cond_t fr rfl rfl ?_
    refine wp_seq ?_
    refine reg ?_
    refine lst rfl (ow_v fr (rn_move (fr.ev rfl)) rfl rfl ?_)
    intro a fr
    refine lst rfl (ow_v fr (rn_eql_nn (fr.ev rfl) (fr.ev rfl) Try.underlying23) rfl rfl ?_)
    intro a fr
    refine lst rfl (ow_v fr (rn_assign (fr.ev rfl)) rfl rfl ?_)
    intro a fr
    refine wpList_nil ?_
    refine then_n ?_
    refine wp_ret ?_
    refine then_r ?_
    refine ret1 Try.results3 fr (rv_tmp fr rfl) ?_
    exact ⟨rfl, st.agr.below⟩

end Go.Proofs.Ytnggnacaghcclaa.H3
