import Derived.Test.YtnggnacaghcclaaH1
set_option linter.unusedVariables false
set_option linter.unusedSimpArgs false
namespace Go.Proofs.Ytnggnacaghcclaa.H2
open Go.RowKit Go.Proofs.Ytnggnacaghcclaa.LibA Go.Proofs.Ytnggnacaghcclaa.LibC Go.Proofs.Ytnggnacaghcclaa.LibS Go.Proofs.Ytnggnacaghcclaa.LibR Go.Proofs.Ytnggnacaghcclaa.LibT Go.Proofs.Ytnggnacaghcclaa.LibU Go.Proofs.Ytnggnacaghcclaa.LibV Go.Proofs.Ytnggnacaghcclaa.LibW Go.Proofs.Ytnggnacaghcclaa.H1
structure HF (L : Nat) (ss : List Int) : Prop where
  len : ss.length = L
  low : 8 ≤ L
  high : L ≤ 72
  rng : ∀ m : Nat, ∀ h : m < ss.length, -1 ≤ ss[m] ∧ ss[m] < L
  zero : ss.getD 0 (-1) = -1
  top : ∀ m : Nat, ∀ h : m < ss.length, 0 < m → 0 ≤ ss[m]
  acyc : ∀ n : Nat, n < L → ∃ i, i ≤ L ∧ itS ss i n < 0
def HOk (g m : Nat) (A1 A2 : Option Addr) (c1 c2 : Nat) (ns : List ByteArray) (ss : List Int) (w : World) : Prop := ∀ it ∈ hI g m A1 A2 c1 c2 ns ss, it.ok w [] w
theorem HOk.st {g m : Nat} {A1 A2 : Option Addr} {c1 c2 : Nat} {ns : List ByteArray} {ss : List Int} {w : World} (h : HOk g m A1 A2 c1 c2 ns ss w) : St w [] w (hI g m A1 A2 c1 c2 ns ss) := of_ro (Agr.refl _ _) fun it hi => ⟨h it hi, by simp [hI] at hi; rcases hi with rfl | rfl | rfl | rfl <;> rfl⟩
theorem hok4 {g m : Nat} {A1 A2 : Option Addr} {c1 c2 : Nat} {ns : List ByteArray} {ss : List Int} {w0 w : World} {K : List Nat} (h1 : (ro g 0 [.slice A1 ns.length c1, .slice A2 ss.length c2, .map (some m)]).ok w0 K w) (h2 : (els CS 1 A1 ns).ok w0 K w) (h3 : (els CI 1 A2 ss).ok w0 K w) (h4 : (mapRo kS vN m (mL ns)).ok w0 K w) : HOk g m A1 A2 c1 c2 ns ss w := by
  intro it hi
  simp only [hI, List.mem_cons, List.not_mem_nil, or_false] at hi
  rcases hi with rfl | rfl | rfl | rfl
  · exact ro_now h1 rfl
  · exact ro_now h2 rfl
  · exact ro_now h3 rfl
  · exact ro_now h4 rfl
theorem itS_neg {L : Nat} {ss : List Int} (hf : HF L ss) {n : Int} (hn : -1 ≤ n) (hL : n < L) : ∀ i, (-1 ≤ itS ss i n ∧ itS ss i n < L) ∧ (itS ss i n < 0 → itS ss (i + 1) n < 0)
  | 0 => ⟨⟨hn, hL⟩, fun h => by
      have h2 : n < 0 := h
      show ss.getD (itS ss 0 n).toNat (-1) < 0
      have : (itS ss 0 n).toNat = 0 := by show n.toNat = 0; omega
      rw [this, hf.zero]
      decide⟩
  | i + 1 => by
    have ih := itS_neg hf hn hL i
    have h1 : -1 ≤ itS ss (i + 1) n ∧ itS ss (i + 1) n < L := by
      show -1 ≤ ss.getD (itS ss i n).toNat (-1) ∧ ss.getD (itS ss i n).toNat (-1) < L
      have hl := hf.len
      have hk : (itS ss i n).toNat < ss.length := by have := hf.low; omega
      rw [List.getD_eq_getElem?_getD, List.getElem?_eq_getElem hk]
      exact hf.rng _ hk
    refine ⟨h1, fun h => ?_⟩
    show ss.getD (itS ss (i + 1) n).toNat (-1) < 0
    have : (itS ss (i + 1) n).toNat = 0 := by omega
    rw [this, hf.zero]
    decide
theorem itS_mono {L : Nat} {ss : List Int} (hf : HF L ss) {n : Int} (hn : -1 ≤ n) (hL : n < L) {d : Nat} (hd : itS ss d n < 0) : ∀ i, d ≤ i → itS ss i n < 0 := by
  intro i hi
  induction i with
  | zero => have : d = 0 := by omega
            subst this; exact hd
  | succ i ih =>
    rcases (by omega : d = i + 1 ∨ d ≤ i) with rfl | h
    · exact hd
    · exact (itS_neg hf hn hL i).2 (ih h)
theorem itS_lt {L : Nat} {ss : List Int} (hf : HF L ss) {n : Int} (hn : -1 ≤ n) (hL : n < L) {d i : Nat} (hd : itS ss d n < 0) (hi : 0 ≤ itS ss i n) : i < d := by
  rcases Nat.lt_or_ge i d with h | h
  · exact h
  · have := itS_mono hf hn hL hd i h; omega
def UndP (L : Nat) (ss : List Int) (a b : Int) : Prop := (0 ≤ a ∧ a < L) ∧ (0 ≤ b ∧ b < L) ∧ ∃ i, itS ss i a = b
theorem itS_add (ss : List Int) (n : Int) (i : Nat) : ∀ j, itS ss (i + j) n = itS ss j (itS ss i n)
  | 0 => rfl
  | j + 1 => by show ss.getD (itS ss (i + j) n).toNat (-1) = ss.getD (itS ss j (itS ss i n)).toNat (-1); rw [itS_add ss n i j]
theorem itS_shift {ss : List Int} {q : Nat} {y : Int} (hq : q < ss.length) (h : ss[q] = y) (j : Nat) : itS ss (j + 1) (q : Int) = itS ss j y := by
  rw [Nat.add_comm, itS_add]
  congr 1
  show ss.getD ((q : Int)).toNat (-1) = y
  simp [hq, h]
theorem HF.end_ {L : Nat} {ss : List Int} (hf : HF L ss) {a : Int} (h0 : 0 ≤ a) (hL : a < L) : ∃ d, itS ss d a < 0 := by
  obtain ⟨n, rfl⟩ := Int.eq_ofNat_of_zero_le h0
  obtain ⟨i, _, hi⟩ := hf.acyc n (by omega)
  exact ⟨i, hi⟩
theorem und_top {L : Nat} {ss : List Int} (hf : HF L ss) {a : Int} (h0 : 0 ≤ a) (hL : a < L) : UndP L ss a 0 := by
  refine ⟨⟨h0, hL⟩, ⟨by omega, by have := hf.low; omega⟩, ?_⟩
  obtain ⟨d, hd⟩ := hf.end_ h0 hL
  induction d with
  | zero => exact absurd hd (by show ¬ a < 0; omega)
  | succ d ih =>
    rcases Int.lt_or_le (itS ss d a) 0 with h | h
    · exact ih h
    · obtain ⟨q, hq⟩ := Int.eq_ofNat_of_zero_le h
      have hb := (itS_neg hf (by omega) hL d).1
      have hql : q < ss.length := by have := hf.len; omega
      rcases Nat.eq_zero_or_pos q with rfl | hp
      · exact ⟨d, hq⟩
      · have h1 := hf.top q hql hp
        have h2 := itS_succ hq hql rfl
        omega


theorem is_t (g m : Nat) (A1 A2 : Option Addr) (c1 c2 : Nat) (ns : List ByteArray) (ss : List Int) (n : Int) (h : 0 ≤ n ∧ n < ns.length) (w0 : World) (hok : HOk g m A1 A2 c1 c2 ns ss w0) : Calls Try.prog 27 #[.pointer (some ⟨g, 0, none⟩), .int .i64 n] w0 fun e w' => e = .returned (.bool true) ∧ Agr [] w0 w' := by
  have st : St w0 [] w0 [ro g 0 [.slice A1 ns.length c1, .slice A2 ss.length c2, (.map (some m))], els CS 1 A1 ns, els CI 1 A2 ss, mapRo kS vN m ((mL ns))] := hok.st
  clear hok
  refine enter Try.func27 rfl Try.ntmps27 (by simp) ?_
  intro a fr
  refine wp_seq ?_
  refine reg ?_
  refine lst rfl (ow_v fr (rn_assign (fr.ev rfl)) rfl rfl ?_)
  intro a fr
  refine wpList_nil ?_
  refine then_n ?_
  refine wp_seq ?_
  refine reg ?_
  refine lst rfl (ow_v fr (rn_move (fr.ev rfl)) rfl rfl ?_)
  intro a fr
  refine lst rfl (ow_v fr (rn_neq_pn (fr.ev rfl) (fr.ev rfl) Try.underlying23) rfl rfl ?_)
  intro a fr
  refine lst rfl (ow_v fr (rn_move (fr.ev rfl)) rfl rfl ?_)
  intro a fr
  refine lst_y (wanted_of fr rfl rfl rfl rfl) (ow_v fr (rn_move (fr.ev rfl)) rfl rfl ?_)
  intro a fr
  refine lst_y (wanted_of fr rfl rfl rfl rfl) (ow_v fr (rn_as (v' := .bool true) (rn_geq (fr.ev rfl) (fr.ev rfl)) (congrArg Value.bool (decide_eq_true (by omega)))) rfl rfl ?_)
  intro a fr
  refine lst rfl (ow_v fr (rn_pick_t (fr.ev rfl) (fr.ev rfl)) rfl rfl ?_)
  intro a fr
  refine lst rfl (ow_v fr (rn_move (fr.ev rfl)) rfl rfl ?_)
  intro a fr
  refine lst_y (wanted_of fr rfl rfl rfl rfl) (ow_v fr (rn_move (fr.ev rfl)) rfl rfl ?_)
  intro a fr
  refine lst_y (wanted_of fr rfl rfl rfl rfl) (ow_v fr (rn_move (fr.ev rfl)) rfl rfl ?_)
  intro a fr
  refine lst_y (wanted_of fr rfl rfl rfl rfl) (ow_v fr (rn_nilCheck (fr.ev rfl)) rfl rfl ?_)
  intro a fr
  refine lst_y (wanted_of fr rfl rfl rfl rfl) (ow_v fr (fa_48_0 (fr.ev rfl)) rfl rfl ?_)
  intro a fr
  refine lst_y (wanted_of fr rfl rfl rfl rfl) (ow_v fr (rn_load (fr.ev rfl) Try.underlying45 rfl (st.rocell 0 rfl (j := 0) rfl)) rfl rfl ?_)
  intro a fr
  refine lst_y (wanted_of fr rfl rfl rfl rfl) (ow_v fr (rn_len (fr.ev rfl) Try.underlying45) rfl rfl ?_)
  intro a fr
  refine lst_y (wanted_of fr rfl rfl rfl rfl) (ow_v fr (rn_as (v' := .bool true) (rn_lss (fr.ev rfl) (fr.ev rfl)) (congrArg Value.bool (decide_eq_true (by omega)))) rfl rfl ?_)
  intro a fr
  refine lst rfl (ow_v fr (rn_pick_t (fr.ev rfl) (fr.ev rfl)) rfl rfl ?_)
  intro a fr
  refine lst rfl (ow_v fr (rn_assign (fr.ev rfl)) rfl rfl ?_)
  intro a fr
  refine wpList_nil ?_
  refine then_n ?_
  refine wp_ret ?_
  refine ret1 Try.results27 fr (rv_tmp fr rfl) ?_
  exact ⟨rfl, st.agr⟩

theorem is_f (g m : Nat) (A1 A2 : Option Addr) (c1 c2 : Nat) (ns : List ByteArray) (ss : List Int) (n : Int) (h : ¬ (0 ≤ n ∧ n < ns.length)) (w0 : World) (hok : HOk g m A1 A2 c1 c2 ns ss w0) : Calls Try.prog 27 #[.pointer (some ⟨g, 0, none⟩), .int .i64 n] w0 fun e w' => e = .returned (.bool false) ∧ Agr [] w0 w' := by
  have st : St w0 [] w0 [ro g 0 [.slice A1 ns.length c1, .slice A2 ss.length c2, (.map (some m))], els CS 1 A1 ns, els CI 1 A2 ss, mapRo kS vN m ((mL ns))] := hok.st
  clear hok
  by_cases h0 : 0 ≤ n
  · refine enter Try.func27 rfl Try.ntmps27 (by simp) ?_
    intro a fr
    refine wp_seq ?_
    refine reg ?_
    refine lst rfl (ow_v fr (rn_assign (fr.ev rfl)) rfl rfl ?_)
    intro a fr
    refine wpList_nil ?_
    refine then_n ?_
    refine wp_seq ?_
    refine reg ?_
    refine lst rfl (ow_v fr (rn_move (fr.ev rfl)) rfl rfl ?_)
    intro a fr
    refine lst rfl (ow_v fr (rn_neq_pn (fr.ev rfl) (fr.ev rfl) Try.underlying23) rfl rfl ?_)
    intro a fr
    refine lst rfl (ow_v fr (rn_move (fr.ev rfl)) rfl rfl ?_)
    intro a fr
    refine lst_y (wanted_of fr rfl rfl rfl rfl) (ow_v fr (rn_move (fr.ev rfl)) rfl rfl ?_)
    intro a fr
    refine lst_y (wanted_of fr rfl rfl rfl rfl) (ow_v fr (rn_as (v' := .bool true) (rn_geq (fr.ev rfl) (fr.ev rfl)) (congrArg Value.bool (decide_eq_true (by omega)))) rfl rfl ?_)
    intro a fr
    refine lst rfl (ow_v fr (rn_pick_t (fr.ev rfl) (fr.ev rfl)) rfl rfl ?_)
    intro a fr
    refine lst rfl (ow_v fr (rn_move (fr.ev rfl)) rfl rfl ?_)
    intro a fr
    refine lst_y (wanted_of fr rfl rfl rfl rfl) (ow_v fr (rn_move (fr.ev rfl)) rfl rfl ?_)
    intro a fr
    refine lst_y (wanted_of fr rfl rfl rfl rfl) (ow_v fr (rn_move (fr.ev rfl)) rfl rfl ?_)
    intro a fr
    refine lst_y (wanted_of fr rfl rfl rfl rfl) (ow_v fr (rn_nilCheck (fr.ev rfl)) rfl rfl ?_)
    intro a fr
    refine lst_y (wanted_of fr rfl rfl rfl rfl) (ow_v fr (fa_48_0 (fr.ev rfl)) rfl rfl ?_)
    intro a fr
    refine lst_y (wanted_of fr rfl rfl rfl rfl) (ow_v fr (rn_load (fr.ev rfl) Try.underlying45 rfl (st.rocell 0 rfl (j := 0) rfl)) rfl rfl ?_)
    intro a fr
    refine lst_y (wanted_of fr rfl rfl rfl rfl) (ow_v fr (rn_len (fr.ev rfl) Try.underlying45) rfl rfl ?_)
    intro a fr
    refine lst_y (wanted_of fr rfl rfl rfl rfl) (ow_v fr (rn_as (v' := .bool false) (rn_lss (fr.ev rfl) (fr.ev rfl)) (congrArg Value.bool (decide_eq_false (by omega)))) rfl rfl ?_)
    intro a fr
    refine lst rfl (ow_v fr (rn_pick_t (fr.ev rfl) (fr.ev rfl)) rfl rfl ?_)
    intro a fr
    refine lst rfl (ow_v fr (rn_assign (fr.ev rfl)) rfl rfl ?_)
    intro a fr
    refine wpList_nil ?_
    refine then_n ?_
    refine wp_ret ?_
    refine ret1 Try.results27 fr (rv_tmp fr rfl) ?_
    exact ⟨rfl, st.agr⟩
  · refine enter Try.func27 rfl Try.ntmps27 (by simp) ?_
    intro a fr
    refine wp_seq ?_
    refine reg ?_
    refine lst rfl (ow_v fr (rn_assign (fr.ev rfl)) rfl rfl ?_)
    intro a fr
    refine wpList_nil ?_
    refine then_n ?_
    refine wp_seq ?_
    refine reg ?_
    refine lst rfl (ow_v fr (rn_move (fr.ev rfl)) rfl rfl ?_)
    intro a fr
    refine lst rfl (ow_v fr (rn_neq_pn (fr.ev rfl) (fr.ev rfl) Try.underlying23) rfl rfl ?_)
    intro a fr
    refine lst rfl (ow_v fr (rn_move (fr.ev rfl)) rfl rfl ?_)
    intro a fr
    refine lst_y (wanted_of fr rfl rfl rfl rfl) (ow_v fr (rn_move (fr.ev rfl)) rfl rfl ?_)
    intro a fr
    refine lst_y (wanted_of fr rfl rfl rfl rfl) (ow_v fr (rn_as (v' := .bool false) (rn_geq (fr.ev rfl) (fr.ev rfl)) (congrArg Value.bool (decide_eq_false (by omega)))) rfl rfl ?_)
    intro a fr
    refine lst rfl (ow_v fr (rn_pick_t (fr.ev rfl) (fr.ev rfl)) rfl rfl ?_)
    intro a fr
    refine lst rfl (ow_v fr (rn_move (fr.ev rfl)) rfl rfl ?_)
    intro a fr
    refine lst_n (unwanted_of fr rfl rfl rfl rfl) fr rfl rfl ?_
    intro a fr
    refine lst_n (unwanted_of fr rfl rfl rfl rfl) fr rfl rfl ?_
    intro a fr
    refine lst_n (unwanted_of fr rfl rfl rfl rfl) fr rfl rfl ?_
    intro a fr
    refine lst_n (unwanted_of fr rfl rfl rfl rfl) fr rfl rfl ?_
    intro a fr
    refine lst_n (unwanted_of fr rfl rfl rfl rfl) fr rfl rfl ?_
    intro a fr
    refine lst_n (unwanted_of fr rfl rfl rfl rfl) fr rfl rfl ?_
    intro a fr
    refine lst_n (unwanted_of fr rfl rfl rfl rfl) fr rfl rfl ?_
    intro a fr
    refine lst rfl (ow_v fr (rn_pick_f (fr.ev rfl) (fr.ev rfl)) rfl rfl ?_)
    intro a fr
    refine lst rfl (ow_v fr (rn_assign (fr.ev rfl)) rfl rfl ?_)
    intro a fr
    refine wpList_nil ?_
    refine then_n ?_
    refine wp_ret ?_
    refine ret1 Try.results27 fr (rv_tmp fr rfl) ?_
    exact ⟨rfl, st.agr⟩

theorem len_calls (g m : Nat) (A1 A2 : Option Addr) (c1 c2 : Nat) (ns : List ByteArray) (ss : List Int) (w0 : World) (hok : HOk g m A1 A2 c1 c2 ns ss w0) : Calls Try.prog 9 #[.pointer (some ⟨g, 0, none⟩)] w0 fun e w' => e = .returned (.int .i64 (ns.length : Nat)) ∧ Agr [] w0 w' := by
  have st : St w0 [] w0 [ro g 0 [.slice A1 ns.length c1, .slice A2 ss.length c2, (.map (some m))], els CS 1 A1 ns, els CI 1 A2 ss, mapRo kS vN m ((mL ns))] := hok.st
  clear hok
  refine enter Try.func9 rfl Try.ntmps9 (by simp) ?_
  intro a fr
  refine wp_seq ?_
  refine reg ?_
  refine lst rfl (ow_v fr (rn_assign (fr.ev rfl)) rfl rfl ?_)
  intro a fr
  refine wpList_nil ?_
  refine then_n ?_
  refine wp_seq ?_
  refine wp_seq ?_
  refine reg ?_
  refine lst rfl (ow_v fr (rn_move (fr.ev rfl)) rfl rfl ?_)
  intro a fr
  refine lst rfl (ow_v fr (rn_eql_pn (fr.ev rfl) (fr.ev rfl) Try.underlying23) rfl rfl ?_)
  intro a fr
  refine wpList_nil ?_
  refine then_n ?_
  refine cond_f fr rfl rfl ?_
  refine wp_skip ?_
  refine then_n ?_
  refine wp_seq ?_
  refine reg ?_
  refine lst rfl (ow_v fr (rn_move (fr.ev rfl)) rfl rfl ?_)
  intro a fr
  refine lst rfl (ow_v fr (rn_nilCheck (fr.ev rfl)) rfl rfl ?_)
  intro a fr
  refine lst rfl (ow_v fr (fa_48_0 (fr.ev rfl)) rfl rfl ?_)
  intro a fr
  refine lst rfl (ow_v fr (rn_load (fr.ev rfl) Try.underlying45 rfl (st.rocell 0 rfl (j := 0) rfl)) rfl rfl ?_)
  intro a fr
  refine lst rfl (ow_v fr (rn_len (fr.ev rfl) Try.underlying45) rfl rfl ?_)
  intro a fr
  refine lst rfl (ow_v fr (rn_assign (fr.ev rfl)) rfl rfl ?_)
  intro a fr
  refine wpList_nil ?_
  refine then_n ?_
  refine wp_ret ?_
  refine ret1 Try.results9 fr (rv_tmp fr rfl) ?_
  exact ⟨rfl, st.agr⟩

theorem super_t (g m : Nat) (A1 A2 : Option Addr) (c1 c2 : Nat) (ns : List ByteArray) (ss : List Int) (hf : HF ns.length ss) (q : Nat) (h : q < ns.length) (w0 : World) (hok : HOk g m A1 A2 c1 c2 ns ss w0) : Calls Try.prog 11 #[.pointer (some ⟨g, 0, none⟩), .int .i64 (q : Nat)] w0 fun e w' => (∃ y, e = .returned (.int .i64 y) ∧ ss[q]? = some y) ∧ Agr [] w0 w' := by
  have st : St w0 [] w0 [ro g 0 [.slice A1 ns.length c1, .slice A2 ss.length c2, (.map (some m))], els CS 1 A1 ns, els CI 1 A2 ss, mapRo kS vN m ((mL ns))] := hok.st
  clear hok
  refine enter Try.func11 rfl Try.ntmps11 (by simp) ?_
  intro a fr
  refine wp_seq ?_
  refine reg ?_
  refine lst rfl (ow_v fr (rn_assign (fr.ev rfl)) rfl rfl ?_)
  intro a fr
  refine wpList_nil ?_
  refine then_n ?_
  refine wp_seq ?_
  refine wp_seq ?_
  refine reg ?_
  refine lst rfl (ow_v fr (rn_move (fr.ev rfl)) rfl rfl ?_)
  intro a fr
  refine lst rfl (ow_v fr (rn_move (fr.ev rfl)) rfl rfl ?_)
  intro a fr
  refine lst rfl (ow_call fr rfl rfl Try.call27 (is_t g m _ _ c1 c2 ns ss ((q : Nat)) (by omega) _ (hok4 (st.get 0 rfl) (st.get 1 rfl) (st.get 2 rfl) (st.get 3 rfl))) rfl rfl ?_)
  rintro e w ⟨rfl, hag⟩
  refine ⟨_, rfl, ?_⟩
  intro a fr
  have st := st.keep hag
  clear hag
  refine lst rfl (ow_v fr (rn_not (fr.ev rfl)) rfl rfl ?_)
  intro a fr
  refine wpList_nil ?_
  refine then_n ?_
  refine cond_f fr rfl rfl ?_
  refine wp_skip ?_
  refine then_n ?_
  refine wp_seq ?_
  refine reg ?_
  refine lst rfl (ow_v fr (rn_move (fr.ev rfl)) rfl rfl ?_)
  intro a fr
  refine lst rfl (ow_v fr (rn_nilCheck (fr.ev rfl)) rfl rfl ?_)
  intro a fr
  refine lst rfl (ow_v fr (fa_48_1 (fr.ev rfl)) rfl rfl ?_)
  intro a fr
  refine lst rfl (ow_v fr (rn_load (fr.ev rfl) Try.underlying43 rfl (st.rocell 0 rfl (j := 1) rfl)) rfl rfl ?_)
  intro a fr
  refine lst rfl (ow_v fr (rn_move (fr.ev rfl)) rfl rfl ?_)
  intro a fr
  have hqs : q < ss.length := by have := hf.len; omega
  obtain ⟨b1, o2, eA, st⟩ := st.elem 2 rfl q (by have := hf.len; omega) (by simp [CI])
  cases eA
  obtain ⟨y, hx_ss_y⟩ : ∃ y, ss[q] = y := ⟨_, rfl⟩
  rw [hx_ss_y] at st
  replace st : St _ [] w [ro b1 (o2 + q * 1) [.int .i64 (y)], ro g 0 [.slice A1 ns.length c1, .slice (some ⟨b1, o2, none⟩) ss.length c2, (.map (some m))], els CS 1 A1 ns, els CI 1 (some ⟨b1, o2, none⟩) ss, mapRo kS vN m ((mL ns))] := st
  refine lst rfl (ow_v fr (rn_at (i := q) (fr.ev rfl) (fr.ev rfl) Try.underlying43 sz_3 (by have := hf.len; omega) (by rfl)) rfl rfl ?_)
  intro a fr
  refine lst rfl (ow_v fr (rn_load (fr.ev rfl) Try.underlying3 rfl (st.rocell 0 rfl (j := 0) rfl)) rfl rfl ?_)
  intro a fr
  refine lst rfl (ow_v fr (rn_assign (fr.ev rfl)) rfl rfl ?_)
  intro a fr
  refine wpList_nil ?_
  refine then_n ?_
  refine wp_ret ?_
  refine ret1 Try.results11 fr (rv_tmp fr rfl) ?_
  exact ⟨⟨y, rfl, by rw [List.getElem?_eq_getElem (by have := hf.len; omega), hx_ss_y]⟩, st.agr⟩

theorem under_calls (g m : Nat) (A1 A2 : Option Addr) (c1 c2 : Nat) (ns : List ByteArray) (ss : List Int) (hf : HF ns.length ss) (p1 p2 : Int) (w0 : World) (hok : HOk g m A1 A2 c1 c2 ns ss w0) : Calls Try.prog 10 #[.pointer (some ⟨g, 0, none⟩), .int .i64 p1, .int .i64 p2] w0 fun e w' => (∃ r, e = .returned (.bool r) ∧ (r = true ↔ UndP ns.length ss p1 p2)) ∧ Agr [] w0 w' := by
  have st : St w0 [] w0 [ro g 0 [.slice A1 ns.length c1, .slice A2 ss.length c2, (.map (some m))], els CS 1 A1 ns, els CI 1 A2 ss, mapRo kS vN m ((mL ns))] := hok.st
  clear hok
  by_cases ha : 0 ≤ p1 ∧ p1 < ns.length
  · by_cases hb : 0 ≤ p2 ∧ p2 < ns.length
    · refine enter Try.func10 rfl Try.ntmps10 (by simp) ?_
      intro a fr
      refine wp_seq ?_
      refine reg ?_
      refine lst rfl (ow_v fr (rn_assign (fr.ev rfl)) rfl rfl ?_)
      intro a fr
      refine wpList_nil ?_
      refine then_n ?_
      refine wp_seq ?_
      refine wp_seq ?_
      refine reg ?_
      refine lst rfl (ow_v fr (rn_move (fr.ev rfl)) rfl rfl ?_)
      intro a fr
      refine lst rfl (ow_v fr (rn_move (fr.ev rfl)) rfl rfl ?_)
      intro a fr
      refine lst rfl (ow_call fr rfl rfl Try.call27 (is_t g m _ _ c1 c2 ns ss (p1) (ha) _ (hok4 (st.get 0 rfl) (st.get 1 rfl) (st.get 2 rfl) (st.get 3 rfl))) rfl rfl ?_)
      rintro e w ⟨rfl, hag⟩
      refine ⟨_, rfl, ?_⟩
      intro a fr
      have st := st.keep hag
      clear hag
      refine lst rfl (ow_v fr (rn_not (fr.ev rfl)) rfl rfl ?_)
      intro a fr
      refine lst rfl (ow_v fr (rn_move (fr.ev rfl)) rfl rfl ?_)
      intro a fr
      refine lst_y (wanted_of fr rfl rfl rfl rfl) (ow_v fr (rn_move (fr.ev rfl)) rfl rfl ?_)
      intro a fr
      refine lst_y (wanted_of fr rfl rfl rfl rfl) (ow_v fr (rn_move (fr.ev rfl)) rfl rfl ?_)
      intro a fr
      refine lst_y (wanted_of fr rfl rfl rfl rfl) (ow_call fr rfl rfl Try.call27 (is_t g m _ _ c1 c2 ns ss (p2) (hb) _ (hok4 (st.get 0 rfl) (st.get 1 rfl) (st.get 2 rfl) (st.get 3 rfl))) rfl rfl ?_)
      rintro e w ⟨rfl, hag⟩
      refine ⟨_, rfl, ?_⟩
      intro a fr
      have st := st.keep hag
      clear hag
      refine lst_y (wanted_of fr rfl rfl rfl rfl) (ow_v fr (rn_not (fr.ev rfl)) rfl rfl ?_)
      intro a fr
      refine lst rfl (ow_v fr (rn_pick_f (fr.ev rfl) (fr.ev rfl)) rfl rfl ?_)
      intro a fr
      refine wpList_nil ?_
      refine then_n ?_
      refine cond_f fr rfl rfl ?_
      refine wp_skip ?_
      refine then_n ?_
      refine wp_seq ?_
      refine wp_block ?_
      obtain ⟨d, hd⟩ := hf.end_ ha.1 ha.2
      refine wp_loop_ghost (fun mz a w => ∃ (i : Nat) (x : Int), (itS ss i p1 = x) ∧ (∀ j : Nat, j < i → itS ss j p1 ≠ p2) ∧ mz = d - i ∧ FrL 34 a [(0, .pointer (some ⟨g, 0, none⟩)), (1, .int .i64 (x)), (2, .int .i64 (p2))] ∧ St w0 [] w [ro g 0 [.slice A1 ns.length c1, .slice A2 ss.length c2, (.map (some m))], els CS 1 A1 ns, els CI 1 A2 ss, mapRo kS vN m ((mL ns))]) _ ⟨0, p1, (rfl), (fun j h => absurd h (Nat.not_lt_zero _)), rfl, fr.prune ⟨rfl, rfl, rfl, trivial⟩, st⟩ ?_
      clear fr st
      intro mz a w hI
      obtain ⟨i, x, hc, hpos, hmz, fr, st⟩ := hI
      have hbd := (itS_neg hf (by omega) ha.2 i).1
      rw [hc] at hbd
      by_cases hx0 : x < 0
      · have hno : ¬ UndP ns.length ss p1 p2 := fun ⟨_, _, j, hj⟩ => by rcases Nat.lt_or_ge j i with h | h; exact (hpos j h hj); have := itS_mono hf (by omega) ha.2 (d := i) (by omega) j h; omega
        refine wp_seq ?_
        refine wp_seq ?_
        refine reg ?_
        refine lst rfl (ow_v fr (rn_move (fr.ev rfl)) rfl rfl ?_)
        intro a fr
        refine lst rfl (ow_v fr (rn_as (v' := .bool false) (rn_geq (fr.ev rfl) (fr.ev rfl)) (congrArg Value.bool (decide_eq_false (by omega)))) rfl rfl ?_)
        intro a fr
        refine lst rfl (ow_v fr (rn_move (fr.ev rfl)) rfl rfl ?_)
        intro a fr
        refine lst_n (unwanted_of fr rfl rfl rfl rfl) fr rfl rfl ?_
        intro a fr
        refine lst_n (unwanted_of fr rfl rfl rfl rfl) fr rfl rfl ?_
        intro a fr
        refine lst_n (unwanted_of fr rfl rfl rfl rfl) fr rfl rfl ?_
        intro a fr
        refine lst rfl (ow_v fr (rn_pick_f (fr.ev rfl) (fr.ev rfl)) rfl rfl ?_)
        intro a fr
        refine wpList_nil ?_
        refine then_n ?_
        refine cond_f fr rfl rfl ?_
        refine wp_exit ?_
        refine then_x ?_
        refine then_x ?_
        refine blk_x ?_
        refine then_n ?_
        refine wp_seq ?_
        refine reg ?_
        refine lst rfl (ow_v fr (rn_move (fr.ev rfl)) rfl rfl ?_)
        intro a fr
        refine lst rfl (ow_v fr (rn_move (fr.ev rfl)) rfl rfl ?_)
        intro a fr
        refine lst rfl (ow_v fr (rn_as (v' := .bool false) (rn_eql (fr.ev rfl) (fr.ev rfl)) (congrArg Value.bool (by simp; omega))) rfl rfl ?_)
        intro a fr
        refine lst rfl (ow_v fr (rn_assign (fr.ev rfl)) rfl rfl ?_)
        intro a fr
        refine wpList_nil ?_
        refine then_n ?_
        refine wp_ret ?_
        refine ret1 Try.results10 fr (rv_tmp fr rfl) ?_
        exact ⟨⟨_, rfl, by first | exact ⟨fun _ => hyes, fun _ => rfl⟩ | exact ⟨(fun h => by cases h), fun h => absurd h hno⟩⟩, st.agr⟩
      · by_cases hxb : x = p2
        · have hyes : UndP ns.length ss p1 p2 := ⟨ha, hb, i, by omega⟩
          refine wp_seq ?_
          refine wp_seq ?_
          refine reg ?_
          refine lst rfl (ow_v fr (rn_move (fr.ev rfl)) rfl rfl ?_)
          intro a fr
          refine lst rfl (ow_v fr (rn_as (v' := .bool true) (rn_geq (fr.ev rfl) (fr.ev rfl)) (congrArg Value.bool (decide_eq_true (by omega)))) rfl rfl ?_)
          intro a fr
          refine lst rfl (ow_v fr (rn_move (fr.ev rfl)) rfl rfl ?_)
          intro a fr
          refine lst_y (wanted_of fr rfl rfl rfl rfl) (ow_v fr (rn_move (fr.ev rfl)) rfl rfl ?_)
          intro a fr
          refine lst_y (wanted_of fr rfl rfl rfl rfl) (ow_v fr (rn_move (fr.ev rfl)) rfl rfl ?_)
          intro a fr
          refine lst_y (wanted_of fr rfl rfl rfl rfl) (ow_v fr (rn_as (v' := .bool false) (rn_neq (fr.ev rfl) (fr.ev rfl)) (congrArg Value.bool (by simp [hxb]))) rfl rfl ?_)
          intro a fr
          refine lst rfl (ow_v fr (rn_pick_t (fr.ev rfl) (fr.ev rfl)) rfl rfl ?_)
          intro a fr
          refine wpList_nil ?_
          refine then_n ?_
          refine cond_f fr rfl rfl ?_
          refine wp_exit ?_
          refine then_x ?_
          refine then_x ?_
          refine blk_x ?_
          refine then_n ?_
          refine wp_seq ?_
          refine reg ?_
          refine lst rfl (ow_v fr (rn_move (fr.ev rfl)) rfl rfl ?_)
          intro a fr
          refine lst rfl (ow_v fr (rn_move (fr.ev rfl)) rfl rfl ?_)
          intro a fr
          refine lst rfl (ow_v fr (rn_as (v' := .bool true) (rn_eql (fr.ev rfl) (fr.ev rfl)) (congrArg Value.bool (by simp [hxb]))) rfl rfl ?_)
          intro a fr
          refine lst rfl (ow_v fr (rn_assign (fr.ev rfl)) rfl rfl ?_)
          intro a fr
          refine wpList_nil ?_
          refine then_n ?_
          refine wp_ret ?_
          refine ret1 Try.results10 fr (rv_tmp fr rfl) ?_
          exact ⟨⟨_, rfl, by first | exact ⟨fun _ => hyes, fun _ => rfl⟩ | exact ⟨(fun h => by cases h), fun h => absurd h hno⟩⟩, st.agr⟩
        · obtain ⟨q, rfl⟩ := Int.eq_ofNat_of_zero_le (by omega : 0 ≤ x)
          have hid := itS_lt hf (by omega) ha.2 (i := i) hd (by omega)
          refine wp_seq ?_
          refine wp_seq ?_
          refine reg ?_
          refine lst rfl (ow_v fr (rn_move (fr.ev rfl)) rfl rfl ?_)
          intro a fr
          refine lst rfl (ow_v fr (rn_as (v' := .bool true) (rn_geq (fr.ev rfl) (fr.ev rfl)) (congrArg Value.bool (decide_eq_true (by omega)))) rfl rfl ?_)
          intro a fr
          refine lst rfl (ow_v fr (rn_move (fr.ev rfl)) rfl rfl ?_)
          intro a fr
          refine lst_y (wanted_of fr rfl rfl rfl rfl) (ow_v fr (rn_move (fr.ev rfl)) rfl rfl ?_)
          intro a fr
          refine lst_y (wanted_of fr rfl rfl rfl rfl) (ow_v fr (rn_move (fr.ev rfl)) rfl rfl ?_)
          intro a fr
          refine lst_y (wanted_of fr rfl rfl rfl rfl) (ow_v fr (rn_as (v' := .bool true) (rn_neq (fr.ev rfl) (fr.ev rfl)) (congrArg Value.bool (by simp [hxb]))) rfl rfl ?_)
          intro a fr
          refine lst rfl (ow_v fr (rn_pick_t (fr.ev rfl) (fr.ev rfl)) rfl rfl ?_)
          intro a fr
          refine wpList_nil ?_
          refine then_n ?_
          refine cond_t fr rfl rfl ?_
          refine wp_skip ?_
          refine then_n ?_
          refine wp_block ?_
          refine reg ?_
          refine lst rfl (ow_v fr (rn_move (fr.ev rfl)) rfl rfl ?_)
          intro a fr
          refine lst rfl (ow_v fr (rn_nilCheck (fr.ev rfl)) rfl rfl ?_)
          intro a fr
          refine lst rfl (ow_v fr (fa_48_1 (fr.ev rfl)) rfl rfl ?_)
          intro a fr
          refine lst rfl (ow_v fr (rn_load (fr.ev rfl) Try.underlying43 rfl (st.rocell 0 rfl (j := 1) rfl)) rfl rfl ?_)
          intro a fr
          refine lst rfl (ow_v fr (rn_move (fr.ev rfl)) rfl rfl ?_)
          intro a fr
          have hqs : q < ss.length := by have := hf.len; omega
          obtain ⟨b1, o2, eA, st⟩ := st.elem 2 rfl q (by have := hf.len; omega) (by simp [CI])
          cases eA
          obtain ⟨y, hx_ss_y⟩ : ∃ y, ss[q] = y := ⟨_, rfl⟩
          rw [hx_ss_y] at st
          replace st : St _ [] w [ro b1 (o2 + q * 1) [.int .i64 (y)], ro g 0 [.slice A1 ns.length c1, .slice (some ⟨b1, o2, none⟩) ss.length c2, (.map (some m))], els CS 1 A1 ns, els CI 1 (some ⟨b1, o2, none⟩) ss, mapRo kS vN m ((mL ns))] := st
          refine lst rfl (ow_v fr (rn_at (i := q) (fr.ev rfl) (fr.ev rfl) Try.underlying43 sz_3 (by have := hf.len; omega) (by rfl)) rfl rfl ?_)
          intro a fr
          refine lst rfl (ow_v fr (rn_load (fr.ev rfl) Try.underlying3 rfl (st.rocell 0 rfl (j := 0) rfl)) rfl rfl ?_)
          intro a fr
          refine lst rfl (ow_v fr (rn_assign (fr.ev rfl)) rfl rfl ?_)
          intro a fr
          refine wpList_nil ?_
          refine blk_n ?_
          refine then_n ⟨d - (i + 1), ?_, i + 1, y, (itS_succ hc (by have := hf.len; omega) hx_ss_y), (fun j hj => by rcases (by omega : j < i ∨ j = i) with h | rfl; exact hpos j h; rw [hc]; exact hxb), rfl, fr.prune ⟨rfl, rfl, rfl, trivial⟩, st.sub (.cons _ (.cons_cons _ (.cons_cons _ (.cons_cons _ (.cons_cons _ .slnil)))))⟩
          omega
    · have hno : ¬ UndP ns.length ss p1 p2 := fun h => hb h.2.1
      refine enter Try.func10 rfl Try.ntmps10 (by simp) ?_
      intro a fr
      refine wp_seq ?_
      refine reg ?_
      refine lst rfl (ow_v fr (rn_assign (fr.ev rfl)) rfl rfl ?_)
      intro a fr
      refine wpList_nil ?_
      refine then_n ?_
      refine wp_seq ?_
      refine wp_seq ?_
      refine reg ?_
      refine lst rfl (ow_v fr (rn_move (fr.ev rfl)) rfl rfl ?_)
      intro a fr
      refine lst rfl (ow_v fr (rn_move (fr.ev rfl)) rfl rfl ?_)
      intro a fr
      refine lst rfl (ow_call fr rfl rfl Try.call27 (is_t g m _ _ c1 c2 ns ss (p1) (ha) _ (hok4 (st.get 0 rfl) (st.get 1 rfl) (st.get 2 rfl) (st.get 3 rfl))) rfl rfl ?_)
      rintro e w ⟨rfl, hag⟩
      refine ⟨_, rfl, ?_⟩
      intro a fr
      have st := st.keep hag
      clear hag
      refine lst rfl (ow_v fr (rn_not (fr.ev rfl)) rfl rfl ?_)
      intro a fr
      refine lst rfl (ow_v fr (rn_move (fr.ev rfl)) rfl rfl ?_)
      intro a fr
      refine lst_y (wanted_of fr rfl rfl rfl rfl) (ow_v fr (rn_move (fr.ev rfl)) rfl rfl ?_)
      intro a fr
      refine lst_y (wanted_of fr rfl rfl rfl rfl) (ow_v fr (rn_move (fr.ev rfl)) rfl rfl ?_)
      intro a fr
      refine lst_y (wanted_of fr rfl rfl rfl rfl) (ow_call fr rfl rfl Try.call27 (is_f g m _ _ c1 c2 ns ss (p2) (hb) _ (hok4 (st.get 0 rfl) (st.get 1 rfl) (st.get 2 rfl) (st.get 3 rfl))) rfl rfl ?_)
      rintro e w ⟨rfl, hag⟩
      refine ⟨_, rfl, ?_⟩
      intro a fr
      have st := st.keep hag
      clear hag
      refine lst_y (wanted_of fr rfl rfl rfl rfl) (ow_v fr (rn_not (fr.ev rfl)) rfl rfl ?_)
      intro a fr
      refine lst rfl (ow_v fr (rn_pick_f (fr.ev rfl) (fr.ev rfl)) rfl rfl ?_)
      intro a fr
      refine wpList_nil ?_
      refine then_n ?_
      refine cond_t fr rfl rfl ?_
      refine wp_seq ?_
      refine reg ?_
      refine lst rfl (ow_v fr (rn_assign (fr.ev rfl)) rfl rfl ?_)
      intro a fr
      refine wpList_nil ?_
      refine then_n ?_
      refine wp_ret ?_
      refine then_r ?_
      refine ret1 Try.results10 fr (rv_tmp fr rfl) ?_
      exact ⟨⟨_, rfl, by first | exact ⟨fun _ => hyes, fun _ => rfl⟩ | exact ⟨(fun h => by cases h), fun h => absurd h hno⟩⟩, st.agr⟩
  · have hno : ¬ UndP ns.length ss p1 p2 := fun h => ha h.1
    refine enter Try.func10 rfl Try.ntmps10 (by simp) ?_
    intro a fr
    refine wp_seq ?_
    refine reg ?_
    refine lst rfl (ow_v fr (rn_assign (fr.ev rfl)) rfl rfl ?_)
    intro a fr
    refine wpList_nil ?_
    refine then_n ?_
    refine wp_seq ?_
    refine wp_seq ?_
    refine reg ?_
    refine lst rfl (ow_v fr (rn_move (fr.ev rfl)) rfl rfl ?_)
    intro a fr
    refine lst rfl (ow_v fr (rn_move (fr.ev rfl)) rfl rfl ?_)
    intro a fr
    refine lst rfl (ow_call fr rfl rfl Try.call27 (is_f g m _ _ c1 c2 ns ss (p1) (ha) _ (hok4 (st.get 0 rfl) (st.get 1 rfl) (st.get 2 rfl) (st.get 3 rfl))) rfl rfl ?_)
    rintro e w ⟨rfl, hag⟩
    refine ⟨_, rfl, ?_⟩
    intro a fr
    have st := st.keep hag
    clear hag
    refine lst rfl (ow_v fr (rn_not (fr.ev rfl)) rfl rfl ?_)
    intro a fr
    refine lst rfl (ow_v fr (rn_move (fr.ev rfl)) rfl rfl ?_)
    intro a fr
    refine lst_n (unwanted_of fr rfl rfl rfl rfl) fr rfl rfl ?_
    intro a fr
    refine lst_n (unwanted_of fr rfl rfl rfl rfl) fr rfl rfl ?_
    intro a fr
    refine lst_n (unwanted_of fr rfl rfl rfl rfl) fr rfl rfl ?_
    intro a fr
    refine lst_n (unwanted_of fr rfl rfl rfl rfl) fr rfl rfl ?_
    intro a fr
    refine lst rfl (ow_v fr (rn_pick_t (fr.ev rfl) (fr.ev rfl)) rfl rfl ?_)
    intro a fr
    refine wpList_nil ?_
    refine then_n ?_
    refine cond_t fr rfl rfl ?_
    refine wp_seq ?_
    refine reg ?_
    refine lst rfl (ow_v fr (rn_assign (fr.ev rfl)) rfl rfl ?_)
    intro a fr
    refine wpList_nil ?_
    refine then_n ?_
    refine wp_ret ?_
    refine then_r ?_
    refine ret1 Try.results10 fr (rv_tmp fr rfl) ?_
    exact ⟨⟨_, rfl, by first | exact ⟨fun _ => hyes, fun _ => rfl⟩ | exact ⟨(fun h => by cases h), fun h => absurd h hno⟩⟩, st.agr⟩

theorem under_t (g m : Nat) (A1 A2 : Option Addr) (c1 c2 : Nat) (ns : List ByteArray) (ss : List Int) (hf : HF ns.length ss) (p1 p2 : Int) (h : UndP ns.length ss p1 p2) (w0 : World) (hok : HOk g m A1 A2 c1 c2 ns ss w0) : Calls Try.prog 10 #[.pointer (some ⟨g, 0, none⟩), .int .i64 p1, .int .i64 p2] w0 fun e w' => e = .returned (.bool true) ∧ Agr [] w0 w' :=
  (under_calls g m A1 A2 c1 c2 ns ss hf p1 p2 w0 hok).mono fun e w' ⟨⟨r, h1, h2⟩, h3⟩ => ⟨by cases r <;> simp_all, h3⟩

theorem under_f (g m : Nat) (A1 A2 : Option Addr) (c1 c2 : Nat) (ns : List ByteArray) (ss : List Int) (hf : HF ns.length ss) (p1 p2 : Int) (h : ¬ UndP ns.length ss p1 p2) (w0 : World) (hok : HOk g m A1 A2 c1 c2 ns ss w0) : Calls Try.prog 10 #[.pointer (some ⟨g, 0, none⟩), .int .i64 p1, .int .i64 p2] w0 fun e w' => e = .returned (.bool false) ∧ Agr [] w0 w' :=
  (under_calls g m A1 A2 c1 c2 ns ss hf p1 p2 w0 hok).mono fun e w' ⟨⟨r, h1, h2⟩, h3⟩ => ⟨by cases r <;> simp_all, h3⟩

theorem common_t (g m : Nat) (A1 A2 : Option Addr) (c1 c2 : Nat) (ns : List ByteArray) (ss : List Int) (hf : HF ns.length ss) (p1 p2 : Int) (ha : 0 ≤ p1 ∧ p1 < ns.length) (hb : 0 ≤ p2 ∧ p2 < ns.length) (w0 : World) (hok : HOk g m A1 A2 c1 c2 ns ss w0) : Calls Try.prog 13 #[.pointer (some ⟨g, 0, none⟩), .int .i64 p1, .int .i64 p2] w0 fun e w' => (∃ c, e = .returned (.int .i64 c) ∧ ∃ i, itS ss i p1 = c ∧ UndP ns.length ss p2 c ∧ ∀ j, j < i → ¬ UndP ns.length ss p2 (itS ss j p1)) ∧ Agr [] w0 w' := by
  have st : St w0 [] w0 [ro g 0 [.slice A1 ns.length c1, .slice A2 ss.length c2, (.map (some m))], els CS 1 A1 ns, els CI 1 A2 ss, mapRo kS vN m ((mL ns))] := hok.st
  clear hok
  refine enter Try.func13 rfl Try.ntmps13 (by simp) ?_
  intro a fr
  refine wp_seq ?_
  refine reg ?_
  refine lst rfl (ow_v fr (rn_assign (fr.ev rfl)) rfl rfl ?_)
  intro a fr
  refine wpList_nil ?_
  refine then_n ?_
  refine wp_seq ?_
  refine wp_seq ?_
  refine reg ?_
  refine lst rfl (ow_v fr (rn_move (fr.ev rfl)) rfl rfl ?_)
  intro a fr
  refine lst rfl (ow_v fr (rn_move (fr.ev rfl)) rfl rfl ?_)
  intro a fr
  refine lst rfl (ow_call fr rfl rfl Try.call27 (is_t g m _ _ c1 c2 ns ss (p1) (ha) _ (hok4 (st.get 0 rfl) (st.get 1 rfl) (st.get 2 rfl) (st.get 3 rfl))) rfl rfl ?_)
  rintro e w ⟨rfl, hag⟩
  refine ⟨_, rfl, ?_⟩
  intro a fr
  have st := st.keep hag
  clear hag
  refine lst rfl (ow_v fr (rn_not (fr.ev rfl)) rfl rfl ?_)
  intro a fr
  refine lst rfl (ow_v fr (rn_move (fr.ev rfl)) rfl rfl ?_)
  intro a fr
  refine lst_y (wanted_of fr rfl rfl rfl rfl) (ow_v fr (rn_move (fr.ev rfl)) rfl rfl ?_)
  intro a fr
  refine lst_y (wanted_of fr rfl rfl rfl rfl) (ow_v fr (rn_move (fr.ev rfl)) rfl rfl ?_)
  intro a fr
  refine lst_y (wanted_of fr rfl rfl rfl rfl) (ow_call fr rfl rfl Try.call27 (is_t g m _ _ c1 c2 ns ss (p2) (hb) _ (hok4 (st.get 0 rfl) (st.get 1 rfl) (st.get 2 rfl) (st.get 3 rfl))) rfl rfl ?_)
  rintro e w ⟨rfl, hag⟩
  refine ⟨_, rfl, ?_⟩
  intro a fr
  have st := st.keep hag
  clear hag
  refine lst_y (wanted_of fr rfl rfl rfl rfl) (ow_v fr (rn_not (fr.ev rfl)) rfl rfl ?_)
  intro a fr
  refine lst rfl (ow_v fr (rn_pick_f (fr.ev rfl) (fr.ev rfl)) rfl rfl ?_)
  intro a fr
  refine wpList_nil ?_
  refine then_n ?_
  refine cond_f fr rfl rfl ?_
  refine wp_skip ?_
  refine then_n ?_
  refine wp_seq ?_
  refine wp_block ?_
  obtain ⟨d, hd⟩ := hf.end_ ha.1 ha.2
  refine wp_loop_ghost (fun mz a w => ∃ (i : Nat) (x : Int), (itS ss i p1 = x) ∧ (0 ≤ x) ∧ (x < ns.length) ∧ (∀ j : Nat, j < i → ¬ UndP ns.length ss p2 (itS ss j p1)) ∧ mz = d - i ∧ FrL 30 a [(0, .pointer (some ⟨g, 0, none⟩)), (1, .int .i64 (x)), (2, .int .i64 (p2))] ∧ St w0 [] w [ro g 0 [.slice A1 ns.length c1, .slice A2 ss.length c2, (.map (some m))], els CS 1 A1 ns, els CI 1 A2 ss, mapRo kS vN m ((mL ns))]) _ ⟨0, p1, (rfl), (ha.1), (ha.2), (fun j h => absurd h (Nat.not_lt_zero _)), rfl, fr.prune ⟨rfl, rfl, rfl, trivial⟩, st⟩ ?_
  clear fr st
  intro mz a w hI
  obtain ⟨i, x, hc, hx0, hxL, hpos, hmz, fr, st⟩ := hI
  by_cases hu : UndP ns.length ss p2 x
  · refine wp_seq ?_
    refine wp_seq ?_
    refine reg ?_
    refine lst rfl (ow_v fr (rn_move (fr.ev rfl)) rfl rfl ?_)
    intro a fr
    refine lst rfl (ow_v fr (rn_move (fr.ev rfl)) rfl rfl ?_)
    intro a fr
    refine lst rfl (ow_v fr (rn_move (fr.ev rfl)) rfl rfl ?_)
    intro a fr
    refine lst rfl (ow_call fr rfl rfl Try.call10 (under_t g m _ _ c1 c2 ns ss hf p2 x (hu) _ (hok4 (st.get 0 rfl) (st.get 1 rfl) (st.get 2 rfl) (st.get 3 rfl))) rfl rfl ?_)
    rintro e w ⟨rfl, hag⟩
    refine ⟨_, rfl, ?_⟩
    intro a fr
    have st := st.keep hag
    clear hag
    refine lst rfl (ow_v fr (rn_not (fr.ev rfl)) rfl rfl ?_)
    intro a fr
    refine wpList_nil ?_
    refine then_n ?_
    refine cond_f fr rfl rfl ?_
    refine wp_exit ?_
    refine then_x ?_
    refine then_x ?_
    refine blk_x ?_
    refine then_n ?_
    refine wp_seq ?_
    refine reg ?_
    refine lst rfl (ow_v fr (rn_move (fr.ev rfl)) rfl rfl ?_)
    intro a fr
    refine lst rfl (ow_v fr (rn_assign (fr.ev rfl)) rfl rfl ?_)
    intro a fr
    refine wpList_nil ?_
    refine then_n ?_
    refine wp_ret ?_
    refine ret1 Try.results13 fr (rv_tmp fr rfl) ?_
    exact ⟨⟨x, rfl, i, hc, hu, hpos⟩, st.agr⟩
  · obtain ⟨q, rfl⟩ := Int.eq_ofNat_of_zero_le hx0
    have hid := itS_lt hf (by omega) ha.2 (i := i) hd (by omega)
    have hq0 : 0 < q := by rcases Nat.eq_zero_or_pos q with rfl | h; exact absurd (und_top hf hb.1 hb.2) hu; exact h
    have hqt := hf.top q (by have := hf.len; omega) hq0
    have hqr := hf.rng q (by have := hf.len; omega)
    refine wp_seq ?_
    refine wp_seq ?_
    refine reg ?_
    refine lst rfl (ow_v fr (rn_move (fr.ev rfl)) rfl rfl ?_)
    intro a fr
    refine lst rfl (ow_v fr (rn_move (fr.ev rfl)) rfl rfl ?_)
    intro a fr
    refine lst rfl (ow_v fr (rn_move (fr.ev rfl)) rfl rfl ?_)
    intro a fr
    refine lst rfl (ow_call fr rfl rfl Try.call10 (under_f g m _ _ c1 c2 ns ss hf p2 ((q : Nat)) (hu) _ (hok4 (st.get 0 rfl) (st.get 1 rfl) (st.get 2 rfl) (st.get 3 rfl))) rfl rfl ?_)
    rintro e w ⟨rfl, hag⟩
    refine ⟨_, rfl, ?_⟩
    intro a fr
    have st := st.keep hag
    clear hag
    refine lst rfl (ow_v fr (rn_not (fr.ev rfl)) rfl rfl ?_)
    intro a fr
    refine wpList_nil ?_
    refine then_n ?_
    refine cond_t fr rfl rfl ?_
    refine wp_skip ?_
    refine then_n ?_
    refine wp_block ?_
    refine reg ?_
    refine lst rfl (ow_v fr (rn_move (fr.ev rfl)) rfl rfl ?_)
    intro a fr
    refine lst rfl (ow_v fr (rn_nilCheck (fr.ev rfl)) rfl rfl ?_)
    intro a fr
    refine lst rfl (ow_v fr (fa_48_1 (fr.ev rfl)) rfl rfl ?_)
    intro a fr
    refine lst rfl (ow_v fr (rn_load (fr.ev rfl) Try.underlying43 rfl (st.rocell 0 rfl (j := 1) rfl)) rfl rfl ?_)
    intro a fr
    refine lst rfl (ow_v fr (rn_move (fr.ev rfl)) rfl rfl ?_)
    intro a fr
    have hqs : q < ss.length := by have := hf.len; omega
    obtain ⟨b1, o2, eA, st⟩ := st.elem 2 rfl q (by have := hf.len; omega) (by simp [CI])
    cases eA
    obtain ⟨y, hx_ss_y⟩ : ∃ y, ss[q] = y := ⟨_, rfl⟩
    rw [hx_ss_y] at st
    replace st : St _ [] w [ro b1 (o2 + q * 1) [.int .i64 (y)], ro g 0 [.slice A1 ns.length c1, .slice (some ⟨b1, o2, none⟩) ss.length c2, (.map (some m))], els CS 1 A1 ns, els CI 1 (some ⟨b1, o2, none⟩) ss, mapRo kS vN m ((mL ns))] := st
    refine lst rfl (ow_v fr (rn_at (i := q) (fr.ev rfl) (fr.ev rfl) Try.underlying43 sz_3 (by have := hf.len; omega) (by rfl)) rfl rfl ?_)
    intro a fr
    refine lst rfl (ow_v fr (rn_load (fr.ev rfl) Try.underlying3 rfl (st.rocell 0 rfl (j := 0) rfl)) rfl rfl ?_)
    intro a fr
    refine lst rfl (ow_v fr (rn_assign (fr.ev rfl)) rfl rfl ?_)
    intro a fr
    refine wpList_nil ?_
    refine blk_n ?_
    refine then_n ⟨d - (i + 1), ?_, i + 1, y, (itS_succ hc (by have := hf.len; omega) hx_ss_y), (hx_ss_y ▸ hqt), (hx_ss_y ▸ hqr.2), (fun j hj => by rcases (by omega : j < i ∨ j = i) with h | rfl; exact hpos j h; rw [hc]; exact hu), rfl, fr.prune ⟨rfl, rfl, rfl, trivial⟩, st.sub (.cons _ (.cons_cons _ (.cons_cons _ (.cons_cons _ (.cons_cons _ .slnil)))))⟩
    omega

theorem common_f (g m : Nat) (A1 A2 : Option Addr) (c1 c2 : Nat) (ns : List ByteArray) (ss : List Int) (p1 p2 : Int) (h : ¬ ((0 ≤ p1 ∧ p1 < ns.length) ∧ (0 ≤ p2 ∧ p2 < ns.length))) (w0 : World) (hok : HOk g m A1 A2 c1 c2 ns ss w0) : Calls Try.prog 13 #[.pointer (some ⟨g, 0, none⟩), .int .i64 p1, .int .i64 p2] w0 fun e w' => e = .returned (.int .i64 (-1)) ∧ Agr [] w0 w' := by
  have st : St w0 [] w0 [ro g 0 [.slice A1 ns.length c1, .slice A2 ss.length c2, (.map (some m))], els CS 1 A1 ns, els CI 1 A2 ss, mapRo kS vN m ((mL ns))] := hok.st
  clear hok
  by_cases ha : 0 ≤ p1 ∧ p1 < ns.length
  · have hb : ¬ (0 ≤ p2 ∧ p2 < ns.length) := fun h2 => h ⟨ha, h2⟩
    refine enter Try.func13 rfl Try.ntmps13 (by simp) ?_
    intro a fr
    refine wp_seq ?_
    refine reg ?_
    refine lst rfl (ow_v fr (rn_assign (fr.ev rfl)) rfl rfl ?_)
    intro a fr
    refine wpList_nil ?_
    refine then_n ?_
    refine wp_seq ?_
    refine wp_seq ?_
    refine reg ?_
    refine lst rfl (ow_v fr (rn_move (fr.ev rfl)) rfl rfl ?_)
    intro a fr
    refine lst rfl (ow_v fr (rn_move (fr.ev rfl)) rfl rfl ?_)
    intro a fr
    refine lst rfl (ow_call fr rfl rfl Try.call27 (is_t g m _ _ c1 c2 ns ss (p1) (ha) _ (hok4 (st.get 0 rfl) (st.get 1 rfl) (st.get 2 rfl) (st.get 3 rfl))) rfl rfl ?_)
    rintro e w ⟨rfl, hag⟩
    refine ⟨_, rfl, ?_⟩
    intro a fr
    have st := st.keep hag
    clear hag
    refine lst rfl (ow_v fr (rn_not (fr.ev rfl)) rfl rfl ?_)
    intro a fr
    refine lst rfl (ow_v fr (rn_move (fr.ev rfl)) rfl rfl ?_)
    intro a fr
    refine lst_y (wanted_of fr rfl rfl rfl rfl) (ow_v fr (rn_move (fr.ev rfl)) rfl rfl ?_)
    intro a fr
    refine lst_y (wanted_of fr rfl rfl rfl rfl) (ow_v fr (rn_move (fr.ev rfl)) rfl rfl ?_)
    intro a fr
    refine lst_y (wanted_of fr rfl rfl rfl rfl) (ow_call fr rfl rfl Try.call27 (is_f g m _ _ c1 c2 ns ss (p2) (hb) _ (hok4 (st.get 0 rfl) (st.get 1 rfl) (st.get 2 rfl) (st.get 3 rfl))) rfl rfl ?_)
    rintro e w ⟨rfl, hag⟩
    refine ⟨_, rfl, ?_⟩
    intro a fr
    have st := st.keep hag
    clear hag
    refine lst_y (wanted_of fr rfl rfl rfl rfl) (ow_v fr (rn_not (fr.ev rfl)) rfl rfl ?_)
    intro a fr
    refine lst rfl (ow_v fr (rn_pick_f (fr.ev rfl) (fr.ev rfl)) rfl rfl ?_)
    intro a fr
    refine wpList_nil ?_
    refine then_n ?_
    refine cond_t fr rfl rfl ?_
    refine wp_seq ?_
    refine reg ?_
    refine lst rfl (ow_v fr (rn_assign (fr.ev rfl)) rfl rfl ?_)
    intro a fr
    refine wpList_nil ?_
    refine then_n ?_
    refine wp_ret ?_
    refine then_r ?_
    refine ret1 Try.results13 fr (rv_tmp fr rfl) ?_
    exact ⟨rfl, st.agr⟩
  · refine enter Try.func13 rfl Try.ntmps13 (by simp) ?_
    intro a fr
    refine wp_seq ?_
    refine reg ?_
    refine lst rfl (ow_v fr (rn_assign (fr.ev rfl)) rfl rfl ?_)
    intro a fr
    refine wpList_nil ?_
    refine then_n ?_
    refine wp_seq ?_
    refine wp_seq ?_
    refine reg ?_
    refine lst rfl (ow_v fr (rn_move (fr.ev rfl)) rfl rfl ?_)
    intro a fr
    refine lst rfl (ow_v fr (rn_move (fr.ev rfl)) rfl rfl ?_)
    intro a fr
    refine lst rfl (ow_call fr rfl rfl Try.call27 (is_f g m _ _ c1 c2 ns ss (p1) (ha) _ (hok4 (st.get 0 rfl) (st.get 1 rfl) (st.get 2 rfl) (st.get 3 rfl))) rfl rfl ?_)
    rintro e w ⟨rfl, hag⟩
    refine ⟨_, rfl, ?_⟩
    intro a fr
    have st := st.keep hag
    clear hag
    refine lst rfl (ow_v fr (rn_not (fr.ev rfl)) rfl rfl ?_)
    intro a fr
    refine lst rfl (ow_v fr (rn_move (fr.ev rfl)) rfl rfl ?_)
    intro a fr
    refine lst_n (unwanted_of fr rfl rfl rfl rfl) fr rfl rfl ?_
    intro a fr
    refine lst_n (unwanted_of fr rfl rfl rfl rfl) fr rfl rfl ?_
    intro a fr
    refine lst_n (unwanted_of fr rfl rfl rfl rfl) fr rfl rfl ?_
    intro a fr
    refine lst_n (unwanted_of fr rfl rfl rfl rfl) fr rfl rfl ?_
    intro a fr
    refine lst rfl (ow_v fr (rn_pick_t (fr.ev rfl) (fr.ev rfl)) rfl rfl ?_)
    intro a fr
    refine wpList_nil ?_
    refine then_n ?_
    refine cond_t fr rfl rfl ?_
    refine wp_seq ?_
    refine reg ?_
    refine lst rfl (ow_v fr (rn_assign (fr.ev rfl)) rfl rfl ?_)
    intro a fr
    refine wpList_nil ?_
    refine then_n ?_
    refine wp_ret ?_
    refine then_r ?_
    refine ret1 Try.results13 fr (rv_tmp fr rfl) ?_
    exact ⟨rfl, st.agr⟩

theorem depth_calls (g m : Nat) (A1 A2 : Option Addr) (c1 c2 : Nat) (ns : List ByteArray) (ss : List Int) (hf : HF ns.length ss) (n : Int) (d : Nat) (hdb : d ≤ 1000) (hd1 : ∀ j, j < d → 0 ≤ itS ss j n ∧ itS ss j n < ns.length) (hd2 : ¬ (0 ≤ itS ss d n ∧ itS ss d n < ns.length)) (w0 : World) (hok : HOk g m A1 A2 c1 c2 ns ss w0) : Calls Try.prog 12 #[.pointer (some ⟨g, 0, none⟩), .int .i64 n] w0 fun e w' => e = .returned (.int .i64 ((d : Nat) - 1)) ∧ Agr [] w0 w' := by
  have st : St w0 [] w0 [ro g 0 [.slice A1 ns.length c1, .slice A2 ss.length c2, (.map (some m))], els CS 1 A1 ns, els CI 1 A2 ss, mapRo kS vN m ((mL ns))] := hok.st
  clear hok
  refine enter Try.func12 rfl Try.ntmps12 (by simp) ?_
  intro a fr
  refine wp_seq ?_
  refine reg ?_
  refine lst rfl (ow_v fr (rn_assign (fr.ev rfl)) rfl rfl ?_)
  intro a fr
  refine wpList_nil ?_
  refine then_n ?_
  refine wp_seq ?_
  refine reg ?_
  refine lst rfl (ow_v fr (rn_assign (fr.ev rfl)) rfl rfl ?_)
  intro a fr
  refine wpList_nil ?_
  refine then_n ?_
  refine wp_seq ?_
  refine wp_block ?_
  refine wp_loop_ghost (fun mz a w => ∃ (i : Nat) (x : Int), (itS ss i n = x) ∧ (i ≤ d) ∧ mz = d - i ∧ FrL 19 a [(0, .pointer (some ⟨g, 0, none⟩)), (1, .int .i64 (x)), (5, .int .i64 (((i : Nat) : Int) - 1))] ∧ St w0 [] w [ro g 0 [.slice A1 ns.length c1, .slice A2 ss.length c2, (.map (some m))], els CS 1 A1 ns, els CI 1 A2 ss, mapRo kS vN m ((mL ns))]) _ ⟨0, n, (rfl), (Nat.zero_le _), rfl, fr.prune ⟨rfl, rfl, rfl, trivial⟩, st⟩ ?_
  clear fr st
  intro mz a w hI
  obtain ⟨i, x, hc, hi, hmz, fr, st⟩ := hI
  by_cases hid : i < d
  · have hx := hd1 i hid
    rw [hc] at hx
    obtain ⟨q, rfl⟩ := Int.eq_ofNat_of_zero_le hx.1
    refine wp_seq ?_
    refine wp_seq ?_
    refine reg ?_
    refine lst rfl (ow_v fr (rn_move (fr.ev rfl)) rfl rfl ?_)
    intro a fr
    refine lst rfl (ow_v fr (rn_move (fr.ev rfl)) rfl rfl ?_)
    intro a fr
    refine lst rfl (ow_call fr rfl rfl Try.call27 (is_t g m _ _ c1 c2 ns ss ((q : Nat)) (hx) _ (hok4 (st.get 0 rfl) (st.get 1 rfl) (st.get 2 rfl) (st.get 3 rfl))) rfl rfl ?_)
    rintro e w ⟨rfl, hag⟩
    refine ⟨_, rfl, ?_⟩
    intro a fr
    have st := st.keep hag
    clear hag
    refine wpList_nil ?_
    refine then_n ?_
    refine cond_t fr rfl rfl ?_
    refine wp_skip ?_
    refine then_n ?_
    refine wp_block ?_
    refine wp_seq ?_
    refine reg ?_
    refine lst rfl (ow_v fr (rn_move (fr.ev rfl)) rfl rfl ?_)
    intro a fr
    refine lst rfl (ow_v fr (rn_add (c := ((i : Nat) : Int) - 1 + 1) (fr.ev rfl) (fr.ev rfl) (wr_i64e (by omega) (by omega) (by omega))) rfl rfl ?_)
    intro a fr
    refine lst rfl (ow_v fr (rn_assign (fr.ev rfl)) rfl rfl ?_)
    intro a fr
    refine wpList_nil ?_
    refine then_n ?_
    refine reg ?_
    refine lst rfl (ow_v fr (rn_move (fr.ev rfl)) rfl rfl ?_)
    intro a fr
    refine lst rfl (ow_v fr (rn_nilCheck (fr.ev rfl)) rfl rfl ?_)
    intro a fr
    refine lst rfl (ow_v fr (fa_48_1 (fr.ev rfl)) rfl rfl ?_)
    intro a fr
    refine lst rfl (ow_v fr (rn_load (fr.ev rfl) Try.underlying43 rfl (st.rocell 0 rfl (j := 1) rfl)) rfl rfl ?_)
    intro a fr
    refine lst rfl (ow_v fr (rn_move (fr.ev rfl)) rfl rfl ?_)
    intro a fr
    have hqs : q < ss.length := by have := hf.len; omega
    obtain ⟨b1, o2, eA, st⟩ := st.elem 2 rfl q (by have := hf.len; omega) (by simp [CI])
    cases eA
    obtain ⟨y, hx_ss_y⟩ : ∃ y, ss[q] = y := ⟨_, rfl⟩
    rw [hx_ss_y] at st
    replace st : St _ [] w [ro b1 (o2 + q * 1) [.int .i64 (y)], ro g 0 [.slice A1 ns.length c1, .slice (some ⟨b1, o2, none⟩) ss.length c2, (.map (some m))], els CS 1 A1 ns, els CI 1 (some ⟨b1, o2, none⟩) ss, mapRo kS vN m ((mL ns))] := st
    refine lst rfl (ow_v fr (rn_at (i := q) (fr.ev rfl) (fr.ev rfl) Try.underlying43 sz_3 (by have := hf.len; omega) (by rfl)) rfl rfl ?_)
    intro a fr
    refine lst rfl (ow_v fr (rn_load (fr.ev rfl) Try.underlying3 rfl (st.rocell 0 rfl (j := 0) rfl)) rfl rfl ?_)
    intro a fr
    refine lst rfl (ow_v fr (rn_assign (fr.ev rfl)) rfl rfl ?_)
    intro a fr
    refine wpList_nil ?_
    refine blk_n ?_
    have hsl : ((i : Nat) : Int) - 1 + 1 = (((i + 1 : Nat)) : Int) - 1 := by omega
    rw [hsl] at fr
    refine then_n ⟨d - (i + 1), ?_, i + 1, y, (itS_succ hc (by have := hf.len; omega) hx_ss_y), (by omega), rfl, fr.prune ⟨rfl, rfl, rfl, trivial⟩, st.sub (.cons _ (.cons_cons _ (.cons_cons _ (.cons_cons _ (.cons_cons _ .slnil)))))⟩
    omega
  · have hide : i = d := by omega
    subst hide
    have hx := hd2
    rw [hc] at hx
    refine wp_seq ?_
    refine wp_seq ?_
    refine reg ?_
    refine lst rfl (ow_v fr (rn_move (fr.ev rfl)) rfl rfl ?_)
    intro a fr
    refine lst rfl (ow_v fr (rn_move (fr.ev rfl)) rfl rfl ?_)
    intro a fr
    refine lst rfl (ow_call fr rfl rfl Try.call27 (is_f g m _ _ c1 c2 ns ss (x) (hx) _ (hok4 (st.get 0 rfl) (st.get 1 rfl) (st.get 2 rfl) (st.get 3 rfl))) rfl rfl ?_)
    rintro e w ⟨rfl, hag⟩
    refine ⟨_, rfl, ?_⟩
    intro a fr
    have st := st.keep hag
    clear hag
    refine wpList_nil ?_
    refine then_n ?_
    refine cond_f fr rfl rfl ?_
    refine wp_exit ?_
    refine then_x ?_
    refine then_x ?_
    refine blk_x ?_
    refine then_n ?_
    refine wp_seq ?_
    refine reg ?_
    refine lst rfl (ow_v fr (rn_move (fr.ev rfl)) rfl rfl ?_)
    intro a fr
    refine lst rfl (ow_v fr (rn_assign (fr.ev rfl)) rfl rfl ?_)
    intro a fr
    refine wpList_nil ?_
    refine then_n ?_
    refine wp_ret ?_
    refine ret1 Try.results12 fr (rv_tmp fr rfl) ?_
    exact ⟨rfl, st.agr⟩

theorem find_t (g m : Nat) (A1 A2 : Option Addr) (c1 c2 : Nat) (ns : List ByteArray) (ss : List Int) (x : ByteArray) (v : Nat) (hlk : lkp (mL ns) x = some v) (w0 : World) (hok : HOk g m A1 A2 c1 c2 ns ss w0) : Calls Try.prog 20 #[.pointer (some ⟨g, 0, none⟩), .string x] w0 fun e w' => e = .returned (.tuple #[.int .i64 (v : Nat), .bool true]) ∧ Agr [] w0 w' := by
  have st : St w0 [] w0 [ro g 0 [.slice A1 ns.length c1, .slice A2 ss.length c2, (.map (some m))], els CS 1 A1 ns, els CI 1 A2 ss, mapRo kS vN m ((mL ns))] := hok.st
  clear hok
  refine enter Try.func20 rfl Try.ntmps20 (by simp) ?_
  intro a fr
  refine wp_seq ?_
  refine reg ?_
  refine lst rfl (ow_v fr (rn_assign (fr.ev rfl)) rfl rfl ?_)
  intro a fr
  refine lst rfl (ow_v fr (rn_assign (fr.ev rfl)) rfl rfl ?_)
  intro a fr
  refine wpList_nil ?_
  refine then_n ?_
  refine wp_seq ?_
  refine wp_seq ?_
  refine reg ?_
  refine lst rfl (ow_v fr (rn_move (fr.ev rfl)) rfl rfl ?_)
  intro a fr
  refine lst rfl (ow_v fr (rn_eql_pn (fr.ev rfl) (fr.ev rfl) Try.underlying23) rfl rfl ?_)
  intro a fr
  refine wpList_nil ?_
  refine then_n ?_
  refine cond_f fr rfl rfl ?_
  refine wp_skip ?_
  refine then_n ?_
  refine wp_seq ?_
  refine reg ?_
  refine lst rfl (ow_v fr (rn_move (fr.ev rfl)) rfl rfl ?_)
  intro a fr
  refine lst rfl (ow_v fr (rn_nilCheck (fr.ev rfl)) rfl rfl ?_)
  intro a fr
  refine lst rfl (ow_v fr (fa_48_2 (fr.ev rfl)) rfl rfl ?_)
  intro a fr
  refine lst rfl (ow_v fr (rn_load (fr.ev rfl) Try.underlying46 rfl (st.rocell 0 rfl (j := 2) rfl)) rfl rfl ?_)
  intro a fr
  refine lst rfl (ow_v fr (rn_move (fr.ev rfl)) rfl rfl ?_)
  intro a fr
  refine lst rfl (ow_v fr (rn_as (v' := .tuple #[.int .i64 ((v : Nat)), .bool true]) (rn_lookup2 (kf := kS) (vf := vN) (k := x) (l := (mL ns)) (fr.ev rfl) (fr.ev rfl) Try.underlying46 Try.underlying9 sameS (fun e w => by kernel_rfl) zv_3 (st.get 3 rfl).1) (by rw [hlk])) rfl rfl ?_)
  intro a fr
  refine lst rfl (ow_v fr (rn_move (fr.ev rfl)) rfl rfl ?_)
  intro a fr
  refine lst rfl (ow_v fr (rn_extract (fr.ev rfl) rfl) rfl rfl ?_)
  intro a fr
  refine lst rfl (ow_v fr (rn_extract (fr.ev rfl) rfl) rfl rfl ?_)
  intro a fr
  refine lst rfl (ow_v fr (rn_assign (fr.ev rfl)) rfl rfl ?_)
  intro a fr
  refine lst rfl (ow_v fr (rn_assign (fr.ev rfl)) rfl rfl ?_)
  intro a fr
  refine wpList_nil ?_
  refine then_n ?_
  refine wp_seq ?_
  refine reg ?_
  refine lst rfl (ow_v fr (rn_move (fr.ev rfl)) rfl rfl ?_)
  intro a fr
  refine lst rfl (ow_v fr (rn_move (fr.ev rfl)) rfl rfl ?_)
  intro a fr
  refine lst rfl (ow_v fr (rn_assign (fr.ev rfl)) rfl rfl ?_)
  intro a fr
  refine lst rfl (ow_v fr (rn_assign (fr.ev rfl)) rfl rfl ?_)
  intro a fr
  refine wpList_nil ?_
  refine then_n ?_
  refine wp_ret ?_
  refine ret2 Try.results20 fr (rv_tmp fr rfl) (rv_tmp fr rfl) ?_
  exact ⟨rfl, st.agr⟩

theorem find_f (g m : Nat) (A1 A2 : Option Addr) (c1 c2 : Nat) (ns : List ByteArray) (ss : List Int) (x : ByteArray) (hlk : lkp (mL ns) x = none) (w0 : World) (hok : HOk g m A1 A2 c1 c2 ns ss w0) : Calls Try.prog 20 #[.pointer (some ⟨g, 0, none⟩), .string x] w0 fun e w' => e = .returned (.tuple #[.int .i64 0, .bool false]) ∧ Agr [] w0 w' := by
  have st : St w0 [] w0 [ro g 0 [.slice A1 ns.length c1, .slice A2 ss.length c2, (.map (some m))], els CS 1 A1 ns, els CI 1 A2 ss, mapRo kS vN m ((mL ns))] := hok.st
  clear hok
  refine enter Try.func20 rfl Try.ntmps20 (by simp) ?_
  intro a fr
  refine wp_seq ?_
  refine reg ?_
  refine lst rfl (ow_v fr (rn_assign (fr.ev rfl)) rfl rfl ?_)
  intro a fr
  refine lst rfl (ow_v fr (rn_assign (fr.ev rfl)) rfl rfl ?_)
  intro a fr
  refine wpList_nil ?_
  refine then_n ?_
  refine wp_seq ?_
  refine wp_seq ?_
  refine reg ?_
  refine lst rfl (ow_v fr (rn_move (fr.ev rfl)) rfl rfl ?_)
  intro a fr
  refine lst rfl (ow_v fr (rn_eql_pn (fr.ev rfl) (fr.ev rfl) Try.underlying23) rfl rfl ?_)
  intro a fr
  refine wpList_nil ?_
  refine then_n ?_
  refine cond_f fr rfl rfl ?_
  refine wp_skip ?_
  refine then_n ?_
  refine wp_seq ?_
  refine reg ?_
  refine lst rfl (ow_v fr (rn_move (fr.ev rfl)) rfl rfl ?_)
  intro a fr
  refine lst rfl (ow_v fr (rn_nilCheck (fr.ev rfl)) rfl rfl ?_)
  intro a fr
  refine lst rfl (ow_v fr (fa_48_2 (fr.ev rfl)) rfl rfl ?_)
  intro a fr
  refine lst rfl (ow_v fr (rn_load (fr.ev rfl) Try.underlying46 rfl (st.rocell 0 rfl (j := 2) rfl)) rfl rfl ?_)
  intro a fr
  refine lst rfl (ow_v fr (rn_move (fr.ev rfl)) rfl rfl ?_)
  intro a fr
  refine lst rfl (ow_v fr (rn_as (v' := .tuple #[.int .i64 0, .bool false]) (rn_lookup2 (kf := kS) (vf := vN) (k := x) (l := (mL ns)) (fr.ev rfl) (fr.ev rfl) Try.underlying46 Try.underlying9 sameS (fun e w => by kernel_rfl) zv_3 (st.get 3 rfl).1) (by rw [hlk])) rfl rfl ?_)
  intro a fr
  refine lst rfl (ow_v fr (rn_move (fr.ev rfl)) rfl rfl ?_)
  intro a fr
  refine lst rfl (ow_v fr (rn_extract (fr.ev rfl) rfl) rfl rfl ?_)
  intro a fr
  refine lst rfl (ow_v fr (rn_extract (fr.ev rfl) rfl) rfl rfl ?_)
  intro a fr
  refine lst rfl (ow_v fr (rn_assign (fr.ev rfl)) rfl rfl ?_)
  intro a fr
  refine lst rfl (ow_v fr (rn_assign (fr.ev rfl)) rfl rfl ?_)
  intro a fr
  refine wpList_nil ?_
  refine then_n ?_
  refine wp_seq ?_
  refine reg ?_
  refine lst rfl (ow_v fr (rn_move (fr.ev rfl)) rfl rfl ?_)
  intro a fr
  refine lst rfl (ow_v fr (rn_move (fr.ev rfl)) rfl rfl ?_)
  intro a fr
  refine lst rfl (ow_v fr (rn_assign (fr.ev rfl)) rfl rfl ?_)
  intro a fr
  refine lst rfl (ow_v fr (rn_assign (fr.ev rfl)) rfl rfl ?_)
  intro a fr
  refine wpList_nil ?_
  refine then_n ?_
  refine wp_ret ?_
  refine ret2 Try.results20 fr (rv_tmp fr rfl) (rv_tmp fr rfl) ?_
  exact ⟨rfl, st.agr⟩

end Go.Proofs.Ytnggnacaghcclaa.H2
