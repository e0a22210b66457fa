import Derived.Test.YtnggnacaghcclaaH5
set_option linter.unusedVariables false
set_option linter.unusedSimpArgs false
namespace Go.Proofs.Ytnggnacaghcclaa.H6
open Go.RowKit Go.Proofs.Ytnggnacaghcclaa.LibA Go.Proofs.Ytnggnacaghcclaa.LibC Go.Proofs.Ytnggnacaghcclaa.LibS Go.Proofs.Ytnggnacaghcclaa.LibR Go.Proofs.Ytnggnacaghcclaa.LibT Go.Proofs.Ytnggnacaghcclaa.LibU Go.Proofs.Ytnggnacaghcclaa.LibV Go.Proofs.Ytnggnacaghcclaa.LibW Go.Proofs.Ytnggnacaghcclaa.LibX Go.Proofs.Ytnggnacaghcclaa.H1 Go.Proofs.Ytnggnacaghcclaa.H2 Go.Proofs.Ytnggnacaghcclaa.H3 Go.Proofs.Ytnggnacaghcclaa.H5
def RHOk (g : Nat) (A1 A2 : Option Addr) (c1 c2 : Nat) (ns : List ByteArray) (ss : List Int) (w : World) : Prop := ∀ it ∈ rI g A1 A2 c1 c2 ns ss, it.ok w [] w
theorem RHOk.st {g : Nat} {A1 A2 : Option Addr} {c1 c2 : Nat} {ns : List ByteArray} {ss : List Int} {w : World} (h : RHOk g A1 A2 c1 c2 ns ss w) : St w [] w (rI g A1 A2 c1 c2 ns ss) := of_ro (Agr.refl _ _) fun it hi => ⟨h it hi, by simp [rI] at hi; rcases hi with rfl | rfl | rfl <;> rfl⟩
theorem rhok3 {g : Nat} {A1 A2 : Option Addr} {c1 c2 : Nat} {ns : List ByteArray} {ss : List Int} {w0 w : World} {K : List Nat} (h1 : (ro g 0 [.slice A1 ns.length c1, .slice A2 ss.length c2]).ok w0 K w) (h2 : (els CS 1 A1 ns).ok w0 K w) (h3 : (els CI 1 A2 ss).ok w0 K w) : RHOk g A1 A2 c1 c2 ns ss w := by
  intro it hi
  simp only [rI, List.mem_cons, List.not_mem_nil, or_false] at hi
  rcases hi with rfl | rfl | rfl
  · exact ro_now h1 rfl
  · exact ro_now h2 rfl
  · exact ro_now h3 rfl
theorem rI_new {g : Nat} {A1 A2 : Option Addr} {c1 c2 B : Nat} {ns : List ByteArray} {ss : List Int} (h : B ≤ g ∧ (∀ a, A1 = some a → B ≤ a.block) ∧ (∀ a, A2 = some a → B ≤ a.block)) : ∀ it ∈ rI g A1 A2 c1 c2 ns ss, ∀ b ∈ it.fp, B ≤ b := by
  intro it hi b hb
  simp only [rI, List.mem_cons, List.not_mem_nil, or_false] at hi
  rcases hi with rfl | rfl | rfl
  · simp [ro, It.fp] at hb; subst hb; exact h.1
  · obtain ⟨ad, rfl, rfl⟩ := elsFp_mem hb; exact h.2.1 _ rfl
  · obtain ⟨ad, rfl, rfl⟩ := elsFp_mem hb; exact h.2.2 _ rfl


theorem ris_t (g : Nat) (A1 A2 : Option Addr) (c1 c2 : Nat) (ns : List ByteArray) (ss : List Int) (n : Int) (h : 0 ≤ n ∧ n < ns.length) (w0 : World) (hok : RHOk g A1 A2 c1 c2 ns ss w0) : Calls Try.prog 30 #[.pointer (some ⟨g, 0, none⟩), .int .i64 n] w0 fun e w' => e = .returned (.bool true) ∧ Agr [] w0 w' := by
  have st : St w0 [] w0 [ro g 0 [.slice A1 ns.length c1, .slice A2 ss.length c2], els CS 1 A1 ns, els CI 1 A2 ss] := hok.st
  clear hok
  refine enter Try.func30 rfl Try.ntmps30 (by simp) ?_
  intro a fr
  refine wp_seq ?_
  refine reg ?_
  refine lst rfl (ow_v fr (rn_assign (fr.ev rfl)) rfl rfl ?_)
  intro a fr
  refine wpList_nil ?_
  refine then_n ?_
  refine wp_seq ?_
  refine reg ?_
  refine lst rfl (ow_v fr (rn_move (fr.ev rfl)) rfl rfl ?_)
  intro a fr
  refine lst rfl (ow_v fr (rn_as (v' := .bool true) (rn_geq (fr.ev rfl) (fr.ev rfl)) (congrArg Value.bool (decide_eq_true (by omega)))) rfl rfl ?_)
  intro a fr
  refine lst rfl (ow_v fr (rn_move (fr.ev rfl)) rfl rfl ?_)
  intro a fr
  refine lst_y (wanted_of fr rfl rfl rfl rfl) (ow_v fr (rn_move (fr.ev rfl)) rfl rfl ?_)
  intro a fr
  refine lst_y (wanted_of fr rfl rfl rfl rfl) (ow_v fr (rn_move (fr.ev rfl)) rfl rfl ?_)
  intro a fr
  refine lst_y (wanted_of fr rfl rfl rfl rfl) (ow_v fr (rn_nilCheck (fr.ev rfl)) rfl rfl ?_)
  intro a fr
  refine lst_y (wanted_of fr rfl rfl rfl rfl) (ow_v fr (fa_62_0 (fr.ev rfl)) rfl rfl ?_)
  intro a fr
  refine lst_y (wanted_of fr rfl rfl rfl rfl) (ow_v fr (rn_load (fr.ev rfl) Try.underlying45 rfl (st.rocell 0 rfl (j := 0) rfl)) rfl rfl ?_)
  intro a fr
  refine lst_y (wanted_of fr rfl rfl rfl rfl) (ow_v fr (rn_len (fr.ev rfl) Try.underlying45) rfl rfl ?_)
  intro a fr
  refine lst_y (wanted_of fr rfl rfl rfl rfl) (ow_v fr (rn_as (v' := .bool true) (rn_lss (fr.ev rfl) (fr.ev rfl)) (congrArg Value.bool (decide_eq_true (by omega)))) rfl rfl ?_)
  intro a fr
  refine lst rfl (ow_v fr (rn_pick_t (fr.ev rfl) (fr.ev rfl)) rfl rfl ?_)
  intro a fr
  refine lst rfl (ow_v fr (rn_assign (fr.ev rfl)) rfl rfl ?_)
  intro a fr
  refine wpList_nil ?_
  refine then_n ?_
  refine wp_ret ?_
  refine ret1 Try.results30 fr (rv_tmp fr rfl) ?_
  exact ⟨rfl, st.agr⟩

theorem ris_f (g : Nat) (A1 A2 : Option Addr) (c1 c2 : Nat) (ns : List ByteArray) (ss : List Int) (n : Int) (h : ¬ (0 ≤ n ∧ n < ns.length)) (w0 : World) (hok : RHOk g A1 A2 c1 c2 ns ss w0) : Calls Try.prog 30 #[.pointer (some ⟨g, 0, none⟩), .int .i64 n] w0 fun e w' => e = .returned (.bool false) ∧ Agr [] w0 w' := by
  have st : St w0 [] w0 [ro g 0 [.slice A1 ns.length c1, .slice A2 ss.length c2], els CS 1 A1 ns, els CI 1 A2 ss] := hok.st
  clear hok
  by_cases h0 : 0 ≤ n
  · refine enter Try.func30 rfl Try.ntmps30 (by simp) ?_
    intro a fr
    refine wp_seq ?_
    refine reg ?_
    refine lst rfl (ow_v fr (rn_assign (fr.ev rfl)) rfl rfl ?_)
    intro a fr
    refine wpList_nil ?_
    refine then_n ?_
    refine wp_seq ?_
    refine reg ?_
    refine lst rfl (ow_v fr (rn_move (fr.ev rfl)) rfl rfl ?_)
    intro a fr
    refine lst rfl (ow_v fr (rn_as (v' := .bool true) (rn_geq (fr.ev rfl) (fr.ev rfl)) (congrArg Value.bool (decide_eq_true (by omega)))) rfl rfl ?_)
    intro a fr
    refine lst rfl (ow_v fr (rn_move (fr.ev rfl)) rfl rfl ?_)
    intro a fr
    refine lst_y (wanted_of fr rfl rfl rfl rfl) (ow_v fr (rn_move (fr.ev rfl)) rfl rfl ?_)
    intro a fr
    refine lst_y (wanted_of fr rfl rfl rfl rfl) (ow_v fr (rn_move (fr.ev rfl)) rfl rfl ?_)
    intro a fr
    refine lst_y (wanted_of fr rfl rfl rfl rfl) (ow_v fr (rn_nilCheck (fr.ev rfl)) rfl rfl ?_)
    intro a fr
    refine lst_y (wanted_of fr rfl rfl rfl rfl) (ow_v fr (fa_62_0 (fr.ev rfl)) rfl rfl ?_)
    intro a fr
    refine lst_y (wanted_of fr rfl rfl rfl rfl) (ow_v fr (rn_load (fr.ev rfl) Try.underlying45 rfl (st.rocell 0 rfl (j := 0) rfl)) rfl rfl ?_)
    intro a fr
    refine lst_y (wanted_of fr rfl rfl rfl rfl) (ow_v fr (rn_len (fr.ev rfl) Try.underlying45) rfl rfl ?_)
    intro a fr
    refine lst_y (wanted_of fr rfl rfl rfl rfl) (ow_v fr (rn_as (v' := .bool false) (rn_lss (fr.ev rfl) (fr.ev rfl)) (congrArg Value.bool (decide_eq_false (by omega)))) rfl rfl ?_)
    intro a fr
    refine lst rfl (ow_v fr (rn_pick_t (fr.ev rfl) (fr.ev rfl)) rfl rfl ?_)
    intro a fr
    refine lst rfl (ow_v fr (rn_assign (fr.ev rfl)) rfl rfl ?_)
    intro a fr
    refine wpList_nil ?_
    refine then_n ?_
    refine wp_ret ?_
    refine ret1 Try.results30 fr (rv_tmp fr rfl) ?_
    exact ⟨rfl, st.agr⟩
  · refine enter Try.func30 rfl Try.ntmps30 (by simp) ?_
    intro a fr
    refine wp_seq ?_
    refine reg ?_
    refine lst rfl (ow_v fr (rn_assign (fr.ev rfl)) rfl rfl ?_)
    intro a fr
    refine wpList_nil ?_
    refine then_n ?_
    refine wp_seq ?_
    refine reg ?_
    refine lst rfl (ow_v fr (rn_move (fr.ev rfl)) rfl rfl ?_)
    intro a fr
    refine lst rfl (ow_v fr (rn_as (v' := .bool false) (rn_geq (fr.ev rfl) (fr.ev rfl)) (congrArg Value.bool (decide_eq_false (by omega)))) rfl rfl ?_)
    intro a fr
    refine lst rfl (ow_v fr (rn_move (fr.ev rfl)) rfl rfl ?_)
    intro a fr
    refine lst_n (unwanted_of fr rfl rfl rfl rfl) fr rfl rfl ?_
    intro a fr
    refine lst_n (unwanted_of fr rfl rfl rfl rfl) fr rfl rfl ?_
    intro a fr
    refine lst_n (unwanted_of fr rfl rfl rfl rfl) fr rfl rfl ?_
    intro a fr
    refine lst_n (unwanted_of fr rfl rfl rfl rfl) fr rfl rfl ?_
    intro a fr
    refine lst_n (unwanted_of fr rfl rfl rfl rfl) fr rfl rfl ?_
    intro a fr
    refine lst_n (unwanted_of fr rfl rfl rfl rfl) fr rfl rfl ?_
    intro a fr
    refine lst_n (unwanted_of fr rfl rfl rfl rfl) fr rfl rfl ?_
    intro a fr
    refine lst rfl (ow_v fr (rn_pick_f (fr.ev rfl) (fr.ev rfl)) rfl rfl ?_)
    intro a fr
    refine lst rfl (ow_v fr (rn_assign (fr.ev rfl)) rfl rfl ?_)
    intro a fr
    refine wpList_nil ?_
    refine then_n ?_
    refine wp_ret ?_
    refine ret1 Try.results30 fr (rv_tmp fr rfl) ?_
    exact ⟨rfl, st.agr⟩

theorem runder_calls (g : Nat) (A1 A2 : Option Addr) (c1 c2 : Nat) (ns : List ByteArray) (ss : List Int) (hf : HF ns.length ss) (p1 p2 : Int) (w0 : World) (hok : RHOk g A1 A2 c1 c2 ns ss w0) : Calls Try.prog 15 #[.pointer (some ⟨g, 0, none⟩), .int .i64 p1, .int .i64 p2] w0 fun e w' => (∃ r, e = .returned (.bool r) ∧ (r = true ↔ UndP ns.length ss p1 p2)) ∧ Agr [] w0 w' := by
  have st : St w0 [] w0 [ro g 0 [.slice A1 ns.length c1, .slice A2 ss.length c2], els CS 1 A1 ns, els CI 1 A2 ss] := hok.st
  clear hok
  by_cases ha : 0 ≤ p1 ∧ p1 < ns.length
  · by_cases hb : 0 ≤ p2 ∧ p2 < ns.length
    · refine enter Try.func15 rfl Try.ntmps15 (by simp) ?_
      intro a fr
      refine wp_seq ?_
      refine reg ?_
      refine lst rfl (ow_v fr (rn_assign (fr.ev rfl)) rfl rfl ?_)
      intro a fr
      refine wpList_nil ?_
      refine then_n ?_
      refine wp_seq ?_
      refine wp_seq ?_
      refine reg ?_
      refine lst rfl (ow_v fr (rn_move (fr.ev rfl)) rfl rfl ?_)
      intro a fr
      refine lst rfl (ow_v fr (rn_move (fr.ev rfl)) rfl rfl ?_)
      intro a fr
      refine lst rfl (ow_call fr rfl rfl Try.call30 (ris_t g _ _ c1 c2 ns ss (p1) (ha) _ (rhok3 (st.get 0 rfl) (st.get 1 rfl) (st.get 2 rfl))) rfl rfl ?_)
      rintro e w ⟨rfl, hag⟩
      refine ⟨_, rfl, ?_⟩
      intro a fr
      have st := st.keep hag
      clear hag
      refine lst rfl (ow_v fr (rn_not (fr.ev rfl)) rfl rfl ?_)
      intro a fr
      refine lst rfl (ow_v fr (rn_move (fr.ev rfl)) rfl rfl ?_)
      intro a fr
      refine lst_y (wanted_of fr rfl rfl rfl rfl) (ow_v fr (rn_move (fr.ev rfl)) rfl rfl ?_)
      intro a fr
      refine lst_y (wanted_of fr rfl rfl rfl rfl) (ow_v fr (rn_move (fr.ev rfl)) rfl rfl ?_)
      intro a fr
      refine lst_y (wanted_of fr rfl rfl rfl rfl) (ow_call fr rfl rfl Try.call30 (ris_t g _ _ c1 c2 ns ss (p2) (hb) _ (rhok3 (st.get 0 rfl) (st.get 1 rfl) (st.get 2 rfl))) rfl rfl ?_)
      rintro e w ⟨rfl, hag⟩
      refine ⟨_, rfl, ?_⟩
      intro a fr
      have st := st.keep hag
      clear hag
      refine lst_y (wanted_of fr rfl rfl rfl rfl) (ow_v fr (rn_not (fr.ev rfl)) rfl rfl ?_)
      intro a fr
      refine lst rfl (ow_v fr (rn_pick_f (fr.ev rfl) (fr.ev rfl)) rfl rfl ?_)
      intro a fr
      refine wpList_nil ?_
      refine then_n ?_
      refine cond_f fr rfl rfl ?_
      refine wp_skip ?_
      refine then_n ?_
      refine wp_seq ?_
      refine wp_seq ?_
      refine reg ?_
      refine lst rfl (ow_v fr (rn_move (fr.ev rfl)) rfl rfl ?_)
      intro a fr
      refine lst rfl (ow_v fr (rn_assign (fr.ev rfl)) rfl rfl ?_)
      intro a fr
      refine wpList_nil ?_
      refine then_n ?_
      refine wp_block ?_
      obtain ⟨d, hd⟩ := hf.end_ ha.1 ha.2
      refine wp_loop_ghost (fun mz a w => ∃ (i : Nat) (x : Int), (itS ss i p1 = x) ∧ (∀ j : Nat, j < i → itS ss j p1 ≠ p2) ∧ mz = d - i ∧ FrL 31 a [(0, .pointer (some ⟨g, 0, none⟩)), (2, .int .i64 (p2)), (7, .int .i64 (x))] ∧ St w0 [] w [ro g 0 [.slice A1 ns.length c1, .slice A2 ss.length c2], els CS 1 A1 ns, els CI 1 A2 ss]) _ ⟨0, p1, (rfl), (fun j h => absurd h (Nat.not_lt_zero _)), rfl, fr.prune ⟨rfl, rfl, rfl, trivial⟩, st⟩ ?_
      clear fr st
      intro mz a w hI
      obtain ⟨i, x, hc, hpos, hmz, fr, st⟩ := hI
      have hbd := (itS_neg hf (by omega) ha.2 i).1
      rw [hc] at hbd
      by_cases hx0 : x < 0
      · have hno : ¬ UndP ns.length ss p1 p2 := fun ⟨_, _, j, hj⟩ => by rcases Nat.lt_or_ge j i with h | h; exact (hpos j h hj); have := itS_mono hf (by omega) ha.2 (d := i) (by omega) j h; omega
        refine wp_seq ?_
        refine wp_seq ?_
        refine reg ?_
        refine lst rfl (ow_v fr (rn_move (fr.ev rfl)) rfl rfl ?_)
        intro a fr
        refine lst rfl (ow_v fr (rn_as (v' := .bool false) (rn_geq (fr.ev rfl) (fr.ev rfl)) (congrArg Value.bool (decide_eq_false (by omega)))) rfl rfl ?_)
        intro a fr
        refine wpList_nil ?_
        refine then_n ?_
        refine cond_f fr rfl rfl ?_
        refine wp_exit ?_
        refine then_x ?_
        refine then_x ?_
        refine blk_x ?_
        refine then_n ?_
        refine wp_seq ?_
        refine reg ?_
        refine lst rfl (ow_v fr (rn_assign (fr.ev rfl)) rfl rfl ?_)
        intro a fr
        refine wpList_nil ?_
        refine then_n ?_
        refine wp_ret ?_
        refine ret1 Try.results15 fr (rv_tmp fr rfl) ?_
        exact ⟨⟨_, rfl, by first | exact ⟨fun _ => hyes, fun _ => rfl⟩ | exact ⟨(fun h => by cases h), fun h => absurd h hno⟩⟩, st.agr⟩
      · by_cases hxb : x = p2
        · have hyes : UndP ns.length ss p1 p2 := ⟨ha, hb, i, by omega⟩
          refine wp_seq ?_
          refine wp_seq ?_
          refine reg ?_
          refine lst rfl (ow_v fr (rn_move (fr.ev rfl)) rfl rfl ?_)
          intro a fr
          refine lst rfl (ow_v fr (rn_as (v' := .bool true) (rn_geq (fr.ev rfl) (fr.ev rfl)) (congrArg Value.bool (decide_eq_true (by omega)))) rfl rfl ?_)
          intro a fr
          refine wpList_nil ?_
          refine then_n ?_
          refine cond_t fr rfl rfl ?_
          refine wp_skip ?_
          refine then_n ?_
          refine wp_seq ?_
          refine wp_block ?_
          refine wp_seq ?_
          refine reg ?_
          refine lst rfl (ow_v fr (rn_move (fr.ev rfl)) rfl rfl ?_)
          intro a fr
          refine lst rfl (ow_v fr (rn_move (fr.ev rfl)) rfl rfl ?_)
          intro a fr
          refine lst rfl (ow_v fr (rn_as (v' := .bool true) (rn_eql (fr.ev rfl) (fr.ev rfl)) (congrArg Value.bool (by simp [hxb]))) rfl rfl ?_)
          intro a fr
          refine wpList_nil ?_
          refine then_n ?_
          refine cond_t fr rfl rfl ?_
          refine wp_seq ?_
          refine reg ?_
          refine lst rfl (ow_v fr (rn_assign (fr.ev rfl)) rfl rfl ?_)
          intro a fr
          refine wpList_nil ?_
          refine then_n ?_
          refine wp_ret ?_
          refine blk_r ?_
          refine then_r ?_
          refine then_r ?_
          refine blk_r ?_
          refine then_r ?_
          refine ret1 Try.results15 fr (rv_tmp fr rfl) ?_
          exact ⟨⟨_, rfl, by first | exact ⟨fun _ => hyes, fun _ => rfl⟩ | exact ⟨(fun h => by cases h), fun h => absurd h hno⟩⟩, st.agr⟩
        · obtain ⟨q, rfl⟩ := Int.eq_ofNat_of_zero_le (by omega : 0 ≤ x)
          have hid := itS_lt hf (by omega) ha.2 (i := i) hd (by omega)
          refine wp_seq ?_
          refine wp_seq ?_
          refine reg ?_
          refine lst rfl (ow_v fr (rn_move (fr.ev rfl)) rfl rfl ?_)
          intro a fr
          refine lst rfl (ow_v fr (rn_as (v' := .bool true) (rn_geq (fr.ev rfl) (fr.ev rfl)) (congrArg Value.bool (decide_eq_true (by omega)))) rfl rfl ?_)
          intro a fr
          refine wpList_nil ?_
          refine then_n ?_
          refine cond_t fr rfl rfl ?_
          refine wp_skip ?_
          refine then_n ?_
          refine wp_seq ?_
          refine wp_block ?_
          refine wp_seq ?_
          refine reg ?_
          refine lst rfl (ow_v fr (rn_move (fr.ev rfl)) rfl rfl ?_)
          intro a fr
          refine lst rfl (ow_v fr (rn_move (fr.ev rfl)) rfl rfl ?_)
          intro a fr
          refine lst rfl (ow_v fr (rn_as (v' := .bool false) (rn_eql (fr.ev rfl) (fr.ev rfl)) (congrArg Value.bool (by simp [hxb]))) rfl rfl ?_)
          intro a fr
          refine wpList_nil ?_
          refine then_n ?_
          refine cond_f fr rfl rfl ?_
          refine wp_skip ?_
          refine blk_n ?_
          refine then_n ?_
          refine reg ?_
          refine lst rfl (ow_v fr (rn_move (fr.ev rfl)) rfl rfl ?_)
          intro a fr
          refine lst rfl (ow_v fr (rn_nilCheck (fr.ev rfl)) rfl rfl ?_)
          intro a fr
          refine lst rfl (ow_v fr (fa_62_1 (fr.ev rfl)) rfl rfl ?_)
          intro a fr
          refine lst rfl (ow_v fr (rn_load (fr.ev rfl) Try.underlying43 rfl (st.rocell 0 rfl (j := 1) rfl)) rfl rfl ?_)
          intro a fr
          refine lst rfl (ow_v fr (rn_move (fr.ev rfl)) rfl rfl ?_)
          intro a fr
          have hqs : q < ss.length := by have := hf.len; omega
          obtain ⟨b1, o2, eA, st_⟩ := st.elem 2 rfl q (by have := hf.len; omega) (by simp [CI])
          have fr_ := fr
          cases eA
          have st := st_
          have fr := fr_
          clear st_ fr_
          obtain ⟨y, hx_ss_y⟩ : ∃ y, ss[q] = y := ⟨_, rfl⟩
          rw [hx_ss_y] at st
          replace st : St _ [] w [ro b1 (o2 + q * 1) [.int .i64 (y)], ro g 0 [.slice A1 ns.length c1, .slice (some ⟨b1, o2, none⟩) ss.length c2], els CS 1 A1 ns, els CI 1 (some ⟨b1, o2, none⟩) ss] := st
          refine lst rfl (ow_v fr (rn_at (i := q) (fr.ev rfl) (fr.ev rfl) Try.underlying43 sz_3 (by have := hf.len; omega) (by rfl)) rfl rfl ?_)
          intro a fr
          refine lst rfl (ow_v fr (rn_load (fr.ev rfl) Try.underlying3 rfl (st.rocell 0 rfl (j := 0) rfl)) rfl rfl ?_)
          intro a fr
          refine lst rfl (ow_v fr (rn_assign (fr.ev rfl)) rfl rfl ?_)
          intro a fr
          refine wpList_nil ?_
          refine then_n ⟨d - (i + 1), ?_, i + 1, y, (itS_succ hc (by have := hf.len; omega) hx_ss_y), (fun j hj => by rcases (by omega : j < i ∨ j = i) with h | rfl; exact hpos j h; rw [hc]; exact hxb), rfl, fr.prune ⟨rfl, rfl, rfl, trivial⟩, st.sub (.cons _ (.cons_cons _ (.cons_cons _ (.cons_cons _ .slnil))))⟩
          omega
    · have hno : ¬ UndP ns.length ss p1 p2 := fun h => hb h.2.1
      refine enter Try.func15 rfl Try.ntmps15 (by simp) ?_
      intro a fr
      refine wp_seq ?_
      refine reg ?_
      refine lst rfl (ow_v fr (rn_assign (fr.ev rfl)) rfl rfl ?_)
      intro a fr
      refine wpList_nil ?_
      refine then_n ?_
      refine wp_seq ?_
      refine wp_seq ?_
      refine reg ?_
      refine lst rfl (ow_v fr (rn_move (fr.ev rfl)) rfl rfl ?_)
      intro a fr
      refine lst rfl (ow_v fr (rn_move (fr.ev rfl)) rfl rfl ?_)
      intro a fr
      refine lst rfl (ow_call fr rfl rfl Try.call30 (ris_t g _ _ c1 c2 ns ss (p1) (ha) _ (rhok3 (st.get 0 rfl) (st.get 1 rfl) (st.get 2 rfl))) rfl rfl ?_)
      rintro e w ⟨rfl, hag⟩
      refine ⟨_, rfl, ?_⟩
      intro a fr
      have st := st.keep hag
      clear hag
      refine lst rfl (ow_v fr (rn_not (fr.ev rfl)) rfl rfl ?_)
      intro a fr
      refine lst rfl (ow_v fr (rn_move (fr.ev rfl)) rfl rfl ?_)
      intro a fr
      refine lst_y (wanted_of fr rfl rfl rfl rfl) (ow_v fr (rn_move (fr.ev rfl)) rfl rfl ?_)
      intro a fr
      refine lst_y (wanted_of fr rfl rfl rfl rfl) (ow_v fr (rn_move (fr.ev rfl)) rfl rfl ?_)
      intro a fr
      refine lst_y (wanted_of fr rfl rfl rfl rfl) (ow_call fr rfl rfl Try.call30 (ris_f g _ _ c1 c2 ns ss (p2) (hb) _ (rhok3 (st.get 0 rfl) (st.get 1 rfl) (st.get 2 rfl))) rfl rfl ?_)
      rintro e w ⟨rfl, hag⟩
      refine ⟨_, rfl, ?_⟩
      intro a fr
      have st := st.keep hag
      clear hag
      refine lst_y (wanted_of fr rfl rfl rfl rfl) (ow_v fr (rn_not (fr.ev rfl)) rfl rfl ?_)
      intro a fr
      refine lst rfl (ow_v fr (rn_pick_f (fr.ev rfl) (fr.ev rfl)) rfl rfl ?_)
      intro a fr
      refine wpList_nil ?_
      refine then_n ?_
      refine cond_t fr rfl rfl ?_
      refine wp_seq ?_
      refine reg ?_
      refine lst rfl (ow_v fr (rn_assign (fr.ev rfl)) rfl rfl ?_)
      intro a fr
      refine wpList_nil ?_
      refine then_n ?_
      refine wp_ret ?_
      refine then_r ?_
      refine ret1 Try.results15 fr (rv_tmp fr rfl) ?_
      exact ⟨⟨_, rfl, by first | exact ⟨fun _ => hyes, fun _ => rfl⟩ | exact ⟨(fun h => by cases h), fun h => absurd h hno⟩⟩, st.agr⟩
  · have hno : ¬ UndP ns.length ss p1 p2 := fun h => ha h.1
    refine enter Try.func15 rfl Try.ntmps15 (by simp) ?_
    intro a fr
    refine wp_seq ?_
    refine reg ?_
    refine lst rfl (ow_v fr (rn_assign (fr.ev rfl)) rfl rfl ?_)
    intro a fr
    refine wpList_nil ?_
    refine then_n ?_
    refine wp_seq ?_
    refine wp_seq ?_
    refine reg ?_
    refine lst rfl (ow_v fr (rn_move (fr.ev rfl)) rfl rfl ?_)
    intro a fr
    refine lst rfl (ow_v fr (rn_move (fr.ev rfl)) rfl rfl ?_)
    intro a fr
    refine lst rfl (ow_call fr rfl rfl Try.call30 (ris_f g _ _ c1 c2 ns ss (p1) (ha) _ (rhok3 (st.get 0 rfl) (st.get 1 rfl) (st.get 2 rfl))) rfl rfl ?_)
    rintro e w ⟨rfl, hag⟩
    refine ⟨_, rfl, ?_⟩
    intro a fr
    have st := st.keep hag
    clear hag
    refine lst rfl (ow_v fr (rn_not (fr.ev rfl)) rfl rfl ?_)
    intro a fr
    refine lst rfl (ow_v fr (rn_move (fr.ev rfl)) rfl rfl ?_)
    intro a fr
    refine lst_n (unwanted_of fr rfl rfl rfl rfl) fr rfl rfl ?_
    intro a fr
    refine lst_n (unwanted_of fr rfl rfl rfl rfl) fr rfl rfl ?_
    intro a fr
    refine lst_n (unwanted_of fr rfl rfl rfl rfl) fr rfl rfl ?_
    intro a fr
    refine lst_n (unwanted_of fr rfl rfl rfl rfl) fr rfl rfl ?_
    intro a fr
    refine lst rfl (ow_v fr (rn_pick_t (fr.ev rfl) (fr.ev rfl)) rfl rfl ?_)
    intro a fr
    refine wpList_nil ?_
    refine then_n ?_
    refine cond_t fr rfl rfl ?_
    refine wp_seq ?_
    refine reg ?_
    refine lst rfl (ow_v fr (rn_assign (fr.ev rfl)) rfl rfl ?_)
    intro a fr
    refine wpList_nil ?_
    refine then_n ?_
    refine wp_ret ?_
    refine then_r ?_
    refine ret1 Try.results15 fr (rv_tmp fr rfl) ?_
    exact ⟨⟨_, rfl, by first | exact ⟨fun _ => hyes, fun _ => rfl⟩ | exact ⟨(fun h => by cases h), fun h => absurd h hno⟩⟩, st.agr⟩

theorem runder_t (g : Nat) (A1 A2 : Option Addr) (c1 c2 : Nat) (ns : List ByteArray) (ss : List Int) (hf : HF ns.length ss) (p1 p2 : Int) (h : UndP ns.length ss p1 p2) (w0 : World) (hok : RHOk g A1 A2 c1 c2 ns ss w0) : Calls Try.prog 15 #[.pointer (some ⟨g, 0, none⟩), .int .i64 p1, .int .i64 p2] w0 fun e w' => e = .returned (.bool true) ∧ Agr [] w0 w' :=
  (runder_calls g A1 A2 c1 c2 ns ss hf p1 p2 w0 hok).mono fun e w' ⟨⟨r, h1, h2⟩, h3⟩ => ⟨by cases r <;> simp_all, h3⟩

theorem runder_f (g : Nat) (A1 A2 : Option Addr) (c1 c2 : Nat) (ns : List ByteArray) (ss : List Int) (hf : HF ns.length ss) (p1 p2 : Int) (h : ¬ UndP ns.length ss p1 p2) (w0 : World) (hok : RHOk g A1 A2 c1 c2 ns ss w0) : Calls Try.prog 15 #[.pointer (some ⟨g, 0, none⟩), .int .i64 p1, .int .i64 p2] w0 fun e w' => e = .returned (.bool false) ∧ Agr [] w0 w' :=
  (runder_calls g A1 A2 c1 c2 ns ss hf p1 p2 w0 hok).mono fun e w' ⟨⟨r, h1, h2⟩, h3⟩ => ⟨by cases r <;> simp_all, h3⟩

theorem rcommon_t (g : Nat) (A1 A2 : Option Addr) (c1 c2 : Nat) (ns : List ByteArray) (ss : List Int) (hf : HF ns.length ss) (p1 p2 : Int) (ha : 0 ≤ p1 ∧ p1 < ns.length) (hb : 0 ≤ p2 ∧ p2 < ns.length) (w0 : World) (hok : RHOk g A1 A2 c1 c2 ns ss w0) : Calls Try.prog 16 #[.pointer (some ⟨g, 0, none⟩), .int .i64 p1, .int .i64 p2] w0 fun e w' => (∃ c, e = .returned (.int .i64 c) ∧ ∃ i, itS ss i p1 = c ∧ UndP ns.length ss p2 c ∧ ∀ j, j < i → ¬ UndP ns.length ss p2 (itS ss j p1)) ∧ Agr [] w0 w' := by
  have st : St w0 [] w0 [ro g 0 [.slice A1 ns.length c1, .slice A2 ss.length c2], els CS 1 A1 ns, els CI 1 A2 ss] := hok.st
  clear hok
  refine enter Try.func16 rfl Try.ntmps16 (by simp) ?_
  intro a fr
  refine wp_seq ?_
  refine reg ?_
  refine lst rfl (ow_v fr (rn_assign (fr.ev rfl)) rfl rfl ?_)
  intro a fr
  refine wpList_nil ?_
  refine then_n ?_
  refine wp_seq ?_
  refine wp_seq ?_
  refine reg ?_
  refine lst rfl (ow_v fr (rn_move (fr.ev rfl)) rfl rfl ?_)
  intro a fr
  refine lst rfl (ow_v fr (rn_move (fr.ev rfl)) rfl rfl ?_)
  intro a fr
  refine lst rfl (ow_call fr rfl rfl Try.call30 (ris_t g _ _ c1 c2 ns ss (p1) (ha) _ (rhok3 (st.get 0 rfl) (st.get 1 rfl) (st.get 2 rfl))) rfl rfl ?_)
  rintro e w ⟨rfl, hag⟩
  refine ⟨_, rfl, ?_⟩
  intro a fr
  have st := st.keep hag
  clear hag
  refine lst rfl (ow_v fr (rn_not (fr.ev rfl)) rfl rfl ?_)
  intro a fr
  refine lst rfl (ow_v fr (rn_move (fr.ev rfl)) rfl rfl ?_)
  intro a fr
  refine lst_y (wanted_of fr rfl rfl rfl rfl) (ow_v fr (rn_move (fr.ev rfl)) rfl rfl ?_)
  intro a fr
  refine lst_y (wanted_of fr rfl rfl rfl rfl) (ow_v fr (rn_move (fr.ev rfl)) rfl rfl ?_)
  intro a fr
  refine lst_y (wanted_of fr rfl rfl rfl rfl) (ow_call fr rfl rfl Try.call30 (ris_t g _ _ c1 c2 ns ss (p2) (hb) _ (rhok3 (st.get 0 rfl) (st.get 1 rfl) (st.get 2 rfl))) rfl rfl ?_)
  rintro e w ⟨rfl, hag⟩
  refine ⟨_, rfl, ?_⟩
  intro a fr
  have st := st.keep hag
  clear hag
  refine lst_y (wanted_of fr rfl rfl rfl rfl) (ow_v fr (rn_not (fr.ev rfl)) rfl rfl ?_)
  intro a fr
  refine lst rfl (ow_v fr (rn_pick_f (fr.ev rfl) (fr.ev rfl)) rfl rfl ?_)
  intro a fr
  refine wpList_nil ?_
  refine then_n ?_
  refine cond_f fr rfl rfl ?_
  refine wp_skip ?_
  refine then_n ?_
  refine wp_seq ?_
  refine reg ?_
  refine lst rfl (ow_v fr (rn_move (fr.ev rfl)) rfl rfl ?_)
  intro a fr
  refine lst rfl (ow_v fr (rn_assign (fr.ev rfl)) rfl rfl ?_)
  intro a fr
  refine wpList_nil ?_
  refine then_n ?_
  refine wp_seq ?_
  refine wp_block ?_
  obtain ⟨d, hd⟩ := hf.end_ ha.1 ha.2
  refine wp_loop_ghost (fun mz a w => ∃ (i : Nat) (x : Int), (itS ss i p1 = x) ∧ (0 ≤ x) ∧ (x < ns.length) ∧ (∀ j : Nat, j < i → ¬ UndP ns.length ss p2 (itS ss j p1)) ∧ mz = d - i ∧ FrL 32 a [(0, .pointer (some ⟨g, 0, none⟩)), (2, .int .i64 (p2)), (7, .int .i64 (x))] ∧ St w0 [] w [ro g 0 [.slice A1 ns.length c1, .slice A2 ss.length c2], els CS 1 A1 ns, els CI 1 A2 ss]) _ ⟨0, p1, (rfl), (ha.1), (ha.2), (fun j h => absurd h (Nat.not_lt_zero _)), rfl, fr.prune ⟨rfl, rfl, rfl, trivial⟩, st⟩ ?_
  clear fr st
  intro mz a w hI
  obtain ⟨i, x, hc, hx0, hxL, hpos, hmz, fr, st⟩ := hI
  by_cases hu : UndP ns.length ss p2 x
  · refine wp_seq ?_
    refine wp_seq ?_
    refine reg ?_
    refine lst rfl (ow_v fr (rn_move (fr.ev rfl)) rfl rfl ?_)
    intro a fr
    refine lst rfl (ow_v fr (rn_move (fr.ev rfl)) rfl rfl ?_)
    intro a fr
    refine lst rfl (ow_v fr (rn_move (fr.ev rfl)) rfl rfl ?_)
    intro a fr
    refine lst rfl (ow_call fr rfl rfl Try.call15 (runder_t g _ _ c1 c2 ns ss hf p2 x (hu) _ (rhok3 (st.get 0 rfl) (st.get 1 rfl) (st.get 2 rfl))) rfl rfl ?_)
    rintro e w ⟨rfl, hag⟩
    refine ⟨_, rfl, ?_⟩
    intro a fr
    have st := st.keep hag
    clear hag
    refine lst rfl (ow_v fr (rn_not (fr.ev rfl)) rfl rfl ?_)
    intro a fr
    refine wpList_nil ?_
    refine then_n ?_
    refine cond_f fr rfl rfl ?_
    refine wp_exit ?_
    refine then_x ?_
    refine then_x ?_
    refine blk_x ?_
    refine then_n ?_
    refine wp_seq ?_
    refine reg ?_
    refine lst rfl (ow_v fr (rn_move (fr.ev rfl)) rfl rfl ?_)
    intro a fr
    refine lst rfl (ow_v fr (rn_assign (fr.ev rfl)) rfl rfl ?_)
    intro a fr
    refine wpList_nil ?_
    refine then_n ?_
    refine wp_ret ?_
    refine ret1 Try.results16 fr (rv_tmp fr rfl) ?_
    exact ⟨⟨x, rfl, i, hc, hu, hpos⟩, st.agr⟩
  · obtain ⟨q, rfl⟩ := Int.eq_ofNat_of_zero_le hx0
    have hid := itS_lt hf (by omega) ha.2 (i := i) hd (by omega)
    have hq0 : 0 < q := by rcases Nat.eq_zero_or_pos q with rfl | h; exact absurd (und_top hf hb.1 hb.2) hu; exact h
    have hqt := hf.top q (by have := hf.len; omega) hq0
    have hqr := hf.rng q (by have := hf.len; omega)
    refine wp_seq ?_
    refine wp_seq ?_
    refine reg ?_
    refine lst rfl (ow_v fr (rn_move (fr.ev rfl)) rfl rfl ?_)
    intro a fr
    refine lst rfl (ow_v fr (rn_move (fr.ev rfl)) rfl rfl ?_)
    intro a fr
    refine lst rfl (ow_v fr (rn_move (fr.ev rfl)) rfl rfl ?_)
    intro a fr
    refine lst rfl (ow_call fr rfl rfl Try.call15 (runder_f g _ _ c1 c2 ns ss hf p2 ((q : Nat)) (hu) _ (rhok3 (st.get 0 rfl) (st.get 1 rfl) (st.get 2 rfl))) rfl rfl ?_)
    rintro e w ⟨rfl, hag⟩
    refine ⟨_, rfl, ?_⟩
    intro a fr
    have st := st.keep hag
    clear hag
    refine lst rfl (ow_v fr (rn_not (fr.ev rfl)) rfl rfl ?_)
    intro a fr
    refine wpList_nil ?_
    refine then_n ?_
    refine cond_t fr rfl rfl ?_
    refine wp_skip ?_
    refine then_n ?_
    refine wp_block ?_
    refine reg ?_
    refine lst rfl (ow_v fr (rn_move (fr.ev rfl)) rfl rfl ?_)
    intro a fr
    refine lst rfl (ow_v fr (rn_nilCheck (fr.ev rfl)) rfl rfl ?_)
    intro a fr
    refine lst rfl (ow_v fr (fa_62_1 (fr.ev rfl)) rfl rfl ?_)
    intro a fr
    refine lst rfl (ow_v fr (rn_load (fr.ev rfl) Try.underlying43 rfl (st.rocell 0 rfl (j := 1) rfl)) rfl rfl ?_)
    intro a fr
    refine lst rfl (ow_v fr (rn_move (fr.ev rfl)) rfl rfl ?_)
    intro a fr
    have hqs : q < ss.length := by have := hf.len; omega
    obtain ⟨b1, o2, eA, st_⟩ := st.elem 2 rfl q (by have := hf.len; omega) (by simp [CI])
    have fr_ := fr
    cases eA
    have st := st_
    have fr := fr_
    clear st_ fr_
    obtain ⟨y, hx_ss_y⟩ : ∃ y, ss[q] = y := ⟨_, rfl⟩
    rw [hx_ss_y] at st
    replace st : St _ [] w [ro b1 (o2 + q * 1) [.int .i64 (y)], ro g 0 [.slice A1 ns.length c1, .slice (some ⟨b1, o2, none⟩) ss.length c2], els CS 1 A1 ns, els CI 1 (some ⟨b1, o2, none⟩) ss] := st
    refine lst rfl (ow_v fr (rn_at (i := q) (fr.ev rfl) (fr.ev rfl) Try.underlying43 sz_3 (by have := hf.len; omega) (by rfl)) rfl rfl ?_)
    intro a fr
    refine lst rfl (ow_v fr (rn_load (fr.ev rfl) Try.underlying3 rfl (st.rocell 0 rfl (j := 0) rfl)) rfl rfl ?_)
    intro a fr
    refine lst rfl (ow_v fr (rn_assign (fr.ev rfl)) rfl rfl ?_)
    intro a fr
    refine wpList_nil ?_
    refine blk_n ?_
    refine then_n ⟨d - (i + 1), ?_, i + 1, y, (itS_succ hc (by have := hf.len; omega) hx_ss_y), (hx_ss_y ▸ hqt), (hx_ss_y ▸ hqr.2), (fun j hj => by rcases (by omega : j < i ∨ j = i) with h | rfl; exact hpos j h; rw [hc]; exact hu), rfl, fr.prune ⟨rfl, rfl, rfl, trivial⟩, st.sub (.cons _ (.cons_cons _ (.cons_cons _ (.cons_cons _ .slnil))))⟩
    omega

theorem rcommon_f (g : Nat) (A1 A2 : Option Addr) (c1 c2 : Nat) (ns : List ByteArray) (ss : List Int) (p1 p2 : Int) (h : ¬ ((0 ≤ p1 ∧ p1 < ns.length) ∧ (0 ≤ p2 ∧ p2 < ns.length))) (w0 : World) (hok : RHOk g A1 A2 c1 c2 ns ss w0) : Calls Try.prog 16 #[.pointer (some ⟨g, 0, none⟩), .int .i64 p1, .int .i64 p2] w0 fun e w' => e = .returned (.int .i64 (-1)) ∧ Agr [] w0 w' := by
  have st : St w0 [] w0 [ro g 0 [.slice A1 ns.length c1, .slice A2 ss.length c2], els CS 1 A1 ns, els CI 1 A2 ss] := hok.st
  clear hok
  by_cases ha : 0 ≤ p1 ∧ p1 < ns.length
  · have hb : ¬ (0 ≤ p2 ∧ p2 < ns.length) := fun h2 => h ⟨ha, h2⟩
    refine enter Try.func16 rfl Try.ntmps16 (by simp) ?_
    intro a fr
    refine wp_seq ?_
    refine reg ?_
    refine lst rfl (ow_v fr (rn_assign (fr.ev rfl)) rfl rfl ?_)
    intro a fr
    refine wpList_nil ?_
    refine then_n ?_
    refine wp_seq ?_
    refine wp_seq ?_
    refine reg ?_
    refine lst rfl (ow_v fr (rn_move (fr.ev rfl)) rfl rfl ?_)
    intro a fr
    refine lst rfl (ow_v fr (rn_move (fr.ev rfl)) rfl rfl ?_)
    intro a fr
    refine lst rfl (ow_call fr rfl rfl Try.call30 (ris_t g _ _ c1 c2 ns ss (p1) (ha) _ (rhok3 (st.get 0 rfl) (st.get 1 rfl) (st.get 2 rfl))) rfl rfl ?_)
    rintro e w ⟨rfl, hag⟩
    refine ⟨_, rfl, ?_⟩
    intro a fr
    have st := st.keep hag
    clear hag
    refine lst rfl (ow_v fr (rn_not (fr.ev rfl)) rfl rfl ?_)
    intro a fr
    refine lst rfl (ow_v fr (rn_move (fr.ev rfl)) rfl rfl ?_)
    intro a fr
    refine lst_y (wanted_of fr rfl rfl rfl rfl) (ow_v fr (rn_move (fr.ev rfl)) rfl rfl ?_)
    intro a fr
    refine lst_y (wanted_of fr rfl rfl rfl rfl) (ow_v fr (rn_move (fr.ev rfl)) rfl rfl ?_)
    intro a fr
    refine lst_y (wanted_of fr rfl rfl rfl rfl) (ow_call fr rfl rfl Try.call30 (ris_f g _ _ c1 c2 ns ss (p2) (hb) _ (rhok3 (st.get 0 rfl) (st.get 1 rfl) (st.get 2 rfl))) rfl rfl ?_)
    rintro e w ⟨rfl, hag⟩
    refine ⟨_, rfl, ?_⟩
    intro a fr
    have st := st.keep hag
    clear hag
    refine lst_y (wanted_of fr rfl rfl rfl rfl) (ow_v fr (rn_not (fr.ev rfl)) rfl rfl ?_)
    intro a fr
    refine lst rfl (ow_v fr (rn_pick_f (fr.ev rfl) (fr.ev rfl)) rfl rfl ?_)
    intro a fr
    refine wpList_nil ?_
    refine then_n ?_
    refine cond_t fr rfl rfl ?_
    refine wp_seq ?_
    refine reg ?_
    refine lst rfl (ow_v fr (rn_assign (fr.ev rfl)) rfl rfl ?_)
    intro a fr
    refine wpList_nil ?_
    refine then_n ?_
    refine wp_ret ?_
    refine then_r ?_
    refine ret1 Try.results16 fr (rv_tmp fr rfl) ?_
    exact ⟨rfl, st.agr⟩
  · refine enter Try.func16 rfl Try.ntmps16 (by simp) ?_
    intro a fr
    refine wp_seq ?_
    refine reg ?_
    refine lst rfl (ow_v fr (rn_assign (fr.ev rfl)) rfl rfl ?_)
    intro a fr
    refine wpList_nil ?_
    refine then_n ?_
    refine wp_seq ?_
    refine wp_seq ?_
    refine reg ?_
    refine lst rfl (ow_v fr (rn_move (fr.ev rfl)) rfl rfl ?_)
    intro a fr
    refine lst rfl (ow_v fr (rn_move (fr.ev rfl)) rfl rfl ?_)
    intro a fr
    refine lst rfl (ow_call fr rfl rfl Try.call30 (ris_f g _ _ c1 c2 ns ss (p1) (ha) _ (rhok3 (st.get 0 rfl) (st.get 1 rfl) (st.get 2 rfl))) rfl rfl ?_)
    rintro e w ⟨rfl, hag⟩
    refine ⟨_, rfl, ?_⟩
    intro a fr
    have st := st.keep hag
    clear hag
    refine lst rfl (ow_v fr (rn_not (fr.ev rfl)) rfl rfl ?_)
    intro a fr
    refine lst rfl (ow_v fr (rn_move (fr.ev rfl)) rfl rfl ?_)
    intro a fr
    refine lst_n (unwanted_of fr rfl rfl rfl rfl) fr rfl rfl ?_
    intro a fr
    refine lst_n (unwanted_of fr rfl rfl rfl rfl) fr rfl rfl ?_
    intro a fr
    refine lst_n (unwanted_of fr rfl rfl rfl rfl) fr rfl rfl ?_
    intro a fr
    refine lst_n (unwanted_of fr rfl rfl rfl rfl) fr rfl rfl ?_
    intro a fr
    refine lst rfl (ow_v fr (rn_pick_t (fr.ev rfl) (fr.ev rfl)) rfl rfl ?_)
    intro a fr
    refine wpList_nil ?_
    refine then_n ?_
    refine cond_t fr rfl rfl ?_
    refine wp_seq ?_
    refine reg ?_
    refine lst rfl (ow_v fr (rn_assign (fr.ev rfl)) rfl rfl ?_)
    intro a fr
    refine wpList_nil ?_
    refine then_n ?_
    refine wp_ret ?_
    refine then_r ?_
    refine ret1 Try.results16 fr (rv_tmp fr rfl) ?_
    exact ⟨rfl, st.agr⟩

theorem rdepth_calls (g : Nat) (A1 A2 : Option Addr) (c1 c2 : Nat) (ns : List ByteArray) (ss : List Int) (hf : HF ns.length ss) (n : Int) (d : Nat) (hdb : d ≤ 1000) (hd1 : ∀ j, j < d → 0 ≤ itS ss j n ∧ itS ss j n < ns.length) (hd2 : ¬ (0 ≤ itS ss d n ∧ itS ss d n < ns.length)) (w0 : World) (hok : RHOk g A1 A2 c1 c2 ns ss w0) : Calls Try.prog 32 #[.pointer (some ⟨g, 0, none⟩), .int .i64 n] w0 fun e w' => e = .returned (.int .i64 ((d : Nat) - 1)) ∧ Agr [] w0 w' := by
  have st : St w0 [] w0 [ro g 0 [.slice A1 ns.length c1, .slice A2 ss.length c2], els CS 1 A1 ns, els CI 1 A2 ss] := hok.st
  clear hok
  refine enter Try.func32 rfl Try.ntmps32 (by simp) ?_
  intro a fr
  refine wp_seq ?_
  refine reg ?_
  refine lst rfl (ow_v fr (rn_assign (fr.ev rfl)) rfl rfl ?_)
  intro a fr
  refine wpList_nil ?_
  refine then_n ?_
  refine wp_seq ?_
  refine reg ?_
  refine lst rfl (ow_v fr (rn_assign (fr.ev rfl)) rfl rfl ?_)
  intro a fr
  refine wpList_nil ?_
  refine then_n ?_
  refine wp_seq ?_
  refine wp_seq ?_
  refine reg ?_
  refine lst rfl (ow_v fr (rn_move (fr.ev rfl)) rfl rfl ?_)
  intro a fr
  refine lst rfl (ow_v fr (rn_assign (fr.ev rfl)) rfl rfl ?_)
  intro a fr
  refine wpList_nil ?_
  refine then_n ?_
  refine wp_block ?_
  refine wp_loop_ghost (fun mz a w => ∃ (i : Nat) (x : Int), (itS ss i n = x) ∧ (i ≤ d) ∧ mz = d - i ∧ FrL 21 a [(0, .pointer (some ⟨g, 0, none⟩)), (5, .int .i64 (((i : Nat) : Int) - 1)), (6, .int .i64 (x))] ∧ St w0 [] w [ro g 0 [.slice A1 ns.length c1, .slice A2 ss.length c2], els CS 1 A1 ns, els CI 1 A2 ss]) _ ⟨0, n, (rfl), (Nat.zero_le _), rfl, fr.prune ⟨rfl, rfl, rfl, trivial⟩, st⟩ ?_
  clear fr st
  intro mz a w hI
  obtain ⟨i, x, hc, hi, hmz, fr, st⟩ := hI
  by_cases hid : i < d
  · have hx := hd1 i hid
    rw [hc] at hx
    obtain ⟨q, rfl⟩ := Int.eq_ofNat_of_zero_le hx.1
    refine wp_seq ?_
    refine wp_seq ?_
    refine reg ?_
    refine lst rfl (ow_v fr (rn_move (fr.ev rfl)) rfl rfl ?_)
    intro a fr
    refine lst rfl (ow_v fr (rn_move (fr.ev rfl)) rfl rfl ?_)
    intro a fr
    refine lst rfl (ow_call fr rfl rfl Try.call30 (ris_t g _ _ c1 c2 ns ss ((q : Nat)) (hx) _ (rhok3 (st.get 0 rfl) (st.get 1 rfl) (st.get 2 rfl))) rfl rfl ?_)
    rintro e w ⟨rfl, hag⟩
    refine ⟨_, rfl, ?_⟩
    intro a fr
    have st := st.keep hag
    clear hag
    refine wpList_nil ?_
    refine then_n ?_
    refine cond_t fr rfl rfl ?_
    refine wp_skip ?_
    refine then_n ?_
    refine wp_seq ?_
    refine wp_block ?_
    refine reg ?_
    refine lst rfl (ow_v fr (rn_move (fr.ev rfl)) rfl rfl ?_)
    intro a fr
    refine lst rfl (ow_v fr (rn_add (c := ((i : Nat) : Int) - 1 + 1) (fr.ev rfl) (fr.ev rfl) (wr_i64e (by omega) (by omega) (by omega))) rfl rfl ?_)
    intro a fr
    refine lst rfl (ow_v fr (rn_assign (fr.ev rfl)) rfl rfl ?_)
    intro a fr
    refine wpList_nil ?_
    refine blk_n ?_
    refine then_n ?_
    refine reg ?_
    refine lst rfl (ow_v fr (rn_move (fr.ev rfl)) rfl rfl ?_)
    intro a fr
    refine lst rfl (ow_v fr (rn_nilCheck (fr.ev rfl)) rfl rfl ?_)
    intro a fr
    refine lst rfl (ow_v fr (fa_62_1 (fr.ev rfl)) rfl rfl ?_)
    intro a fr
    refine lst rfl (ow_v fr (rn_load (fr.ev rfl) Try.underlying43 rfl (st.rocell 0 rfl (j := 1) rfl)) rfl rfl ?_)
    intro a fr
    refine lst rfl (ow_v fr (rn_move (fr.ev rfl)) rfl rfl ?_)
    intro a fr
    have hqs : q < ss.length := by have := hf.len; omega
    obtain ⟨b1, o2, eA, st_⟩ := st.elem 2 rfl q (by have := hf.len; omega) (by simp [CI])
    have fr_ := fr
    cases eA
    have st := st_
    have fr := fr_
    clear st_ fr_
    obtain ⟨y, hx_ss_y⟩ : ∃ y, ss[q] = y := ⟨_, rfl⟩
    rw [hx_ss_y] at st
    replace st : St _ [] w [ro b1 (o2 + q * 1) [.int .i64 (y)], ro g 0 [.slice A1 ns.length c1, .slice (some ⟨b1, o2, none⟩) ss.length c2], els CS 1 A1 ns, els CI 1 (some ⟨b1, o2, none⟩) ss] := st
    refine lst rfl (ow_v fr (rn_at (i := q) (fr.ev rfl) (fr.ev rfl) Try.underlying43 sz_3 (by have := hf.len; omega) (by rfl)) rfl rfl ?_)
    intro a fr
    refine lst rfl (ow_v fr (rn_load (fr.ev rfl) Try.underlying3 rfl (st.rocell 0 rfl (j := 0) rfl)) rfl rfl ?_)
    intro a fr
    refine lst rfl (ow_v fr (rn_assign (fr.ev rfl)) rfl rfl ?_)
    intro a fr
    refine wpList_nil ?_
    have hsl : ((i : Nat) : Int) - 1 + 1 = (((i + 1 : Nat)) : Int) - 1 := by omega
    rw [hsl] at fr
    refine then_n ⟨d - (i + 1), ?_, i + 1, y, (itS_succ hc (by have := hf.len; omega) hx_ss_y), (by omega), rfl, fr.prune ⟨rfl, rfl, rfl, trivial⟩, st.sub (.cons _ (.cons_cons _ (.cons_cons _ (.cons_cons _ .slnil))))⟩
    omega
  · have hide : i = d := by omega
    subst hide
    have hx := hd2
    rw [hc] at hx
    refine wp_seq ?_
    refine wp_seq ?_
    refine reg ?_
    refine lst rfl (ow_v fr (rn_move (fr.ev rfl)) rfl rfl ?_)
    intro a fr
    refine lst rfl (ow_v fr (rn_move (fr.ev rfl)) rfl rfl ?_)
    intro a fr
    refine lst rfl (ow_call fr rfl rfl Try.call30 (ris_f g _ _ c1 c2 ns ss (x) (hx) _ (rhok3 (st.get 0 rfl) (st.get 1 rfl) (st.get 2 rfl))) rfl rfl ?_)
    rintro e w ⟨rfl, hag⟩
    refine ⟨_, rfl, ?_⟩
    intro a fr
    have st := st.keep hag
    clear hag
    refine wpList_nil ?_
    refine then_n ?_
    refine cond_f fr rfl rfl ?_
    refine wp_exit ?_
    refine then_x ?_
    refine then_x ?_
    refine blk_x ?_
    refine then_n ?_
    refine wp_seq ?_
    refine reg ?_
    refine lst rfl (ow_v fr (rn_move (fr.ev rfl)) rfl rfl ?_)
    intro a fr
    refine lst rfl (ow_v fr (rn_assign (fr.ev rfl)) rfl rfl ?_)
    intro a fr
    refine wpList_nil ?_
    refine then_n ?_
    refine wp_ret ?_
    refine ret1 Try.results32 fr (rv_tmp fr rfl) ?_
    exact ⟨rfl, st.agr⟩

end Go.Proofs.Ytnggnacaghcclaa.H6
