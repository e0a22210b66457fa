import Derived.Test.YtnggnacaghcclaaH11
import Derived.Test.YtnggnacaghcclaaLibQ
set_option linter.unusedVariables false
set_option linter.unusedSimpArgs false
namespace Go.Proofs.Ytnggnacaghcclaa.H12
open Go.RowKit Go.Proofs.Ytnggnacaghcclaa.LibA Go.Proofs.Ytnggnacaghcclaa.LibC Go.Proofs.Ytnggnacaghcclaa.LibS Go.Proofs.Ytnggnacaghcclaa.LibR Go.Proofs.Ytnggnacaghcclaa.LibT Go.Proofs.Ytnggnacaghcclaa.LibU Go.Proofs.Ytnggnacaghcclaa.LibV Go.Proofs.Ytnggnacaghcclaa.LibW Go.Proofs.Ytnggnacaghcclaa.LibX Go.Proofs.Ytnggnacaghcclaa.LibY Go.Proofs.Ytnggnacaghcclaa.LibZ Go.Proofs.Ytnggnacaghcclaa.LibQ Go.Proofs.Ytnggnacaghcclaa.H1 Go.Proofs.Ytnggnacaghcclaa.H2 Go.Proofs.Ytnggnacaghcclaa.H3 Go.Proofs.Ytnggnacaghcclaa.H4 Go.Proofs.Ytnggnacaghcclaa.H5 Go.Proofs.Ytnggnacaghcclaa.H6 Go.Proofs.Ytnggnacaghcclaa.H7 Go.Proofs.Ytnggnacaghcclaa.H8 Go.Proofs.Ytnggnacaghcclaa.H10
theorem flt_succ (f : Nat → Nat) (k : Nat) : ∀ l : List Nat, (l.filter fun i => decide (f i < k + 1)).length = (l.filter fun i => decide (f i < k)).length + (l.filter fun i => f i == k).length
  | [] => rfl
  | x :: l => by
    have ih := flt_succ f k l
    rcases Nat.lt_trichotomy (f x) k with h | h | h
    · have h1 : f x < k + 1 := by omega
      have h2 : (f x == k) = false := by simp; omega
      simp [List.filter_cons, h, h1, h2]; omega
    · have h1 : f x < k + 1 := by omega
      have h2 : ¬ f x < k := by omega
      simp [List.filter_cons, h]; omega
    · have h1 : ¬ f x < k + 1 := by omega
      have h2 : ¬ f x < k := by omega
      have h3 : (f x == k) = false := by simp; omega
      simp [List.filter_cons, h1, h2, h3]; omega
theorem flt_all (f : Nat → Nat) (L : Nat) : ∀ k, ((List.range k).flatMap fun d => (List.range L).filter fun i => f i == d).length = ((List.range L).filter fun i => decide (f i < k)).length
  | 0 => by
    have : (List.range L).filter (fun i => decide (f i < 0)) = [] := List.filter_eq_nil_iff.2 (by simp)
    rw [this]
    rfl
  | k + 1 => by
    rw [List.range_succ, List.flatMap_append, List.length_append, flt_all f L k, flt_succ]
    simp
theorem dpF_le (ss : List Int) (L n : Nat) : dpF ss L n ≤ L := by
  unfold dpF
  have := (List.takeWhile_sublist (p := fun i => decide (0 ≤ itS ss i (n : Int))) (l := List.range (L + 1))).length_le
  simp at this
  omega
theorem oI_all_len (ss : List Int) (L : Nat) : (oI ss L (L + 1) 0).length = L := by
  unfold oI ordP
  rw [List.length_map, List.length_append, flt_all]
  have : (List.range L).filter (fun i => decide (dpF ss L i < L + 1)) = List.range L := by
    rw [List.filter_eq_self]
    intro i _
    have := dpF_le ss L i
    simp; omega
  rw [this]
  simp
theorem oI_step (ss : List Int) (L k j : Nat) : oI ss L k j <+: oI ss L k (j + 1) := by
  by_cases h : dpF ss L j = k
  · rw [← oI_y h]; exact List.prefix_append _ _
  · rw [oI_n h]; exact List.prefix_rfl
theorem oI_row (ss : List Int) (L k j : Nat) : ∀ i, oI ss L k j <+: oI ss L k (j + i)
  | 0 => List.prefix_rfl
  | i + 1 => (oI_row ss L k j i).trans (oI_step ss L k (j + i))
theorem oI_rows (ss : List Int) (L k : Nat) : ∀ i, oI ss L k 0 <+: oI ss L (k + i) 0
  | 0 => List.prefix_rfl
  | i + 1 => (oI_rows ss L k i).trans (by
    have := oI_row ss L (k + i) 0 L
    rw [Nat.zero_add, oI_next] at this
    exact this)
theorem oI_pre {ss : List Int} {L k j : Nat} (hk : k ≤ L) (hj : j ≤ L) : oI ss L k j <+: oI ss L (L + 1) 0 := by
  have h1 := oI_row ss L k j (L - j)
  rw [show j + (L - j) = L by omega, oI_next] at h1
  have h2 := oI_rows ss L (k + 1) (L - k)
  rw [show k + 1 + (L - k) = L + 1 by omega] at h2
  exact h1.trans h2
theorem oI_done {ss : List Int} {L k : Nat} (hk : k ≤ L + 1) (h : (oI ss L k 0).length = L) : oI ss L k 0 = oI ss L (L + 1) 0 := by
  have h2 := oI_rows ss L k (L + 1 - k)
  rw [show k + (L + 1 - k) = L + 1 by omega] at h2
  exact h2.eq_of_length (by rw [h, oI_all_len])
theorem oI_left {ss : List Int} {L k r : Nat} (hk : k ≤ L + 1) (h : r + (oI ss L k 0).length = L) (hr : 0 < r) : k ≤ L := by
  rcases Nat.lt_or_ge k (L + 1) with h1 | h1
  · omega
  · have : k = L + 1 := by omega
    subst this
    rw [oI_all_len] at h
    omega
theorem oI_lt {ss : List Int} {L k j : Nat} (hk : k ≤ L) (hj : j < L) (h : dpF ss L j = k) : (oI ss L k j).length < L := by
  have h1 := (oI_pre (ss := ss) hk (show j + 1 ≤ L by omega)).length_le
  rw [← oI_y h, oI_all_len] at h1
  simp at h1
  omega

theorem sz_4 : (Try.prog.info? 4).map (·.size) = some 1 := by kernel_rfl
theorem sz_23 : (Try.prog.info? 23).map (·.size) = some 1 := by kernel_rfl
theorem zv_4 : ∀ w : World, (zeroValue 4).run Try.prog w = .ok (.bool false) w := fun w => by kernel_rfl
theorem order_calls (p : Option Addr) (w0 : World) : Calls Try.prog 18 #[.pointer p] w0 fun e w' => ∃ b, e = .returned (.func (.func 31) #[] #[.pointer (some ⟨b, 0, none⟩)]) ∧ St w0 [] w' [.blk b [.pointer p] 23] ∧ w0.heap.size ≤ b := by
  have st := St.start w0 []
  refine enter Try.func18 rfl Try.ntmps18 (by simp) ?_
  intro a fr
  refine wp_seq ?_
  refine reg ?_
  refine lst rfl (ow_box fr st rfl rfl rfl rfl ([(.pointer p)]) (by rfl) ?_)
  intro a w b1 fr st
  refine lst rfl (ow_v fr (rn_assign (fr.ev rfl)) rfl rfl ?_)
  intro a fr
  refine wpList_nil ?_
  refine then_n ?_
  refine wp_seq ?_
  refine reg ?_
  refine lst rfl (ow_v fr (rn_makeFunc fr (xs := [.tmp 1]) rfl) rfl rfl ?_)
  intro a fr
  refine lst rfl (ow_v fr (rn_assign (fr.ev rfl)) rfl rfl ?_)
  intro a fr
  refine wpList_nil ?_
  refine then_n ?_
  refine wp_ret ?_
  refine ret1 Try.results18 fr (rv_tmp fr rfl) ?_
  exact ⟨_, rfl, st, by simpa using It.ok_own (st.get 0 rfl) rfl b1 (by simp [It.fp])⟩

theorem order_seq (g m b n0 : Nat) (A1 A2 : Option Addr) (c1 c2 : Nat) (ns : List ByteArray) (ss : List Int) (hf : HF ns.length ss) (wq : World) (st : St wq [] wq [ro b 0 [.pointer (some ⟨g, 0, none⟩)], ro g 0 [.slice A1 ns.length c1, .slice A2 ss.length c2, (.map (some m))], els CS 1 A1 ns, els CI 1 A2 ss, mapRo kS vN m ((mL ns))]) (hlt : ∀ it ∈ [ro b 0 [.pointer (some ⟨g, 0, none⟩)], ro g 0 [.slice A1 ns.length c1, .slice A2 ss.length c2, (.map (some m))], els CS 1 A1 ns, els CI 1 A2 ss, mapRo kS vN m ((mL ns))], ∀ c ∈ it.fp, c < n0) (k : Nat) : SeqStopsK Fence.wide k Try.prog 31 #[.pointer (some ⟨b, 0, none⟩)] (fun x : Int => #[.int .i64 x]) (Below n0) (fun xs => xs = (oI ss ns.length (ns.length + 1) 0)) (fun pre => pre <+: (oI ss ns.length (ns.length + 1) 0)) (oI ss ns.length (ns.length + 1) 0).length wq := by
  intro l J Jx w0 hW hJA hJx hY h0
  have st : St w0 [] w0 [ro b 0 [.pointer (some ⟨g, 0, none⟩)], ro g 0 [.slice A1 ns.length c1, .slice A2 ss.length c2, (.map (some m))], els CS 1 A1 ns, els CI 1 A2 ss, mapRo kS vN m ((mL ns))] := (st.keep (Agr.of_below hW)).reroot
  refine seq_calls (vs := [.func (.yield l) #[] #[], .pointer (some ⟨b, 0, none⟩)]) ?_ _
  have hfh := hf.high
  refine enter Try.func31 rfl Try.ntmps31 (by simp) ?_
  intro a fr
  refine wp_seq ?_
  refine reg ?_
  refine lst rfl (ow_v fr (rn_load (fr.ev rfl) Try.underlying23 rfl (st.rocell 0 rfl (j := 0) rfl)) rfl rfl ?_)
  intro a fr
  refine lst rfl (ow_call fr rfl rfl Try.call9 (len_calls g m _ _ c1 c2 ns ss _ (hok4 (st.get 1 rfl) (st.get 2 rfl) (st.get 3 rfl) (st.get 4 rfl))) rfl rfl ?_)
  rintro e w ⟨rfl, hag⟩
  refine ⟨_, rfl, ?_⟩
  intro a fr
  have st := st.keep hag
  clear hag
  refine lst rfl (ow_v fr (rn_assign (fr.ev rfl)) rfl rfl ?_)
  intro a fr
  refine wpList_nil ?_
  refine then_n ?_
  refine wp_seq ?_
  refine reg ?_
  refine lst rfl (ow_v fr (rn_assign (fr.ev rfl)) rfl rfl ?_)
  intro a fr
  refine wpList_nil ?_
  refine then_n ?_
  refine wp_block ?_
  refine wp_loop_ghost (fun mz a w => ∃ (wb : World) (d : Nat) (r : Nat), (d ≤ ns.length + 1) ∧ (r + (oI ss ns.length d 0).length = ns.length) ∧ (J (oI ss ns.length d 0) wb) ∧ mz = ns.length + 1 - d ∧ FrL 29 a [(0, (.func (.yield l) #[] #[])), (1, .pointer (some ⟨b, 0, none⟩)), (3, .int .i64 ((r : Nat))), (4, .int .i64 ((d : Nat)))] ∧ St wb [] w [ro b 0 [.pointer (some ⟨g, 0, none⟩)], ro g 0 [.slice A1 ns.length c1, .slice A2 ss.length c2, (.map (some m))], els CS 1 A1 ns, els CI 1 A2 ss, mapRo kS vN m ((mL ns))]) _ ⟨w0, 0, ns.length, (Nat.zero_le _), (by simp [oI, ordP]), (by simpa [oI, ordP] using h0), rfl, fr.prune ⟨rfl, rfl, rfl, rfl, trivial⟩, st⟩ ?_
  clear fr st
  intro mz a w hI
  obtain ⟨wb, d, r, hd, hr, hJ, hmz, fr, st⟩ := hI
  by_cases hr0 : 0 < r
  · have hdl := oI_left hd hr hr0
    refine wp_seq ?_
    refine wp_seq ?_
    refine reg ?_
    refine lst rfl (ow_v fr (rn_move (fr.ev rfl)) rfl rfl ?_)
    intro a fr
    refine lst rfl (ow_v fr (rn_as (v' := .bool true) (rn_gtr (fr.ev rfl) (fr.ev rfl)) (congrArg Value.bool (decide_eq_true (by omega)))) rfl rfl ?_)
    intro a fr
    refine wpList_nil ?_
    refine then_n ?_
    refine cond_t fr rfl rfl ?_
    refine wp_skip ?_
    refine then_n ?_
    refine wp_seq ?_
    refine wp_block ?_
    refine wp_seq ?_
    refine reg ?_
    refine lst rfl (ow_v fr (rn_load (fr.ev rfl) Try.underlying23 rfl (st.rocell 0 rfl (j := 0) rfl)) rfl rfl ?_)
    intro a fr
    refine lst rfl (ow_call fr rfl rfl Try.call9 (len_calls g m _ _ c1 c2 ns ss _ (hok4 (st.get 1 rfl) (st.get 2 rfl) (st.get 3 rfl) (st.get 4 rfl))) rfl rfl ?_)
    rintro e w ⟨rfl, hag⟩
    refine ⟨_, rfl, ?_⟩
    intro a fr
    have st := st.keep hag
    clear hag
    refine lst rfl (ow_v fr (rn_move (fr.ev rfl)) rfl rfl ?_)
    intro a fr
    refine wpList_nil ?_
    refine then_n ?_
    refine wp_block ?_
    refine wp_loop_ghost (fun mz a w => ∃ (wb2 : World) (j : Nat) (r2 : Nat), (j ≤ ns.length) ∧ (r2 + (oI ss ns.length d j).length = ns.length) ∧ (J (oI ss ns.length d j) wb2) ∧ mz = ns.length - j ∧ FrL 29 a [(0, (.func (.yield l) #[] #[])), (1, .pointer (some ⟨b, 0, none⟩)), (3, .int .i64 ((r2 : Nat))), (4, .int .i64 ((d : Nat))), (13, .int .i64 ((ns.length : Nat))), (14, .int .i64 ((j : Nat)))] ∧ St wb2 [] w [ro b 0 [.pointer (some ⟨g, 0, none⟩)], ro g 0 [.slice A1 ns.length c1, .slice A2 ss.length c2, (.map (some m))], els CS 1 A1 ns, els CI 1 A2 ss, mapRo kS vN m ((mL ns))]) _ ⟨wb, 0, r, (Nat.zero_le _), (hr), (hJ), rfl, fr.prune ⟨rfl, rfl, rfl, rfl, rfl, rfl, trivial⟩, st⟩ ?_
    clear fr st
    intro mz a w hI
    obtain ⟨wb2, j, r2, hj, hr2, hJ2, hmz, fr, st⟩ := hI
    by_cases hjl : j < ns.length
    · by_cases hdp : dpF ss ns.length j = d
      · refine wp_seq ?_
        refine reg ?_
        refine lst rfl (ow_v fr (rn_as (v' := .bool true) (rn_lss (fr.ev rfl) (fr.ev rfl)) (congrArg Value.bool (decide_eq_true (by omega)))) rfl rfl ?_)
        intro a fr
        refine wpList_nil ?_
        refine then_n ?_
        refine wp_seq ?_
        refine cond_t fr rfl rfl ?_
        refine wp_skip ?_
        refine then_n ?_
        refine wp_seq ?_
        refine wp_block ?_
        refine wp_seq ?_
        refine reg ?_
        refine lst rfl (ow_v fr (rn_move (fr.ev rfl)) rfl rfl ?_)
        intro a fr
        refine lst rfl (ow_v fr (rn_assign (fr.ev rfl)) rfl rfl ?_)
        intro a fr
        refine wpList_nil ?_
        refine then_n ?_
        refine wp_seq ?_
        refine wp_seq ?_
        refine reg ?_
        refine lst rfl (ow_v fr (rn_load (fr.ev rfl) Try.underlying23 rfl (st.rocell 0 rfl (j := 0) rfl)) rfl rfl ?_)
        intro a fr
        refine lst rfl (ow_v fr (rn_move (fr.ev rfl)) rfl rfl ?_)
        intro a fr
        refine lst rfl (ow_call fr rfl rfl Try.call12 (depth_f g m _ _ c1 c2 ns ss hf j hjl _ (hok4 (st.get 1 rfl) (st.get 2 rfl) (st.get 3 rfl) (st.get 4 rfl))) rfl rfl ?_)
        rintro e w ⟨rfl, hag⟩
        refine ⟨_, rfl, ?_⟩
        intro a fr
        have st := st.keep hag
        clear hag
        refine lst rfl (ow_v fr (rn_move (fr.ev rfl)) rfl rfl ?_)
        intro a fr
        refine lst rfl (ow_v fr (rn_as (v' := .bool false) (rn_neq (fr.ev rfl) (fr.ev rfl)) (congrArg Value.bool (by simp [hdp]))) rfl rfl ?_)
        intro a fr
        refine wpList_nil ?_
        refine then_n ?_
        refine cond_f fr rfl rfl ?_
        refine wp_skip ?_
        refine then_n ?_
        refine wp_seq ?_
        refine wp_seq ?_
        refine (wpIn_wide (n := 0)).1 ?_
        refine regI ?_
        refine lstI (fun _ h => by cases h) rfl (ow_v fr (rn_move (fr.ev rfl)) rfl rfl ?_)
        intro a fr
        refine lstI (fun _ h => by cases h) rfl (ow_v fr (rn_move (fr.ev rfl)) rfl rfl ?_)
        intro a fr
        have hlt1 := oI_lt hdl hjl hdp
        have hq := abide hJA hJ2 st
        refine lst_yields fr rfl rfl rfl rfl rfl rfl (hY _ ((j : Nat) : Int) _ hq (by rw [oI_all_len]; exact hlt1)) ?_
        rintro e w (⟨rfl, hJ3, hk3⟩ | ⟨rfl, hJ3⟩)
        · refine ⟨_, rfl, ?_⟩
          intro a fr
          have st := st_over st hk3 (all_ro rfl) hlt
          rw [oI_y hdp] at hJ3
          refine lstI (fun _ h => by cases h) rfl (ow_v fr (rn_not (fr.ev rfl)) rfl rfl ?_)
          intro a fr
          refine wpListIn_nil ?_
          refine then_n ?_
          refine cond_f fr rfl rfl ?_
          refine wp_skip ?_
          refine then_n ?_
          refine reg ?_
          refine lst rfl (ow_v fr (rn_move (fr.ev rfl)) rfl rfl ?_)
          intro a fr
          refine lst rfl (ow_v fr (rn_sub (c := ((r2 - 1 : Nat) : Int)) (fr.ev rfl) (fr.ev rfl) (wr_i64e (by omega) (by omega) (by omega))) rfl rfl ?_)
          intro a fr
          refine lst rfl (ow_v fr (rn_assign (fr.ev rfl)) rfl rfl ?_)
          intro a fr
          refine wpList_nil ?_
          refine blk_n ?_
          refine then_n ?_
          refine reg ?_
          refine lst rfl (ow_v fr (rn_add (c := ((j + 1 : Nat) : Int)) (fr.ev rfl) (fr.ev rfl) (wr_i64e (by omega) (by omega) (by omega))) rfl rfl ?_)
          intro a fr
          refine lst rfl (ow_v fr (rn_move (fr.ev rfl)) rfl rfl ?_)
          intro a fr
          refine wpList_nil ?_
          refine then_n ⟨ns.length - (j + 1), ?_, _, j + 1, r2 - 1, (by omega), (by rw [← oI_y hdp]; simp; omega), (hJ3), rfl, fr.prune ⟨rfl, rfl, rfl, rfl, rfl, rfl, trivial⟩, st⟩
          omega
        · refine ⟨_, rfl, ?_⟩
          intro a fr
          rw [oI_y hdp] at hJ3
          refine lstI (fun _ h => by cases h) rfl (ow_v fr (rn_not (fr.ev rfl)) rfl rfl ?_)
          intro a fr
          refine wpListIn_nil ?_
          refine then_n ?_
          refine cond_t fr rfl rfl ?_
          refine wp_ret ?_
          refine then_r ?_
          refine blk_r ?_
          refine then_r ?_
          refine then_r ?_
          refine blk_r ?_
          refine blk_r ?_
          refine then_r ?_
          refine then_r ?_
          refine blk_r ?_
          refine ret0 Try.results31 fr  ?_
          exact ⟨⟨_, rfl⟩, .inr ⟨_, oI_pre hdl hjl, hJ3⟩⟩
      · refine wp_seq ?_
        refine reg ?_
        refine lst rfl (ow_v fr (rn_as (v' := .bool true) (rn_lss (fr.ev rfl) (fr.ev rfl)) (congrArg Value.bool (decide_eq_true (by omega)))) rfl rfl ?_)
        intro a fr
        refine wpList_nil ?_
        refine then_n ?_
        refine wp_seq ?_
        refine cond_t fr rfl rfl ?_
        refine wp_skip ?_
        refine then_n ?_
        refine wp_seq ?_
        refine wp_block ?_
        refine wp_seq ?_
        refine reg ?_
        refine lst rfl (ow_v fr (rn_move (fr.ev rfl)) rfl rfl ?_)
        intro a fr
        refine lst rfl (ow_v fr (rn_assign (fr.ev rfl)) rfl rfl ?_)
        intro a fr
        refine wpList_nil ?_
        refine then_n ?_
        refine wp_seq ?_
        refine wp_seq ?_
        refine reg ?_
        refine lst rfl (ow_v fr (rn_load (fr.ev rfl) Try.underlying23 rfl (st.rocell 0 rfl (j := 0) rfl)) rfl rfl ?_)
        intro a fr
        refine lst rfl (ow_v fr (rn_move (fr.ev rfl)) rfl rfl ?_)
        intro a fr
        refine lst rfl (ow_call fr rfl rfl Try.call12 (depth_f g m _ _ c1 c2 ns ss hf j hjl _ (hok4 (st.get 1 rfl) (st.get 2 rfl) (st.get 3 rfl) (st.get 4 rfl))) rfl rfl ?_)
        rintro e w ⟨rfl, hag⟩
        refine ⟨_, rfl, ?_⟩
        intro a fr
        have st := st.keep hag
        clear hag
        refine lst rfl (ow_v fr (rn_move (fr.ev rfl)) rfl rfl ?_)
        intro a fr
        refine lst rfl (ow_v fr (rn_as (v' := .bool true) (rn_neq (fr.ev rfl) (fr.ev rfl)) (congrArg Value.bool (by simp; omega))) rfl rfl ?_)
        intro a fr
        refine wpList_nil ?_
        refine then_n ?_
        refine cond_t fr rfl rfl ?_
        refine wp_exit ?_
        refine then_x ?_
        refine blk_x ?_
        refine then_n ?_
        refine reg ?_
        refine lst rfl (ow_v fr (rn_add (c := ((j + 1 : Nat) : Int)) (fr.ev rfl) (fr.ev rfl) (wr_i64e (by omega) (by omega) (by omega))) rfl rfl ?_)
        intro a fr
        refine lst rfl (ow_v fr (rn_move (fr.ev rfl)) rfl rfl ?_)
        intro a fr
        refine wpList_nil ?_
        refine then_n ⟨ns.length - (j + 1), ?_, _, j + 1, r2, (by omega), (by rw [← oI_n hdp]; exact hr2), (by rw [← oI_n hdp]; exact hJ2), rfl, fr.prune ⟨rfl, rfl, rfl, rfl, rfl, rfl, trivial⟩, st⟩
        omega
    · have hje : j = ns.length := by omega
      subst hje
      refine wp_seq ?_
      refine reg ?_
      refine lst rfl (ow_v fr (rn_as (v' := .bool false) (rn_lss (fr.ev rfl) (fr.ev rfl)) (congrArg Value.bool (decide_eq_false (by omega)))) rfl rfl ?_)
      intro a fr
      refine wpList_nil ?_
      refine then_n ?_
      refine wp_seq ?_
      refine cond_f fr rfl rfl ?_
      refine wp_exit ?_
      refine then_x ?_
      refine then_x ?_
      refine blk_x ?_
      refine blk_n ?_
      refine then_n ?_
      refine reg ?_
      refine lst rfl (ow_v fr (rn_move (fr.ev rfl)) rfl rfl ?_)
      intro a fr
      refine lst rfl (ow_v fr (rn_add (c := ((d + 1 : Nat) : Int)) (fr.ev rfl) (fr.ev rfl) (wr_i64e (by omega) (by omega) (by omega))) rfl rfl ?_)
      intro a fr
      refine lst rfl (ow_v fr (rn_assign (fr.ev rfl)) rfl rfl ?_)
      intro a fr
      refine wpList_nil ?_
      refine then_n ⟨ns.length + 1 - (d + 1), ?_, _, d + 1, r2, (by omega), (by rw [← oI_next]; exact hr2), (by rw [← oI_next]; exact hJ2), rfl, fr.prune ⟨rfl, rfl, rfl, rfl, trivial⟩, st⟩
      omega
  · have hr1 : (oI ss ns.length d 0).length = ns.length := by omega
    refine wp_seq ?_
    refine wp_seq ?_
    refine reg ?_
    refine lst rfl (ow_v fr (rn_move (fr.ev rfl)) rfl rfl ?_)
    intro a fr
    refine lst rfl (ow_v fr (rn_as (v' := .bool false) (rn_gtr (fr.ev rfl) (fr.ev rfl)) (congrArg Value.bool (decide_eq_false (by omega)))) rfl rfl ?_)
    intro a fr
    refine wpList_nil ?_
    refine then_n ?_
    refine cond_f fr rfl rfl ?_
    refine wp_exit ?_
    refine then_x ?_
    refine then_x ?_
    refine blk_x ?_
    refine ret_end ?_
    refine ret0 Try.results31 fr  ?_
    refine ⟨⟨_, rfl⟩, .inl ⟨_, rfl, ?_⟩⟩
    rw [← oI_done hd hr1]
    exact abide hJA hJ st

theorem tells_calls (all : List Int) (A : Option Addr) (c b : Nat) (stop : Int) (hall : all.length ≤ 9223372036854775806) (w0 : World) (hseq : ∀ w1, Below w0.heap.size w0 w1 → ∀ k, SeqStopsK Fence.wide k Try.prog 31 #[.pointer (some ⟨b, 0, none⟩)] (fun x : Int => #[.int .i64 x]) (Below w0.heap.size) (fun xs => xs = all) (fun pre => pre <+: all) all.length w1) (ha : Els CI 1 w0 A all) : Calls Try.prog 17 #[(.func (.func 31) #[] #[.pointer (some ⟨b, 0, none⟩)]), .slice A all.length c, .int .i64 stop] w0 fun e w' => e = .returned (.bool true) ∧ Agr [] w0 w' := by
  have st : St w0 [] w0 [els CI 1 A all] := (add_ro (start0 w0 []) (by simp [els, It.wr]) rfl (els_ok (C := CI) (sz := 1) (by decide) (fun x => rfl) ha))
  clear ha
  refine enterM Try.func17 rfl Try.ntmps17 (by simp) 2 ?_
  intro a fr
  refine wpIn_seq ?_
  refine regI ?_
  refine lstI (fun _ h => by cases h) rfl (ow_box fr st rfl rfl rfl rfl ([.slice A all.length c]) (by rfl) ?_)
  intro a w b1 fr st
  refine lstI (fun _ h => by cases h) rfl (ow_box fr st rfl rfl rfl rfl ([.int .i64 (stop)]) (by rfl) ?_)
  intro a w b2 fr st
  refine lstI (fun _ h => by cases h) rfl (ow_alloc fr st rfl zv_4 rfl rfl _ (by rfl) ?_)
  intro a w b3 fr st
  refine wpListIn_nil ?_
  refine then_n ?_
  refine wpIn_seq ?_
  refine regI ?_
  refine lstI (fun _ h => by cases h) rfl (ow_alloc fr st rfl zv_3 rfl rfl _ (by rfl) ?_)
  intro a w b4 fr st
  refine lstI (fun _ h => by cases h) rfl (ow_st fr st 0 rfl rfl rfl rfl sz_3 rfl rfl rfl ?_)
  intro w (st : St _ [] w [.blk b4 [.int .i64 0] 3, .blk b3 [.bool false] 4, .blk b2 [.int .i64 (stop)] 3, .blk b1 [.slice A all.length c] 43, els CI 1 A all])
  refine wpListIn_nil ?_
  refine then_n ?_
  refine wpIn_seq ?_
  refine wpIn_seq ?_
  refine regI ?_
  refine lstI (fun _ h => by cases h) rfl (ow_v fr (rn_move (fr.ev rfl)) rfl rfl ?_)
  intro a fr
  refine wpListIn_nil ?_
  refine then_n ?_
  refine wpIn_block ?_
  refine range_law (m := 0) fr st rfl Try.call31 (encs := fun (x : Int) => #[.int .i64 (x)]) (hseq _ st.agr.below) (fun _ => rfl) (fun pre => [.blk b4 [.int .i64 ((pre.length : Nat))] 3, .blk b3 [.bool false] 4, .blk b2 [.int .i64 (stop)] 3, .blk b1 [.slice A all.length c] 43, els CI 1 A all]) (fun pre => pre <+: all) (fun jx pre => [.blk b3 [.bool (decide (pre <+: all))] 4, .blk b2 [.int .i64 (stop)] 3, .blk b1 [.slice A all.length c] 43, els CI 1 A all]) (fun jx pre => jx = .ret) (fun pre => fps_lt st rfl) (fun jx pre => fps_lt (st.sub (.cons _ (.cons_cons _ (.cons_cons _ (.cons_cons _ (.cons_cons _ .slnil)))))) rfl) (fun pre => all_blk rfl) (List.nil_prefix) rfl (fun x => as1 a 10 8 (.int .i64 (x))) (fun l x W K h => asg1 h) ?_ ?_ ?_
  · intro l pre x w hphi hlen st
    have fr := fr_as1 (p := 10) (d := 8) fr (.int .i64 (x)) rfl rfl
    replace st : St w [b4, b3, b2, b1] w [.blk b4 [.int .i64 ((pre.length : Nat))] 3, .blk b3 [.bool false] 4, .blk b2 [.int .i64 (stop)] 3, .blk b1 [.slice A all.length c] 43, els CI 1 A all] := st
    by_cases hx : all[pre.length] = x
    · by_cases hs : ((pre.length + 1 : Nat) : Int) = stop
      · refine wpIn_block ?_
        refine wpIn_seq ?_
        refine wpIn_seq ?_
        refine regI ?_
        refine lstI (fun _ h => by cases h) rfl (ow_v fr (rn_load (fr.ev rfl) Try.underlying3 rfl (st.cell 0 rfl rfl)) rfl rfl ?_)
        intro a fr
        refine lstI (fun _ h => by cases h) rfl (ow_v fr (rn_load (fr.ev rfl) Try.underlying43 rfl (st.cell 3 rfl rfl)) rfl rfl ?_)
        intro a fr
        refine lstI (fun _ h => by cases h) rfl (ow_v fr (rn_len (fr.ev rfl) Try.underlying43) rfl rfl ?_)
        intro a fr
        refine lstI (fun _ h => by cases h) rfl (ow_v fr (rn_as (v' := .bool false) (rn_geq (fr.ev rfl) (fr.ev rfl)) (congrArg Value.bool (decide_eq_false (by omega)))) rfl rfl ?_)
        intro a fr
        refine lstI (fun _ h => by cases h) rfl (ow_v fr (rn_move (fr.ev rfl)) rfl rfl ?_)
        intro a fr
        refine lstI_y (fun _ h => by cases h) (wanted_of fr rfl rfl rfl rfl) (ow_v fr (rn_move (fr.ev rfl)) rfl rfl ?_)
        intro a fr
        refine lstI_y (fun _ h => by cases h) (wanted_of fr rfl rfl rfl rfl) (ow_v fr (rn_load (fr.ev rfl) Try.underlying43 rfl (st.cell 3 rfl rfl)) rfl rfl ?_)
        intro a fr
        refine lstI_y (fun _ h => by cases h) (wanted_of fr rfl rfl rfl rfl) (ow_v fr (rn_load (fr.ev rfl) Try.underlying3 rfl (st.cell 0 rfl rfl)) rfl rfl ?_)
        intro a fr
        obtain ⟨b5, o6, eA, st_⟩ := st.elem 4 rfl pre.length hlen (by simp [CI])
        have fr_ := fr
        cases eA
        have st := st_
        have fr := fr_
        clear st_ fr_
        obtain ⟨y, hx_all_y⟩ : ∃ y, all[pre.length] = y := ⟨_, rfl⟩
        rw [hx_all_y] at st
        replace st : St _ [b4, b3, b2, b1] w [ro b5 (o6 + pre.length * 1) [.int .i64 (y)], .blk b4 [.int .i64 ((pre.length : Nat))] 3, .blk b3 [.bool false] 4, .blk b2 [.int .i64 (stop)] 3, .blk b1 [.slice (some ⟨b5, o6, none⟩) all.length c] 43, els CI 1 (some ⟨b5, o6, none⟩) all] := st
        refine lstI_y (fun _ h => by cases h) (wanted_of fr rfl rfl rfl rfl) (ow_v fr (rn_at (i := pre.length) (fr.ev rfl) (fr.ev rfl) Try.underlying43 sz_3 (by omega) (by rfl)) rfl rfl ?_)
        intro a fr
        refine lstI_y (fun _ h => by cases h) (wanted_of fr rfl rfl rfl rfl) (ow_v fr (rn_load (fr.ev rfl) Try.underlying3 rfl (st.rocell 0 rfl (j := 0) rfl)) rfl rfl ?_)
        intro a fr
        refine lstI_y (fun _ h => by cases h) (wanted_of fr rfl rfl rfl rfl) (ow_v fr (rn_as (v' := .bool false) (rn_neq (fr.ev rfl) (fr.ev rfl)) (congrArg Value.bool (by rw [← hx_all_y, hx]; simp))) rfl rfl ?_)
        intro a fr
        refine lstI (fun _ h => by cases h) rfl (ow_v fr (rn_pick_f (fr.ev rfl) (fr.ev rfl)) rfl rfl ?_)
        intro a fr
        refine wpListIn_nil ?_
        refine then_n ?_
        refine condI_f fr rfl rfl ?_
        refine wpIn_skip ?_
        refine then_n ?_
        refine wpIn_seq ?_
        refine regI ?_
        refine lstI (fun _ h => by cases h) rfl (ow_v fr (rn_load (fr.ev rfl) Try.underlying3 rfl (st.cell 1 rfl rfl)) rfl rfl ?_)
        intro a fr
        refine lstI (fun _ h => by cases h) rfl (ow_v fr (rn_add (c := ((pre.length + 1 : Nat) : Int)) (fr.ev rfl) (fr.ev rfl) (wr_i64e (by omega) (by omega) (by omega))) rfl rfl ?_)
        intro a fr
        refine lstI (fun _ h => by cases h) rfl (ow_st fr st 1 rfl rfl rfl rfl sz_3 rfl rfl rfl ?_)
        intro w (st : St _ [b4, b3, b2, b1] w [ro b5 (o6 + pre.length * 1) [.int .i64 (y)], .blk b4 [.int .i64 (((pre.length + 1 : Nat) : Int))] 3, .blk b3 [.bool false] 4, .blk b2 [.int .i64 (stop)] 3, .blk b1 [.slice (some ⟨b5, o6, none⟩) all.length c] 43, els CI 1 (some ⟨b5, o6, none⟩) all])
        refine wpListIn_nil ?_
        refine then_n ?_
        refine wpIn_seq ?_
        refine regI ?_
        refine lstI (fun _ h => by cases h) rfl (ow_v fr (rn_load (fr.ev rfl) Try.underlying3 rfl (st.cell 1 rfl rfl)) rfl rfl ?_)
        intro a fr
        refine lstI (fun _ h => by cases h) rfl (ow_v fr (rn_load (fr.ev rfl) Try.underlying3 rfl (st.cell 3 rfl rfl)) rfl rfl ?_)
        intro a fr
        refine lstI (fun _ h => by cases h) rfl (ow_v fr (rn_as (v' := .bool true) (rn_eql (fr.ev rfl) (fr.ev rfl)) (congrArg Value.bool (by simp; omega))) rfl rfl ?_)
        intro a fr
        refine wpListIn_nil ?_
        refine then_n ?_
        refine condI_t fr rfl rfl ?_
        refine wpIn_seq ?_
        refine regI ?_
        refine lstI (fun _ h => by cases h) rfl (ow_st fr st 2 rfl rfl rfl rfl sz_4 rfl rfl rfl ?_)
        intro w (st : St _ [b4, b3, b2, b1] w [ro b5 (o6 + pre.length * 1) [.int .i64 (y)], .blk b4 [.int .i64 (((pre.length + 1 : Nat) : Int))] 3, .blk b3 [.bool true] 4, .blk b2 [.int .i64 (stop)] 3, .blk b1 [.slice (some ⟨b5, o6, none⟩) all.length c] 43, els CI 1 (some ⟨b5, o6, none⟩) all])
        refine wpListIn_nil ?_
        refine then_n ?_
        refine wpIn_ret ?_
        refine blk_r ?_
        refine ⟨rfl, ?_⟩
        show St _ _ _ [.blk b3 [.bool (decide (pre ++ [x] <+: all))] 4, .blk b2 [.int .i64 (stop)] 3, .blk b1 [.slice (some ⟨b5, o6, none⟩) all.length c] 43, els CI 1 (some ⟨b5, o6, none⟩) all]
        rw [decide_eq_true (pre_snoc hphi hlen hx)]
        exact st.sub (.cons _ (.cons _ (.cons_cons _ (.cons_cons _ (.cons_cons _ (.cons_cons _ .slnil))))))
      · refine wpIn_block ?_
        refine wpIn_seq ?_
        refine wpIn_seq ?_
        refine regI ?_
        refine lstI (fun _ h => by cases h) rfl (ow_v fr (rn_load (fr.ev rfl) Try.underlying3 rfl (st.cell 0 rfl rfl)) rfl rfl ?_)
        intro a fr
        refine lstI (fun _ h => by cases h) rfl (ow_v fr (rn_load (fr.ev rfl) Try.underlying43 rfl (st.cell 3 rfl rfl)) rfl rfl ?_)
        intro a fr
        refine lstI (fun _ h => by cases h) rfl (ow_v fr (rn_len (fr.ev rfl) Try.underlying43) rfl rfl ?_)
        intro a fr
        refine lstI (fun _ h => by cases h) rfl (ow_v fr (rn_as (v' := .bool false) (rn_geq (fr.ev rfl) (fr.ev rfl)) (congrArg Value.bool (decide_eq_false (by omega)))) rfl rfl ?_)
        intro a fr
        refine lstI (fun _ h => by cases h) rfl (ow_v fr (rn_move (fr.ev rfl)) rfl rfl ?_)
        intro a fr
        refine lstI_y (fun _ h => by cases h) (wanted_of fr rfl rfl rfl rfl) (ow_v fr (rn_move (fr.ev rfl)) rfl rfl ?_)
        intro a fr
        refine lstI_y (fun _ h => by cases h) (wanted_of fr rfl rfl rfl rfl) (ow_v fr (rn_load (fr.ev rfl) Try.underlying43 rfl (st.cell 3 rfl rfl)) rfl rfl ?_)
        intro a fr
        refine lstI_y (fun _ h => by cases h) (wanted_of fr rfl rfl rfl rfl) (ow_v fr (rn_load (fr.ev rfl) Try.underlying3 rfl (st.cell 0 rfl rfl)) rfl rfl ?_)
        intro a fr
        obtain ⟨b7, o8, eA, st_⟩ := st.elem 4 rfl pre.length hlen (by simp [CI])
        have fr_ := fr
        cases eA
        have st := st_
        have fr := fr_
        clear st_ fr_
        obtain ⟨y, hx_all_y⟩ : ∃ y, all[pre.length] = y := ⟨_, rfl⟩
        rw [hx_all_y] at st
        replace st : St _ [b4, b3, b2, b1] w [ro b7 (o8 + pre.length * 1) [.int .i64 (y)], .blk b4 [.int .i64 ((pre.length : Nat))] 3, .blk b3 [.bool false] 4, .blk b2 [.int .i64 (stop)] 3, .blk b1 [.slice (some ⟨b7, o8, none⟩) all.length c] 43, els CI 1 (some ⟨b7, o8, none⟩) all] := st
        refine lstI_y (fun _ h => by cases h) (wanted_of fr rfl rfl rfl rfl) (ow_v fr (rn_at (i := pre.length) (fr.ev rfl) (fr.ev rfl) Try.underlying43 sz_3 (by omega) (by rfl)) rfl rfl ?_)
        intro a fr
        refine lstI_y (fun _ h => by cases h) (wanted_of fr rfl rfl rfl rfl) (ow_v fr (rn_load (fr.ev rfl) Try.underlying3 rfl (st.rocell 0 rfl (j := 0) rfl)) rfl rfl ?_)
        intro a fr
        refine lstI_y (fun _ h => by cases h) (wanted_of fr rfl rfl rfl rfl) (ow_v fr (rn_as (v' := .bool false) (rn_neq (fr.ev rfl) (fr.ev rfl)) (congrArg Value.bool (by rw [← hx_all_y, hx]; simp))) rfl rfl ?_)
        intro a fr
        refine lstI (fun _ h => by cases h) rfl (ow_v fr (rn_pick_f (fr.ev rfl) (fr.ev rfl)) rfl rfl ?_)
        intro a fr
        refine wpListIn_nil ?_
        refine then_n ?_
        refine condI_f fr rfl rfl ?_
        refine wpIn_skip ?_
        refine then_n ?_
        refine wpIn_seq ?_
        refine regI ?_
        refine lstI (fun _ h => by cases h) rfl (ow_v fr (rn_load (fr.ev rfl) Try.underlying3 rfl (st.cell 1 rfl rfl)) rfl rfl ?_)
        intro a fr
        refine lstI (fun _ h => by cases h) rfl (ow_v fr (rn_add (c := ((pre.length + 1 : Nat) : Int)) (fr.ev rfl) (fr.ev rfl) (wr_i64e (by omega) (by omega) (by omega))) rfl rfl ?_)
        intro a fr
        refine lstI (fun _ h => by cases h) rfl (ow_st fr st 1 rfl rfl rfl rfl sz_3 rfl rfl rfl ?_)
        intro w (st : St _ [b4, b3, b2, b1] w [ro b7 (o8 + pre.length * 1) [.int .i64 (y)], .blk b4 [.int .i64 (((pre.length + 1 : Nat) : Int))] 3, .blk b3 [.bool false] 4, .blk b2 [.int .i64 (stop)] 3, .blk b1 [.slice (some ⟨b7, o8, none⟩) all.length c] 43, els CI 1 (some ⟨b7, o8, none⟩) all])
        refine wpListIn_nil ?_
        refine then_n ?_
        refine wpIn_seq ?_
        refine regI ?_
        refine lstI (fun _ h => by cases h) rfl (ow_v fr (rn_load (fr.ev rfl) Try.underlying3 rfl (st.cell 1 rfl rfl)) rfl rfl ?_)
        intro a fr
        refine lstI (fun _ h => by cases h) rfl (ow_v fr (rn_load (fr.ev rfl) Try.underlying3 rfl (st.cell 3 rfl rfl)) rfl rfl ?_)
        intro a fr
        refine lstI (fun _ h => by cases h) rfl (ow_v fr (rn_as (v' := .bool false) (rn_eql (fr.ev rfl) (fr.ev rfl)) (congrArg Value.bool (by simp; omega))) rfl rfl ?_)
        intro a fr
        refine wpListIn_nil ?_
        refine then_n ?_
        refine condI_f fr rfl rfl ?_
        refine wpIn_skip ?_
        refine blk_n ?_
        refine ⟨pre_snoc hphi hlen hx, ?_⟩
        show St _ _ _ [.blk b4 [.int .i64 (((pre ++ [x]).length : Nat))] 3, .blk b3 [.bool false] 4, .blk b2 [.int .i64 (stop)] 3, .blk b1 [.slice (some ⟨b7, o8, none⟩) all.length c] 43, els CI 1 (some ⟨b7, o8, none⟩) all]
        rw [show (pre ++ [x]).length = pre.length + 1 by simp]
        exact st.sub (.cons _ (.cons_cons _ (.cons_cons _ (.cons_cons _ (.cons_cons _ (.cons_cons _ .slnil))))))
    · refine wpIn_block ?_
      refine wpIn_seq ?_
      refine wpIn_seq ?_
      refine regI ?_
      refine lstI (fun _ h => by cases h) rfl (ow_v fr (rn_load (fr.ev rfl) Try.underlying3 rfl (st.cell 0 rfl rfl)) rfl rfl ?_)
      intro a fr
      refine lstI (fun _ h => by cases h) rfl (ow_v fr (rn_load (fr.ev rfl) Try.underlying43 rfl (st.cell 3 rfl rfl)) rfl rfl ?_)
      intro a fr
      refine lstI (fun _ h => by cases h) rfl (ow_v fr (rn_len (fr.ev rfl) Try.underlying43) rfl rfl ?_)
      intro a fr
      refine lstI (fun _ h => by cases h) rfl (ow_v fr (rn_as (v' := .bool false) (rn_geq (fr.ev rfl) (fr.ev rfl)) (congrArg Value.bool (decide_eq_false (by omega)))) rfl rfl ?_)
      intro a fr
      refine lstI (fun _ h => by cases h) rfl (ow_v fr (rn_move (fr.ev rfl)) rfl rfl ?_)
      intro a fr
      refine lstI_y (fun _ h => by cases h) (wanted_of fr rfl rfl rfl rfl) (ow_v fr (rn_move (fr.ev rfl)) rfl rfl ?_)
      intro a fr
      refine lstI_y (fun _ h => by cases h) (wanted_of fr rfl rfl rfl rfl) (ow_v fr (rn_load (fr.ev rfl) Try.underlying43 rfl (st.cell 3 rfl rfl)) rfl rfl ?_)
      intro a fr
      refine lstI_y (fun _ h => by cases h) (wanted_of fr rfl rfl rfl rfl) (ow_v fr (rn_load (fr.ev rfl) Try.underlying3 rfl (st.cell 0 rfl rfl)) rfl rfl ?_)
      intro a fr
      obtain ⟨b9, o10, eA, st_⟩ := st.elem 4 rfl pre.length hlen (by simp [CI])
      have fr_ := fr
      cases eA
      have st := st_
      have fr := fr_
      clear st_ fr_
      obtain ⟨y, hx_all_y⟩ : ∃ y, all[pre.length] = y := ⟨_, rfl⟩
      rw [hx_all_y] at st
      replace st : St _ [b4, b3, b2, b1] w [ro b9 (o10 + pre.length * 1) [.int .i64 (y)], .blk b4 [.int .i64 ((pre.length : Nat))] 3, .blk b3 [.bool false] 4, .blk b2 [.int .i64 (stop)] 3, .blk b1 [.slice (some ⟨b9, o10, none⟩) all.length c] 43, els CI 1 (some ⟨b9, o10, none⟩) all] := st
      refine lstI_y (fun _ h => by cases h) (wanted_of fr rfl rfl rfl rfl) (ow_v fr (rn_at (i := pre.length) (fr.ev rfl) (fr.ev rfl) Try.underlying43 sz_3 (by omega) (by rfl)) rfl rfl ?_)
      intro a fr
      refine lstI_y (fun _ h => by cases h) (wanted_of fr rfl rfl rfl rfl) (ow_v fr (rn_load (fr.ev rfl) Try.underlying3 rfl (st.rocell 0 rfl (j := 0) rfl)) rfl rfl ?_)
      intro a fr
      refine lstI_y (fun _ h => by cases h) (wanted_of fr rfl rfl rfl rfl) (ow_v fr (rn_as (v' := .bool true) (rn_neq (fr.ev rfl) (fr.ev rfl)) (congrArg Value.bool (by rw [← hx_all_y]; simp; exact fun h => hx h.symm))) rfl rfl ?_)
      intro a fr
      refine lstI (fun _ h => by cases h) rfl (ow_v fr (rn_pick_f (fr.ev rfl) (fr.ev rfl)) rfl rfl ?_)
      intro a fr
      refine wpListIn_nil ?_
      refine then_n ?_
      refine condI_t fr rfl rfl ?_
      refine wpIn_seq ?_
      refine regI ?_
      refine lstI (fun _ h => by cases h) rfl (ow_st fr st 2 rfl rfl rfl rfl sz_4 rfl rfl rfl ?_)
      intro w (st : St _ [b4, b3, b2, b1] w [ro b9 (o10 + pre.length * 1) [.int .i64 (y)], .blk b4 [.int .i64 ((pre.length : Nat))] 3, .blk b3 [.bool false] 4, .blk b2 [.int .i64 (stop)] 3, .blk b1 [.slice (some ⟨b9, o10, none⟩) all.length c] 43, els CI 1 (some ⟨b9, o10, none⟩) all])
      refine wpListIn_nil ?_
      refine then_n ?_
      refine wpIn_ret ?_
      refine then_r ?_
      refine blk_r ?_
      refine ⟨rfl, ?_⟩
      show St _ _ _ [.blk b3 [.bool (decide (pre ++ [x] <+: all))] 4, .blk b2 [.int .i64 (stop)] 3, .blk b1 [.slice (some ⟨b9, o10, none⟩) all.length c] 43, els CI 1 (some ⟨b9, o10, none⟩) all]
      rw [decide_eq_false (pre_bad hlen hx)]
      exact st.sub (.cons _ (.cons _ (.cons_cons _ (.cons_cons _ (.cons_cons _ (.cons_cons _ .slnil))))))
  · intro D xs w hS hphi st
    replace fr := fr.mark (ds' := [dfD D])
    replace hS := hS.symm
    subst hS
    refine blk_n ?_
    refine then_n ?_
    refine wpIn_seq ?_
    refine regI ?_
    refine lstI (fun _ h => by cases h) rfl (ow_v fr (rn_load (fr.ev rfl) Try.underlying3 rfl (st.cell 1 rfl rfl)) rfl rfl ?_)
    intro a fr
    refine lstI (fun _ h => by cases h) rfl (ow_v fr (rn_load (fr.ev rfl) Try.underlying43 rfl (st.cell 4 rfl rfl)) rfl rfl ?_)
    intro a fr
    refine lstI (fun _ h => by cases h) rfl (ow_v fr (rn_len (fr.ev rfl) Try.underlying43) rfl rfl ?_)
    intro a fr
    refine lstI (fun _ h => by cases h) rfl (ow_v fr (rn_as (v' := .bool true) (rn_eql (fr.ev rfl) (fr.ev rfl)) (congrArg Value.bool (by simp))) rfl rfl ?_)
    intro a fr
    refine lstI (fun _ h => by cases h) rfl (ow_st fr st 2 rfl rfl rfl rfl sz_4 rfl rfl rfl ?_)
    intro w (st : St _ [] w [dfr D, .blk b4 [.int .i64 ((all.length : Nat))] 3, .blk b3 [.bool true] 4, .blk b2 [.int .i64 (stop)] 3, .blk b1 [.slice A all.length c] 43, els CI 1 A all])
    refine wpListIn_nil ?_
    refine then_n ?_
    refine wpIn_ret ?_
    refine retM1 Try.results17 fr st (fun w st => rv_cell fr rfl Try.underlying4 rfl (st.cell 1 rfl rfl)) (fun w st => ?_)
    exact ⟨rfl, st.agr⟩
  · intro D jx pre w hS hphi st
    replace fr := fr.mark (ds' := [dfD D])
    subst hphi
    refine wpIn_ret ?_
    refine blk_r ?_
    refine then_r ?_
    refine retM1 Try.results17 fr st (fun w st => rv_cell fr rfl Try.underlying4 rfl (st.cell 0 rfl rfl)) (fun w st => ?_)
    exact ⟨by rw [decide_eq_true hS], st.agr⟩

end Go.Proofs.Ytnggnacaghcclaa.H12
