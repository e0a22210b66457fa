import Derived.Test.YtnggnacaghcclaaH6
set_option linter.unusedVariables false
set_option linter.unusedSimpArgs false
namespace Go.Proofs.Ytnggnacaghcclaa.H7
open Go.RowKit Go.Proofs.Ytnggnacaghcclaa.LibA Go.Proofs.Ytnggnacaghcclaa.LibC Go.Proofs.Ytnggnacaghcclaa.LibS Go.Proofs.Ytnggnacaghcclaa.LibR Go.Proofs.Ytnggnacaghcclaa.LibT Go.Proofs.Ytnggnacaghcclaa.LibU Go.Proofs.Ytnggnacaghcclaa.LibV Go.Proofs.Ytnggnacaghcclaa.LibW Go.Proofs.Ytnggnacaghcclaa.LibX Go.Proofs.Ytnggnacaghcclaa.H1 Go.Proofs.Ytnggnacaghcclaa.H2 Go.Proofs.Ytnggnacaghcclaa.H3 Go.Proofs.Ytnggnacaghcclaa.H4 Go.Proofs.Ytnggnacaghcclaa.H5 Go.Proofs.Ytnggnacaghcclaa.H6
/-- how many stand above n, as a number -/
def dpF (ss : List Int) (L n : Nat) : Nat := ((List.range (L + 1)).takeWhile fun i => decide (0 ≤ itS ss i (n : Int))).length - 1
theorem tw_len (p : Nat → Bool) : ∀ (m s d : Nat), d < m → (∀ j, j < d → p (s + j) = true) → p (s + d) = false → ((List.range' s m).takeWhile p).length = d
  | 0, s, d, h, _, _ => by omega
  | m + 1, s, 0, h, _, h2 => by rw [List.range'_succ, List.takeWhile_cons]; rw [Nat.add_zero] at h2; simp [h2]
  | m + 1, s, d + 1, h, h1, h2 => by
    rw [List.range'_succ, List.takeWhile_cons]
    have h0 := h1 0 (by omega)
    rw [Nat.add_zero] at h0
    simp only [h0, if_true, List.length_cons]
    rw [tw_len p m (s + 1) d (by omega) (fun j hj => by rw [show s + 1 + j = s + (j + 1) by omega]; exact h1 (j + 1) (by omega)) (by rw [show s + 1 + d = s + (d + 1) by omega]; exact h2)]
theorem dpF_of {L : Nat} {ss : List Int} (hf : HF L ss) {n d : Nat} (hn : n < L) (h1 : ∀ j, j < d → 0 ≤ itS ss j (n : Int)) (h2 : itS ss d (n : Int) < 0) : dpF ss L n = d - 1 := by
  unfold dpF
  obtain ⟨i, hi, hneg⟩ := hf.acyc n hn
  have hd : d ≤ i := by
    refine Nat.not_lt.1 fun h => ?_
    have := h1 i h
    omega
  rw [List.range_eq_range', tw_len _ (L + 1) 0 d (by omega) (fun j hj => by simpa using h1 j hj) (by simpa using h2)]
def ordP (ss : List Int) (L k j : Nat) : List Nat := ((List.range k).flatMap fun d => (List.range L).filter fun i => dpF ss L i == d) ++ (List.range j).filter fun i => dpF ss L i == k
def oI (ss : List Int) (L k j : Nat) : List Int := (ordP ss L k j).map fun n => ((n : Nat) : Int)
theorem oI_y {ss : List Int} {L k j : Nat} (h : dpF ss L j = k) : oI ss L k j ++ [((j : Nat) : Int)] = oI ss L k (j + 1) := by
  unfold oI ordP
  rw [List.range_succ (n := j), List.filter_append]
  simp [h]
theorem oI_n {ss : List Int} {L k j : Nat} (h : dpF ss L j ≠ k) : oI ss L k j = oI ss L k (j + 1) := by
  unfold oI ordP
  rw [List.range_succ (n := j), List.filter_append]
  simp [h]
theorem oI_next {ss : List Int} {L k : Nat} : oI ss L k L = oI ss L (k + 1) 0 := by
  unfold oI ordP
  rw [List.range_succ (n := k), List.flatMap_append]
  simp
theorem oI_len {ss : List Int} {L k j : Nat} (hL : L ≤ 72) (hk : k ≤ L) (hj : j ≤ L) : (oI ss L k j).length ≤ 5256 := by
  have h1 : ∀ k, ((List.range k).flatMap fun d => (List.range L).filter fun i => dpF ss L i == d).length ≤ k * L := by
    intro k
    induction k with
    | zero => simp
    | succ k ih =>
      rw [List.range_succ, List.flatMap_append, List.length_append, Nat.succ_mul]
      have : ((List.range L).filter fun i => dpF ss L i == k).length ≤ L := by simpa using List.length_filter_le (fun i => dpF ss L i == k) (List.range L)
      simp only [List.flatMap_cons, List.flatMap_nil, List.append_nil]
      omega
  have h2 := h1 k
  have h3 : ((List.range j).filter fun i => dpF ss L i == k).length ≤ j := by simpa using List.length_filter_le (fun i => dpF ss L i == k) (List.range j)
  have h4 : k * L ≤ 72 * 72 := Nat.mul_le_mul (by omega) hL
  unfold oI ordP
  rw [List.length_map, List.length_append]
  omega
theorem rdepth_f (g : Nat) (A1 A2 : Option Addr) (c1 c2 : Nat) (ns : List ByteArray) (ss : List Int) (hf : HF ns.length ss) (n : Nat) (hn : n < ns.length) (w0 : World) (hok : RHOk g A1 A2 c1 c2 ns ss w0) : Calls Try.prog 32 #[.pointer (some ⟨g, 0, none⟩), .int .i64 (n : Nat)] w0 fun e w' => e = .returned (.int .i64 (dpF ss ns.length n : Nat)) ∧ Agr [] w0 w' := by
  obtain ⟨d, h0, h1, h2, h3⟩ := depth_has hf (n := (n : Int)) (by omega)
  refine (rdepth_calls g A1 A2 c1 c2 ns ss hf n d h1 h2 h3 w0 hok).mono fun e w' ⟨h4, h5⟩ => ⟨?_, h5⟩
  have hr := (itS_neg hf (n := (n : Int)) (by omega) (by omega) d).1
  rw [h4, dpF_of hf hn (d := d) (fun j hj => (h2 j hj).1) (by omega)]
  rw [show ((d : Nat) : Int) - 1 = ((d - 1 : Nat) : Int) by omega]
theorem depth_f (g m : Nat) (A1 A2 : Option Addr) (c1 c2 : Nat) (ns : List ByteArray) (ss : List Int) (hf : HF ns.length ss) (n : Nat) (hn : n < ns.length) (w0 : World) (hok : HOk g m A1 A2 c1 c2 ns ss w0) : Calls Try.prog 12 #[.pointer (some ⟨g, 0, none⟩), .int .i64 (n : Nat)] w0 fun e w' => e = .returned (.int .i64 (dpF ss ns.length n : Nat)) ∧ Agr [] w0 w' := by
  obtain ⟨d, h0, h1, h2, h3⟩ := depth_has hf (n := (n : Int)) (by omega)
  refine (depth_calls g m A1 A2 c1 c2 ns ss hf n d h1 h2 h3 w0 hok).mono fun e w' ⟨h4, h5⟩ => ⟨?_, h5⟩
  have hr := (itS_neg hf (n := (n : Int)) (by omega) (by omega) d).1
  rw [h4, dpF_of hf hn (d := d) (fun j hj => (h2 j hj).1) (by omega)]
  rw [show ((d : Nat) : Int) - 1 = ((d - 1 : Nat) : Int) by omega]


set_option maxHeartbeats 1000000 in
theorem rorder_calls (g : Nat) (A1 A2 : Option Addr) (c1 c2 : Nat) (ns : List ByteArray) (ss : List Int) (hf : HF ns.length ss) (w0 : World) (hok : RHOk g A1 A2 c1 c2 ns ss w0) : Calls Try.prog 19 #[.pointer (some ⟨g, 0, none⟩)] w0 fun e w' => ∃ A c, e = .returned (.slice A (oI ss ns.length (ns.length + 1) 0).length c) ∧ Row CI 1 3 w0.heap.size (.slice A (oI ss ns.length (ns.length + 1) 0).length c) (oI ss ns.length (ns.length + 1) 0) w' ∧ Agr [] w0 w' := by
  have st : St w0 [] w0 [ro g 0 [.slice A1 ns.length c1, .slice A2 ss.length c2], els CS 1 A1 ns, els CI 1 A2 ss] := hok.st
  clear hok
  refine enter Try.func19 rfl Try.ntmps19 (by simp) ?_
  intro a fr
  refine wp_seq ?_
  refine reg ?_
  refine lst rfl (ow_v fr (rn_assign (fr.ev rfl)) rfl rfl ?_)
  intro a fr
  refine wpList_nil ?_
  refine then_n ?_
  refine wp_seq ?_
  refine reg ?_
  refine lst rfl (ow_v fr (rn_assign (fr.ev rfl)) rfl rfl ?_)
  intro a fr
  refine wpList_nil ?_
  refine then_n ?_
  refine wp_seq ?_
  refine wp_seq ?_
  refine reg ?_
  refine lst rfl (ow_v fr (rn_assign (fr.ev rfl)) rfl rfl ?_)
  intro a fr
  refine wpList_nil ?_
  refine then_n ?_
  refine wp_block ?_
  have hfh := hf.high
  have hfl := hf.low
  have st := st.nil (E := Int) CI 1 3 w0.heap.size (Nat.le_refl _)
  refine wp_loop_ghost (fun mz a w => ∃ (k : Nat) (A : Option Addr) (c : Nat), (k ≤ ns.length + 1) ∧ mz = ns.length + 1 - k ∧ FrL 34 a [(0, .pointer (some ⟨g, 0, none⟩)), (3, .slice A ((oI ss ns.length k 0).length) c), (4, .int .i64 ((k : Nat)))] ∧ St w0 [] w [row CI 1 3 w0.heap.size (.slice A ((oI ss ns.length k 0).length) c) ((oI ss ns.length k 0)), ro g 0 [.slice A1 ns.length c1, .slice A2 ss.length c2], els CS 1 A1 ns, els CI 1 A2 ss]) _ ⟨0, none, 0, (Nat.zero_le _), rfl, fr.prune ⟨rfl, rfl, rfl, trivial⟩, st⟩ ?_
  clear fr st
  intro mz a w hI
  obtain ⟨k, A, c, hk, hmz, fr, st⟩ := hI
  by_cases hkl : k ≤ ns.length
  · refine wp_seq ?_
    refine wp_seq ?_
    refine reg ?_
    refine lst rfl (ow_v fr (rn_move (fr.ev rfl)) rfl rfl ?_)
    intro a fr
    refine lst rfl (ow_v fr (rn_move (fr.ev rfl)) rfl rfl ?_)
    intro a fr
    refine lst rfl (ow_v fr (rn_nilCheck (fr.ev rfl)) rfl rfl ?_)
    intro a fr
    refine lst rfl (ow_v fr (fa_62_0 (fr.ev rfl)) rfl rfl ?_)
    intro a fr
    refine lst rfl (ow_v fr (rn_load (fr.ev rfl) Try.underlying45 rfl (st.rocell 1 rfl (j := 0) rfl)) rfl rfl ?_)
    intro a fr
    refine lst rfl (ow_v fr (rn_len (fr.ev rfl) Try.underlying45) rfl rfl ?_)
    intro a fr
    refine lst rfl (ow_v fr (rn_as (v' := .bool true) (rn_leq (fr.ev rfl) (fr.ev rfl)) (congrArg Value.bool (decide_eq_true (by omega)))) rfl rfl ?_)
    intro a fr
    refine wpList_nil ?_
    refine then_n ?_
    refine cond_t fr rfl rfl ?_
    refine wp_skip ?_
    refine then_n ?_
    refine wp_seq ?_
    refine wp_block ?_
    refine wp_seq ?_
    refine reg ?_
    refine lst rfl (ow_v fr (rn_assign (fr.ev rfl)) rfl rfl ?_)
    intro a fr
    refine wpList_nil ?_
    refine then_n ?_
    refine wp_block ?_
    refine wp_loop_ghost (fun mz a w => ∃ (j : Nat) (B : Option Addr) (d : Nat), (j ≤ ns.length) ∧ mz = ns.length - j ∧ FrL 34 a [(0, .pointer (some ⟨g, 0, none⟩)), (3, .slice B ((oI ss ns.length k j).length) d), (4, .int .i64 ((k : Nat))), (5, .int .i64 ((j : Nat)))] ∧ St w0 [] w [row CI 1 3 w0.heap.size (.slice B ((oI ss ns.length k j).length) d) ((oI ss ns.length k j)), ro g 0 [.slice A1 ns.length c1, .slice A2 ss.length c2], els CS 1 A1 ns, els CI 1 A2 ss]) _ ⟨0, A, c, (Nat.zero_le _), rfl, fr.prune ⟨rfl, rfl, rfl, rfl, trivial⟩, st⟩ ?_
    clear fr st
    intro mz a w hI
    obtain ⟨j, B, d, hj, hmz, fr, st⟩ := hI
    by_cases hjl : j < ns.length
    · by_cases hd : dpF ss ns.length j = k
      · refine wp_seq ?_
        refine wp_seq ?_
        refine reg ?_
        refine lst rfl (ow_v fr (rn_move (fr.ev rfl)) rfl rfl ?_)
        intro a fr
        refine lst rfl (ow_v fr (rn_move (fr.ev rfl)) rfl rfl ?_)
        intro a fr
        refine lst rfl (ow_v fr (rn_nilCheck (fr.ev rfl)) rfl rfl ?_)
        intro a fr
        refine lst rfl (ow_v fr (fa_62_0 (fr.ev rfl)) rfl rfl ?_)
        intro a fr
        refine lst rfl (ow_v fr (rn_load (fr.ev rfl) Try.underlying45 rfl (st.rocell 1 rfl (j := 0) rfl)) rfl rfl ?_)
        intro a fr
        refine lst rfl (ow_v fr (rn_len (fr.ev rfl) Try.underlying45) rfl rfl ?_)
        intro a fr
        refine lst rfl (ow_v fr (rn_as (v' := .bool true) (rn_lss (fr.ev rfl) (fr.ev rfl)) (congrArg Value.bool (decide_eq_true (by omega)))) rfl rfl ?_)
        intro a fr
        refine wpList_nil ?_
        refine then_n ?_
        refine cond_t fr rfl rfl ?_
        refine wp_skip ?_
        refine then_n ?_
        refine wp_seq ?_
        refine wp_block ?_
        refine wp_seq ?_
        refine reg ?_
        refine lst rfl (ow_v fr (rn_move (fr.ev rfl)) rfl rfl ?_)
        intro a fr
        refine lst rfl (ow_v fr (rn_move (fr.ev rfl)) rfl rfl ?_)
        intro a fr
        refine lst rfl (ow_call fr rfl rfl Try.call32 (rdepth_f g _ _ c1 c2 ns ss hf j hjl _ (rhok3 (st.get 1 rfl) (st.get 2 rfl) (st.get 3 rfl))) rfl rfl ?_)
        rintro e w ⟨rfl, hag⟩
        refine ⟨_, rfl, ?_⟩
        intro a fr
        have st := st.keep hag
        clear hag
        refine lst rfl (ow_v fr (rn_move (fr.ev rfl)) rfl rfl ?_)
        intro a fr
        refine lst rfl (ow_v fr (rn_as (v' := .bool true) (rn_eql (fr.ev rfl) (fr.ev rfl)) (congrArg Value.bool (by simp [hd]))) rfl rfl ?_)
        intro a fr
        refine wpList_nil ?_
        refine then_n ?_
        refine cond_t fr rfl rfl ?_
        refine reg ?_
        refine lst rfl (ow_v fr (rn_move (fr.ev rfl)) rfl rfl ?_)
        intro a fr
        refine lst rfl (ow_v fr (rn_move (fr.ev rfl)) rfl rfl ?_)
        intro a fr
        refine lst rfl (ow_bslice (E := 3) fr st rfl [.int .i64 ((j : Nat))] (fun w => by simp only [List.map_toArray, List.map_cons, List.map_nil]; rw [fr.ev (x := .tmp 30) rfl]; kernel_rfl) rfl rfl ?_)
        intro a w b1 fr st
        refine lst rfl (ow_append1 fr st 1 0 ((((j : Nat)) : Int)) rfl rfl rfl rfl rfl Try.underlying43 inf_3 (by rfl) (by decide) (fun _ => rfl) rfl (by (have := oI_len (ss := ss) (k := k) (j := j) hfh (by omega) (by omega); simp; omega)) (by unfold maxLen; (have := oI_len (ss := ss) (k := k) (j := j) hfh (by omega) (by omega); simp; omega)) (Nat.le_refl _) st.agr.size rfl rfl ?_)
        intro a w Ax2 cx3 fr (st : St _ [] w [.blk b1 [.int .i64 ((j : Nat))] 3, row CI 1 3 w0.heap.size (.slice Ax2 (((oI ss ns.length k j) ++ [(((j : Nat)) : Int)]).length) cx3) (((oI ss ns.length k j) ++ [(((j : Nat)) : Int)])), ro g 0 [.slice A1 ns.length c1, .slice A2 ss.length c2], els CS 1 A1 ns, els CI 1 A2 ss])
        refine lst rfl (ow_v fr (rn_assign (fr.ev rfl)) rfl rfl ?_)
        intro a fr
        refine wpList_nil ?_
        refine blk_n ?_
        refine then_n ?_
        refine reg ?_
        refine lst rfl (ow_v fr (rn_move (fr.ev rfl)) rfl rfl ?_)
        intro a fr
        refine lst rfl (ow_v fr (rn_add (c := ((j + 1 : Nat) : Int)) (fr.ev rfl) (fr.ev rfl) (wr_i64e (by omega) (by omega) (by omega))) rfl rfl ?_)
        intro a fr
        refine lst rfl (ow_v fr (rn_assign (fr.ev rfl)) rfl rfl ?_)
        intro a fr
        refine wpList_nil ?_
        rw [oI_y hd] at st
        rw [oI_y hd] at fr
        refine then_n ⟨ns.length - (j + 1), ?_, j + 1, Ax2, cx3, (by omega), rfl, fr.prune ⟨rfl, rfl, rfl, rfl, trivial⟩, st.sub (.cons _ (.cons_cons _ (.cons_cons _ (.cons_cons _ (.cons_cons _ .slnil)))))⟩
        omega
      · refine wp_seq ?_
        refine wp_seq ?_
        refine reg ?_
        refine lst rfl (ow_v fr (rn_move (fr.ev rfl)) rfl rfl ?_)
        intro a fr
        refine lst rfl (ow_v fr (rn_move (fr.ev rfl)) rfl rfl ?_)
        intro a fr
        refine lst rfl (ow_v fr (rn_nilCheck (fr.ev rfl)) rfl rfl ?_)
        intro a fr
        refine lst rfl (ow_v fr (fa_62_0 (fr.ev rfl)) rfl rfl ?_)
        intro a fr
        refine lst rfl (ow_v fr (rn_load (fr.ev rfl) Try.underlying45 rfl (st.rocell 1 rfl (j := 0) rfl)) rfl rfl ?_)
        intro a fr
        refine lst rfl (ow_v fr (rn_len (fr.ev rfl) Try.underlying45) rfl rfl ?_)
        intro a fr
        refine lst rfl (ow_v fr (rn_as (v' := .bool true) (rn_lss (fr.ev rfl) (fr.ev rfl)) (congrArg Value.bool (decide_eq_true (by omega)))) rfl rfl ?_)
        intro a fr
        refine wpList_nil ?_
        refine then_n ?_
        refine cond_t fr rfl rfl ?_
        refine wp_skip ?_
        refine then_n ?_
        refine wp_seq ?_
        refine wp_block ?_
        refine wp_seq ?_
        refine reg ?_
        refine lst rfl (ow_v fr (rn_move (fr.ev rfl)) rfl rfl ?_)
        intro a fr
        refine lst rfl (ow_v fr (rn_move (fr.ev rfl)) rfl rfl ?_)
        intro a fr
        refine lst rfl (ow_call fr rfl rfl Try.call32 (rdepth_f g _ _ c1 c2 ns ss hf j hjl _ (rhok3 (st.get 1 rfl) (st.get 2 rfl) (st.get 3 rfl))) rfl rfl ?_)
        rintro e w ⟨rfl, hag⟩
        refine ⟨_, rfl, ?_⟩
        intro a fr
        have st := st.keep hag
        clear hag
        refine lst rfl (ow_v fr (rn_move (fr.ev rfl)) rfl rfl ?_)
        intro a fr
        refine lst rfl (ow_v fr (rn_as (v' := .bool false) (rn_eql (fr.ev rfl) (fr.ev rfl)) (congrArg Value.bool (by simp; omega))) rfl rfl ?_)
        intro a fr
        refine wpList_nil ?_
        refine then_n ?_
        refine cond_f fr rfl rfl ?_
        refine wp_skip ?_
        refine blk_n ?_
        refine then_n ?_
        refine reg ?_
        refine lst rfl (ow_v fr (rn_move (fr.ev rfl)) rfl rfl ?_)
        intro a fr
        refine lst rfl (ow_v fr (rn_add (c := ((j + 1 : Nat) : Int)) (fr.ev rfl) (fr.ev rfl) (wr_i64e (by omega) (by omega) (by omega))) rfl rfl ?_)
        intro a fr
        refine lst rfl (ow_v fr (rn_assign (fr.ev rfl)) rfl rfl ?_)
        intro a fr
        refine wpList_nil ?_
        rw [oI_n hd] at st
        rw [oI_n hd] at fr
        refine then_n ⟨ns.length - (j + 1), ?_, j + 1, B, d, (by omega), rfl, fr.prune ⟨rfl, rfl, rfl, rfl, trivial⟩, st.sub (.cons_cons _ (.cons_cons _ (.cons_cons _ (.cons_cons _ .slnil))))⟩
        omega
    · have hje : j = ns.length := by omega
      subst hje
      refine wp_seq ?_
      refine wp_seq ?_
      refine reg ?_
      refine lst rfl (ow_v fr (rn_move (fr.ev rfl)) rfl rfl ?_)
      intro a fr
      refine lst rfl (ow_v fr (rn_move (fr.ev rfl)) rfl rfl ?_)
      intro a fr
      refine lst rfl (ow_v fr (rn_nilCheck (fr.ev rfl)) rfl rfl ?_)
      intro a fr
      refine lst rfl (ow_v fr (fa_62_0 (fr.ev rfl)) rfl rfl ?_)
      intro a fr
      refine lst rfl (ow_v fr (rn_load (fr.ev rfl) Try.underlying45 rfl (st.rocell 1 rfl (j := 0) rfl)) rfl rfl ?_)
      intro a fr
      refine lst rfl (ow_v fr (rn_len (fr.ev rfl) Try.underlying45) rfl rfl ?_)
      intro a fr
      refine lst rfl (ow_v fr (rn_as (v' := .bool false) (rn_lss (fr.ev rfl) (fr.ev rfl)) (congrArg Value.bool (decide_eq_false (by omega)))) rfl rfl ?_)
      intro a fr
      refine wpList_nil ?_
      refine then_n ?_
      refine cond_f fr rfl rfl ?_
      refine wp_exit ?_
      refine then_x ?_
      refine then_x ?_
      refine blk_x ?_
      refine blk_n ?_
      refine then_n ?_
      refine reg ?_
      refine lst rfl (ow_v fr (rn_move (fr.ev rfl)) rfl rfl ?_)
      intro a fr
      refine lst rfl (ow_v fr (rn_add (c := ((k + 1 : Nat) : Int)) (fr.ev rfl) (fr.ev rfl) (wr_i64e (by omega) (by omega) (by omega))) rfl rfl ?_)
      intro a fr
      refine lst rfl (ow_v fr (rn_assign (fr.ev rfl)) rfl rfl ?_)
      intro a fr
      refine wpList_nil ?_
      rw [oI_next] at st
      rw [oI_next] at fr
      refine then_n ⟨ns.length + 1 - (k + 1), ?_, k + 1, B, d, (by omega), rfl, fr.prune ⟨rfl, rfl, rfl, trivial⟩, st.sub (.cons_cons _ (.cons_cons _ (.cons_cons _ (.cons_cons _ .slnil))))⟩
      omega
  · have hke : k = ns.length + 1 := by omega
    subst hke
    refine wp_seq ?_
    refine wp_seq ?_
    refine reg ?_
    refine lst rfl (ow_v fr (rn_move (fr.ev rfl)) rfl rfl ?_)
    intro a fr
    refine lst rfl (ow_v fr (rn_move (fr.ev rfl)) rfl rfl ?_)
    intro a fr
    refine lst rfl (ow_v fr (rn_nilCheck (fr.ev rfl)) rfl rfl ?_)
    intro a fr
    refine lst rfl (ow_v fr (fa_62_0 (fr.ev rfl)) rfl rfl ?_)
    intro a fr
    refine lst rfl (ow_v fr (rn_load (fr.ev rfl) Try.underlying45 rfl (st.rocell 1 rfl (j := 0) rfl)) rfl rfl ?_)
    intro a fr
    refine lst rfl (ow_v fr (rn_len (fr.ev rfl) Try.underlying45) rfl rfl ?_)
    intro a fr
    refine lst rfl (ow_v fr (rn_as (v' := .bool false) (rn_leq (fr.ev rfl) (fr.ev rfl)) (congrArg Value.bool (decide_eq_false (by omega)))) rfl rfl ?_)
    intro a fr
    refine wpList_nil ?_
    refine then_n ?_
    refine cond_f fr rfl rfl ?_
    refine wp_exit ?_
    refine then_x ?_
    refine then_x ?_
    refine blk_x ?_
    refine then_n ?_
    refine wp_seq ?_
    refine reg ?_
    refine lst rfl (ow_v fr (rn_move (fr.ev rfl)) rfl rfl ?_)
    intro a fr
    refine lst rfl (ow_v fr (rn_assign (fr.ev rfl)) rfl rfl ?_)
    intro a fr
    refine wpList_nil ?_
    refine then_n ?_
    refine wp_ret ?_
    refine ret1 Try.results19 fr (rv_tmp fr rfl) ?_
    exact ⟨A, c, rfl, (st.get 0 rfl).1, st.agr⟩

end Go.Proofs.Ytnggnacaghcclaa.H7
