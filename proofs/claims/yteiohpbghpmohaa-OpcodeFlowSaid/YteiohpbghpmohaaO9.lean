import Derived.Test.YteiohpbghpmohaaO8
set_option linter.unusedVariables false
set_option linter.unusedSimpArgs false
namespace Go.Proofs.Yteiohpbghpmohaa.O9
open Go.RowKit Go.Proofs.Yteiohpbghpmohaa.LibA Go.Proofs.Yteiohpbghpmohaa.LibC Go.Proofs.Yteiohpbghpmohaa.LibS Go.Proofs.Yteiohpbghpmohaa.LibR Go.Proofs.Yteiohpbghpmohaa.LibT Go.Proofs.Yteiohpbghpmohaa.LibU Go.Proofs.Yteiohpbghpmohaa.LibV Go.Proofs.Yteiohpbghpmohaa.LibW Go.Proofs.Yteiohpbghpmohaa.LibX Go.Proofs.Yteiohpbghpmohaa.LibY Go.Proofs.Yteiohpbghpmohaa.LibZ Go.Proofs.Yteiohpbghpmohaa.LibQ Go.Proofs.Yteiohpbghpmohaa.LibP Go.Proofs.Yteiohpbghpmohaa.LibN Go.Proofs.Yteiohpbghpmohaa.LibH Go.Proofs.Yteiohpbghpmohaa.LibI Go.Proofs.Yteiohpbghpmohaa.LibJ Go.Proofs.Yteiohpbghpmohaa.O1 Go.Proofs.Yteiohpbghpmohaa.O2 Go.Proofs.Yteiohpbghpmohaa.O3 Go.Proofs.Yteiohpbghpmohaa.O4 Go.Proofs.Yteiohpbghpmohaa.O5 Go.Proofs.Yteiohpbghpmohaa.O6 Go.Proofs.Yteiohpbghpmohaa.O7 Go.Proofs.Yteiohpbghpmohaa.O8
theorem cnt0 (P : Nat → Bool) : ∀ n, (∀ k, k < n → P k = false) → ((List.range n).filter P).length = 0
  | 0, _ => rfl
  | n + 1, h => by
    rw [List.range_succ, List.filter_append, List.length_append, cnt0 P n (fun k hk => h k (by omega))]
    simp [h n (by omega)]
theorem cnt1 (P : Nat → Bool) (m : Nat) (hm : P m = true) : ∀ n, m < n → (∀ k, k < n → k ≠ m → P k = false) → ((List.range n).filter P).length = 1
  | 0, h, _ => by omega
  | n + 1, h, h2 => by
    rw [List.range_succ, List.filter_append, List.length_append]
    by_cases he : n = m
    · subst he
      rw [cnt0 P n (fun k hk => h2 k (by omega) (by omega))]
      simp [hm]
    · rw [cnt1 P m hm n (by omega) (fun k hk => h2 k (by omega))]
      simp [h2 n (by omega) he]
theorem cnt2 (P : Nat → Bool) (m q : Nat) (hm : P m = true) (hq : P q = true) (hne : m ≠ q) : ∀ n, m < n → q < n → (∀ k, k < n → k ≠ m → k ≠ q → P k = false) → ((List.range n).filter P).length = 2
  | 0, h, _, _ => by omega
  | n + 1, h, h1, h2 => by
    rw [List.range_succ, List.filter_append, List.length_append]
    by_cases he : n = m
    · subst he
      rw [cnt1 P q hq n (by omega) (fun k hk hk2 => h2 k (by omega) (by omega) hk2)]
      simp [hm]
    · by_cases he2 : n = q
      · subst he2
        rw [cnt1 P m hm n (by omega) (fun k hk hk2 => h2 k (by omega) hk2 (by omega))]
        simp [hq]
      · rw [cnt2 P m q hm hq hne n (by omega) (by omega) (fun k hk => h2 k (by omega))]
        simp [h2 n (by omega) he he2]
theorem walk_inc (bs : List UInt8) : ∀ n k, (walkN bs n k).1.Pairwise (fun a b => a.1 < b.1) ∧ ∀ x ∈ (walkN bs n k).1, (k : Int) ≤ x.1
  | 0, k => by simp [walkN]
  | n + 1, k => by
    by_cases h1 : bs.length ≤ k
    · rw [walk_end h1]; simp
    · obtain ⟨x, nx, er, hr⟩ : ∃ x nx er, oneN bs k = (x, nx, er) := ⟨_, _, _, rfl⟩
      by_cases he : er = 0
      · subst he
        obtain ⟨m, rfl, hm1, hm2, hm3⟩ := oneN_ok hr
        rw [walk_some (by omega) hr]
        obtain ⟨h2, h3⟩ := walk_inc bs n m
        refine ⟨List.pairwise_cons.2 ⟨fun y hy => ?_, h2⟩, fun y hy => ?_⟩
        · have := h3 y hy; omega
        · rcases List.mem_cons.1 hy with rfl | hy
          · omega
          · have := h3 y hy; omega
      · rw [walk_err (by omega) hr he]; simp
theorem dec_inc {bs : List UInt8} {l : List InsD} (h : decF bs = (l, 0)) : l.Pairwise (fun a b => a.1 < b.1) ∧ l.any (badJ l) = false ∧ l = (walkF bs).1 ∧ (walkF bs).2 = 0 ∧ bs.length ≤ 4096 ∧ bs.length ≠ 0 := by
  unfold decF at h
  split at h
  · simp at h
  · rename_i h1
    split at h
    · simp at h
    · rename_i h2
      split at h
      · rename_i h3
        split at h
        · simp at h
        · rename_i h4
          simp only [Prod.mk.injEq, and_true] at h
          subst h
          exact ⟨(walk_inc bs bs.length 0).1, by simpa using h4, rfl, h3, by omega, h2⟩
      · simp only [Prod.mk.injEq] at h; rename_i h3; exact absurd h.2 h3
theorem inc_ne {l : List InsD} (hp : l.Pairwise (fun a b => a.1 < b.1)) {a b : Nat} (ha : a < l.length) (hb : b < l.length) (h : l[a].1 = l[b].1) : a = b := by
  have hq := List.pairwise_iff_getElem.1 hp
  rcases Nat.lt_trichotomy a b with h1 | h1 | h1
  · have := hq a b ha hb h1; omega
  · exact h1
  · have := hq b a hb ha h1; omega
/-- how many come behind -/
theorem flow_cnt {l : List InsD} (hp : l.Pairwise (fun a b => a.1 < b.1)) (hb : l.any (badJ l) = false) {i : Nat} (hi : i < l.length) {y0 y1 y2 y3 : Int} (hy : l[i] = (y0, y1, y2, y3)) :
    ((endsF y1 = true ∨ ¬ i + 1 < l.length) → jmp y1 = false → (nxL l i l.length).length = 0) ∧ ((endsF y1 = true ∨ ¬ i + 1 < l.length) → jmp y1 = true → (nxL l i l.length).length = 1) ∧
    (endsF y1 = false → i + 1 < l.length → jmp y1 = false → (nxL l i l.length).length = 1) ∧ (endsF y1 = false → ∀ h : i + 1 < l.length, jmp y1 = true → l[i + 1].1 = y2 → (nxL l i l.length).length = 1) ∧
    (endsF y1 = false → ∀ h : i + 1 < l.length, jmp y1 = true → l[i + 1].1 ≠ y2 → (nxL l i l.length).length = 2) := by
  have hn : ∀ k (hk : k < l.length), nx l i k = ((k == i + 1 && !endsF y1) || (jmp y1 && l[k].1 == y2)) := fun k hk => nx_at hi hk hy rfl
  have hJ : jmp y1 = true → ∃ m, ∃ hm : m < l.length, l[m].1 = y2 := fun h => by
    have h1 := List.any_eq_false.1 hb _ (hy ▸ List.getElem_mem hi)
    have h2 : (l.any fun y => y.1 == y2) = true := by
      cases hq : (l.any fun y => y.1 == y2) with
      | true => rfl
      | false => exact absurd (by unfold badJ; simp only [h, hq]; rfl) h1
    obtain ⟨x, hx, e⟩ := List.any_eq_true.1 h2
    obtain ⟨m, hm, rfl⟩ := List.mem_iff_getElem.1 hx
    exact ⟨m, hm, by simpa using e⟩
  unfold nxL
  simp only [List.length_map]
  refine ⟨fun h1 h2 => cnt0 _ _ fun k hk => ?_, fun h1 h2 => ?_, fun h1 h2 h3 => cnt1 _ (i + 1) ?_ _ h2 fun k hk hne => ?_, fun h1 h2 h3 h4 => cnt1 _ (i + 1) ?_ _ h2 fun k hk hne => ?_, fun h1 h2 h3 h4 => ?_⟩
  · rw [hn k hk, h2]
    rcases h1 with h1 | h1
    · simp [h1]
    · have : (k == i + 1) = false := by simp; omega
      simp [this]
  · obtain ⟨m, hm, e⟩ := hJ h2
    refine cnt1 _ m ?_ _ hm fun k hk hne => ?_
    · rw [hn m hm, h2]; simp [e]
    · have hne2 : ¬ l[k].1 = y2 := fun h => hne (inc_ne hp hk hm (h.trans e.symm))
      rw [hn k hk, h2]
      rcases h1 with h1 | h1
      · simp [h1, hne2]
      · have : (k == i + 1) = false := by simp; omega
        simp [this, hne2]
  · rw [hn _ h2, h1]; simp
  · have : (k == i + 1) = false := by simpa using hne
    rw [hn k hk, h3, this]; simp
  · rw [hn _ h2, h1]; simp
  · have : (k == i + 1) = false := by simpa using hne
    have hne2 : ¬ l[k].1 = y2 := fun h => hne (inc_ne hp hk h2 (h.trans h4.symm))
    rw [hn k hk, this]; simp [hne2]
  · obtain ⟨m, hm, e⟩ := hJ h3
    have hne : i + 1 ≠ m := fun h => by subst h; exact h4 e
    refine cnt2 _ (i + 1) m ?_ ?_ hne _ h2 hm fun k hk hk1 hk2 => ?_
    · rw [hn _ h2, h1]; simp
    · rw [hn m hm, h3]; simp [e]
    · have : (k == i + 1) = false := by simpa using hk1
      have hne2 : ¬ l[k].1 = y2 := fun h => hk2 (inc_ne hp hk hm (h.trans e.symm))
      rw [hn k hk, this]; simp [hne2]
theorem walkN_len (bs : List UInt8) : ∀ n k, (walkN bs n k).1.length ≤ n
  | 0, k => by simp [walkN]
  | n + 1, k => by
    by_cases h1 : bs.length ≤ k
    · rw [walk_end h1]; simp
    · obtain ⟨x, nx, er, hr⟩ : ∃ x nx er, oneN bs k = (x, nx, er) := ⟨_, _, _, rfl⟩
      by_cases he : er = 0
      · subst he
        obtain ⟨m, rfl, hm1, hm2, hm3⟩ := oneN_ok hr
        rw [walk_some (by omega) hr]
        have := walkN_len bs n m
        simp; omega
      · rw [walk_err (by omega) hr he]; simp
theorem walk_len (bs : List UInt8) : (walkF bs).1.length ≤ bs.length := walkN_len bs bs.length 0
theorem nxL_sorted (l : List InsD) (i k : Nat) : ∀ j (h : j + 1 < (nxL l i k).length), (nxL l i k)[j] ≤ (nxL l i k)[j + 1] := by
  intro j h
  have h1 : (List.range k).Pairwise (· < ·) := List.pairwise_lt_range
  have h2 : (nxL l i k).Pairwise (· < ·) := by
    unfold nxL
    refine List.Pairwise.map _ (fun a b hab => by omega) (h1.filter _)
  exact Int.le_of_lt (List.pairwise_iff_getElem.1 h2 j (j + 1) (by omega) h (by omega))
theorem form_j (op : Int) (w0 : World) : Calls Try.prog 19 #[.int .i64 op] w0 fun e w' => ∃ (f : Int) (b : Bool), e = .returned (.tuple #[.int .i64 f, .bool b]) ∧ (f == (6 : Int)) = jmp op ∧ Agr [] w0 w' := by
  cases h : tblL.find? (fun r : RowD => r.1 == op) with
  | none => exact (form_f op h w0).mono fun e w' ⟨h1, h2⟩ => ⟨0, false, h1, by unfold jmp; rw [h]; rfl, h2⟩
  | some r =>
    obtain ⟨p, q, f⟩ := r
    exact (form_t op h w0).mono fun e w' ⟨h1, h2⟩ => ⟨f, true, h1, by unfold jmp; rw [h], h2⟩


theorem isnan (a : Int) (w0 : World) : Calls Try.prog 61 #[.int .i64 (a)] w0 fun e w' => e = .returned (.bool false) ∧ Agr [] w0 w' := by
  have st := St.start w0 []
  refine enter Try.func61 rfl Try.ntmps61 (by simp) ?_
  intro a fr
  refine wp_seq ?_
  refine reg ?_
  refine lst rfl (ow_v fr (rn_assign (fr.ev rfl)) rfl rfl ?_)
  intro a fr
  refine wpList_nil ?_
  refine then_n ?_
  refine wp_seq ?_
  refine reg ?_
  refine lst rfl (ow_v fr (rn_move (fr.ev rfl)) rfl rfl ?_)
  intro a fr
  refine lst rfl (ow_v fr (rn_move (fr.ev rfl)) rfl rfl ?_)
  intro a fr
  refine lst rfl (ow_v fr (rn_as (v' := .bool false) (rn_neq (fr.ev rfl) (fr.ev rfl)) (congrArg Value.bool (by simp))) rfl rfl ?_)
  intro a fr
  refine lst rfl (ow_v fr (rn_assign (fr.ev rfl)) rfl rfl ?_)
  intro a fr
  refine wpList_nil ?_
  refine then_n ?_
  refine wp_ret ?_
  refine ret1 Try.results61 fr (rv_tmp fr rfl) ?_
  exact ⟨rfl, st.agr⟩

theorem less_calls (a b : Int) (w0 : World) : Calls Try.prog 54 #[.int .i64 (a), .int .i64 (b)] w0 fun e w' => e = .returned (.bool (decide (a < b))) ∧ Agr [] w0 w' := by
  have st := St.start w0 []
  refine enter Try.func54 rfl Try.ntmps54 (by simp) ?_
  intro a fr
  refine wp_seq ?_
  refine reg ?_
  refine lst rfl (ow_v fr (rn_assign (fr.ev rfl)) rfl rfl ?_)
  intro a fr
  refine wpList_nil ?_
  refine then_n ?_
  refine wp_seq ?_
  refine reg ?_
  refine lst rfl (ow_v fr (rn_move (fr.ev rfl)) rfl rfl ?_)
  intro a fr
  refine lst rfl (ow_call fr rfl rfl Try.call61 (isnan _ _) rfl rfl ?_)
  rintro e w ⟨rfl, hag⟩
  refine ⟨_, rfl, ?_⟩
  intro a fr
  have st := st.keep hag
  clear hag
  refine lst rfl (ow_v fr (rn_move (fr.ev rfl)) rfl rfl ?_)
  intro a fr
  refine lst_n (unwanted_of fr rfl rfl rfl rfl) fr rfl rfl ?_
  intro a fr
  refine lst_n (unwanted_of fr rfl rfl rfl rfl) fr rfl rfl ?_
  intro a fr
  refine lst_n (unwanted_of fr rfl rfl rfl rfl) fr rfl rfl ?_
  intro a fr
  refine lst rfl (ow_v fr (rn_pick_f (fr.ev rfl) (fr.ev rfl)) rfl rfl ?_)
  intro a fr
  refine lst rfl (ow_v fr (rn_move (fr.ev rfl)) rfl rfl ?_)
  intro a fr
  refine lst_y (wanted_of fr rfl rfl rfl rfl) (ow_v fr (rn_move (fr.ev rfl)) rfl rfl ?_)
  intro a fr
  refine lst_y (wanted_of fr rfl rfl rfl rfl) (ow_v fr (rn_move (fr.ev rfl)) rfl rfl ?_)
  intro a fr
  refine lst_y (wanted_of fr rfl rfl rfl rfl) (ow_v fr (rn_lss (fr.ev rfl) (fr.ev rfl)) rfl rfl ?_)
  intro a fr
  refine lst rfl (ow_v fr (rn_pick_f (fr.ev rfl) (fr.ev rfl)) rfl rfl ?_)
  intro a fr
  refine lst rfl (ow_v fr (rn_assign (fr.ev rfl)) rfl rfl ?_)
  intro a fr
  refine wpList_nil ?_
  refine then_n ?_
  refine wp_ret ?_
  refine ret1 Try.results54 fr (rv_tmp fr rfl) ?_
  exact ⟨rfl, st.agr⟩

theorem less_f {a b : Int} (h : b ≤ a) (w0 : World) : Calls Try.prog 54 #[.int .i64 a, .int .i64 b] w0 fun e w' => e = .returned (.bool false) ∧ Agr [] w0 w' :=
  (less_calls a b w0).mono fun e w' ⟨h1, h2⟩ => ⟨by rw [h1, decide_eq_false (by omega)], h2⟩

theorem sorted_calls (xs : List Int) (hs : ∀ i (h : i + 1 < xs.length), xs[i] ≤ xs[i + 1]) (A : Option Addr) (c : Nat) (hl : xs.length ≤ 9223372036854775807) (w0 : World) (ha : Els CI 1 w0 A xs) : Calls Try.prog 30 #[.slice A xs.length c] w0 fun e w' => e = .returned (.bool true) ∧ Agr [] w0 w' := by
  have st : St w0 [] w0 [els CI 1 A xs] := (add_ro (start0 w0 []) (by simp [els, ro, It.wr]) rfl (els_ok (C := CI) (sz := 1) (by decide) (fun x => rfl) ha))
  clear ha
  refine enter Try.func30 rfl Try.ntmps30 (by simp) ?_
  intro a fr
  refine wp_seq ?_
  refine reg ?_
  refine lst rfl (ow_v fr (rn_assign (fr.ev rfl)) rfl rfl ?_)
  intro a fr
  refine wpList_nil ?_
  refine then_n ?_
  refine wp_seq ?_
  refine wp_seq ?_
  refine reg ?_
  refine lst rfl (ow_v fr (rn_move (fr.ev rfl)) rfl rfl ?_)
  intro a fr
  refine lst rfl (ow_v fr (rn_len (fr.ev rfl) Try.underlying46) rfl rfl ?_)
  intro a fr
  refine lst rfl (ow_v fr (rn_sub (a := (xs.length : Nat)) (b := 1) (c := (xs.length : Nat) - 1) (fr.ev rfl) (fr.ev rfl) (wr_i64e (by omega) (by omega) (by omega))) rfl rfl ?_)
  intro a fr
  refine lst rfl (ow_v fr (rn_assign (fr.ev rfl)) rfl rfl ?_)
  intro a fr
  refine wpList_nil ?_
  refine then_n ?_
  refine wp_block ?_
  refine wp_loop_ghost (fun mz a w => ∃ (j : Int), (j ≤ (xs.length : Int) - 1) ∧ mz = j.toNat ∧ FrL 21 a [(0, .slice A xs.length c), (3, .int .i64 (j))] ∧ St w0 [] w [els CI 1 A xs]) _ ⟨_, (Int.le_refl _), rfl, fr.prune ⟨rfl, rfl, trivial⟩, st⟩ ?_
  clear fr st
  intro mz a w hI
  obtain ⟨j, hj, hmz, fr, st⟩ := hI
  by_cases hj0 : 0 < j
  · obtain ⟨m, rfl⟩ : ∃ m : Nat, j = ((m + 1 : Nat) : Int) := ⟨(j - 1).toNat, by omega⟩
    refine wp_seq ?_
    refine wp_seq ?_
    refine reg ?_
    refine lst rfl (ow_v fr (rn_move (fr.ev rfl)) rfl rfl ?_)
    intro a fr
    refine lst rfl (ow_v fr (rn_as (v' := .bool true) (rn_gtr (fr.ev rfl) (fr.ev rfl)) (congrArg Value.bool (decide_eq_true (by omega)))) rfl rfl ?_)
    intro a fr
    refine wpList_nil ?_
    refine then_n ?_
    refine cond_t fr rfl rfl ?_
    refine wp_skip ?_
    refine then_n ?_
    refine wp_seq ?_
    refine wp_block ?_
    refine wp_seq ?_
    obtain ⟨b1, o2, eA, st_⟩ := st.elem 0 rfl ((m + 1)) (by omega) (by simp [CI])
    have fr_ := fr
    cases eA
    have st := st_
    have fr := fr_
    clear st_ fr_
    obtain ⟨u, hx_xs_u⟩ : ∃ u, xs[(m + 1)] = u := ⟨_, rfl⟩
    rw [hx_xs_u] at st
    replace st : St _ [] _ [ro b1 (o2 + ((m + 1)) * 1) [.int .i64 (u)], els CI 1 (some ⟨b1, o2, none⟩) xs] := st
    obtain ⟨b_, o_, eA, st_⟩ := st.elem 1 rfl m (by omega) (by simp [CI])
    have fr_ := fr
    cases eA
    have st := st_
    have fr := fr_
    clear st_ fr_
    obtain ⟨v, hx_xs_v⟩ : ∃ v, xs[m] = (v) := ⟨_, rfl⟩
    rw [hx_xs_v] at st
    replace st : St _ [] _ [ro b1 (o2 + m * 1) [.int .i64 (v)], ro b1 (o2 + ((m + 1)) * 1) [.int .i64 (u)], els CI 1 (some ⟨b1, o2, none⟩) xs] := st
    have hle : v ≤ u := by have h := hs m (by omega); rw [hx_xs_u, hx_xs_v] at h; exact h
    refine dr_start (by kernel_rfl) st (.cons_cons _ (.cons_cons _ (.cons_cons _ .slnil))) ?_
    intro w st
    refine dr_take 0 rfl (by kernel_rfl) (by kernel_rfl) (by kernel_rfl) (fun _ _ _ h => h) fr rfl (st.sub (.cons_cons _ (.cons_cons _ (.cons_cons _ .slnil)))) (fun w st => rn_move (fr.ev rfl)) rfl rfl ?_
    intro a fr
    refine dr_take 1 rfl (by kernel_rfl) (by kernel_rfl) (by kernel_rfl) (fun _ _ _ h => h) fr rfl (st.sub (.cons_cons _ (.cons_cons _ (.cons_cons _ .slnil)))) (fun w st => rn_move (fr.ev rfl)) rfl rfl ?_
    intro a fr
    refine dr_take 2 rfl (by kernel_rfl) (by kernel_rfl) (by kernel_rfl) (fun _ _ _ h => h) fr rfl (st.sub (.cons_cons _ (.cons_cons _ (.cons_cons _ .slnil)))) (fun w st => rn_at (i := (m + 1)) (fr.ev rfl) (fr.ev rfl) Try.underlying46 sz_3 (by omega) (by rfl)) rfl rfl ?_
    intro a fr
    refine dr_take 3 rfl (by kernel_rfl) (by kernel_rfl) (by kernel_rfl) (fun _ _ _ h => h) fr rfl (st.sub (.cons_cons _ (.cons_cons _ (.cons_cons _ .slnil)))) (fun w st => rn_load (fr.ev rfl) Try.underlying3 rfl (st.rocell 1 rfl (j := 0) rfl)) rfl rfl ?_
    intro a fr
    refine dr_take 4 rfl (by kernel_rfl) (by kernel_rfl) (by kernel_rfl) (fun _ _ _ h => h) fr rfl (st.sub (.cons_cons _ (.cons_cons _ (.cons_cons _ .slnil)))) (fun w st => rn_move (fr.ev rfl)) rfl rfl ?_
    intro a fr
    refine dr_take 5 rfl (by kernel_rfl) (by kernel_rfl) (by kernel_rfl) (fun _ _ _ h => h) fr rfl (st.sub (.cons_cons _ (.cons_cons _ (.cons_cons _ .slnil)))) (fun w st => rn_move (fr.ev rfl)) rfl rfl ?_
    intro a fr
    refine dr_take 6 rfl (by kernel_rfl) (by kernel_rfl) (by kernel_rfl) (fun _ _ _ h => h) fr rfl (st.sub (.cons_cons _ (.cons_cons _ (.cons_cons _ .slnil)))) (fun w st => rn_sub (a := ((m + 1) : Nat)) (b := 1) (c := (m : Nat)) (fr.ev rfl) (fr.ev rfl) (wr_i64e (by omega) (by omega) (by omega))) rfl rfl ?_
    intro a fr
    refine dr_take 7 rfl (by kernel_rfl) (by kernel_rfl) (by kernel_rfl) (fun _ _ _ h => h) fr rfl (st.sub (.cons_cons _ (.cons_cons _ (.cons_cons _ .slnil)))) (fun w st => rn_at (i := m) (fr.ev rfl) (fr.ev rfl) Try.underlying46 sz_3 (by omega) (by rfl)) rfl rfl ?_
    intro a fr
    refine dr_take 8 rfl (by kernel_rfl) (by kernel_rfl) (by kernel_rfl) (fun _ _ _ h => h) fr rfl (st.sub (.cons_cons _ (.cons_cons _ (.cons_cons _ .slnil)))) (fun w st => rn_load (fr.ev rfl) Try.underlying3 rfl (st.rocell 0 rfl (j := 0) rfl)) rfl rfl ?_
    intro a fr
    refine dr_one 9 (by kernel_rfl) rfl rfl (ow_call fr rfl rfl Try.call54 (less_f hle _) rfl rfl ?_)
    rintro e w ⟨rfl, hag⟩
    refine ⟨_, rfl, ?_⟩
    intro a fr
    have st := st.keep hag
    clear hag
    refine ⟨st.sub (.cons_cons _ (.cons_cons _ (.cons_cons _ .slnil))), ?_⟩
    refine dr_done (by kernel_rfl) ?_
    refine then_n ?_
    refine cond_f fr rfl rfl ?_
    refine wp_skip ?_
    refine blk_n ?_
    refine then_n ?_
    refine reg ?_
    refine lst rfl (ow_v fr (rn_move (fr.ev rfl)) rfl rfl ?_)
    intro a fr
    refine lst rfl (ow_v fr (rn_sub (a := ((m + 1) : Nat)) (b := 1) (c := (m : Nat)) (fr.ev rfl) (fr.ev rfl) (wr_i64e (by omega) (by omega) (by omega))) rfl rfl ?_)
    intro a fr
    refine lst rfl (ow_v fr (rn_assign (fr.ev rfl)) rfl rfl ?_)
    intro a fr
    refine wpList_nil ?_
    refine then_n ⟨m, ?_, _, (by omega), rfl, fr.prune ⟨rfl, rfl, trivial⟩, st.sub (.cons _ (.cons _ (.cons_cons _ .slnil)))⟩
    omega
  · refine wp_seq ?_
    refine wp_seq ?_
    refine reg ?_
    refine lst rfl (ow_v fr (rn_move (fr.ev rfl)) rfl rfl ?_)
    intro a fr
    refine lst rfl (ow_v fr (rn_as (v' := .bool false) (rn_gtr (fr.ev rfl) (fr.ev rfl)) (congrArg Value.bool (decide_eq_false (by omega)))) rfl rfl ?_)
    intro a fr
    refine wpList_nil ?_
    refine then_n ?_
    refine cond_f fr rfl rfl ?_
    refine wp_exit ?_
    refine then_x ?_
    refine then_x ?_
    refine blk_x ?_
    refine then_n ?_
    refine wp_seq ?_
    refine reg ?_
    refine lst rfl (ow_v fr (rn_assign (fr.ev rfl)) rfl rfl ?_)
    intro a fr
    refine wpList_nil ?_
    refine then_n ?_
    refine wp_ret ?_
    refine ret1 Try.results30 fr (rv_tmp fr rfl) ?_
    exact ⟨rfl, st.agr⟩

set_option maxHeartbeats 1000000 in
theorem flow_walk (bs : List UInt8) (BA : Option Addr) (bc : Nat) (hbc : bs.length ≤ bc) (hbl : bs.length ≤ 140737488355328) (w0 : World) (hx : Els C8 1 w0 BA bs) : Calls Try.prog 6 #[.slice BA bs.length bc] w0 fun e w' => e = .returned (.bool true) ∧ Below w0.heap.size w0 w' := by
  have st : St w0 [] w0 [els C8 1 BA bs] := (add_ro (start0 w0 []) (by simp [els, ro, It.wr]) rfl (els_ok (C := C8) (sz := 1) (by decide) (fun x => rfl) hx))
  clear hx
  obtain ⟨l, er, hd⟩ : ∃ l er, decF bs = (l, er) := ⟨_, _, rfl⟩
  by_cases her : er = 0
  · subst her
    obtain ⟨hp, hb, hlw, _, hb4, _⟩ := dec_inc hd
    have hwl : l.length ≤ bs.length := by rw [hlw]; exact walk_len bs
    have hl32 : l.length * 32 ≤ 140737488355328 := by omega
    refine enter Try.func6 rfl Try.ntmps6 (by simp) ?_
    intro a fr
    refine wp_seq ?_
    refine reg ?_
    refine lst rfl (ow_v fr (rn_assign (fr.ev rfl)) rfl rfl ?_)
    intro a fr
    refine wpList_nil ?_
    refine then_n ?_
    refine wp_seq ?_
    refine reg ?_
    refine lst rfl (ow_v fr (rn_move (fr.ev rfl)) rfl rfl ?_)
    intro a fr
    refine lst rfl (ow_call fr rfl rfl Try.call11 (dec_calls bs _ _ hbc hbl _ (st.get 0 rfl).1) rfl rfl ?_)
    rintro e w ⟨DA, dc, he, hrow, hag⟩
    rw [hd] at he hrow; simp only at he hrow; subst he
    refine ⟨_, rfl, ?_⟩
    intro a fr
    have st := st.call_row hag hrow
    clear hag hrow
    replace st : St _ [] w [row insC 4 29 w0.heap.size (.slice DA l.length dc) l, els C8 1 BA bs] := st
    refine lst rfl (ow_v fr (rn_move (fr.ev rfl)) rfl rfl ?_)
    intro a fr
    refine lst rfl (ow_v fr (rn_extract (fr.ev rfl) rfl) rfl rfl ?_)
    intro a fr
    refine lst rfl (ow_v fr (rn_extract (fr.ev rfl) rfl) rfl rfl ?_)
    intro a fr
    refine lst rfl (ow_v fr (rn_assign (fr.ev rfl)) rfl rfl ?_)
    intro a fr
    refine lst rfl (ow_v fr (rn_assign (fr.ev rfl)) rfl rfl ?_)
    intro a fr
    refine wpList_nil ?_
    refine then_n ?_
    refine wp_seq ?_
    refine wp_seq ?_
    refine reg ?_
    refine lst rfl (ow_v fr (rn_move (fr.ev rfl)) rfl rfl ?_)
    intro a fr
    refine lst rfl (ow_v fr (rn_as (rn_neq (fr.ev rfl) (fr.ev rfl)) (by rfl)) rfl rfl ?_)
    intro a fr
    refine lst rfl (ow_v fr (rn_move (fr.ev rfl)) rfl rfl ?_)
    intro a fr
    refine lst_y (wanted_of fr rfl rfl rfl rfl) (ow_call fr rfl rfl Try.call10 (live_calls _) rfl rfl ?_)
    rintro e w ⟨rfl, hag⟩
    refine ⟨_, rfl, ?_⟩
    intro a fr
    have st := st.keep hag
    clear hag
    refine lst_y (wanted_of fr rfl rfl rfl rfl) (ow_v fr (rn_not (fr.ev rfl)) rfl rfl ?_)
    intro a fr
    refine lst rfl (ow_v fr (rn_pick_f (fr.ev rfl) (fr.ev rfl)) rfl rfl ?_)
    intro a fr
    refine wpList_nil ?_
    refine then_n ?_
    refine cond_f fr rfl rfl ?_
    refine wp_skip ?_
    refine then_n ?_
    refine wp_seq ?_
    refine wp_seq ?_
    have st := st.weaken 0 rfl (it := els insC 4 DA l) (fun h => by cases h) (elsFp_row (e := 29) (base := w0.heap.size) (m := l.length) (c := dc)) (els_ok (C := insC) (sz := 4) (by decide) (fun _ => rfl) (row_els (fun _ => rfl) (st.get 0 rfl).1))
    replace st : St _ [] _ [els insC 4 DA l, els C8 1 BA bs] := st
    refine reg ?_
    refine lst rfl (ow_v fr (rn_move (fr.ev rfl)) rfl rfl ?_)
    intro a fr
    refine lst rfl (ow_v fr (rn_len (fr.ev rfl) Try.underlying24) rfl rfl ?_)
    intro a fr
    refine lst rfl (ow_v fr (rn_move (fr.ev rfl)) rfl rfl ?_)
    intro a fr
    refine wpList_nil ?_
    refine then_n ?_
    refine wp_block ?_
    refine wp_loop_ghost (fun mz a w => ∃ (k : Nat), (k ≤ l.length) ∧ mz = l.length - k ∧ FrL 85 a [(3, .slice DA l.length dc), (27, .slice DA l.length dc), (28, .int .i64 ((l.length : Nat))), (29, .int .i64 ((k : Nat)))] ∧ St w0 [] w [els insC 4 DA l, els C8 1 BA bs]) _ ⟨0, (Nat.zero_le _), rfl, fr.prune ⟨rfl, rfl, rfl, rfl, trivial⟩, st⟩ ?_
    clear fr st
    intro mz a w hI
    obtain ⟨k, hk, hmz, fr, st⟩ := hI
    by_cases hlt : k < l.length
    · refine wp_seq ?_
      refine reg ?_
      refine lst rfl (ow_v fr (rn_as (v' := .bool true) (rn_lss (fr.ev rfl) (fr.ev rfl)) (congrArg Value.bool (decide_eq_true (by omega)))) rfl rfl ?_)
      intro a fr
      refine wpList_nil ?_
      refine then_n ?_
      refine wp_seq ?_
      refine cond_t fr rfl rfl ?_
      refine wp_skip ?_
      refine then_n ?_
      refine wp_seq ?_
      refine wp_block ?_
      refine wp_seq ?_
      refine reg ?_
      refine lst rfl (ow_v fr (rn_move (fr.ev rfl)) rfl rfl ?_)
      intro a fr
      obtain ⟨b1, o2, eA, st_⟩ := st.elem 0 rfl k hlt (by simp [insC])
      have fr_ := fr
      cases eA
      have st := st_
      have fr := fr_
      clear st_ fr_
      obtain ⟨y0, y1, y2, y3, hx_l_y0⟩ : ∃ y0 y1 y2 y3, l[k] = (y0, y1, y2, y3) := ⟨_, _, _, _, rfl⟩
      rw [hx_l_y0] at st
      replace st : St _ [] _ [ro b1 (o2 + k * 4) [.int .i64 (y0), .int .i64 (y1), .int .i64 (y2), .int .i64 (y3)], els insC 4 (some ⟨b1, o2, none⟩) l, els C8 1 BA bs] := st
      refine lst rfl (ow_v fr (rn_at (i := k) (fr.ev rfl) (fr.ev rfl) Try.underlying24 sz_29 (by omega) (by rfl)) rfl rfl ?_)
      intro a fr
      refine lst rfl (ow_v fr (rn_loadN (cs := [.int .i64 (y0), .int .i64 (y1), .int .i64 (y2), .int .i64 (y3)]) (fr.ev rfl) Try.underlying29 rfl sz_29 (st.rorange 0 rfl 0 rfl)) rfl rfl ?_)
      intro a fr
      refine lst rfl (ow_alloc fr st rfl zv_29 rfl rfl _ (by rfl) ?_)
      intro a w b3 fr st
      refine lst rfl (ow_v fr (rn_assign (fr.ev rfl)) rfl rfl ?_)
      intro a fr
      refine lst rfl (ow_stN fr st 0 (vs := [.int .i64 (y0), .int .i64 (y1), .int .i64 (y2), .int .i64 (y3)]) rfl rfl rfl rfl sz_29 rfl (Nat.le_of_ble_eq_true rfl) rfl ?_)
      intro w (st : St _ [] w [.blk b3 [.int .i64 (y0), .int .i64 (y1), .int .i64 (y2), .int .i64 (y3)] 29, ro b1 (o2 + k * 4) [.int .i64 (y0), .int .i64 (y1), .int .i64 (y2), .int .i64 (y3)], els insC 4 (some ⟨b1, o2, none⟩) l, els C8 1 BA bs])
      refine wpList_nil ?_
      refine then_n ?_
      refine wp_seq ?_
      refine reg ?_
      refine lst rfl (ow_v fr (fa_29_1 (fr.ev rfl)) rfl rfl ?_)
      intro a fr
      refine lst rfl (ow_v fr (rn_load (fr.ev rfl) Try.underlying3 rfl (st.cell 0 rfl rfl)) rfl rfl ?_)
      intro a fr
      refine lst rfl (ow_call fr rfl rfl Try.call19 (form_j y1 _) rfl rfl ?_)
      rintro e w ⟨f, fb, rfl, hfj, hag⟩
      refine ⟨_, rfl, ?_⟩
      intro a fr
      have st := st.keep hag
      clear hag
      refine lst rfl (ow_v fr (rn_move (fr.ev rfl)) rfl rfl ?_)
      intro a fr
      refine lst rfl (ow_v fr (rn_extract (fr.ev rfl) rfl) rfl rfl ?_)
      intro a fr
      refine lst rfl (ow_v fr (rn_extract (fr.ev rfl) rfl) rfl rfl ?_)
      intro a fr
      refine lst rfl (ow_v fr (rn_assign (fr.ev rfl)) rfl rfl ?_)
      intro a fr
      refine lst rfl (ow_v fr (rn_assign (fr.ev rfl)) rfl rfl ?_)
      intro a fr
      refine wpList_nil ?_
      refine then_n ?_
      refine wp_seq ?_
      have hc := flow_cnt hp hb hlt hx_l_y0
      by_cases he_ : endsF y1 = true
      · by_cases hn_ : k + 1 < l.length
        · by_cases hj_ : jmp y1 = true
          · have hcnt := hc.2.1 (.inl he_) hj_
            refine reg ?_
            refine lst rfl (ow_v fr (rn_move (fr.ev rfl)) rfl rfl ?_)
            intro a fr
            refine lst rfl (ow_v fr (rn_move (fr.ev rfl)) rfl rfl ?_)
            intro a fr
            refine lst rfl (ow_call fr rfl rfl Try.call29 (next_in l _ dc hl32 k hlt _ (st.get 2 rfl).1) rfl rfl ?_)
            rintro e w ⟨NA, nc, rfl, hrow, hag⟩
            refine ⟨_, rfl, ?_⟩
            intro a fr
            have st := st.call_row hag hrow
            clear hag hrow
            replace st : St _ [] w [row CI 1 3 w0.heap.size (.slice NA ((nxL l k l.length).length) nc) ((nxL l k l.length)), .blk b3 [.int .i64 (y0), .int .i64 (y1), .int .i64 (y2), .int .i64 (y3)] 29, ro b1 (o2 + k * 4) [.int .i64 (y0), .int .i64 (y1), .int .i64 (y2), .int .i64 (y3)], els insC 4 (some ⟨b1, o2, none⟩) l, els C8 1 BA bs] := st
            refine lst rfl (ow_v fr (rn_assign (fr.ev rfl)) rfl rfl ?_)
            intro a fr
            refine wpList_nil ?_
            refine then_n ?_
            refine wp_seq ?_
            refine reg ?_
            refine lst rfl (ow_v fr (rn_assign (fr.ev rfl)) rfl rfl ?_)
            intro a fr
            refine wpList_nil ?_
            refine then_n ?_
            refine wp_seq ?_
            refine wp_seq ?_
            refine reg ?_
            refine lst rfl (ow_v fr (fa_29_1 (fr.ev rfl)) rfl rfl ?_)
            intro a fr
            refine lst rfl (ow_v fr (rn_load (fr.ev rfl) Try.underlying3 rfl (st.cell 1 rfl rfl)) rfl rfl ?_)
            intro a fr
            refine lst rfl (ow_call fr rfl rfl Try.call27 (ends_is y1 true he_ _) rfl rfl ?_)
            rintro e w ⟨rfl, hag⟩
            refine ⟨_, rfl, ?_⟩
            intro a fr
            have st := st.keep hag
            clear hag
            refine lst rfl (ow_v fr (rn_not (fr.ev rfl)) rfl rfl ?_)
            intro a fr
            refine lst rfl (ow_v fr (rn_move (fr.ev rfl)) rfl rfl ?_)
            intro a fr
            refine lst_n (unwanted_of fr rfl rfl rfl rfl) fr rfl rfl ?_
            intro a fr
            refine lst_n (unwanted_of fr rfl rfl rfl rfl) fr rfl rfl ?_
            intro a fr
            refine lst_n (unwanted_of fr rfl rfl rfl rfl) fr rfl rfl ?_
            intro a fr
            refine lst_n (unwanted_of fr rfl rfl rfl rfl) fr rfl rfl ?_
            intro a fr
            refine lst_n (unwanted_of fr rfl rfl rfl rfl) fr rfl rfl ?_
            intro a fr
            refine lst rfl (ow_v fr (rn_pick_f (fr.ev rfl) (fr.ev rfl)) rfl rfl ?_)
            intro a fr
            refine wpList_nil ?_
            refine then_n ?_
            refine cond_f fr rfl rfl ?_
            refine wp_skip ?_
            refine then_n ?_
            refine wp_seq ?_
            refine wp_seq ?_
            refine dr_start (by kernel_rfl) st (.cons_cons _ (.cons_cons _ (.cons_cons _ (.cons_cons _ (.cons_cons _ .slnil))))) ?_
            intro w st
            refine dr_take 0 rfl (by kernel_rfl) (by kernel_rfl) (by kernel_rfl) (fun _ _ _ h => h) fr rfl (st.sub (.cons_cons _ (.cons_cons _ (.cons_cons _ (.cons_cons _ (.cons_cons _ .slnil)))))) (fun w st => rn_move (fr.ev rfl)) rfl rfl ?_
            intro a fr
            refine dr_take 1 rfl (by kernel_rfl) (by kernel_rfl) (by kernel_rfl) (fun _ _ _ h => h) fr rfl (st.sub (.cons_cons _ (.cons_cons _ (.cons_cons _ (.cons_cons _ (.cons_cons _ .slnil)))))) (fun w st => rn_as (v' := .bool true) (rn_eql (fr.ev rfl) (fr.ev rfl)) (congrArg Value.bool (by rw [hfj, hj_]))) rfl rfl ?_
            intro a fr
            refine dr_take 2 rfl (by kernel_rfl) (by kernel_rfl) (by kernel_rfl) (fun _ _ _ h => h) fr rfl (st.sub (.cons_cons _ (.cons_cons _ (.cons_cons _ (.cons_cons _ (.cons_cons _ .slnil)))))) (fun w st => rn_move (fr.ev rfl)) rfl rfl ?_
            intro a fr
            refine dr_take_y 3 rfl (by kernel_rfl) (by kernel_rfl) (by kernel_rfl) (fun _ _ _ h => h) fr (wanted_of fr rfl rfl rfl rfl) (st.sub (.cons_cons _ (.cons_cons _ (.cons_cons _ (.cons_cons _ (.cons_cons _ .slnil)))))) (fun w st => rn_move (fr.ev rfl)) rfl rfl ?_
            intro a fr
            refine dr_take_y 4 rfl (by kernel_rfl) (by kernel_rfl) (by kernel_rfl) (fun _ _ _ h => h) fr (wanted_of fr rfl rfl rfl rfl) (st.sub (.cons_cons _ (.cons_cons _ (.cons_cons _ (.cons_cons _ (.cons_cons _ .slnil)))))) (fun w st => rn_as (rn_eql (fr.ev rfl) (fr.ev rfl)) (by rfl)) rfl rfl ?_
            intro a fr
            refine dr_take_y 5 rfl (by kernel_rfl) (by kernel_rfl) (by kernel_rfl) (fun _ _ _ h => h) fr (wanted_of fr rfl rfl rfl rfl) (st.sub (.cons_cons _ (.cons_cons _ (.cons_cons _ (.cons_cons _ (.cons_cons _ .slnil)))))) (fun w st => rn_move (fr.ev rfl)) rfl rfl ?_
            intro a fr
            refine dr_take_n 6 rfl (by kernel_rfl) (by kernel_rfl) (by kernel_rfl) (fun _ _ _ h => h) fr (unwanted_of fr rfl rfl rfl rfl) (st.sub (.cons_cons _ (.cons_cons _ (.cons_cons _ (.cons_cons _ (.cons_cons _ .slnil)))))) rfl rfl ?_
            intro a fr
            refine dr_take_n 7 rfl (by kernel_rfl) (by kernel_rfl) (by kernel_rfl) (fun _ _ _ h => h) fr (unwanted_of fr rfl rfl rfl rfl) (st.sub (.cons_cons _ (.cons_cons _ (.cons_cons _ (.cons_cons _ (.cons_cons _ .slnil)))))) rfl rfl ?_
            intro a fr
            refine dr_take_n 8 rfl (by kernel_rfl) (by kernel_rfl) (by kernel_rfl) (fun _ _ _ h => h) fr (unwanted_of fr rfl rfl rfl rfl) (st.sub (.cons_cons _ (.cons_cons _ (.cons_cons _ (.cons_cons _ (.cons_cons _ .slnil)))))) rfl rfl ?_
            intro a fr
            refine dr_take_n 9 rfl (by kernel_rfl) (by kernel_rfl) (by kernel_rfl) (fun _ _ _ h => h) fr (unwanted_of fr rfl rfl rfl rfl) (st.sub (.cons_cons _ (.cons_cons _ (.cons_cons _ (.cons_cons _ (.cons_cons _ .slnil)))))) rfl rfl ?_
            intro a fr
            refine dr_take_n 10 rfl (by kernel_rfl) (by kernel_rfl) (by kernel_rfl) (fun _ _ _ h => h) fr (unwanted_of fr rfl rfl rfl rfl) (st.sub (.cons_cons _ (.cons_cons _ (.cons_cons _ (.cons_cons _ (.cons_cons _ .slnil)))))) rfl rfl ?_
            intro a fr
            refine dr_take_n 11 rfl (by kernel_rfl) (by kernel_rfl) (by kernel_rfl) (fun _ _ _ h => h) fr (unwanted_of fr rfl rfl rfl rfl) (st.sub (.cons_cons _ (.cons_cons _ (.cons_cons _ (.cons_cons _ (.cons_cons _ .slnil)))))) rfl rfl ?_
            intro a fr
            refine dr_take_n 12 rfl (by kernel_rfl) (by kernel_rfl) (by kernel_rfl) (fun _ _ _ h => h) fr (unwanted_of fr rfl rfl rfl rfl) (st.sub (.cons_cons _ (.cons_cons _ (.cons_cons _ (.cons_cons _ (.cons_cons _ .slnil)))))) rfl rfl ?_
            intro a fr
            refine dr_take_n 13 rfl (by kernel_rfl) (by kernel_rfl) (by kernel_rfl) (fun _ _ _ h => h) fr (unwanted_of fr rfl rfl rfl rfl) (st.sub (.cons_cons _ (.cons_cons _ (.cons_cons _ (.cons_cons _ (.cons_cons _ .slnil)))))) rfl rfl ?_
            intro a fr
            refine dr_take_n 14 rfl (by kernel_rfl) (by kernel_rfl) (by kernel_rfl) (fun _ _ _ h => h) fr (unwanted_of fr rfl rfl rfl rfl) (st.sub (.cons_cons _ (.cons_cons _ (.cons_cons _ (.cons_cons _ (.cons_cons _ .slnil)))))) rfl rfl ?_
            intro a fr
            refine dr_take_y 15 rfl (by kernel_rfl) (by kernel_rfl) (by kernel_rfl) (fun _ _ _ h => h) fr (wanted_of fr rfl rfl rfl rfl) (st.sub (.cons_cons _ (.cons_cons _ (.cons_cons _ (.cons_cons _ (.cons_cons _ .slnil)))))) (fun w st => rn_pick_t (fr.ev rfl) (fr.ev rfl)) rfl rfl ?_
            intro a fr
            refine dr_take 16 rfl (by kernel_rfl) (by kernel_rfl) (by kernel_rfl) (fun _ _ _ h => h) fr rfl (st.sub (.cons_cons _ (.cons_cons _ (.cons_cons _ (.cons_cons _ (.cons_cons _ .slnil)))))) (fun w st => rn_pick_t (fr.ev rfl) (fr.ev rfl)) rfl rfl ?_
            intro a fr
            refine dr_done (by kernel_rfl) ?_
            refine then_n ?_
            refine cond_t fr rfl rfl ?_
            refine reg ?_
            refine lst rfl (ow_v fr (rn_move (fr.ev rfl)) rfl rfl ?_)
            intro a fr
            refine lst rfl (ow_v fr (rn_add (c := 1) (fr.ev rfl) (fr.ev rfl) (by decide)) rfl rfl ?_)
            intro a fr
            refine lst rfl (ow_v fr (rn_assign (fr.ev rfl)) rfl rfl ?_)
            intro a fr
            refine wpList_nil ?_
            refine then_n ?_
            refine wp_seq ?_
            refine reg ?_
            refine lst rfl (ow_v fr (rn_move (fr.ev rfl)) rfl rfl ?_)
            intro a fr
            refine lst rfl (ow_v fr (rn_len (fr.ev rfl) Try.underlying46) rfl rfl ?_)
            intro a fr
            refine lst rfl (ow_v fr (rn_move (fr.ev rfl)) rfl rfl ?_)
            intro a fr
            refine lst rfl (ow_v fr (rn_as (v' := .bool false) (rn_neq (fr.ev rfl) (fr.ev rfl)) (congrArg Value.bool (by rw [hcnt]; rfl))) rfl rfl ?_)
            intro a fr
            refine lst rfl (ow_v fr (rn_move (fr.ev rfl)) rfl rfl ?_)
            intro a fr
            refine lst_y (wanted_of fr rfl rfl rfl rfl) (ow_v fr (rn_move (fr.ev rfl)) rfl rfl ?_)
            intro a fr
            refine lst_y (wanted_of fr rfl rfl rfl rfl) (ow_call fr rfl rfl Try.call30 (sorted_calls _ (nxL_sorted l k l.length) _ _ (by have := nxL_len l k l.length; omega) _ (row_els (fun _ => rfl) (st.get 0 rfl).1)) rfl rfl ?_)
            rintro e w ⟨rfl, hag⟩
            refine ⟨_, rfl, ?_⟩
            intro a fr
            have st := st.keep hag
            clear hag
            refine lst_y (wanted_of fr rfl rfl rfl rfl) (ow_v fr (rn_not (fr.ev rfl)) rfl rfl ?_)
            intro a fr
            refine lst rfl (ow_v fr (rn_pick_f (fr.ev rfl) (fr.ev rfl)) rfl rfl ?_)
            intro a fr
            refine wpList_nil ?_
            refine then_n ?_
            refine cond_f fr rfl rfl ?_
            refine wp_skip ?_
            refine blk_n ?_
            refine then_n ?_
            refine reg ?_
            refine lst rfl (ow_v fr (rn_add (a := (k : Nat)) (b := 1) (c := ((k + 1 : Nat) : Int)) (fr.ev rfl) (fr.ev rfl) (wr_i64e (by omega) (by omega) (by omega))) rfl rfl ?_)
            intro a fr
            refine lst rfl (ow_v fr (rn_move (fr.ev rfl)) rfl rfl ?_)
            intro a fr
            refine wpList_nil ?_
            refine then_n ⟨l.length - (k + 1), ?_, k + 1, (by omega), rfl, fr.prune ⟨rfl, rfl, rfl, rfl, trivial⟩, st.sub (.cons _ (.cons _ (.cons _ (.cons_cons _ (.cons_cons _ .slnil)))))⟩
            omega
          · replace hj_ := Bool.eq_false_iff.2 hj_
            have hcnt := hc.1 (.inl he_) hj_
            refine reg ?_
            refine lst rfl (ow_v fr (rn_move (fr.ev rfl)) rfl rfl ?_)
            intro a fr
            refine lst rfl (ow_v fr (rn_move (fr.ev rfl)) rfl rfl ?_)
            intro a fr
            refine lst rfl (ow_call fr rfl rfl Try.call29 (next_in l _ dc hl32 k hlt _ (st.get 2 rfl).1) rfl rfl ?_)
            rintro e w ⟨NA, nc, rfl, hrow, hag⟩
            refine ⟨_, rfl, ?_⟩
            intro a fr
            have st := st.call_row hag hrow
            clear hag hrow
            replace st : St _ [] w [row CI 1 3 w0.heap.size (.slice NA ((nxL l k l.length).length) nc) ((nxL l k l.length)), .blk b3 [.int .i64 (y0), .int .i64 (y1), .int .i64 (y2), .int .i64 (y3)] 29, ro b1 (o2 + k * 4) [.int .i64 (y0), .int .i64 (y1), .int .i64 (y2), .int .i64 (y3)], els insC 4 (some ⟨b1, o2, none⟩) l, els C8 1 BA bs] := st
            refine lst rfl (ow_v fr (rn_assign (fr.ev rfl)) rfl rfl ?_)
            intro a fr
            refine wpList_nil ?_
            refine then_n ?_
            refine wp_seq ?_
            refine reg ?_
            refine lst rfl (ow_v fr (rn_assign (fr.ev rfl)) rfl rfl ?_)
            intro a fr
            refine wpList_nil ?_
            refine then_n ?_
            refine wp_seq ?_
            refine wp_seq ?_
            refine reg ?_
            refine lst rfl (ow_v fr (fa_29_1 (fr.ev rfl)) rfl rfl ?_)
            intro a fr
            refine lst rfl (ow_v fr (rn_load (fr.ev rfl) Try.underlying3 rfl (st.cell 1 rfl rfl)) rfl rfl ?_)
            intro a fr
            refine lst rfl (ow_call fr rfl rfl Try.call27 (ends_is y1 true he_ _) rfl rfl ?_)
            rintro e w ⟨rfl, hag⟩
            refine ⟨_, rfl, ?_⟩
            intro a fr
            have st := st.keep hag
            clear hag
            refine lst rfl (ow_v fr (rn_not (fr.ev rfl)) rfl rfl ?_)
            intro a fr
            refine lst rfl (ow_v fr (rn_move (fr.ev rfl)) rfl rfl ?_)
            intro a fr
            refine lst_n (unwanted_of fr rfl rfl rfl rfl) fr rfl rfl ?_
            intro a fr
            refine lst_n (unwanted_of fr rfl rfl rfl rfl) fr rfl rfl ?_
            intro a fr
            refine lst_n (unwanted_of fr rfl rfl rfl rfl) fr rfl rfl ?_
            intro a fr
            refine lst_n (unwanted_of fr rfl rfl rfl rfl) fr rfl rfl ?_
            intro a fr
            refine lst_n (unwanted_of fr rfl rfl rfl rfl) fr rfl rfl ?_
            intro a fr
            refine lst rfl (ow_v fr (rn_pick_f (fr.ev rfl) (fr.ev rfl)) rfl rfl ?_)
            intro a fr
            refine wpList_nil ?_
            refine then_n ?_
            refine cond_f fr rfl rfl ?_
            refine wp_skip ?_
            refine then_n ?_
            refine wp_seq ?_
            refine wp_seq ?_
            refine dr_start (by kernel_rfl) st (.cons_cons _ (.cons_cons _ (.cons_cons _ (.cons_cons _ (.cons_cons _ .slnil))))) ?_
            intro w st
            refine dr_take 0 rfl (by kernel_rfl) (by kernel_rfl) (by kernel_rfl) (fun _ _ _ h => h) fr rfl (st.sub (.cons_cons _ (.cons_cons _ (.cons_cons _ (.cons_cons _ (.cons_cons _ .slnil)))))) (fun w st => rn_move (fr.ev rfl)) rfl rfl ?_
            intro a fr
            refine dr_take 1 rfl (by kernel_rfl) (by kernel_rfl) (by kernel_rfl) (fun _ _ _ h => h) fr rfl (st.sub (.cons_cons _ (.cons_cons _ (.cons_cons _ (.cons_cons _ (.cons_cons _ .slnil)))))) (fun w st => rn_as (v' := .bool false) (rn_eql (fr.ev rfl) (fr.ev rfl)) (congrArg Value.bool (by rw [hfj, hj_]))) rfl rfl ?_
            intro a fr
            refine dr_take 2 rfl (by kernel_rfl) (by kernel_rfl) (by kernel_rfl) (fun _ _ _ h => h) fr rfl (st.sub (.cons_cons _ (.cons_cons _ (.cons_cons _ (.cons_cons _ (.cons_cons _ .slnil)))))) (fun w st => rn_move (fr.ev rfl)) rfl rfl ?_
            intro a fr
            refine dr_take_n 3 rfl (by kernel_rfl) (by kernel_rfl) (by kernel_rfl) (fun _ _ _ h => h) fr (unwanted_of fr rfl rfl rfl rfl) (st.sub (.cons_cons _ (.cons_cons _ (.cons_cons _ (.cons_cons _ (.cons_cons _ .slnil)))))) rfl rfl ?_
            intro a fr
            refine dr_take_n 4 rfl (by kernel_rfl) (by kernel_rfl) (by kernel_rfl) (fun _ _ _ h => h) fr (unwanted_of fr rfl rfl rfl rfl) (st.sub (.cons_cons _ (.cons_cons _ (.cons_cons _ (.cons_cons _ (.cons_cons _ .slnil)))))) rfl rfl ?_
            intro a fr
            refine dr_take_n 5 rfl (by kernel_rfl) (by kernel_rfl) (by kernel_rfl) (fun _ _ _ h => h) fr (unwanted_of fr rfl rfl rfl rfl) (st.sub (.cons_cons _ (.cons_cons _ (.cons_cons _ (.cons_cons _ (.cons_cons _ .slnil)))))) rfl rfl ?_
            intro a fr
            refine dr_take_n 6 rfl (by kernel_rfl) (by kernel_rfl) (by kernel_rfl) (fun _ _ _ h => h) fr (unwanted_u fr rfl rfl rfl) (st.sub (.cons_cons _ (.cons_cons _ (.cons_cons _ (.cons_cons _ (.cons_cons _ .slnil)))))) rfl rfl ?_
            intro a fr
            refine dr_take_n 7 rfl (by kernel_rfl) (by kernel_rfl) (by kernel_rfl) (fun _ _ _ h => h) fr (unwanted_u fr rfl rfl rfl) (st.sub (.cons_cons _ (.cons_cons _ (.cons_cons _ (.cons_cons _ (.cons_cons _ .slnil)))))) rfl rfl ?_
            intro a fr
            refine dr_take_n 8 rfl (by kernel_rfl) (by kernel_rfl) (by kernel_rfl) (fun _ _ _ h => h) fr (unwanted_u fr rfl rfl rfl) (st.sub (.cons_cons _ (.cons_cons _ (.cons_cons _ (.cons_cons _ (.cons_cons _ .slnil)))))) rfl rfl ?_
            intro a fr
            refine dr_take_n 9 rfl (by kernel_rfl) (by kernel_rfl) (by kernel_rfl) (fun _ _ _ h => h) fr (unwanted_u fr rfl rfl rfl) (st.sub (.cons_cons _ (.cons_cons _ (.cons_cons _ (.cons_cons _ (.cons_cons _ .slnil)))))) rfl rfl ?_
            intro a fr
            refine dr_take_n 10 rfl (by kernel_rfl) (by kernel_rfl) (by kernel_rfl) (fun _ _ _ h => h) fr (unwanted_u fr rfl rfl rfl) (st.sub (.cons_cons _ (.cons_cons _ (.cons_cons _ (.cons_cons _ (.cons_cons _ .slnil)))))) rfl rfl ?_
            intro a fr
            refine dr_take_n 11 rfl (by kernel_rfl) (by kernel_rfl) (by kernel_rfl) (fun _ _ _ h => h) fr (unwanted_u fr rfl rfl rfl) (st.sub (.cons_cons _ (.cons_cons _ (.cons_cons _ (.cons_cons _ (.cons_cons _ .slnil)))))) rfl rfl ?_
            intro a fr
            refine dr_take_n 12 rfl (by kernel_rfl) (by kernel_rfl) (by kernel_rfl) (fun _ _ _ h => h) fr (unwanted_u fr rfl rfl rfl) (st.sub (.cons_cons _ (.cons_cons _ (.cons_cons _ (.cons_cons _ (.cons_cons _ .slnil)))))) rfl rfl ?_
            intro a fr
            refine dr_take_n 13 rfl (by kernel_rfl) (by kernel_rfl) (by kernel_rfl) (fun _ _ _ h => h) fr (unwanted_u fr rfl rfl rfl) (st.sub (.cons_cons _ (.cons_cons _ (.cons_cons _ (.cons_cons _ (.cons_cons _ .slnil)))))) rfl rfl ?_
            intro a fr
            refine dr_take_n 14 rfl (by kernel_rfl) (by kernel_rfl) (by kernel_rfl) (fun _ _ _ h => h) fr (unwanted_u fr rfl rfl rfl) (st.sub (.cons_cons _ (.cons_cons _ (.cons_cons _ (.cons_cons _ (.cons_cons _ .slnil)))))) rfl rfl ?_
            intro a fr
            refine dr_take_n 15 rfl (by kernel_rfl) (by kernel_rfl) (by kernel_rfl) (fun _ _ _ h => h) fr (unwanted_of fr rfl rfl rfl rfl) (st.sub (.cons_cons _ (.cons_cons _ (.cons_cons _ (.cons_cons _ (.cons_cons _ .slnil)))))) rfl rfl ?_
            intro a fr
            refine dr_take 16 rfl (by kernel_rfl) (by kernel_rfl) (by kernel_rfl) (fun _ _ _ h => h) fr rfl (st.sub (.cons_cons _ (.cons_cons _ (.cons_cons _ (.cons_cons _ (.cons_cons _ .slnil)))))) (fun w st => rn_pick_f (fr.ev rfl) (fr.ev rfl)) rfl rfl ?_
            intro a fr
            refine dr_done (by kernel_rfl) ?_
            refine then_n ?_
            refine cond_f fr rfl rfl ?_
            refine wp_skip ?_
            refine then_n ?_
            refine wp_seq ?_
            refine reg ?_
            refine lst rfl (ow_v fr (rn_move (fr.ev rfl)) rfl rfl ?_)
            intro a fr
            refine lst rfl (ow_v fr (rn_len (fr.ev rfl) Try.underlying46) rfl rfl ?_)
            intro a fr
            refine lst rfl (ow_v fr (rn_move (fr.ev rfl)) rfl rfl ?_)
            intro a fr
            refine lst rfl (ow_v fr (rn_as (v' := .bool false) (rn_neq (fr.ev rfl) (fr.ev rfl)) (congrArg Value.bool (by rw [hcnt]; rfl))) rfl rfl ?_)
            intro a fr
            refine lst rfl (ow_v fr (rn_move (fr.ev rfl)) rfl rfl ?_)
            intro a fr
            refine lst_y (wanted_of fr rfl rfl rfl rfl) (ow_v fr (rn_move (fr.ev rfl)) rfl rfl ?_)
            intro a fr
            refine lst_y (wanted_of fr rfl rfl rfl rfl) (ow_call fr rfl rfl Try.call30 (sorted_calls _ (nxL_sorted l k l.length) _ _ (by have := nxL_len l k l.length; omega) _ (row_els (fun _ => rfl) (st.get 0 rfl).1)) rfl rfl ?_)
            rintro e w ⟨rfl, hag⟩
            refine ⟨_, rfl, ?_⟩
            intro a fr
            have st := st.keep hag
            clear hag
            refine lst_y (wanted_of fr rfl rfl rfl rfl) (ow_v fr (rn_not (fr.ev rfl)) rfl rfl ?_)
            intro a fr
            refine lst rfl (ow_v fr (rn_pick_f (fr.ev rfl) (fr.ev rfl)) rfl rfl ?_)
            intro a fr
            refine wpList_nil ?_
            refine then_n ?_
            refine cond_f fr rfl rfl ?_
            refine wp_skip ?_
            refine blk_n ?_
            refine then_n ?_
            refine reg ?_
            refine lst rfl (ow_v fr (rn_add (a := (k : Nat)) (b := 1) (c := ((k + 1 : Nat) : Int)) (fr.ev rfl) (fr.ev rfl) (wr_i64e (by omega) (by omega) (by omega))) rfl rfl ?_)
            intro a fr
            refine lst rfl (ow_v fr (rn_move (fr.ev rfl)) rfl rfl ?_)
            intro a fr
            refine wpList_nil ?_
            refine then_n ⟨l.length - (k + 1), ?_, k + 1, (by omega), rfl, fr.prune ⟨rfl, rfl, rfl, rfl, trivial⟩, st.sub (.cons _ (.cons _ (.cons _ (.cons_cons _ (.cons_cons _ .slnil)))))⟩
            omega
        · by_cases hj_ : jmp y1 = true
          · have hcnt := hc.2.1 (.inl he_) hj_
            refine reg ?_
            refine lst rfl (ow_v fr (rn_move (fr.ev rfl)) rfl rfl ?_)
            intro a fr
            refine lst rfl (ow_v fr (rn_move (fr.ev rfl)) rfl rfl ?_)
            intro a fr
            refine lst rfl (ow_call fr rfl rfl Try.call29 (next_in l _ dc hl32 k hlt _ (st.get 2 rfl).1) rfl rfl ?_)
            rintro e w ⟨NA, nc, rfl, hrow, hag⟩
            refine ⟨_, rfl, ?_⟩
            intro a fr
            have st := st.call_row hag hrow
            clear hag hrow
            replace st : St _ [] w [row CI 1 3 w0.heap.size (.slice NA ((nxL l k l.length).length) nc) ((nxL l k l.length)), .blk b3 [.int .i64 (y0), .int .i64 (y1), .int .i64 (y2), .int .i64 (y3)] 29, ro b1 (o2 + k * 4) [.int .i64 (y0), .int .i64 (y1), .int .i64 (y2), .int .i64 (y3)], els insC 4 (some ⟨b1, o2, none⟩) l, els C8 1 BA bs] := st
            refine lst rfl (ow_v fr (rn_assign (fr.ev rfl)) rfl rfl ?_)
            intro a fr
            refine wpList_nil ?_
            refine then_n ?_
            refine wp_seq ?_
            refine reg ?_
            refine lst rfl (ow_v fr (rn_assign (fr.ev rfl)) rfl rfl ?_)
            intro a fr
            refine wpList_nil ?_
            refine then_n ?_
            refine wp_seq ?_
            refine wp_seq ?_
            refine reg ?_
            refine lst rfl (ow_v fr (fa_29_1 (fr.ev rfl)) rfl rfl ?_)
            intro a fr
            refine lst rfl (ow_v fr (rn_load (fr.ev rfl) Try.underlying3 rfl (st.cell 1 rfl rfl)) rfl rfl ?_)
            intro a fr
            refine lst rfl (ow_call fr rfl rfl Try.call27 (ends_is y1 true he_ _) rfl rfl ?_)
            rintro e w ⟨rfl, hag⟩
            refine ⟨_, rfl, ?_⟩
            intro a fr
            have st := st.keep hag
            clear hag
            refine lst rfl (ow_v fr (rn_not (fr.ev rfl)) rfl rfl ?_)
            intro a fr
            refine lst rfl (ow_v fr (rn_move (fr.ev rfl)) rfl rfl ?_)
            intro a fr
            refine lst_n (unwanted_of fr rfl rfl rfl rfl) fr rfl rfl ?_
            intro a fr
            refine lst_n (unwanted_of fr rfl rfl rfl rfl) fr rfl rfl ?_
            intro a fr
            refine lst_n (unwanted_of fr rfl rfl rfl rfl) fr rfl rfl ?_
            intro a fr
            refine lst_n (unwanted_of fr rfl rfl rfl rfl) fr rfl rfl ?_
            intro a fr
            refine lst_n (unwanted_of fr rfl rfl rfl rfl) fr rfl rfl ?_
            intro a fr
            refine lst rfl (ow_v fr (rn_pick_f (fr.ev rfl) (fr.ev rfl)) rfl rfl ?_)
            intro a fr
            refine wpList_nil ?_
            refine then_n ?_
            refine cond_f fr rfl rfl ?_
            refine wp_skip ?_
            refine then_n ?_
            refine wp_seq ?_
            refine wp_seq ?_
            refine dr_start (by kernel_rfl) st (.cons_cons _ (.cons_cons _ (.cons_cons _ (.cons_cons _ (.cons_cons _ .slnil))))) ?_
            intro w st
            refine dr_take 0 rfl (by kernel_rfl) (by kernel_rfl) (by kernel_rfl) (fun _ _ _ h => h) fr rfl (st.sub (.cons_cons _ (.cons_cons _ (.cons_cons _ (.cons_cons _ (.cons_cons _ .slnil)))))) (fun w st => rn_move (fr.ev rfl)) rfl rfl ?_
            intro a fr
            refine dr_take 1 rfl (by kernel_rfl) (by kernel_rfl) (by kernel_rfl) (fun _ _ _ h => h) fr rfl (st.sub (.cons_cons _ (.cons_cons _ (.cons_cons _ (.cons_cons _ (.cons_cons _ .slnil)))))) (fun w st => rn_as (v' := .bool true) (rn_eql (fr.ev rfl) (fr.ev rfl)) (congrArg Value.bool (by rw [hfj, hj_]))) rfl rfl ?_
            intro a fr
            refine dr_take 2 rfl (by kernel_rfl) (by kernel_rfl) (by kernel_rfl) (fun _ _ _ h => h) fr rfl (st.sub (.cons_cons _ (.cons_cons _ (.cons_cons _ (.cons_cons _ (.cons_cons _ .slnil)))))) (fun w st => rn_move (fr.ev rfl)) rfl rfl ?_
            intro a fr
            refine dr_take_y 3 rfl (by kernel_rfl) (by kernel_rfl) (by kernel_rfl) (fun _ _ _ h => h) fr (wanted_of fr rfl rfl rfl rfl) (st.sub (.cons_cons _ (.cons_cons _ (.cons_cons _ (.cons_cons _ (.cons_cons _ .slnil)))))) (fun w st => rn_move (fr.ev rfl)) rfl rfl ?_
            intro a fr
            refine dr_take_y 4 rfl (by kernel_rfl) (by kernel_rfl) (by kernel_rfl) (fun _ _ _ h => h) fr (wanted_of fr rfl rfl rfl rfl) (st.sub (.cons_cons _ (.cons_cons _ (.cons_cons _ (.cons_cons _ (.cons_cons _ .slnil)))))) (fun w st => rn_as (rn_eql (fr.ev rfl) (fr.ev rfl)) (by rfl)) rfl rfl ?_
            intro a fr
            refine dr_take_y 5 rfl (by kernel_rfl) (by kernel_rfl) (by kernel_rfl) (fun _ _ _ h => h) fr (wanted_of fr rfl rfl rfl rfl) (st.sub (.cons_cons _ (.cons_cons _ (.cons_cons _ (.cons_cons _ (.cons_cons _ .slnil)))))) (fun w st => rn_move (fr.ev rfl)) rfl rfl ?_
            intro a fr
            refine dr_take_n 6 rfl (by kernel_rfl) (by kernel_rfl) (by kernel_rfl) (fun _ _ _ h => h) fr (unwanted_of fr rfl rfl rfl rfl) (st.sub (.cons_cons _ (.cons_cons _ (.cons_cons _ (.cons_cons _ (.cons_cons _ .slnil)))))) rfl rfl ?_
            intro a fr
            refine dr_take_n 7 rfl (by kernel_rfl) (by kernel_rfl) (by kernel_rfl) (fun _ _ _ h => h) fr (unwanted_of fr rfl rfl rfl rfl) (st.sub (.cons_cons _ (.cons_cons _ (.cons_cons _ (.cons_cons _ (.cons_cons _ .slnil)))))) rfl rfl ?_
            intro a fr
            refine dr_take_n 8 rfl (by kernel_rfl) (by kernel_rfl) (by kernel_rfl) (fun _ _ _ h => h) fr (unwanted_of fr rfl rfl rfl rfl) (st.sub (.cons_cons _ (.cons_cons _ (.cons_cons _ (.cons_cons _ (.cons_cons _ .slnil)))))) rfl rfl ?_
            intro a fr
            refine dr_take_n 9 rfl (by kernel_rfl) (by kernel_rfl) (by kernel_rfl) (fun _ _ _ h => h) fr (unwanted_of fr rfl rfl rfl rfl) (st.sub (.cons_cons _ (.cons_cons _ (.cons_cons _ (.cons_cons _ (.cons_cons _ .slnil)))))) rfl rfl ?_
            intro a fr
            refine dr_take_n 10 rfl (by kernel_rfl) (by kernel_rfl) (by kernel_rfl) (fun _ _ _ h => h) fr (unwanted_of fr rfl rfl rfl rfl) (st.sub (.cons_cons _ (.cons_cons _ (.cons_cons _ (.cons_cons _ (.cons_cons _ .slnil)))))) rfl rfl ?_
            intro a fr
            refine dr_take_n 11 rfl (by kernel_rfl) (by kernel_rfl) (by kernel_rfl) (fun _ _ _ h => h) fr (unwanted_of fr rfl rfl rfl rfl) (st.sub (.cons_cons _ (.cons_cons _ (.cons_cons _ (.cons_cons _ (.cons_cons _ .slnil)))))) rfl rfl ?_
            intro a fr
            refine dr_take_n 12 rfl (by kernel_rfl) (by kernel_rfl) (by kernel_rfl) (fun _ _ _ h => h) fr (unwanted_of fr rfl rfl rfl rfl) (st.sub (.cons_cons _ (.cons_cons _ (.cons_cons _ (.cons_cons _ (.cons_cons _ .slnil)))))) rfl rfl ?_
            intro a fr
            refine dr_take_n 13 rfl (by kernel_rfl) (by kernel_rfl) (by kernel_rfl) (fun _ _ _ h => h) fr (unwanted_of fr rfl rfl rfl rfl) (st.sub (.cons_cons _ (.cons_cons _ (.cons_cons _ (.cons_cons _ (.cons_cons _ .slnil)))))) rfl rfl ?_
            intro a fr
            refine dr_take_n 14 rfl (by kernel_rfl) (by kernel_rfl) (by kernel_rfl) (fun _ _ _ h => h) fr (unwanted_of fr rfl rfl rfl rfl) (st.sub (.cons_cons _ (.cons_cons _ (.cons_cons _ (.cons_cons _ (.cons_cons _ .slnil)))))) rfl rfl ?_
            intro a fr
            refine dr_take_y 15 rfl (by kernel_rfl) (by kernel_rfl) (by kernel_rfl) (fun _ _ _ h => h) fr (wanted_of fr rfl rfl rfl rfl) (st.sub (.cons_cons _ (.cons_cons _ (.cons_cons _ (.cons_cons _ (.cons_cons _ .slnil)))))) (fun w st => rn_pick_t (fr.ev rfl) (fr.ev rfl)) rfl rfl ?_
            intro a fr
            refine dr_take 16 rfl (by kernel_rfl) (by kernel_rfl) (by kernel_rfl) (fun _ _ _ h => h) fr rfl (st.sub (.cons_cons _ (.cons_cons _ (.cons_cons _ (.cons_cons _ (.cons_cons _ .slnil)))))) (fun w st => rn_pick_t (fr.ev rfl) (fr.ev rfl)) rfl rfl ?_
            intro a fr
            refine dr_done (by kernel_rfl) ?_
            refine then_n ?_
            refine cond_t fr rfl rfl ?_
            refine reg ?_
            refine lst rfl (ow_v fr (rn_move (fr.ev rfl)) rfl rfl ?_)
            intro a fr
            refine lst rfl (ow_v fr (rn_add (c := 1) (fr.ev rfl) (fr.ev rfl) (by decide)) rfl rfl ?_)
            intro a fr
            refine lst rfl (ow_v fr (rn_assign (fr.ev rfl)) rfl rfl ?_)
            intro a fr
            refine wpList_nil ?_
            refine then_n ?_
            refine wp_seq ?_
            refine reg ?_
            refine lst rfl (ow_v fr (rn_move (fr.ev rfl)) rfl rfl ?_)
            intro a fr
            refine lst rfl (ow_v fr (rn_len (fr.ev rfl) Try.underlying46) rfl rfl ?_)
            intro a fr
            refine lst rfl (ow_v fr (rn_move (fr.ev rfl)) rfl rfl ?_)
            intro a fr
            refine lst rfl (ow_v fr (rn_as (v' := .bool false) (rn_neq (fr.ev rfl) (fr.ev rfl)) (congrArg Value.bool (by rw [hcnt]; rfl))) rfl rfl ?_)
            intro a fr
            refine lst rfl (ow_v fr (rn_move (fr.ev rfl)) rfl rfl ?_)
            intro a fr
            refine lst_y (wanted_of fr rfl rfl rfl rfl) (ow_v fr (rn_move (fr.ev rfl)) rfl rfl ?_)
            intro a fr
            refine lst_y (wanted_of fr rfl rfl rfl rfl) (ow_call fr rfl rfl Try.call30 (sorted_calls _ (nxL_sorted l k l.length) _ _ (by have := nxL_len l k l.length; omega) _ (row_els (fun _ => rfl) (st.get 0 rfl).1)) rfl rfl ?_)
            rintro e w ⟨rfl, hag⟩
            refine ⟨_, rfl, ?_⟩
            intro a fr
            have st := st.keep hag
            clear hag
            refine lst_y (wanted_of fr rfl rfl rfl rfl) (ow_v fr (rn_not (fr.ev rfl)) rfl rfl ?_)
            intro a fr
            refine lst rfl (ow_v fr (rn_pick_f (fr.ev rfl) (fr.ev rfl)) rfl rfl ?_)
            intro a fr
            refine wpList_nil ?_
            refine then_n ?_
            refine cond_f fr rfl rfl ?_
            refine wp_skip ?_
            refine blk_n ?_
            refine then_n ?_
            refine reg ?_
            refine lst rfl (ow_v fr (rn_add (a := (k : Nat)) (b := 1) (c := ((k + 1 : Nat) : Int)) (fr.ev rfl) (fr.ev rfl) (wr_i64e (by omega) (by omega) (by omega))) rfl rfl ?_)
            intro a fr
            refine lst rfl (ow_v fr (rn_move (fr.ev rfl)) rfl rfl ?_)
            intro a fr
            refine wpList_nil ?_
            refine then_n ⟨l.length - (k + 1), ?_, k + 1, (by omega), rfl, fr.prune ⟨rfl, rfl, rfl, rfl, trivial⟩, st.sub (.cons _ (.cons _ (.cons _ (.cons_cons _ (.cons_cons _ .slnil)))))⟩
            omega
          · replace hj_ := Bool.eq_false_iff.2 hj_
            have hcnt := hc.1 (.inl he_) hj_
            refine reg ?_
            refine lst rfl (ow_v fr (rn_move (fr.ev rfl)) rfl rfl ?_)
            intro a fr
            refine lst rfl (ow_v fr (rn_move (fr.ev rfl)) rfl rfl ?_)
            intro a fr
            refine lst rfl (ow_call fr rfl rfl Try.call29 (next_in l _ dc hl32 k hlt _ (st.get 2 rfl).1) rfl rfl ?_)
            rintro e w ⟨NA, nc, rfl, hrow, hag⟩
            refine ⟨_, rfl, ?_⟩
            intro a fr
            have st := st.call_row hag hrow
            clear hag hrow
            replace st : St _ [] w [row CI 1 3 w0.heap.size (.slice NA ((nxL l k l.length).length) nc) ((nxL l k l.length)), .blk b3 [.int .i64 (y0), .int .i64 (y1), .int .i64 (y2), .int .i64 (y3)] 29, ro b1 (o2 + k * 4) [.int .i64 (y0), .int .i64 (y1), .int .i64 (y2), .int .i64 (y3)], els insC 4 (some ⟨b1, o2, none⟩) l, els C8 1 BA bs] := st
            refine lst rfl (ow_v fr (rn_assign (fr.ev rfl)) rfl rfl ?_)
            intro a fr
            refine wpList_nil ?_
            refine then_n ?_
            refine wp_seq ?_
            refine reg ?_
            refine lst rfl (ow_v fr (rn_assign (fr.ev rfl)) rfl rfl ?_)
            intro a fr
            refine wpList_nil ?_
            refine then_n ?_
            refine wp_seq ?_
            refine wp_seq ?_
            refine reg ?_
            refine lst rfl (ow_v fr (fa_29_1 (fr.ev rfl)) rfl rfl ?_)
            intro a fr
            refine lst rfl (ow_v fr (rn_load (fr.ev rfl) Try.underlying3 rfl (st.cell 1 rfl rfl)) rfl rfl ?_)
            intro a fr
            refine lst rfl (ow_call fr rfl rfl Try.call27 (ends_is y1 true he_ _) rfl rfl ?_)
            rintro e w ⟨rfl, hag⟩
            refine ⟨_, rfl, ?_⟩
            intro a fr
            have st := st.keep hag
            clear hag
            refine lst rfl (ow_v fr (rn_not (fr.ev rfl)) rfl rfl ?_)
            intro a fr
            refine lst rfl (ow_v fr (rn_move (fr.ev rfl)) rfl rfl ?_)
            intro a fr
            refine lst_n (unwanted_of fr rfl rfl rfl rfl) fr rfl rfl ?_
            intro a fr
            refine lst_n (unwanted_of fr rfl rfl rfl rfl) fr rfl rfl ?_
            intro a fr
            refine lst_n (unwanted_of fr rfl rfl rfl rfl) fr rfl rfl ?_
            intro a fr
            refine lst_n (unwanted_of fr rfl rfl rfl rfl) fr rfl rfl ?_
            intro a fr
            refine lst_n (unwanted_of fr rfl rfl rfl rfl) fr rfl rfl ?_
            intro a fr
            refine lst rfl (ow_v fr (rn_pick_f (fr.ev rfl) (fr.ev rfl)) rfl rfl ?_)
            intro a fr
            refine wpList_nil ?_
            refine then_n ?_
            refine cond_f fr rfl rfl ?_
            refine wp_skip ?_
            refine then_n ?_
            refine wp_seq ?_
            refine wp_seq ?_
            refine dr_start (by kernel_rfl) st (.cons_cons _ (.cons_cons _ (.cons_cons _ (.cons_cons _ (.cons_cons _ .slnil))))) ?_
            intro w st
            refine dr_take 0 rfl (by kernel_rfl) (by kernel_rfl) (by kernel_rfl) (fun _ _ _ h => h) fr rfl (st.sub (.cons_cons _ (.cons_cons _ (.cons_cons _ (.cons_cons _ (.cons_cons _ .slnil)))))) (fun w st => rn_move (fr.ev rfl)) rfl rfl ?_
            intro a fr
            refine dr_take 1 rfl (by kernel_rfl) (by kernel_rfl) (by kernel_rfl) (fun _ _ _ h => h) fr rfl (st.sub (.cons_cons _ (.cons_cons _ (.cons_cons _ (.cons_cons _ (.cons_cons _ .slnil)))))) (fun w st => rn_as (v' := .bool false) (rn_eql (fr.ev rfl) (fr.ev rfl)) (congrArg Value.bool (by rw [hfj, hj_]))) rfl rfl ?_
            intro a fr
            refine dr_take 2 rfl (by kernel_rfl) (by kernel_rfl) (by kernel_rfl) (fun _ _ _ h => h) fr rfl (st.sub (.cons_cons _ (.cons_cons _ (.cons_cons _ (.cons_cons _ (.cons_cons _ .slnil)))))) (fun w st => rn_move (fr.ev rfl)) rfl rfl ?_
            intro a fr
            refine dr_take_n 3 rfl (by kernel_rfl) (by kernel_rfl) (by kernel_rfl) (fun _ _ _ h => h) fr (unwanted_of fr rfl rfl rfl rfl) (st.sub (.cons_cons _ (.cons_cons _ (.cons_cons _ (.cons_cons _ (.cons_cons _ .slnil)))))) rfl rfl ?_
            intro a fr
            refine dr_take_n 4 rfl (by kernel_rfl) (by kernel_rfl) (by kernel_rfl) (fun _ _ _ h => h) fr (unwanted_of fr rfl rfl rfl rfl) (st.sub (.cons_cons _ (.cons_cons _ (.cons_cons _ (.cons_cons _ (.cons_cons _ .slnil)))))) rfl rfl ?_
            intro a fr
            refine dr_take_n 5 rfl (by kernel_rfl) (by kernel_rfl) (by kernel_rfl) (fun _ _ _ h => h) fr (unwanted_of fr rfl rfl rfl rfl) (st.sub (.cons_cons _ (.cons_cons _ (.cons_cons _ (.cons_cons _ (.cons_cons _ .slnil)))))) rfl rfl ?_
            intro a fr
            refine dr_take_n 6 rfl (by kernel_rfl) (by kernel_rfl) (by kernel_rfl) (fun _ _ _ h => h) fr (unwanted_u fr rfl rfl rfl) (st.sub (.cons_cons _ (.cons_cons _ (.cons_cons _ (.cons_cons _ (.cons_cons _ .slnil)))))) rfl rfl ?_
            intro a fr
            refine dr_take_n 7 rfl (by kernel_rfl) (by kernel_rfl) (by kernel_rfl) (fun _ _ _ h => h) fr (unwanted_u fr rfl rfl rfl) (st.sub (.cons_cons _ (.cons_cons _ (.cons_cons _ (.cons_cons _ (.cons_cons _ .slnil)))))) rfl rfl ?_
            intro a fr
            refine dr_take_n 8 rfl (by kernel_rfl) (by kernel_rfl) (by kernel_rfl) (fun _ _ _ h => h) fr (unwanted_u fr rfl rfl rfl) (st.sub (.cons_cons _ (.cons_cons _ (.cons_cons _ (.cons_cons _ (.cons_cons _ .slnil)))))) rfl rfl ?_
            intro a fr
            refine dr_take_n 9 rfl (by kernel_rfl) (by kernel_rfl) (by kernel_rfl) (fun _ _ _ h => h) fr (unwanted_u fr rfl rfl rfl) (st.sub (.cons_cons _ (.cons_cons _ (.cons_cons _ (.cons_cons _ (.cons_cons _ .slnil)))))) rfl rfl ?_
            intro a fr
            refine dr_take_n 10 rfl (by kernel_rfl) (by kernel_rfl) (by kernel_rfl) (fun _ _ _ h => h) fr (unwanted_u fr rfl rfl rfl) (st.sub (.cons_cons _ (.cons_cons _ (.cons_cons _ (.cons_cons _ (.cons_cons _ .slnil)))))) rfl rfl ?_
            intro a fr
            refine dr_take_n 11 rfl (by kernel_rfl) (by kernel_rfl) (by kernel_rfl) (fun _ _ _ h => h) fr (unwanted_u fr rfl rfl rfl) (st.sub (.cons_cons _ (.cons_cons _ (.cons_cons _ (.cons_cons _ (.cons_cons _ .slnil)))))) rfl rfl ?_
            intro a fr
            refine dr_take_n 12 rfl (by kernel_rfl) (by kernel_rfl) (by kernel_rfl) (fun _ _ _ h => h) fr (unwanted_u fr rfl rfl rfl) (st.sub (.cons_cons _ (.cons_cons _ (.cons_cons _ (.cons_cons _ (.cons_cons _ .slnil)))))) rfl rfl ?_
            intro a fr
            refine dr_take_n 13 rfl (by kernel_rfl) (by kernel_rfl) (by kernel_rfl) (fun _ _ _ h => h) fr (unwanted_u fr rfl rfl rfl) (st.sub (.cons_cons _ (.cons_cons _ (.cons_cons _ (.cons_cons _ (.cons_cons _ .slnil)))))) rfl rfl ?_
            intro a fr
            refine dr_take_n 14 rfl (by kernel_rfl) (by kernel_rfl) (by kernel_rfl) (fun _ _ _ h => h) fr (unwanted_u fr rfl rfl rfl) (st.sub (.cons_cons _ (.cons_cons _ (.cons_cons _ (.cons_cons _ (.cons_cons _ .slnil)))))) rfl rfl ?_
            intro a fr
            refine dr_take_n 15 rfl (by kernel_rfl) (by kernel_rfl) (by kernel_rfl) (fun _ _ _ h => h) fr (unwanted_of fr rfl rfl rfl rfl) (st.sub (.cons_cons _ (.cons_cons _ (.cons_cons _ (.cons_cons _ (.cons_cons _ .slnil)))))) rfl rfl ?_
            intro a fr
            refine dr_take 16 rfl (by kernel_rfl) (by kernel_rfl) (by kernel_rfl) (fun _ _ _ h => h) fr rfl (st.sub (.cons_cons _ (.cons_cons _ (.cons_cons _ (.cons_cons _ (.cons_cons _ .slnil)))))) (fun w st => rn_pick_f (fr.ev rfl) (fr.ev rfl)) rfl rfl ?_
            intro a fr
            refine dr_done (by kernel_rfl) ?_
            refine then_n ?_
            refine cond_f fr rfl rfl ?_
            refine wp_skip ?_
            refine then_n ?_
            refine wp_seq ?_
            refine reg ?_
            refine lst rfl (ow_v fr (rn_move (fr.ev rfl)) rfl rfl ?_)
            intro a fr
            refine lst rfl (ow_v fr (rn_len (fr.ev rfl) Try.underlying46) rfl rfl ?_)
            intro a fr
            refine lst rfl (ow_v fr (rn_move (fr.ev rfl)) rfl rfl ?_)
            intro a fr
            refine lst rfl (ow_v fr (rn_as (v' := .bool false) (rn_neq (fr.ev rfl) (fr.ev rfl)) (congrArg Value.bool (by rw [hcnt]; rfl))) rfl rfl ?_)
            intro a fr
            refine lst rfl (ow_v fr (rn_move (fr.ev rfl)) rfl rfl ?_)
            intro a fr
            refine lst_y (wanted_of fr rfl rfl rfl rfl) (ow_v fr (rn_move (fr.ev rfl)) rfl rfl ?_)
            intro a fr
            refine lst_y (wanted_of fr rfl rfl rfl rfl) (ow_call fr rfl rfl Try.call30 (sorted_calls _ (nxL_sorted l k l.length) _ _ (by have := nxL_len l k l.length; omega) _ (row_els (fun _ => rfl) (st.get 0 rfl).1)) rfl rfl ?_)
            rintro e w ⟨rfl, hag⟩
            refine ⟨_, rfl, ?_⟩
            intro a fr
            have st := st.keep hag
            clear hag
            refine lst_y (wanted_of fr rfl rfl rfl rfl) (ow_v fr (rn_not (fr.ev rfl)) rfl rfl ?_)
            intro a fr
            refine lst rfl (ow_v fr (rn_pick_f (fr.ev rfl) (fr.ev rfl)) rfl rfl ?_)
            intro a fr
            refine wpList_nil ?_
            refine then_n ?_
            refine cond_f fr rfl rfl ?_
            refine wp_skip ?_
            refine blk_n ?_
            refine then_n ?_
            refine reg ?_
            refine lst rfl (ow_v fr (rn_add (a := (k : Nat)) (b := 1) (c := ((k + 1 : Nat) : Int)) (fr.ev rfl) (fr.ev rfl) (wr_i64e (by omega) (by omega) (by omega))) rfl rfl ?_)
            intro a fr
            refine lst rfl (ow_v fr (rn_move (fr.ev rfl)) rfl rfl ?_)
            intro a fr
            refine wpList_nil ?_
            refine then_n ⟨l.length - (k + 1), ?_, k + 1, (by omega), rfl, fr.prune ⟨rfl, rfl, rfl, rfl, trivial⟩, st.sub (.cons _ (.cons _ (.cons _ (.cons_cons _ (.cons_cons _ .slnil)))))⟩
            omega
      · replace he_ := Bool.eq_false_iff.2 he_
        by_cases hn_ : k + 1 < l.length
        · obtain ⟨b_, o_, eA, st_⟩ := st.elem 2 rfl (k + 1) hn_ (by simp [insC])
          have fr_ := fr
          cases eA
          have st := st_
          have fr := fr_
          clear st_ fr_
          obtain ⟨z0, z1, z2, z3, hx_l_z0⟩ : ∃ z0 z1 z2 z3, l[k + 1] = (z0, z1, z2, z3) := ⟨_, _, _, _, rfl⟩
          rw [hx_l_z0] at st
          replace st : St _ [] _ [ro b1 (o2 + (k + 1) * 4) [.int .i64 (z0), .int .i64 (z1), .int .i64 (z2), .int .i64 (z3)], .blk b3 [.int .i64 (y0), .int .i64 (y1), .int .i64 (y2), .int .i64 (y3)] 29, ro b1 (o2 + k * 4) [.int .i64 (y0), .int .i64 (y1), .int .i64 (y2), .int .i64 (y3)], els insC 4 (some ⟨b1, o2, none⟩) l, els C8 1 BA bs] := st
          by_cases hj_ : jmp y1 = true
          · by_cases ha_ : z0 = y2
            · have hcnt := hc.2.2.2.1 he_ hn_ hj_ (by rw [hx_l_z0]; exact ha_)
              refine reg ?_
              refine lst rfl (ow_v fr (rn_move (fr.ev rfl)) rfl rfl ?_)
              intro a fr
              refine lst rfl (ow_v fr (rn_move (fr.ev rfl)) rfl rfl ?_)
              intro a fr
              refine lst rfl (ow_call fr rfl rfl Try.call29 (next_in l _ dc hl32 k hlt _ (st.get 3 rfl).1) rfl rfl ?_)
              rintro e w ⟨NA, nc, rfl, hrow, hag⟩
              refine ⟨_, rfl, ?_⟩
              intro a fr
              have st := st.call_row hag hrow
              clear hag hrow
              replace st : St _ [] w [row CI 1 3 w0.heap.size (.slice NA ((nxL l k l.length).length) nc) ((nxL l k l.length)), ro b1 (o2 + (k + 1) * 4) [.int .i64 (z0), .int .i64 (z1), .int .i64 (z2), .int .i64 (z3)], .blk b3 [.int .i64 (y0), .int .i64 (y1), .int .i64 (y2), .int .i64 (y3)] 29, ro b1 (o2 + k * 4) [.int .i64 (y0), .int .i64 (y1), .int .i64 (y2), .int .i64 (y3)], els insC 4 (some ⟨b1, o2, none⟩) l, els C8 1 BA bs] := st
              refine lst rfl (ow_v fr (rn_assign (fr.ev rfl)) rfl rfl ?_)
              intro a fr
              refine wpList_nil ?_
              refine then_n ?_
              refine wp_seq ?_
              refine reg ?_
              refine lst rfl (ow_v fr (rn_assign (fr.ev rfl)) rfl rfl ?_)
              intro a fr
              refine wpList_nil ?_
              refine then_n ?_
              refine wp_seq ?_
              refine wp_seq ?_
              refine reg ?_
              refine lst rfl (ow_v fr (fa_29_1 (fr.ev rfl)) rfl rfl ?_)
              intro a fr
              refine lst rfl (ow_v fr (rn_load (fr.ev rfl) Try.underlying3 rfl (st.cell 2 rfl rfl)) rfl rfl ?_)
              intro a fr
              refine lst rfl (ow_call fr rfl rfl Try.call27 (ends_is y1 false he_ _) rfl rfl ?_)
              rintro e w ⟨rfl, hag⟩
              refine ⟨_, rfl, ?_⟩
              intro a fr
              have st := st.keep hag
              clear hag
              refine lst rfl (ow_v fr (rn_not (fr.ev rfl)) rfl rfl ?_)
              intro a fr
              refine lst rfl (ow_v fr (rn_move (fr.ev rfl)) rfl rfl ?_)
              intro a fr
              refine lst_y (wanted_of fr rfl rfl rfl rfl) (ow_v fr (rn_move (fr.ev rfl)) rfl rfl ?_)
              intro a fr
              refine lst_y (wanted_of fr rfl rfl rfl rfl) (ow_v fr (rn_add (a := (k : Nat)) (b := 1) (c := ((k + 1 : Nat) : Int)) (fr.ev rfl) (fr.ev rfl) (wr_i64e (by omega) (by omega) (by omega))) rfl rfl ?_)
              intro a fr
              refine lst_y (wanted_of fr rfl rfl rfl rfl) (ow_v fr (rn_move (fr.ev rfl)) rfl rfl ?_)
              intro a fr
              refine lst_y (wanted_of fr rfl rfl rfl rfl) (ow_v fr (rn_len (fr.ev rfl) Try.underlying24) rfl rfl ?_)
              intro a fr
              refine lst_y (wanted_of fr rfl rfl rfl rfl) (ow_v fr (rn_as (v' := .bool true) (rn_lss (fr.ev rfl) (fr.ev rfl)) (congrArg Value.bool (decide_eq_true (by omega)))) rfl rfl ?_)
              intro a fr
              refine lst rfl (ow_v fr (rn_pick_t (fr.ev rfl) (fr.ev rfl)) rfl rfl ?_)
              intro a fr
              refine wpList_nil ?_
              refine then_n ?_
              refine cond_t fr rfl rfl ?_
              refine reg ?_
              refine lst rfl (ow_v fr (rn_move (fr.ev rfl)) rfl rfl ?_)
              intro a fr
              refine lst rfl (ow_v fr (rn_add (c := 1) (fr.ev rfl) (fr.ev rfl) (by decide)) rfl rfl ?_)
              intro a fr
              refine lst rfl (ow_v fr (rn_assign (fr.ev rfl)) rfl rfl ?_)
              intro a fr
              refine wpList_nil ?_
              refine then_n ?_
              refine wp_seq ?_
              refine wp_seq ?_
              refine dr_start (by kernel_rfl) st (.cons_cons _ (.cons_cons _ (.cons_cons _ (.cons_cons _ (.cons_cons _ (.cons_cons _ .slnil)))))) ?_
              intro w st
              refine dr_take 0 rfl (by kernel_rfl) (by kernel_rfl) (by kernel_rfl) (fun _ _ _ h => h) fr rfl (st.sub (.cons_cons _ (.cons_cons _ (.cons_cons _ (.cons_cons _ (.cons_cons _ (.cons_cons _ .slnil))))))) (fun w st => rn_move (fr.ev rfl)) rfl rfl ?_
              intro a fr
              refine dr_take 1 rfl (by kernel_rfl) (by kernel_rfl) (by kernel_rfl) (fun _ _ _ h => h) fr rfl (st.sub (.cons_cons _ (.cons_cons _ (.cons_cons _ (.cons_cons _ (.cons_cons _ (.cons_cons _ .slnil))))))) (fun w st => rn_as (v' := .bool true) (rn_eql (fr.ev rfl) (fr.ev rfl)) (congrArg Value.bool (by rw [hfj, hj_]))) rfl rfl ?_
              intro a fr
              refine dr_take 2 rfl (by kernel_rfl) (by kernel_rfl) (by kernel_rfl) (fun _ _ _ h => h) fr rfl (st.sub (.cons_cons _ (.cons_cons _ (.cons_cons _ (.cons_cons _ (.cons_cons _ (.cons_cons _ .slnil))))))) (fun w st => rn_move (fr.ev rfl)) rfl rfl ?_
              intro a fr
              refine dr_take_y 3 rfl (by kernel_rfl) (by kernel_rfl) (by kernel_rfl) (fun _ _ _ h => h) fr (wanted_of fr rfl rfl rfl rfl) (st.sub (.cons_cons _ (.cons_cons _ (.cons_cons _ (.cons_cons _ (.cons_cons _ (.cons_cons _ .slnil))))))) (fun w st => rn_move (fr.ev rfl)) rfl rfl ?_
              intro a fr
              refine dr_take_y 4 rfl (by kernel_rfl) (by kernel_rfl) (by kernel_rfl) (fun _ _ _ h => h) fr (wanted_of fr rfl rfl rfl rfl) (st.sub (.cons_cons _ (.cons_cons _ (.cons_cons _ (.cons_cons _ (.cons_cons _ (.cons_cons _ .slnil))))))) (fun w st => rn_as (rn_eql (fr.ev rfl) (fr.ev rfl)) (by rfl)) rfl rfl ?_
              intro a fr
              refine dr_take_y 5 rfl (by kernel_rfl) (by kernel_rfl) (by kernel_rfl) (fun _ _ _ h => h) fr (wanted_of fr rfl rfl rfl rfl) (st.sub (.cons_cons _ (.cons_cons _ (.cons_cons _ (.cons_cons _ (.cons_cons _ (.cons_cons _ .slnil))))))) (fun w st => rn_move (fr.ev rfl)) rfl rfl ?_
              intro a fr
              refine dr_take_y 6 rfl (by kernel_rfl) (by kernel_rfl) (by kernel_rfl) (fun _ _ _ h => h) fr (wanted_of fr rfl rfl rfl rfl) (st.sub (.cons_cons _ (.cons_cons _ (.cons_cons _ (.cons_cons _ (.cons_cons _ (.cons_cons _ .slnil))))))) (fun w st => fa_29_2 (fr.ev rfl)) rfl rfl ?_
              intro a fr
              refine dr_take_y 7 rfl (by kernel_rfl) (by kernel_rfl) (by kernel_rfl) (fun _ _ _ h => h) fr (wanted_of fr rfl rfl rfl rfl) (st.sub (.cons_cons _ (.cons_cons _ (.cons_cons _ (.cons_cons _ (.cons_cons _ (.cons_cons _ .slnil))))))) (fun w st => rn_load (fr.ev rfl) Try.underlying3 rfl (st.cell 2 rfl rfl)) rfl rfl ?_
              intro a fr
              refine dr_take_y 8 rfl (by kernel_rfl) (by kernel_rfl) (by kernel_rfl) (fun _ _ _ h => h) fr (wanted_of fr rfl rfl rfl rfl) (st.sub (.cons_cons _ (.cons_cons _ (.cons_cons _ (.cons_cons _ (.cons_cons _ (.cons_cons _ .slnil))))))) (fun w st => rn_move (fr.ev rfl)) rfl rfl ?_
              intro a fr
              refine dr_take_y 9 rfl (by kernel_rfl) (by kernel_rfl) (by kernel_rfl) (fun _ _ _ h => h) fr (wanted_of fr rfl rfl rfl rfl) (st.sub (.cons_cons _ (.cons_cons _ (.cons_cons _ (.cons_cons _ (.cons_cons _ (.cons_cons _ .slnil))))))) (fun w st => rn_move (fr.ev rfl)) rfl rfl ?_
              intro a fr
              refine dr_take_y 10 rfl (by kernel_rfl) (by kernel_rfl) (by kernel_rfl) (fun _ _ _ h => h) fr (wanted_of fr rfl rfl rfl rfl) (st.sub (.cons_cons _ (.cons_cons _ (.cons_cons _ (.cons_cons _ (.cons_cons _ (.cons_cons _ .slnil))))))) (fun w st => rn_add (a := (k : Nat)) (b := 1) (c := ((k + 1 : Nat) : Int)) (fr.ev rfl) (fr.ev rfl) (wr_i64e (by omega) (by omega) (by omega))) rfl rfl ?_
              intro a fr
              refine dr_take_y 11 rfl (by kernel_rfl) (by kernel_rfl) (by kernel_rfl) (fun _ _ _ h => h) fr (wanted_of fr rfl rfl rfl rfl) (st.sub (.cons_cons _ (.cons_cons _ (.cons_cons _ (.cons_cons _ (.cons_cons _ (.cons_cons _ .slnil))))))) (fun w st => rn_at (i := k + 1) (fr.ev rfl) (fr.ev rfl) Try.underlying24 sz_29 (by omega) (by rfl)) rfl rfl ?_
              intro a fr
              refine dr_take_y 12 rfl (by kernel_rfl) (by kernel_rfl) (by kernel_rfl) (fun _ _ _ h => h) fr (wanted_of fr rfl rfl rfl rfl) (st.sub (.cons_cons _ (.cons_cons _ (.cons_cons _ (.cons_cons _ (.cons_cons _ (.cons_cons _ .slnil))))))) (fun w st => fa_29_0 (fr.ev rfl)) rfl rfl ?_
              intro a fr
              refine dr_take_y 13 rfl (by kernel_rfl) (by kernel_rfl) (by kernel_rfl) (fun _ _ _ h => h) fr (wanted_of fr rfl rfl rfl rfl) (st.sub (.cons_cons _ (.cons_cons _ (.cons_cons _ (.cons_cons _ (.cons_cons _ (.cons_cons _ .slnil))))))) (fun w st => rn_load (fr.ev rfl) Try.underlying3 rfl (st.rocell 1 rfl (j := 0) rfl)) rfl rfl ?_
              intro a fr
              refine dr_take_y 14 rfl (by kernel_rfl) (by kernel_rfl) (by kernel_rfl) (fun _ _ _ h => h) fr (wanted_of fr rfl rfl rfl rfl) (st.sub (.cons_cons _ (.cons_cons _ (.cons_cons _ (.cons_cons _ (.cons_cons _ (.cons_cons _ .slnil))))))) (fun w st => rn_as (v' := .bool false) (rn_neq (fr.ev rfl) (fr.ev rfl)) (congrArg Value.bool (by simp [ha_]))) rfl rfl ?_
              intro a fr
              refine dr_take_y 15 rfl (by kernel_rfl) (by kernel_rfl) (by kernel_rfl) (fun _ _ _ h => h) fr (wanted_of fr rfl rfl rfl rfl) (st.sub (.cons_cons _ (.cons_cons _ (.cons_cons _ (.cons_cons _ (.cons_cons _ (.cons_cons _ .slnil))))))) (fun w st => rn_pick_f (fr.ev rfl) (fr.ev rfl)) rfl rfl ?_
              intro a fr
              refine dr_take 16 rfl (by kernel_rfl) (by kernel_rfl) (by kernel_rfl) (fun _ _ _ h => h) fr rfl (st.sub (.cons_cons _ (.cons_cons _ (.cons_cons _ (.cons_cons _ (.cons_cons _ (.cons_cons _ .slnil))))))) (fun w st => rn_pick_t (fr.ev rfl) (fr.ev rfl)) rfl rfl ?_
              intro a fr
              refine dr_done (by kernel_rfl) ?_
              refine then_n ?_
              refine cond_f fr rfl rfl ?_
              refine wp_skip ?_
              refine then_n ?_
              refine wp_seq ?_
              refine reg ?_
              refine lst rfl (ow_v fr (rn_move (fr.ev rfl)) rfl rfl ?_)
              intro a fr
              refine lst rfl (ow_v fr (rn_len (fr.ev rfl) Try.underlying46) rfl rfl ?_)
              intro a fr
              refine lst rfl (ow_v fr (rn_move (fr.ev rfl)) rfl rfl ?_)
              intro a fr
              refine lst rfl (ow_v fr (rn_as (v' := .bool false) (rn_neq (fr.ev rfl) (fr.ev rfl)) (congrArg Value.bool (by rw [hcnt]; rfl))) rfl rfl ?_)
              intro a fr
              refine lst rfl (ow_v fr (rn_move (fr.ev rfl)) rfl rfl ?_)
              intro a fr
              refine lst_y (wanted_of fr rfl rfl rfl rfl) (ow_v fr (rn_move (fr.ev rfl)) rfl rfl ?_)
              intro a fr
              refine lst_y (wanted_of fr rfl rfl rfl rfl) (ow_call fr rfl rfl Try.call30 (sorted_calls _ (nxL_sorted l k l.length) _ _ (by have := nxL_len l k l.length; omega) _ (row_els (fun _ => rfl) (st.get 0 rfl).1)) rfl rfl ?_)
              rintro e w ⟨rfl, hag⟩
              refine ⟨_, rfl, ?_⟩
              intro a fr
              have st := st.keep hag
              clear hag
              refine lst_y (wanted_of fr rfl rfl rfl rfl) (ow_v fr (rn_not (fr.ev rfl)) rfl rfl ?_)
              intro a fr
              refine lst rfl (ow_v fr (rn_pick_f (fr.ev rfl) (fr.ev rfl)) rfl rfl ?_)
              intro a fr
              refine wpList_nil ?_
              refine then_n ?_
              refine cond_f fr rfl rfl ?_
              refine wp_skip ?_
              refine blk_n ?_
              refine then_n ?_
              refine reg ?_
              refine lst rfl (ow_v fr (rn_add (a := (k : Nat)) (b := 1) (c := ((k + 1 : Nat) : Int)) (fr.ev rfl) (fr.ev rfl) (wr_i64e (by omega) (by omega) (by omega))) rfl rfl ?_)
              intro a fr
              refine lst rfl (ow_v fr (rn_move (fr.ev rfl)) rfl rfl ?_)
              intro a fr
              refine wpList_nil ?_
              refine then_n ⟨l.length - (k + 1), ?_, k + 1, (by omega), rfl, fr.prune ⟨rfl, rfl, rfl, rfl, trivial⟩, st.sub (.cons _ (.cons _ (.cons _ (.cons _ (.cons_cons _ (.cons_cons _ .slnil))))))⟩
              omega
            · have hcnt := hc.2.2.2.2 he_ hn_ hj_ (by rw [hx_l_z0]; exact ha_)
              refine reg ?_
              refine lst rfl (ow_v fr (rn_move (fr.ev rfl)) rfl rfl ?_)
              intro a fr
              refine lst rfl (ow_v fr (rn_move (fr.ev rfl)) rfl rfl ?_)
              intro a fr
              refine lst rfl (ow_call fr rfl rfl Try.call29 (next_in l _ dc hl32 k hlt _ (st.get 3 rfl).1) rfl rfl ?_)
              rintro e w ⟨NA, nc, rfl, hrow, hag⟩
              refine ⟨_, rfl, ?_⟩
              intro a fr
              have st := st.call_row hag hrow
              clear hag hrow
              replace st : St _ [] w [row CI 1 3 w0.heap.size (.slice NA ((nxL l k l.length).length) nc) ((nxL l k l.length)), ro b1 (o2 + (k + 1) * 4) [.int .i64 (z0), .int .i64 (z1), .int .i64 (z2), .int .i64 (z3)], .blk b3 [.int .i64 (y0), .int .i64 (y1), .int .i64 (y2), .int .i64 (y3)] 29, ro b1 (o2 + k * 4) [.int .i64 (y0), .int .i64 (y1), .int .i64 (y2), .int .i64 (y3)], els insC 4 (some ⟨b1, o2, none⟩) l, els C8 1 BA bs] := st
              refine lst rfl (ow_v fr (rn_assign (fr.ev rfl)) rfl rfl ?_)
              intro a fr
              refine wpList_nil ?_
              refine then_n ?_
              refine wp_seq ?_
              refine reg ?_
              refine lst rfl (ow_v fr (rn_assign (fr.ev rfl)) rfl rfl ?_)
              intro a fr
              refine wpList_nil ?_
              refine then_n ?_
              refine wp_seq ?_
              refine wp_seq ?_
              refine reg ?_
              refine lst rfl (ow_v fr (fa_29_1 (fr.ev rfl)) rfl rfl ?_)
              intro a fr
              refine lst rfl (ow_v fr (rn_load (fr.ev rfl) Try.underlying3 rfl (st.cell 2 rfl rfl)) rfl rfl ?_)
              intro a fr
              refine lst rfl (ow_call fr rfl rfl Try.call27 (ends_is y1 false he_ _) rfl rfl ?_)
              rintro e w ⟨rfl, hag⟩
              refine ⟨_, rfl, ?_⟩
              intro a fr
              have st := st.keep hag
              clear hag
              refine lst rfl (ow_v fr (rn_not (fr.ev rfl)) rfl rfl ?_)
              intro a fr
              refine lst rfl (ow_v fr (rn_move (fr.ev rfl)) rfl rfl ?_)
              intro a fr
              refine lst_y (wanted_of fr rfl rfl rfl rfl) (ow_v fr (rn_move (fr.ev rfl)) rfl rfl ?_)
              intro a fr
              refine lst_y (wanted_of fr rfl rfl rfl rfl) (ow_v fr (rn_add (a := (k : Nat)) (b := 1) (c := ((k + 1 : Nat) : Int)) (fr.ev rfl) (fr.ev rfl) (wr_i64e (by omega) (by omega) (by omega))) rfl rfl ?_)
              intro a fr
              refine lst_y (wanted_of fr rfl rfl rfl rfl) (ow_v fr (rn_move (fr.ev rfl)) rfl rfl ?_)
              intro a fr
              refine lst_y (wanted_of fr rfl rfl rfl rfl) (ow_v fr (rn_len (fr.ev rfl) Try.underlying24) rfl rfl ?_)
              intro a fr
              refine lst_y (wanted_of fr rfl rfl rfl rfl) (ow_v fr (rn_as (v' := .bool true) (rn_lss (fr.ev rfl) (fr.ev rfl)) (congrArg Value.bool (decide_eq_true (by omega)))) rfl rfl ?_)
              intro a fr
              refine lst rfl (ow_v fr (rn_pick_t (fr.ev rfl) (fr.ev rfl)) rfl rfl ?_)
              intro a fr
              refine wpList_nil ?_
              refine then_n ?_
              refine cond_t fr rfl rfl ?_
              refine reg ?_
              refine lst rfl (ow_v fr (rn_move (fr.ev rfl)) rfl rfl ?_)
              intro a fr
              refine lst rfl (ow_v fr (rn_add (c := 1) (fr.ev rfl) (fr.ev rfl) (by decide)) rfl rfl ?_)
              intro a fr
              refine lst rfl (ow_v fr (rn_assign (fr.ev rfl)) rfl rfl ?_)
              intro a fr
              refine wpList_nil ?_
              refine then_n ?_
              refine wp_seq ?_
              refine wp_seq ?_
              refine dr_start (by kernel_rfl) st (.cons_cons _ (.cons_cons _ (.cons_cons _ (.cons_cons _ (.cons_cons _ (.cons_cons _ .slnil)))))) ?_
              intro w st
              refine dr_take 0 rfl (by kernel_rfl) (by kernel_rfl) (by kernel_rfl) (fun _ _ _ h => h) fr rfl (st.sub (.cons_cons _ (.cons_cons _ (.cons_cons _ (.cons_cons _ (.cons_cons _ (.cons_cons _ .slnil))))))) (fun w st => rn_move (fr.ev rfl)) rfl rfl ?_
              intro a fr
              refine dr_take 1 rfl (by kernel_rfl) (by kernel_rfl) (by kernel_rfl) (fun _ _ _ h => h) fr rfl (st.sub (.cons_cons _ (.cons_cons _ (.cons_cons _ (.cons_cons _ (.cons_cons _ (.cons_cons _ .slnil))))))) (fun w st => rn_as (v' := .bool true) (rn_eql (fr.ev rfl) (fr.ev rfl)) (congrArg Value.bool (by rw [hfj, hj_]))) rfl rfl ?_
              intro a fr
              refine dr_take 2 rfl (by kernel_rfl) (by kernel_rfl) (by kernel_rfl) (fun _ _ _ h => h) fr rfl (st.sub (.cons_cons _ (.cons_cons _ (.cons_cons _ (.cons_cons _ (.cons_cons _ (.cons_cons _ .slnil))))))) (fun w st => rn_move (fr.ev rfl)) rfl rfl ?_
              intro a fr
              refine dr_take_y 3 rfl (by kernel_rfl) (by kernel_rfl) (by kernel_rfl) (fun _ _ _ h => h) fr (wanted_of fr rfl rfl rfl rfl) (st.sub (.cons_cons _ (.cons_cons _ (.cons_cons _ (.cons_cons _ (.cons_cons _ (.cons_cons _ .slnil))))))) (fun w st => rn_move (fr.ev rfl)) rfl rfl ?_
              intro a fr
              refine dr_take_y 4 rfl (by kernel_rfl) (by kernel_rfl) (by kernel_rfl) (fun _ _ _ h => h) fr (wanted_of fr rfl rfl rfl rfl) (st.sub (.cons_cons _ (.cons_cons _ (.cons_cons _ (.cons_cons _ (.cons_cons _ (.cons_cons _ .slnil))))))) (fun w st => rn_as (rn_eql (fr.ev rfl) (fr.ev rfl)) (by rfl)) rfl rfl ?_
              intro a fr
              refine dr_take_y 5 rfl (by kernel_rfl) (by kernel_rfl) (by kernel_rfl) (fun _ _ _ h => h) fr (wanted_of fr rfl rfl rfl rfl) (st.sub (.cons_cons _ (.cons_cons _ (.cons_cons _ (.cons_cons _ (.cons_cons _ (.cons_cons _ .slnil))))))) (fun w st => rn_move (fr.ev rfl)) rfl rfl ?_
              intro a fr
              refine dr_take_y 6 rfl (by kernel_rfl) (by kernel_rfl) (by kernel_rfl) (fun _ _ _ h => h) fr (wanted_of fr rfl rfl rfl rfl) (st.sub (.cons_cons _ (.cons_cons _ (.cons_cons _ (.cons_cons _ (.cons_cons _ (.cons_cons _ .slnil))))))) (fun w st => fa_29_2 (fr.ev rfl)) rfl rfl ?_
              intro a fr
              refine dr_take_y 7 rfl (by kernel_rfl) (by kernel_rfl) (by kernel_rfl) (fun _ _ _ h => h) fr (wanted_of fr rfl rfl rfl rfl) (st.sub (.cons_cons _ (.cons_cons _ (.cons_cons _ (.cons_cons _ (.cons_cons _ (.cons_cons _ .slnil))))))) (fun w st => rn_load (fr.ev rfl) Try.underlying3 rfl (st.cell 2 rfl rfl)) rfl rfl ?_
              intro a fr
              refine dr_take_y 8 rfl (by kernel_rfl) (by kernel_rfl) (by kernel_rfl) (fun _ _ _ h => h) fr (wanted_of fr rfl rfl rfl rfl) (st.sub (.cons_cons _ (.cons_cons _ (.cons_cons _ (.cons_cons _ (.cons_cons _ (.cons_cons _ .slnil))))))) (fun w st => rn_move (fr.ev rfl)) rfl rfl ?_
              intro a fr
              refine dr_take_y 9 rfl (by kernel_rfl) (by kernel_rfl) (by kernel_rfl) (fun _ _ _ h => h) fr (wanted_of fr rfl rfl rfl rfl) (st.sub (.cons_cons _ (.cons_cons _ (.cons_cons _ (.cons_cons _ (.cons_cons _ (.cons_cons _ .slnil))))))) (fun w st => rn_move (fr.ev rfl)) rfl rfl ?_
              intro a fr
              refine dr_take_y 10 rfl (by kernel_rfl) (by kernel_rfl) (by kernel_rfl) (fun _ _ _ h => h) fr (wanted_of fr rfl rfl rfl rfl) (st.sub (.cons_cons _ (.cons_cons _ (.cons_cons _ (.cons_cons _ (.cons_cons _ (.cons_cons _ .slnil))))))) (fun w st => rn_add (a := (k : Nat)) (b := 1) (c := ((k + 1 : Nat) : Int)) (fr.ev rfl) (fr.ev rfl) (wr_i64e (by omega) (by omega) (by omega))) rfl rfl ?_
              intro a fr
              refine dr_take_y 11 rfl (by kernel_rfl) (by kernel_rfl) (by kernel_rfl) (fun _ _ _ h => h) fr (wanted_of fr rfl rfl rfl rfl) (st.sub (.cons_cons _ (.cons_cons _ (.cons_cons _ (.cons_cons _ (.cons_cons _ (.cons_cons _ .slnil))))))) (fun w st => rn_at (i := k + 1) (fr.ev rfl) (fr.ev rfl) Try.underlying24 sz_29 (by omega) (by rfl)) rfl rfl ?_
              intro a fr
              refine dr_take_y 12 rfl (by kernel_rfl) (by kernel_rfl) (by kernel_rfl) (fun _ _ _ h => h) fr (wanted_of fr rfl rfl rfl rfl) (st.sub (.cons_cons _ (.cons_cons _ (.cons_cons _ (.cons_cons _ (.cons_cons _ (.cons_cons _ .slnil))))))) (fun w st => fa_29_0 (fr.ev rfl)) rfl rfl ?_
              intro a fr
              refine dr_take_y 13 rfl (by kernel_rfl) (by kernel_rfl) (by kernel_rfl) (fun _ _ _ h => h) fr (wanted_of fr rfl rfl rfl rfl) (st.sub (.cons_cons _ (.cons_cons _ (.cons_cons _ (.cons_cons _ (.cons_cons _ (.cons_cons _ .slnil))))))) (fun w st => rn_load (fr.ev rfl) Try.underlying3 rfl (st.rocell 1 rfl (j := 0) rfl)) rfl rfl ?_
              intro a fr
              refine dr_take_y 14 rfl (by kernel_rfl) (by kernel_rfl) (by kernel_rfl) (fun _ _ _ h => h) fr (wanted_of fr rfl rfl rfl rfl) (st.sub (.cons_cons _ (.cons_cons _ (.cons_cons _ (.cons_cons _ (.cons_cons _ (.cons_cons _ .slnil))))))) (fun w st => rn_as (v' := .bool true) (rn_neq (fr.ev rfl) (fr.ev rfl)) (congrArg Value.bool (by simp; exact fun h => ha_ h.symm))) rfl rfl ?_
              intro a fr
              refine dr_take_y 15 rfl (by kernel_rfl) (by kernel_rfl) (by kernel_rfl) (fun _ _ _ h => h) fr (wanted_of fr rfl rfl rfl rfl) (st.sub (.cons_cons _ (.cons_cons _ (.cons_cons _ (.cons_cons _ (.cons_cons _ (.cons_cons _ .slnil))))))) (fun w st => rn_pick_f (fr.ev rfl) (fr.ev rfl)) rfl rfl ?_
              intro a fr
              refine dr_take 16 rfl (by kernel_rfl) (by kernel_rfl) (by kernel_rfl) (fun _ _ _ h => h) fr rfl (st.sub (.cons_cons _ (.cons_cons _ (.cons_cons _ (.cons_cons _ (.cons_cons _ (.cons_cons _ .slnil))))))) (fun w st => rn_pick_t (fr.ev rfl) (fr.ev rfl)) rfl rfl ?_
              intro a fr
              refine dr_done (by kernel_rfl) ?_
              refine then_n ?_
              refine cond_t fr rfl rfl ?_
              refine reg ?_
              refine lst rfl (ow_v fr (rn_move (fr.ev rfl)) rfl rfl ?_)
              intro a fr
              refine lst rfl (ow_v fr (rn_add (c := 2) (fr.ev rfl) (fr.ev rfl) (by decide)) rfl rfl ?_)
              intro a fr
              refine lst rfl (ow_v fr (rn_assign (fr.ev rfl)) rfl rfl ?_)
              intro a fr
              refine wpList_nil ?_
              refine then_n ?_
              refine wp_seq ?_
              refine reg ?_
              refine lst rfl (ow_v fr (rn_move (fr.ev rfl)) rfl rfl ?_)
              intro a fr
              refine lst rfl (ow_v fr (rn_len (fr.ev rfl) Try.underlying46) rfl rfl ?_)
              intro a fr
              refine lst rfl (ow_v fr (rn_move (fr.ev rfl)) rfl rfl ?_)
              intro a fr
              refine lst rfl (ow_v fr (rn_as (v' := .bool false) (rn_neq (fr.ev rfl) (fr.ev rfl)) (congrArg Value.bool (by rw [hcnt]; rfl))) rfl rfl ?_)
              intro a fr
              refine lst rfl (ow_v fr (rn_move (fr.ev rfl)) rfl rfl ?_)
              intro a fr
              refine lst_y (wanted_of fr rfl rfl rfl rfl) (ow_v fr (rn_move (fr.ev rfl)) rfl rfl ?_)
              intro a fr
              refine lst_y (wanted_of fr rfl rfl rfl rfl) (ow_call fr rfl rfl Try.call30 (sorted_calls _ (nxL_sorted l k l.length) _ _ (by have := nxL_len l k l.length; omega) _ (row_els (fun _ => rfl) (st.get 0 rfl).1)) rfl rfl ?_)
              rintro e w ⟨rfl, hag⟩
              refine ⟨_, rfl, ?_⟩
              intro a fr
              have st := st.keep hag
              clear hag
              refine lst_y (wanted_of fr rfl rfl rfl rfl) (ow_v fr (rn_not (fr.ev rfl)) rfl rfl ?_)
              intro a fr
              refine lst rfl (ow_v fr (rn_pick_f (fr.ev rfl) (fr.ev rfl)) rfl rfl ?_)
              intro a fr
              refine wpList_nil ?_
              refine then_n ?_
              refine cond_f fr rfl rfl ?_
              refine wp_skip ?_
              refine blk_n ?_
              refine then_n ?_
              refine reg ?_
              refine lst rfl (ow_v fr (rn_add (a := (k : Nat)) (b := 1) (c := ((k + 1 : Nat) : Int)) (fr.ev rfl) (fr.ev rfl) (wr_i64e (by omega) (by omega) (by omega))) rfl rfl ?_)
              intro a fr
              refine lst rfl (ow_v fr (rn_move (fr.ev rfl)) rfl rfl ?_)
              intro a fr
              refine wpList_nil ?_
              refine then_n ⟨l.length - (k + 1), ?_, k + 1, (by omega), rfl, fr.prune ⟨rfl, rfl, rfl, rfl, trivial⟩, st.sub (.cons _ (.cons _ (.cons _ (.cons _ (.cons_cons _ (.cons_cons _ .slnil))))))⟩
              omega
          · replace hj_ := Bool.eq_false_iff.2 hj_
            have hcnt := hc.2.2.1 he_ hn_ hj_
            refine reg ?_
            refine lst rfl (ow_v fr (rn_move (fr.ev rfl)) rfl rfl ?_)
            intro a fr
            refine lst rfl (ow_v fr (rn_move (fr.ev rfl)) rfl rfl ?_)
            intro a fr
            refine lst rfl (ow_call fr rfl rfl Try.call29 (next_in l _ dc hl32 k hlt _ (st.get 3 rfl).1) rfl rfl ?_)
            rintro e w ⟨NA, nc, rfl, hrow, hag⟩
            refine ⟨_, rfl, ?_⟩
            intro a fr
            have st := st.call_row hag hrow
            clear hag hrow
            replace st : St _ [] w [row CI 1 3 w0.heap.size (.slice NA ((nxL l k l.length).length) nc) ((nxL l k l.length)), ro b1 (o2 + (k + 1) * 4) [.int .i64 (z0), .int .i64 (z1), .int .i64 (z2), .int .i64 (z3)], .blk b3 [.int .i64 (y0), .int .i64 (y1), .int .i64 (y2), .int .i64 (y3)] 29, ro b1 (o2 + k * 4) [.int .i64 (y0), .int .i64 (y1), .int .i64 (y2), .int .i64 (y3)], els insC 4 (some ⟨b1, o2, none⟩) l, els C8 1 BA bs] := st
            refine lst rfl (ow_v fr (rn_assign (fr.ev rfl)) rfl rfl ?_)
            intro a fr
            refine wpList_nil ?_
            refine then_n ?_
            refine wp_seq ?_
            refine reg ?_
            refine lst rfl (ow_v fr (rn_assign (fr.ev rfl)) rfl rfl ?_)
            intro a fr
            refine wpList_nil ?_
            refine then_n ?_
            refine wp_seq ?_
            refine wp_seq ?_
            refine reg ?_
            refine lst rfl (ow_v fr (fa_29_1 (fr.ev rfl)) rfl rfl ?_)
            intro a fr
            refine lst rfl (ow_v fr (rn_load (fr.ev rfl) Try.underlying3 rfl (st.cell 2 rfl rfl)) rfl rfl ?_)
            intro a fr
            refine lst rfl (ow_call fr rfl rfl Try.call27 (ends_is y1 false he_ _) rfl rfl ?_)
            rintro e w ⟨rfl, hag⟩
            refine ⟨_, rfl, ?_⟩
            intro a fr
            have st := st.keep hag
            clear hag
            refine lst rfl (ow_v fr (rn_not (fr.ev rfl)) rfl rfl ?_)
            intro a fr
            refine lst rfl (ow_v fr (rn_move (fr.ev rfl)) rfl rfl ?_)
            intro a fr
            refine lst_y (wanted_of fr rfl rfl rfl rfl) (ow_v fr (rn_move (fr.ev rfl)) rfl rfl ?_)
            intro a fr
            refine lst_y (wanted_of fr rfl rfl rfl rfl) (ow_v fr (rn_add (a := (k : Nat)) (b := 1) (c := ((k + 1 : Nat) : Int)) (fr.ev rfl) (fr.ev rfl) (wr_i64e (by omega) (by omega) (by omega))) rfl rfl ?_)
            intro a fr
            refine lst_y (wanted_of fr rfl rfl rfl rfl) (ow_v fr (rn_move (fr.ev rfl)) rfl rfl ?_)
            intro a fr
            refine lst_y (wanted_of fr rfl rfl rfl rfl) (ow_v fr (rn_len (fr.ev rfl) Try.underlying24) rfl rfl ?_)
            intro a fr
            refine lst_y (wanted_of fr rfl rfl rfl rfl) (ow_v fr (rn_as (v' := .bool true) (rn_lss (fr.ev rfl) (fr.ev rfl)) (congrArg Value.bool (decide_eq_true (by omega)))) rfl rfl ?_)
            intro a fr
            refine lst rfl (ow_v fr (rn_pick_t (fr.ev rfl) (fr.ev rfl)) rfl rfl ?_)
            intro a fr
            refine wpList_nil ?_
            refine then_n ?_
            refine cond_t fr rfl rfl ?_
            refine reg ?_
            refine lst rfl (ow_v fr (rn_move (fr.ev rfl)) rfl rfl ?_)
            intro a fr
            refine lst rfl (ow_v fr (rn_add (c := 1) (fr.ev rfl) (fr.ev rfl) (by decide)) rfl rfl ?_)
            intro a fr
            refine lst rfl (ow_v fr (rn_assign (fr.ev rfl)) rfl rfl ?_)
            intro a fr
            refine wpList_nil ?_
            refine then_n ?_
            refine wp_seq ?_
            refine wp_seq ?_
            refine dr_start (by kernel_rfl) st (.cons_cons _ (.cons_cons _ (.cons_cons _ (.cons_cons _ (.cons_cons _ (.cons_cons _ .slnil)))))) ?_
            intro w st
            refine dr_take 0 rfl (by kernel_rfl) (by kernel_rfl) (by kernel_rfl) (fun _ _ _ h => h) fr rfl (st.sub (.cons_cons _ (.cons_cons _ (.cons_cons _ (.cons_cons _ (.cons_cons _ (.cons_cons _ .slnil))))))) (fun w st => rn_move (fr.ev rfl)) rfl rfl ?_
            intro a fr
            refine dr_take 1 rfl (by kernel_rfl) (by kernel_rfl) (by kernel_rfl) (fun _ _ _ h => h) fr rfl (st.sub (.cons_cons _ (.cons_cons _ (.cons_cons _ (.cons_cons _ (.cons_cons _ (.cons_cons _ .slnil))))))) (fun w st => rn_as (v' := .bool false) (rn_eql (fr.ev rfl) (fr.ev rfl)) (congrArg Value.bool (by rw [hfj, hj_]))) rfl rfl ?_
            intro a fr
            refine dr_take 2 rfl (by kernel_rfl) (by kernel_rfl) (by kernel_rfl) (fun _ _ _ h => h) fr rfl (st.sub (.cons_cons _ (.cons_cons _ (.cons_cons _ (.cons_cons _ (.cons_cons _ (.cons_cons _ .slnil))))))) (fun w st => rn_move (fr.ev rfl)) rfl rfl ?_
            intro a fr
            refine dr_take_n 3 rfl (by kernel_rfl) (by kernel_rfl) (by kernel_rfl) (fun _ _ _ h => h) fr (unwanted_of fr rfl rfl rfl rfl) (st.sub (.cons_cons _ (.cons_cons _ (.cons_cons _ (.cons_cons _ (.cons_cons _ (.cons_cons _ .slnil))))))) rfl rfl ?_
            intro a fr
            refine dr_take_n 4 rfl (by kernel_rfl) (by kernel_rfl) (by kernel_rfl) (fun _ _ _ h => h) fr (unwanted_of fr rfl rfl rfl rfl) (st.sub (.cons_cons _ (.cons_cons _ (.cons_cons _ (.cons_cons _ (.cons_cons _ (.cons_cons _ .slnil))))))) rfl rfl ?_
            intro a fr
            refine dr_take_n 5 rfl (by kernel_rfl) (by kernel_rfl) (by kernel_rfl) (fun _ _ _ h => h) fr (unwanted_of fr rfl rfl rfl rfl) (st.sub (.cons_cons _ (.cons_cons _ (.cons_cons _ (.cons_cons _ (.cons_cons _ (.cons_cons _ .slnil))))))) rfl rfl ?_
            intro a fr
            refine dr_take_n 6 rfl (by kernel_rfl) (by kernel_rfl) (by kernel_rfl) (fun _ _ _ h => h) fr (unwanted_u fr rfl rfl rfl) (st.sub (.cons_cons _ (.cons_cons _ (.cons_cons _ (.cons_cons _ (.cons_cons _ (.cons_cons _ .slnil))))))) rfl rfl ?_
            intro a fr
            refine dr_take_n 7 rfl (by kernel_rfl) (by kernel_rfl) (by kernel_rfl) (fun _ _ _ h => h) fr (unwanted_u fr rfl rfl rfl) (st.sub (.cons_cons _ (.cons_cons _ (.cons_cons _ (.cons_cons _ (.cons_cons _ (.cons_cons _ .slnil))))))) rfl rfl ?_
            intro a fr
            refine dr_take_n 8 rfl (by kernel_rfl) (by kernel_rfl) (by kernel_rfl) (fun _ _ _ h => h) fr (unwanted_u fr rfl rfl rfl) (st.sub (.cons_cons _ (.cons_cons _ (.cons_cons _ (.cons_cons _ (.cons_cons _ (.cons_cons _ .slnil))))))) rfl rfl ?_
            intro a fr
            refine dr_take_n 9 rfl (by kernel_rfl) (by kernel_rfl) (by kernel_rfl) (fun _ _ _ h => h) fr (unwanted_u fr rfl rfl rfl) (st.sub (.cons_cons _ (.cons_cons _ (.cons_cons _ (.cons_cons _ (.cons_cons _ (.cons_cons _ .slnil))))))) rfl rfl ?_
            intro a fr
            refine dr_take_n 10 rfl (by kernel_rfl) (by kernel_rfl) (by kernel_rfl) (fun _ _ _ h => h) fr (unwanted_u fr rfl rfl rfl) (st.sub (.cons_cons _ (.cons_cons _ (.cons_cons _ (.cons_cons _ (.cons_cons _ (.cons_cons _ .slnil))))))) rfl rfl ?_
            intro a fr
            refine dr_take_n 11 rfl (by kernel_rfl) (by kernel_rfl) (by kernel_rfl) (fun _ _ _ h => h) fr (unwanted_u fr rfl rfl rfl) (st.sub (.cons_cons _ (.cons_cons _ (.cons_cons _ (.cons_cons _ (.cons_cons _ (.cons_cons _ .slnil))))))) rfl rfl ?_
            intro a fr
            refine dr_take_n 12 rfl (by kernel_rfl) (by kernel_rfl) (by kernel_rfl) (fun _ _ _ h => h) fr (unwanted_u fr rfl rfl rfl) (st.sub (.cons_cons _ (.cons_cons _ (.cons_cons _ (.cons_cons _ (.cons_cons _ (.cons_cons _ .slnil))))))) rfl rfl ?_
            intro a fr
            refine dr_take_n 13 rfl (by kernel_rfl) (by kernel_rfl) (by kernel_rfl) (fun _ _ _ h => h) fr (unwanted_u fr rfl rfl rfl) (st.sub (.cons_cons _ (.cons_cons _ (.cons_cons _ (.cons_cons _ (.cons_cons _ (.cons_cons _ .slnil))))))) rfl rfl ?_
            intro a fr
            refine dr_take_n 14 rfl (by kernel_rfl) (by kernel_rfl) (by kernel_rfl) (fun _ _ _ h => h) fr (unwanted_u fr rfl rfl rfl) (st.sub (.cons_cons _ (.cons_cons _ (.cons_cons _ (.cons_cons _ (.cons_cons _ (.cons_cons _ .slnil))))))) rfl rfl ?_
            intro a fr
            refine dr_take_n 15 rfl (by kernel_rfl) (by kernel_rfl) (by kernel_rfl) (fun _ _ _ h => h) fr (unwanted_of fr rfl rfl rfl rfl) (st.sub (.cons_cons _ (.cons_cons _ (.cons_cons _ (.cons_cons _ (.cons_cons _ (.cons_cons _ .slnil))))))) rfl rfl ?_
            intro a fr
            refine dr_take 16 rfl (by kernel_rfl) (by kernel_rfl) (by kernel_rfl) (fun _ _ _ h => h) fr rfl (st.sub (.cons_cons _ (.cons_cons _ (.cons_cons _ (.cons_cons _ (.cons_cons _ (.cons_cons _ .slnil))))))) (fun w st => rn_pick_f (fr.ev rfl) (fr.ev rfl)) rfl rfl ?_
            intro a fr
            refine dr_done (by kernel_rfl) ?_
            refine then_n ?_
            refine cond_f fr rfl rfl ?_
            refine wp_skip ?_
            refine then_n ?_
            refine wp_seq ?_
            refine reg ?_
            refine lst rfl (ow_v fr (rn_move (fr.ev rfl)) rfl rfl ?_)
            intro a fr
            refine lst rfl (ow_v fr (rn_len (fr.ev rfl) Try.underlying46) rfl rfl ?_)
            intro a fr
            refine lst rfl (ow_v fr (rn_move (fr.ev rfl)) rfl rfl ?_)
            intro a fr
            refine lst rfl (ow_v fr (rn_as (v' := .bool false) (rn_neq (fr.ev rfl) (fr.ev rfl)) (congrArg Value.bool (by rw [hcnt]; rfl))) rfl rfl ?_)
            intro a fr
            refine lst rfl (ow_v fr (rn_move (fr.ev rfl)) rfl rfl ?_)
            intro a fr
            refine lst_y (wanted_of fr rfl rfl rfl rfl) (ow_v fr (rn_move (fr.ev rfl)) rfl rfl ?_)
            intro a fr
            refine lst_y (wanted_of fr rfl rfl rfl rfl) (ow_call fr rfl rfl Try.call30 (sorted_calls _ (nxL_sorted l k l.length) _ _ (by have := nxL_len l k l.length; omega) _ (row_els (fun _ => rfl) (st.get 0 rfl).1)) rfl rfl ?_)
            rintro e w ⟨rfl, hag⟩
            refine ⟨_, rfl, ?_⟩
            intro a fr
            have st := st.keep hag
            clear hag
            refine lst_y (wanted_of fr rfl rfl rfl rfl) (ow_v fr (rn_not (fr.ev rfl)) rfl rfl ?_)
            intro a fr
            refine lst rfl (ow_v fr (rn_pick_f (fr.ev rfl) (fr.ev rfl)) rfl rfl ?_)
            intro a fr
            refine wpList_nil ?_
            refine then_n ?_
            refine cond_f fr rfl rfl ?_
            refine wp_skip ?_
            refine blk_n ?_
            refine then_n ?_
            refine reg ?_
            refine lst rfl (ow_v fr (rn_add (a := (k : Nat)) (b := 1) (c := ((k + 1 : Nat) : Int)) (fr.ev rfl) (fr.ev rfl) (wr_i64e (by omega) (by omega) (by omega))) rfl rfl ?_)
            intro a fr
            refine lst rfl (ow_v fr (rn_move (fr.ev rfl)) rfl rfl ?_)
            intro a fr
            refine wpList_nil ?_
            refine then_n ⟨l.length - (k + 1), ?_, k + 1, (by omega), rfl, fr.prune ⟨rfl, rfl, rfl, rfl, trivial⟩, st.sub (.cons _ (.cons _ (.cons _ (.cons _ (.cons_cons _ (.cons_cons _ .slnil))))))⟩
            omega
        · by_cases hj_ : jmp y1 = true
          · have hcnt := hc.2.1 (.inr hn_) hj_
            refine reg ?_
            refine lst rfl (ow_v fr (rn_move (fr.ev rfl)) rfl rfl ?_)
            intro a fr
            refine lst rfl (ow_v fr (rn_move (fr.ev rfl)) rfl rfl ?_)
            intro a fr
            refine lst rfl (ow_call fr rfl rfl Try.call29 (next_in l _ dc hl32 k hlt _ (st.get 2 rfl).1) rfl rfl ?_)
            rintro e w ⟨NA, nc, rfl, hrow, hag⟩
            refine ⟨_, rfl, ?_⟩
            intro a fr
            have st := st.call_row hag hrow
            clear hag hrow
            replace st : St _ [] w [row CI 1 3 w0.heap.size (.slice NA ((nxL l k l.length).length) nc) ((nxL l k l.length)), .blk b3 [.int .i64 (y0), .int .i64 (y1), .int .i64 (y2), .int .i64 (y3)] 29, ro b1 (o2 + k * 4) [.int .i64 (y0), .int .i64 (y1), .int .i64 (y2), .int .i64 (y3)], els insC 4 (some ⟨b1, o2, none⟩) l, els C8 1 BA bs] := st
            refine lst rfl (ow_v fr (rn_assign (fr.ev rfl)) rfl rfl ?_)
            intro a fr
            refine wpList_nil ?_
            refine then_n ?_
            refine wp_seq ?_
            refine reg ?_
            refine lst rfl (ow_v fr (rn_assign (fr.ev rfl)) rfl rfl ?_)
            intro a fr
            refine wpList_nil ?_
            refine then_n ?_
            refine wp_seq ?_
            refine wp_seq ?_
            refine reg ?_
            refine lst rfl (ow_v fr (fa_29_1 (fr.ev rfl)) rfl rfl ?_)
            intro a fr
            refine lst rfl (ow_v fr (rn_load (fr.ev rfl) Try.underlying3 rfl (st.cell 1 rfl rfl)) rfl rfl ?_)
            intro a fr
            refine lst rfl (ow_call fr rfl rfl Try.call27 (ends_is y1 false he_ _) rfl rfl ?_)
            rintro e w ⟨rfl, hag⟩
            refine ⟨_, rfl, ?_⟩
            intro a fr
            have st := st.keep hag
            clear hag
            refine lst rfl (ow_v fr (rn_not (fr.ev rfl)) rfl rfl ?_)
            intro a fr
            refine lst rfl (ow_v fr (rn_move (fr.ev rfl)) rfl rfl ?_)
            intro a fr
            refine lst_y (wanted_of fr rfl rfl rfl rfl) (ow_v fr (rn_move (fr.ev rfl)) rfl rfl ?_)
            intro a fr
            refine lst_y (wanted_of fr rfl rfl rfl rfl) (ow_v fr (rn_add (a := (k : Nat)) (b := 1) (c := ((k + 1 : Nat) : Int)) (fr.ev rfl) (fr.ev rfl) (wr_i64e (by omega) (by omega) (by omega))) rfl rfl ?_)
            intro a fr
            refine lst_y (wanted_of fr rfl rfl rfl rfl) (ow_v fr (rn_move (fr.ev rfl)) rfl rfl ?_)
            intro a fr
            refine lst_y (wanted_of fr rfl rfl rfl rfl) (ow_v fr (rn_len (fr.ev rfl) Try.underlying24) rfl rfl ?_)
            intro a fr
            refine lst_y (wanted_of fr rfl rfl rfl rfl) (ow_v fr (rn_as (v' := .bool false) (rn_lss (fr.ev rfl) (fr.ev rfl)) (congrArg Value.bool (decide_eq_false (by omega)))) rfl rfl ?_)
            intro a fr
            refine lst rfl (ow_v fr (rn_pick_t (fr.ev rfl) (fr.ev rfl)) rfl rfl ?_)
            intro a fr
            refine wpList_nil ?_
            refine then_n ?_
            refine cond_f fr rfl rfl ?_
            refine wp_skip ?_
            refine then_n ?_
            refine wp_seq ?_
            refine wp_seq ?_
            refine dr_start (by kernel_rfl) st (.cons_cons _ (.cons_cons _ (.cons_cons _ (.cons_cons _ (.cons_cons _ .slnil))))) ?_
            intro w st
            refine dr_take 0 rfl (by kernel_rfl) (by kernel_rfl) (by kernel_rfl) (fun _ _ _ h => h) fr rfl (st.sub (.cons_cons _ (.cons_cons _ (.cons_cons _ (.cons_cons _ (.cons_cons _ .slnil)))))) (fun w st => rn_move (fr.ev rfl)) rfl rfl ?_
            intro a fr
            refine dr_take 1 rfl (by kernel_rfl) (by kernel_rfl) (by kernel_rfl) (fun _ _ _ h => h) fr rfl (st.sub (.cons_cons _ (.cons_cons _ (.cons_cons _ (.cons_cons _ (.cons_cons _ .slnil)))))) (fun w st => rn_as (v' := .bool true) (rn_eql (fr.ev rfl) (fr.ev rfl)) (congrArg Value.bool (by rw [hfj, hj_]))) rfl rfl ?_
            intro a fr
            refine dr_take 2 rfl (by kernel_rfl) (by kernel_rfl) (by kernel_rfl) (fun _ _ _ h => h) fr rfl (st.sub (.cons_cons _ (.cons_cons _ (.cons_cons _ (.cons_cons _ (.cons_cons _ .slnil)))))) (fun w st => rn_move (fr.ev rfl)) rfl rfl ?_
            intro a fr
            refine dr_take_y 3 rfl (by kernel_rfl) (by kernel_rfl) (by kernel_rfl) (fun _ _ _ h => h) fr (wanted_of fr rfl rfl rfl rfl) (st.sub (.cons_cons _ (.cons_cons _ (.cons_cons _ (.cons_cons _ (.cons_cons _ .slnil)))))) (fun w st => rn_move (fr.ev rfl)) rfl rfl ?_
            intro a fr
            refine dr_take_y 4 rfl (by kernel_rfl) (by kernel_rfl) (by kernel_rfl) (fun _ _ _ h => h) fr (wanted_of fr rfl rfl rfl rfl) (st.sub (.cons_cons _ (.cons_cons _ (.cons_cons _ (.cons_cons _ (.cons_cons _ .slnil)))))) (fun w st => rn_as (rn_eql (fr.ev rfl) (fr.ev rfl)) (by rfl)) rfl rfl ?_
            intro a fr
            refine dr_take_y 5 rfl (by kernel_rfl) (by kernel_rfl) (by kernel_rfl) (fun _ _ _ h => h) fr (wanted_of fr rfl rfl rfl rfl) (st.sub (.cons_cons _ (.cons_cons _ (.cons_cons _ (.cons_cons _ (.cons_cons _ .slnil)))))) (fun w st => rn_move (fr.ev rfl)) rfl rfl ?_
            intro a fr
            refine dr_take_n 6 rfl (by kernel_rfl) (by kernel_rfl) (by kernel_rfl) (fun _ _ _ h => h) fr (unwanted_of fr rfl rfl rfl rfl) (st.sub (.cons_cons _ (.cons_cons _ (.cons_cons _ (.cons_cons _ (.cons_cons _ .slnil)))))) rfl rfl ?_
            intro a fr
            refine dr_take_n 7 rfl (by kernel_rfl) (by kernel_rfl) (by kernel_rfl) (fun _ _ _ h => h) fr (unwanted_of fr rfl rfl rfl rfl) (st.sub (.cons_cons _ (.cons_cons _ (.cons_cons _ (.cons_cons _ (.cons_cons _ .slnil)))))) rfl rfl ?_
            intro a fr
            refine dr_take_n 8 rfl (by kernel_rfl) (by kernel_rfl) (by kernel_rfl) (fun _ _ _ h => h) fr (unwanted_of fr rfl rfl rfl rfl) (st.sub (.cons_cons _ (.cons_cons _ (.cons_cons _ (.cons_cons _ (.cons_cons _ .slnil)))))) rfl rfl ?_
            intro a fr
            refine dr_take_n 9 rfl (by kernel_rfl) (by kernel_rfl) (by kernel_rfl) (fun _ _ _ h => h) fr (unwanted_of fr rfl rfl rfl rfl) (st.sub (.cons_cons _ (.cons_cons _ (.cons_cons _ (.cons_cons _ (.cons_cons _ .slnil)))))) rfl rfl ?_
            intro a fr
            refine dr_take_n 10 rfl (by kernel_rfl) (by kernel_rfl) (by kernel_rfl) (fun _ _ _ h => h) fr (unwanted_of fr rfl rfl rfl rfl) (st.sub (.cons_cons _ (.cons_cons _ (.cons_cons _ (.cons_cons _ (.cons_cons _ .slnil)))))) rfl rfl ?_
            intro a fr
            refine dr_take_n 11 rfl (by kernel_rfl) (by kernel_rfl) (by kernel_rfl) (fun _ _ _ h => h) fr (unwanted_of fr rfl rfl rfl rfl) (st.sub (.cons_cons _ (.cons_cons _ (.cons_cons _ (.cons_cons _ (.cons_cons _ .slnil)))))) rfl rfl ?_
            intro a fr
            refine dr_take_n 12 rfl (by kernel_rfl) (by kernel_rfl) (by kernel_rfl) (fun _ _ _ h => h) fr (unwanted_of fr rfl rfl rfl rfl) (st.sub (.cons_cons _ (.cons_cons _ (.cons_cons _ (.cons_cons _ (.cons_cons _ .slnil)))))) rfl rfl ?_
            intro a fr
            refine dr_take_n 13 rfl (by kernel_rfl) (by kernel_rfl) (by kernel_rfl) (fun _ _ _ h => h) fr (unwanted_of fr rfl rfl rfl rfl) (st.sub (.cons_cons _ (.cons_cons _ (.cons_cons _ (.cons_cons _ (.cons_cons _ .slnil)))))) rfl rfl ?_
            intro a fr
            refine dr_take_n 14 rfl (by kernel_rfl) (by kernel_rfl) (by kernel_rfl) (fun _ _ _ h => h) fr (unwanted_of fr rfl rfl rfl rfl) (st.sub (.cons_cons _ (.cons_cons _ (.cons_cons _ (.cons_cons _ (.cons_cons _ .slnil)))))) rfl rfl ?_
            intro a fr
            refine dr_take_y 15 rfl (by kernel_rfl) (by kernel_rfl) (by kernel_rfl) (fun _ _ _ h => h) fr (wanted_of fr rfl rfl rfl rfl) (st.sub (.cons_cons _ (.cons_cons _ (.cons_cons _ (.cons_cons _ (.cons_cons _ .slnil)))))) (fun w st => rn_pick_t (fr.ev rfl) (fr.ev rfl)) rfl rfl ?_
            intro a fr
            refine dr_take 16 rfl (by kernel_rfl) (by kernel_rfl) (by kernel_rfl) (fun _ _ _ h => h) fr rfl (st.sub (.cons_cons _ (.cons_cons _ (.cons_cons _ (.cons_cons _ (.cons_cons _ .slnil)))))) (fun w st => rn_pick_t (fr.ev rfl) (fr.ev rfl)) rfl rfl ?_
            intro a fr
            refine dr_done (by kernel_rfl) ?_
            refine then_n ?_
            refine cond_t fr rfl rfl ?_
            refine reg ?_
            refine lst rfl (ow_v fr (rn_move (fr.ev rfl)) rfl rfl ?_)
            intro a fr
            refine lst rfl (ow_v fr (rn_add (c := 1) (fr.ev rfl) (fr.ev rfl) (by decide)) rfl rfl ?_)
            intro a fr
            refine lst rfl (ow_v fr (rn_assign (fr.ev rfl)) rfl rfl ?_)
            intro a fr
            refine wpList_nil ?_
            refine then_n ?_
            refine wp_seq ?_
            refine reg ?_
            refine lst rfl (ow_v fr (rn_move (fr.ev rfl)) rfl rfl ?_)
            intro a fr
            refine lst rfl (ow_v fr (rn_len (fr.ev rfl) Try.underlying46) rfl rfl ?_)
            intro a fr
            refine lst rfl (ow_v fr (rn_move (fr.ev rfl)) rfl rfl ?_)
            intro a fr
            refine lst rfl (ow_v fr (rn_as (v' := .bool false) (rn_neq (fr.ev rfl) (fr.ev rfl)) (congrArg Value.bool (by rw [hcnt]; rfl))) rfl rfl ?_)
            intro a fr
            refine lst rfl (ow_v fr (rn_move (fr.ev rfl)) rfl rfl ?_)
            intro a fr
            refine lst_y (wanted_of fr rfl rfl rfl rfl) (ow_v fr (rn_move (fr.ev rfl)) rfl rfl ?_)
            intro a fr
            refine lst_y (wanted_of fr rfl rfl rfl rfl) (ow_call fr rfl rfl Try.call30 (sorted_calls _ (nxL_sorted l k l.length) _ _ (by have := nxL_len l k l.length; omega) _ (row_els (fun _ => rfl) (st.get 0 rfl).1)) rfl rfl ?_)
            rintro e w ⟨rfl, hag⟩
            refine ⟨_, rfl, ?_⟩
            intro a fr
            have st := st.keep hag
            clear hag
            refine lst_y (wanted_of fr rfl rfl rfl rfl) (ow_v fr (rn_not (fr.ev rfl)) rfl rfl ?_)
            intro a fr
            refine lst rfl (ow_v fr (rn_pick_f (fr.ev rfl) (fr.ev rfl)) rfl rfl ?_)
            intro a fr
            refine wpList_nil ?_
            refine then_n ?_
            refine cond_f fr rfl rfl ?_
            refine wp_skip ?_
            refine blk_n ?_
            refine then_n ?_
            refine reg ?_
            refine lst rfl (ow_v fr (rn_add (a := (k : Nat)) (b := 1) (c := ((k + 1 : Nat) : Int)) (fr.ev rfl) (fr.ev rfl) (wr_i64e (by omega) (by omega) (by omega))) rfl rfl ?_)
            intro a fr
            refine lst rfl (ow_v fr (rn_move (fr.ev rfl)) rfl rfl ?_)
            intro a fr
            refine wpList_nil ?_
            refine then_n ⟨l.length - (k + 1), ?_, k + 1, (by omega), rfl, fr.prune ⟨rfl, rfl, rfl, rfl, trivial⟩, st.sub (.cons _ (.cons _ (.cons _ (.cons_cons _ (.cons_cons _ .slnil)))))⟩
            omega
          · replace hj_ := Bool.eq_false_iff.2 hj_
            have hcnt := hc.1 (.inr hn_) hj_
            refine reg ?_
            refine lst rfl (ow_v fr (rn_move (fr.ev rfl)) rfl rfl ?_)
            intro a fr
            refine lst rfl (ow_v fr (rn_move (fr.ev rfl)) rfl rfl ?_)
            intro a fr
            refine lst rfl (ow_call fr rfl rfl Try.call29 (next_in l _ dc hl32 k hlt _ (st.get 2 rfl).1) rfl rfl ?_)
            rintro e w ⟨NA, nc, rfl, hrow, hag⟩
            refine ⟨_, rfl, ?_⟩
            intro a fr
            have st := st.call_row hag hrow
            clear hag hrow
            replace st : St _ [] w [row CI 1 3 w0.heap.size (.slice NA ((nxL l k l.length).length) nc) ((nxL l k l.length)), .blk b3 [.int .i64 (y0), .int .i64 (y1), .int .i64 (y2), .int .i64 (y3)] 29, ro b1 (o2 + k * 4) [.int .i64 (y0), .int .i64 (y1), .int .i64 (y2), .int .i64 (y3)], els insC 4 (some ⟨b1, o2, none⟩) l, els C8 1 BA bs] := st
            refine lst rfl (ow_v fr (rn_assign (fr.ev rfl)) rfl rfl ?_)
            intro a fr
            refine wpList_nil ?_
            refine then_n ?_
            refine wp_seq ?_
            refine reg ?_
            refine lst rfl (ow_v fr (rn_assign (fr.ev rfl)) rfl rfl ?_)
            intro a fr
            refine wpList_nil ?_
            refine then_n ?_
            refine wp_seq ?_
            refine wp_seq ?_
            refine reg ?_
            refine lst rfl (ow_v fr (fa_29_1 (fr.ev rfl)) rfl rfl ?_)
            intro a fr
            refine lst rfl (ow_v fr (rn_load (fr.ev rfl) Try.underlying3 rfl (st.cell 1 rfl rfl)) rfl rfl ?_)
            intro a fr
            refine lst rfl (ow_call fr rfl rfl Try.call27 (ends_is y1 false he_ _) rfl rfl ?_)
            rintro e w ⟨rfl, hag⟩
            refine ⟨_, rfl, ?_⟩
            intro a fr
            have st := st.keep hag
            clear hag
            refine lst rfl (ow_v fr (rn_not (fr.ev rfl)) rfl rfl ?_)
            intro a fr
            refine lst rfl (ow_v fr (rn_move (fr.ev rfl)) rfl rfl ?_)
            intro a fr
            refine lst_y (wanted_of fr rfl rfl rfl rfl) (ow_v fr (rn_move (fr.ev rfl)) rfl rfl ?_)
            intro a fr
            refine lst_y (wanted_of fr rfl rfl rfl rfl) (ow_v fr (rn_add (a := (k : Nat)) (b := 1) (c := ((k + 1 : Nat) : Int)) (fr.ev rfl) (fr.ev rfl) (wr_i64e (by omega) (by omega) (by omega))) rfl rfl ?_)
            intro a fr
            refine lst_y (wanted_of fr rfl rfl rfl rfl) (ow_v fr (rn_move (fr.ev rfl)) rfl rfl ?_)
            intro a fr
            refine lst_y (wanted_of fr rfl rfl rfl rfl) (ow_v fr (rn_len (fr.ev rfl) Try.underlying24) rfl rfl ?_)
            intro a fr
            refine lst_y (wanted_of fr rfl rfl rfl rfl) (ow_v fr (rn_as (v' := .bool false) (rn_lss (fr.ev rfl) (fr.ev rfl)) (congrArg Value.bool (decide_eq_false (by omega)))) rfl rfl ?_)
            intro a fr
            refine lst rfl (ow_v fr (rn_pick_t (fr.ev rfl) (fr.ev rfl)) rfl rfl ?_)
            intro a fr
            refine wpList_nil ?_
            refine then_n ?_
            refine cond_f fr rfl rfl ?_
            refine wp_skip ?_
            refine then_n ?_
            refine wp_seq ?_
            refine wp_seq ?_
            refine dr_start (by kernel_rfl) st (.cons_cons _ (.cons_cons _ (.cons_cons _ (.cons_cons _ (.cons_cons _ .slnil))))) ?_
            intro w st
            refine dr_take 0 rfl (by kernel_rfl) (by kernel_rfl) (by kernel_rfl) (fun _ _ _ h => h) fr rfl (st.sub (.cons_cons _ (.cons_cons _ (.cons_cons _ (.cons_cons _ (.cons_cons _ .slnil)))))) (fun w st => rn_move (fr.ev rfl)) rfl rfl ?_
            intro a fr
            refine dr_take 1 rfl (by kernel_rfl) (by kernel_rfl) (by kernel_rfl) (fun _ _ _ h => h) fr rfl (st.sub (.cons_cons _ (.cons_cons _ (.cons_cons _ (.cons_cons _ (.cons_cons _ .slnil)))))) (fun w st => rn_as (v' := .bool false) (rn_eql (fr.ev rfl) (fr.ev rfl)) (congrArg Value.bool (by rw [hfj, hj_]))) rfl rfl ?_
            intro a fr
            refine dr_take 2 rfl (by kernel_rfl) (by kernel_rfl) (by kernel_rfl) (fun _ _ _ h => h) fr rfl (st.sub (.cons_cons _ (.cons_cons _ (.cons_cons _ (.cons_cons _ (.cons_cons _ .slnil)))))) (fun w st => rn_move (fr.ev rfl)) rfl rfl ?_
            intro a fr
            refine dr_take_n 3 rfl (by kernel_rfl) (by kernel_rfl) (by kernel_rfl) (fun _ _ _ h => h) fr (unwanted_of fr rfl rfl rfl rfl) (st.sub (.cons_cons _ (.cons_cons _ (.cons_cons _ (.cons_cons _ (.cons_cons _ .slnil)))))) rfl rfl ?_
            intro a fr
            refine dr_take_n 4 rfl (by kernel_rfl) (by kernel_rfl) (by kernel_rfl) (fun _ _ _ h => h) fr (unwanted_of fr rfl rfl rfl rfl) (st.sub (.cons_cons _ (.cons_cons _ (.cons_cons _ (.cons_cons _ (.cons_cons _ .slnil)))))) rfl rfl ?_
            intro a fr
            refine dr_take_n 5 rfl (by kernel_rfl) (by kernel_rfl) (by kernel_rfl) (fun _ _ _ h => h) fr (unwanted_of fr rfl rfl rfl rfl) (st.sub (.cons_cons _ (.cons_cons _ (.cons_cons _ (.cons_cons _ (.cons_cons _ .slnil)))))) rfl rfl ?_
            intro a fr
            refine dr_take_n 6 rfl (by kernel_rfl) (by kernel_rfl) (by kernel_rfl) (fun _ _ _ h => h) fr (unwanted_u fr rfl rfl rfl) (st.sub (.cons_cons _ (.cons_cons _ (.cons_cons _ (.cons_cons _ (.cons_cons _ .slnil)))))) rfl rfl ?_
            intro a fr
            refine dr_take_n 7 rfl (by kernel_rfl) (by kernel_rfl) (by kernel_rfl) (fun _ _ _ h => h) fr (unwanted_u fr rfl rfl rfl) (st.sub (.cons_cons _ (.cons_cons _ (.cons_cons _ (.cons_cons _ (.cons_cons _ .slnil)))))) rfl rfl ?_
            intro a fr
            refine dr_take_n 8 rfl (by kernel_rfl) (by kernel_rfl) (by kernel_rfl) (fun _ _ _ h => h) fr (unwanted_u fr rfl rfl rfl) (st.sub (.cons_cons _ (.cons_cons _ (.cons_cons _ (.cons_cons _ (.cons_cons _ .slnil)))))) rfl rfl ?_
            intro a fr
            refine dr_take_n 9 rfl (by kernel_rfl) (by kernel_rfl) (by kernel_rfl) (fun _ _ _ h => h) fr (unwanted_u fr rfl rfl rfl) (st.sub (.cons_cons _ (.cons_cons _ (.cons_cons _ (.cons_cons _ (.cons_cons _ .slnil)))))) rfl rfl ?_
            intro a fr
            refine dr_take_n 10 rfl (by kernel_rfl) (by kernel_rfl) (by kernel_rfl) (fun _ _ _ h => h) fr (unwanted_u fr rfl rfl rfl) (st.sub (.cons_cons _ (.cons_cons _ (.cons_cons _ (.cons_cons _ (.cons_cons _ .slnil)))))) rfl rfl ?_
            intro a fr
            refine dr_take_n 11 rfl (by kernel_rfl) (by kernel_rfl) (by kernel_rfl) (fun _ _ _ h => h) fr (unwanted_u fr rfl rfl rfl) (st.sub (.cons_cons _ (.cons_cons _ (.cons_cons _ (.cons_cons _ (.cons_cons _ .slnil)))))) rfl rfl ?_
            intro a fr
            refine dr_take_n 12 rfl (by kernel_rfl) (by kernel_rfl) (by kernel_rfl) (fun _ _ _ h => h) fr (unwanted_u fr rfl rfl rfl) (st.sub (.cons_cons _ (.cons_cons _ (.cons_cons _ (.cons_cons _ (.cons_cons _ .slnil)))))) rfl rfl ?_
            intro a fr
            refine dr_take_n 13 rfl (by kernel_rfl) (by kernel_rfl) (by kernel_rfl) (fun _ _ _ h => h) fr (unwanted_u fr rfl rfl rfl) (st.sub (.cons_cons _ (.cons_cons _ (.cons_cons _ (.cons_cons _ (.cons_cons _ .slnil)))))) rfl rfl ?_
            intro a fr
            refine dr_take_n 14 rfl (by kernel_rfl) (by kernel_rfl) (by kernel_rfl) (fun _ _ _ h => h) fr (unwanted_u fr rfl rfl rfl) (st.sub (.cons_cons _ (.cons_cons _ (.cons_cons _ (.cons_cons _ (.cons_cons _ .slnil)))))) rfl rfl ?_
            intro a fr
            refine dr_take_n 15 rfl (by kernel_rfl) (by kernel_rfl) (by kernel_rfl) (fun _ _ _ h => h) fr (unwanted_of fr rfl rfl rfl rfl) (st.sub (.cons_cons _ (.cons_cons _ (.cons_cons _ (.cons_cons _ (.cons_cons _ .slnil)))))) rfl rfl ?_
            intro a fr
            refine dr_take 16 rfl (by kernel_rfl) (by kernel_rfl) (by kernel_rfl) (fun _ _ _ h => h) fr rfl (st.sub (.cons_cons _ (.cons_cons _ (.cons_cons _ (.cons_cons _ (.cons_cons _ .slnil)))))) (fun w st => rn_pick_f (fr.ev rfl) (fr.ev rfl)) rfl rfl ?_
            intro a fr
            refine dr_done (by kernel_rfl) ?_
            refine then_n ?_
            refine cond_f fr rfl rfl ?_
            refine wp_skip ?_
            refine then_n ?_
            refine wp_seq ?_
            refine reg ?_
            refine lst rfl (ow_v fr (rn_move (fr.ev rfl)) rfl rfl ?_)
            intro a fr
            refine lst rfl (ow_v fr (rn_len (fr.ev rfl) Try.underlying46) rfl rfl ?_)
            intro a fr
            refine lst rfl (ow_v fr (rn_move (fr.ev rfl)) rfl rfl ?_)
            intro a fr
            refine lst rfl (ow_v fr (rn_as (v' := .bool false) (rn_neq (fr.ev rfl) (fr.ev rfl)) (congrArg Value.bool (by rw [hcnt]; rfl))) rfl rfl ?_)
            intro a fr
            refine lst rfl (ow_v fr (rn_move (fr.ev rfl)) rfl rfl ?_)
            intro a fr
            refine lst_y (wanted_of fr rfl rfl rfl rfl) (ow_v fr (rn_move (fr.ev rfl)) rfl rfl ?_)
            intro a fr
            refine lst_y (wanted_of fr rfl rfl rfl rfl) (ow_call fr rfl rfl Try.call30 (sorted_calls _ (nxL_sorted l k l.length) _ _ (by have := nxL_len l k l.length; omega) _ (row_els (fun _ => rfl) (st.get 0 rfl).1)) rfl rfl ?_)
            rintro e w ⟨rfl, hag⟩
            refine ⟨_, rfl, ?_⟩
            intro a fr
            have st := st.keep hag
            clear hag
            refine lst_y (wanted_of fr rfl rfl rfl rfl) (ow_v fr (rn_not (fr.ev rfl)) rfl rfl ?_)
            intro a fr
            refine lst rfl (ow_v fr (rn_pick_f (fr.ev rfl) (fr.ev rfl)) rfl rfl ?_)
            intro a fr
            refine wpList_nil ?_
            refine then_n ?_
            refine cond_f fr rfl rfl ?_
            refine wp_skip ?_
            refine blk_n ?_
            refine then_n ?_
            refine reg ?_
            refine lst rfl (ow_v fr (rn_add (a := (k : Nat)) (b := 1) (c := ((k + 1 : Nat) : Int)) (fr.ev rfl) (fr.ev rfl) (wr_i64e (by omega) (by omega) (by omega))) rfl rfl ?_)
            intro a fr
            refine lst rfl (ow_v fr (rn_move (fr.ev rfl)) rfl rfl ?_)
            intro a fr
            refine wpList_nil ?_
            refine then_n ⟨l.length - (k + 1), ?_, k + 1, (by omega), rfl, fr.prune ⟨rfl, rfl, rfl, rfl, trivial⟩, st.sub (.cons _ (.cons _ (.cons _ (.cons_cons _ (.cons_cons _ .slnil)))))⟩
            omega
    · refine wp_seq ?_
      refine reg ?_
      refine lst rfl (ow_v fr (rn_as (v' := .bool false) (rn_lss (fr.ev rfl) (fr.ev rfl)) (congrArg Value.bool (decide_eq_false (by omega)))) rfl rfl ?_)
      intro a fr
      refine wpList_nil ?_
      refine then_n ?_
      refine wp_seq ?_
      refine cond_f fr rfl rfl ?_
      refine wp_exit ?_
      refine then_x ?_
      refine then_x ?_
      refine blk_x ?_
      refine then_n ?_
      refine wp_seq ?_
      refine reg ?_
      refine lst rfl (ow_v fr (rn_assign (fr.ev rfl)) rfl rfl ?_)
      intro a fr
      refine wpList_nil ?_
      refine then_n ?_
      refine wp_ret ?_
      refine ret1 Try.results6 fr (rv_tmp fr rfl) ?_
      exact ⟨rfl, st.agr.below⟩
  · refine enter Try.func6 rfl Try.ntmps6 (by simp) ?_
    intro a fr
    refine wp_seq ?_
    refine reg ?_
    refine lst rfl (ow_v fr (rn_assign (fr.ev rfl)) rfl rfl ?_)
    intro a fr
    refine wpList_nil ?_
    refine then_n ?_
    refine wp_seq ?_
    refine reg ?_
    refine lst rfl (ow_v fr (rn_move (fr.ev rfl)) rfl rfl ?_)
    intro a fr
    refine lst rfl (ow_call fr rfl rfl Try.call11 (dec_calls bs _ _ hbc hbl _ (st.get 0 rfl).1) rfl rfl ?_)
    rintro e w ⟨DA, dc, he, hrow, hag⟩
    rw [hd] at he hrow; simp only at he hrow; subst he
    refine ⟨_, rfl, ?_⟩
    intro a fr
    have st := st.call_row hag hrow
    clear hag hrow
    replace st : St _ [] w [row insC 4 29 w0.heap.size (.slice DA l.length dc) l, els C8 1 BA bs] := st
    refine lst rfl (ow_v fr (rn_move (fr.ev rfl)) rfl rfl ?_)
    intro a fr
    refine lst rfl (ow_v fr (rn_extract (fr.ev rfl) rfl) rfl rfl ?_)
    intro a fr
    refine lst rfl (ow_v fr (rn_extract (fr.ev rfl) rfl) rfl rfl ?_)
    intro a fr
    refine lst rfl (ow_v fr (rn_assign (fr.ev rfl)) rfl rfl ?_)
    intro a fr
    refine lst rfl (ow_v fr (rn_assign (fr.ev rfl)) rfl rfl ?_)
    intro a fr
    refine wpList_nil ?_
    refine then_n ?_
    refine wp_seq ?_
    refine wp_seq ?_
    refine reg ?_
    refine lst rfl (ow_v fr (rn_move (fr.ev rfl)) rfl rfl ?_)
    intro a fr
    refine lst rfl (ow_v fr (rn_as (v' := .bool true) (rn_neq (fr.ev rfl) (fr.ev rfl)) (congrArg Value.bool (by simpa using her))) rfl rfl ?_)
    intro a fr
    refine lst rfl (ow_v fr (rn_move (fr.ev rfl)) rfl rfl ?_)
    intro a fr
    refine lst_n (unwanted_of fr rfl rfl rfl rfl) fr rfl rfl ?_
    intro a fr
    refine lst_n (unwanted_of fr rfl rfl rfl rfl) fr rfl rfl ?_
    intro a fr
    refine lst rfl (ow_v fr (rn_pick_t (fr.ev rfl) (fr.ev rfl)) rfl rfl ?_)
    intro a fr
    refine wpList_nil ?_
    refine then_n ?_
    refine cond_t fr rfl rfl ?_
    refine wp_seq ?_
    refine reg ?_
    refine lst rfl (ow_call fr rfl rfl Try.call10 (live_calls _) rfl rfl ?_)
    rintro e w ⟨rfl, hag⟩
    refine ⟨_, rfl, ?_⟩
    intro a fr
    have st := st.keep hag
    clear hag
    refine lst rfl (ow_v fr (rn_move (fr.ev rfl)) rfl rfl ?_)
    intro a fr
    refine lst_y (wanted_of fr rfl rfl rfl rfl) (ow_v fr (rn_move (fr.ev rfl)) rfl rfl ?_)
    intro a fr
    refine lst_y (wanted_of fr rfl rfl rfl rfl) (ow_v fr (rn_as (v' := .bool true) (rn_neq (fr.ev rfl) (fr.ev rfl)) (congrArg Value.bool (by simpa using her))) rfl rfl ?_)
    intro a fr
    refine lst rfl (ow_v fr (rn_pick_t (fr.ev rfl) (fr.ev rfl)) rfl rfl ?_)
    intro a fr
    refine lst rfl (ow_v fr (rn_assign (fr.ev rfl)) rfl rfl ?_)
    intro a fr
    refine wpList_nil ?_
    refine then_n ?_
    refine wp_ret ?_
    refine then_r ?_
    refine ret1 Try.results6 fr (rv_tmp fr rfl) ?_
    exact ⟨rfl, st.agr.below⟩

end Go.Proofs.Yteiohpbghpmohaa.O9
