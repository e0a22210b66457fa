import Derived.Test.YteiohpbghpmohaaO20
import Derived.Test.YteiohpbghpmohaaO19
import Derived.Test.YteiohpbghpmohaaLibK
set_option linter.unusedVariables false
set_option linter.unusedSimpArgs false
namespace Go.Proofs.Yteiohpbghpmohaa.O22
open Go.RowKit Go.Proofs.Yteiohpbghpmohaa.LibA Go.Proofs.Yteiohpbghpmohaa.LibC Go.Proofs.Yteiohpbghpmohaa.LibS Go.Proofs.Yteiohpbghpmohaa.LibR Go.Proofs.Yteiohpbghpmohaa.LibT Go.Proofs.Yteiohpbghpmohaa.LibU Go.Proofs.Yteiohpbghpmohaa.LibV Go.Proofs.Yteiohpbghpmohaa.LibW Go.Proofs.Yteiohpbghpmohaa.LibX Go.Proofs.Yteiohpbghpmohaa.LibY Go.Proofs.Yteiohpbghpmohaa.LibZ Go.Proofs.Yteiohpbghpmohaa.LibQ Go.Proofs.Yteiohpbghpmohaa.LibP Go.Proofs.Yteiohpbghpmohaa.LibN Go.Proofs.Yteiohpbghpmohaa.LibH Go.Proofs.Yteiohpbghpmohaa.LibI Go.Proofs.Yteiohpbghpmohaa.LibJ Go.Proofs.Yteiohpbghpmohaa.LibK Go.Proofs.Yteiohpbghpmohaa.LibM Go.Proofs.Yteiohpbghpmohaa.O1 Go.Proofs.Yteiohpbghpmohaa.O2 Go.Proofs.Yteiohpbghpmohaa.O3 Go.Proofs.Yteiohpbghpmohaa.O4 Go.Proofs.Yteiohpbghpmohaa.O6 Go.Proofs.Yteiohpbghpmohaa.O7 Go.Proofs.Yteiohpbghpmohaa.O13 Go.Proofs.Yteiohpbghpmohaa.O19
open Go.Proofs.Yteiohpbghpmohaa.O5 hiding fa_29_1
open Go.Proofs.Yteiohpbghpmohaa.O20 hiding fa_29_0 sz_4
theorem ub_take {bs : List UInt8} {m i : Nat} (h : i < m) : ub (bs.take m) i = ub bs i := by
  unfold ub
  rw [List.getD_eq_getElem?_getD, List.getD_eq_getElem?_getD, List.getElem?_take, if_pos h]
theorem one_parts {bs : List UInt8} {k : Nat} {x : InsD} {nx : Int} (h : oneN bs k = (x, nx, 0)) : ∃ p q f, tblL.find? (fun r : RowD => r.1 == x.2.1) = some (p, q, f) ∧ Rng f ∧ nx = ((k + 1 + behF f : Nat) : Int) ∧ k + 1 + behF f ≤ bs.length ∧ x = ((k : Int), ((ub bs k : Nat) : Int), okA bs k f, okB bs k f) ∧ (f = 8 → ub bs (k + 1) = 10 ∨ ub bs (k + 1) = 11) := by
  unfold oneN at h
  by_cases h1 : bs.length ≤ k
  · rw [if_pos h1] at h; simp at h
  · rw [if_neg h1] at h
    cases hr : tblL.find? (fun r : RowD => r.1 == ((ub bs k : Nat) : Int)) with
    | none => rw [hr] at h; simp at h
    | some r =>
      rw [hr] at h
      obtain ⟨p, q, f⟩ := r
      simp only at h
      by_cases h2 : bs.length < k + 1 + behF f
      · rw [if_pos h2] at h; simp at h
      · rw [if_neg h2] at h
        by_cases h3 : f = 8 ∧ ub bs (k + 1) ≠ 10 ∧ ub bs (k + 1) ≠ 11
        · rw [if_pos h3] at h; simp at h
        · rw [if_neg h3] at h
          simp only [Prod.mk.injEq] at h
          obtain ⟨h4, h5, _⟩ := h
          subst h4
          exact ⟨p, q, f, hr, (row_rng hr).1, h5.symm, by omega, rfl, fun h8 => by omega⟩
/-- what is read does not hang on what comes behind -/
theorem one_same {bs bs' : List UInt8} {k q : Nat} {x : InsD} (h : oneN bs k = (x, ((q : Nat) : Int), 0)) (hl : q ≤ bs'.length) (hu : ∀ i, i < q → ub bs' i = ub bs i) : oneN bs' k = (x, ((q : Nat) : Int), 0) := by
  obtain ⟨p, s, f, hfd, hf, hnx, hm, hx, h8⟩ := one_parts h
  have hq : q = k + 1 + behF f := by omega
  subst hq
  unfold oneN
  rw [hx] at hfd
  simp only at hfd
  rw [if_neg (by omega), hu k (by omega), hfd]
  simp only
  have hA : okA bs' k f = okA bs k f ∧ okB bs' k f = okB bs k f ∧ (f = 8 → ub bs' (k + 1) = ub bs (k + 1)) := by
    rcases hf with rfl | rfl | rfl | rfl | rfl | rfl | rfl | rfl | rfl
    · simp [okA, okB]
    · have h1 := hu (k + 1) (by show k + 1 < k + 1 + 1; omega); simp [okA, okB, h1]
    · have h1 := hu (k + 1) (by show k + 1 < k + 1 + 1; omega); simp [okA, okB, h1]
    · have h1 := hu (k + 1) (by show k + 1 < k + 1 + 2; omega); have h2 := hu (k + 2) (by show k + 2 < k + 1 + 2; omega); simp [okA, okB, h1, h2]
    · have h1 := hu (k + 1) (by show k + 1 < k + 1 + 1; omega); simp [okA, okB, h1]
    · have h1 := hu (k + 1) (by show k + 1 < k + 1 + 2; omega); have h2 := hu (k + 2) (by show k + 2 < k + 1 + 2; omega); simp [okA, okB, h1, h2]
    · have h1 := hu (k + 1) (by show k + 1 < k + 1 + 2; omega); have h2 := hu (k + 2) (by show k + 2 < k + 1 + 2; omega); simp [okA, okB, h1, h2]
    · have h1 := hu (k + 1) (by show k + 1 < k + 1 + 2; omega); have h2 := hu (k + 2) (by show k + 2 < k + 1 + 2; omega); simp [okA, okB, h1, h2]
    · have h1 := hu (k + 1) (by show k + 1 < k + 1 + 1; omega); simp [okA, okB, h1]
  rw [if_neg (by omega), if_neg (by rintro ⟨a, b, c⟩; have h9 := hA.2.2 a; rw [h9] at b c; rcases h8 a with h | h; exact b h; exact c h), hA.1, hA.2.1, hx]
def szN (op : Int) : Nat := match tblL.find? (fun r : RowD => r.1 == op) with
  | some r => 1 + behF r.2.2
  | none => 0
theorem szN_le (op : Int) : szN op ≤ 3 := by
  unfold szN
  split
  · rename_i r _; have := behF_le r.2.2; omega
  · omega
def inB (m : Nat) (x : InsD) : Bool := decide (x.1 + ((szN x.2.1 : Nat) : Int) ≤ ((m : Nat) : Int))
theorem walk_ge (bs : List UInt8) : ∀ n k, ∀ x ∈ (walkN bs n k).1, (k : Int) ≤ x.1
  | 0, k => by simp [walkN]
  | n + 1, k => by
    by_cases h1 : bs.length ≤ k
    · rw [walk_end h1]; simp
    · obtain ⟨x, nx, er, hr⟩ : ∃ x nx er, oneN bs k = (x, nx, er) := ⟨_, _, _, rfl⟩
      by_cases he : er = 0
      · subst he
        obtain ⟨m, rfl, hm1, hm2, hm3⟩ := oneN_ok hr
        rw [walk_some (by omega) hr]
        intro y hy
        rcases List.mem_cons.1 hy with rfl | hy
        · omega
        · have := walk_ge bs n m y hy; omega
      · rw [walk_err (by omega) hr he]; simp
theorem walk_fuel (bs : List UInt8) : ∀ n k d, bs.length ≤ k + n → walkN bs (n + d) k = walkN bs n k
  | 0, k, d, h => by rw [walk_end (by omega), walk_end (by omega)]
  | n + 1, k, d, h => by
    by_cases h1 : bs.length ≤ k
    · rw [walk_end h1, walk_end h1]
    · rw [show n + 1 + d = (n + d) + 1 by omega]
      obtain ⟨x, nx, er, hr⟩ : ∃ x nx er, oneN bs k = (x, nx, er) := ⟨_, _, _, rfl⟩
      by_cases he : er = 0
      · subst he
        obtain ⟨m, rfl, hm1, hm2, hm3⟩ := oneN_ok hr
        rw [walk_some (by omega) hr, walk_some (by omega) hr, walk_fuel bs n m d (by omega)]
      · rw [walk_err (by omega) hr he, walk_err (by omega) hr he]
/-- a part's walk is the walk's part -/
theorem walk_cut (bs : List UInt8) (m : Nat) (hm : m ≤ bs.length) : ∀ n k, (walkN (bs.take m) n k).1 = (walkN bs n k).1.filter (inB m) ∧ ∃ t, (walkN bs n k).1 = (walkN bs n k).1.filter (inB m) ++ t
  | 0, k => by simp [walkN]
  | n + 1, k => by
    have hlt : (bs.take m).length = m := by rw [List.length_take]; omega
    by_cases h1 : bs.length ≤ k
    · rw [walk_end h1, walk_end (by omega)]; simp
    · obtain ⟨x, nx, er, hr⟩ : ∃ x nx er, oneN bs k = (x, nx, er) := ⟨_, _, _, rfl⟩
      by_cases he : er = 0
      · subst he
        obtain ⟨p, s, f, hfd, hf, rfl, hq, hx, h8⟩ := one_parts hr
        obtain ⟨ih1, t, ih2⟩ := walk_cut bs m hm n (k + 1 + behF f)
        rw [walk_some (by omega) hr]
        have hsz : szN x.2.1 = 1 + behF f := by unfold szN; rw [hfd]
        have hx1 : x.1 = (k : Int) := by rw [hx]
        by_cases h2 : k + 1 + behF f ≤ m
        · have ho := one_same (bs' := bs.take m) hr (by omega) (fun i hi => ub_take (by omega))
          have hin : inB m x = true := by unfold inB; rw [hsz, hx1]; exact decide_eq_true (by omega)
          rw [walk_some (by omega) ho]
          simp only
          rw [List.filter_cons_of_pos hin]
          exact ⟨by rw [ih1], t, by rw [List.cons_append, ← ih2]⟩
        · have hin : inB m x = false := by unfold inB; rw [hsz, hx1]; exact decide_eq_false (by omega)
          have hrest : (walkN bs n (k + 1 + behF f)).1.filter (inB m) = [] := by
            rw [List.filter_eq_nil_iff]
            intro y hy
            have := walk_ge bs n _ y hy
            unfold inB
            simp; omega
          have hno : (walkN (bs.take m) (n + 1) k).1 = [] := by
            by_cases h3 : (bs.take m).length ≤ k
            · rw [walk_end h3]
            · obtain ⟨x', nx', er', hr'⟩ : ∃ x' nx' er', oneN (bs.take m) k = (x', nx', er') := ⟨_, _, _, rfl⟩
              by_cases he' : er' = 0
              · subst he'
                obtain ⟨q, rfl, hq1, hq2, _⟩ := oneN_ok hr'
                have ho := one_same (bs' := bs) hr' (by omega) (fun i hi => (ub_take (by omega)).symm)
                rw [hr] at ho
                simp only [Prod.mk.injEq] at ho
                omega
              · rw [walk_err (by omega) hr' he']
          simp only
          rw [List.filter_cons_of_neg (by rw [hin]; decide), hrest, hno]
          exact ⟨rfl, _, rfl⟩
      · rw [walk_err (by omega) hr he]
        refine ⟨?_, [], by simp⟩
        by_cases h3 : (bs.take m).length ≤ k
        · rw [walk_end h3]; rfl
        · obtain ⟨x', nx', er', hr'⟩ : ∃ x' nx' er', oneN (bs.take m) k = (x', nx', er') := ⟨_, _, _, rfl⟩
          by_cases he' : er' = 0
          · subst he'
            obtain ⟨q, rfl, hq1, hq2, _⟩ := oneN_ok hr'
            have ho := one_same (bs' := bs) hr' (by omega) (fun i hi => (ub_take (by omega)).symm)
            rw [hr] at ho
            simp only [Prod.mk.injEq] at ho
            exact absurd ho.2.2 he
          · rw [walk_err (by omega) hr' he']; rfl
def cntN (l : List InsD) (m j : Nat) : Nat := ((l.take j).filter (inB m)).length
theorem cnt_y {l : List InsD} {m j : Nat} {x : InsD} (hj : j < l.length) (hx : l[j] = x) (h : inB m x = true) : cntN l m j + 1 = cntN l m (j + 1) := by
  unfold cntN; rw [List.take_succ_eq_append_getElem hj, List.filter_append, hx]; simp [h]
theorem cnt_n {l : List InsD} {m j : Nat} {x : InsD} (hj : j < l.length) (hx : l[j] = x) (h : inB m x = false) : cntN l m j = cntN l m (j + 1) := by
  unfold cntN; rw [List.take_succ_eq_append_getElem hj, List.filter_append, hx]; simp [h]
theorem cnt_le (l : List InsD) (m j : Nat) : cntN l m j ≤ l.length := by
  unfold cntN
  have h1 := List.length_filter_le (inB m) (l.take j)
  rw [List.length_take] at h1
  omega
theorem cnt_le2 (l : List InsD) (m j : Nat) : cntN l m j ≤ j := by
  unfold cntN
  have h1 := List.length_filter_le (inB m) (l.take j)
  rw [List.length_take] at h1
  omega
theorem cuts_law {bs ms1 : List UInt8} {wl ms2 : List InsD} {we : Int} {H j : Nat} (hw : walkF bs = (wl, we)) (hH : H ≤ bs.length) (hj : wl.length ≤ j) (h1 : (bs.take H).drop 0 = ms1) (h2 : (wl.take (cntN wl ms1.length j)).drop 0 = ms2) : (walkF ms1).1 = ms2 := by
  rw [List.drop_zero] at h1 h2
  have hl : ms1.length = H := by rw [← h1, List.length_take]; omega
  rw [hl] at h2
  subst h1
  subst h2
  have h3 := walk_cut bs H hH bs.length 0
  have hwl : (walkN bs bs.length 0).1 = wl := by rw [show walkN bs bs.length 0 = (wl, we) from hw]
  rw [hwl] at h3
  obtain ⟨h4, t, h5⟩ := h3
  unfold walkF
  rw [hl]
  have h6 := walk_fuel (bs.take H) H 0 (bs.length - H) (by rw [hl]; omega)
  rw [show H + (bs.length - H) = bs.length by omega] at h6
  rw [← h6, h4]
  unfold cntN
  rw [List.take_of_length_le hj]
  have h8 : wl.filter (inB H) <+: wl := ⟨t, h5.symm⟩
  exact List.prefix_iff_eq_take.1 h8
theorem size_any (op : Int) (w0 : World) : Calls Try.prog 21 #[.int .i64 op] w0 fun e w' => ∃ b, e = .returned (.tuple #[.int .i64 ((szN op : Nat) : Int), .bool b]) ∧ Agr [] w0 w' := by
  cases h : tblL.find? (fun r : RowD => r.1 == op) with
  | none => exact (size_f op h w0).mono fun e w' ⟨h1, h2⟩ => ⟨false, by rw [h1]; unfold szN; rw [h]; rfl, h2⟩
  | some r =>
    obtain ⟨p, q, f⟩ := r
    exact (size_t op h w0).mono fun e w' ⟨h1, h2⟩ => ⟨true, by rw [h1]; unfold szN; rw [h], h2⟩


set_option maxHeartbeats 1000000 in
theorem cuts_walk (bs : List UInt8) (BA : Option Addr) (bc q : Nat) (hq : q ≤ 65535) (hbc : bs.length ≤ bc) (hbl : bs.length * 32 ≤ 140737488355328) (w0 : World) (hb : Els C8 1 w0 BA bs) : Calls Try.prog 5 #[.slice BA bs.length bc, .int .u16 ((q : Nat) : Int)] w0 fun e w' => e = .returned (.bool true) ∧ Below w0.heap.size w0 w' := by
  have st : St w0 [] w0 [els C8 1 BA bs] := (add_ro (start0 w0 []) (by simp [els, ro, It.wr]) rfl (els_ok (C := C8) (sz := 1) (by decide) (fun x => rfl) hb));clear hb;obtain ⟨wl, we, hw⟩ : ∃ wl we, walkF bs = (wl, we) := ⟨_, _, rfl⟩;obtain ⟨H, hH⟩ : ∃ H, q % (bs.length + 1) = H := ⟨_, rfl⟩;have hHl : H ≤ bs.length := by have := Nat.mod_lt q (show 0 < bs.length + 1 by omega); omega
  have hrng : ∀ x ∈ wl, 0 ≤ x.1 ∧ x.1 < (bs.length : Int) := by have := walk_rng bs bs.length 0; rw [show walkN bs bs.length 0 = (wl, we) from hw] at this; exact this
  have hwl : wl.length ≤ bs.length := by have := walk_len2 bs bs.length 0; rw [show walkN bs bs.length 0 = (wl, we) from hw] at this; exact this
  refine enter Try.func5 rfl Try.ntmps5 (by simp) ?_;intro a fr;refine wp_seq ?_;refine reg ?_;refine as_ fr rfl rfl ?_;intro a fr;refine nil_n ?_;refine wp_seq ?_;refine wp_seq ?_;refine reg ?_;refine lst rfl (ow_call fr rfl rfl Try.call10 (live_calls _) rfl rfl ?_);rintro e w ⟨rfl, hag⟩;refine ⟨_, rfl, ?_⟩;intro a fr;have st := st.keep hag;clear hag;refine lst rfl (ow_v fr (rn_not (fr.ev rfl)) rfl rfl ?_);intro a fr;refine nil_n ?_;refine cond_f fr rfl rfl ?_;refine wp_skip ?_;refine then_n ?_;refine wp_seq ?_;refine reg ?_;refine mv fr rfl rfl ?_;intro a fr;refine lst rfl (ow_call fr rfl rfl Try.call15 (walk_calls bs _ _ hbc hbl _ (st.get 0 rfl).1) rfl rfl ?_);rintro e w ⟨WA, wc, he, hrow, hag⟩;rw [hw] at he hrow; simp only at he hrow; subst he;refine ⟨_, rfl, ?_⟩;intro a fr;have st := st.call_row hag hrow;clear hag hrow;replace st : St _ [] w [row insC 4 29 w0.heap.size (.slice WA wl.length wc) wl, els C8 1 BA bs] := st;refine mv fr rfl rfl ?_;intro a fr;refine lst rfl (ow_v fr (rn_extract (fr.ev rfl) rfl) rfl rfl ?_);intro a fr;refine lst rfl (ow_v fr (rn_extract (fr.ev rfl) rfl) rfl rfl ?_);intro a fr;refine as_ fr rfl rfl ?_;intro a fr;refine as_ fr rfl rfl ?_;intro a fr;refine nil_n ?_;refine wp_seq ?_;have hcap := (row_cap (C := insC) (fun _ => rfl) (st.get 0 rfl).1).2.1;have st := st.weaken 0 rfl (it := els insC 4 WA wl) (fun h => by cases h) (elsFp_row (e := 29) (base := w0.heap.size) (m := wl.length) (c := wc)) (els_ok (C := insC) (sz := 4) (by decide) (fun _ => rfl) (row_els (fun _ => rfl) (st.get 0 rfl).1));replace st : St _ [] _ [els insC 4 WA wl, els C8 1 BA bs] := st;refine reg ?_;refine mv fr rfl rfl ?_;intro a fr;refine mv fr rfl rfl ?_;intro a fr;refine lst rfl (ow_v fr (rn_conv (c := ((q : Nat) : Int)) (fr.ev rfl) (by kernel_rfl) Try.underlying3 (wr_i64 _ (by omega) (by omega))) rfl rfl ?_);intro a fr;refine mv fr rfl rfl ?_;intro a fr;refine lst rfl (ow_v fr (rn_len (fr.ev rfl) Try.underlying22) rfl rfl ?_);intro a fr;refine lst rfl (ow_v fr (rn_add (a := (bs.length : Nat)) (b := 1) (c := ((bs.length + 1 : Nat) : Int)) (fr.ev rfl) (fr.ev rfl) (wr_i64e (by omega) (by omega) (by omega))) rfl rfl ?_);intro a fr;refine lst rfl (ow_v fr (rn_rem (c := ((H : Nat) : Int)) (fr.ev rfl) (fr.ev rfl) (by omega) (by rw [← hH]; rfl)) rfl rfl ?_);intro a fr;refine lst rfl (ow_v fr (rn_upto (hi := H) (fr.ev rfl) (fr.ev rfl) Try.underlying22 sz_5 (by omega)) rfl rfl ?_);intro a fr;have st := st.cut (m := bc) (lo := 0) (hi := H) 1 rfl (by decide) (fun _ => rfl) hbc (by omega);obtain ⟨A1, hA_A1⟩ : ∃ A2, cutA BA bc 0 1 = A2 := ⟨_, rfl⟩;obtain ⟨ms2, hms3⟩ : ∃ ms, ((bs.take H).drop 0) = ms := ⟨_, rfl⟩;have hl_ms2 : ms2.length = H := by rw [← hms3]; simp; try omega
  rw [hA_A1] at st fr;rw [hms3] at st;obtain ⟨cc4, hc_cc4⟩ : ∃ c, bc = c := ⟨_, rfl⟩;rw [hc_cc4, ← hl_ms2] at fr;clear hA_A1;have hce_cc4 : ms2.length ≤ cc4 := by have hq_ : bs.length ≤ bc := hbc; omega
  refine as_ fr rfl rfl ?_;intro a fr;refine nil_n ?_;refine wp_seq ?_;refine reg ?_;refine as_ fr rfl rfl ?_;intro a fr;refine nil_n ?_;refine wp_seq ?_;refine wp_seq ?_;refine reg ?_;refine mv fr rfl rfl ?_;intro a fr;refine lst rfl (ow_v fr (rn_len (fr.ev rfl) Try.underlying24) rfl rfl ?_);intro a fr;refine mv fr rfl rfl ?_;intro a fr;refine nil_n ?_;refine wp_block ?_;refine wp_loop_ghost (fun mz a w => ∃ (j : Nat), (j ≤ wl.length) ∧ mz = wl.length - j ∧ FrL 56 a [(5, .slice WA wl.length wc), (7, .slice A1 ms2.length cc4), (8, .int .i64 (((cntN wl ms2.length j) : Nat))), (28, .slice WA wl.length wc), (29, .int .i64 ((wl.length : Nat))), (30, .int .i64 ((j : Nat)))] ∧ St w0 [] w [els C8 1 A1 ms2, els insC 4 WA wl, els C8 1 BA bs]) _ ⟨0, (Nat.zero_le _), rfl, fr.prune ⟨rfl, rfl, rfl, rfl, rfl, rfl, trivial⟩, st⟩ ?_;clear fr st;intro mz a w hI;obtain ⟨j, hj, hmz, fr, st⟩ := hI;by_cases hlt : j < wl.length
  · obtain ⟨b5, o6, eA, st_⟩ := st.elem 1 rfl j hlt (by simp [insC]);have fr_ := fr;cases eA;have st := st_;have fr := fr_;clear st_ fr_;obtain ⟨x0, x1, x2, x3, hx_wl_x0⟩ : ∃ x0 x1 x2 x3, wl[j] = (x0, x1, x2, x3) := ⟨_, _, _, _, rfl⟩;rw [hx_wl_x0] at st;replace st : St _ [] _ [ro b5 (o6 + j * 4) [.int .i64 (x0), .int .i64 (x1), .int .i64 (x2), .int .i64 (x3)], els C8 1 A1 ms2, els insC 4 (some ⟨b5, o6, none⟩) wl, els C8 1 BA bs] := st;have hr0 := hrng _ (List.getElem_mem hlt);rw [hx_wl_x0] at hr0;simp only at hr0;have hs3 := szN_le x1;by_cases hin : x0 + ((szN x1 : Nat) : Int) ≤ ((ms2.length : Nat) : Int)
    · have hin2 : inB ms2.length (x0, x1, x2, x3) = true := decide_eq_true hin;have hc2 := cnt_le2 wl ms2.length j;refine wp_seq ?_;refine reg ?_;refine lst rfl (ow_v fr (rn_as (v' := .bool true) (rn_lss (fr.ev rfl) (fr.ev rfl)) (congrArg Value.bool (decide_eq_true (by omega)))) rfl rfl ?_);intro a fr;refine nil_n ?_;refine wp_seq ?_;refine cond_t fr rfl rfl ?_;refine wp_skip ?_;refine then_n ?_;refine wp_seq ?_;refine wp_block ?_;refine wp_seq ?_;refine reg ?_;refine lst rfl (ow_v fr (rn_at (i := j) (fr.ev rfl) (fr.ev rfl) Try.underlying24 sz_29 (by omega) (by rfl)) rfl rfl ?_);intro a fr;refine lst rfl (ow_v fr (rn_loadN (cs := [.int .i64 (x0), .int .i64 (x1), .int .i64 (x2), .int .i64 (x3)]) (fr.ev rfl) Try.underlying29 rfl sz_29 (st.rorange 0 rfl 0 rfl)) rfl rfl ?_);intro a fr;refine lst rfl (ow_alloc fr st rfl zv_29 rfl rfl _ (by rfl) ?_);intro a w b7 fr st;refine lst rfl (ow_stN fr st 0 (vs := [.int .i64 (x0), .int .i64 (x1), .int .i64 (x2), .int .i64 (x3)]) rfl rfl rfl rfl sz_29 rfl (Nat.le_of_ble_eq_true rfl) rfl ?_);intro w (st : St _ [] w [.blk b7 [.int .i64 (x0), .int .i64 (x1), .int .i64 (x2), .int .i64 (x3)] 29, ro b5 (o6 + j * 4) [.int .i64 (x0), .int .i64 (x1), .int .i64 (x2), .int .i64 (x3)], els C8 1 A1 ms2, els insC 4 (some ⟨b5, o6, none⟩) wl, els C8 1 BA bs]);refine nil_n ?_;refine wp_seq ?_;refine reg ?_;refine lst rfl (ow_v fr (fa_29_1 (fr.ev rfl)) rfl rfl ?_);intro a fr;refine lst rfl (ow_v fr (rn_load (fr.ev rfl) Try.underlying3 rfl (st.cell 0 rfl rfl)) rfl rfl ?_);intro a fr;refine lst rfl (ow_call fr rfl rfl Try.call21 (size_any x1 _) rfl rfl ?_);rintro e w ⟨sb, rfl, hag⟩;refine ⟨_, rfl, ?_⟩;intro a fr;have st := st.keep hag;clear hag;refine mv fr rfl rfl ?_;intro a fr;refine lst rfl (ow_v fr (rn_extract (fr.ev rfl) rfl) rfl rfl ?_);intro a fr;refine lst rfl (ow_v fr (rn_extract (fr.ev rfl) rfl) rfl rfl ?_);intro a fr;refine as_ fr rfl rfl ?_;intro a fr;refine as_ fr rfl rfl ?_;intro a fr;refine nil_n ?_;refine wp_seq ?_;refine reg ?_;refine lst rfl (ow_v fr (fa_29_0 (fr.ev rfl)) rfl rfl ?_);intro a fr;refine lst rfl (ow_v fr (rn_load (fr.ev rfl) Try.underlying3 rfl (st.cell 0 rfl rfl)) rfl rfl ?_);intro a fr;refine mv fr rfl rfl ?_;intro a fr;refine lst rfl (ow_v fr (rn_add (a := x0) (b := ((szN x1) : Nat)) (c := x0 + ((szN x1) : Nat)) (fr.ev rfl) (fr.ev rfl) (wr_i64e (by omega) (by omega) (by omega))) rfl rfl ?_);intro a fr;refine mv fr rfl rfl ?_;intro a fr;refine lst rfl (ow_v fr (rn_len (fr.ev rfl) Try.underlying22) rfl rfl ?_);intro a fr;refine lst rfl (ow_v fr (rn_as (v' := .bool true) (rn_leq (fr.ev rfl) (fr.ev rfl)) (congrArg Value.bool (decide_eq_true (by omega)))) rfl rfl ?_);intro a fr;refine nil_n ?_;refine cond_t fr rfl rfl ?_;refine reg ?_;refine mv fr rfl rfl ?_;intro a fr;refine lst rfl (ow_v fr (rn_add (a := ((cntN wl ms2.length j) : Nat)) (b := 1) (c := (((cntN wl ms2.length j) + 1 : Nat) : Int)) (fr.ev rfl) (fr.ev rfl) (wr_i64e (by omega) (by omega) (by omega))) rfl rfl ?_);intro a fr;refine as_ fr rfl rfl ?_;intro a fr;refine wpList_nil ?_;refine blk_n ?_;refine then_n ?_;refine reg ?_;refine lst rfl (ow_v fr (rn_add (a := (j : Nat)) (b := 1) (c := ((j + 1 : Nat) : Int)) (fr.ev rfl) (fr.ev rfl) (wr_i64e (by omega) (by omega) (by omega))) rfl rfl ?_);intro a fr;refine mv fr rfl rfl ?_;intro a fr;refine wpList_nil ?_;rw [cnt_y hlt hx_wl_x0 hin2] at fr;refine then_n ⟨wl.length - (j + 1), ?_, j + 1, (by omega), rfl, fr.prune ⟨rfl, rfl, rfl, rfl, rfl, rfl, trivial⟩, st.sub (.cons _ (.cons _ (.cons_cons _ (.cons_cons _ (.cons_cons _ .slnil)))))⟩
      omega
    · have hin2 : inB ms2.length (x0, x1, x2, x3) = false := decide_eq_false hin;refine wp_seq ?_;refine reg ?_;refine lst rfl (ow_v fr (rn_as (v' := .bool true) (rn_lss (fr.ev rfl) (fr.ev rfl)) (congrArg Value.bool (decide_eq_true (by omega)))) rfl rfl ?_);intro a fr;refine nil_n ?_;refine wp_seq ?_;refine cond_t fr rfl rfl ?_;refine wp_skip ?_;refine then_n ?_;refine wp_seq ?_;refine wp_block ?_;refine wp_seq ?_;refine reg ?_;refine lst rfl (ow_v fr (rn_at (i := j) (fr.ev rfl) (fr.ev rfl) Try.underlying24 sz_29 (by omega) (by rfl)) rfl rfl ?_);intro a fr;refine lst rfl (ow_v fr (rn_loadN (cs := [.int .i64 (x0), .int .i64 (x1), .int .i64 (x2), .int .i64 (x3)]) (fr.ev rfl) Try.underlying29 rfl sz_29 (st.rorange 0 rfl 0 rfl)) rfl rfl ?_);intro a fr;refine lst rfl (ow_alloc fr st rfl zv_29 rfl rfl _ (by rfl) ?_);intro a w b8 fr st;refine lst rfl (ow_stN fr st 0 (vs := [.int .i64 (x0), .int .i64 (x1), .int .i64 (x2), .int .i64 (x3)]) rfl rfl rfl rfl sz_29 rfl (Nat.le_of_ble_eq_true rfl) rfl ?_);intro w (st : St _ [] w [.blk b8 [.int .i64 (x0), .int .i64 (x1), .int .i64 (x2), .int .i64 (x3)] 29, ro b5 (o6 + j * 4) [.int .i64 (x0), .int .i64 (x1), .int .i64 (x2), .int .i64 (x3)], els C8 1 A1 ms2, els insC 4 (some ⟨b5, o6, none⟩) wl, els C8 1 BA bs]);refine nil_n ?_;refine wp_seq ?_;refine reg ?_;refine lst rfl (ow_v fr (fa_29_1 (fr.ev rfl)) rfl rfl ?_);intro a fr;refine lst rfl (ow_v fr (rn_load (fr.ev rfl) Try.underlying3 rfl (st.cell 0 rfl rfl)) rfl rfl ?_);intro a fr;refine lst rfl (ow_call fr rfl rfl Try.call21 (size_any x1 _) rfl rfl ?_);rintro e w ⟨sb, rfl, hag⟩;refine ⟨_, rfl, ?_⟩;intro a fr;have st := st.keep hag;clear hag;refine mv fr rfl rfl ?_;intro a fr;refine lst rfl (ow_v fr (rn_extract (fr.ev rfl) rfl) rfl rfl ?_);intro a fr;refine lst rfl (ow_v fr (rn_extract (fr.ev rfl) rfl) rfl rfl ?_);intro a fr;refine as_ fr rfl rfl ?_;intro a fr;refine as_ fr rfl rfl ?_;intro a fr;refine nil_n ?_;refine wp_seq ?_;refine reg ?_;refine lst rfl (ow_v fr (fa_29_0 (fr.ev rfl)) rfl rfl ?_);intro a fr;refine lst rfl (ow_v fr (rn_load (fr.ev rfl) Try.underlying3 rfl (st.cell 0 rfl rfl)) rfl rfl ?_);intro a fr;refine mv fr rfl rfl ?_;intro a fr;refine lst rfl (ow_v fr (rn_add (a := x0) (b := ((szN x1) : Nat)) (c := x0 + ((szN x1) : Nat)) (fr.ev rfl) (fr.ev rfl) (wr_i64e (by omega) (by omega) (by omega))) rfl rfl ?_);intro a fr;refine mv fr rfl rfl ?_;intro a fr;refine lst rfl (ow_v fr (rn_len (fr.ev rfl) Try.underlying22) rfl rfl ?_);intro a fr;refine lst rfl (ow_v fr (rn_as (v' := .bool false) (rn_leq (fr.ev rfl) (fr.ev rfl)) (congrArg Value.bool (decide_eq_false (by omega)))) rfl rfl ?_);intro a fr;refine nil_n ?_;refine cond_f fr rfl rfl ?_;refine wp_skip ?_;refine blk_n ?_;refine then_n ?_;refine reg ?_;refine lst rfl (ow_v fr (rn_add (a := (j : Nat)) (b := 1) (c := ((j + 1 : Nat) : Int)) (fr.ev rfl) (fr.ev rfl) (wr_i64e (by omega) (by omega) (by omega))) rfl rfl ?_);intro a fr;refine mv fr rfl rfl ?_;intro a fr;refine wpList_nil ?_;rw [cnt_n hlt hx_wl_x0 hin2] at fr;refine then_n ⟨wl.length - (j + 1), ?_, j + 1, (by omega), rfl, fr.prune ⟨rfl, rfl, rfl, rfl, rfl, rfl, trivial⟩, st.sub (.cons _ (.cons _ (.cons_cons _ (.cons_cons _ (.cons_cons _ .slnil)))))⟩
      omega
  · refine wp_seq ?_;refine reg ?_;refine lst rfl (ow_v fr (rn_as (v' := .bool false) (rn_lss (fr.ev rfl) (fr.ev rfl)) (congrArg Value.bool (decide_eq_false (by omega)))) rfl rfl ?_);intro a fr;refine nil_n ?_;refine wp_seq ?_;refine cond_f fr rfl rfl ?_;refine wp_exit ?_;refine then_x ?_;refine then_x ?_;refine blk_x ?_;refine then_n ?_;refine wp_seq ?_;have hcl := cnt_le wl ms2.length j;refine dr_start (by kernel_rfl) st (.cons_cons _ (.cons_cons _ (.cons_cons _ .slnil))) ?_;intro w st;refine dt 0 rfl (by kernel_rfl) (fun _ _ _ h => h) fr rfl (st.sub (.cons_cons _ (.cons_cons _ (.cons_cons _ .slnil)))) (fun w st => rn_move (fr.ev rfl)) rfl rfl ?_;intro a fr;refine dt 2 rfl (by kernel_rfl) (fun _ _ _ h => h) fr rfl (st.sub (.cons_cons _ (.cons_cons _ (.cons_cons _ .slnil)))) (fun w st => rn_move (fr.ev rfl)) rfl rfl ?_;intro a fr;refine dt 3 rfl (by kernel_rfl) (fun _ _ _ h => h) fr rfl (st.sub (.cons_cons _ (.cons_cons _ (.cons_cons _ .slnil)))) (fun w st => rn_move (fr.ev rfl)) rfl rfl ?_;intro a fr;refine dt 4 rfl (by kernel_rfl) (fun _ _ _ h => h) fr rfl (st.sub (.cons_cons _ (.cons_cons _ (.cons_cons _ .slnil)))) (fun w st => rn_upto (hi := (cntN wl ms2.length j)) (fr.ev rfl) (fr.ev rfl) Try.underlying24 sz_29 (by omega)) rfl rfl ?_;intro a fr;have st := st.cut (m := wc) (lo := 0) (hi := (cntN wl ms2.length j)) 1 rfl (by decide) (fun _ => rfl) hcap (by omega);obtain ⟨A9, hA_A9⟩ : ∃ A2, cutA WA wc 0 4 = A2 := ⟨_, rfl⟩;obtain ⟨ms10, hms11⟩ : ∃ ms, ((wl.take ((cntN wl ms2.length j))).drop 0) = ms := ⟨_, rfl⟩;have hl_ms10 : ms10.length = (cntN wl ms2.length j) := by rw [← hms11]; simp; try omega
    rw [hA_A9] at st fr;rw [hms11] at st;obtain ⟨cc12, hc_cc12⟩ : ∃ c, wc = c := ⟨_, rfl⟩;rw [hc_cc12, ← hl_ms10] at fr;clear hA_A9;have hce_cc12 : ms10.length ≤ cc12 := by have hq_ : wl.length ≤ wc := hcap; omega
    refine dr_one 1 (by kernel_rfl) rfl rfl (ow_call fr rfl rfl Try.call18 (walk_it ms2 _ _ _) rfl rfl ?_);rintro e w ⟨wb, rfl, st2, hnw⟩;refine ⟨_, rfl, ?_⟩;intro a fr;have st := st.join st2 (by intro it hi b hb; simp at hi; subst hi; simp [It.fp] at hb; subst hb; exact hnw);clear st2 hnw;replace st : St _ [] w [.blk wb [.slice A1 ms2.length cc4] 22, els insC 4 A9 ms10, els C8 1 A1 ms2, els insC 4 WA wl, els C8 1 BA bs] := st;refine ⟨st.sub (.cons _ (.cons _ (.cons_cons _ (.cons_cons _ (.cons_cons _ .slnil))))), ?_⟩;refine dr_one 5 (by kernel_rfl) rfl rfl (ow_call fr rfl rfl Try.call17 (walks_of (cuts_law hw hHl (by omega) hms3 hms11) (by omega) (by omega) (by omega) 0 _ _ (st2_of (m := 0) (st.get 0 rfl) (st.get 2 rfl).1) (st.get 1 rfl).1) rfl rfl ?_);rintro e w ⟨rfl, hag⟩;refine ⟨_, rfl, ?_⟩;intro a fr;have st := st.keep hag;clear hag;refine ⟨st.sub (.cons _ (.cons _ (.cons_cons _ (.cons_cons _ (.cons_cons _ .slnil))))), ?_⟩;refine dt 6 rfl (by kernel_rfl) (fun _ _ _ h => h) fr rfl (st.sub (.cons _ (.cons _ (.cons_cons _ (.cons_cons _ (.cons_cons _ .slnil)))))) (fun w st => rn_assign (fr.ev rfl)) rfl rfl ?_;intro a fr;refine dr_done (by kernel_rfl) ?_;refine then_n ?_;refine wp_ret ?_;refine ret1 Try.results5 fr (rv_tmp fr rfl) ?_;exact ⟨rfl, st.agr.below⟩

end Go.Proofs.Yteiohpbghpmohaa.O22
