import Derived.Test.YtccagiflocnioaaC14a
import Derived.Test.YtccagiflocnioaaC20
import Derived.Test.YtccagiflocnioaaC21
import Derived.Test.YtccagiflocnioaaLibK2
import Derived.Test.YtccagiflocnioaaLibP
import Derived.Test.YtccagiflocnioaaLibN
import Derived.Test.YtccagiflocnioaaLibH
import Derived.Test.YtccagiflocnioaaLibA
import Derived.Test.YtccagiflocnioaaLibZ
import Derived.Test.YtccagiflocnioaaLibI
import Derived.Test.YtccagiflocnioaaLibJ
import Derived.Test.YtccagiflocnioaaLibK
import Derived.Test.YtccagiflocnioaaLibDf
import Derived.Test.YtccagiflocnioaaLibAs
import Derived.Test.YtccagiflocnioaaLibCu
import Derived.Test.YtccagiflocnioaaLibMf
set_option linter.unusedVariables false
set_option linter.unusedSimpArgs false
set_option maxRecDepth 100000
namespace Go.Proofs.Ytccagiflocnioaa.C24
open Go.Lib Go.RowKit Go.Proofs.Ytccagiflocnioaa.LibA Go.Proofs.Ytccagiflocnioaa.LibC Go.Proofs.Ytccagiflocnioaa.LibS Go.Proofs.Ytccagiflocnioaa.LibR Go.Proofs.Ytccagiflocnioaa.LibT Go.Proofs.Ytccagiflocnioaa.LibU Go.Proofs.Ytccagiflocnioaa.LibV Go.Proofs.Ytccagiflocnioaa.LibW Go.Proofs.Ytccagiflocnioaa.LibX Go.Proofs.Ytccagiflocnioaa.LibY Go.Proofs.Ytccagiflocnioaa.LibZ Go.Proofs.Ytccagiflocnioaa.LibQ Go.Proofs.Ytccagiflocnioaa.LibP Go.Proofs.Ytccagiflocnioaa.LibN Go.Proofs.Ytccagiflocnioaa.LibH Go.Proofs.Ytccagiflocnioaa.LibI Go.Proofs.Ytccagiflocnioaa.LibJ Go.Proofs.Ytccagiflocnioaa.LibK Go.Proofs.Ytccagiflocnioaa.LibM Go.Proofs.Ytccagiflocnioaa.LibK2 Go.Proofs.Ytccagiflocnioaa.LibDf Go.Proofs.Ytccagiflocnioaa.LibAs Go.Proofs.Ytccagiflocnioaa.LibCu Go.Proofs.Ytccagiflocnioaa.LibMf Go.Proofs.Ytccagiflocnioaa.C1 Go.Proofs.Ytccagiflocnioaa.C4 Go.Proofs.Ytccagiflocnioaa.C5 Go.Proofs.Ytccagiflocnioaa.C6 Go.Proofs.Ytccagiflocnioaa.C7 Go.Proofs.Ytccagiflocnioaa.C8 Go.Proofs.Ytccagiflocnioaa.C9 Go.Proofs.Ytccagiflocnioaa.C10 Go.Proofs.Ytccagiflocnioaa.C11 Go.Proofs.Ytccagiflocnioaa.C12 Go.Proofs.Ytccagiflocnioaa.C13 Go.Proofs.Ytccagiflocnioaa.C14a Go.Proofs.Ytccagiflocnioaa.C15 Go.Proofs.Ytccagiflocnioaa.C16 Go.Proofs.Ytccagiflocnioaa.C19 Go.Proofs.Ytccagiflocnioaa.C20 Go.Proofs.Ytccagiflocnioaa.C21
theorem may_known {c : CstD} (h : mayF c = 0) : c.1 ≠ 0 := by
  obtain ⟨a0, a1, a2, a3, a4⟩ := c
  intro h0
  simp only at h0
  rw [may_eq] at h
  have : knownF a0 = false := by unfold knownF; exact decide_eq_false (by omega)
  rw [if_pos this] at h
  cases h
theorem zero_may : errAt [zC] 0 = 0 := by decide
theorem check_of {l : List CstD} (h4 : l.length ≤ 4096) (h : ∀ k, k < l.length → errAt l k = 0) : checkF l = 0 := check_ok h4 h
/-- what stands in a pool that is well formed stands well in one that goes on -/
theorem err_more {l r : List CstD} (hc : checkF l = 0) {k : Nat} (hk : k < l.length) : errAt (l ++ r) k = 0 := by
  have he := (check_all hc).2 k hk
  have hk2 : k < (l ++ r).length := by rw [List.length_append]; omega
  rw [err_at hk rfl] at he
  rw [err_at hk2 rfl, List.getElem_append_left hk]
  have hp : (k = 0 ∨ ((l ++ r)[k - 1]?).map (·.1) = some 5) ↔ (k = 0 ∨ (l[k - 1]?).map (·.1) = some 5) := by
    by_cases h0 : k = 0
    · simp [h0]
    · rw [List.getElem?_append_left (by omega)]
  by_cases h1 : k = 0 ∨ (l[k - 1]?).map (·.1) = some 5
  · rw [if_pos (hp.2 h1)]
    rw [if_pos h1] at he
    exact he
  · rw [if_neg (fun h => h1 (hp.1 h))]
    rw [if_neg h1] at he
    by_cases h2 : l[k].1 = 5 ∧ k = l.length - 1
    · rw [if_pos h2] at he; cases he
    · rw [if_neg h2] at he
      rw [if_neg (fun h => h2 ⟨h.1, by have := h.2; rw [List.length_append] at this; omega⟩)]
      exact he
theorem addO_ok {l : List CstD} (hc : checkF l = 0) : checkF (addO l) = 0 := by
  unfold addO
  split
  · exact check_of (by decide) (fun k hk => by have : k = 0 := by simp at hk; omega
                                               subst this; exact zero_may)
  · exact hc
theorem addO_pos (l : List CstD) : 1 ≤ (addO l).length := by
  unfold addO
  split
  · simp
  · omega
theorem addO_take (l : List CstD) : (addO l).take l.length = l := by
  unfold addO
  split
  · rename_i h; rw [h, List.take_zero]; exact (List.length_eq_zero_iff.1 h).symm
  · exact List.take_length
theorem addO_ge (l : List CstD) : l.length ≤ (addO l).length := by
  unfold addO
  split
  · omega
  · exact Nat.le_refl _
/-- the last entry of a well formed pool is no long -/
theorem last_no {l : List CstD} (hc : checkF l = 0) {k : Nat} (hk : k + 1 = l.length) : (l[k]?).map (·.1) ≠ some 5 := by
  have he := (check_all hc).2 k (by omega)
  rw [err_at (by omega) rfl] at he
  rw [List.getElem?_eq_getElem (by omega)]
  intro h5
  simp only [Option.map_some, Option.some.injEq] at h5
  by_cases h1 : k = 0 ∨ (l[k - 1]?).map (·.1) = some 5
  · rw [if_pos h1] at he
    split at he
    · rename_i hz; rw [hz] at h5; cases h5
    · cases he
  · rw [if_neg h1, if_pos ⟨h5, by omega⟩] at he
    cases he
theorem addL_check {l : List CstD} {c : CstD} (hc : checkF l = 0) (hm : mayF c = 0) (h4 : (addL l c).length ≤ 4096) : checkF (addL l c) = 0 := by
  refine check_of h4 fun k hk => ?_
  have ho := addO_ok hc
  have hp := addO_pos l
  rcases Nat.lt_trichotomy k (addO l).length with h | h | h
  · unfold addL; rw [List.append_assoc]; exact err_more ho h
  · have hx1 : (addL l c)[k]? = some c := by
      unfold addL
      rw [List.getElem?_append_left (by simp; omega), List.getElem?_append_right (by omega)]
      simp [h]
    have hx : (addL l c)[k] = c := (List.getElem?_eq_some_iff.1 hx1).2
    rw [err_at hk hx]
    have hpv : (addL l c)[k - 1]? = (addO l)[k - 1]? := by
      unfold addL
      rw [List.append_assoc, List.getElem?_append_left (by omega)]
    have hl := last_no ho (k := k - 1) (by omega)
    rw [if_neg (by rw [hpv]; rintro (h0 | h0); omega; exact hl h0)]
    by_cases h5 : c.1 = 5
    · rw [if_neg (fun h' => by have := h'.2; unfold addL at this; rw [if_pos h5] at this; simp at this; omega)]
      exact hm
    · rw [if_neg (fun h' => h5 h'.1)]
      exact hm
  · by_cases h5 : c.1 = 5
    · have hk2 : k = (addO l).length + 1 := by unfold addL at hk; rw [if_pos h5] at hk; simp at hk; omega
      have hx1 : (addL l c)[k]? = some zC := by
        unfold addL
        rw [List.getElem?_append_right (by simp; omega), if_pos h5]
        simp [hk2]
      have hx : (addL l c)[k] = zC := (List.getElem?_eq_some_iff.1 hx1).2
      rw [err_at hk hx]
      have hpv : (addL l c)[k - 1]? = some c := by
        unfold addL
        rw [List.getElem?_append_left (by simp; omega), List.getElem?_append_right (by omega)]
        simp [show k - 1 - (addO l).length = 0 by omega]
      rw [if_pos (.inr (by rw [hpv]; simp [h5])), if_pos (show zC = ((0, ByteArray.empty, 0, 0, 0) : CstD) from rfl)]
    · unfold addL at hk
      rw [if_neg h5] at hk
      simp at hk
      omega
theorem find_lt {l : List CstD} {c : CstD} {i : Nat} (h : findF l c = some i) : 1 ≤ i ∧ i < l.length ∧ l[i]? = some c := by
  unfold findF at h
  split at h
  · cases h
  · cases ho : idxF (l.drop 1) c with
    | none => rw [ho] at h; cases h
    | some k =>
      rw [ho] at h
      simp at h
      subst h
      unfold idxF at ho
      obtain ⟨hk, hx, _⟩ := List.findIdx?_eq_some_iff_getElem.1 ho
      simp only [List.length_drop] at hk
      refine ⟨by omega, by omega, ?_⟩
      rw [List.getElem_drop] at hx
      rw [List.getElem?_eq_getElem (by omega)]
      simp only [decide_eq_true_eq] at hx
      rw [← hx]
      congr 1
      simp only [Nat.add_comm]
theorem not_find {l : List CstD} {c : CstD} (h0 : c.1 ≠ 0) (h : findF l c = none) : ∀ j, 1 ≤ j → l[j]? ≠ some c := by
  intro j hj hx
  unfold findF at h
  rw [if_neg h0] at h
  simp only [Option.map_eq_none_iff] at h
  unfold idxF at h
  rw [List.findIdx?_eq_none_iff] at h
  have hlt := (List.getElem?_eq_some_iff.1 hx).1
  have := h c (by
    refine List.mem_iff_getElem?.2 ⟨j - 1, ?_⟩
    rw [List.getElem?_drop, show 1 + (j - 1) = j by omega]
    exact hx)
  simp at this
theorem add_find {l : List CstD} {c : CstD} (h0 : c.1 ≠ 0) (h : findF l c = none) : findF (addL l c) c = some (addO l).length := by
  have hp := addO_pos l
  refine find_some h0 hp (by unfold addL; simp) ?_ (fun j hj hj2 hl hx => ?_)
  · have h1 : (addL l c)[(addO l).length]? = some c := by
      unfold addL
      rw [List.getElem?_append_left (by simp), List.getElem?_append_right (by omega)]
      simp
    exact (List.getElem?_eq_some_iff.1 h1).2
  · have h1 : (addL l c)[j]? = some c := by rw [List.getElem?_eq_getElem hl, hx]
    unfold addL at h1
    rw [List.append_assoc, List.getElem?_append_left (by omega)] at h1
    unfold addO at h1 hj2
    by_cases he : l.length = 0
    · rw [if_pos he] at hj2
      simp at hj2
      omega
    · rw [if_neg he] at h1
      exact not_find h0 h j hj h1
theorem grow_ok {l m : List CstD} {c : CstD} {iz : Int} (hc : checkF l = 0) (hA : addF l c = (m, iz, 0)) :
    ∃ i : Nat, iz = (i : Int) ∧ 1 ≤ i ∧ i < m.length ∧ m[i]? = some c ∧ l.length ≤ m.length ∧ m.take l.length = l ∧ checkF m = 0 ∧ addF m c = (m, iz, 0) := by
  have hA2 := hA
  unfold addF at hA
  rw [if_neg (by simp [hc])] at hA
  by_cases hm : mayF c = 0
  · rw [if_neg (by simp [hm])] at hA
    have h0 := may_known hm
    cases hf : findF l c with
    | some i =>
      rw [hf] at hA
      simp only [Prod.mk.injEq] at hA
      obtain ⟨rfl, rfl, _⟩ := hA
      obtain ⟨h1, h2, h3⟩ := find_lt hf
      exact ⟨i, rfl, h1, h2, h3, Nat.le_refl _, List.take_length, hc, hA2⟩
    | none =>
      rw [hf] at hA
      simp only at hA
      by_cases h4 : 4096 < (addL l c).length
      · rw [if_pos h4] at hA
        simp at hA
      · rw [if_neg h4] at hA
        simp only [Prod.mk.injEq] at hA
        obtain ⟨rfl, rfl, _⟩ := hA
        have hk := addL_check hc hm (by omega)
        have hf2 := add_find h0 hf
        obtain ⟨h1, h2, h3⟩ := find_lt hf2
        refine ⟨(addO l).length, rfl, h1, h2, h3, ?_, ?_, hk, ?_⟩
        · have := addO_ge l; omega
        · unfold addL
          rw [List.append_assoc, List.take_append_of_le_length (addO_ge l), addO_take]
        · unfold addF
          rw [if_neg (by simp [hk]), if_neg (by simp [hm]), hf2]
  · rw [if_pos hm] at hA
    simp only [Prod.mk.injEq] at hA
    exact absurd hA.2.2 hm
theorem row_cap {E : Type} {C : E → List Value} {sz e base n c : Nat} {A : Option Addr} {xs : List E} {w : World} (hC : ∀ x, (C x).length = sz) (h : Row C sz e base (.slice A n c) xs w) : xs.length ≤ c := by
  obtain ⟨A', c', e1, h2, _⟩ := row_form hC h
  cases e1
  exact h2
theorem els_fp_row {E : Type} {C : E → List Value} {sz e base n c : Nat} {A : Option Addr} {xs ys : List E} : ∀ b ∈ (els C sz A ys).fp, b ∈ (row C sz e base (.slice A n c) xs).fp := fun b hb => by
  obtain ⟨ad, e1, rfl⟩ := elsFp_mem hb
  subst e1
  simp [row, It.fp, Value.ownBlock]


theorem small_of {l : List CstD} (hc : checkF l = 0) : ∀ c ∈ l, c.2.1.data.toList.length ≤ 9223372036854775806 := fun c h => by
  have := check_size hc h;rw [Array.length_toList];exact Nat.le_trans this (by decide)
theorem add_is {l : List CstD} {LA : Option Addr} {lc : Nat} (hc : checkF l = 0) (hlc : l.length ≤ lc) {c0 : Int} {c1 : ByteArray} {c2 c3 c4 : Int} (hcs : c1.data.toList.length ≤ 9223372036854775806) {m : List CstD} {iz er : Int} (hA : addF l (c0, c1, c2, c3, c4) = (m, iz, er)) (w0 : World) (hx : Els cstC 5 w0 LA l) : Calls Try.prog 30 #[.slice LA l.length lc, .agg #[.int .i64 (c0), (.string c1), .int .i64 (c2), .int .i64 (c3), .int .i64 (c4)]] w0 fun e w' => ∃ A cap, e = .returned (.tuple #[.slice A m.length cap, .int .i64 iz, .int .i64 er]) ∧ Row cstC 5 48 w0.heap.size (.slice A m.length cap) m w' ∧ Agr [] w0 w' := by
  have := add_calls l LA lc (by have := (check_all hc).1; omega) hlc (small_of hc) c0 c1 c2 c3 c4 hcs w0 hx;rw [hA] at this;exact this

theorem check_is {l : List CstD} {A : Option Addr} {c : Nat} (hc : checkF l = 0) (h4 : l.length ≤ 4096) (w0 : World) (hx : Els cstC 5 w0 A l) : Calls Try.prog 17 #[.slice A l.length c] w0 fun e w' => e = .returned (.int .i64 0) ∧ Agr [] w0 w' := by
  have := check_calls l A c (by omega) (fun c h => Nat.le_trans (small_of hc c h) (by decide)) w0 hx;rw [hc] at this;exact this
theorem equal_same_of {xs ys : List CstD} {A B : Option Addr} {c d : Nat} (h : xs = ys) (h4 : ys.length ≤ 4096) (w0 : World) (ha : Els cstC 5 w0 A xs) (hb : Els cstC 5 w0 B ys) : Calls Try.prog 33 #[.slice A xs.length c, .slice B ys.length d] w0 fun e w' => e = .returned (.bool true) ∧ Agr [] w0 w' := by
  subst h;exact equal_calls_same xs A B c d (by omega) w0 ha hb

set_option maxHeartbeats 1000000 in
theorem grows_walk (l0 : List CstD) (LA : Option Addr) (lc : Nat) (hl : l0.length ≤ 140737488355328) (hlc0 : l0.length ≤ lc) (hstr : ∀ c ∈ l0, c.2.1.data.toList.length ≤ 9223372036854775806) (ms : List CstD) (MA : Option Addr) (mc : Nat) (hml0 : ms.length ≤ 140737488355328) (hstm : ∀ c ∈ ms, c.2.1.data.toList.length ≤ 9223372036854775806) (w0 : World) (hx : Els cstC 5 w0 LA l0) (hy : Els cstC 5 w0 MA ms) : Calls Try.prog 8 #[.slice LA l0.length lc, .slice MA ms.length mc] w0 fun e w' => e = .returned (.bool true) ∧ Below w0.heap.size w0 w' := by
  have st : St w0 [] w0 [els cstC 5 LA l0, els cstC 5 MA ms] := (add_ro (add_ro (start0 w0 []) (by simp [els, ro, It.wr]) rfl (els_ok (C := cstC) (sz := 5) (by decide) (fun x => rfl) hy)) (by simp [els, ro, It.wr]) rfl (els_ok (C := cstC) (sz := 5) (by decide) (fun x => rfl) hx));clear hx hy;by_cases hc0 : checkF l0 = 0
  · refine enter Try.func8 rfl Try.ntmps8 (by simp) ?_;intro a fr;refine wp_seq ?_;refine reg ?_;refine as_ fr rfl rfl ?_;intro a fr;refine nil_n ?_;refine wp_seq ?_;refine wp_seq ?_;refine reg ?_;refine lst rfl (ow_call fr rfl rfl Try.call12 (live_calls _) rfl rfl ?_);rintro e w ⟨rfl, hag⟩;refine ⟨_, rfl, ?_⟩;intro a fr;have st := st.keep hag;clear hag;refine lst rfl (ow_v fr (rn_not (fr.ev rfl)) rfl rfl ?_);intro a fr;refine nil_n ?_;refine cond_f fr rfl rfl ?_;refine wp_skip ?_;refine then_n ?_;refine wp_seq ?_;refine wp_seq ?_;refine reg ?_;refine mv fr rfl rfl ?_;intro a fr;refine lst rfl (ow_call fr rfl rfl Try.call17 (check_calls l0 LA lc hl (fun c hc => Nat.le_trans (hstr c hc) (by decide)) _ (st.get 0 rfl).1) rfl rfl ?_);rintro e w ⟨rfl, hag⟩;refine ⟨_, rfl, ?_⟩;intro a fr;have st := st.keep hag;clear hag;refine lst rfl (ow_v fr (rn_as (v' := .bool false) (rn_neq (fr.ev rfl) (fr.ev rfl)) (congrArg Value.bool (by simp [hc0]))) rfl rfl ?_);intro a fr;refine nil_n ?_;refine cond_f fr rfl rfl ?_;refine wp_skip ?_;refine then_n ?_;refine wp_seq ?_;refine wp_seq ?_;refine reg ?_;refine mv fr rfl rfl ?_;intro a fr;refine lst rfl (ow_v fr (rn_len (fr.ev rfl) Try.underlying23) rfl rfl ?_);intro a fr;refine mv fr rfl rfl ?_;intro a fr;refine nil_n ?_;refine wp_block ?_;refine wp_loop_ghost (fun mz a w => ∃ (k : Nat) (l : List CstD) (A : Option Addr) (c : Nat), (k ≤ ms.length) ∧ (checkF l = 0) ∧ (l.length ≤ c) ∧ mz = ms.length - k ∧ FrL 92 a [(0, .slice A l.length c), (18, .slice MA ms.length mc), (19, .int .i64 ((ms.length : Nat))), (20, .int .i64 ((k : Nat)))] ∧ St w0 [] w [els cstC 5 A l, els cstC 5 MA ms]) _ ⟨0, l0, LA, lc, (Nat.zero_le _), (hc0), (hlc0), rfl, fr.prune ⟨rfl, rfl, rfl, rfl, trivial⟩, st⟩ ?_;clear fr st;intro mz a w hI;obtain ⟨k, l, A, c, hk, hc, hlc, hmz, fr, st⟩ := hI;have hl4 := (check_all hc).1;by_cases hlt : k < ms.length
    · obtain ⟨b1, o2, eA, st_⟩ := st.elem 1 rfl k hlt (by simp [cstC]);have fr_ := fr;cases eA;have st := st_;have fr := fr_;clear st_ fr_;obtain ⟨c0, c1, c2, c3, c4, hx_ms_c0⟩ : ∃ c0 c1 c2 c3 c4, ms[k] = (c0, c1, c2, c3, c4) := ⟨_, _, _, _, _, rfl⟩;rw [hx_ms_c0] at st;replace st : St _ [] _ [ro b1 (o2 + k * 5) [.int .i64 (c0), (.string c1), .int .i64 (c2), .int .i64 (c3), .int .i64 (c4)], els cstC 5 A l, els cstC 5 (some ⟨b1, o2, none⟩) ms] := st;have hsz := hstm _ (List.getElem_mem hlt);rw [hx_ms_c0] at hsz;simp only at hsz;obtain ⟨m, iz, er, hA⟩ : ∃ m iz er, addF l (c0, c1, c2, c3, c4) = (m, iz, er) := ⟨_, _, _, rfl⟩;by_cases her : er = 0
      · subst her;obtain ⟨i, rfl, hi1, hi2, hi3, hml, hmt, hmk, hA2⟩ := grow_ok hc hA;have hm4 := (check_all hmk).1;refine wp_seq ?_;refine reg ?_;refine lst rfl (ow_v fr (rn_as (v' := .bool true) (rn_lss (fr.ev rfl) (fr.ev rfl)) (congrArg Value.bool (decide_eq_true (by omega)))) rfl rfl ?_);intro a fr;refine nil_n ?_;refine wp_seq ?_;refine cond_t fr rfl rfl ?_;refine wp_skip ?_;refine then_n ?_;refine wp_seq ?_;refine wp_block ?_;refine wp_seq ?_;refine reg ?_;refine lst rfl (ow_v fr (rn_at (i := k) (fr.ev rfl) (fr.ev rfl) Try.underlying23 sz_48 (by omega) (by rfl)) rfl rfl ?_);intro a fr;refine lst rfl (ow_v fr (rn_loadN (cs := [.int .i64 (c0), (.string c1), .int .i64 (c2), .int .i64 (c3), .int .i64 (c4)]) (fr.ev rfl) Try.underlying48 rfl sz_48 (st.rorange 0 rfl 0 rfl)) rfl rfl ?_);intro a fr;refine lst rfl (ow_alloc fr st rfl zv_48 rfl rfl _ (by rfl) ?_);intro a w b3 fr st;refine lst rfl (ow_stN fr st 0 (vs := [.int .i64 (c0), (.string c1), .int .i64 (c2), .int .i64 (c3), .int .i64 (c4)]) rfl rfl rfl rfl sz_48 rfl (Nat.le_of_ble_eq_true rfl) rfl ?_);intro w (st : St _ [] w [.blk b3 [.int .i64 (c0), (.string c1), .int .i64 (c2), .int .i64 (c3), .int .i64 (c4)] 48, ro b1 (o2 + k * 5) [.int .i64 (c0), (.string c1), .int .i64 (c2), .int .i64 (c3), .int .i64 (c4)], els cstC 5 A l, els cstC 5 (some ⟨b1, o2, none⟩) ms]);refine nil_n ?_;refine wp_seq ?_;refine reg ?_;refine mv fr rfl rfl ?_;intro a fr;refine lst rfl (ow_v fr (rn_loadN (cs := [.int .i64 (c0), (.string c1), .int .i64 (c2), .int .i64 (c3), .int .i64 (c4)]) (fr.ev rfl) Try.underlying48 rfl sz_48 (st.blkrange 0 rfl 0 rfl)) rfl rfl ?_);intro a fr;refine lst rfl (ow_call fr rfl rfl Try.call30 (add_is hc hlc hsz hA _ (st.get 2 rfl).1) rfl rfl ?_);rintro e w ⟨PA, Pc, rfl, hrow, hag⟩;refine ⟨_, rfl, ?_⟩;intro a fr;have hmc := row_cap (C := cstC) (sz := 5) (fun _ => rfl) hrow;have st := st.call_row hag hrow;clear hag hrow;have st := st.weaken 0 rfl (it := els cstC 5 PA m) (fun h => by cases h) els_fp_row (els_of_row (C := cstC) (sz := 5) (by decide) (fun _ => rfl) (st.get 0 rfl));replace st : St _ [] w [els cstC 5 PA m, .blk b3 [.int .i64 (c0), (.string c1), .int .i64 (c2), .int .i64 (c3), .int .i64 (c4)] 48, ro b1 (o2 + k * 5) [.int .i64 (c0), (.string c1), .int .i64 (c2), .int .i64 (c3), .int .i64 (c4)], els cstC 5 A l, els cstC 5 (some ⟨b1, o2, none⟩) ms] := st;refine mv fr rfl rfl ?_;intro a fr;refine lst rfl (ow_v fr (rn_extract (fr.ev rfl) rfl) rfl rfl ?_);intro a fr;refine lst rfl (ow_v fr (rn_extract (fr.ev rfl) rfl) rfl rfl ?_);intro a fr;refine lst rfl (ow_v fr (rn_extract (fr.ev rfl) rfl) rfl rfl ?_);intro a fr;refine as_ fr rfl rfl ?_;intro a fr;refine as_ fr rfl rfl ?_;intro a fr;refine as_ fr rfl rfl ?_;intro a fr;refine nil_n ?_;refine wp_seq ?_;refine wp_seq ?_;refine reg ?_;refine mv fr rfl rfl ?_;intro a fr;refine lst rfl (ow_v fr (rn_as (rn_neq (fr.ev rfl) (fr.ev rfl)) (by rfl)) rfl rfl ?_);intro a fr;refine nil_n ?_;refine cond_f fr rfl rfl ?_;refine wp_skip ?_;refine then_n ?_;refine wp_seq ?_;refine wp_seq ?_;obtain ⟨b4, o5, eA, st_⟩ := st.elem 0 rfl i hi2 (by simp [cstC]);have fr_ := fr;cases eA;have st := st_;have fr := fr_;clear st_ fr_;obtain ⟨y0, y1, y2, y3, y4, hx_m_y0⟩ : ∃ y0 y1 y2 y3 y4, m[i] = (y0, y1, y2, y3, y4) := ⟨_, _, _, _, _, rfl⟩;rw [hx_m_y0] at st;replace st : St _ [] _ [ro b4 (o5 + i * 5) [.int .i64 (y0), (.string y1), .int .i64 (y2), .int .i64 (y3), .int .i64 (y4)], els cstC 5 (some ⟨b4, o5, none⟩) m, .blk b3 [.int .i64 (c0), (.string c1), .int .i64 (c2), .int .i64 (c3), .int .i64 (c4)] 48, ro b1 (o2 + k * 5) [.int .i64 (c0), (.string c1), .int .i64 (c2), .int .i64 (c3), .int .i64 (c4)], els cstC 5 A l, els cstC 5 (some ⟨b1, o2, none⟩) ms] := st;have hyc : ((y0, y1, y2, y3, y4) : CstD) = (c0, c1, c2, c3, c4) := by rw [List.getElem?_eq_getElem hi2, hx_m_y0] at hi3; exact Option.some.inj hi3
        refine dr_start (by kernel_rfl) st (.cons_cons _ (.cons_cons _ (.cons_cons _ (.cons_cons _ (.cons_cons _ (.cons_cons _ .slnil)))))) ?_;intro w st;refine dt 0 rfl (by kernel_rfl) (fun _ _ _ h => h) fr rfl (st.sub (.cons_cons _ (.cons_cons _ (.cons_cons _ (.cons_cons _ (.cons_cons _ (.cons_cons _ .slnil))))))) (fun w st => rn_move (fr.ev rfl)) rfl rfl ?_;intro a fr;refine dt 1 rfl (by kernel_rfl) (fun _ _ _ h => h) fr rfl (st.sub (.cons_cons _ (.cons_cons _ (.cons_cons _ (.cons_cons _ (.cons_cons _ (.cons_cons _ .slnil))))))) (fun w st => rn_as (v' := .bool false) (rn_lss (fr.ev rfl) (fr.ev rfl)) (congrArg Value.bool (decide_eq_false (by omega)))) rfl rfl ?_;intro a fr;refine dt 2 rfl (by kernel_rfl) (fun _ _ _ h => h) fr rfl (st.sub (.cons_cons _ (.cons_cons _ (.cons_cons _ (.cons_cons _ (.cons_cons _ (.cons_cons _ .slnil))))))) (fun w st => rn_move (fr.ev rfl)) rfl rfl ?_;intro a fr;refine dty 3 rfl (by kernel_rfl) (fun _ _ _ h => h) fr (wanted_of fr rfl rfl rfl rfl) (st.sub (.cons_cons _ (.cons_cons _ (.cons_cons _ (.cons_cons _ (.cons_cons _ (.cons_cons _ .slnil))))))) (fun w st => rn_move (fr.ev rfl)) rfl rfl ?_;intro a fr;refine dty 4 rfl (by kernel_rfl) (fun _ _ _ h => h) fr (wanted_of fr rfl rfl rfl rfl) (st.sub (.cons_cons _ (.cons_cons _ (.cons_cons _ (.cons_cons _ (.cons_cons _ (.cons_cons _ .slnil))))))) (fun w st => rn_move (fr.ev rfl)) rfl rfl ?_;intro a fr;refine dty 5 rfl (by kernel_rfl) (fun _ _ _ h => h) fr (wanted_of fr rfl rfl rfl rfl) (st.sub (.cons_cons _ (.cons_cons _ (.cons_cons _ (.cons_cons _ (.cons_cons _ (.cons_cons _ .slnil))))))) (fun w st => rn_len (fr.ev rfl) Try.underlying23) rfl rfl ?_;intro a fr;refine dty 6 rfl (by kernel_rfl) (fun _ _ _ h => h) fr (wanted_of fr rfl rfl rfl rfl) (st.sub (.cons_cons _ (.cons_cons _ (.cons_cons _ (.cons_cons _ (.cons_cons _ (.cons_cons _ .slnil))))))) (fun w st => rn_as (v' := .bool false) (rn_geq (fr.ev rfl) (fr.ev rfl)) (congrArg Value.bool (decide_eq_false (by omega)))) rfl rfl ?_;intro a fr;refine dt 7 rfl (by kernel_rfl) (fun _ _ _ h => h) fr rfl (st.sub (.cons_cons _ (.cons_cons _ (.cons_cons _ (.cons_cons _ (.cons_cons _ (.cons_cons _ .slnil))))))) (fun w st => rn_pick_f (fr.ev rfl) (fr.ev rfl)) rfl rfl ?_;intro a fr;refine dt 8 rfl (by kernel_rfl) (fun _ _ _ h => h) fr rfl (st.sub (.cons_cons _ (.cons_cons _ (.cons_cons _ (.cons_cons _ (.cons_cons _ (.cons_cons _ .slnil))))))) (fun w st => rn_move (fr.ev rfl)) rfl rfl ?_;intro a fr;refine dty 9 rfl (by kernel_rfl) (fun _ _ _ h => h) fr (wanted_of fr rfl rfl rfl rfl) (st.sub (.cons_cons _ (.cons_cons _ (.cons_cons _ (.cons_cons _ (.cons_cons _ (.cons_cons _ .slnil))))))) (fun w st => rn_move (fr.ev rfl)) rfl rfl ?_;intro a fr;refine dty 10 rfl (by kernel_rfl) (fun _ _ _ h => h) fr (wanted_of fr rfl rfl rfl rfl) (st.sub (.cons_cons _ (.cons_cons _ (.cons_cons _ (.cons_cons _ (.cons_cons _ (.cons_cons _ .slnil))))))) (fun w st => rn_move (fr.ev rfl)) rfl rfl ?_;intro a fr;refine dty 11 rfl (by kernel_rfl) (fun _ _ _ h => h) fr (wanted_of fr rfl rfl rfl rfl) (st.sub (.cons_cons _ (.cons_cons _ (.cons_cons _ (.cons_cons _ (.cons_cons _ (.cons_cons _ .slnil))))))) (fun w st => rn_at (i := i) (fr.ev rfl) (fr.ev rfl) Try.underlying23 sz_48 (by omega) (by rfl)) rfl rfl ?_;intro a fr;refine dty 12 rfl (by kernel_rfl) (fun _ _ _ h => h) fr (wanted_of fr rfl rfl rfl rfl) (st.sub (.cons_cons _ (.cons_cons _ (.cons_cons _ (.cons_cons _ (.cons_cons _ (.cons_cons _ .slnil))))))) (fun w st => rn_loadN (cs := [.int .i64 (y0), (.string y1), .int .i64 (y2), .int .i64 (y3), .int .i64 (y4)]) (fr.ev rfl) Try.underlying48 rfl sz_48 (st.rorange 0 rfl 0 rfl)) rfl rfl ?_;intro a fr;refine dty 13 rfl (by kernel_rfl) (fun _ _ _ h => h) fr (wanted_of fr rfl rfl rfl rfl) (st.sub (.cons_cons _ (.cons_cons _ (.cons_cons _ (.cons_cons _ (.cons_cons _ (.cons_cons _ .slnil))))))) (fun w st => rn_loadN (cs := [.int .i64 (c0), (.string c1), .int .i64 (c2), .int .i64 (c3), .int .i64 (c4)]) (fr.ev rfl) Try.underlying48 rfl sz_48 (st.blkrange 2 rfl 0 rfl)) rfl rfl ?_;intro a fr;refine dty 14 rfl (by kernel_rfl) (fun _ _ _ h => h) fr (wanted_of fr rfl rfl rfl rfl) (st.sub (.cons_cons _ (.cons_cons _ (.cons_cons _ (.cons_cons _ (.cons_cons _ (.cons_cons _ .slnil))))))) (fun w st => rn_as (v' := .bool false) (neS_48 (fr.ev rfl) (fr.ev rfl)) (congrArg Value.bool (by rw [cst_beq.2 hyc]; rfl))) rfl rfl ?_;intro a fr;refine dt 15 rfl (by kernel_rfl) (fun _ _ _ h => h) fr rfl (st.sub (.cons_cons _ (.cons_cons _ (.cons_cons _ (.cons_cons _ (.cons_cons _ (.cons_cons _ .slnil))))))) (fun w st => rn_pick_f (fr.ev rfl) (fr.ev rfl)) rfl rfl ?_;intro a fr;refine dt 16 rfl (by kernel_rfl) (fun _ _ _ h => h) fr rfl (st.sub (.cons_cons _ (.cons_cons _ (.cons_cons _ (.cons_cons _ (.cons_cons _ (.cons_cons _ .slnil))))))) (fun w st => rn_move (fr.ev rfl)) rfl rfl ?_;intro a fr;refine dty 17 rfl (by kernel_rfl) (fun _ _ _ h => h) fr (wanted_of fr rfl rfl rfl rfl) (st.sub (.cons_cons _ (.cons_cons _ (.cons_cons _ (.cons_cons _ (.cons_cons _ (.cons_cons _ .slnil))))))) (fun w st => rn_move (fr.ev rfl)) rfl rfl ?_;intro a fr;refine dty 18 rfl (by kernel_rfl) (fun _ _ _ h => h) fr (wanted_of fr rfl rfl rfl rfl) (st.sub (.cons_cons _ (.cons_cons _ (.cons_cons _ (.cons_cons _ (.cons_cons _ (.cons_cons _ .slnil))))))) (fun w st => rn_len (fr.ev rfl) Try.underlying23) rfl rfl ?_;intro a fr;refine dty 19 rfl (by kernel_rfl) (fun _ _ _ h => h) fr (wanted_of fr rfl rfl rfl rfl) (st.sub (.cons_cons _ (.cons_cons _ (.cons_cons _ (.cons_cons _ (.cons_cons _ (.cons_cons _ .slnil))))))) (fun w st => rn_move (fr.ev rfl)) rfl rfl ?_;intro a fr;refine dty 20 rfl (by kernel_rfl) (fun _ _ _ h => h) fr (wanted_of fr rfl rfl rfl rfl) (st.sub (.cons_cons _ (.cons_cons _ (.cons_cons _ (.cons_cons _ (.cons_cons _ (.cons_cons _ .slnil))))))) (fun w st => rn_len (fr.ev rfl) Try.underlying23) rfl rfl ?_;intro a fr;refine dty 21 rfl (by kernel_rfl) (fun _ _ _ h => h) fr (wanted_of fr rfl rfl rfl rfl) (st.sub (.cons_cons _ (.cons_cons _ (.cons_cons _ (.cons_cons _ (.cons_cons _ (.cons_cons _ .slnil))))))) (fun w st => rn_as (v' := .bool false) (rn_lss (fr.ev rfl) (fr.ev rfl)) (congrArg Value.bool (decide_eq_false (by omega)))) rfl rfl ?_;intro a fr;refine dt 22 rfl (by kernel_rfl) (fun _ _ _ h => h) fr rfl (st.sub (.cons_cons _ (.cons_cons _ (.cons_cons _ (.cons_cons _ (.cons_cons _ (.cons_cons _ .slnil))))))) (fun w st => rn_pick_f (fr.ev rfl) (fr.ev rfl)) rfl rfl ?_;intro a fr;refine dt 23 rfl (by kernel_rfl) (fun _ _ _ h => h) fr rfl (st.sub (.cons_cons _ (.cons_cons _ (.cons_cons _ (.cons_cons _ (.cons_cons _ (.cons_cons _ .slnil))))))) (fun w st => rn_move (fr.ev rfl)) rfl rfl ?_;intro a fr;refine dty 24 rfl (by kernel_rfl) (fun _ _ _ h => h) fr (wanted_of fr rfl rfl rfl rfl) (st.sub (.cons_cons _ (.cons_cons _ (.cons_cons _ (.cons_cons _ (.cons_cons _ (.cons_cons _ .slnil))))))) (fun w st => rn_move (fr.ev rfl)) rfl rfl ?_;intro a fr;refine dty 25 rfl (by kernel_rfl) (fun _ _ _ h => h) fr (wanted_of fr rfl rfl rfl rfl) (st.sub (.cons_cons _ (.cons_cons _ (.cons_cons _ (.cons_cons _ (.cons_cons _ (.cons_cons _ .slnil))))))) (fun w st => rn_move (fr.ev rfl)) rfl rfl ?_;intro a fr;refine dty 26 rfl (by kernel_rfl) (fun _ _ _ h => h) fr (wanted_of fr rfl rfl rfl rfl) (st.sub (.cons_cons _ (.cons_cons _ (.cons_cons _ (.cons_cons _ (.cons_cons _ (.cons_cons _ .slnil))))))) (fun w st => rn_len (fr.ev rfl) Try.underlying23) rfl rfl ?_;intro a fr;refine dty 27 rfl (by kernel_rfl) (fun _ _ _ h => h) fr (wanted_of fr rfl rfl rfl rfl) (st.sub (.cons_cons _ (.cons_cons _ (.cons_cons _ (.cons_cons _ (.cons_cons _ (.cons_cons _ .slnil))))))) (fun w st => rn_upto (hi := l.length) (fr.ev rfl) (fr.ev rfl) Try.underlying23 sz_48 (by omega)) rfl rfl ?_;intro a fr;have st := st.cut (m := Pc) (lo := 0) (hi := l.length) 1 rfl (by decide) (fun _ => rfl) hmc (by omega);obtain ⟨A6, hA_A6⟩ : ∃ A2, cutA (some ⟨b4, o5, none⟩) Pc 0 5 = A2 := ⟨_, rfl⟩;obtain ⟨ms7, hms8⟩ : ∃ ms, ((m.take l.length).drop 0) = ms := ⟨_, rfl⟩;have hl_ms7 : ms7.length = l.length := by rw [← hms8]; simp; try omega
        rw [hA_A6] at st;rw [hms8] at st;obtain ⟨cc9, hc_cc9⟩ : ∃ c, Pc = c := ⟨_, rfl⟩;have fr := fr_val (d := 60) (v' := .slice A6 ms7.length cc9) fr rfl (by rw [hA_A6, hl_ms7, hc_cc9]);clear hA_A6;have hce_cc9 : ms7.length ≤ cc9 := by have hq_ : m.length ≤ Pc := hmc; omega
        refine dty 28 rfl (by kernel_rfl) (fun _ _ _ h => h) fr (wanted_of fr rfl rfl rfl rfl) (st.sub (.cons _ (.cons_cons _ (.cons_cons _ (.cons_cons _ (.cons_cons _ (.cons_cons _ (.cons_cons _ .slnil)))))))) (fun w st => rn_move (fr.ev rfl)) rfl rfl ?_;intro a fr;have hpre : ms7 = l := by rw [← hms8, List.drop_zero]; exact hmt
        refine dr_one_y 29 (by kernel_rfl) rfl (wanted_of fr rfl rfl rfl rfl) (ow_call fr rfl rfl Try.call33 (equal_same_of hpre hl4 _ (st.get 0 rfl).1 (st.get 5 rfl).1) rfl rfl ?_);rintro e w ⟨rfl, hag⟩;refine ⟨_, rfl, ?_⟩;intro a fr;have st := st.keep hag;clear hag;refine ⟨st.sub (.cons _ (.cons_cons _ (.cons_cons _ (.cons_cons _ (.cons_cons _ (.cons_cons _ (.cons_cons _ .slnil))))))), ?_⟩;refine dty 30 rfl (by kernel_rfl) (fun _ _ _ h => h) fr (wanted_of fr rfl rfl rfl rfl) (st.sub (.cons _ (.cons_cons _ (.cons_cons _ (.cons_cons _ (.cons_cons _ (.cons_cons _ (.cons_cons _ .slnil)))))))) (fun w st => rn_not (fr.ev rfl)) rfl rfl ?_;intro a fr;refine dt 31 rfl (by kernel_rfl) (fun _ _ _ h => h) fr rfl (st.sub (.cons _ (.cons_cons _ (.cons_cons _ (.cons_cons _ (.cons_cons _ (.cons_cons _ (.cons_cons _ .slnil)))))))) (fun w st => rn_pick_f (fr.ev rfl) (fr.ev rfl)) rfl rfl ?_;intro a fr;refine dt 32 rfl (by kernel_rfl) (fun _ _ _ h => h) fr rfl (st.sub (.cons _ (.cons_cons _ (.cons_cons _ (.cons_cons _ (.cons_cons _ (.cons_cons _ (.cons_cons _ .slnil)))))))) (fun w st => rn_move (fr.ev rfl)) rfl rfl ?_;intro a fr;refine dty 33 rfl (by kernel_rfl) (fun _ _ _ h => h) fr (wanted_of fr rfl rfl rfl rfl) (st.sub (.cons _ (.cons_cons _ (.cons_cons _ (.cons_cons _ (.cons_cons _ (.cons_cons _ (.cons_cons _ .slnil)))))))) (fun w st => rn_move (fr.ev rfl)) rfl rfl ?_;intro a fr;refine dr_one_y 34 (by kernel_rfl) rfl (wanted_of fr rfl rfl rfl rfl) (ow_call fr rfl rfl Try.call17 (check_is hmk hm4 _ (st.get 2 rfl).1) rfl rfl ?_);rintro e w ⟨rfl, hag⟩;refine ⟨_, rfl, ?_⟩;intro a fr;have st := st.keep hag;clear hag;refine ⟨st.sub (.cons _ (.cons_cons _ (.cons_cons _ (.cons_cons _ (.cons_cons _ (.cons_cons _ (.cons_cons _ .slnil))))))), ?_⟩;refine dty 35 rfl (by kernel_rfl) (fun _ _ _ h => h) fr (wanted_of fr rfl rfl rfl rfl) (st.sub (.cons _ (.cons_cons _ (.cons_cons _ (.cons_cons _ (.cons_cons _ (.cons_cons _ (.cons_cons _ .slnil)))))))) (fun w st => rn_as (rn_neq (fr.ev rfl) (fr.ev rfl)) (by rfl)) rfl rfl ?_;intro a fr;refine dt 36 rfl (by kernel_rfl) (fun _ _ _ h => h) fr rfl (st.sub (.cons _ (.cons_cons _ (.cons_cons _ (.cons_cons _ (.cons_cons _ (.cons_cons _ (.cons_cons _ .slnil)))))))) (fun w st => rn_pick_f (fr.ev rfl) (fr.ev rfl)) rfl rfl ?_;intro a fr;refine dr_done (by kernel_rfl) ?_;refine then_n ?_;refine cond_f fr rfl rfl ?_;refine wp_skip ?_;refine then_n ?_;refine wp_seq ?_;refine reg ?_;refine mv fr rfl rfl ?_;intro a fr;refine lst rfl (ow_v fr (rn_loadN (cs := [.int .i64 (c0), (.string c1), .int .i64 (c2), .int .i64 (c3), .int .i64 (c4)]) (fr.ev rfl) Try.underlying48 rfl sz_48 (st.blkrange 3 rfl 0 rfl)) rfl rfl ?_);intro a fr;refine lst rfl (ow_call fr rfl rfl Try.call30 (add_is hmk hmc hsz hA2 _ (st.get 2 rfl).1) rfl rfl ?_);rintro e w ⟨QA, Qc, rfl, hrow, hag⟩;refine ⟨_, rfl, ?_⟩;intro a fr
        skip
        have st := st.call_row hag hrow;clear hag hrow;have st := st.weaken 0 rfl (it := els cstC 5 QA m) (fun h => by cases h) els_fp_row (els_of_row (C := cstC) (sz := 5) (by decide) (fun _ => rfl) (st.get 0 rfl));replace st : St _ [] w [els cstC 5 QA m, els cstC 5 A6 ms7, ro b4 (o5 + i * 5) [.int .i64 (y0), (.string y1), .int .i64 (y2), .int .i64 (y3), .int .i64 (y4)], els cstC 5 (some ⟨b4, o5, none⟩) m, .blk b3 [.int .i64 (c0), (.string c1), .int .i64 (c2), .int .i64 (c3), .int .i64 (c4)] 48, ro b1 (o2 + k * 5) [.int .i64 (c0), (.string c1), .int .i64 (c2), .int .i64 (c3), .int .i64 (c4)], els cstC 5 A l, els cstC 5 (some ⟨b1, o2, none⟩) ms] := st;refine mv fr rfl rfl ?_;intro a fr;refine lst rfl (ow_v fr (rn_extract (fr.ev rfl) rfl) rfl rfl ?_);intro a fr;refine lst rfl (ow_v fr (rn_extract (fr.ev rfl) rfl) rfl rfl ?_);intro a fr;refine lst rfl (ow_v fr (rn_extract (fr.ev rfl) rfl) rfl rfl ?_);intro a fr;refine as_ fr rfl rfl ?_;intro a fr;refine as_ fr rfl rfl ?_;intro a fr;refine as_ fr rfl rfl ?_;intro a fr;refine nil_n ?_;refine wp_seq ?_;refine wp_seq ?_;refine reg ?_;refine mv fr rfl rfl ?_;intro a fr;refine lst rfl (ow_v fr (rn_as (rn_neq (fr.ev rfl) (fr.ev rfl)) (by rfl)) rfl rfl ?_);intro a fr;refine mv fr rfl rfl ?_;intro a fr;refine lst_y (wanted_of fr rfl rfl rfl rfl) (ow_v fr (rn_move (fr.ev rfl)) rfl rfl ?_);intro a fr;refine lst_y (wanted_of fr rfl rfl rfl rfl) (ow_v fr (rn_move (fr.ev rfl)) rfl rfl ?_);intro a fr;refine lst_y (wanted_of fr rfl rfl rfl rfl) (ow_v fr (rn_as (v' := .bool false) (rn_neq (fr.ev rfl) (fr.ev rfl)) (congrArg Value.bool (by simp))) rfl rfl ?_);intro a fr;refine lst rfl (ow_v fr (rn_pick_f (fr.ev rfl) (fr.ev rfl)) rfl rfl ?_);intro a fr;refine mv fr rfl rfl ?_;intro a fr;refine lst_y (wanted_of fr rfl rfl rfl rfl) (ow_v fr (rn_move (fr.ev rfl)) rfl rfl ?_);intro a fr;refine lst_y (wanted_of fr rfl rfl rfl rfl) (ow_v fr (rn_move (fr.ev rfl)) rfl rfl ?_);intro a fr;refine lst_y (wanted_of fr rfl rfl rfl rfl) (ow_call fr rfl rfl Try.call33 (equal_calls_same m _ _ _ _ (by omega) _ (st.get 0 rfl).1 (st.get 3 rfl).1) rfl rfl ?_);rintro e w ⟨rfl, hag⟩;refine ⟨_, rfl, ?_⟩;intro a fr;have st := st.keep hag;clear hag;refine lst_y (wanted_of fr rfl rfl rfl rfl) (ow_v fr (rn_not (fr.ev rfl)) rfl rfl ?_);intro a fr;refine lst rfl (ow_v fr (rn_pick_f (fr.ev rfl) (fr.ev rfl)) rfl rfl ?_);intro a fr;refine nil_n ?_;refine cond_f fr rfl rfl ?_;refine wp_skip ?_;refine then_n ?_;refine reg ?_;refine mv fr rfl rfl ?_;intro a fr;refine as_ fr rfl rfl ?_;intro a fr;refine wpList_nil ?_;refine blk_n ?_;refine then_n ?_;refine reg ?_;refine lst rfl (ow_v fr (rn_add (a := (k : Nat)) (b := 1) (c := ((k + 1 : Nat) : Int)) (fr.ev rfl) (fr.ev rfl) (wr_i64e (by omega) (by omega) (by omega))) rfl rfl ?_);intro a fr;refine mv fr rfl rfl ?_;intro a fr;refine wpList_nil ?_;refine then_n ⟨ms.length - (k + 1), ?_, k + 1, m, (some ⟨b4, o5, none⟩), Pc, (by omega), (hmk), (hmc), rfl, fr.prune ⟨rfl, rfl, rfl, rfl, trivial⟩, st.sub (.cons _ (.cons _ (.cons _ (.cons_cons _ (.cons _ (.cons _ (.cons _ (.cons_cons _ .slnil))))))))⟩
        omega
      · refine wp_seq ?_;refine reg ?_;refine lst rfl (ow_v fr (rn_as (v' := .bool true) (rn_lss (fr.ev rfl) (fr.ev rfl)) (congrArg Value.bool (decide_eq_true (by omega)))) rfl rfl ?_);intro a fr;refine nil_n ?_;refine wp_seq ?_;refine cond_t fr rfl rfl ?_;refine wp_skip ?_;refine then_n ?_;refine wp_seq ?_;refine wp_block ?_;refine wp_seq ?_;refine reg ?_;refine lst rfl (ow_v fr (rn_at (i := k) (fr.ev rfl) (fr.ev rfl) Try.underlying23 sz_48 (by omega) (by rfl)) rfl rfl ?_);intro a fr;refine lst rfl (ow_v fr (rn_loadN (cs := [.int .i64 (c0), (.string c1), .int .i64 (c2), .int .i64 (c3), .int .i64 (c4)]) (fr.ev rfl) Try.underlying48 rfl sz_48 (st.rorange 0 rfl 0 rfl)) rfl rfl ?_);intro a fr;refine lst rfl (ow_alloc fr st rfl zv_48 rfl rfl _ (by rfl) ?_);intro a w b10 fr st;refine lst rfl (ow_stN fr st 0 (vs := [.int .i64 (c0), (.string c1), .int .i64 (c2), .int .i64 (c3), .int .i64 (c4)]) rfl rfl rfl rfl sz_48 rfl (Nat.le_of_ble_eq_true rfl) rfl ?_);intro w (st : St _ [] w [.blk b10 [.int .i64 (c0), (.string c1), .int .i64 (c2), .int .i64 (c3), .int .i64 (c4)] 48, ro b1 (o2 + k * 5) [.int .i64 (c0), (.string c1), .int .i64 (c2), .int .i64 (c3), .int .i64 (c4)], els cstC 5 A l, els cstC 5 (some ⟨b1, o2, none⟩) ms]);refine nil_n ?_;refine wp_seq ?_;refine reg ?_;refine mv fr rfl rfl ?_;intro a fr;refine lst rfl (ow_v fr (rn_loadN (cs := [.int .i64 (c0), (.string c1), .int .i64 (c2), .int .i64 (c3), .int .i64 (c4)]) (fr.ev rfl) Try.underlying48 rfl sz_48 (st.blkrange 0 rfl 0 rfl)) rfl rfl ?_);intro a fr;refine lst rfl (ow_call fr rfl rfl Try.call30 (add_is hc hlc hsz hA _ (st.get 2 rfl).1) rfl rfl ?_);rintro e w ⟨PA, Pc, rfl, hrow, hag⟩;refine ⟨_, rfl, ?_⟩;intro a fr;have hmc := row_cap (C := cstC) (sz := 5) (fun _ => rfl) hrow;have st := st.call_row hag hrow;clear hag hrow;have st := st.weaken 0 rfl (it := els cstC 5 PA m) (fun h => by cases h) els_fp_row (els_of_row (C := cstC) (sz := 5) (by decide) (fun _ => rfl) (st.get 0 rfl));replace st : St _ [] w [els cstC 5 PA m, .blk b10 [.int .i64 (c0), (.string c1), .int .i64 (c2), .int .i64 (c3), .int .i64 (c4)] 48, ro b1 (o2 + k * 5) [.int .i64 (c0), (.string c1), .int .i64 (c2), .int .i64 (c3), .int .i64 (c4)], els cstC 5 A l, els cstC 5 (some ⟨b1, o2, none⟩) ms] := st;refine mv fr rfl rfl ?_;intro a fr;refine lst rfl (ow_v fr (rn_extract (fr.ev rfl) rfl) rfl rfl ?_);intro a fr;refine lst rfl (ow_v fr (rn_extract (fr.ev rfl) rfl) rfl rfl ?_);intro a fr;refine lst rfl (ow_v fr (rn_extract (fr.ev rfl) rfl) rfl rfl ?_);intro a fr;refine as_ fr rfl rfl ?_;intro a fr;refine as_ fr rfl rfl ?_;intro a fr;refine as_ fr rfl rfl ?_;intro a fr;refine nil_n ?_;refine wp_seq ?_;refine wp_seq ?_;refine reg ?_;refine mv fr rfl rfl ?_;intro a fr;refine lst rfl (ow_v fr (rn_as (v' := .bool true) (rn_neq (fr.ev rfl) (fr.ev rfl)) (congrArg Value.bool (by simpa using her))) rfl rfl ?_);intro a fr;refine nil_n ?_;refine cond_t fr rfl rfl ?_;refine wp_exit ?_;refine then_x ?_;refine blk_x ?_;refine then_n ?_;refine reg ?_;refine lst rfl (ow_v fr (rn_add (a := (k : Nat)) (b := 1) (c := ((k + 1 : Nat) : Int)) (fr.ev rfl) (fr.ev rfl) (wr_i64e (by omega) (by omega) (by omega))) rfl rfl ?_);intro a fr;refine mv fr rfl rfl ?_;intro a fr;refine wpList_nil ?_;refine then_n ⟨ms.length - (k + 1), ?_, k + 1, l, A, c, (by omega), (hc), (hlc), rfl, fr.prune ⟨rfl, rfl, rfl, rfl, trivial⟩, st.sub (.cons _ (.cons _ (.cons _ (.cons_cons _ (.cons_cons _ .slnil)))))⟩
        omega
    · refine wp_seq ?_;refine reg ?_;refine lst rfl (ow_v fr (rn_as (v' := .bool false) (rn_lss (fr.ev rfl) (fr.ev rfl)) (congrArg Value.bool (decide_eq_false (by omega)))) rfl rfl ?_);intro a fr;refine nil_n ?_;refine wp_seq ?_;refine cond_f fr rfl rfl ?_;refine wp_exit ?_;refine then_x ?_;refine then_x ?_;refine blk_x ?_;refine then_n ?_;refine wp_seq ?_;refine reg ?_;refine as_ fr rfl rfl ?_;intro a fr;refine nil_n ?_;refine wp_ret ?_;refine ret1 Try.results8 fr (rv_tmp fr rfl) ?_;exact ⟨rfl, st.agr.below⟩
  · refine enter Try.func8 rfl Try.ntmps8 (by simp) ?_;intro a fr;refine wp_seq ?_;refine reg ?_;refine as_ fr rfl rfl ?_;intro a fr;refine nil_n ?_;refine wp_seq ?_;refine wp_seq ?_;refine reg ?_;refine lst rfl (ow_call fr rfl rfl Try.call12 (live_calls _) rfl rfl ?_);rintro e w ⟨rfl, hag⟩;refine ⟨_, rfl, ?_⟩;intro a fr;have st := st.keep hag;clear hag;refine lst rfl (ow_v fr (rn_not (fr.ev rfl)) rfl rfl ?_);intro a fr;refine nil_n ?_;refine cond_f fr rfl rfl ?_;refine wp_skip ?_;refine then_n ?_;refine wp_seq ?_;refine wp_seq ?_;refine reg ?_;refine mv fr rfl rfl ?_;intro a fr;refine lst rfl (ow_call fr rfl rfl Try.call17 (check_calls l0 LA lc hl (fun c hc => Nat.le_trans (hstr c hc) (by decide)) _ (st.get 0 rfl).1) rfl rfl ?_);rintro e w ⟨rfl, hag⟩;refine ⟨_, rfl, ?_⟩;intro a fr;have st := st.keep hag;clear hag;refine lst rfl (ow_v fr (rn_as (v' := .bool true) (rn_neq (fr.ev rfl) (fr.ev rfl)) (congrArg Value.bool (by simpa using hc0))) rfl rfl ?_);intro a fr;refine nil_n ?_;refine cond_t fr rfl rfl ?_;refine wp_seq ?_;refine reg ?_;refine as_ fr rfl rfl ?_;intro a fr;refine nil_n ?_;refine wp_ret ?_;refine then_r ?_;refine ret1 Try.results8 fr (rv_tmp fr rfl) ?_;exact ⟨rfl, st.agr.below⟩

end Go.Proofs.Ytccagiflocnioaa.C24
