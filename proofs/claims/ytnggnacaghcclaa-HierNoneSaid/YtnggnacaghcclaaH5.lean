import Derived.Test.YtnggnacaghcclaaH4
import Derived.Test.YtnggnacaghcclaaLibX
set_option linter.unusedVariables false
set_option linter.unusedSimpArgs false
namespace Go.Proofs.Ytnggnacaghcclaa.H5
open Go.RowKit Go.Proofs.Ytnggnacaghcclaa.LibA Go.Proofs.Ytnggnacaghcclaa.LibC Go.Proofs.Ytnggnacaghcclaa.LibS Go.Proofs.Ytnggnacaghcclaa.LibR Go.Proofs.Ytnggnacaghcclaa.LibT Go.Proofs.Ytnggnacaghcclaa.LibU Go.Proofs.Ytnggnacaghcclaa.LibV Go.Proofs.Ytnggnacaghcclaa.LibW Go.Proofs.Ytnggnacaghcclaa.LibX Go.Proofs.Ytnggnacaghcclaa.H1 Go.Proofs.Ytnggnacaghcclaa.H2 Go.Proofs.Ytnggnacaghcclaa.H3
def rI (g : Nat) (A1 A2 : Option Addr) (c1 c2 : Nat) (ns : List ByteArray) (ss : List Int) : List It := [ro g 0 [.slice A1 ns.length c1, .slice A2 ss.length c2], els CS 1 A1 ns, els CI 1 A2 ss]
def RMade (l : List LineD) (w : World) (e : Ending) (w' : World) : Prop :=
  (64 < l.length ∧ e = .returned (.tuple #[.pointer none, .int .i64 3]) ∧ Agr [] w w') ∨
  (l.length ≤ 64 ∧ Dup l ∧ e = .returned (.tuple #[.pointer none, .int .i64 70]) ∧ Agr [] w w') ∨
  (l.length ≤ 64 ∧ ¬ Dup l ∧ Miss l ∧ e = .returned (.tuple #[.pointer none, .int .i64 71]) ∧ Agr [] w w') ∨
  (l.length ≤ 64 ∧ ¬ Dup l ∧ ¬ Miss l ∧ Cyc l ∧ e = .returned (.tuple #[.pointer none, .int .i64 72]) ∧ Agr [] w w') ∨
  (l.length ≤ 64 ∧ ¬ Dup l ∧ ¬ Miss l ∧ ¬ Cyc l ∧ ∃ g A1 A2 c1 c2, e = .returned (.tuple #[.pointer (some ⟨g, 0, none⟩), .int .i64 0]) ∧ St w [] w' (rI g A1 A2 c1 c2 (nm l l.length) (sl l l.length)) ∧ (w.heap.size ≤ g ∧ (∀ a, A1 = some a → w.heap.size ≤ a.block) ∧ (∀ a, A2 = some a → w.heap.size ≤ a.block)))
def findR (ns : List ByteArray) (x : ByteArray) : Int := match lkp (mL ns) x with
  | some v => ((v : Nat) : Int)
  | none => -1

theorem fa_62_0 {ρ : Operand → Value} {w : World} {dst : Option Tmp} {ty : TypeId} {pos : String} {aft : Array Edge} {gd : Option (Nat × Bool)} {x : Operand} {b o : Nat} (hx : ρ x = .pointer (some ⟨b, o, none⟩)) : (execOp ρ ⟨dst, .fieldAddr 62 x 0, ty, pos, aft, gd⟩).run Try.prog w = .ok (.value (.pointer (some ⟨b, o + 0, none⟩))) w := rn_field hx Try.underlying62 rfl (by kernel_rfl) rfl
theorem fa_62_1 {ρ : Operand → Value} {w : World} {dst : Option Tmp} {ty : TypeId} {pos : String} {aft : Array Edge} {gd : Option (Nat × Bool)} {x : Operand} {b o : Nat} (hx : ρ x = .pointer (some ⟨b, o, none⟩)) : (execOp ρ ⟨dst, .fieldAddr 62 x 1, ty, pos, aft, gd⟩).run Try.prog w = .ok (.value (.pointer (some ⟨b, o + 1, none⟩))) w := rn_field hx Try.underlying62 rfl (by kernel_rfl) rfl
theorem built_calls (w0 : World) : Calls Try.prog 28 #[] w0 fun e w' => ∃ b, e = .returned (.slice (some ⟨b, 0, none⟩) 8 8) ∧ Row CS 1 9 w0.heap.size (.slice (some ⟨b, 0, none⟩) 8 8) bI w' ∧ Agr [] w0 w' := by
  have st := St.start w0 []
  refine enter Try.func28 rfl Try.ntmps28 (by simp) ?_
  intro a fr
  refine wp_seq ?_
  refine reg ?_
  refine lst rfl (ow_v fr (rn_assign (fr.ev rfl)) rfl rfl ?_)
  intro a fr
  refine wpList_nil ?_
  refine then_n ?_
  refine wp_seq ?_
  refine reg ?_
  refine lst rfl (ow_bslice (E := 9) fr st rfl [(.string { data := #[106, 97, 118, 97, 47, 108, 97, 110, 103, 47, 79, 98, 106, 101, 99, 116] }), (.string { data := #[106, 97, 118, 97, 47, 108, 97, 110, 103, 47, 84, 104, 114, 111, 119, 97, 98, 108, 101] }), (.string { data := #[106, 97, 118, 97, 47, 108, 97, 110, 103, 47, 65, 114, 105, 116, 104, 109, 101, 116, 105, 99, 69, 120, 99, 101, 112, 116, 105, 111, 110] }), (.string { data := #[106, 97, 118, 97, 47, 108, 97, 110, 103, 47, 78, 117, 108, 108, 80, 111, 105, 110, 116, 101, 114, 69, 120, 99, 101, 112, 116, 105, 111, 110] }), (.string { data := #[106, 97, 118, 97, 47, 108, 97, 110, 103, 47, 65, 114, 114, 97, 121, 73, 110, 100, 101, 120, 79, 117, 116, 79, 102, 66, 111, 117, 110, 100, 115, 69, 120, 99, 101, 112, 116, 105, 111, 110] }), (.string { data := #[106, 97, 118, 97, 47, 108, 97, 110, 103, 47, 78, 101, 103, 97, 116, 105, 118, 101, 65, 114, 114, 97, 121, 83, 105, 122, 101, 69, 120, 99, 101, 112, 116, 105, 111, 110] }), (.string { data := #[106, 97, 118, 97, 47, 108, 97, 110, 103, 47, 67, 108, 97, 115, 115, 67, 97, 115, 116, 69, 120, 99, 101, 112, 116, 105, 111, 110] }), (.string { data := #[106, 97, 118, 97, 47, 108, 97, 110, 103, 47, 65, 114, 114, 97, 121, 83, 116, 111, 114, 101, 69, 120, 99, 101, 112, 116, 105, 111, 110] })] (fun w => by simp only [List.map_toArray, List.map_cons, List.map_nil]; kernel_rfl) rfl rfl ?_)
  intro a w b1 fr st
  refine lst rfl (ow_v fr (rn_assign (fr.ev rfl)) rfl rfl ?_)
  intro a fr
  refine wpList_nil ?_
  refine then_n ?_
  refine wp_ret ?_
  refine ret1 Try.results28 fr (rv_tmp fr rfl) ?_
  exact ⟨b1, rfl, row_of_blk (C := CS) CS_len (st.get 0 rfl) (by rfl) (by rfl) (by decide) ((st.get 0 rfl).1.resolve_right (by simp)), st.agr⟩

theorem rfind_calls (ns : List ByteArray) (x : ByteArray) (A : Option Addr) (c : Nat) (hns : ns.length ≤ 1000000) (w0 : World) (ha : Els CS 1 w0 A ns) : Calls Try.prog 29 #[.slice A ns.length c, .string x] w0 fun e w' => e = .returned (.int .i64 (findR ns x)) ∧ Agr [] w0 w' := by
  have st : St w0 [] w0 [els CS 1 A ns] := (add_ro (start0 w0 []) (by simp [els, It.wr]) rfl (els_ok (C := CS) (sz := 1) (by decide) (fun x => rfl) ha))
  clear ha
  refine enter Try.func29 rfl Try.ntmps29 (by simp) ?_
  intro a fr
  refine wp_seq ?_
  refine reg ?_
  refine lst rfl (ow_v fr (rn_assign (fr.ev rfl)) rfl rfl ?_)
  intro a fr
  refine wpList_nil ?_
  refine then_n ?_
  refine wp_seq ?_
  refine wp_seq ?_
  refine reg ?_
  refine lst rfl (ow_v fr (rn_assign (fr.ev rfl)) rfl rfl ?_)
  intro a fr
  refine wpList_nil ?_
  refine then_n ?_
  refine wp_block ?_
  refine wp_loop_ghost (fun mz a w => ∃ (k : Nat), (k ≤ ns.length) ∧ (∀ j : Nat, j < k → ns[j]? ≠ some x) ∧ mz = ns.length - k ∧ FrL 19 a [(0, .slice A ns.length c), (1, (.string x)), (5, .int .i64 ((k : Nat)))] ∧ St w0 [] w [els CS 1 A ns]) _ ⟨0, (Nat.zero_le _), (fun j h => absurd h (Nat.not_lt_zero _)), rfl, fr.prune ⟨rfl, rfl, rfl, trivial⟩, st⟩ ?_
  clear fr st
  intro mz a w hI
  obtain ⟨k, hk, hno, hmz, fr, st⟩ := hI
  by_cases hlt : k < ns.length
  · obtain ⟨b1, o2, eA, st_⟩ := st.elem 0 rfl k hlt (by simp [CS])
    have fr_ := fr
    cases eA
    have st := st_
    have fr := fr_
    clear st_ fr_
    obtain ⟨y, hx_ns_y⟩ : ∃ y, ns[k] = y := ⟨_, rfl⟩
    rw [hx_ns_y] at st
    replace st : St _ [] w [ro b1 (o2 + k * 1) [(.string y)], els CS 1 (some ⟨b1, o2, none⟩) ns] := st
    have hk3 : ns[k]? = some y := by rw [List.getElem?_eq_getElem hlt, hx_ns_y]
    by_cases hyx : y = x
    · have hres : findR ns x = ((k : Nat) : Int) := by unfold findR mL; rw [lkp_some ns 0 k (by rw [hk3, hyx]) hno, Nat.zero_add]
      refine wp_seq ?_
      refine wp_seq ?_
      refine reg ?_
      refine lst rfl (ow_v fr (rn_move (fr.ev rfl)) rfl rfl ?_)
      intro a fr
      refine lst rfl (ow_v fr (rn_move (fr.ev rfl)) rfl rfl ?_)
      intro a fr
      refine lst rfl (ow_v fr (rn_len (fr.ev rfl) Try.underlying45) rfl rfl ?_)
      intro a fr
      refine lst rfl (ow_v fr (rn_as (v' := .bool true) (rn_lss (fr.ev rfl) (fr.ev rfl)) (congrArg Value.bool (decide_eq_true (by omega)))) rfl rfl ?_)
      intro a fr
      refine wpList_nil ?_
      refine then_n ?_
      refine cond_t fr rfl rfl ?_
      refine wp_skip ?_
      refine then_n ?_
      refine wp_seq ?_
      refine wp_block ?_
      refine wp_seq ?_
      refine reg ?_
      refine lst rfl (ow_v fr (rn_move (fr.ev rfl)) rfl rfl ?_)
      intro a fr
      refine lst rfl (ow_v fr (rn_move (fr.ev rfl)) rfl rfl ?_)
      intro a fr
      refine lst rfl (ow_v fr (rn_at (i := k) (fr.ev rfl) (fr.ev rfl) Try.underlying45 sz_9 (by omega) (by rfl)) rfl rfl ?_)
      intro a fr
      refine lst rfl (ow_v fr (rn_load (fr.ev rfl) Try.underlying9 rfl (st.rocell 0 rfl (j := 0) rfl)) rfl rfl ?_)
      intro a fr
      refine lst rfl (ow_v fr (rn_move (fr.ev rfl)) rfl rfl ?_)
      intro a fr
      refine lst rfl (ow_v fr (rn_as (v' := .bool true) (rn_eqs Try.underlying9 (fr.ev rfl) (fr.ev rfl)) (congrArg Value.bool ((bytes_beq y x).2 hyx))) rfl rfl ?_)
      intro a fr
      refine wpList_nil ?_
      refine then_n ?_
      refine cond_t fr rfl rfl ?_
      refine wp_seq ?_
      refine reg ?_
      refine lst rfl (ow_v fr (rn_move (fr.ev rfl)) rfl rfl ?_)
      intro a fr
      refine lst rfl (ow_v fr (rn_assign (fr.ev rfl)) rfl rfl ?_)
      intro a fr
      refine wpList_nil ?_
      refine then_n ?_
      refine wp_ret ?_
      refine blk_r ?_
      refine then_r ?_
      refine then_r ?_
      refine blk_r ?_
      refine then_r ?_
      refine ret1 Try.results29 fr (rv_tmp fr rfl) ?_
      exact ⟨by rw [hres], st.agr⟩
    · refine wp_seq ?_
      refine wp_seq ?_
      refine reg ?_
      refine lst rfl (ow_v fr (rn_move (fr.ev rfl)) rfl rfl ?_)
      intro a fr
      refine lst rfl (ow_v fr (rn_move (fr.ev rfl)) rfl rfl ?_)
      intro a fr
      refine lst rfl (ow_v fr (rn_len (fr.ev rfl) Try.underlying45) rfl rfl ?_)
      intro a fr
      refine lst rfl (ow_v fr (rn_as (v' := .bool true) (rn_lss (fr.ev rfl) (fr.ev rfl)) (congrArg Value.bool (decide_eq_true (by omega)))) rfl rfl ?_)
      intro a fr
      refine wpList_nil ?_
      refine then_n ?_
      refine cond_t fr rfl rfl ?_
      refine wp_skip ?_
      refine then_n ?_
      refine wp_seq ?_
      refine wp_block ?_
      refine wp_seq ?_
      refine reg ?_
      refine lst rfl (ow_v fr (rn_move (fr.ev rfl)) rfl rfl ?_)
      intro a fr
      refine lst rfl (ow_v fr (rn_move (fr.ev rfl)) rfl rfl ?_)
      intro a fr
      refine lst rfl (ow_v fr (rn_at (i := k) (fr.ev rfl) (fr.ev rfl) Try.underlying45 sz_9 (by omega) (by rfl)) rfl rfl ?_)
      intro a fr
      refine lst rfl (ow_v fr (rn_load (fr.ev rfl) Try.underlying9 rfl (st.rocell 0 rfl (j := 0) rfl)) rfl rfl ?_)
      intro a fr
      refine lst rfl (ow_v fr (rn_move (fr.ev rfl)) rfl rfl ?_)
      intro a fr
      refine lst rfl (ow_v fr (rn_as (v' := .bool false) (rn_eqs Try.underlying9 (fr.ev rfl) (fr.ev rfl)) (congrArg Value.bool (Bool.eq_false_iff.2 (fun h => hyx ((bytes_beq y x).1 h))))) rfl rfl ?_)
      intro a fr
      refine wpList_nil ?_
      refine then_n ?_
      refine cond_f fr rfl rfl ?_
      refine wp_skip ?_
      refine blk_n ?_
      refine then_n ?_
      refine reg ?_
      refine lst rfl (ow_v fr (rn_move (fr.ev rfl)) rfl rfl ?_)
      intro a fr
      refine lst rfl (ow_v fr (rn_add (c := ((k + 1 : Nat) : Int)) (fr.ev rfl) (fr.ev rfl) (wr_i64e (by omega) (by omega) (by omega))) rfl rfl ?_)
      intro a fr
      refine lst rfl (ow_v fr (rn_assign (fr.ev rfl)) rfl rfl ?_)
      intro a fr
      refine wpList_nil ?_
      refine then_n ⟨ns.length - (k + 1), ?_, k + 1, (by omega), (fun j hj => by rcases (by omega : j < k ∨ j = k) with h | rfl; exact hno j h; (rw [hk3]; intro h; cases h; exact hyx rfl)), rfl, fr.prune ⟨rfl, rfl, rfl, trivial⟩, st.sub (.cons _ (.cons_cons _ .slnil))⟩
      omega
  · have hres : findR ns x = -1 := by unfold findR mL; rw [lkp_none ns 0 (fun j => ?_)]; rcases Nat.lt_or_ge j ns.length with h | h; exact hno j (by omega); (rw [List.getElem?_eq_none h]; simp)
    refine wp_seq ?_
    refine wp_seq ?_
    refine reg ?_
    refine lst rfl (ow_v fr (rn_move (fr.ev rfl)) rfl rfl ?_)
    intro a fr
    refine lst rfl (ow_v fr (rn_move (fr.ev rfl)) rfl rfl ?_)
    intro a fr
    refine lst rfl (ow_v fr (rn_len (fr.ev rfl) Try.underlying45) rfl rfl ?_)
    intro a fr
    refine lst rfl (ow_v fr (rn_as (v' := .bool false) (rn_lss (fr.ev rfl) (fr.ev rfl)) (congrArg Value.bool (decide_eq_false (by omega)))) rfl rfl ?_)
    intro a fr
    refine wpList_nil ?_
    refine then_n ?_
    refine cond_f fr rfl rfl ?_
    refine wp_exit ?_
    refine then_x ?_
    refine then_x ?_
    refine blk_x ?_
    refine then_n ?_
    refine wp_seq ?_
    refine reg ?_
    refine lst rfl (ow_v fr (rn_assign (fr.ev rfl)) rfl rfl ?_)
    intro a fr
    refine wpList_nil ?_
    refine then_n ?_
    refine wp_ret ?_
    refine ret1 Try.results29 fr (rv_tmp fr rfl) ?_
    exact ⟨by rw [hres], st.agr⟩

theorem rfind_t (ns : List ByteArray) (x : ByteArray) (A : Option Addr) (c : Nat) (hns : ns.length ≤ 1000000) {v : Nat} (h : lkp (mL ns) x = some v) (w0 : World) (ha : Els CS 1 w0 A ns) : Calls Try.prog 29 #[.slice A ns.length c, .string x] w0 fun e w' => e = .returned (.int .i64 ((v : Nat) : Int)) ∧ Agr [] w0 w' :=
  (rfind_calls ns x A c hns w0 ha).mono fun e w' ⟨h1, h2⟩ => ⟨by rw [h1]; unfold findR; rw [h], h2⟩

theorem rfind_f (ns : List ByteArray) (x : ByteArray) (A : Option Addr) (c : Nat) (hns : ns.length ≤ 1000000) (h : lkp (mL ns) x = none) (w0 : World) (ha : Els CS 1 w0 A ns) : Calls Try.prog 29 #[.slice A ns.length c, .string x] w0 fun e w' => e = .returned (.int .i64 (-1)) ∧ Agr [] w0 w' :=
  (rfind_calls ns x A c hns w0 ha).mono fun e w' ⟨h1, h2⟩ => ⟨by rw [h1]; unfold findR; rw [h], h2⟩

set_option maxHeartbeats 2000000 in
theorem rnew_calls (l : List LineD) (LA : Option Addr) (lc : Nat) (hl : l.length ≤ 9223372036854775807) (w0 : World) (ha : Els lineC 2 w0 LA l) : Calls Try.prog 14 #[.slice LA l.length lc] w0 (RMade l w0) := by
  have st : St w0 [] w0 [els lineC 2 LA l] := (add_ro (start0 w0 []) (by simp [els, It.wr]) rfl (els_ok (C := lineC) (sz := 2) (by decide) (fun x => rfl) ha))
  clear ha
  by_cases hlen : 64 < l.length
  · refine enter Try.func14 rfl Try.ntmps14 (by simp) ?_
    intro a fr
    refine wp_seq ?_
    refine reg ?_
    refine lst rfl (ow_v fr (rn_assign (fr.ev rfl)) rfl rfl ?_)
    intro a fr
    refine lst rfl (ow_v fr (rn_assign (fr.ev rfl)) rfl rfl ?_)
    intro a fr
    refine wpList_nil ?_
    refine then_n ?_
    refine wp_seq ?_
    refine wp_seq ?_
    refine reg ?_
    refine lst rfl (ow_v fr (rn_move (fr.ev rfl)) rfl rfl ?_)
    intro a fr
    refine lst rfl (ow_v fr (rn_len (fr.ev rfl) Try.underlying22) rfl rfl ?_)
    intro a fr
    refine lst rfl (ow_v fr (rn_as (v' := .bool true) (rn_gtr (fr.ev rfl) (fr.ev rfl)) (congrArg Value.bool (decide_eq_true (by omega)))) rfl rfl ?_)
    intro a fr
    refine wpList_nil ?_
    refine then_n ?_
    refine cond_t fr rfl rfl ?_
    refine wp_seq ?_
    refine reg ?_
    refine lst rfl (ow_v fr (rn_assign (fr.ev rfl)) rfl rfl ?_)
    intro a fr
    refine lst rfl (ow_v fr (rn_assign (fr.ev rfl)) rfl rfl ?_)
    intro a fr
    refine wpList_nil ?_
    refine then_n ?_
    refine wp_ret ?_
    refine then_r ?_
    refine ret2 Try.results14 fr (rv_tmp fr rfl) (rv_tmp fr rfl) ?_
    exact .inl ⟨hlen, rfl, st.agr⟩
  · refine enter Try.func14 rfl Try.ntmps14 (by simp) ?_
    intro a fr
    refine wp_seq ?_
    refine reg ?_
    refine lst rfl (ow_v fr (rn_assign (fr.ev rfl)) rfl rfl ?_)
    intro a fr
    refine lst rfl (ow_v fr (rn_assign (fr.ev rfl)) rfl rfl ?_)
    intro a fr
    refine wpList_nil ?_
    refine then_n ?_
    refine wp_seq ?_
    refine wp_seq ?_
    refine reg ?_
    refine lst rfl (ow_v fr (rn_move (fr.ev rfl)) rfl rfl ?_)
    intro a fr
    refine lst rfl (ow_v fr (rn_len (fr.ev rfl) Try.underlying22) rfl rfl ?_)
    intro a fr
    refine lst rfl (ow_v fr (rn_as (v' := .bool false) (rn_gtr (fr.ev rfl) (fr.ev rfl)) (congrArg Value.bool (decide_eq_false (by omega)))) rfl rfl ?_)
    intro a fr
    refine wpList_nil ?_
    refine then_n ?_
    refine cond_f fr rfl rfl ?_
    refine wp_skip ?_
    refine then_n ?_
    refine wp_seq ?_
    refine reg ?_
    refine lst rfl (ow_call fr rfl rfl Try.call28 (built_calls _) rfl rfl ?_)
    rintro e w ⟨b1, rfl, hr, hag⟩
    refine ⟨_, rfl, ?_⟩
    intro a fr
    have st := st.call_row hag hr
    clear hag hr
    refine lst rfl (ow_bslice (E := 3) fr st rfl [.int .i64 (-1), .int .i64 0, .int .i64 1, .int .i64 1, .int .i64 1, .int .i64 1, .int .i64 1, .int .i64 1] (fun w => by simp only [List.map_toArray, List.map_cons, List.map_nil]; kernel_rfl) rfl rfl ?_)
    intro a w b2 fr st
    refine lst rfl (ow_v fr (rn_build (cells := #[.slice (some ⟨b1, 0, none⟩) 8 8, .slice (some ⟨b2, 0, none⟩) 8 8]) (by simp only [List.map_toArray, List.map_cons, List.map_nil]; rw [fr.ev (x := .tmp 14) rfl, fr.ev (x := .tmp 15) rfl]; rfl)) rfl rfl ?_)
    intro a fr
    refine lst rfl (ow_box fr st rfl rfl rfl rfl ([.slice (some ⟨b1, 0, none⟩) 8 8, .slice (some ⟨b2, 0, none⟩) 8 8]) (by rfl) ?_)
    intro a w b3 fr st
    refine lst rfl (ow_v fr (rn_assign (fr.ev rfl)) rfl rfl ?_)
    intro a fr
    refine wpList_nil ?_
    refine then_n ?_
    refine wp_seq ?_
    refine wp_seq ?_
    have st := st.weaken 1 rfl (it := row CI 1 3 w0.heap.size (.slice (some ⟨b2, 0, none⟩) 8 8) bS) (fun _ => rfl) (fun b hb => by simpa [row, It.fp, Value.ownBlock] using hb) (row_ok (row_of_blk (C := CI) CI_len (st.get 1 rfl) (by rfl) (by rfl) (by decide) ((st.get 1 rfl).1.resolve_right (by simp))) (Nat.le_refl _))
    replace st : St _ [] w [.blk b3 [.slice (some ⟨b1, 0, none⟩) 8 8, .slice (some ⟨b2, 0, none⟩) 8 8] 62, row CI 1 3 w0.heap.size (.slice (some ⟨b2, 0, none⟩) 8 8) bS, row CS 1 9 w0.heap.size (.slice (some ⟨b1, 0, none⟩) 8 8) bI, els lineC 2 LA l] := st
    refine reg ?_
    refine lst rfl (ow_v fr (rn_assign (fr.ev rfl)) rfl rfl ?_)
    intro a fr
    refine wpList_nil ?_
    refine then_n ?_
    refine wp_block ?_
    refine wp_loop_ghost (fun mz a w => ∃ (k : Nat) (A : Option Addr) (c : Nat), (k ≤ l.length) ∧ (∀ (j : Nat) (x : LineD), j < k → l[j]? = some x → lkp (mL (nm l j)) x.1 = none) ∧ mz = l.length - k ∧ FrL 106 a [(0, .slice LA l.length lc), (4, .pointer (some ⟨b3, 0, none⟩)), (5, .int .i64 ((k : Nat)))] ∧ St w0 [] w [.blk b3 [.slice A ((nm l k).length) c, .slice (some ⟨b2, 0, none⟩) 8 8] 62, row CI 1 3 w0.heap.size (.slice (some ⟨b2, 0, none⟩) 8 8) bS, row CS 1 9 w0.heap.size (.slice A ((nm l k).length) c) ((nm l k)), els lineC 2 LA l]) _ ⟨0, some ⟨b1, 0, none⟩, 8, (Nat.zero_le _), (fun j x h => absurd h (Nat.not_lt_zero _)), rfl, fr.prune ⟨rfl, rfl, rfl, trivial⟩, st⟩ ?_
    clear fr st
    intro mz a w hI
    obtain ⟨k, A, c, hk, hno, hmz, fr, st⟩ := hI
    have hnl := nm_len l k hk
    by_cases hlt : k < l.length
    · obtain ⟨b4, o5, eA, st_⟩ := st.elem 3 rfl k hlt (by simp [lineC])
      have fr_ := fr
      cases eA
      have st := st_
      have fr := fr_
      clear st_ fr_
      obtain ⟨p, q, hx_l_p⟩ : ∃ p q, l[k] = (p, q) := ⟨_, _, rfl⟩
      rw [hx_l_p] at st
      replace st : St _ [] w [ro b4 (o5 + k * 2) [(.string p), (.string q)], .blk b3 [.slice A ((nm l k).length) c, .slice (some ⟨b2, 0, none⟩) 8 8] 62, row CI 1 3 w0.heap.size (.slice (some ⟨b2, 0, none⟩) 8 8) bS, row CS 1 9 w0.heap.size (.slice A ((nm l k).length) c) ((nm l k)), els lineC 2 (some ⟨b4, o5, none⟩) l] := st
      rcases hlk : lkp (mL (nm l k)) p with _ | v
      · refine wp_seq ?_
        refine wp_seq ?_
        refine reg ?_
        refine lst rfl (ow_v fr (rn_move (fr.ev rfl)) rfl rfl ?_)
        intro a fr
        refine lst rfl (ow_v fr (rn_move (fr.ev rfl)) rfl rfl ?_)
        intro a fr
        refine lst rfl (ow_v fr (rn_len (fr.ev rfl) Try.underlying22) rfl rfl ?_)
        intro a fr
        refine lst rfl (ow_v fr (rn_as (v' := .bool true) (rn_lss (fr.ev rfl) (fr.ev rfl)) (congrArg Value.bool (decide_eq_true (by omega)))) rfl rfl ?_)
        intro a fr
        refine wpList_nil ?_
        refine then_n ?_
        refine cond_t fr rfl rfl ?_
        refine wp_skip ?_
        refine then_n ?_
        refine wp_seq ?_
        refine wp_block ?_
        refine wp_seq ?_
        refine wp_seq ?_
        refine dr_start (by kernel_rfl) st (.cons_cons _ (.cons_cons _ (.cons_cons _ (.cons_cons _ (.cons_cons _ .slnil))))) ?_
        intro w st
        refine dr_take 0 rfl (by kernel_rfl) (by kernel_rfl) (by kernel_rfl) (fun _ _ _ h => h) fr rfl (st.sub (.cons_cons _ (.cons_cons _ (.cons_cons _ (.cons_cons _ (.cons_cons _ .slnil)))))) (fun w st => rn_move (fr.ev rfl)) rfl rfl ?_
        intro a fr
        refine dr_take 1 rfl (by kernel_rfl) (by kernel_rfl) (by kernel_rfl) (fun _ _ _ h => h) fr rfl (st.sub (.cons_cons _ (.cons_cons _ (.cons_cons _ (.cons_cons _ (.cons_cons _ .slnil)))))) (fun w st => rn_nilCheck (fr.ev rfl)) rfl rfl ?_
        intro a fr
        refine dr_take 2 rfl (by kernel_rfl) (by kernel_rfl) (by kernel_rfl) (fun _ _ _ h => h) fr rfl (st.sub (.cons_cons _ (.cons_cons _ (.cons_cons _ (.cons_cons _ (.cons_cons _ .slnil)))))) (fun w st => fa_62_0 (fr.ev rfl)) rfl rfl ?_
        intro a fr
        refine dr_take 3 rfl (by kernel_rfl) (by kernel_rfl) (by kernel_rfl) (fun _ _ _ h => h) fr rfl (st.sub (.cons_cons _ (.cons_cons _ (.cons_cons _ (.cons_cons _ (.cons_cons _ .slnil)))))) (fun w st => rn_load (fr.ev rfl) Try.underlying45 rfl (st.cell 1 rfl rfl)) rfl rfl ?_
        intro a fr
        refine dr_take 4 rfl (by kernel_rfl) (by kernel_rfl) (by kernel_rfl) (fun _ _ _ h => h) fr rfl (st.sub (.cons_cons _ (.cons_cons _ (.cons_cons _ (.cons_cons _ (.cons_cons _ .slnil)))))) (fun w st => rn_move (fr.ev rfl)) rfl rfl ?_
        intro a fr
        refine dr_take 5 rfl (by kernel_rfl) (by kernel_rfl) (by kernel_rfl) (fun _ _ _ h => h) fr rfl (st.sub (.cons_cons _ (.cons_cons _ (.cons_cons _ (.cons_cons _ (.cons_cons _ .slnil)))))) (fun w st => rn_move (fr.ev rfl)) rfl rfl ?_
        intro a fr
        refine dr_take 6 rfl (by kernel_rfl) (by kernel_rfl) (by kernel_rfl) (fun _ _ _ h => h) fr rfl (st.sub (.cons_cons _ (.cons_cons _ (.cons_cons _ (.cons_cons _ (.cons_cons _ .slnil)))))) (fun w st => rn_at (i := k) (fr.ev rfl) (fr.ev rfl) Try.underlying22 sz_56 (by omega) (by rfl)) rfl rfl ?_
        intro a fr
        refine dr_take 7 rfl (by kernel_rfl) (by kernel_rfl) (by kernel_rfl) (fun _ _ _ h => h) fr rfl (st.sub (.cons_cons _ (.cons_cons _ (.cons_cons _ (.cons_cons _ (.cons_cons _ .slnil)))))) (fun w st => fa_56_0 (fr.ev rfl)) rfl rfl ?_
        intro a fr
        refine dr_take 8 rfl (by kernel_rfl) (by kernel_rfl) (by kernel_rfl) (fun _ _ _ h => h) fr rfl (st.sub (.cons_cons _ (.cons_cons _ (.cons_cons _ (.cons_cons _ (.cons_cons _ .slnil)))))) (fun w st => rn_load (fr.ev rfl) Try.underlying9 rfl (st.rocell 0 rfl (j := 0) rfl)) rfl rfl ?_
        intro a fr
        refine dr_one 9 (by kernel_rfl) rfl rfl (ow_call fr rfl rfl Try.call29 (rfind_f (nm l k) p _ _ (by omega) hlk _ (row_els CS_len (st.get 3 rfl).1)) rfl rfl ?_)
        rintro e w ⟨rfl, hag⟩
        refine ⟨_, rfl, ?_⟩
        intro a fr
        have st := st.keep hag
        clear hag
        refine ⟨st.sub (.cons_cons _ (.cons_cons _ (.cons_cons _ (.cons_cons _ (.cons_cons _ .slnil))))), ?_⟩
        refine dr_take 10 rfl (by kernel_rfl) (by kernel_rfl) (by kernel_rfl) (fun _ _ _ h => h) fr rfl (st.sub (.cons_cons _ (.cons_cons _ (.cons_cons _ (.cons_cons _ (.cons_cons _ .slnil)))))) (fun w st => rn_as (rn_geq (fr.ev rfl) (fr.ev rfl)) (by rfl)) rfl rfl ?_
        intro a fr
        refine dr_done (by kernel_rfl) ?_
        refine then_n ?_
        refine cond_f fr rfl rfl ?_
        refine wp_skip ?_
        refine then_n ?_
        refine dr_start (by kernel_rfl) st (.cons_cons _ (.cons _ (.cons_cons _ (.cons _ (.cons_cons _ .slnil))))) ?_
        intro w st
        refine dr_take 0 rfl (by kernel_rfl) (by kernel_rfl) (by kernel_rfl) (fun _ _ _ h => h) fr rfl (st.sub (.cons_cons _ (.cons _ (.cons_cons _ (.cons _ (.cons_cons _ .slnil)))))) (fun w st => rn_move (fr.ev rfl)) rfl rfl ?_
        intro a fr
        refine dr_take 1 rfl (by kernel_rfl) (by kernel_rfl) (by kernel_rfl) (fun _ _ _ h => h) fr rfl (st.sub (.cons_cons _ (.cons _ (.cons_cons _ (.cons _ (.cons_cons _ .slnil)))))) (fun w st => rn_move (fr.ev rfl)) rfl rfl ?_
        intro a fr
        refine dr_take 2 rfl (by kernel_rfl) (by kernel_rfl) (by kernel_rfl) (fun _ _ _ h => h) fr rfl (st.sub (.cons_cons _ (.cons _ (.cons_cons _ (.cons _ (.cons_cons _ .slnil)))))) (fun w st => rn_nilCheck (fr.ev rfl)) rfl rfl ?_
        intro a fr
        refine dr_take 3 rfl (by kernel_rfl) (by kernel_rfl) (by kernel_rfl) (fun _ _ _ h => h) fr rfl (st.sub (.cons_cons _ (.cons _ (.cons_cons _ (.cons _ (.cons_cons _ .slnil)))))) (fun w st => fa_62_0 (fr.ev rfl)) rfl rfl ?_
        intro a fr
        refine dr_take 5 rfl (by kernel_rfl) (by kernel_rfl) (by kernel_rfl) (fun _ _ _ h => h) fr rfl (st.sub (.cons_cons _ (.cons _ (.cons_cons _ (.cons _ (.cons_cons _ .slnil)))))) (fun w st => rn_move (fr.ev rfl)) rfl rfl ?_
        intro a fr
        refine dr_take 6 rfl (by kernel_rfl) (by kernel_rfl) (by kernel_rfl) (fun _ _ _ h => h) fr rfl (st.sub (.cons_cons _ (.cons _ (.cons_cons _ (.cons _ (.cons_cons _ .slnil)))))) (fun w st => rn_move (fr.ev rfl)) rfl rfl ?_
        intro a fr
        refine dr_take 7 rfl (by kernel_rfl) (by kernel_rfl) (by kernel_rfl) (fun _ _ _ h => h) fr rfl (st.sub (.cons_cons _ (.cons _ (.cons_cons _ (.cons _ (.cons_cons _ .slnil)))))) (fun w st => rn_at (i := k) (fr.ev rfl) (fr.ev rfl) Try.underlying22 sz_56 (by omega) (by rfl)) rfl rfl ?_
        intro a fr
        refine dr_take 8 rfl (by kernel_rfl) (by kernel_rfl) (by kernel_rfl) (fun _ _ _ h => h) fr rfl (st.sub (.cons_cons _ (.cons _ (.cons_cons _ (.cons _ (.cons_cons _ .slnil)))))) (fun w st => fa_56_0 (fr.ev rfl)) rfl rfl ?_
        intro a fr
        refine dr_take 9 rfl (by kernel_rfl) (by kernel_rfl) (by kernel_rfl) (fun _ _ _ h => h) fr rfl (st.sub (.cons_cons _ (.cons _ (.cons_cons _ (.cons _ (.cons_cons _ .slnil)))))) (fun w st => rn_load (fr.ev rfl) Try.underlying9 rfl (st.rocell 0 rfl (j := 0) rfl)) rfl rfl ?_
        intro a fr
        refine dr_two 4 10 (by kernel_rfl) rfl rfl rfl rfl ?_ ?_
        · refine ow_v fr (rn_load (fr.ev rfl) Try.underlying45 rfl (st.cell 1 rfl rfl)) rfl rfl ?_
          intro a fr
          refine ⟨st.sub (.cons_cons _ (.cons _ (.cons_cons _ (.cons _ (.cons_cons _ .slnil))))), ?_⟩
          refine dr_one 10 (by kernel_rfl) rfl rfl (ow_bslice (E := 9) fr st rfl [(.string p)] (fun w => by simp only [List.map_toArray, List.map_cons, List.map_nil]; rw [fr.ev (x := .tmp 44) rfl]; kernel_rfl) rfl rfl ?_)
          intro a w b6 fr st
          refine ⟨st.sub (.cons _ (.cons_cons _ (.cons _ (.cons_cons _ (.cons _ (.cons_cons _ .slnil)))))), ?_⟩
          refine dr_one 11 (by kernel_rfl) rfl rfl (ow_append1 fr st 4 0 p rfl rfl rfl rfl rfl Try.underlying45 inf_9 (by rfl) (by decide) (fun _ => rfl) rfl (by (simp [bI_len, nm_len l k (by omega)]; omega)) (by unfold maxLen; (simp [bI_len, nm_len l k (by omega)]; omega)) (Nat.le_refl _) st.agr.size rfl rfl ?_)
          intro a w A7 c8 fr (st : St _ [] w [.blk b6 [(.string p)] 9, ro b4 (o5 + k * 2) [(.string p), (.string q)], .blk b3 [.slice A ((nm l k).length) c, .slice (some ⟨b2, 0, none⟩) 8 8] 62, row CI 1 3 w0.heap.size (.slice (some ⟨b2, 0, none⟩) 8 8) bS, row CS 1 9 w0.heap.size (.slice A7 (((nm l k) ++ [p]).length) c8) (((nm l k) ++ [p])), els lineC 2 (some ⟨b4, o5, none⟩) l])
          refine ⟨st.sub (.cons _ (.cons_cons _ (.cons _ (.cons_cons _ (.cons _ (.cons_cons _ .slnil)))))), ?_⟩
          refine dr_take 12 rfl (by kernel_rfl) (by kernel_rfl) (by kernel_rfl) (fun _ _ _ h => h) fr rfl (st.sub (.cons _ (.cons_cons _ (.cons _ (.cons_cons _ (.cons _ (.cons_cons _ .slnil))))))) (fun w st => rn_nilCheck (fr.ev rfl)) rfl rfl ?_
          intro a fr
          refine dr_take 13 rfl (by kernel_rfl) (by kernel_rfl) (by kernel_rfl) (fun _ _ _ h => h) fr rfl (st.sub (.cons _ (.cons_cons _ (.cons _ (.cons_cons _ (.cons _ (.cons_cons _ .slnil))))))) (fun w st => fa_62_0 (fr.ev rfl)) rfl rfl ?_
          intro a fr
          refine dr_one 14 (by kernel_rfl) rfl rfl (ow_st fr st 2 rfl rfl rfl rfl sz_45 rfl rfl rfl ?_)
          intro w (st : St _ [] w [.blk b6 [(.string p)] 9, ro b4 (o5 + k * 2) [(.string p), (.string q)], .blk b3 [.slice A7 (((nm l k) ++ [p]).length) c8, .slice (some ⟨b2, 0, none⟩) 8 8] 62, row CI 1 3 w0.heap.size (.slice (some ⟨b2, 0, none⟩) 8 8) bS, row CS 1 9 w0.heap.size (.slice A7 (((nm l k) ++ [p]).length) c8) (((nm l k) ++ [p])), els lineC 2 (some ⟨b4, o5, none⟩) l])
          refine ⟨st.sub (.cons _ (.cons_cons _ (.cons _ (.cons_cons _ (.cons _ (.cons_cons _ .slnil)))))), ?_⟩
          refine dr_done (by kernel_rfl) ?_
          refine blk_n ?_
          refine then_n ?_
          refine reg ?_
          refine lst rfl (ow_v fr (rn_move (fr.ev rfl)) rfl rfl ?_)
          intro a fr
          refine lst rfl (ow_v fr (rn_add (c := ((k + 1 : Nat) : Int)) (fr.ev rfl) (fr.ev rfl) (wr_i64e (by omega) (by omega) (by omega))) rfl rfl ?_)
          intro a fr
          refine lst rfl (ow_v fr (rn_assign (fr.ev rfl)) rfl rfl ?_)
          intro a fr
          refine wpList_nil ?_
          have e2 := nm_snoc hlt hx_l_p
          rw [e2] at st
          refine then_n ⟨l.length - (k + 1), ?_, k + 1, A7, c8, (by omega), (fun j x hj h1 => by rcases (by omega : j < k ∨ j = k) with h | rfl; exact hno j x h h1; (rw [List.getElem?_eq_getElem hlt, hx_l_p] at h1; cases h1; exact hlk)), rfl, fr.prune ⟨rfl, rfl, rfl, trivial⟩, st.sub (.cons _ (.cons _ (.cons_cons _ (.cons_cons _ (.cons_cons _ (.cons_cons _ .slnil))))))⟩
          omega
        · refine ow_bslice (E := 9) fr st rfl [(.string p)] (fun w => by simp only [List.map_toArray, List.map_cons, List.map_nil]; rw [fr.ev (x := .tmp 44) rfl]; kernel_rfl) rfl rfl ?_
          intro a w b9 fr st
          refine ⟨st.sub (.cons _ (.cons_cons _ (.cons _ (.cons_cons _ (.cons _ (.cons_cons _ .slnil)))))), ?_⟩
          refine dr_one 4 (by kernel_rfl) rfl rfl (ow_v fr (rn_load (fr.ev rfl) Try.underlying45 rfl (st.cell 2 rfl rfl)) rfl rfl ?_)
          intro a fr
          refine ⟨st.sub (.cons _ (.cons_cons _ (.cons _ (.cons_cons _ (.cons _ (.cons_cons _ .slnil)))))), ?_⟩
          refine dr_one 11 (by kernel_rfl) rfl rfl (ow_append1 fr st 4 0 p rfl rfl rfl rfl rfl Try.underlying45 inf_9 (by rfl) (by decide) (fun _ => rfl) rfl (by (simp [bI_len, nm_len l k (by omega)]; omega)) (by unfold maxLen; (simp [bI_len, nm_len l k (by omega)]; omega)) (Nat.le_refl _) st.agr.size rfl rfl ?_)
          intro a w A10 c11 fr (st : St _ [] w [.blk b9 [(.string p)] 9, ro b4 (o5 + k * 2) [(.string p), (.string q)], .blk b3 [.slice A ((nm l k).length) c, .slice (some ⟨b2, 0, none⟩) 8 8] 62, row CI 1 3 w0.heap.size (.slice (some ⟨b2, 0, none⟩) 8 8) bS, row CS 1 9 w0.heap.size (.slice A10 (((nm l k) ++ [p]).length) c11) (((nm l k) ++ [p])), els lineC 2 (some ⟨b4, o5, none⟩) l])
          refine ⟨st.sub (.cons _ (.cons_cons _ (.cons _ (.cons_cons _ (.cons _ (.cons_cons _ .slnil)))))), ?_⟩
          refine dr_take 12 rfl (by kernel_rfl) (by kernel_rfl) (by kernel_rfl) (fun _ _ _ h => h) fr rfl (st.sub (.cons _ (.cons_cons _ (.cons _ (.cons_cons _ (.cons _ (.cons_cons _ .slnil))))))) (fun w st => rn_nilCheck (fr.ev rfl)) rfl rfl ?_
          intro a fr
          refine dr_take 13 rfl (by kernel_rfl) (by kernel_rfl) (by kernel_rfl) (fun _ _ _ h => h) fr rfl (st.sub (.cons _ (.cons_cons _ (.cons _ (.cons_cons _ (.cons _ (.cons_cons _ .slnil))))))) (fun w st => fa_62_0 (fr.ev rfl)) rfl rfl ?_
          intro a fr
          refine dr_one 14 (by kernel_rfl) rfl rfl (ow_st fr st 2 rfl rfl rfl rfl sz_45 rfl rfl rfl ?_)
          intro w (st : St _ [] w [.blk b9 [(.string p)] 9, ro b4 (o5 + k * 2) [(.string p), (.string q)], .blk b3 [.slice A10 (((nm l k) ++ [p]).length) c11, .slice (some ⟨b2, 0, none⟩) 8 8] 62, row CI 1 3 w0.heap.size (.slice (some ⟨b2, 0, none⟩) 8 8) bS, row CS 1 9 w0.heap.size (.slice A10 (((nm l k) ++ [p]).length) c11) (((nm l k) ++ [p])), els lineC 2 (some ⟨b4, o5, none⟩) l])
          refine ⟨st.sub (.cons _ (.cons_cons _ (.cons _ (.cons_cons _ (.cons _ (.cons_cons _ .slnil)))))), ?_⟩
          refine dr_done (by kernel_rfl) ?_
          refine blk_n ?_
          refine then_n ?_
          refine reg ?_
          refine lst rfl (ow_v fr (rn_move (fr.ev rfl)) rfl rfl ?_)
          intro a fr
          refine lst rfl (ow_v fr (rn_add (c := ((k + 1 : Nat) : Int)) (fr.ev rfl) (fr.ev rfl) (wr_i64e (by omega) (by omega) (by omega))) rfl rfl ?_)
          intro a fr
          refine lst rfl (ow_v fr (rn_assign (fr.ev rfl)) rfl rfl ?_)
          intro a fr
          refine wpList_nil ?_
          have e2 := nm_snoc hlt hx_l_p
          rw [e2] at st
          refine then_n ⟨l.length - (k + 1), ?_, k + 1, A10, c11, (by omega), (fun j x hj h1 => by rcases (by omega : j < k ∨ j = k) with h | rfl; exact hno j x h h1; (rw [List.getElem?_eq_getElem hlt, hx_l_p] at h1; cases h1; exact hlk)), rfl, fr.prune ⟨rfl, rfl, rfl, trivial⟩, st.sub (.cons _ (.cons _ (.cons_cons _ (.cons_cons _ (.cons_cons _ (.cons_cons _ .slnil))))))⟩
          omega
      · have hdup : Dup l := ⟨k, (p, q), by rw [List.getElem?_eq_getElem hlt, hx_l_p], by simp [hlk]⟩
        refine wp_seq ?_
        refine wp_seq ?_
        refine reg ?_
        refine lst rfl (ow_v fr (rn_move (fr.ev rfl)) rfl rfl ?_)
        intro a fr
        refine lst rfl (ow_v fr (rn_move (fr.ev rfl)) rfl rfl ?_)
        intro a fr
        refine lst rfl (ow_v fr (rn_len (fr.ev rfl) Try.underlying22) rfl rfl ?_)
        intro a fr
        refine lst rfl (ow_v fr (rn_as (v' := .bool true) (rn_lss (fr.ev rfl) (fr.ev rfl)) (congrArg Value.bool (decide_eq_true (by omega)))) rfl rfl ?_)
        intro a fr
        refine wpList_nil ?_
        refine then_n ?_
        refine cond_t fr rfl rfl ?_
        refine wp_skip ?_
        refine then_n ?_
        refine wp_seq ?_
        refine wp_block ?_
        refine wp_seq ?_
        refine wp_seq ?_
        refine dr_start (by kernel_rfl) st (.cons_cons _ (.cons_cons _ (.cons_cons _ (.cons_cons _ (.cons_cons _ .slnil))))) ?_
        intro w st
        refine dr_take 0 rfl (by kernel_rfl) (by kernel_rfl) (by kernel_rfl) (fun _ _ _ h => h) fr rfl (st.sub (.cons_cons _ (.cons_cons _ (.cons_cons _ (.cons_cons _ (.cons_cons _ .slnil)))))) (fun w st => rn_move (fr.ev rfl)) rfl rfl ?_
        intro a fr
        refine dr_take 1 rfl (by kernel_rfl) (by kernel_rfl) (by kernel_rfl) (fun _ _ _ h => h) fr rfl (st.sub (.cons_cons _ (.cons_cons _ (.cons_cons _ (.cons_cons _ (.cons_cons _ .slnil)))))) (fun w st => rn_nilCheck (fr.ev rfl)) rfl rfl ?_
        intro a fr
        refine dr_take 2 rfl (by kernel_rfl) (by kernel_rfl) (by kernel_rfl) (fun _ _ _ h => h) fr rfl (st.sub (.cons_cons _ (.cons_cons _ (.cons_cons _ (.cons_cons _ (.cons_cons _ .slnil)))))) (fun w st => fa_62_0 (fr.ev rfl)) rfl rfl ?_
        intro a fr
        refine dr_take 3 rfl (by kernel_rfl) (by kernel_rfl) (by kernel_rfl) (fun _ _ _ h => h) fr rfl (st.sub (.cons_cons _ (.cons_cons _ (.cons_cons _ (.cons_cons _ (.cons_cons _ .slnil)))))) (fun w st => rn_load (fr.ev rfl) Try.underlying45 rfl (st.cell 1 rfl rfl)) rfl rfl ?_
        intro a fr
        refine dr_take 4 rfl (by kernel_rfl) (by kernel_rfl) (by kernel_rfl) (fun _ _ _ h => h) fr rfl (st.sub (.cons_cons _ (.cons_cons _ (.cons_cons _ (.cons_cons _ (.cons_cons _ .slnil)))))) (fun w st => rn_move (fr.ev rfl)) rfl rfl ?_
        intro a fr
        refine dr_take 5 rfl (by kernel_rfl) (by kernel_rfl) (by kernel_rfl) (fun _ _ _ h => h) fr rfl (st.sub (.cons_cons _ (.cons_cons _ (.cons_cons _ (.cons_cons _ (.cons_cons _ .slnil)))))) (fun w st => rn_move (fr.ev rfl)) rfl rfl ?_
        intro a fr
        refine dr_take 6 rfl (by kernel_rfl) (by kernel_rfl) (by kernel_rfl) (fun _ _ _ h => h) fr rfl (st.sub (.cons_cons _ (.cons_cons _ (.cons_cons _ (.cons_cons _ (.cons_cons _ .slnil)))))) (fun w st => rn_at (i := k) (fr.ev rfl) (fr.ev rfl) Try.underlying22 sz_56 (by omega) (by rfl)) rfl rfl ?_
        intro a fr
        refine dr_take 7 rfl (by kernel_rfl) (by kernel_rfl) (by kernel_rfl) (fun _ _ _ h => h) fr rfl (st.sub (.cons_cons _ (.cons_cons _ (.cons_cons _ (.cons_cons _ (.cons_cons _ .slnil)))))) (fun w st => fa_56_0 (fr.ev rfl)) rfl rfl ?_
        intro a fr
        refine dr_take 8 rfl (by kernel_rfl) (by kernel_rfl) (by kernel_rfl) (fun _ _ _ h => h) fr rfl (st.sub (.cons_cons _ (.cons_cons _ (.cons_cons _ (.cons_cons _ (.cons_cons _ .slnil)))))) (fun w st => rn_load (fr.ev rfl) Try.underlying9 rfl (st.rocell 0 rfl (j := 0) rfl)) rfl rfl ?_
        intro a fr
        refine dr_one 9 (by kernel_rfl) rfl rfl (ow_call fr rfl rfl Try.call29 (rfind_t (nm l k) p _ _ (by omega) hlk _ (row_els CS_len (st.get 3 rfl).1)) rfl rfl ?_)
        rintro e w ⟨rfl, hag⟩
        refine ⟨_, rfl, ?_⟩
        intro a fr
        have st := st.keep hag
        clear hag
        refine ⟨st.sub (.cons_cons _ (.cons_cons _ (.cons_cons _ (.cons_cons _ (.cons_cons _ .slnil))))), ?_⟩
        refine dr_take 10 rfl (by kernel_rfl) (by kernel_rfl) (by kernel_rfl) (fun _ _ _ h => h) fr rfl (st.sub (.cons_cons _ (.cons_cons _ (.cons_cons _ (.cons_cons _ (.cons_cons _ .slnil)))))) (fun w st => rn_as (v' := .bool true) (rn_geq (fr.ev rfl) (fr.ev rfl)) (congrArg Value.bool (decide_eq_true (by omega)))) rfl rfl ?_
        intro a fr
        refine dr_done (by kernel_rfl) ?_
        refine then_n ?_
        refine cond_t fr rfl rfl ?_
        refine wp_seq ?_
        refine reg ?_
        refine lst rfl (ow_v fr (rn_assign (fr.ev rfl)) rfl rfl ?_)
        intro a fr
        refine lst rfl (ow_v fr (rn_assign (fr.ev rfl)) rfl rfl ?_)
        intro a fr
        refine wpList_nil ?_
        refine then_n ?_
        refine wp_ret ?_
        refine then_r ?_
        refine blk_r ?_
        refine then_r ?_
        refine then_r ?_
        refine blk_r ?_
        refine then_r ?_
        refine ret2 Try.results14 fr (rv_tmp fr rfl) (rv_tmp fr rfl) ?_
        exact .inr (.inl ⟨by omega, hdup, rfl, st.agr⟩)
    · have hkl : k = l.length := by omega
      subst hkl
      have hnd : ¬ Dup l := fun ⟨j, x, h1, h2⟩ => h2 (hno j x (List.getElem?_eq_some_iff.1 h1).1 h1)
      refine wp_seq ?_
      refine wp_seq ?_
      refine reg ?_
      refine lst rfl (ow_v fr (rn_move (fr.ev rfl)) rfl rfl ?_)
      intro a fr
      refine lst rfl (ow_v fr (rn_move (fr.ev rfl)) rfl rfl ?_)
      intro a fr
      refine lst rfl (ow_v fr (rn_len (fr.ev rfl) Try.underlying22) rfl rfl ?_)
      intro a fr
      refine lst rfl (ow_v fr (rn_as (v' := .bool false) (rn_lss (fr.ev rfl) (fr.ev rfl)) (congrArg Value.bool (decide_eq_false (by omega)))) rfl rfl ?_)
      intro a fr
      refine wpList_nil ?_
      refine then_n ?_
      refine cond_f fr rfl rfl ?_
      refine wp_exit ?_
      refine then_x ?_
      refine then_x ?_
      refine blk_x ?_
      refine then_n ?_
      refine wp_seq ?_
      refine wp_seq ?_
      refine reg ?_
      refine lst rfl (ow_v fr (rn_assign (fr.ev rfl)) rfl rfl ?_)
      intro a fr
      refine wpList_nil ?_
      refine then_n ?_
      refine wp_block ?_
      refine wp_loop_ghost (fun mz a w => ∃ (k : Nat) (B : Option Addr) (d : Nat), (k ≤ l.length) ∧ (∀ (j : Nat) (x : LineD), j < k → l[j]? = some x → lkp (mL (nm l l.length)) x.2 ≠ none) ∧ mz = l.length - k ∧ FrL 106 a [(0, .slice LA l.length lc), (4, .pointer (some ⟨b3, 0, none⟩)), (6, .int .i64 ((k : Nat)))] ∧ St w0 [] w [.blk b3 [.slice A ((nm l l.length).length) c, .slice B ((sl l k).length) d] 62, row CI 1 3 w0.heap.size (.slice B ((sl l k).length) d) ((sl l k)), row CS 1 9 w0.heap.size (.slice A ((nm l l.length).length) c) ((nm l l.length)), els lineC 2 LA l]) _ ⟨0, some ⟨b2, 0, none⟩, 8, (Nat.zero_le _), (fun j x h => absurd h (Nat.not_lt_zero _)), rfl, fr.prune ⟨rfl, rfl, rfl, trivial⟩, st⟩ ?_
      clear fr st
      intro mz a w hI
      obtain ⟨k, B, d, hk, hns, hmz, fr, st⟩ := hI
      have hnl := nm_len l l.length (Nat.le_refl _)
      have hsl := sl_len l k hk
      by_cases hlt : k < l.length
      · obtain ⟨b12, o13, eA, st_⟩ := st.elem 3 rfl k hlt (by simp [lineC])
        have fr_ := fr
        cases eA
        have st := st_
        have fr := fr_
        clear st_ fr_
        obtain ⟨p, q, hx_l_p⟩ : ∃ p q, l[k] = (p, q) := ⟨_, _, rfl⟩
        rw [hx_l_p] at st
        replace st : St _ [] w [ro b12 (o13 + k * 2) [(.string p), (.string q)], .blk b3 [.slice A ((nm l l.length).length) c, .slice B ((sl l k).length) d] 62, row CI 1 3 w0.heap.size (.slice B ((sl l k).length) d) ((sl l k)), row CS 1 9 w0.heap.size (.slice A ((nm l l.length).length) c) ((nm l l.length)), els lineC 2 (some ⟨b12, o13, none⟩) l] := st
        rcases hlk : lkp (mL (nm l l.length)) q with _ | v
        · have hmiss : Miss l := ⟨k, (p, q), by rw [List.getElem?_eq_getElem hlt, hx_l_p], hlk⟩
          refine wp_seq ?_
          refine wp_seq ?_
          refine reg ?_
          refine lst rfl (ow_v fr (rn_move (fr.ev rfl)) rfl rfl ?_)
          intro a fr
          refine lst rfl (ow_v fr (rn_move (fr.ev rfl)) rfl rfl ?_)
          intro a fr
          refine lst rfl (ow_v fr (rn_len (fr.ev rfl) Try.underlying22) rfl rfl ?_)
          intro a fr
          refine lst rfl (ow_v fr (rn_as (v' := .bool true) (rn_lss (fr.ev rfl) (fr.ev rfl)) (congrArg Value.bool (decide_eq_true (by omega)))) rfl rfl ?_)
          intro a fr
          refine wpList_nil ?_
          refine then_n ?_
          refine cond_t fr rfl rfl ?_
          refine wp_skip ?_
          refine then_n ?_
          refine wp_seq ?_
          refine wp_block ?_
          refine wp_seq ?_
          refine dr_start (by kernel_rfl) st (.cons_cons _ (.cons_cons _ (.cons_cons _ (.cons_cons _ (.cons_cons _ .slnil))))) ?_
          intro w st
          refine dr_take 0 rfl (by kernel_rfl) (by kernel_rfl) (by kernel_rfl) (fun _ _ _ h => h) fr rfl (st.sub (.cons_cons _ (.cons_cons _ (.cons_cons _ (.cons_cons _ (.cons_cons _ .slnil)))))) (fun w st => rn_move (fr.ev rfl)) rfl rfl ?_
          intro a fr
          refine dr_take 1 rfl (by kernel_rfl) (by kernel_rfl) (by kernel_rfl) (fun _ _ _ h => h) fr rfl (st.sub (.cons_cons _ (.cons_cons _ (.cons_cons _ (.cons_cons _ (.cons_cons _ .slnil)))))) (fun w st => rn_nilCheck (fr.ev rfl)) rfl rfl ?_
          intro a fr
          refine dr_take 2 rfl (by kernel_rfl) (by kernel_rfl) (by kernel_rfl) (fun _ _ _ h => h) fr rfl (st.sub (.cons_cons _ (.cons_cons _ (.cons_cons _ (.cons_cons _ (.cons_cons _ .slnil)))))) (fun w st => fa_62_0 (fr.ev rfl)) rfl rfl ?_
          intro a fr
          refine dr_take 3 rfl (by kernel_rfl) (by kernel_rfl) (by kernel_rfl) (fun _ _ _ h => h) fr rfl (st.sub (.cons_cons _ (.cons_cons _ (.cons_cons _ (.cons_cons _ (.cons_cons _ .slnil)))))) (fun w st => rn_load (fr.ev rfl) Try.underlying45 rfl (st.cell 1 rfl rfl)) rfl rfl ?_
          intro a fr
          refine dr_take 4 rfl (by kernel_rfl) (by kernel_rfl) (by kernel_rfl) (fun _ _ _ h => h) fr rfl (st.sub (.cons_cons _ (.cons_cons _ (.cons_cons _ (.cons_cons _ (.cons_cons _ .slnil)))))) (fun w st => rn_move (fr.ev rfl)) rfl rfl ?_
          intro a fr
          refine dr_take 5 rfl (by kernel_rfl) (by kernel_rfl) (by kernel_rfl) (fun _ _ _ h => h) fr rfl (st.sub (.cons_cons _ (.cons_cons _ (.cons_cons _ (.cons_cons _ (.cons_cons _ .slnil)))))) (fun w st => rn_move (fr.ev rfl)) rfl rfl ?_
          intro a fr
          refine dr_take 6 rfl (by kernel_rfl) (by kernel_rfl) (by kernel_rfl) (fun _ _ _ h => h) fr rfl (st.sub (.cons_cons _ (.cons_cons _ (.cons_cons _ (.cons_cons _ (.cons_cons _ .slnil)))))) (fun w st => rn_at (i := k) (fr.ev rfl) (fr.ev rfl) Try.underlying22 sz_56 (by omega) (by rfl)) rfl rfl ?_
          intro a fr
          refine dr_take 7 rfl (by kernel_rfl) (by kernel_rfl) (by kernel_rfl) (fun _ _ _ h => h) fr rfl (st.sub (.cons_cons _ (.cons_cons _ (.cons_cons _ (.cons_cons _ (.cons_cons _ .slnil)))))) (fun w st => fa_56_1 (fr.ev rfl)) rfl rfl ?_
          intro a fr
          refine dr_take 8 rfl (by kernel_rfl) (by kernel_rfl) (by kernel_rfl) (fun _ _ _ h => h) fr rfl (st.sub (.cons_cons _ (.cons_cons _ (.cons_cons _ (.cons_cons _ (.cons_cons _ .slnil)))))) (fun w st => rn_load (fr.ev rfl) Try.underlying9 rfl (st.rocell 0 rfl (j := 1) rfl)) rfl rfl ?_
          intro a fr
          refine dr_one 9 (by kernel_rfl) rfl rfl (ow_call fr rfl rfl Try.call29 (rfind_f (nm l l.length) q _ _ (by omega) hlk _ (row_els CS_len (st.get 3 rfl).1)) rfl rfl ?_)
          rintro e w ⟨rfl, hag⟩
          refine ⟨_, rfl, ?_⟩
          intro a fr
          have st := st.keep hag
          clear hag
          refine ⟨st.sub (.cons_cons _ (.cons_cons _ (.cons_cons _ (.cons_cons _ (.cons_cons _ .slnil))))), ?_⟩
          refine dr_take 10 rfl (by kernel_rfl) (by kernel_rfl) (by kernel_rfl) (fun _ _ _ h => h) fr rfl (st.sub (.cons_cons _ (.cons_cons _ (.cons_cons _ (.cons_cons _ (.cons_cons _ .slnil)))))) (fun w st => rn_assign (fr.ev rfl)) rfl rfl ?_
          intro a fr
          refine dr_done (by kernel_rfl) ?_
          refine then_n ?_
          refine wp_seq ?_
          refine wp_seq ?_
          refine reg ?_
          refine lst rfl (ow_v fr (rn_move (fr.ev rfl)) rfl rfl ?_)
          intro a fr
          refine lst rfl (ow_v fr (rn_as (rn_lss (fr.ev rfl) (fr.ev rfl)) (by rfl)) rfl rfl ?_)
          intro a fr
          refine wpList_nil ?_
          refine then_n ?_
          refine cond_t fr rfl rfl ?_
          refine wp_seq ?_
          refine reg ?_
          refine lst rfl (ow_v fr (rn_assign (fr.ev rfl)) rfl rfl ?_)
          intro a fr
          refine lst rfl (ow_v fr (rn_assign (fr.ev rfl)) rfl rfl ?_)
          intro a fr
          refine wpList_nil ?_
          refine then_n ?_
          refine wp_ret ?_
          refine then_r ?_
          refine blk_r ?_
          refine then_r ?_
          refine then_r ?_
          refine blk_r ?_
          refine then_r ?_
          refine ret2 Try.results14 fr (rv_tmp fr rfl) (rv_tmp fr rfl) ?_
          exact .inr (.inr (.inl ⟨by omega, hnd, hmiss, rfl, st.agr⟩))
        · refine wp_seq ?_
          refine wp_seq ?_
          refine reg ?_
          refine lst rfl (ow_v fr (rn_move (fr.ev rfl)) rfl rfl ?_)
          intro a fr
          refine lst rfl (ow_v fr (rn_move (fr.ev rfl)) rfl rfl ?_)
          intro a fr
          refine lst rfl (ow_v fr (rn_len (fr.ev rfl) Try.underlying22) rfl rfl ?_)
          intro a fr
          refine lst rfl (ow_v fr (rn_as (v' := .bool true) (rn_lss (fr.ev rfl) (fr.ev rfl)) (congrArg Value.bool (decide_eq_true (by omega)))) rfl rfl ?_)
          intro a fr
          refine wpList_nil ?_
          refine then_n ?_
          refine cond_t fr rfl rfl ?_
          refine wp_skip ?_
          refine then_n ?_
          refine wp_seq ?_
          refine wp_block ?_
          refine wp_seq ?_
          refine dr_start (by kernel_rfl) st (.cons_cons _ (.cons_cons _ (.cons_cons _ (.cons_cons _ (.cons_cons _ .slnil))))) ?_
          intro w st
          refine dr_take 0 rfl (by kernel_rfl) (by kernel_rfl) (by kernel_rfl) (fun _ _ _ h => h) fr rfl (st.sub (.cons_cons _ (.cons_cons _ (.cons_cons _ (.cons_cons _ (.cons_cons _ .slnil)))))) (fun w st => rn_move (fr.ev rfl)) rfl rfl ?_
          intro a fr
          refine dr_take 1 rfl (by kernel_rfl) (by kernel_rfl) (by kernel_rfl) (fun _ _ _ h => h) fr rfl (st.sub (.cons_cons _ (.cons_cons _ (.cons_cons _ (.cons_cons _ (.cons_cons _ .slnil)))))) (fun w st => rn_nilCheck (fr.ev rfl)) rfl rfl ?_
          intro a fr
          refine dr_take 2 rfl (by kernel_rfl) (by kernel_rfl) (by kernel_rfl) (fun _ _ _ h => h) fr rfl (st.sub (.cons_cons _ (.cons_cons _ (.cons_cons _ (.cons_cons _ (.cons_cons _ .slnil)))))) (fun w st => fa_62_0 (fr.ev rfl)) rfl rfl ?_
          intro a fr
          refine dr_take 3 rfl (by kernel_rfl) (by kernel_rfl) (by kernel_rfl) (fun _ _ _ h => h) fr rfl (st.sub (.cons_cons _ (.cons_cons _ (.cons_cons _ (.cons_cons _ (.cons_cons _ .slnil)))))) (fun w st => rn_load (fr.ev rfl) Try.underlying45 rfl (st.cell 1 rfl rfl)) rfl rfl ?_
          intro a fr
          refine dr_take 4 rfl (by kernel_rfl) (by kernel_rfl) (by kernel_rfl) (fun _ _ _ h => h) fr rfl (st.sub (.cons_cons _ (.cons_cons _ (.cons_cons _ (.cons_cons _ (.cons_cons _ .slnil)))))) (fun w st => rn_move (fr.ev rfl)) rfl rfl ?_
          intro a fr
          refine dr_take 5 rfl (by kernel_rfl) (by kernel_rfl) (by kernel_rfl) (fun _ _ _ h => h) fr rfl (st.sub (.cons_cons _ (.cons_cons _ (.cons_cons _ (.cons_cons _ (.cons_cons _ .slnil)))))) (fun w st => rn_move (fr.ev rfl)) rfl rfl ?_
          intro a fr
          refine dr_take 6 rfl (by kernel_rfl) (by kernel_rfl) (by kernel_rfl) (fun _ _ _ h => h) fr rfl (st.sub (.cons_cons _ (.cons_cons _ (.cons_cons _ (.cons_cons _ (.cons_cons _ .slnil)))))) (fun w st => rn_at (i := k) (fr.ev rfl) (fr.ev rfl) Try.underlying22 sz_56 (by omega) (by rfl)) rfl rfl ?_
          intro a fr
          refine dr_take 7 rfl (by kernel_rfl) (by kernel_rfl) (by kernel_rfl) (fun _ _ _ h => h) fr rfl (st.sub (.cons_cons _ (.cons_cons _ (.cons_cons _ (.cons_cons _ (.cons_cons _ .slnil)))))) (fun w st => fa_56_1 (fr.ev rfl)) rfl rfl ?_
          intro a fr
          refine dr_take 8 rfl (by kernel_rfl) (by kernel_rfl) (by kernel_rfl) (fun _ _ _ h => h) fr rfl (st.sub (.cons_cons _ (.cons_cons _ (.cons_cons _ (.cons_cons _ (.cons_cons _ .slnil)))))) (fun w st => rn_load (fr.ev rfl) Try.underlying9 rfl (st.rocell 0 rfl (j := 1) rfl)) rfl rfl ?_
          intro a fr
          refine dr_one 9 (by kernel_rfl) rfl rfl (ow_call fr rfl rfl Try.call29 (rfind_t (nm l l.length) q _ _ (by omega) hlk _ (row_els CS_len (st.get 3 rfl).1)) rfl rfl ?_)
          rintro e w ⟨rfl, hag⟩
          refine ⟨_, rfl, ?_⟩
          intro a fr
          have st := st.keep hag
          clear hag
          refine ⟨st.sub (.cons_cons _ (.cons_cons _ (.cons_cons _ (.cons_cons _ (.cons_cons _ .slnil))))), ?_⟩
          refine dr_take 10 rfl (by kernel_rfl) (by kernel_rfl) (by kernel_rfl) (fun _ _ _ h => h) fr rfl (st.sub (.cons_cons _ (.cons_cons _ (.cons_cons _ (.cons_cons _ (.cons_cons _ .slnil)))))) (fun w st => rn_assign (fr.ev rfl)) rfl rfl ?_
          intro a fr
          refine dr_done (by kernel_rfl) ?_
          refine then_n ?_
          refine wp_seq ?_
          refine wp_seq ?_
          refine reg ?_
          refine lst rfl (ow_v fr (rn_move (fr.ev rfl)) rfl rfl ?_)
          intro a fr
          refine lst rfl (ow_v fr (rn_as (v' := .bool false) (rn_lss (fr.ev rfl) (fr.ev rfl)) (congrArg Value.bool (decide_eq_false (by omega)))) rfl rfl ?_)
          intro a fr
          refine wpList_nil ?_
          refine then_n ?_
          refine cond_f fr rfl rfl ?_
          refine wp_skip ?_
          refine then_n ?_
          refine reg ?_
          refine lst rfl (ow_v fr (rn_move (fr.ev rfl)) rfl rfl ?_)
          intro a fr
          refine lst rfl (ow_v fr (rn_move (fr.ev rfl)) rfl rfl ?_)
          intro a fr
          refine lst rfl (ow_v fr (rn_nilCheck (fr.ev rfl)) rfl rfl ?_)
          intro a fr
          refine lst rfl (ow_v fr (fa_62_1 (fr.ev rfl)) rfl rfl ?_)
          intro a fr
          refine lst rfl (ow_v fr (rn_load (fr.ev rfl) Try.underlying43 rfl (st.cell 1 rfl rfl)) rfl rfl ?_)
          intro a fr
          refine lst rfl (ow_v fr (rn_move (fr.ev rfl)) rfl rfl ?_)
          intro a fr
          refine lst rfl (ow_bslice (E := 3) fr st rfl [.int .i64 ((v : Nat))] (fun w => by simp only [List.map_toArray, List.map_cons, List.map_nil]; rw [fr.ev (x := .tmp 72) rfl]; kernel_rfl) rfl rfl ?_)
          intro a w b14 fr st
          refine lst rfl (ow_append1 fr st 3 0 ((((v : Nat)) : Int)) rfl rfl rfl rfl rfl Try.underlying43 inf_3 (by rfl) (by decide) (fun _ => rfl) rfl (by (simp [sl_len l k (by omega)]; omega)) (by unfold maxLen; (simp [sl_len l k (by omega)]; omega)) (Nat.le_refl _) st.agr.size rfl rfl ?_)
          intro a w A15 c16 fr (st : St _ [] w [.blk b14 [.int .i64 ((v : Nat))] 3, ro b12 (o13 + k * 2) [(.string p), (.string q)], .blk b3 [.slice A ((nm l l.length).length) c, .slice B ((sl l k).length) d] 62, row CI 1 3 w0.heap.size (.slice A15 (((sl l k) ++ [(((v : Nat)) : Int)]).length) c16) (((sl l k) ++ [(((v : Nat)) : Int)])), row CS 1 9 w0.heap.size (.slice A ((nm l l.length).length) c) ((nm l l.length)), els lineC 2 (some ⟨b12, o13, none⟩) l])
          refine lst rfl (ow_v fr (rn_nilCheck (fr.ev rfl)) rfl rfl ?_)
          intro a fr
          refine lst rfl (ow_v fr (fa_62_1 (fr.ev rfl)) rfl rfl ?_)
          intro a fr
          refine lst rfl (ow_st fr st 2 rfl rfl rfl rfl sz_43 rfl rfl rfl ?_)
          intro w (st : St _ [] w [.blk b14 [.int .i64 ((v : Nat))] 3, ro b12 (o13 + k * 2) [(.string p), (.string q)], .blk b3 [.slice A ((nm l l.length).length) c, .slice A15 (((sl l k) ++ [(((v : Nat)) : Int)]).length) c16] 62, row CI 1 3 w0.heap.size (.slice A15 (((sl l k) ++ [(((v : Nat)) : Int)]).length) c16) (((sl l k) ++ [(((v : Nat)) : Int)])), row CS 1 9 w0.heap.size (.slice A ((nm l l.length).length) c) ((nm l l.length)), els lineC 2 (some ⟨b12, o13, none⟩) l])
          refine wpList_nil ?_
          refine blk_n ?_
          refine then_n ?_
          refine reg ?_
          refine lst rfl (ow_v fr (rn_move (fr.ev rfl)) rfl rfl ?_)
          intro a fr
          refine lst rfl (ow_v fr (rn_add (c := ((k + 1 : Nat) : Int)) (fr.ev rfl) (fr.ev rfl) (wr_i64e (by omega) (by omega) (by omega))) rfl rfl ?_)
          intro a fr
          refine lst rfl (ow_v fr (rn_assign (fr.ev rfl)) rfl rfl ?_)
          intro a fr
          refine wpList_nil ?_
          have e1 := sl_snoc hlt hx_l_p hlk
          rw [e1] at st
          refine then_n ⟨l.length - (k + 1), ?_, k + 1, A15, c16, (by omega), (fun j x hj h1 => by rcases (by omega : j < k ∨ j = k) with h | rfl; exact hns j x h h1; (rw [List.getElem?_eq_getElem hlt, hx_l_p] at h1; cases h1; simp [hlk])), rfl, fr.prune ⟨rfl, rfl, rfl, trivial⟩, st.sub (.cons _ (.cons _ (.cons_cons _ (.cons_cons _ (.cons_cons _ (.cons_cons _ .slnil))))))⟩
          omega
      · have hkl : k = l.length := by omega
        subst hkl
        have hnm : ¬ Miss l := fun ⟨j, x, h1, h2⟩ => hns j x (List.getElem?_eq_some_iff.1 h1).1 h1 h2
        refine wp_seq ?_
        refine wp_seq ?_
        refine reg ?_
        refine lst rfl (ow_v fr (rn_move (fr.ev rfl)) rfl rfl ?_)
        intro a fr
        refine lst rfl (ow_v fr (rn_move (fr.ev rfl)) rfl rfl ?_)
        intro a fr
        refine lst rfl (ow_v fr (rn_len (fr.ev rfl) Try.underlying22) rfl rfl ?_)
        intro a fr
        refine lst rfl (ow_v fr (rn_as (v' := .bool false) (rn_lss (fr.ev rfl) (fr.ev rfl)) (congrArg Value.bool (decide_eq_false (by omega)))) rfl rfl ?_)
        intro a fr
        refine wpList_nil ?_
        refine then_n ?_
        refine cond_f fr rfl rfl ?_
        refine wp_exit ?_
        refine then_x ?_
        refine then_x ?_
        refine blk_x ?_
        refine then_n ?_
        refine wp_seq ?_
        refine wp_seq ?_
        refine reg ?_
        refine lst rfl (ow_v fr (rn_assign (fr.ev rfl)) rfl rfl ?_)
        intro a fr
        refine wpList_nil ?_
        refine then_n ?_
        refine wp_block ?_
        have hnl := nm_len l l.length (Nat.le_refl _)
        have hsl := sl_len l l.length (Nat.le_refl _)
        have hrng := sl_rng l hnm
        have hA1 := row_base (st.get 2 rfl).1
        have hA2 := row_base (st.get 1 rfl).1
        have st := st.weaken 1 rfl (it := els CI 1 B (sl l l.length)) (fun h => by cases h) (elsFp_row) (els_of_row (by decide) CI_len (st.get 1 rfl))
        replace st : St _ [] w [.blk b3 [.slice A ((nm l l.length).length) c, .slice B ((sl l l.length).length) d] 62, els CI 1 B (sl l l.length), row CS 1 9 w0.heap.size (.slice A ((nm l l.length).length) c) ((nm l l.length)), els lineC 2 LA l] := st
        refine wp_loop_ghost (fun mz a w => ∃ (n : Nat), (n ≤ (sl l l.length).length) ∧ (∀ j : Nat, j < n → ∃ i, i ≤ (sl l l.length).length ∧ itS (sl l l.length) i j < 0) ∧ mz = (sl l l.length).length - n ∧ FrL 106 a [(0, .slice LA l.length lc), (4, .pointer (some ⟨b3, 0, none⟩)), (8, .int .i64 ((n : Nat)))] ∧ St w0 [] w [.blk b3 [.slice A ((nm l l.length).length) c, .slice B ((sl l l.length).length) d] 62, els CI 1 B (sl l l.length), row CS 1 9 w0.heap.size (.slice A ((nm l l.length).length) c) ((nm l l.length)), els lineC 2 LA l]) _ ⟨0, (Nat.zero_le _), (fun j h => absurd h (Nat.not_lt_zero _)), rfl, fr.prune ⟨rfl, rfl, rfl, trivial⟩, st⟩ ?_
        clear fr st
        intro mz a w hI
        obtain ⟨n, hn, hok, hmz, fr, st⟩ := hI
        by_cases hlt : n < (sl l l.length).length
        · refine wp_seq ?_
          refine wp_seq ?_
          refine reg ?_
          refine lst rfl (ow_v fr (rn_move (fr.ev rfl)) rfl rfl ?_)
          intro a fr
          refine lst rfl (ow_v fr (rn_move (fr.ev rfl)) rfl rfl ?_)
          intro a fr
          refine lst rfl (ow_v fr (rn_nilCheck (fr.ev rfl)) rfl rfl ?_)
          intro a fr
          refine lst rfl (ow_v fr (fa_62_1 (fr.ev rfl)) rfl rfl ?_)
          intro a fr
          refine lst rfl (ow_v fr (rn_load (fr.ev rfl) Try.underlying43 rfl (st.cell 0 rfl rfl)) rfl rfl ?_)
          intro a fr
          refine lst rfl (ow_v fr (rn_len (fr.ev rfl) Try.underlying43) rfl rfl ?_)
          intro a fr
          refine lst rfl (ow_v fr (rn_as (v' := .bool true) (rn_lss (fr.ev rfl) (fr.ev rfl)) (congrArg Value.bool (decide_eq_true (by omega)))) rfl rfl ?_)
          intro a fr
          refine wpList_nil ?_
          refine then_n ?_
          refine cond_t fr rfl rfl ?_
          refine wp_skip ?_
          refine then_n ?_
          refine wp_seq ?_
          refine wp_block ?_
          refine wp_seq ?_
          refine reg ?_
          refine lst rfl (ow_v fr (rn_assign (fr.ev rfl)) rfl rfl ?_)
          intro a fr
          refine wpList_nil ?_
          refine then_n ?_
          refine wp_seq ?_
          refine reg ?_
          refine lst rfl (ow_v fr (rn_move (fr.ev rfl)) rfl rfl ?_)
          intro a fr
          refine lst rfl (ow_v fr (rn_assign (fr.ev rfl)) rfl rfl ?_)
          intro a fr
          refine wpList_nil ?_
          refine then_n ?_
          refine wp_block ?_
          refine wp_loop_ghost (fun mz a w => ∃ (i : Nat) (cc : Int), (i ≤ (sl l l.length).length) ∧ (itS (sl l l.length) i n = cc) ∧ (cc < (sl l l.length).length) ∧ (∀ j : Nat, j < i → 0 ≤ itS (sl l l.length) j n) ∧ mz = (sl l l.length).length + 1 - i ∧ FrL 106 a [(0, .slice LA l.length lc), (4, .pointer (some ⟨b3, 0, none⟩)), (8, .int .i64 ((n : Nat))), (9, .int .i64 ((i : Nat))), (10, .int .i64 (cc))] ∧ St w0 [] w [.blk b3 [.slice A ((nm l l.length).length) c, .slice B ((sl l l.length).length) d] 62, els CI 1 B (sl l l.length), row CS 1 9 w0.heap.size (.slice A ((nm l l.length).length) c) ((nm l l.length)), els lineC 2 LA l]) _ ⟨0, n, (Nat.zero_le _), (rfl), (by omega), (fun j h => absurd h (Nat.not_lt_zero _)), rfl, fr.prune ⟨rfl, rfl, rfl, rfl, rfl, trivial⟩, st⟩ ?_
          clear fr st
          intro mz a w hI
          obtain ⟨i, cc, hi, hc, hcl, hpos, hmz, fr, st⟩ := hI
          by_cases hneg : cc < 0
          · refine wp_seq ?_
            refine wp_seq ?_
            refine reg ?_
            refine lst rfl (ow_v fr (rn_move (fr.ev rfl)) rfl rfl ?_)
            intro a fr
            refine lst rfl (ow_v fr (rn_as (v' := .bool false) (rn_geq (fr.ev rfl) (fr.ev rfl)) (congrArg Value.bool (decide_eq_false (by omega)))) rfl rfl ?_)
            intro a fr
            refine wpList_nil ?_
            refine then_n ?_
            refine cond_f fr rfl rfl ?_
            refine wp_exit ?_
            refine then_x ?_
            refine then_x ?_
            refine blk_x ?_
            refine blk_n ?_
            refine then_n ?_
            refine reg ?_
            refine lst rfl (ow_v fr (rn_move (fr.ev rfl)) rfl rfl ?_)
            intro a fr
            refine lst rfl (ow_v fr (rn_add (c := ((n + 1 : Nat) : Int)) (fr.ev rfl) (fr.ev rfl) (wr_i64e (by omega) (by omega) (by omega))) rfl rfl ?_)
            intro a fr
            refine lst rfl (ow_v fr (rn_assign (fr.ev rfl)) rfl rfl ?_)
            intro a fr
            refine wpList_nil ?_
            refine then_n ⟨(sl l l.length).length - (n + 1), ?_, n + 1, (by omega), (fun j hj => by rcases (by omega : j < n ∨ j = n) with h | rfl; exact hok j h; exact ⟨i, by omega, hc ▸ hneg⟩), rfl, fr.prune ⟨rfl, rfl, rfl, trivial⟩, st.sub (.cons_cons _ (.cons_cons _ (.cons_cons _ (.cons_cons _ .slnil))))⟩
            omega
          · obtain ⟨m, rfl⟩ := Int.eq_ofNat_of_zero_le (by omega : 0 ≤ cc)
            have hpos1 : ∀ j : Nat, j ≤ i → 0 ≤ itS (sl l l.length) j n := fun j hj => by rcases (by omega : j < i ∨ j = i) with h | rfl; exact hpos j h; rw [hc]; omega
            by_cases hst : (sl l l.length).length < i + 1
            · have hcyc : Cyc l := ⟨n, by omega, fun j hj => hpos1 j (by omega)⟩
              refine wp_seq ?_
              refine wp_seq ?_
              refine reg ?_
              refine lst rfl (ow_v fr (rn_move (fr.ev rfl)) rfl rfl ?_)
              intro a fr
              refine lst rfl (ow_v fr (rn_as (v' := .bool true) (rn_geq (fr.ev rfl) (fr.ev rfl)) (congrArg Value.bool (decide_eq_true (by omega)))) rfl rfl ?_)
              intro a fr
              refine wpList_nil ?_
              refine then_n ?_
              refine cond_t fr rfl rfl ?_
              refine wp_skip ?_
              refine then_n ?_
              refine wp_seq ?_
              refine wp_block ?_
              refine wp_seq ?_
              refine reg ?_
              refine lst rfl (ow_v fr (rn_move (fr.ev rfl)) rfl rfl ?_)
              intro a fr
              refine lst rfl (ow_v fr (rn_add (c := ((i + 1 : Nat) : Int)) (fr.ev rfl) (fr.ev rfl) (wr_i64e (by omega) (by omega) (by omega))) rfl rfl ?_)
              intro a fr
              refine lst rfl (ow_v fr (rn_assign (fr.ev rfl)) rfl rfl ?_)
              intro a fr
              refine wpList_nil ?_
              refine then_n ?_
              refine wp_seq ?_
              refine reg ?_
              refine lst rfl (ow_v fr (rn_move (fr.ev rfl)) rfl rfl ?_)
              intro a fr
              refine lst rfl (ow_v fr (rn_move (fr.ev rfl)) rfl rfl ?_)
              intro a fr
              refine lst rfl (ow_v fr (rn_nilCheck (fr.ev rfl)) rfl rfl ?_)
              intro a fr
              refine lst rfl (ow_v fr (fa_62_1 (fr.ev rfl)) rfl rfl ?_)
              intro a fr
              refine lst rfl (ow_v fr (rn_load (fr.ev rfl) Try.underlying43 rfl (st.cell 0 rfl rfl)) rfl rfl ?_)
              intro a fr
              refine lst rfl (ow_v fr (rn_len (fr.ev rfl) Try.underlying43) rfl rfl ?_)
              intro a fr
              refine lst rfl (ow_v fr (rn_as (v' := .bool true) (rn_gtr (fr.ev rfl) (fr.ev rfl)) (congrArg Value.bool (decide_eq_true (by omega)))) rfl rfl ?_)
              intro a fr
              refine wpList_nil ?_
              refine then_n ?_
              refine cond_t fr rfl rfl ?_
              refine wp_seq ?_
              refine reg ?_
              refine lst rfl (ow_v fr (rn_assign (fr.ev rfl)) rfl rfl ?_)
              intro a fr
              refine lst rfl (ow_v fr (rn_assign (fr.ev rfl)) rfl rfl ?_)
              intro a fr
              refine wpList_nil ?_
              refine then_n ?_
              refine wp_ret ?_
              refine blk_r ?_
              refine then_r ?_
              refine then_r ?_
              refine blk_r ?_
              refine blk_r ?_
              refine then_r ?_
              refine then_r ?_
              refine blk_r ?_
              refine then_r ?_
              refine ret2 Try.results14 fr (rv_tmp fr rfl) (rv_tmp fr rfl) ?_
              exact .inr (.inr (.inr (.inl ⟨by omega, hnd, hnm, hcyc, rfl, st.agr⟩)))
            · obtain ⟨b17, o18, eA, st_⟩ := st.elem 1 rfl m (by omega) (by simp [CI])
              have fr_ := fr
              cases eA
              have st := st_
              have fr := fr_
              clear st_ fr_
              obtain ⟨x, hxx⟩ : ∃ x, (sl l l.length)[m] = x := ⟨_, rfl⟩
              rw [hxx] at st
              replace st : St _ [] w [ro b17 (o18 + m * 1) [.int .i64 (x)], .blk b3 [.slice A ((nm l l.length).length) c, .slice (some ⟨b17, o18, none⟩) ((sl l l.length).length) d] 62, els CI 1 (some ⟨b17, o18, none⟩) (sl l l.length), row CS 1 9 w0.heap.size (.slice A ((nm l l.length).length) c) ((nm l l.length)), els lineC 2 LA l] := st
              have hrx := hrng m (by omega)
              rw [hxx] at hrx
              have hc1 := itS_succ hc (by omega) hxx
              refine wp_seq ?_
              refine wp_seq ?_
              refine reg ?_
              refine lst rfl (ow_v fr (rn_move (fr.ev rfl)) rfl rfl ?_)
              intro a fr
              refine lst rfl (ow_v fr (rn_as (v' := .bool true) (rn_geq (fr.ev rfl) (fr.ev rfl)) (congrArg Value.bool (decide_eq_true (by omega)))) rfl rfl ?_)
              intro a fr
              refine wpList_nil ?_
              refine then_n ?_
              refine cond_t fr rfl rfl ?_
              refine wp_skip ?_
              refine then_n ?_
              refine wp_seq ?_
              refine wp_block ?_
              refine wp_seq ?_
              refine reg ?_
              refine lst rfl (ow_v fr (rn_move (fr.ev rfl)) rfl rfl ?_)
              intro a fr
              refine lst rfl (ow_v fr (rn_add (c := ((i + 1 : Nat) : Int)) (fr.ev rfl) (fr.ev rfl) (wr_i64e (by omega) (by omega) (by omega))) rfl rfl ?_)
              intro a fr
              refine lst rfl (ow_v fr (rn_assign (fr.ev rfl)) rfl rfl ?_)
              intro a fr
              refine wpList_nil ?_
              refine then_n ?_
              refine wp_seq ?_
              refine reg ?_
              refine lst rfl (ow_v fr (rn_move (fr.ev rfl)) rfl rfl ?_)
              intro a fr
              refine lst rfl (ow_v fr (rn_move (fr.ev rfl)) rfl rfl ?_)
              intro a fr
              refine lst rfl (ow_v fr (rn_nilCheck (fr.ev rfl)) rfl rfl ?_)
              intro a fr
              refine lst rfl (ow_v fr (fa_62_1 (fr.ev rfl)) rfl rfl ?_)
              intro a fr
              refine lst rfl (ow_v fr (rn_load (fr.ev rfl) Try.underlying43 rfl (st.cell 1 rfl rfl)) rfl rfl ?_)
              intro a fr
              refine lst rfl (ow_v fr (rn_len (fr.ev rfl) Try.underlying43) rfl rfl ?_)
              intro a fr
              refine lst rfl (ow_v fr (rn_as (v' := .bool false) (rn_gtr (fr.ev rfl) (fr.ev rfl)) (congrArg Value.bool (decide_eq_false (by omega)))) rfl rfl ?_)
              intro a fr
              refine wpList_nil ?_
              refine then_n ?_
              refine cond_f fr rfl rfl ?_
              refine wp_skip ?_
              refine blk_n ?_
              refine then_n ?_
              refine reg ?_
              refine lst rfl (ow_v fr (rn_move (fr.ev rfl)) rfl rfl ?_)
              intro a fr
              refine lst rfl (ow_v fr (rn_nilCheck (fr.ev rfl)) rfl rfl ?_)
              intro a fr
              refine lst rfl (ow_v fr (fa_62_1 (fr.ev rfl)) rfl rfl ?_)
              intro a fr
              refine lst rfl (ow_v fr (rn_load (fr.ev rfl) Try.underlying43 rfl (st.cell 1 rfl rfl)) rfl rfl ?_)
              intro a fr
              refine lst rfl (ow_v fr (rn_move (fr.ev rfl)) rfl rfl ?_)
              intro a fr
              refine lst rfl (ow_v fr (rn_at (i := m) (fr.ev rfl) (fr.ev rfl) Try.underlying43 sz_3 (by omega) (by rfl)) rfl rfl ?_)
              intro a fr
              refine lst rfl (ow_v fr (rn_load (fr.ev rfl) Try.underlying3 rfl (st.rocell 0 rfl (j := 0) rfl)) rfl rfl ?_)
              intro a fr
              refine lst rfl (ow_v fr (rn_assign (fr.ev rfl)) rfl rfl ?_)
              intro a fr
              refine wpList_nil ?_
              refine then_n ⟨(sl l l.length).length + 1 - (i + 1), ?_, i + 1, x, (by omega), (hc1), (by omega), (fun j hj => hpos1 j (by omega)), rfl, fr.prune ⟨rfl, rfl, rfl, rfl, rfl, trivial⟩, st.sub (.cons _ (.cons_cons _ (.cons_cons _ (.cons_cons _ (.cons_cons _ .slnil)))))⟩
              omega
        · have hnc : ¬ Cyc l := fun ⟨j, h1, h2⟩ => by obtain ⟨i, h3, h4⟩ := hok j (by omega); have := h2 i (by omega); omega
          refine wp_seq ?_
          refine wp_seq ?_
          refine reg ?_
          refine lst rfl (ow_v fr (rn_move (fr.ev rfl)) rfl rfl ?_)
          intro a fr
          refine lst rfl (ow_v fr (rn_move (fr.ev rfl)) rfl rfl ?_)
          intro a fr
          refine lst rfl (ow_v fr (rn_nilCheck (fr.ev rfl)) rfl rfl ?_)
          intro a fr
          refine lst rfl (ow_v fr (fa_62_1 (fr.ev rfl)) rfl rfl ?_)
          intro a fr
          refine lst rfl (ow_v fr (rn_load (fr.ev rfl) Try.underlying43 rfl (st.cell 0 rfl rfl)) rfl rfl ?_)
          intro a fr
          refine lst rfl (ow_v fr (rn_len (fr.ev rfl) Try.underlying43) rfl rfl ?_)
          intro a fr
          refine lst rfl (ow_v fr (rn_as (v' := .bool false) (rn_lss (fr.ev rfl) (fr.ev rfl)) (congrArg Value.bool (decide_eq_false (by omega)))) rfl rfl ?_)
          intro a fr
          refine wpList_nil ?_
          refine then_n ?_
          refine cond_f fr rfl rfl ?_
          refine wp_exit ?_
          refine then_x ?_
          refine then_x ?_
          refine blk_x ?_
          refine then_n ?_
          refine wp_seq ?_
          refine reg ?_
          refine lst rfl (ow_v fr (rn_move (fr.ev rfl)) rfl rfl ?_)
          intro a fr
          refine lst rfl (ow_v fr (rn_assign (fr.ev rfl)) rfl rfl ?_)
          intro a fr
          refine lst rfl (ow_v fr (rn_assign (fr.ev rfl)) rfl rfl ?_)
          intro a fr
          refine wpList_nil ?_
          refine then_n ?_
          refine wp_ret ?_
          refine ret2 Try.results14 fr (rv_tmp fr rfl) (rv_tmp fr rfl) ?_
          have hg := (st.get 0 rfl).1.resolve_right (by simp)
          have st := st.weaken 0 rfl (it := ro b3 0 [.slice A ((nm l l.length).length) c, .slice B ((sl l l.length).length) d]) (fun h => by cases h) (fun b hb => hb) (ro_of_blk (st.get 0 rfl))
          replace st : St _ [] w [ro b3 0 [.slice A ((nm l l.length).length) c, .slice B ((sl l l.length).length) d], els CI 1 B (sl l l.length), row CS 1 9 w0.heap.size (.slice A ((nm l l.length).length) c) ((nm l l.length)), els lineC 2 LA l] := st
          have st := st.weaken 2 rfl (it := els CS 1 A (nm l l.length)) (fun h => by cases h) (elsFp_row) (els_of_row (by decide) CS_len (st.get 2 rfl))
          replace st : St _ [] w [ro b3 0 [.slice A ((nm l l.length).length) c, .slice B ((sl l l.length).length) d], els CI 1 B (sl l l.length), els CS 1 A (nm l l.length), els lineC 2 LA l] := st
          have st := st.pick [0, 2, 1] (by decide) (M' := rI b3 A B c d (nm l l.length) (sl l l.length)) rfl
          exact .inr (.inr (.inr (.inr ⟨by omega, hnd, hnm, hnc, b3, A, B, c, d, rfl, st, hg, hA1, hA2⟩)))

end Go.Proofs.Ytnggnacaghcclaa.H5
