import Derived.Test.YtbeinggdiiikcaaG1
import Derived.Test.YtbeinggdiiikcaaLibK2
import Derived.Test.YtbeinggdiiikcaaLibP
import Derived.Test.YtbeinggdiiikcaaLibN
import Derived.Test.YtbeinggdiiikcaaLibH
import Derived.Test.YtbeinggdiiikcaaLibA
import Derived.Test.YtbeinggdiiikcaaLibZ
import Derived.Test.YtbeinggdiiikcaaLibI
import Derived.Test.YtbeinggdiiikcaaLibJ
import Derived.Test.YtbeinggdiiikcaaLibK
set_option linter.unusedVariables false
set_option linter.unusedSimpArgs false
set_option maxRecDepth 100000
namespace Go.Proofs.Ytbeinggdiiikcaa.G2
open Go.RowKit Go.Proofs.Ytbeinggdiiikcaa.LibA Go.Proofs.Ytbeinggdiiikcaa.LibC Go.Proofs.Ytbeinggdiiikcaa.LibS Go.Proofs.Ytbeinggdiiikcaa.LibR Go.Proofs.Ytbeinggdiiikcaa.LibT Go.Proofs.Ytbeinggdiiikcaa.LibU Go.Proofs.Ytbeinggdiiikcaa.LibV Go.Proofs.Ytbeinggdiiikcaa.LibW Go.Proofs.Ytbeinggdiiikcaa.LibX Go.Proofs.Ytbeinggdiiikcaa.LibY Go.Proofs.Ytbeinggdiiikcaa.LibZ Go.Proofs.Ytbeinggdiiikcaa.LibQ Go.Proofs.Ytbeinggdiiikcaa.LibP Go.Proofs.Ytbeinggdiiikcaa.LibN Go.Proofs.Ytbeinggdiiikcaa.LibH Go.Proofs.Ytbeinggdiiikcaa.LibI Go.Proofs.Ytbeinggdiiikcaa.LibJ Go.Proofs.Ytbeinggdiiikcaa.LibK Go.Proofs.Ytbeinggdiiikcaa.LibM Go.Proofs.Ytbeinggdiiikcaa.LibK2 Go.Proofs.Ytbeinggdiiikcaa.G1
abbrev ValD := Int × Int
def valC (v : ValD) : List Value := [.int .i64 v.1, .int .i64 v.2]
/-- t times z, then zeros up to n -/
def repL (z : ValD) (t n : Nat) : List ValD := List.replicate t z ++ List.replicate (n - t) ((0 : Int), (0 : Int))
theorem flat_rep (z : ValD) (a b : Nat) : flat valC (List.replicate (a + b) z) = flat valC (List.replicate a z) ++ flat valC (List.replicate b z) := by
  unfold flat; rw [← List.replicate_append_replicate, List.flatMap_append]
theorem flat_repl (z : ValD) (a : Nat) : (flat valC (List.replicate a z)).length = a * 2 := by
  rw [flat_len (enc := valC) (sz := 2) (fun _ => rfl), List.length_replicate]
theorem repL_len {z : ValD} {t n : Nat} (h : t ≤ n) : (repL z t n).length = n := by unfold repL; simp; omega
theorem repL_all (z : ValD) (n : Nat) : repL z n n = List.replicate n z := by unfold repL; simp
theorem flat_repL (z : ValD) (t n : Nat) : flat valC (repL z t n) = flat valC (List.replicate t z) ++ flat valC (List.replicate (n - t) ((0 : Int), (0 : Int))) := by
  unfold repL flat; rw [List.flatMap_append]
theorem rep_one (z : ValD) (n : Nat) : (flat valC (List.replicate n z)).all (·.oneCell') = true := by
  rw [List.all_eq_true]
  intro v hv
  unfold flat at hv
  obtain ⟨x, _, hx⟩ := List.mem_flatMap.1 hv
  simp [valC] at hx
  rcases hx with rfl | rfl <;> rfl
theorem rep_step {z : ValD} {t k n o : Nat} (ho : o = t * 2) (h : t + k ≤ n) : (flat valC (repL z t n)).take o ++ flat valC (List.replicate k z) ++ (flat valC (repL z t n)).drop (o + (flat valC (List.replicate k z)).length) = flat valC (repL z (t + k) n) := by
  subst ho
  have e : n - t = k + (n - (t + k)) := by omega
  have h1 : (flat valC (repL z t n)).take (t * 2) = flat valC (List.replicate t z) := by
    rw [flat_repL, List.take_left' (flat_repl z t)]
  have h2 : (flat valC (repL z t n)).drop (t * 2 + (flat valC (List.replicate k z)).length) = flat valC (List.replicate (n - (t + k)) ((0 : Int), (0 : Int))) := by
    rw [flat_repl, flat_repL, ← List.drop_drop, List.drop_left' (flat_repl z t), e, flat_rep, List.drop_left' (flat_repl _ k)]
  rw [h1, h2, flat_repL, flat_rep]
theorem rep_src {z : ValD} {t k n : Nat} (h : k ≤ t) : ∀ (q : Nat) (v : Value), (flat valC (List.replicate k z))[q]? = some v → (flat valC (repL z t n))[0 + 0 * 2 + q]? = some v := fun q v hq => by
  rw [show 0 + 0 * 2 + q = q by omega, flat_repL, show t = k + (t - k) by omega, flat_rep, List.append_assoc, List.getElem?_append_left (List.getElem?_eq_some_iff.1 hq).1]
  exact hq
theorem rep_src1 {z : ValD} {k : Nat} (h : k ≤ 1) : ∀ (q : Nat) (v : Value), (flat valC (List.replicate k z))[q]? = some v → (flat valC [z])[q]? = some v := fun q v hq => by
  rcases (by omega : k = 0 ∨ k = 1) with rfl | rfl
  · simp [flat] at hq
  · exact hq
theorem info42 : (Try.prog.info? 42).map (fun i => (i.zero, i.size, i.bytes)) = some (some (.agg #[.int .i64 0, .int .i64 0]), 2, 16) := by kernel_rfl
theorem flat_zero : ∀ n, flat valC (List.replicate n ((0 : Int), (0 : Int))) = List.replicate (n * 2) (.int .i64 0)
  | 0 => rfl
  | n + 1 => by
    rw [List.replicate_succ, show (n + 1) * 2 = n * 2 + 1 + 1 by omega, List.replicate_succ, List.replicate_succ, ← flat_zero n]
    rfl
theorem mkv_run (z : ValD) (n : Nat) (hn : n ≤ 65536) (w : World) : (Instr.makeSlice 76 (.int .i64 (n : Nat)) (.int .i64 (n : Nat))).run Try.prog w = .ok (.slice (some ⟨w.heap.size, 0, none⟩) n n) (w.alloc (.cells (flat valC (repL z 0 n)).toArray 42)) := by
  obtain ⟨i0, hi, hz0, hz1, hz2⟩ := info_parts info42
  have h := run_make (P := Try.prog) w 76 42 i0 (.agg #[.int .i64 0, .int .i64 0]) Try.underlying76 hi hz0 .i64 .i64 ((n : Nat) : Int) ((n : Nat) : Int) (by omega) (Int.le_refl _) (by rw [hz2]; omega) (by omega)
  have e : madeCells #[.int .i64 0, .int .i64 0] (n * 2) = (flat valC (repL z 0 n)).toArray := by
    have e2 : flat valC (repL z 0 n) = List.replicate (n * 2) (.int .i64 0) := by
      unfold repL; rw [List.replicate_zero, List.nil_append, Nat.sub_zero, flat_zero]
    rw [e2]
    apply Array.ext
    · simp [madeCells]
    · intro i h1 h2
      have h3 : i % 2 = 0 ∨ i % 2 = 1 := by omega
      rcases h3 with h3 | h3 <;> simp [madeCells, h3]
  simpa [hz1, Value.cells, e] using h


theorem repeat_calls (za zb : Int) (A0 : Addr) (c n : Nat) (hn : n ≤ 65536) (w0 : World) (hz : Els valC 2 w0 (some A0) [(za, zb)]) : Calls Try.prog 30 #[.slice (some A0) 1 c, .int .i64 (n : Nat)] w0 fun e w' => ∃ A' c', e = .returned (.slice A' n c') ∧ Row valC 2 42 w0.heap.size (.slice A' n c') (List.replicate n (za, zb)) w' ∧ Agr [] w0 w' := by
  have st : St w0 [] w0 [els valC 2 (some A0) [(za, zb)]] := (add_ro (start0 w0 []) (by simp [els, ro, It.wr]) rfl (els_ok (C := valC) (sz := 2) (by decide) (fun x => rfl) hz));clear hz;refine enter Try.func30 rfl Try.ntmps30 (by simp) ?_;intro a fr;refine wp_seq ?_;refine reg ?_;refine as_ fr rfl rfl ?_;intro a fr;refine nil_n ?_;refine wp_seq ?_;refine wp_seq ?_;refine reg ?_;refine mv fr rfl rfl ?_;intro a fr;refine lst rfl (ow_v fr (rn_as (v' := .bool false) (rn_lss (fr.ev rfl) (fr.ev rfl)) (congrArg Value.bool (decide_eq_false (by omega)))) rfl rfl ?_);intro a fr;refine nil_n ?_;refine cond_f fr rfl rfl ?_;refine wp_skip ?_;refine then_n ?_;refine wp_seq ?_;refine reg ?_;refine mv fr rfl rfl ?_;intro a fr;refine lst rfl (ow_v fr (rn_len (fr.ev rfl) Try.underlying76) rfl rfl ?_);intro a fr;refine lst rfl (ow_v fr (rn_conv (c := 1) (fr.ev rfl) (by kernel_rfl) Try.underlying99 (wr_u64 _ (by omega) (by omega))) rfl rfl ?_);intro a fr;refine mv fr rfl rfl ?_;intro a fr;refine lst rfl (ow_v fr (rn_conv (c := (n : Nat)) (fr.ev rfl) (by kernel_rfl) Try.underlying99 (wr_u64 _ (by omega) (by omega))) rfl rfl ?_);intro a fr;refine lst rfl (ow_call fr rfl rfl Try.call50 (mul_calls n (by omega) _) rfl rfl ?_);rintro e w ⟨rfl, hag⟩;refine ⟨_, rfl, ?_⟩;intro a fr;have st := st.keep hag;clear hag;refine mv fr rfl rfl ?_;intro a fr;refine lst rfl (ow_v fr (rn_extract (fr.ev rfl) rfl) rfl rfl ?_);intro a fr;refine lst rfl (ow_v fr (rn_extract (fr.ev rfl) rfl) rfl rfl ?_);intro a fr;refine as_ fr rfl rfl ?_;intro a fr;refine as_ fr rfl rfl ?_;intro a fr;refine nil_n ?_;refine wp_seq ?_;refine wp_seq ?_;refine reg ?_;refine mv fr rfl rfl ?_;intro a fr;refine lst rfl (ow_v fr (rn_as (rn_gtr (fr.ev rfl) (fr.ev rfl)) (by rfl)) rfl rfl ?_);intro a fr;refine mv fr rfl rfl ?_;intro a fr;refine lst_y (wanted_of fr rfl rfl rfl rfl) (ow_v fr (rn_move (fr.ev rfl)) rfl rfl ?_);intro a fr;refine lst_y (wanted_of fr rfl rfl rfl rfl) (ow_v fr (rn_as (v' := .bool false) (rn_gtr (fr.ev rfl) (fr.ev rfl)) (congrArg Value.bool (decide_eq_false (by omega)))) rfl rfl ?_);intro a fr;refine lst rfl (ow_v fr (rn_pick_f (fr.ev rfl) (fr.ev rfl)) rfl rfl ?_);intro a fr;refine nil_n ?_;refine cond_f fr rfl rfl ?_;refine wp_skip ?_;refine then_n ?_;refine wp_seq ?_;refine reg ?_;refine mv fr rfl rfl ?_;intro a fr;refine lst rfl (ow_v fr (rn_conv (c := ((n : Nat) : Int)) (fr.ev rfl) (by kernel_rfl) Try.underlying3 (wr_i64 _ (by omega) (by omega))) rfl rfl ?_);intro a fr;have hmk : ∀ w : World, (Instr.makeSlice 76 (.int .i64 (((n : Nat) : Int))) (.int .i64 (((n : Nat) : Int)))).run Try.prog w = .ok (.slice (some ⟨w.heap.size, 0, none⟩) n n) (w.alloc (.cells ((flat valC (repL (za, zb) 0 n))).toArray 42)) := mkv_run (za, zb) n (by omega);refine lst rfl (ow_make (E := 42) fr st ((flat valC (repL (za, zb) 0 n))) (fun b => .slice (some ⟨b, 0, none⟩) n n) (fun w => by simp only [execOp]; rw [fr.ev (x := .tmp 29) rfl]; simp only [Sem.run_bind, hmk w, Result.andThen_ok, Sem.run_pure]) rfl rfl ?_);intro a w b1 fr st;clear hmk;refine as_ fr rfl rfl ?_;intro a fr;refine nil_n ?_;refine wp_seq ?_;refine reg ?_;refine mv fr rfl rfl ?_;intro a fr;refine mv fr rfl rfl ?_;intro a fr;obtain ⟨k0, hk0⟩ : ∃ k0, k0 = Nat.min 1 n := ⟨_, rfl⟩;have hk0l : k0 ≤ 1 ∧ k0 ≤ n ∧ (k0 = 0 → n = 0) := by rw [hk0]; show min 1 n ≤ 1 ∧ min 1 n ≤ n ∧ (min 1 n = 0 → n = 0); omega
  refine lst rfl (ow_copyC fr st 0 k0 (flat valC (List.replicate k0 (za, zb))) rfl rfl rfl rfl Try.underlying76 sz_42 hk0 (flat_repl _ _) (fun q v hq => els_cells (C := valC) (sz := 2) (by decide) (fun _ => rfl) (st.get 1 rfl).1 rfl q v (rep_src1 (by omega) q v hq)) (by rw [flat_repl, flat_len (enc := valC) (sz := 2) (fun _ => rfl), repL_len (by omega)]; omega) (rep_one _ _) rfl rfl ?_);intro a w fr st;replace st := (show (flat valC (repL (za, zb) 0 n)).take 0 ++ flat valC (List.replicate k0 (za, zb)) ++ (flat valC (repL (za, zb) 0 n)).drop (0 + (flat valC (List.replicate k0 (za, zb))).length) = (flat valC (repL (za, zb) (0 + k0) n)) from rep_step (by omega) (by omega)) ▸ st;replace st : St _ [] w [.blk b1 ((flat valC (repL (za, zb) (0 + k0) n))) 42, els valC 2 (some A0) [(za, zb)]] := st;refine as_ fr rfl rfl ?_;intro a fr;refine nil_n ?_;refine wp_seq ?_;refine wp_block ?_;rw [Nat.zero_add] at st;refine wp_loop_ghost (fun mz a w => ∃ (t : Nat), (t ≤ n) ∧ (t = 0 → n = 0) ∧ mz = n - t ∧ FrL 48 a [(7, .slice (some ⟨b1, 0, none⟩) n n), (8, .int .i64 ((t : Nat)))] ∧ St w0 [] w [.blk b1 ((flat valC (repL (za, zb) t n))) 42, els valC 2 (some A0) [(za, zb)]]) _ ⟨k0, (by omega), (by omega), rfl, fr.prune ⟨rfl, rfl, trivial⟩, st⟩ ?_;clear fr st;intro mz a w hI;obtain ⟨t, ht, ht0, hmz, fr, st⟩ := hI;by_cases hlt : t < n
  · refine wp_seq ?_;refine wp_seq ?_;refine reg ?_;refine mv fr rfl rfl ?_;intro a fr;refine mv fr rfl rfl ?_;intro a fr;refine lst rfl (ow_v fr (rn_len (fr.ev rfl) Try.underlying76) rfl rfl ?_);intro a fr;refine lst rfl (ow_v fr (rn_as (v' := .bool true) (rn_lss (fr.ev rfl) (fr.ev rfl)) (congrArg Value.bool (decide_eq_true (by omega)))) rfl rfl ?_);intro a fr;refine nil_n ?_;refine cond_t fr rfl rfl ?_;refine wp_skip ?_;refine then_n ?_;refine wp_block ?_;obtain ⟨k1, hk1⟩ : ∃ k1, k1 = Nat.min t (n - t) := ⟨_, rfl⟩;have hk1l : k1 ≤ t ∧ t + k1 ≤ n ∧ 0 < k1 := by rw [hk1]; show min t (n - t) ≤ t ∧ t + min t (n - t) ≤ n ∧ 0 < min t (n - t); omega
    refine dr_start (by kernel_rfl) st (.cons _ (.cons_cons _ .slnil)) ?_;intro w st;refine dt 0 rfl (by kernel_rfl) (fun _ _ _ h => h) fr rfl (st.sub (.cons _ (.cons_cons _ .slnil))) (fun w st => rn_move (fr.ev rfl)) rfl rfl ?_;intro a fr;refine dt 1 rfl (by kernel_rfl) (fun _ _ _ h => h) fr rfl (st.sub (.cons _ (.cons_cons _ .slnil))) (fun w st => rn_move (fr.ev rfl)) rfl rfl ?_;intro a fr;refine dt 2 rfl (by kernel_rfl) (fun _ _ _ h => h) fr rfl (st.sub (.cons _ (.cons_cons _ .slnil))) (fun w st => rn_move (fr.ev rfl)) rfl rfl ?_;intro a fr;refine dt 3 rfl (by kernel_rfl) (fun _ _ _ h => h) fr rfl (st.sub (.cons _ (.cons_cons _ .slnil))) (fun w st => rn_as (v' := .slice (some ⟨b1, 0 + t * 2, none⟩) (n - t) (n - t)) (rn_from (lo := t) (fr.ev rfl) (fr.ev rfl) Try.underlying76 sz_42 (by omega)) (by unfold cutA; rw [if_neg (by omega)]; simp [Addr.add] <;> omega)) rfl rfl ?_;intro a fr;refine dt 4 rfl (by kernel_rfl) (fun _ _ _ h => h) fr rfl (st.sub (.cons _ (.cons_cons _ .slnil))) (fun w st => rn_move (fr.ev rfl)) rfl rfl ?_;intro a fr;refine dt 5 rfl (by kernel_rfl) (fun _ _ _ h => h) fr rfl (st.sub (.cons _ (.cons_cons _ .slnil))) (fun w st => rn_move (fr.ev rfl)) rfl rfl ?_;intro a fr;refine dt 6 rfl (by kernel_rfl) (fun _ _ _ h => h) fr rfl (st.sub (.cons _ (.cons_cons _ .slnil))) (fun w st => rn_as (v' := .slice (some ⟨b1, 0 + 0 * 2, none⟩) t n) (rn_upto (hi := t) (fr.ev rfl) (fr.ev rfl) Try.underlying76 sz_42 (by omega)) (by unfold cutA; rw [if_neg (by omega)]; simp [Addr.add])) rfl rfl ?_;intro a fr;refine dr_one 7 (by kernel_rfl) rfl rfl (ow_copyC fr st 0 k1 (flat valC (List.replicate k1 (za, zb))) rfl rfl rfl rfl Try.underlying76 sz_42 hk1 (flat_repl _ _) (blk_src (st.get 0 rfl) (rep_src (by omega))) (by rw [flat_repl, flat_len (enc := valC) (sz := 2) (fun _ => rfl), repL_len (by omega)]; omega) (rep_one _ _) rfl rfl ?_);intro a w fr st;replace st := (show (flat valC (repL (za, zb) t n)).take (0 + t * 2) ++ flat valC (List.replicate k1 (za, zb)) ++ (flat valC (repL (za, zb) t n)).drop ((0 + t * 2) + (flat valC (List.replicate k1 (za, zb))).length) = (flat valC (repL (za, zb) (t + k1) n)) from rep_step (by omega) (by omega)) ▸ st;replace st : St _ [] w [.blk b1 ((flat valC (repL (za, zb) (t + k1) n))) 42, els valC 2 (some A0) [(za, zb)]] := st;refine ⟨st.sub (.cons _ (.cons_cons _ .slnil)), ?_⟩;refine dt 8 rfl (by kernel_rfl) (fun _ _ _ h => h) fr rfl (st.sub (.cons _ (.cons_cons _ .slnil))) (fun w st => rn_add (a := (t : Nat)) (b := (k1 : Nat)) (c := ((t + k1 : Nat) : Int)) (fr.ev rfl) (fr.ev rfl) (wr_i64e (by omega) (by omega) (by omega))) rfl rfl ?_;intro a fr;refine dt 9 rfl (by kernel_rfl) (fun _ _ _ h => h) fr rfl (st.sub (.cons _ (.cons_cons _ .slnil))) (fun w st => rn_assign (fr.ev rfl)) rfl rfl ?_;intro a fr;refine dr_done (by kernel_rfl) ?_;refine blk_n ?_;refine then_n ⟨n - (t + k1), ?_, t + k1, (by omega), (by omega), rfl, fr.prune ⟨rfl, rfl, trivial⟩, st⟩
    omega
  · have hte : t = n := by omega
    subst hte;refine wp_seq ?_;refine wp_seq ?_;refine reg ?_;refine mv fr rfl rfl ?_;intro a fr;refine mv fr rfl rfl ?_;intro a fr;refine lst rfl (ow_v fr (rn_len (fr.ev rfl) Try.underlying76) rfl rfl ?_);intro a fr;refine lst rfl (ow_v fr (rn_as (v' := .bool false) (rn_lss (fr.ev rfl) (fr.ev rfl)) (congrArg Value.bool (decide_eq_false (by omega)))) rfl rfl ?_);intro a fr;refine nil_n ?_;refine cond_f fr rfl rfl ?_;refine wp_exit ?_;refine then_x ?_;refine then_x ?_;refine blk_x ?_;refine then_n ?_;refine wp_seq ?_;refine reg ?_;refine mv fr rfl rfl ?_;intro a fr;refine as_ fr rfl rfl ?_;intro a fr;refine nil_n ?_;refine wp_ret ?_;refine ret1 Try.results30 fr (rv_tmp fr rfl) ?_;exact ⟨_, _, rfl, (by have h := row_of_blk (C := valC) (sz := 2) (xs := repL (za, zb) t t) (fun _ => rfl) (st.get 0 rfl) rfl (repL_len (Nat.le_refl _)).symm (by unfold maxLen; omega) ((st.get 0 rfl).1.resolve_right (by simp)); rw [repL_all] at h; exact h), st.agr⟩

end Go.Proofs.Ytbeinggdiiikcaa.G2
