import Derived.Test.YteiohpbghpmohaaO5
import Derived.Test.YteiohpbghpmohaaLibJ
set_option linter.unusedVariables false
set_option linter.unusedSimpArgs false
namespace Go.Proofs.Yteiohpbghpmohaa.O6
open Go.RowKit Go.Proofs.Yteiohpbghpmohaa.LibA Go.Proofs.Yteiohpbghpmohaa.LibC Go.Proofs.Yteiohpbghpmohaa.LibS Go.Proofs.Yteiohpbghpmohaa.LibR Go.Proofs.Yteiohpbghpmohaa.LibT Go.Proofs.Yteiohpbghpmohaa.LibU Go.Proofs.Yteiohpbghpmohaa.LibV Go.Proofs.Yteiohpbghpmohaa.LibW Go.Proofs.Yteiohpbghpmohaa.LibX Go.Proofs.Yteiohpbghpmohaa.LibY Go.Proofs.Yteiohpbghpmohaa.LibZ Go.Proofs.Yteiohpbghpmohaa.LibQ Go.Proofs.Yteiohpbghpmohaa.LibP Go.Proofs.Yteiohpbghpmohaa.LibN Go.Proofs.Yteiohpbghpmohaa.LibH Go.Proofs.Yteiohpbghpmohaa.LibI Go.Proofs.Yteiohpbghpmohaa.LibJ Go.Proofs.Yteiohpbghpmohaa.O1 Go.Proofs.Yteiohpbghpmohaa.O2 Go.Proofs.Yteiohpbghpmohaa.O3 Go.Proofs.Yteiohpbghpmohaa.O4 Go.Proofs.Yteiohpbghpmohaa.O5
theorem oneN_ok {bs : List UInt8} {k : Nat} {x : InsD} {nx : Int} (h : oneN bs k = (x, nx, 0)) : ∃ m : Nat, nx = m ∧ k < m ∧ m ≤ bs.length ∧ x.1 = k := by
  unfold oneN at h
  by_cases h1 : bs.length ≤ k
  · rw [if_pos h1] at h; simp at h
  · rw [if_neg h1] at h
    cases hr : tblL.find? (fun r : RowD => r.1 == ((ub bs k : Nat) : Int)) with
    | none => rw [hr] at h; simp at h
    | some r =>
      rw [hr] at h
      simp only at h
      by_cases h2 : bs.length < k + 1 + behF r.2.2
      · rw [if_pos h2] at h; simp at h
      · rw [if_neg h2] at h
        by_cases h3 : r.2.2 = 8 ∧ ub bs (k + 1) ≠ 10 ∧ ub bs (k + 1) ≠ 11
        · rw [if_pos h3] at h; simp at h
        · rw [if_neg h3] at h
          simp only [Prod.mk.injEq] at h
          obtain ⟨h4, h5, _⟩ := h
          exact ⟨k + 1 + behF r.2.2, h5.symm, by omega, by omega, by rw [← h4]⟩
def walkN (bs : List UInt8) : Nat → Nat → List InsD × Int
  | 0, _ => ([], 0)
  | n + 1, k => if bs.length ≤ k then ([], 0) else if (oneN bs k).2.2 = 0 then ((oneN bs k).1 :: (walkN bs n (oneN bs k).2.1.toNat).1, (walkN bs n (oneN bs k).2.1.toNat).2) else ([], (oneN bs k).2.2)
/-- the instructions up to the first that is refused -/
def walkF (bs : List UInt8) : List InsD × Int := walkN bs bs.length 0
theorem walk_some {bs : List UInt8} {n k m : Nat} {x : InsD} (hk : k < bs.length) (h : oneN bs k = (x, (m : Int), 0)) : walkN bs (n + 1) k = (x :: (walkN bs n m).1, (walkN bs n m).2) := by
  rw [walkN, if_neg (by omega), h]
  simp
theorem walk_err {bs : List UInt8} {n k : Nat} {x : InsD} {nx er : Int} (hk : k < bs.length) (h : oneN bs k = (x, nx, er)) (he : er ≠ 0) : walkN bs (n + 1) k = ([], er) := by
  rw [walkN, if_neg (by omega), h]
  simp [he]
theorem walk_end {bs : List UInt8} {n k : Nat} (hk : bs.length ≤ k) : walkN bs n k = ([], 0) := by
  cases n with
  | zero => rfl
  | succ n => unfold walkN; rw [if_pos hk]
theorem one_at {bs : List UInt8} {k : Nat} {a b c d nx er : Int} (hr : oneN bs k = ((a, b, c, d), nx, er)) (BA : Option Addr) (bc : Nat) (hbc : bs.length ≤ bc) (hbl : bs.length ≤ 4611686018427387904) (w0 : World) (hx : Els C8 1 w0 BA bs) : Calls Try.prog 13 #[.slice BA bs.length bc, .int .i64 (k : Nat)] w0 fun e w' => e = .returned (.tuple #[.agg #[.int .i64 a, .int .i64 b, .int .i64 c, .int .i64 d], .int .i64 nx, .int .i64 er]) ∧ Agr [] w0 w' :=
  (one_calls bs BA bc hbc hbl k w0 hx).mono fun e w' ⟨h1, h2⟩ => ⟨by rw [h1]; unfold oneF; rw [if_neg (by omega), Int.toNat_natCast, hr]; rfl, h2⟩
theorem rone_at {bs : List UInt8} {k : Nat} {a b c d nx er : Int} (hr : oneN bs k = ((a, b, c, d), nx, er)) (BA : Option Addr) (bc : Nat) (hbc : bs.length ≤ bc) (hbl : bs.length ≤ 4611686018427387904) (w0 : World) (hx : Els C8 1 w0 BA bs) : Calls Try.prog 14 #[.slice BA bs.length bc, .int .i64 (k : Nat)] w0 fun e w' => e = .returned (.tuple #[.agg #[.int .i64 a, .int .i64 b, .int .i64 c, .int .i64 d], .int .i64 nx, .int .i64 er]) ∧ Agr [] w0 w' :=
  (rone_calls bs BA bc hbc hbl k w0 hx).mono fun e w' ⟨h1, h2⟩ => ⟨by rw [h1]; unfold oneF; rw [if_neg (by omega), Int.toNat_natCast, hr]; rfl, h2⟩
abbrev kI (x : Int) : Value := .int .i64 x
abbrev vB (b : Bool) : Value := .bool b
theorem sameI : ∀ a b : Int, Instr.sameNow (.int .i64) (kI a) (kI b) = some (a == b) := fun _ _ => rfl
def bgn (l : List InsD) : List (Int × Bool) := l.map fun x => (x.1, true)
theorem bgn_snoc {l : List InsD} {x : InsD} {k : Int} (h : x.1 = k) : bgn l ++ [(k, true)] = bgn (l ++ [x]) := by subst h; simp [bgn]
theorem bgn_new {l : List InsD} {k : Int} (h : ∀ x ∈ l, x.1 < k) : lkp (bgn l) k = none := by
  unfold lkp bgn
  rw [Option.map_eq_none_iff, List.find?_eq_none]
  intro p hp
  obtain ⟨x, hx, rfl⟩ := List.mem_map.1 hp
  have := h x hx
  simp
  omega
theorem lkp_bgn (l : List InsD) (a : Int) : lkp (bgn l) a = if l.any (fun y => y.1 == a) then some true else none := by
  induction l with
  | nil => rfl
  | cons x r ih =>
    unfold lkp bgn at ih ⊢
    rw [List.map_cons, List.find?_cons, List.any_cons]
    by_cases h : x.1 = a
    · subst h; simp
    · have h1 : (a == x.1) = false := by simp; exact fun e => h e.symm
      have h2 : (x.1 == a) = false := by simp [h]
      rw [h2, Bool.false_or, ← ih]
      simp only [h1]
/-- a jump to where no instruction begins -/
def badJ (l : List InsD) (x : InsD) : Bool := jmp x.2.1 && !(l.any fun y => y.1 == x.2.2.1)
def decF (bs : List UInt8) : List InsD × Int :=
  if 4096 < bs.length then ([], 3) else if bs.length = 0 then ([], 11) else if (walkF bs).2 = 0 then (if (walkF bs).1.any (badJ (walkF bs).1) then ([], 12) else ((walkF bs).1, 0)) else ([], (walkF bs).2)
theorem jumps_is (op : Int) (b : Bool) (h : jmp op = b) (w0 : World) : Calls Try.prog 41 #[.int .i64 op] w0 fun e w' => e = .returned (.bool b) ∧ Agr [] w0 w' := h ▸ jumps_calls op w0
theorem rjumps_is (op : Int) (b : Bool) (h : jmp op = b) (w0 : World) : Calls Try.prog 42 #[.int .i64 op] w0 fun e w' => e = .returned (.bool b) ∧ Agr [] w0 w' := h ▸ rjumps_calls op w0

theorem inf_29 : (Try.prog.info? 29).map (fun i => (i.zero, i.size, i.bytes)) = some (some (.agg #[.int .i64 0, .int .i64 0, .int .i64 0, .int .i64 0]), 4, 32) := by kernel_rfl
theorem sz_59 : (Try.prog.info? 59).map (·.size) = some 1 := by kernel_rfl
theorem zv_4 : ∀ w : World, (zeroValue 4).run Try.prog w = .ok (.bool false) w := fun w => by kernel_rfl
theorem zv_59 : ∀ w : World, (zeroValue 59).run Try.prog w = .ok (.map none) w := fun w => by kernel_rfl
theorem walk_calls (bs : List UInt8) (BA : Option Addr) (bc : Nat) (hbc : bs.length ≤ bc) (hbl : bs.length * 32 ≤ 140737488355328) (w0 : World) (hx : Els C8 1 w0 BA bs) : Calls Try.prog 15 #[.slice BA bs.length bc] w0 fun e w' => ∃ A c, e = .returned (.tuple #[.slice A (walkF bs).1.length c, .int .i64 (walkF bs).2]) ∧ Row insC 4 29 w0.heap.size (.slice A (walkF bs).1.length c) (walkF bs).1 w' ∧ Agr [] w0 w' := by
  have st : St w0 [] w0 [els C8 1 BA bs] := (add_ro (start0 w0 []) (by simp [els, ro, It.wr]) rfl (els_ok (C := C8) (sz := 1) (by decide) (fun x => rfl) hx))
  clear hx
  refine enter Try.func15 rfl Try.ntmps15 (by simp) ?_
  intro a fr
  refine wp_seq ?_
  refine reg ?_
  refine lst rfl (ow_v fr (rn_assign (fr.ev rfl)) rfl rfl ?_)
  intro a fr
  refine lst rfl (ow_v fr (rn_assign (fr.ev rfl)) rfl rfl ?_)
  intro a fr
  refine wpList_nil ?_
  refine then_n ?_
  refine wp_seq ?_
  refine reg ?_
  refine lst rfl (ow_v fr (rn_assign (fr.ev rfl)) rfl rfl ?_)
  intro a fr
  refine wpList_nil ?_
  refine then_n ?_
  refine wp_seq ?_
  refine wp_seq ?_
  refine reg ?_
  refine lst rfl (ow_v fr (rn_assign (fr.ev rfl)) rfl rfl ?_)
  intro a fr
  refine wpList_nil ?_
  refine then_n ?_
  refine wp_block ?_
  have st := st.nil (E := InsD) insC 4 29 w0.heap.size (Nat.le_refl _)
  refine wp_loop_ghost (fun mz a w => ∃ (k : Nat) (n : Nat) (pre : List InsD) (A : Option Addr) (c : Nat), (walkF bs = (pre ++ (walkN bs n k).1, (walkN bs n k).2)) ∧ (bs.length ≤ k + n) ∧ (k ≤ bs.length) ∧ (pre.length ≤ k) ∧ (∀ x ∈ pre, x.1 < (k : Int)) ∧ mz = bs.length - k ∧ FrL 30 a [(0, .slice BA bs.length bc), (4, .slice A pre.length c), (5, .int .i64 ((k : Nat)))] ∧ St w0 [] w [row insC 4 29 w0.heap.size (.slice A pre.length c) pre, els C8 1 BA bs]) _ ⟨0, bs.length, [], none, 0, (by unfold walkF; simp), (by omega), (Nat.zero_le _), (Nat.le_refl _), (by simp), rfl, fr.prune ⟨rfl, rfl, rfl, trivial⟩, st⟩ ?_
  clear fr st
  intro mz a w hI
  obtain ⟨k, n, pre, A, c, hW, hn, hk, hp, hlo, hmz, fr, st⟩ := hI
  by_cases hlt : k < bs.length
  · obtain ⟨n1, rfl⟩ : ∃ n1, n = n1 + 1 := ⟨n - 1, by omega⟩
    obtain ⟨x0, x1, x2, x3, nx, er, hr⟩ : ∃ x0 x1 x2 x3 nx er, oneN bs k = ((x0, x1, x2, x3), nx, er) := ⟨_, _, _, _, _, _, rfl⟩
    by_cases her : er = 0
    · subst her
      obtain ⟨m, rfl, hm1, hm2, hm3⟩ := oneN_ok hr
      refine wp_seq ?_
      refine wp_seq ?_
      refine reg ?_
      refine lst rfl (ow_v fr (rn_move (fr.ev rfl)) rfl rfl ?_)
      intro a fr
      refine lst rfl (ow_v fr (rn_move (fr.ev rfl)) rfl rfl ?_)
      intro a fr
      refine lst rfl (ow_v fr (rn_len (fr.ev rfl) Try.underlying22) rfl rfl ?_)
      intro a fr
      refine lst rfl (ow_v fr (rn_as (v' := .bool true) (rn_lss (fr.ev rfl) (fr.ev rfl)) (congrArg Value.bool (decide_eq_true (by omega)))) rfl rfl ?_)
      intro a fr
      refine wpList_nil ?_
      refine then_n ?_
      refine cond_t fr rfl rfl ?_
      refine wp_skip ?_
      refine then_n ?_
      refine wp_block ?_
      refine wp_seq ?_
      refine reg ?_
      refine lst rfl (ow_v fr (rn_move (fr.ev rfl)) rfl rfl ?_)
      intro a fr
      refine lst rfl (ow_v fr (rn_move (fr.ev rfl)) rfl rfl ?_)
      intro a fr
      refine lst rfl (ow_call fr rfl rfl Try.call14 (rone_at hr _ _ hbc (by omega) _ (st.get 1 rfl).1) rfl rfl ?_)
      rintro e w ⟨rfl, hag⟩
      refine ⟨_, rfl, ?_⟩
      intro a fr
      have st := st.keep hag
      clear hag
      refine lst rfl (ow_v fr (rn_move (fr.ev rfl)) rfl rfl ?_)
      intro a fr
      refine lst rfl (ow_v fr (rn_extract (fr.ev rfl) rfl) rfl rfl ?_)
      intro a fr
      refine lst rfl (ow_v fr (rn_extract (fr.ev rfl) rfl) rfl rfl ?_)
      intro a fr
      refine lst rfl (ow_v fr (rn_extract (fr.ev rfl) rfl) rfl rfl ?_)
      intro a fr
      refine lst rfl (ow_alloc fr st rfl zv_29 rfl rfl _ (by rfl) ?_)
      intro a w b1 fr st
      refine lst rfl (ow_stN fr st 0 (vs := [.int .i64 (x0), .int .i64 (x1), .int .i64 (x2), .int .i64 (x3)]) rfl rfl rfl rfl sz_29 rfl (Nat.le_of_ble_eq_true rfl) rfl ?_)
      intro w (st : St _ [] w [.blk b1 [.int .i64 (x0), .int .i64 (x1), .int .i64 (x2), .int .i64 (x3)] 29, row insC 4 29 w0.heap.size (.slice A pre.length c) pre, els C8 1 BA bs])
      refine lst rfl (ow_v fr (rn_assign (fr.ev rfl)) rfl rfl ?_)
      intro a fr
      refine lst rfl (ow_v fr (rn_assign (fr.ev rfl)) rfl rfl ?_)
      intro a fr
      refine wpList_nil ?_
      refine then_n ?_
      refine wp_seq ?_
      refine wp_seq ?_
      refine reg ?_
      refine lst rfl (ow_v fr (rn_move (fr.ev rfl)) rfl rfl ?_)
      intro a fr
      refine lst rfl (ow_v fr (rn_as (rn_neq (fr.ev rfl) (fr.ev rfl)) (by rfl)) rfl rfl ?_)
      intro a fr
      refine wpList_nil ?_
      refine then_n ?_
      refine cond_f fr rfl rfl ?_
      refine wp_skip ?_
      refine then_n ?_
      refine wp_seq ?_
      refine reg ?_
      refine lst rfl (ow_v fr (rn_move (fr.ev rfl)) rfl rfl ?_)
      intro a fr
      refine lst rfl (ow_v fr (rn_loadN (cs := [.int .i64 (x0), .int .i64 (x1), .int .i64 (x2), .int .i64 (x3)]) (fr.ev rfl) Try.underlying29 rfl sz_29 (st.blkrange 0 rfl 0 rfl)) rfl rfl ?_)
      intro a fr
      refine lst rfl (ow_bslice (E := 29) fr st rfl [.int .i64 (x0), .int .i64 (x1), .int .i64 (x2), .int .i64 (x3)] (fun w => by simp only [List.map_toArray, List.map_cons, List.map_nil]; rw [fr.ev (x := .tmp 25) rfl]; kernel_rfl) rfl rfl ?_)
      intro a w b2 fr st
      refine lst rfl (ow_append1 fr st 2 0 (((x0, x1, x2, x3) : InsD)) rfl rfl rfl rfl rfl Try.underlying24 inf_29 (by rfl) (by decide) (fun _ => rfl) rfl (by omega) (by unfold maxLen; omega) (Nat.le_refl _) st.agr.size rfl rfl ?_)
      intro a w Ax3 cx4 fr (st : St _ [] w [.blk b2 [.int .i64 (x0), .int .i64 (x1), .int .i64 (x2), .int .i64 (x3)] 29, .blk b1 [.int .i64 (x0), .int .i64 (x1), .int .i64 (x2), .int .i64 (x3)] 29, row insC 4 29 w0.heap.size (.slice Ax3 ((pre ++ [((x0, x1, x2, x3) : InsD)]).length) cx4) ((pre ++ [((x0, x1, x2, x3) : InsD)])), els C8 1 BA bs])
      refine lst rfl (ow_v fr (rn_assign (fr.ev rfl)) rfl rfl ?_)
      intro a fr
      refine wpList_nil ?_
      refine then_n ?_
      refine reg ?_
      refine lst rfl (ow_v fr (rn_move (fr.ev rfl)) rfl rfl ?_)
      intro a fr
      refine lst rfl (ow_v fr (rn_assign (fr.ev rfl)) rfl rfl ?_)
      intro a fr
      refine wpList_nil ?_
      refine blk_n ?_
      refine then_n ⟨bs.length - m, ?_, m, n1, (pre ++ [((x0, x1, x2, x3) : InsD)]), Ax3, cx4, (by rw [hW, walk_some hlt hr]; simp), (by omega), (hm2), (by simp; omega), (fun x hx => by rcases List.mem_append.1 hx with h | h; exact Int.lt_trans (hlo x h) (by omega); simp at h; subst h; simp at hm3; simp; omega), rfl, fr.prune ⟨rfl, rfl, rfl, trivial⟩, st.sub (.cons _ (.cons _ (.cons_cons _ (.cons_cons _ .slnil))))⟩
      omega
    · refine wp_seq ?_
      refine wp_seq ?_
      refine reg ?_
      refine lst rfl (ow_v fr (rn_move (fr.ev rfl)) rfl rfl ?_)
      intro a fr
      refine lst rfl (ow_v fr (rn_move (fr.ev rfl)) rfl rfl ?_)
      intro a fr
      refine lst rfl (ow_v fr (rn_len (fr.ev rfl) Try.underlying22) rfl rfl ?_)
      intro a fr
      refine lst rfl (ow_v fr (rn_as (v' := .bool true) (rn_lss (fr.ev rfl) (fr.ev rfl)) (congrArg Value.bool (decide_eq_true (by omega)))) rfl rfl ?_)
      intro a fr
      refine wpList_nil ?_
      refine then_n ?_
      refine cond_t fr rfl rfl ?_
      refine wp_skip ?_
      refine then_n ?_
      refine wp_block ?_
      refine wp_seq ?_
      refine reg ?_
      refine lst rfl (ow_v fr (rn_move (fr.ev rfl)) rfl rfl ?_)
      intro a fr
      refine lst rfl (ow_v fr (rn_move (fr.ev rfl)) rfl rfl ?_)
      intro a fr
      refine lst rfl (ow_call fr rfl rfl Try.call14 (rone_at hr _ _ hbc (by omega) _ (st.get 1 rfl).1) rfl rfl ?_)
      rintro e w ⟨rfl, hag⟩
      refine ⟨_, rfl, ?_⟩
      intro a fr
      have st := st.keep hag
      clear hag
      refine lst rfl (ow_v fr (rn_move (fr.ev rfl)) rfl rfl ?_)
      intro a fr
      refine lst rfl (ow_v fr (rn_extract (fr.ev rfl) rfl) rfl rfl ?_)
      intro a fr
      refine lst rfl (ow_v fr (rn_extract (fr.ev rfl) rfl) rfl rfl ?_)
      intro a fr
      refine lst rfl (ow_v fr (rn_extract (fr.ev rfl) rfl) rfl rfl ?_)
      intro a fr
      refine lst rfl (ow_alloc fr st rfl zv_29 rfl rfl _ (by rfl) ?_)
      intro a w b5 fr st
      refine lst rfl (ow_stN fr st 0 (vs := [.int .i64 (x0), .int .i64 (x1), .int .i64 (x2), .int .i64 (x3)]) rfl rfl rfl rfl sz_29 rfl (Nat.le_of_ble_eq_true rfl) rfl ?_)
      intro w (st : St _ [] w [.blk b5 [.int .i64 (x0), .int .i64 (x1), .int .i64 (x2), .int .i64 (x3)] 29, row insC 4 29 w0.heap.size (.slice A pre.length c) pre, els C8 1 BA bs])
      refine lst rfl (ow_v fr (rn_assign (fr.ev rfl)) rfl rfl ?_)
      intro a fr
      refine lst rfl (ow_v fr (rn_assign (fr.ev rfl)) rfl rfl ?_)
      intro a fr
      refine wpList_nil ?_
      refine then_n ?_
      refine wp_seq ?_
      refine wp_seq ?_
      refine reg ?_
      refine lst rfl (ow_v fr (rn_move (fr.ev rfl)) rfl rfl ?_)
      intro a fr
      refine lst rfl (ow_v fr (rn_as (v' := .bool true) (rn_neq (fr.ev rfl) (fr.ev rfl)) (congrArg Value.bool (by simpa using her))) rfl rfl ?_)
      intro a fr
      refine wpList_nil ?_
      refine then_n ?_
      refine cond_t fr rfl rfl ?_
      refine wp_seq ?_
      refine reg ?_
      refine lst rfl (ow_v fr (rn_move (fr.ev rfl)) rfl rfl ?_)
      intro a fr
      refine lst rfl (ow_v fr (rn_move (fr.ev rfl)) rfl rfl ?_)
      intro a fr
      refine lst rfl (ow_v fr (rn_assign (fr.ev rfl)) rfl rfl ?_)
      intro a fr
      refine lst rfl (ow_v fr (rn_assign (fr.ev rfl)) rfl rfl ?_)
      intro a fr
      refine wpList_nil ?_
      refine then_n ?_
      refine wp_ret ?_
      refine then_r ?_
      refine blk_r ?_
      refine then_r ?_
      refine blk_r ?_
      refine then_r ?_
      refine ret2 Try.results15 fr (rv_tmp fr rfl) (rv_tmp fr rfl) ?_
      have hF : walkF bs = (pre, er) := by rw [hW, walk_err hlt hr her]; simp
      rw [hF]
      exact ⟨A, c, rfl, (st.get 1 rfl).1, st.agr⟩
  · refine wp_seq ?_
    refine wp_seq ?_
    refine reg ?_
    refine lst rfl (ow_v fr (rn_move (fr.ev rfl)) rfl rfl ?_)
    intro a fr
    refine lst rfl (ow_v fr (rn_move (fr.ev rfl)) rfl rfl ?_)
    intro a fr
    refine lst rfl (ow_v fr (rn_len (fr.ev rfl) Try.underlying22) rfl rfl ?_)
    intro a fr
    refine lst rfl (ow_v fr (rn_as (v' := .bool false) (rn_lss (fr.ev rfl) (fr.ev rfl)) (congrArg Value.bool (decide_eq_false (by omega)))) rfl rfl ?_)
    intro a fr
    refine wpList_nil ?_
    refine then_n ?_
    refine cond_f fr rfl rfl ?_
    refine wp_exit ?_
    refine then_x ?_
    refine then_x ?_
    refine blk_x ?_
    refine then_n ?_
    refine wp_seq ?_
    refine reg ?_
    refine lst rfl (ow_v fr (rn_move (fr.ev rfl)) rfl rfl ?_)
    intro a fr
    refine lst rfl (ow_v fr (rn_assign (fr.ev rfl)) rfl rfl ?_)
    intro a fr
    refine lst rfl (ow_v fr (rn_assign (fr.ev rfl)) rfl rfl ?_)
    intro a fr
    refine wpList_nil ?_
    refine then_n ?_
    refine wp_ret ?_
    refine ret2 Try.results15 fr (rv_tmp fr rfl) (rv_tmp fr rfl) ?_
    have hF : walkF bs = (pre, 0) := by rw [hW, walk_end (by omega)]; simp
    rw [hF]
    exact ⟨A, c, rfl, (st.get 0 rfl).1, st.agr⟩

theorem bad_calls (x0 x1 x2 x3 : Int) (l : List InsD) (bm b : Nat) (w0 : World) (hb : (ro bm 0 [(.map (some b))]).ok w0 [] w0) (hm : (mapRo kI vB b ((bgn l))).ok w0 [] w0) : Calls Try.prog 40 #[.agg (insC (x0, x1, x2, x3)).toArray, .pointer (some ⟨bm, 0, none⟩)] w0 fun e w' => e = .returned (.bool (badJ l (x0, x1, x2, x3))) ∧ Agr [] w0 w' := by
  have st : St w0 [] w0 [ro bm 0 [(.map (some b))], mapRo kI vB b ((bgn l))] := add_ro (add_ro (start0 w0 []) (by simp) rfl hm) (by simp [mapRo, It.wr]) rfl hb
  by_cases hj : jmp x1 = true
  · by_cases ha : (l.any fun y => y.1 == x2) = true
    · refine enter Try.func40 rfl Try.ntmps40 (by simp) ?_
      intro a fr
      refine wp_seq ?_
      refine reg ?_
      refine lst rfl (ow_box fr st rfl rfl rfl rfl ([.int .i64 (x0), .int .i64 (x1), .int .i64 (x2), .int .i64 (x3)]) (by rfl) ?_)
      intro a w b1 fr st
      refine lst rfl (ow_v fr (rn_assign (fr.ev rfl)) rfl rfl ?_)
      intro a fr
      refine wpList_nil ?_
      refine then_n ?_
      refine wp_seq ?_
      refine reg ?_
      refine lst rfl (ow_v fr (fa_29_1 (fr.ev rfl)) rfl rfl ?_)
      intro a fr
      refine lst rfl (ow_v fr (rn_load (fr.ev rfl) Try.underlying3 rfl (st.cell 0 rfl rfl)) rfl rfl ?_)
      intro a fr
      refine lst rfl (ow_call fr rfl rfl Try.call41 (jumps_is x1 _ hj _) rfl rfl ?_)
      rintro e w ⟨rfl, hag⟩
      refine ⟨_, rfl, ?_⟩
      intro a fr
      have st := st.keep hag
      clear hag
      refine lst rfl (ow_v fr (rn_move (fr.ev rfl)) rfl rfl ?_)
      intro a fr
      refine lst_y (wanted_of fr rfl rfl rfl rfl) (ow_v fr (rn_load (fr.ev rfl) Try.underlying59 rfl (st.rocell 1 rfl (j := 0) rfl)) rfl rfl ?_)
      intro a fr
      refine lst_y (wanted_of fr rfl rfl rfl rfl) (ow_v fr (fa_29_2 (fr.ev rfl)) rfl rfl ?_)
      intro a fr
      refine lst_y (wanted_of fr rfl rfl rfl rfl) (ow_v fr (rn_load (fr.ev rfl) Try.underlying3 rfl (st.cell 0 rfl rfl)) rfl rfl ?_)
      intro a fr
      refine lst_y (wanted_of fr rfl rfl rfl rfl) (ow_v fr (rn_as (v' := .bool true) (rn_lookup1 (kf := kI) (vf := vB) (k := x2) (l := (bgn l)) (fr.ev rfl) (fr.ev rfl) Try.underlying59 Try.underlying3 sameI (fun e w => by kernel_rfl) zv_4 (st.get 2 rfl).1) (by rw [lkp_bgn, ha, if_pos rfl])) rfl rfl ?_)
      intro a fr
      refine lst_y (wanted_of fr rfl rfl rfl rfl) (ow_v fr (rn_not (fr.ev rfl)) rfl rfl ?_)
      intro a fr
      refine lst rfl (ow_v fr (rn_pick_t (fr.ev rfl) (fr.ev rfl)) rfl rfl ?_)
      intro a fr
      refine lst rfl (ow_v fr (rn_assign (fr.ev rfl)) rfl rfl ?_)
      intro a fr
      refine wpList_nil ?_
      refine then_n ?_
      refine wp_ret ?_
      refine ret1 Try.results40 fr (rv_tmp fr rfl) ?_
      exact ⟨by unfold badJ; simp only [hj, ha]; rfl, st.agr⟩
    · replace ha := Bool.eq_false_iff.2 ha
      refine enter Try.func40 rfl Try.ntmps40 (by simp) ?_
      intro a fr
      refine wp_seq ?_
      refine reg ?_
      refine lst rfl (ow_box fr st rfl rfl rfl rfl ([.int .i64 (x0), .int .i64 (x1), .int .i64 (x2), .int .i64 (x3)]) (by rfl) ?_)
      intro a w b1 fr st
      refine lst rfl (ow_v fr (rn_assign (fr.ev rfl)) rfl rfl ?_)
      intro a fr
      refine wpList_nil ?_
      refine then_n ?_
      refine wp_seq ?_
      refine reg ?_
      refine lst rfl (ow_v fr (fa_29_1 (fr.ev rfl)) rfl rfl ?_)
      intro a fr
      refine lst rfl (ow_v fr (rn_load (fr.ev rfl) Try.underlying3 rfl (st.cell 0 rfl rfl)) rfl rfl ?_)
      intro a fr
      refine lst rfl (ow_call fr rfl rfl Try.call41 (jumps_is x1 _ hj _) rfl rfl ?_)
      rintro e w ⟨rfl, hag⟩
      refine ⟨_, rfl, ?_⟩
      intro a fr
      have st := st.keep hag
      clear hag
      refine lst rfl (ow_v fr (rn_move (fr.ev rfl)) rfl rfl ?_)
      intro a fr
      refine lst_y (wanted_of fr rfl rfl rfl rfl) (ow_v fr (rn_load (fr.ev rfl) Try.underlying59 rfl (st.rocell 1 rfl (j := 0) rfl)) rfl rfl ?_)
      intro a fr
      refine lst_y (wanted_of fr rfl rfl rfl rfl) (ow_v fr (fa_29_2 (fr.ev rfl)) rfl rfl ?_)
      intro a fr
      refine lst_y (wanted_of fr rfl rfl rfl rfl) (ow_v fr (rn_load (fr.ev rfl) Try.underlying3 rfl (st.cell 0 rfl rfl)) rfl rfl ?_)
      intro a fr
      refine lst_y (wanted_of fr rfl rfl rfl rfl) (ow_v fr (rn_as (v' := .bool false) (rn_lookup1 (kf := kI) (vf := vB) (k := x2) (l := (bgn l)) (fr.ev rfl) (fr.ev rfl) Try.underlying59 Try.underlying3 sameI (fun e w => by kernel_rfl) zv_4 (st.get 2 rfl).1) (by rw [lkp_bgn, ha, if_neg (by simp)])) rfl rfl ?_)
      intro a fr
      refine lst_y (wanted_of fr rfl rfl rfl rfl) (ow_v fr (rn_not (fr.ev rfl)) rfl rfl ?_)
      intro a fr
      refine lst rfl (ow_v fr (rn_pick_t (fr.ev rfl) (fr.ev rfl)) rfl rfl ?_)
      intro a fr
      refine lst rfl (ow_v fr (rn_assign (fr.ev rfl)) rfl rfl ?_)
      intro a fr
      refine wpList_nil ?_
      refine then_n ?_
      refine wp_ret ?_
      refine ret1 Try.results40 fr (rv_tmp fr rfl) ?_
      exact ⟨by unfold badJ; simp only [hj, ha]; rfl, st.agr⟩
  · replace hj := Bool.eq_false_iff.2 hj
    refine enter Try.func40 rfl Try.ntmps40 (by simp) ?_
    intro a fr
    refine wp_seq ?_
    refine reg ?_
    refine lst rfl (ow_box fr st rfl rfl rfl rfl ([.int .i64 (x0), .int .i64 (x1), .int .i64 (x2), .int .i64 (x3)]) (by rfl) ?_)
    intro a w b1 fr st
    refine lst rfl (ow_v fr (rn_assign (fr.ev rfl)) rfl rfl ?_)
    intro a fr
    refine wpList_nil ?_
    refine then_n ?_
    refine wp_seq ?_
    refine reg ?_
    refine lst rfl (ow_v fr (fa_29_1 (fr.ev rfl)) rfl rfl ?_)
    intro a fr
    refine lst rfl (ow_v fr (rn_load (fr.ev rfl) Try.underlying3 rfl (st.cell 0 rfl rfl)) rfl rfl ?_)
    intro a fr
    refine lst rfl (ow_call fr rfl rfl Try.call41 (jumps_is x1 _ hj _) rfl rfl ?_)
    rintro e w ⟨rfl, hag⟩
    refine ⟨_, rfl, ?_⟩
    intro a fr
    have st := st.keep hag
    clear hag
    refine lst rfl (ow_v fr (rn_move (fr.ev rfl)) rfl rfl ?_)
    intro a fr
    refine lst_n (unwanted_of fr rfl rfl rfl rfl) fr rfl rfl ?_
    intro a fr
    refine lst_n (unwanted_of fr rfl rfl rfl rfl) fr rfl rfl ?_
    intro a fr
    refine lst_n (unwanted_of fr rfl rfl rfl rfl) fr rfl rfl ?_
    intro a fr
    refine lst_n (unwanted_of fr rfl rfl rfl rfl) fr rfl rfl ?_
    intro a fr
    refine lst_n (unwanted_of fr rfl rfl rfl rfl) fr rfl rfl ?_
    intro a fr
    refine lst rfl (ow_v fr (rn_pick_f (fr.ev rfl) (fr.ev rfl)) rfl rfl ?_)
    intro a fr
    refine lst rfl (ow_v fr (rn_assign (fr.ev rfl)) rfl rfl ?_)
    intro a fr
    refine wpList_nil ?_
    refine then_n ?_
    refine wp_ret ?_
    refine ret1 Try.results40 fr (rv_tmp fr rfl) ?_
    exact ⟨by unfold badJ; simp only [hj]; rfl, st.agr⟩

theorem idxbad_calls (l : List InsD) (A : Option Addr) (c bm b : Nat) (hl : l.length ≤ 9223372036854775807) (w0 : World) (ha : Els insC 4 w0 A l) (hb : (ro bm 0 [(.map (some b))]).ok w0 [] w0) (hm : (mapRo kI vB b ((bgn l))).ok w0 [] w0) : Calls Try.prog 57 #[.slice A l.length c, (.func (.func 40) #[] #[.pointer (some ⟨bm, 0, none⟩)])] w0 fun e w' => (∃ r : Int, e = .returned (.int .i64 r) ∧ (0 ≤ r ↔ l.any (badJ l) = true)) ∧ Agr [] w0 w' := by
  have st : St w0 [] w0 [els insC 4 A l, ro bm 0 [(.map (some b))], mapRo kI vB b ((bgn l))] := add_ro (add_ro (add_ro (start0 w0 []) (by simp) rfl hm) (by simp [mapRo, It.wr]) rfl hb) (by simp [mapRo, ro, It.wr]) rfl (els_ok (C := insC) (sz := 4) (by decide) (fun x => rfl) ha)
  clear ha hb hm
  refine enter Try.func57 rfl Try.ntmps57 (by simp) ?_
  intro a fr
  refine wp_seq ?_
  refine reg ?_
  refine lst rfl (ow_v fr (rn_assign (fr.ev rfl)) rfl rfl ?_)
  intro a fr
  refine wpList_nil ?_
  refine then_n ?_
  refine wp_seq ?_
  refine wp_seq ?_
  refine reg ?_
  refine lst rfl (ow_v fr (rn_move (fr.ev rfl)) rfl rfl ?_)
  intro a fr
  refine lst rfl (ow_v fr (rn_len (fr.ev rfl) Try.underlying24) rfl rfl ?_)
  intro a fr
  refine lst rfl (ow_v fr (rn_move (fr.ev rfl)) rfl rfl ?_)
  intro a fr
  refine wpList_nil ?_
  refine then_n ?_
  refine wp_block ?_
  refine wp_loop_ghost (fun mz a w => ∃ (j : Nat), (j ≤ l.length) ∧ (∀ i, i < j → ∀ h : i < l.length, badJ l l[i] = false) ∧ mz = l.length - j ∧ FrL 19 a [(0, .slice A l.length c), (1, (.func (.func 40) #[] #[.pointer (some ⟨bm, 0, none⟩)])), (7, .int .i64 ((l.length : Nat))), (8, .int .i64 ((j : Nat)))] ∧ St w0 [] w [els insC 4 A l, ro bm 0 [(.map (some b))], mapRo kI vB b ((bgn l))]) _ ⟨0, (Nat.zero_le _), (fun i hi => absurd hi (Nat.not_lt_zero _)), rfl, fr.prune ⟨rfl, rfl, rfl, rfl, trivial⟩, st⟩ ?_
  clear fr st
  intro mz a w hI
  obtain ⟨j, hj, hJ, hmz, fr, st⟩ := hI
  by_cases hlt : j < l.length
  · by_cases hq : badJ l l[j] = true
    · refine wp_seq ?_
      refine reg ?_
      refine lst rfl (ow_v fr (rn_as (v' := .bool true) (rn_lss (fr.ev rfl) (fr.ev rfl)) (congrArg Value.bool (decide_eq_true (by omega)))) rfl rfl ?_)
      intro a fr
      refine wpList_nil ?_
      refine then_n ?_
      refine wp_seq ?_
      refine cond_t fr rfl rfl ?_
      refine wp_skip ?_
      refine then_n ?_
      refine wp_seq ?_
      refine wp_block ?_
      refine wp_seq ?_
      refine reg ?_
      refine lst rfl (ow_v fr (rn_move (fr.ev rfl)) rfl rfl ?_)
      intro a fr
      refine lst rfl (ow_v fr (rn_assign (fr.ev rfl)) rfl rfl ?_)
      intro a fr
      refine wpList_nil ?_
      refine then_n ?_
      refine wp_seq ?_
      refine reg ?_
      refine lst rfl (ow_v fr (rn_move (fr.ev rfl)) rfl rfl ?_)
      intro a fr
      refine lst rfl (ow_v fr (rn_move (fr.ev rfl)) rfl rfl ?_)
      intro a fr
      refine lst rfl (ow_v fr (rn_move (fr.ev rfl)) rfl rfl ?_)
      intro a fr
      obtain ⟨b1, o2, eA, st_⟩ := st.elem 0 rfl j hlt (by simp [insC])
      have fr_ := fr
      cases eA
      have st := st_
      have fr := fr_
      clear st_ fr_
      obtain ⟨x0, x1, x2, x3, hx_l_x0⟩ : ∃ x0 x1 x2 x3, l[j] = (x0, x1, x2, x3) := ⟨_, _, _, _, rfl⟩
      rw [hx_l_x0] at st
      replace st : St _ [] w [ro b1 (o2 + j * 4) [.int .i64 (x0), .int .i64 (x1), .int .i64 (x2), .int .i64 (x3)], els insC 4 (some ⟨b1, o2, none⟩) l, ro bm 0 [(.map (some b))], mapRo kI vB b ((bgn l))] := st
      refine lst rfl (ow_v fr (rn_at (i := j) (fr.ev rfl) (fr.ev rfl) Try.underlying24 sz_29 (by omega) (by rfl)) rfl rfl ?_)
      intro a fr
      refine lst rfl (ow_v fr (rn_loadN (cs := [.int .i64 (x0), .int .i64 (x1), .int .i64 (x2), .int .i64 (x3)]) (fr.ev rfl) Try.underlying29 rfl sz_29 (st.rorange 0 rfl 0 rfl)) rfl rfl ?_)
      intro a fr
      refine lst rfl (ow_callv fr rfl rfl rfl Try.call40 (bad_calls x0 x1 x2 x3 l _ _ _ (ro_now (st.get 2 rfl) rfl) (ro_now (st.get 3 rfl) rfl)) rfl rfl ?_)
      rintro e w ⟨rfl, hag⟩
      refine ⟨_, rfl, ?_⟩
      intro a fr
      have st := st.keep hag
      clear hag
      refine wpList_nil ?_
      refine then_n ?_
      refine cond_t fr rfl (by rw [← hx_l_x0]; exact hq) ?_
      refine wp_seq ?_
      refine reg ?_
      refine lst rfl (ow_v fr (rn_move (fr.ev rfl)) rfl rfl ?_)
      intro a fr
      refine lst rfl (ow_v fr (rn_assign (fr.ev rfl)) rfl rfl ?_)
      intro a fr
      refine wpList_nil ?_
      refine then_n ?_
      refine wp_ret ?_
      refine blk_r ?_
      refine then_r ?_
      refine then_r ?_
      refine blk_r ?_
      refine then_r ?_
      refine ret1 Try.results57 fr (rv_tmp fr rfl) ?_
      exact ⟨⟨_, rfl, ⟨fun _ => List.any_eq_true.2 ⟨_, List.getElem_mem hlt, hq⟩, fun _ => by omega⟩⟩, st.agr⟩
    · refine wp_seq ?_
      refine reg ?_
      refine lst rfl (ow_v fr (rn_as (v' := .bool true) (rn_lss (fr.ev rfl) (fr.ev rfl)) (congrArg Value.bool (decide_eq_true (by omega)))) rfl rfl ?_)
      intro a fr
      refine wpList_nil ?_
      refine then_n ?_
      refine wp_seq ?_
      refine cond_t fr rfl rfl ?_
      refine wp_skip ?_
      refine then_n ?_
      refine wp_seq ?_
      refine wp_block ?_
      refine wp_seq ?_
      refine reg ?_
      refine lst rfl (ow_v fr (rn_move (fr.ev rfl)) rfl rfl ?_)
      intro a fr
      refine lst rfl (ow_v fr (rn_assign (fr.ev rfl)) rfl rfl ?_)
      intro a fr
      refine wpList_nil ?_
      refine then_n ?_
      refine wp_seq ?_
      refine reg ?_
      refine lst rfl (ow_v fr (rn_move (fr.ev rfl)) rfl rfl ?_)
      intro a fr
      refine lst rfl (ow_v fr (rn_move (fr.ev rfl)) rfl rfl ?_)
      intro a fr
      refine lst rfl (ow_v fr (rn_move (fr.ev rfl)) rfl rfl ?_)
      intro a fr
      obtain ⟨b3, o4, eA, st_⟩ := st.elem 0 rfl j hlt (by simp [insC])
      have fr_ := fr
      cases eA
      have st := st_
      have fr := fr_
      clear st_ fr_
      obtain ⟨x0, x1, x2, x3, hx_l_x0⟩ : ∃ x0 x1 x2 x3, l[j] = (x0, x1, x2, x3) := ⟨_, _, _, _, rfl⟩
      rw [hx_l_x0] at st
      replace st : St _ [] w [ro b3 (o4 + j * 4) [.int .i64 (x0), .int .i64 (x1), .int .i64 (x2), .int .i64 (x3)], els insC 4 (some ⟨b3, o4, none⟩) l, ro bm 0 [(.map (some b))], mapRo kI vB b ((bgn l))] := st
      refine lst rfl (ow_v fr (rn_at (i := j) (fr.ev rfl) (fr.ev rfl) Try.underlying24 sz_29 (by omega) (by rfl)) rfl rfl ?_)
      intro a fr
      refine lst rfl (ow_v fr (rn_loadN (cs := [.int .i64 (x0), .int .i64 (x1), .int .i64 (x2), .int .i64 (x3)]) (fr.ev rfl) Try.underlying29 rfl sz_29 (st.rorange 0 rfl 0 rfl)) rfl rfl ?_)
      intro a fr
      refine lst rfl (ow_callv fr rfl rfl rfl Try.call40 (bad_calls x0 x1 x2 x3 l _ _ _ (ro_now (st.get 2 rfl) rfl) (ro_now (st.get 3 rfl) rfl)) rfl rfl ?_)
      rintro e w ⟨rfl, hag⟩
      refine ⟨_, rfl, ?_⟩
      intro a fr
      have st := st.keep hag
      clear hag
      refine wpList_nil ?_
      refine then_n ?_
      refine cond_f fr rfl (by rw [← hx_l_x0]; simpa using hq) ?_
      refine wp_skip ?_
      refine blk_n ?_
      refine then_n ?_
      refine reg ?_
      refine lst rfl (ow_v fr (rn_add (a := (j : Nat)) (b := 1) (c := ((j + 1 : Nat) : Int)) (fr.ev rfl) (fr.ev rfl) (wr_i64e (by omega) (by omega) (by omega))) rfl rfl ?_)
      intro a fr
      refine lst rfl (ow_v fr (rn_move (fr.ev rfl)) rfl rfl ?_)
      intro a fr
      refine wpList_nil ?_
      refine then_n ⟨l.length - (j + 1), ?_, j + 1, (by omega), (fun i hi h => by rcases (by omega : i < j ∨ i = j) with h1 | rfl; exact hJ i h1 h; simpa using hq), rfl, fr.prune ⟨rfl, rfl, rfl, rfl, trivial⟩, st.sub (.cons _ (.cons_cons _ (.cons_cons _ (.cons_cons _ .slnil))))⟩
      omega
  · refine wp_seq ?_
    refine reg ?_
    refine lst rfl (ow_v fr (rn_as (v' := .bool false) (rn_lss (fr.ev rfl) (fr.ev rfl)) (congrArg Value.bool (decide_eq_false (by omega)))) rfl rfl ?_)
    intro a fr
    refine wpList_nil ?_
    refine then_n ?_
    refine wp_seq ?_
    refine cond_f fr rfl rfl ?_
    refine wp_exit ?_
    refine then_x ?_
    refine then_x ?_
    refine blk_x ?_
    refine then_n ?_
    refine wp_seq ?_
    refine reg ?_
    refine lst rfl (ow_v fr (rn_assign (fr.ev rfl)) rfl rfl ?_)
    intro a fr
    refine wpList_nil ?_
    refine then_n ?_
    refine wp_ret ?_
    refine ret1 Try.results57 fr (rv_tmp fr rfl) ?_
    refine ⟨⟨_, rfl, ⟨fun h => absurd h (by decide), fun h => ?_⟩⟩, st.agr⟩
    obtain ⟨x, hx, e⟩ := List.any_eq_true.1 h
    obtain ⟨i, hi, rfl⟩ := List.mem_iff_getElem.1 hx
    rw [hJ i (by omega) hi] at e
    cases e

theorem anybad_calls (l : List InsD) (A : Option Addr) (c bm b : Nat) (hl : l.length ≤ 9223372036854775807) (w0 : World) (ha : Els insC 4 w0 A l) (hb : (ro bm 0 [(.map (some b))]).ok w0 [] w0) (hm : (mapRo kI vB b ((bgn l))).ok w0 [] w0) : Calls Try.prog 39 #[.slice A l.length c, (.func (.func 40) #[] #[.pointer (some ⟨bm, 0, none⟩)])] w0 fun e w' => e = .returned (.bool (l.any (badJ l))) ∧ Agr [] w0 w' := by
  have st : St w0 [] w0 [els insC 4 A l, ro bm 0 [(.map (some b))], mapRo kI vB b ((bgn l))] := add_ro (add_ro (add_ro (start0 w0 []) (by simp) rfl hm) (by simp [mapRo, It.wr]) rfl hb) (by simp [mapRo, ro, It.wr]) rfl (els_ok (C := insC) (sz := 4) (by decide) (fun x => rfl) ha)
  clear ha hb hm
  refine enter Try.func39 rfl Try.ntmps39 (by simp) ?_
  intro a fr
  refine wp_seq ?_
  refine reg ?_
  refine lst rfl (ow_v fr (rn_assign (fr.ev rfl)) rfl rfl ?_)
  intro a fr
  refine wpList_nil ?_
  refine then_n ?_
  refine wp_seq ?_
  refine reg ?_
  refine lst rfl (ow_v fr (rn_move (fr.ev rfl)) rfl rfl ?_)
  intro a fr
  refine lst rfl (ow_v fr (rn_move (fr.ev rfl)) rfl rfl ?_)
  intro a fr
  refine lst rfl (ow_call fr rfl rfl Try.call57 (idxbad_calls l _ _ _ _ hl _ (st.get 0 rfl).1 (ro_now (st.get 1 rfl) rfl) (ro_now (st.get 2 rfl) rfl)) rfl rfl ?_)
  rintro e w ⟨⟨r, rfl, hr⟩, hag⟩
  refine ⟨_, rfl, ?_⟩
  intro a fr
  have st := st.keep hag
  clear hag
  refine lst rfl (ow_v fr (rn_geq (fr.ev rfl) (fr.ev rfl)) rfl rfl ?_)
  intro a fr
  refine lst rfl (ow_v fr (rn_assign (fr.ev rfl)) rfl rfl ?_)
  intro a fr
  refine wpList_nil ?_
  refine then_n ?_
  refine wp_ret ?_
  refine ret1 Try.results39 fr (rv_tmp fr rfl) ?_
  refine ⟨?_, st.agr⟩
  rw [show decide ((0 : Int) ≤ r) = l.any (badJ l) by rw [Bool.eq_iff_iff, decide_eq_true_iff]; exact hr]

theorem dec_calls (bs : List UInt8) (BA : Option Addr) (bc : Nat) (hbc : bs.length ≤ bc) (hbl2 : bs.length ≤ 140737488355328) (w0 : World) (hx : Els C8 1 w0 BA bs) : Calls Try.prog 11 #[.slice BA bs.length bc] w0 fun e w' => ∃ A c, e = .returned (.tuple #[.slice A (decF bs).1.length c, .int .i64 (decF bs).2]) ∧ Row insC 4 29 w0.heap.size (.slice A (decF bs).1.length c) (decF bs).1 w' ∧ Agr [] w0 w' := by
  have st : St w0 [] w0 [els C8 1 BA bs] := (add_ro (start0 w0 []) (by simp [els, ro, It.wr]) rfl (els_ok (C := C8) (sz := 1) (by decide) (fun x => rfl) hx))
  clear hx
  by_cases hlong : 4096 < bs.length
  · refine enter Try.func11 rfl Try.ntmps11 (by simp) ?_
    intro a fr
    refine wp_seq ?_
    refine reg ?_
    refine lst rfl (ow_v fr (rn_assign (fr.ev rfl)) rfl rfl ?_)
    intro a fr
    refine lst rfl (ow_v fr (rn_assign (fr.ev rfl)) rfl rfl ?_)
    intro a fr
    refine wpList_nil ?_
    refine then_n ?_
    refine wp_seq ?_
    refine wp_block ?_
    refine wp_seq ?_
    refine reg ?_
    refine lst rfl (ow_v fr (rn_move (fr.ev rfl)) rfl rfl ?_)
    intro a fr
    refine lst rfl (ow_v fr (rn_len (fr.ev rfl) Try.underlying22) rfl rfl ?_)
    intro a fr
    refine lst rfl (ow_v fr (rn_as (v' := .bool true) (rn_gtr (fr.ev rfl) (fr.ev rfl)) (congrArg Value.bool (decide_eq_true (by omega)))) rfl rfl ?_)
    intro a fr
    refine lst rfl (ow_v fr (rn_assign (fr.ev rfl)) rfl rfl ?_)
    intro a fr
    refine wpList_nil ?_
    refine then_n ?_
    refine cond_t fr rfl rfl ?_
    refine wp_seq ?_
    refine reg ?_
    refine lst rfl (ow_v fr (rn_assign (fr.ev rfl)) rfl rfl ?_)
    intro a fr
    refine lst rfl (ow_v fr (rn_assign (fr.ev rfl)) rfl rfl ?_)
    intro a fr
    refine wpList_nil ?_
    refine then_n ?_
    refine wp_ret ?_
    refine blk_r ?_
    refine then_r ?_
    refine ret2 Try.results11 fr (rv_tmp fr rfl) (rv_tmp fr rfl) ?_
    have hD : decF bs = ([], 3) := by unfold decF; rw [if_pos (by omega)]
    rw [hD]
    exact ⟨none, 0, rfl, row_nil insC 4 29 _ _, st.agr⟩
  · by_cases hnone : bs.length = 0
    · refine enter Try.func11 rfl Try.ntmps11 (by simp) ?_
      intro a fr
      refine wp_seq ?_
      refine reg ?_
      refine lst rfl (ow_v fr (rn_assign (fr.ev rfl)) rfl rfl ?_)
      intro a fr
      refine lst rfl (ow_v fr (rn_assign (fr.ev rfl)) rfl rfl ?_)
      intro a fr
      refine wpList_nil ?_
      refine then_n ?_
      refine wp_seq ?_
      refine wp_block ?_
      refine wp_seq ?_
      refine reg ?_
      refine lst rfl (ow_v fr (rn_move (fr.ev rfl)) rfl rfl ?_)
      intro a fr
      refine lst rfl (ow_v fr (rn_len (fr.ev rfl) Try.underlying22) rfl rfl ?_)
      intro a fr
      refine lst rfl (ow_v fr (rn_as (v' := .bool false) (rn_gtr (fr.ev rfl) (fr.ev rfl)) (congrArg Value.bool (decide_eq_false (by omega)))) rfl rfl ?_)
      intro a fr
      refine lst rfl (ow_v fr (rn_assign (fr.ev rfl)) rfl rfl ?_)
      intro a fr
      refine wpList_nil ?_
      refine then_n ?_
      refine cond_f fr rfl rfl ?_
      refine wp_seq ?_
      refine reg ?_
      refine lst rfl (ow_v fr (rn_move (fr.ev rfl)) rfl rfl ?_)
      intro a fr
      refine lst rfl (ow_v fr (rn_len (fr.ev rfl) Try.underlying22) rfl rfl ?_)
      intro a fr
      refine lst rfl (ow_v fr (rn_as (v' := .bool true) (rn_eql (fr.ev rfl) (fr.ev rfl)) (congrArg Value.bool (by simp only [beq_iff_eq]; omega))) rfl rfl ?_)
      intro a fr
      refine lst rfl (ow_v fr (rn_assign (fr.ev rfl)) rfl rfl ?_)
      intro a fr
      refine wpList_nil ?_
      refine then_n ?_
      refine cond_t fr rfl rfl ?_
      refine wp_seq ?_
      refine reg ?_
      refine lst rfl (ow_v fr (rn_assign (fr.ev rfl)) rfl rfl ?_)
      intro a fr
      refine lst rfl (ow_v fr (rn_assign (fr.ev rfl)) rfl rfl ?_)
      intro a fr
      refine wpList_nil ?_
      refine then_n ?_
      refine wp_ret ?_
      refine blk_r ?_
      refine then_r ?_
      refine ret2 Try.results11 fr (rv_tmp fr rfl) (rv_tmp fr rfl) ?_
      have hD : decF bs = ([], 11) := by unfold decF; rw [if_neg (by omega), if_pos (by omega)]
      rw [hD]
      exact ⟨none, 0, rfl, row_nil insC 4 29 _ _, st.agr⟩
    · refine enter Try.func11 rfl Try.ntmps11 (by simp) ?_
      intro a fr
      refine wp_seq ?_
      refine reg ?_
      refine lst rfl (ow_v fr (rn_assign (fr.ev rfl)) rfl rfl ?_)
      intro a fr
      refine lst rfl (ow_v fr (rn_assign (fr.ev rfl)) rfl rfl ?_)
      intro a fr
      refine wpList_nil ?_
      refine then_n ?_
      refine wp_seq ?_
      refine wp_block ?_
      refine wp_seq ?_
      refine reg ?_
      refine lst rfl (ow_v fr (rn_move (fr.ev rfl)) rfl rfl ?_)
      intro a fr
      refine lst rfl (ow_v fr (rn_len (fr.ev rfl) Try.underlying22) rfl rfl ?_)
      intro a fr
      refine lst rfl (ow_v fr (rn_as (v' := .bool false) (rn_gtr (fr.ev rfl) (fr.ev rfl)) (congrArg Value.bool (decide_eq_false (by omega)))) rfl rfl ?_)
      intro a fr
      refine lst rfl (ow_v fr (rn_assign (fr.ev rfl)) rfl rfl ?_)
      intro a fr
      refine wpList_nil ?_
      refine then_n ?_
      refine cond_f fr rfl rfl ?_
      refine wp_seq ?_
      refine reg ?_
      refine lst rfl (ow_v fr (rn_move (fr.ev rfl)) rfl rfl ?_)
      intro a fr
      refine lst rfl (ow_v fr (rn_len (fr.ev rfl) Try.underlying22) rfl rfl ?_)
      intro a fr
      refine lst rfl (ow_v fr (rn_as (v' := .bool false) (rn_eql (fr.ev rfl) (fr.ev rfl)) (congrArg Value.bool (by simp only [beq_eq_false_iff_ne, ne_eq]; omega))) rfl rfl ?_)
      intro a fr
      refine lst rfl (ow_v fr (rn_assign (fr.ev rfl)) rfl rfl ?_)
      intro a fr
      refine wpList_nil ?_
      refine then_n ?_
      refine cond_f fr rfl rfl ?_
      refine wp_skip ?_
      refine blk_n ?_
      refine then_n ?_
      refine wp_seq ?_
      refine reg ?_
      refine lst rfl (ow_v fr (rn_assign (fr.ev rfl)) rfl rfl ?_)
      intro a fr
      refine wpList_nil ?_
      refine then_n ?_
      refine wp_seq ?_
      refine reg ?_
      refine lst rfl (ow_makeMap (kf := kI) (vf := vB) fr st rfl rfl rfl ?_)
      intro a w b1 fr st
      refine lst rfl (ow_alloc fr st rfl zv_59 rfl rfl _ (by rfl) ?_)
      intro a w b2 fr st
      refine lst rfl (ow_st fr st 0 rfl rfl rfl rfl sz_59 rfl rfl rfl ?_)
      intro w (st : St _ [] w [.blk b2 [(.map (some b1))] 59, mapIt kI vB b1 ([]), els C8 1 BA bs])
      refine wpList_nil ?_
      refine then_n ?_
      refine wp_seq ?_
      refine wp_seq ?_
      refine reg ?_
      refine lst rfl (ow_v fr (rn_assign (fr.ev rfl)) rfl rfl ?_)
      intro a fr
      refine wpList_nil ?_
      refine then_n ?_
      refine wp_block ?_
      have st := st.nil (E := InsD) insC 4 29 w0.heap.size (Nat.le_refl _)
      refine wp_loop_ghost (fun mz a w => ∃ (k : Nat) (n : Nat) (pre : List InsD) (A : Option Addr) (c : Nat), (walkF bs = (pre ++ (walkN bs n k).1, (walkN bs n k).2)) ∧ (bs.length ≤ k + n) ∧ (k ≤ bs.length) ∧ (pre.length ≤ k) ∧ (∀ x ∈ pre, x.1 < (k : Int)) ∧ mz = bs.length - k ∧ FrL 44 a [(0, .slice BA bs.length bc), (4, .slice A pre.length c), (5, .pointer (some ⟨b2, 0, none⟩)), (6, .int .i64 ((k : Nat)))] ∧ St w0 [] w [row insC 4 29 w0.heap.size (.slice A pre.length c) pre, .blk b2 [(.map (some b1))] 59, mapIt kI vB b1 ((bgn pre)), els C8 1 BA bs]) _ ⟨0, bs.length, [], none, 0, (by unfold walkF; simp), (by omega), (Nat.zero_le _), (Nat.le_refl _), (by simp), rfl, fr.prune ⟨rfl, rfl, rfl, rfl, trivial⟩, st⟩ ?_
      clear fr st
      intro mz a w hI
      obtain ⟨k, n, pre, A, c, hW, hn, hk, hp, hlo, hmz, fr, st⟩ := hI
      by_cases hlt : k < bs.length
      · obtain ⟨n1, rfl⟩ : ∃ n1, n = n1 + 1 := ⟨n - 1, by omega⟩
        obtain ⟨x0, x1, x2, x3, nx, er, hr⟩ : ∃ x0 x1 x2 x3 nx er, oneN bs k = ((x0, x1, x2, x3), nx, er) := ⟨_, _, _, _, _, _, rfl⟩
        by_cases her : er = 0
        · subst her
          obtain ⟨m, rfl, hm1, hm2, hm3⟩ := oneN_ok hr
          refine wp_seq ?_
          refine wp_seq ?_
          refine reg ?_
          refine lst rfl (ow_v fr (rn_move (fr.ev rfl)) rfl rfl ?_)
          intro a fr
          refine lst rfl (ow_v fr (rn_move (fr.ev rfl)) rfl rfl ?_)
          intro a fr
          refine lst rfl (ow_v fr (rn_len (fr.ev rfl) Try.underlying22) rfl rfl ?_)
          intro a fr
          refine lst rfl (ow_v fr (rn_as (v' := .bool true) (rn_lss (fr.ev rfl) (fr.ev rfl)) (congrArg Value.bool (decide_eq_true (by omega)))) rfl rfl ?_)
          intro a fr
          refine wpList_nil ?_
          refine then_n ?_
          refine cond_t fr rfl rfl ?_
          refine wp_skip ?_
          refine then_n ?_
          refine wp_block ?_
          refine wp_seq ?_
          refine reg ?_
          refine lst rfl (ow_v fr (rn_move (fr.ev rfl)) rfl rfl ?_)
          intro a fr
          refine lst rfl (ow_v fr (rn_move (fr.ev rfl)) rfl rfl ?_)
          intro a fr
          refine lst rfl (ow_call fr rfl rfl Try.call13 (one_at hr _ _ hbc (by omega) _ (st.get 3 rfl).1) rfl rfl ?_)
          rintro e w ⟨rfl, hag⟩
          refine ⟨_, rfl, ?_⟩
          intro a fr
          have st := st.keep hag
          clear hag
          refine lst rfl (ow_v fr (rn_move (fr.ev rfl)) rfl rfl ?_)
          intro a fr
          refine lst rfl (ow_v fr (rn_extract (fr.ev rfl) rfl) rfl rfl ?_)
          intro a fr
          refine lst rfl (ow_v fr (rn_extract (fr.ev rfl) rfl) rfl rfl ?_)
          intro a fr
          refine lst rfl (ow_v fr (rn_extract (fr.ev rfl) rfl) rfl rfl ?_)
          intro a fr
          refine lst rfl (ow_alloc fr st rfl zv_29 rfl rfl _ (by rfl) ?_)
          intro a w b3 fr st
          refine lst rfl (ow_stN fr st 0 (vs := [.int .i64 (x0), .int .i64 (x1), .int .i64 (x2), .int .i64 (x3)]) rfl rfl rfl rfl sz_29 rfl (Nat.le_of_ble_eq_true rfl) rfl ?_)
          intro w (st : St _ [] w [.blk b3 [.int .i64 (x0), .int .i64 (x1), .int .i64 (x2), .int .i64 (x3)] 29, row insC 4 29 w0.heap.size (.slice A pre.length c) pre, .blk b2 [(.map (some b1))] 59, mapIt kI vB b1 ((bgn pre)), els C8 1 BA bs])
          refine lst rfl (ow_v fr (rn_assign (fr.ev rfl)) rfl rfl ?_)
          intro a fr
          refine lst rfl (ow_v fr (rn_assign (fr.ev rfl)) rfl rfl ?_)
          intro a fr
          refine wpList_nil ?_
          refine then_n ?_
          refine wp_seq ?_
          refine wp_seq ?_
          refine reg ?_
          refine lst rfl (ow_v fr (rn_move (fr.ev rfl)) rfl rfl ?_)
          intro a fr
          refine lst rfl (ow_v fr (rn_as (rn_neq (fr.ev rfl) (fr.ev rfl)) (by rfl)) rfl rfl ?_)
          intro a fr
          refine wpList_nil ?_
          refine then_n ?_
          refine cond_f fr rfl rfl ?_
          refine wp_skip ?_
          refine then_n ?_
          refine wp_seq ?_
          refine reg ?_
          refine lst rfl (ow_v fr (rn_move (fr.ev rfl)) rfl rfl ?_)
          intro a fr
          refine lst rfl (ow_v fr (rn_loadN (cs := [.int .i64 (x0), .int .i64 (x1), .int .i64 (x2), .int .i64 (x3)]) (fr.ev rfl) Try.underlying29 rfl sz_29 (st.blkrange 0 rfl 0 rfl)) rfl rfl ?_)
          intro a fr
          refine lst rfl (ow_bslice (E := 29) fr st rfl [.int .i64 (x0), .int .i64 (x1), .int .i64 (x2), .int .i64 (x3)] (fun w => by simp only [List.map_toArray, List.map_cons, List.map_nil]; rw [fr.ev (x := .tmp 34) rfl]; kernel_rfl) rfl rfl ?_)
          intro a w b4 fr st
          refine lst rfl (ow_append1 fr st 2 0 (((x0, x1, x2, x3) : InsD)) rfl rfl rfl rfl rfl Try.underlying24 inf_29 (by rfl) (by decide) (fun _ => rfl) rfl (by omega) (by unfold maxLen; omega) (Nat.le_refl _) st.agr.size rfl rfl ?_)
          intro a w Ax5 cx6 fr (st : St _ [] w [.blk b4 [.int .i64 (x0), .int .i64 (x1), .int .i64 (x2), .int .i64 (x3)] 29, .blk b3 [.int .i64 (x0), .int .i64 (x1), .int .i64 (x2), .int .i64 (x3)] 29, row insC 4 29 w0.heap.size (.slice Ax5 ((pre ++ [((x0, x1, x2, x3) : InsD)]).length) cx6) ((pre ++ [((x0, x1, x2, x3) : InsD)])), .blk b2 [(.map (some b1))] 59, mapIt kI vB b1 ((bgn pre)), els C8 1 BA bs])
          refine lst rfl (ow_v fr (rn_assign (fr.ev rfl)) rfl rfl ?_)
          intro a fr
          refine wpList_nil ?_
          refine then_n ?_
          refine wp_seq ?_
          refine reg ?_
          refine lst rfl (ow_v fr (rn_load (fr.ev rfl) Try.underlying59 rfl (st.cell 3 rfl rfl)) rfl rfl ?_)
          intro a fr
          refine lst rfl (ow_v fr (rn_move (fr.ev rfl)) rfl rfl ?_)
          intro a fr
          refine lst rfl (ow_mapnew (kf := kI) (vf := vB) (k := (k : Int)) (v := true) fr st 4 rfl rfl rfl rfl Try.underlying59 Try.underlying3 sameI (fun e w => by kernel_rfl) rfl (bgn_new hlo) rfl ?_)
          intro w (st : St _ [] w [.blk b4 [.int .i64 (x0), .int .i64 (x1), .int .i64 (x2), .int .i64 (x3)] 29, .blk b3 [.int .i64 (x0), .int .i64 (x1), .int .i64 (x2), .int .i64 (x3)] 29, row insC 4 29 w0.heap.size (.slice Ax5 ((pre ++ [((x0, x1, x2, x3) : InsD)]).length) cx6) ((pre ++ [((x0, x1, x2, x3) : InsD)])), .blk b2 [(.map (some b1))] 59, mapIt kI vB b1 (((bgn pre) ++ [((k : Int), true)])), els C8 1 BA bs])
          refine wpList_nil ?_
          refine then_n ?_
          refine reg ?_
          refine lst rfl (ow_v fr (rn_move (fr.ev rfl)) rfl rfl ?_)
          intro a fr
          refine lst rfl (ow_v fr (rn_assign (fr.ev rfl)) rfl rfl ?_)
          intro a fr
          refine wpList_nil ?_
          refine blk_n ?_
          rw [bgn_snoc (l := pre) (x := (x0, x1, x2, x3)) hm3] at st
          refine then_n ⟨bs.length - m, ?_, m, n1, (pre ++ [((x0, x1, x2, x3) : InsD)]), Ax5, cx6, (by rw [hW, walk_some hlt hr]; simp), (by omega), (hm2), (by simp; omega), (fun x hx => by rcases List.mem_append.1 hx with h | h; exact Int.lt_trans (hlo x h) (by omega); simp at h; subst h; simp at hm3; simp; omega), rfl, fr.prune ⟨rfl, rfl, rfl, rfl, trivial⟩, st.sub (.cons _ (.cons _ (.cons_cons _ (.cons_cons _ (.cons_cons _ (.cons_cons _ .slnil))))))⟩
          omega
        · refine wp_seq ?_
          refine wp_seq ?_
          refine reg ?_
          refine lst rfl (ow_v fr (rn_move (fr.ev rfl)) rfl rfl ?_)
          intro a fr
          refine lst rfl (ow_v fr (rn_move (fr.ev rfl)) rfl rfl ?_)
          intro a fr
          refine lst rfl (ow_v fr (rn_len (fr.ev rfl) Try.underlying22) rfl rfl ?_)
          intro a fr
          refine lst rfl (ow_v fr (rn_as (v' := .bool true) (rn_lss (fr.ev rfl) (fr.ev rfl)) (congrArg Value.bool (decide_eq_true (by omega)))) rfl rfl ?_)
          intro a fr
          refine wpList_nil ?_
          refine then_n ?_
          refine cond_t fr rfl rfl ?_
          refine wp_skip ?_
          refine then_n ?_
          refine wp_block ?_
          refine wp_seq ?_
          refine reg ?_
          refine lst rfl (ow_v fr (rn_move (fr.ev rfl)) rfl rfl ?_)
          intro a fr
          refine lst rfl (ow_v fr (rn_move (fr.ev rfl)) rfl rfl ?_)
          intro a fr
          refine lst rfl (ow_call fr rfl rfl Try.call13 (one_at hr _ _ hbc (by omega) _ (st.get 3 rfl).1) rfl rfl ?_)
          rintro e w ⟨rfl, hag⟩
          refine ⟨_, rfl, ?_⟩
          intro a fr
          have st := st.keep hag
          clear hag
          refine lst rfl (ow_v fr (rn_move (fr.ev rfl)) rfl rfl ?_)
          intro a fr
          refine lst rfl (ow_v fr (rn_extract (fr.ev rfl) rfl) rfl rfl ?_)
          intro a fr
          refine lst rfl (ow_v fr (rn_extract (fr.ev rfl) rfl) rfl rfl ?_)
          intro a fr
          refine lst rfl (ow_v fr (rn_extract (fr.ev rfl) rfl) rfl rfl ?_)
          intro a fr
          refine lst rfl (ow_alloc fr st rfl zv_29 rfl rfl _ (by rfl) ?_)
          intro a w b7 fr st
          refine lst rfl (ow_stN fr st 0 (vs := [.int .i64 (x0), .int .i64 (x1), .int .i64 (x2), .int .i64 (x3)]) rfl rfl rfl rfl sz_29 rfl (Nat.le_of_ble_eq_true rfl) rfl ?_)
          intro w (st : St _ [] w [.blk b7 [.int .i64 (x0), .int .i64 (x1), .int .i64 (x2), .int .i64 (x3)] 29, row insC 4 29 w0.heap.size (.slice A pre.length c) pre, .blk b2 [(.map (some b1))] 59, mapIt kI vB b1 ((bgn pre)), els C8 1 BA bs])
          refine lst rfl (ow_v fr (rn_assign (fr.ev rfl)) rfl rfl ?_)
          intro a fr
          refine lst rfl (ow_v fr (rn_assign (fr.ev rfl)) rfl rfl ?_)
          intro a fr
          refine wpList_nil ?_
          refine then_n ?_
          refine wp_seq ?_
          refine wp_seq ?_
          refine reg ?_
          refine lst rfl (ow_v fr (rn_move (fr.ev rfl)) rfl rfl ?_)
          intro a fr
          refine lst rfl (ow_v fr (rn_as (v' := .bool true) (rn_neq (fr.ev rfl) (fr.ev rfl)) (congrArg Value.bool (by simpa using her))) rfl rfl ?_)
          intro a fr
          refine wpList_nil ?_
          refine then_n ?_
          refine cond_t fr rfl rfl ?_
          refine wp_seq ?_
          refine reg ?_
          refine lst rfl (ow_v fr (rn_move (fr.ev rfl)) rfl rfl ?_)
          intro a fr
          refine lst rfl (ow_v fr (rn_assign (fr.ev rfl)) rfl rfl ?_)
          intro a fr
          refine lst rfl (ow_v fr (rn_assign (fr.ev rfl)) rfl rfl ?_)
          intro a fr
          refine wpList_nil ?_
          refine then_n ?_
          refine wp_ret ?_
          refine then_r ?_
          refine blk_r ?_
          refine then_r ?_
          refine blk_r ?_
          refine then_r ?_
          refine ret2 Try.results11 fr (rv_tmp fr rfl) (rv_tmp fr rfl) ?_
          have hF : walkF bs = (pre, er) := by rw [hW, walk_err hlt hr her]; simp
          have hD : decF bs = ([], er) := by unfold decF; rw [if_neg (by omega), if_neg (by omega), hF, if_neg her]
          rw [hD]
          exact ⟨none, 0, rfl, row_nil insC 4 29 _ _, st.agr⟩
      · have hF : walkF bs = (pre, 0) := by rw [hW, walk_end (by omega)]; simp
        refine wp_seq ?_
        refine wp_seq ?_
        refine reg ?_
        refine lst rfl (ow_v fr (rn_move (fr.ev rfl)) rfl rfl ?_)
        intro a fr
        refine lst rfl (ow_v fr (rn_move (fr.ev rfl)) rfl rfl ?_)
        intro a fr
        refine lst rfl (ow_v fr (rn_len (fr.ev rfl) Try.underlying22) rfl rfl ?_)
        intro a fr
        refine lst rfl (ow_v fr (rn_as (v' := .bool false) (rn_lss (fr.ev rfl) (fr.ev rfl)) (congrArg Value.bool (decide_eq_false (by omega)))) rfl rfl ?_)
        intro a fr
        refine wpList_nil ?_
        refine then_n ?_
        refine cond_f fr rfl rfl ?_
        refine wp_exit ?_
        refine then_x ?_
        refine then_x ?_
        refine blk_x ?_
        refine then_n ?_
        refine wp_seq ?_
        refine wp_seq ?_
        refine reg ?_
        refine lst rfl (ow_v fr (rn_move (fr.ev rfl)) rfl rfl ?_)
        intro a fr
        refine lst rfl (ow_v fr (rn_makeFunc fr (xs := [.tmp 5]) rfl) rfl rfl ?_)
        intro a fr
        refine lst rfl (ow_call fr rfl rfl Try.call39 ((anybad_calls pre _ _ _ _ (by omega) _ (row_els (fun _ => rfl) (st.get 0 rfl).1) (ro_of_blk (st.get 1 rfl)) (mapRo_ok (st.get 2 rfl).1))) rfl rfl ?_)
        rintro e w ⟨rfl, hag⟩
        refine ⟨_, rfl, ?_⟩
        intro a fr
        have st := st.keep hag
        clear hag
        refine wpList_nil ?_
        refine then_n ?_
        refine cond_b _ fr rfl (fun hany => ?_) (fun hany => ?_)
        · refine wp_seq ?_
          refine reg ?_
          refine lst rfl (ow_v fr (rn_assign (fr.ev rfl)) rfl rfl ?_)
          intro a fr
          refine lst rfl (ow_v fr (rn_assign (fr.ev rfl)) rfl rfl ?_)
          intro a fr
          refine wpList_nil ?_
          refine then_n ?_
          refine wp_ret ?_
          refine then_r ?_
          refine ret2 Try.results11 fr (rv_tmp fr rfl) (rv_tmp fr rfl) ?_
          have hD : decF bs = ([], 12) := by unfold decF; rw [if_neg (by omega), if_neg (by omega), hF, if_pos rfl, if_pos hany]
          rw [hD]
          exact ⟨none, 0, rfl, row_nil insC 4 29 _ _, st.agr⟩
        · refine wp_skip ?_
          refine then_n ?_
          refine wp_seq ?_
          refine reg ?_
          refine lst rfl (ow_v fr (rn_move (fr.ev rfl)) rfl rfl ?_)
          intro a fr
          refine lst rfl (ow_v fr (rn_assign (fr.ev rfl)) rfl rfl ?_)
          intro a fr
          refine lst rfl (ow_v fr (rn_assign (fr.ev rfl)) rfl rfl ?_)
          intro a fr
          refine wpList_nil ?_
          refine then_n ?_
          refine wp_ret ?_
          refine ret2 Try.results11 fr (rv_tmp fr rfl) (rv_tmp fr rfl) ?_
          have hD : decF bs = (pre, 0) := by unfold decF; rw [if_neg (by omega), if_neg (by omega), hF, if_pos rfl, if_neg (by simp only [hany]; decide)]
          rw [hD]
          exact ⟨A, c, rfl, (st.get 0 rfl).1, st.agr⟩

end Go.Proofs.Yteiohpbghpmohaa.O6
