import Derived.Test.YtjhbpcdaojajdaaDoorLibK2
import Derived.Test.YtjhbpcdaojajdaaDoorLibP
import Derived.Test.YtjhbpcdaojajdaaDoorLibN
import Derived.Test.YtjhbpcdaojajdaaDoorLibH
import Derived.Test.YtjhbpcdaojajdaaDoorLibA
import Derived.Test.YtjhbpcdaojajdaaDoorLibZ
import Derived.Test.YtjhbpcdaojajdaaDoorLibI
import Derived.Test.YtjhbpcdaojajdaaDoorLibJ
import Derived.Test.YtjhbpcdaojajdaaDoorLibK
import Derived.Test.YtjhbpcdaojajdaaDoorLibDg
import Derived.Test.YtjhbpcdaojajdaaDoorLibAs
import Derived.Test.YtjhbpcdaojajdaaDoorLibCu
import Derived.Test.YtjhbpcdaojajdaaDoorLibPn
import Derived.Test.YtjhbpcdaojajdaaDoorLibSt
import Derived.Test.YtjhbpcdaojajdaaDoorProg
set_option linter.unusedVariables false
set_option linter.unusedSimpArgs false
set_option maxRecDepth 100000
namespace Go.Proofs.YtjhbpcdaojajdaaDoor.D1
open Go.Lib Go.RowKit Go.Proofs.YtjhbpcdaojajdaaDoor.LibA Go.Proofs.YtjhbpcdaojajdaaDoor.LibC Go.Proofs.YtjhbpcdaojajdaaDoor.LibS Go.Proofs.YtjhbpcdaojajdaaDoor.LibR Go.Proofs.YtjhbpcdaojajdaaDoor.LibT Go.Proofs.YtjhbpcdaojajdaaDoor.LibU Go.Proofs.YtjhbpcdaojajdaaDoor.LibV Go.Proofs.YtjhbpcdaojajdaaDoor.LibW Go.Proofs.YtjhbpcdaojajdaaDoor.LibX Go.Proofs.YtjhbpcdaojajdaaDoor.LibY Go.Proofs.YtjhbpcdaojajdaaDoor.LibZ Go.Proofs.YtjhbpcdaojajdaaDoor.LibQ Go.Proofs.YtjhbpcdaojajdaaDoor.LibP Go.Proofs.YtjhbpcdaojajdaaDoor.LibN Go.Proofs.YtjhbpcdaojajdaaDoor.LibH Go.Proofs.YtjhbpcdaojajdaaDoor.LibI Go.Proofs.YtjhbpcdaojajdaaDoor.LibJ Go.Proofs.YtjhbpcdaojajdaaDoor.LibK Go.Proofs.YtjhbpcdaojajdaaDoor.LibK2 Go.Proofs.YtjhbpcdaojajdaaDoor.LibDf Go.Proofs.YtjhbpcdaojajdaaDoor.LibDg Go.Proofs.YtjhbpcdaojajdaaDoor.LibAs Go.Proofs.YtjhbpcdaojajdaaDoor.LibCu Go.Proofs.YtjhbpcdaojajdaaDoor.LibPn Go.Proofs.YtjhbpcdaojajdaaDoor.LibSt 
/-- a byte of a part of a name -/
def okB (c : UInt8) : Bool := decide (33 ≤ c.toNat) && (decide (c.toNat ≤ 126) && decide (indexByte [46, 59, 91, 47, 60, 62] c < 0))
def partF (xs : List UInt8) : Bool := xs.all okB && !decide (xs = [])
/-- the parts of a text between the bytes c -/
def splitB (c : UInt8) : List UInt8 → List (List UInt8)
  | [] => [[]]
  | x :: r => if x = c then [] :: splitB c r else match splitB c r with
    | [] => [[x]]
    | p :: ps => (x :: p) :: ps
def classF (xs : List UInt8) : Bool := (splitB 47 xs).all partF
theorem split_cons (c x : UInt8) (r : List UInt8) : splitB c (x :: r) = if x = c then [] :: splitB c r else match splitB c r with
    | [] => [[x]]
    | p :: ps => (x :: p) :: ps := rfl
theorem idx_cons (c x : UInt8) (r : List UInt8) : indexByte (x :: r) c = if x == c then 0 else if indexByte r c == -1 then -1 else indexByte r c + 1 := rfl
theorem split_ne (c : UInt8) : ∀ xs, splitB c xs ≠ []
  | [] => by simp [splitB]
  | x :: r => by
    rw [split_cons]
    split
    · simp
    · split <;> simp
theorem idx_cases (c : UInt8) : ∀ xs : List UInt8, (indexByte xs c = -1 ∧ splitB c xs = [xs]) ∨ ∃ m : Nat, indexByte xs c = (m : Int) ∧ m < xs.length ∧ splitB c xs = xs.take m :: splitB c (xs.drop (m + 1))
  | [] => .inl ⟨rfl, rfl⟩
  | x :: r => by
    rw [idx_cons, split_cons]
    by_cases h : x = c
    · right
      exact ⟨0, by simp [h], by simp, by rw [if_pos h]; rfl⟩
    · have hb : (x == c) = false := by simpa using h
      rcases idx_cases c r with ⟨h1, h2⟩ | ⟨m, h1, h2, h3⟩
      · left
        rw [h1, h2, hb, if_neg h]
        exact ⟨rfl, rfl⟩
      · right
        refine ⟨m + 1, ?_, by simp; omega, ?_⟩
        · rw [h1, hb]
          have : ((m : Int) == -1) = false := by rw [beq_eq_false_iff_ne]; omega
          rw [this]
          simp
        · rw [h3, if_neg h]; rfl
theorem count_split (c : UInt8) : ∀ xs : List UInt8, (splitB c xs).length = countByte xs c + 1
  | [] => rfl
  | x :: r => by
    have ih := count_split c r
    rw [split_cons]
    unfold countByte at *
    rw [List.count_cons]
    by_cases h : x = c
    · rw [if_pos h, List.length_cons, ih]
      simp [h]
    · rw [if_neg h]
      have hb : (x == c) = false := by simpa using h
      rw [hb]
      have hne := split_ne c r
      cases hs : splitB c r with
      | nil => exact absurd hs hne
      | cons p ps => rw [hs] at ih; simpa using ih
theorem idx_self (c : UInt8) : indexByte [c] c = 0 := by rw [idx_cons]; simp
theorem u8_back (c : UInt8) : (((c.toNat : Nat) : Int)).toNat.toUInt8 = c := by simp
theorem rn_idxB {ρ : Operand → Value} {w : World} {dst : Option Tmp} {ty : TypeId} {pos : String} {aft : Array Edge} {gd : Option (Nat × Bool)} {x y : Operand} {ts : Array TypeId} {xs : List UInt8} {c : UInt8} (hf : ρ (.func 61) = .func (.func 61) #[] #[]) (hx : ρ x = .string ⟨xs.toArray⟩) (hy : ρ y = .int .u8 ((c.toNat : Nat) : Int)) : (execOp ρ ⟨dst, .call { callee := .value (.func 61), args := #[x, y], argTypes := ts }, ty, pos, aft, gd⟩).run Tryd.prog w = .ok (.value (.int .i64 (indexByte xs c))) w := by
  have e : ∀ args, (callFunc 61 args).run Tryd.prog w = ((Extern.BytealgIndexByte.indexByte args).run Tryd.prog w).andThen fun v w' => .ok (.value v) w' := fun args => run_callFunc_extern Tryd.func61 (by kernel_rfl) (by kernel_rfl) (by kernel_rfl) (e := Extern.BytealgIndexByte.indexByte) (by kernel_rfl) args w
  simp only [execOp, resolve, invoke, Deferred.ofValue, hf, hx, hy, List.map_toArray, List.map_cons, List.map_nil, Sem.run_bind, Sem.run_pure, Result.andThen_ok]
  show (callFunc 61 (#[] ++ #[.string ⟨xs.toArray⟩, .int .u8 ((c.toNat : Nat) : Int)] ++ #[])).run Tryd.prog w = _
  rw [show (#[] ++ #[.string ⟨xs.toArray⟩, .int .u8 ((c.toNat : Nat) : Int)] ++ #[] : Array Value) = #[.string ⟨xs.toArray⟩, .int .u8 ((c.toNat : Nat) : Int)] by simp, e, run_indexByteString, u8_back]
  rfl
theorem rn_cntB {ρ : Operand → Value} {w : World} {dst : Option Tmp} {ty : TypeId} {pos : String} {aft : Array Edge} {gd : Option (Nat × Bool)} {x y : Operand} {ts : Array TypeId} {xs : List UInt8} {c : UInt8} (hf : ρ (.func 65) = .func (.func 65) #[] #[]) (hx : ρ x = .string ⟨xs.toArray⟩) (hy : ρ y = .int .u8 ((c.toNat : Nat) : Int)) : (execOp ρ ⟨dst, .call { callee := .value (.func 65), args := #[x, y], argTypes := ts }, ty, pos, aft, gd⟩).run Tryd.prog w = .ok (.value (.int .i64 ((countByte xs c : Nat) : Int))) w := by
  have e : ∀ args, (callFunc 65 args).run Tryd.prog w = ((Extern.BytealgCount.count args).run Tryd.prog w).andThen fun v w' => .ok (.value v) w' := fun args => run_callFunc_extern Tryd.func65 (by kernel_rfl) (by kernel_rfl) (by kernel_rfl) (e := Extern.BytealgCount.count) (by kernel_rfl) args w
  simp only [execOp, resolve, invoke, Deferred.ofValue, hf, hx, hy, List.map_toArray, List.map_cons, List.map_nil, Sem.run_bind, Sem.run_pure, Result.andThen_ok]
  show (callFunc 65 (#[] ++ #[.string ⟨xs.toArray⟩, .int .u8 ((c.toNat : Nat) : Int)] ++ #[])).run Tryd.prog w = _
  rw [show (#[] ++ #[.string ⟨xs.toArray⟩, .int .u8 ((c.toNat : Nat) : Int)] ++ #[] : Array Value) = #[.string ⟨xs.toArray⟩, .int .u8 ((c.toNat : Nat) : Int)] by simp, e, run_countString, u8_back]
  rfl


theorem ixb_calls (xs : List UInt8) (c : UInt8) (w0 : World) : Calls Tryd.prog 55 #[(.string ⟨xs.toArray⟩), .int .u8 (((c.toNat : Nat) : Int))] w0 fun e w' => e = .returned (.int .i64 (indexByte xs c)) ∧ Agr [] w0 w' := by
  have st := St.start w0 [];refine enter Tryd.func55 rfl Tryd.ntmps55 (by simp) ?_;intro a fr;refine wp_seq ?_;refine reg ?_;refine as_ fr rfl rfl ?_;intro a fr;refine nil_n ?_;refine wp_seq ?_;refine reg ?_;refine mv fr rfl rfl ?_;intro a fr;refine mv fr rfl rfl ?_;intro a fr;refine lst rfl (ow_v fr (rn_idxB rfl (fr.ev rfl) (fr.ev rfl)) rfl rfl ?_);intro a fr;refine as_ fr rfl rfl ?_;intro a fr;refine nil_n ?_;refine wp_ret ?_;refine ret1 Tryd.results55 fr (rv_tmp fr rfl) ?_;exact ⟨rfl, st.agr⟩

theorem ixs_calls (xs : List UInt8) (c : UInt8) (w0 : World) : Calls Tryd.prog 49 #[(.string ⟨xs.toArray⟩), .int .u8 (((c.toNat : Nat) : Int))] w0 fun e w' => e = .returned (.int .i64 (indexByte xs c)) ∧ Agr [] w0 w' := by
  have st := St.start w0 [];refine enter Tryd.func49 rfl Tryd.ntmps49 (by simp) ?_;intro a fr;refine wp_seq ?_;refine reg ?_;refine as_ fr rfl rfl ?_;intro a fr;refine nil_n ?_;refine wp_seq ?_;refine reg ?_;refine mv fr rfl rfl ?_;intro a fr;refine mv fr rfl rfl ?_;intro a fr;refine lst rfl (ow_call fr rfl rfl Tryd.call55 (ixb_calls xs c _) rfl rfl ?_);rintro e w ⟨rfl, hag⟩;refine ⟨_, rfl, ?_⟩;intro a fr;have st := st.keep hag;clear hag;refine as_ fr rfl rfl ?_;intro a fr;refine nil_n ?_;refine wp_ret ?_;refine ret1 Tryd.results49 fr (rv_tmp fr rfl) ?_;exact ⟨rfl, st.agr⟩

theorem index1_calls (xs : List UInt8) (c : UInt8) (w0 : World) : Calls Tryd.prog 62 #[.string ⟨xs.toArray⟩, .string ⟨[c].toArray⟩] w0 fun e w' => e = .returned (.int .i64 (indexByte xs c)) ∧ Agr [] w0 w' := by
  have st := St.start w0 [];by_cases he : [c] = xs
  · refine enter Tryd.func62 rfl Tryd.ntmps62 (by simp) ?_;intro a fr;refine wp_seq ?_;refine reg ?_;refine as_ fr rfl rfl ?_;intro a fr;refine nil_n ?_;refine wp_seq ?_;refine reg ?_;refine mv fr rfl rfl ?_;intro a fr;refine lst rfl (ow_v fr (rn_slen (fr.ev rfl) Tryd.underlying9) rfl rfl ?_);intro a fr;refine as_ fr rfl rfl ?_;intro a fr;refine nil_n ?_;refine wp_seq ?_;refine wp_block ?_;refine wp_seq ?_;refine reg ?_;refine mv fr rfl rfl ?_;intro a fr;refine lst rfl (ow_v fr (rn_as (v' := .bool false) (rn_eql (fr.ev rfl) (fr.ev rfl)) (congrArg Value.bool (by rfl))) rfl rfl ?_);intro a fr;refine mv fr rfl rfl ?_;intro a fr;refine lst_y (wanted_of fr rfl rfl rfl rfl) (ow_v fr (rn_move (fr.ev rfl)) rfl rfl ?_);intro a fr;refine lst_y (wanted_of fr rfl rfl rfl rfl) (ow_v fr (rn_move (fr.ev rfl)) rfl rfl ?_);intro a fr;refine lst_y (wanted_of fr rfl rfl rfl rfl) (ow_v fr (rn_as (v' := .bool true) (rn_seq (fr.ev rfl) (fr.ev rfl) Tryd.underlying9) (congrArg Value.bool (decide_eq_true he))) rfl rfl ?_);intro a fr;refine lst rfl (ow_v fr (rn_pick_f (fr.ev rfl) (fr.ev rfl)) rfl rfl ?_);intro a fr;refine as_ fr rfl rfl ?_;intro a fr;refine nil_n ?_;refine cond_t fr rfl rfl ?_;refine wp_seq ?_;refine reg ?_;refine as_ fr rfl rfl ?_;intro a fr;refine nil_n ?_;refine wp_ret ?_;refine blk_r ?_;refine then_r ?_;refine ret1 Tryd.results62 fr (rv_tmp fr rfl) ?_;rw [show indexByte xs c = 0 by rw [← he]; exact idx_self c];exact ⟨rfl, st.agr⟩
  · refine enter Tryd.func62 rfl Tryd.ntmps62 (by simp) ?_;intro a fr;refine wp_seq ?_;refine reg ?_;refine as_ fr rfl rfl ?_;intro a fr;refine nil_n ?_;refine wp_seq ?_;refine reg ?_;refine mv fr rfl rfl ?_;intro a fr;refine lst rfl (ow_v fr (rn_slen (fr.ev rfl) Tryd.underlying9) rfl rfl ?_);intro a fr;refine as_ fr rfl rfl ?_;intro a fr;refine nil_n ?_;refine wp_seq ?_;refine wp_block ?_;refine wp_seq ?_;refine reg ?_;refine mv fr rfl rfl ?_;intro a fr;refine lst rfl (ow_v fr (rn_as (v' := .bool false) (rn_eql (fr.ev rfl) (fr.ev rfl)) (congrArg Value.bool (by rfl))) rfl rfl ?_);intro a fr;refine mv fr rfl rfl ?_;intro a fr;refine lst_y (wanted_of fr rfl rfl rfl rfl) (ow_v fr (rn_move (fr.ev rfl)) rfl rfl ?_);intro a fr;refine lst_y (wanted_of fr rfl rfl rfl rfl) (ow_v fr (rn_move (fr.ev rfl)) rfl rfl ?_);intro a fr;refine lst_y (wanted_of fr rfl rfl rfl rfl) (ow_v fr (rn_as (v' := .bool false) (rn_seq (fr.ev rfl) (fr.ev rfl) Tryd.underlying9) (congrArg Value.bool (decide_eq_false he))) rfl rfl ?_);intro a fr;refine lst rfl (ow_v fr (rn_pick_f (fr.ev rfl) (fr.ev rfl)) rfl rfl ?_);intro a fr;refine as_ fr rfl rfl ?_;intro a fr;refine nil_n ?_;refine cond_f fr rfl rfl ?_;refine wp_seq ?_;refine reg ?_;refine mv fr rfl rfl ?_;intro a fr;refine lst rfl (ow_v fr (rn_as (v' := .bool true) (rn_eql (fr.ev rfl) (fr.ev rfl)) (congrArg Value.bool (by rfl))) rfl rfl ?_);intro a fr;refine as_ fr rfl rfl ?_;intro a fr;refine nil_n ?_;refine cond_t fr rfl rfl ?_;refine wp_seq ?_;refine reg ?_;refine mv fr rfl rfl ?_;intro a fr;refine mv fr rfl rfl ?_;intro a fr;refine lst rfl (ow_v fr (rn_sxi (i := 0) (c := c) (fr.ev rfl) (fr.ev rfl) Tryd.underlying9 (by simp) rfl) rfl rfl ?_);intro a fr;refine lst rfl (ow_call fr rfl rfl Tryd.call55 (ixb_calls xs c _) rfl rfl ?_);rintro e w ⟨rfl, hag⟩;refine ⟨_, rfl, ?_⟩;intro a fr;have st := st.keep hag;clear hag;refine as_ fr rfl rfl ?_;intro a fr;refine nil_n ?_;refine wp_ret ?_;refine blk_r ?_;refine then_r ?_;refine ret1 Tryd.results62 fr (rv_tmp fr rfl) ?_;exact ⟨rfl, st.agr⟩

theorem sindex1_calls (xs : List UInt8) (c : UInt8) (w0 : World) : Calls Tryd.prog 60 #[(.string ⟨xs.toArray⟩), (.string ⟨([c]).toArray⟩)] w0 fun e w' => e = .returned (.int .i64 (indexByte xs c)) ∧ Agr [] w0 w' := by
  have st := St.start w0 [];refine enter Tryd.func60 rfl Tryd.ntmps60 (by simp) ?_;intro a fr;refine wp_seq ?_;refine reg ?_;refine as_ fr rfl rfl ?_;intro a fr;refine nil_n ?_;refine wp_seq ?_;refine reg ?_;refine mv fr rfl rfl ?_;intro a fr;refine mv fr rfl rfl ?_;intro a fr;refine lst rfl (ow_call fr rfl rfl Tryd.call62 (index1_calls xs c _) rfl rfl ?_);rintro e w ⟨rfl, hag⟩;refine ⟨_, rfl, ?_⟩;intro a fr;have st := st.keep hag;clear hag;refine as_ fr rfl rfl ?_;intro a fr;refine nil_n ?_;refine wp_ret ?_;refine ret1 Tryd.results60 fr (rv_tmp fr rfl) ?_;exact ⟨rfl, st.agr⟩

theorem count1_calls (xs : List UInt8) (c : UInt8) (w0 : World) : Calls Tryd.prog 59 #[(.string ⟨xs.toArray⟩), (.string ⟨([c]).toArray⟩)] w0 fun e w' => e = .returned (.int .i64 ((countByte xs c : Nat) : Int)) ∧ Agr [] w0 w' := by
  have st := St.start w0 [];refine enter Tryd.func59 rfl Tryd.ntmps59 (by simp) ?_;intro a fr;refine wp_seq ?_;refine reg ?_;refine as_ fr rfl rfl ?_;intro a fr;refine nil_n ?_;refine wp_seq ?_;refine wp_seq ?_;refine reg ?_;refine mv fr rfl rfl ?_;intro a fr;refine lst rfl (ow_v fr (rn_slen (fr.ev rfl) Tryd.underlying9) rfl rfl ?_);intro a fr;refine lst rfl (ow_v fr (rn_as (v' := .bool false) (rn_eql (fr.ev rfl) (fr.ev rfl)) (congrArg Value.bool (by rfl))) rfl rfl ?_);intro a fr;refine nil_n ?_;refine cond_f fr rfl rfl ?_;refine wp_skip ?_;refine then_n ?_;refine wp_seq ?_;refine wp_seq ?_;refine reg ?_;refine mv fr rfl rfl ?_;intro a fr;refine lst rfl (ow_v fr (rn_slen (fr.ev rfl) Tryd.underlying9) rfl rfl ?_);intro a fr;refine lst rfl (ow_v fr (rn_as (v' := .bool true) (rn_eql (fr.ev rfl) (fr.ev rfl)) (congrArg Value.bool (by rfl))) rfl rfl ?_);intro a fr;refine nil_n ?_;refine cond_t fr rfl rfl ?_;refine wp_seq ?_;refine reg ?_;refine mv fr rfl rfl ?_;intro a fr;refine mv fr rfl rfl ?_;intro a fr;refine lst rfl (ow_v fr (rn_sxi (i := 0) (c := c) (fr.ev rfl) (fr.ev rfl) Tryd.underlying9 (by simp) rfl) rfl rfl ?_);intro a fr;refine lst rfl (ow_v fr (rn_cntB rfl (fr.ev rfl) (fr.ev rfl)) rfl rfl ?_);intro a fr;refine as_ fr rfl rfl ?_;intro a fr;refine nil_n ?_;refine wp_ret ?_;refine then_r ?_;refine ret1 Tryd.results59 fr (rv_tmp fr rfl) ?_;exact ⟨rfl, st.agr⟩

theorem part_calls (xs : List UInt8) (hl : xs.length ≤ 9223372036854775806) (w0 : World) : Calls Tryd.prog 34 #[(.string ⟨xs.toArray⟩)] w0 fun e w' => e = .returned (.bool (partF xs)) ∧ Agr [] w0 w' := by
  have st := St.start w0 [];refine enter Tryd.func34 rfl Tryd.ntmps34 (by simp) ?_;intro a fr;refine wp_seq ?_;refine reg ?_;refine as_ fr rfl rfl ?_;intro a fr;refine nil_n ?_;refine wp_seq ?_;refine wp_seq ?_;refine reg ?_;refine mv fr rfl rfl ?_;intro a fr;refine lst rfl (ow_v fr (rn_slen (fr.ev rfl) Tryd.underlying9) rfl rfl ?_);intro a fr;refine mv fr rfl rfl ?_;intro a fr;refine nil_n ?_;refine wp_block ?_;refine wp_loop_ghost (fun mz a w => ∃ (k : Nat), (k ≤ xs.length) ∧ (∀ i, i < k → ∀ h : i < xs.length, okB xs[i] = true) ∧ mz = xs.length - k ∧ FrL 27 a [(0, (.string ⟨xs.toArray⟩)), (6, .int .i64 ((xs.length : Nat))), (7, .int .i64 ((k : Nat)))] ∧ St w0 [] w []) _ ⟨0, (Nat.zero_le _), (fun i hi => absurd hi (Nat.not_lt_zero _)), rfl, fr.prune ⟨rfl, rfl, rfl, trivial⟩, st⟩ ?_;clear fr st;intro mz a w hI;obtain ⟨k, hk, hJ, hmz, fr, st⟩ := hI;by_cases hlt : k < xs.length
  · obtain ⟨c, hc⟩ : ∃ c, xs[k] = c := ⟨_, rfl⟩;by_cases h1 : c.toNat < 33
    · have hbad : okB c = false := by unfold okB; rw [decide_eq_false (by omega)]; rfl
      refine wp_seq ?_;refine reg ?_;refine lst rfl (ow_v fr (rn_as (v' := .bool true) (rn_lss (fr.ev rfl) (fr.ev rfl)) (congrArg Value.bool (decide_eq_true (by omega)))) rfl rfl ?_);intro a fr;refine nil_n ?_;refine wp_seq ?_;refine cond_t fr rfl rfl ?_;refine wp_skip ?_;refine then_n ?_;refine wp_seq ?_;refine wp_block ?_;refine wp_seq ?_;refine reg ?_;refine mv fr rfl rfl ?_;intro a fr;refine as_ fr rfl rfl ?_;intro a fr;refine nil_n ?_;refine wp_seq ?_;refine reg ?_;refine mv fr rfl rfl ?_;intro a fr;refine mv fr rfl rfl ?_;intro a fr;refine lst rfl (ow_v fr (rn_sxi (i := k) (c := c) (fr.ev rfl) (fr.ev rfl) Tryd.underlying9 hlt hc) rfl rfl ?_);intro a fr;refine as_ fr rfl rfl ?_;intro a fr;refine nil_n ?_;refine wp_seq ?_;refine reg ?_;refine mv fr rfl rfl ?_;intro a fr;refine lst rfl (ow_v fr (rn_as (v' := .bool true) (rn_lss (fr.ev rfl) (fr.ev rfl)) (congrArg Value.bool (decide_eq_true (by omega)))) rfl rfl ?_);intro a fr;refine mv fr rfl rfl ?_;intro a fr;refine lst_n (unwanted_of fr rfl rfl rfl rfl) fr rfl rfl ?_;intro a fr;refine lst_n (unwanted_of fr rfl rfl rfl rfl) fr rfl rfl ?_;intro a fr;refine lst rfl (ow_v fr (rn_pick_t (fr.ev rfl) (fr.ev rfl)) rfl rfl ?_);intro a fr;refine mv fr rfl rfl ?_;intro a fr;refine lst_n (unwanted_of fr rfl rfl rfl rfl) fr rfl rfl ?_;intro a fr;refine lst_n (unwanted_of fr rfl rfl rfl rfl) fr rfl rfl ?_;intro a fr;refine lst_n (unwanted_of fr rfl rfl rfl rfl) fr rfl rfl ?_;intro a fr;refine lst rfl (ow_v fr (rn_pick_t (fr.ev rfl) (fr.ev rfl)) rfl rfl ?_);intro a fr;refine nil_n ?_;refine cond_t fr rfl rfl ?_;refine wp_seq ?_;refine reg ?_;refine as_ fr rfl rfl ?_;intro a fr;refine nil_n ?_;refine wp_ret ?_;refine blk_r ?_;refine then_r ?_;refine then_r ?_;refine blk_r ?_;refine then_r ?_;refine ret1 Tryd.results34 fr (rv_tmp fr rfl) ?_
      have hall : xs.all okB = false := by
        rw [List.all_eq_false];exact ⟨c, hc ▸ List.getElem_mem hlt, by rw [hbad]; decide⟩
      rw [show partF xs = false by unfold partF; rw [hall]; rfl];exact ⟨rfl, st.agr⟩
    · by_cases h2 : 126 < c.toNat
      · have hbad : okB c = false := by unfold okB; rw [decide_eq_false (show ¬ c.toNat ≤ 126 by omega), Bool.false_and, Bool.and_false]
        refine wp_seq ?_;refine reg ?_;refine lst rfl (ow_v fr (rn_as (v' := .bool true) (rn_lss (fr.ev rfl) (fr.ev rfl)) (congrArg Value.bool (decide_eq_true (by omega)))) rfl rfl ?_);intro a fr;refine nil_n ?_;refine wp_seq ?_;refine cond_t fr rfl rfl ?_;refine wp_skip ?_;refine then_n ?_;refine wp_seq ?_;refine wp_block ?_;refine wp_seq ?_;refine reg ?_;refine mv fr rfl rfl ?_;intro a fr;refine as_ fr rfl rfl ?_;intro a fr;refine nil_n ?_;refine wp_seq ?_;refine reg ?_;refine mv fr rfl rfl ?_;intro a fr;refine mv fr rfl rfl ?_;intro a fr;refine lst rfl (ow_v fr (rn_sxi (i := k) (c := c) (fr.ev rfl) (fr.ev rfl) Tryd.underlying9 hlt hc) rfl rfl ?_);intro a fr;refine as_ fr rfl rfl ?_;intro a fr;refine nil_n ?_;refine wp_seq ?_;refine reg ?_;refine mv fr rfl rfl ?_;intro a fr;refine lst rfl (ow_v fr (rn_as (v' := .bool false) (rn_lss (fr.ev rfl) (fr.ev rfl)) (congrArg Value.bool (decide_eq_false (by omega)))) rfl rfl ?_);intro a fr;refine mv fr rfl rfl ?_;intro a fr;refine lst_y (wanted_of fr rfl rfl rfl rfl) (ow_v fr (rn_move (fr.ev rfl)) rfl rfl ?_);intro a fr;refine lst_y (wanted_of fr rfl rfl rfl rfl) (ow_v fr (rn_as (v' := .bool true) (rn_gtr (fr.ev rfl) (fr.ev rfl)) (congrArg Value.bool (decide_eq_true (by omega)))) rfl rfl ?_);intro a fr;refine lst rfl (ow_v fr (rn_pick_f (fr.ev rfl) (fr.ev rfl)) rfl rfl ?_);intro a fr;refine mv fr rfl rfl ?_;intro a fr;refine lst_n (unwanted_of fr rfl rfl rfl rfl) fr rfl rfl ?_;intro a fr;refine lst_n (unwanted_of fr rfl rfl rfl rfl) fr rfl rfl ?_;intro a fr;refine lst_n (unwanted_of fr rfl rfl rfl rfl) fr rfl rfl ?_;intro a fr;refine lst rfl (ow_v fr (rn_pick_t (fr.ev rfl) (fr.ev rfl)) rfl rfl ?_);intro a fr;refine nil_n ?_;refine cond_t fr rfl rfl ?_;refine wp_seq ?_;refine reg ?_;refine as_ fr rfl rfl ?_;intro a fr;refine nil_n ?_;refine wp_ret ?_;refine blk_r ?_;refine then_r ?_;refine then_r ?_;refine blk_r ?_;refine then_r ?_;refine ret1 Tryd.results34 fr (rv_tmp fr rfl) ?_
        have hall : xs.all okB = false := by
          rw [List.all_eq_false];exact ⟨c, hc ▸ List.getElem_mem hlt, by rw [hbad]; decide⟩
        rw [show partF xs = false by unfold partF; rw [hall]; rfl];exact ⟨rfl, st.agr⟩
      · by_cases h3 : 0 ≤ indexByte [46, 59, 91, 47, 60, 62] c
        · have hbad : okB c = false := by unfold okB; rw [decide_eq_false (show ¬ indexByte [46, 59, 91, 47, 60, 62] c < 0 by omega), Bool.and_false, Bool.and_false]
          refine wp_seq ?_;refine reg ?_;refine lst rfl (ow_v fr (rn_as (v' := .bool true) (rn_lss (fr.ev rfl) (fr.ev rfl)) (congrArg Value.bool (decide_eq_true (by omega)))) rfl rfl ?_);intro a fr;refine nil_n ?_;refine wp_seq ?_;refine cond_t fr rfl rfl ?_;refine wp_skip ?_;refine then_n ?_;refine wp_seq ?_;refine wp_block ?_;refine wp_seq ?_;refine reg ?_;refine mv fr rfl rfl ?_;intro a fr;refine as_ fr rfl rfl ?_;intro a fr;refine nil_n ?_;refine wp_seq ?_;refine reg ?_;refine mv fr rfl rfl ?_;intro a fr;refine mv fr rfl rfl ?_;intro a fr;refine lst rfl (ow_v fr (rn_sxi (i := k) (c := c) (fr.ev rfl) (fr.ev rfl) Tryd.underlying9 hlt hc) rfl rfl ?_);intro a fr;refine as_ fr rfl rfl ?_;intro a fr;refine nil_n ?_;refine wp_seq ?_;refine reg ?_;refine mv fr rfl rfl ?_;intro a fr;refine lst rfl (ow_v fr (rn_as (v' := .bool false) (rn_lss (fr.ev rfl) (fr.ev rfl)) (congrArg Value.bool (decide_eq_false (by omega)))) rfl rfl ?_);intro a fr;refine mv fr rfl rfl ?_;intro a fr;refine lst_y (wanted_of fr rfl rfl rfl rfl) (ow_v fr (rn_move (fr.ev rfl)) rfl rfl ?_);intro a fr;refine lst_y (wanted_of fr rfl rfl rfl rfl) (ow_v fr (rn_as (v' := .bool false) (rn_gtr (fr.ev rfl) (fr.ev rfl)) (congrArg Value.bool (decide_eq_false (by omega)))) rfl rfl ?_);intro a fr;refine lst rfl (ow_v fr (rn_pick_f (fr.ev rfl) (fr.ev rfl)) rfl rfl ?_);intro a fr;refine mv fr rfl rfl ?_;intro a fr;refine lst_y (wanted_of fr rfl rfl rfl rfl) (ow_v fr (rn_move (fr.ev rfl)) rfl rfl ?_);intro a fr;refine lst_y (wanted_of fr rfl rfl rfl rfl) (ow_call fr rfl rfl Tryd.call49 (ixs_calls [46, 59, 91, 47, 60, 62] c _) rfl rfl ?_);rintro e w ⟨rfl, hag⟩;refine ⟨_, rfl, ?_⟩;intro a fr;have st := st.keep hag;clear hag;refine lst_y (wanted_of fr rfl rfl rfl rfl) (ow_v fr (rn_as (v' := .bool true) (rn_geq (fr.ev rfl) (fr.ev rfl)) (congrArg Value.bool (decide_eq_true (by omega)))) rfl rfl ?_);intro a fr;refine lst rfl (ow_v fr (rn_pick_f (fr.ev rfl) (fr.ev rfl)) rfl rfl ?_);intro a fr;refine nil_n ?_;refine cond_t fr rfl rfl ?_;refine wp_seq ?_;refine reg ?_;refine as_ fr rfl rfl ?_;intro a fr;refine nil_n ?_;refine wp_ret ?_;refine blk_r ?_;refine then_r ?_;refine then_r ?_;refine blk_r ?_;refine then_r ?_;refine ret1 Tryd.results34 fr (rv_tmp fr rfl) ?_
          have hall : xs.all okB = false := by
            rw [List.all_eq_false];exact ⟨c, hc ▸ List.getElem_mem hlt, by rw [hbad]; decide⟩
          rw [show partF xs = false by unfold partF; rw [hall]; rfl];exact ⟨rfl, st.agr⟩
        · have hok : okB c = true := by unfold okB; rw [decide_eq_true (show 33 ≤ c.toNat by omega), decide_eq_true (show c.toNat ≤ 126 by omega), decide_eq_true (show indexByte [46, 59, 91, 47, 60, 62] c < 0 by omega)]; rfl
          refine wp_seq ?_;refine reg ?_;refine lst rfl (ow_v fr (rn_as (v' := .bool true) (rn_lss (fr.ev rfl) (fr.ev rfl)) (congrArg Value.bool (decide_eq_true (by omega)))) rfl rfl ?_);intro a fr;refine nil_n ?_;refine wp_seq ?_;refine cond_t fr rfl rfl ?_;refine wp_skip ?_;refine then_n ?_;refine wp_seq ?_;refine wp_block ?_;refine wp_seq ?_;refine reg ?_;refine mv fr rfl rfl ?_;intro a fr;refine as_ fr rfl rfl ?_;intro a fr;refine nil_n ?_;refine wp_seq ?_;refine reg ?_;refine mv fr rfl rfl ?_;intro a fr;refine mv fr rfl rfl ?_;intro a fr;refine lst rfl (ow_v fr (rn_sxi (i := k) (c := c) (fr.ev rfl) (fr.ev rfl) Tryd.underlying9 hlt hc) rfl rfl ?_);intro a fr;refine as_ fr rfl rfl ?_;intro a fr;refine nil_n ?_;refine wp_seq ?_;refine reg ?_;refine mv fr rfl rfl ?_;intro a fr;refine lst rfl (ow_v fr (rn_as (v' := .bool false) (rn_lss (fr.ev rfl) (fr.ev rfl)) (congrArg Value.bool (decide_eq_false (by omega)))) rfl rfl ?_);intro a fr;refine mv fr rfl rfl ?_;intro a fr;refine lst_y (wanted_of fr rfl rfl rfl rfl) (ow_v fr (rn_move (fr.ev rfl)) rfl rfl ?_);intro a fr;refine lst_y (wanted_of fr rfl rfl rfl rfl) (ow_v fr (rn_as (v' := .bool false) (rn_gtr (fr.ev rfl) (fr.ev rfl)) (congrArg Value.bool (decide_eq_false (by omega)))) rfl rfl ?_);intro a fr;refine lst rfl (ow_v fr (rn_pick_f (fr.ev rfl) (fr.ev rfl)) rfl rfl ?_);intro a fr;refine mv fr rfl rfl ?_;intro a fr;refine lst_y (wanted_of fr rfl rfl rfl rfl) (ow_v fr (rn_move (fr.ev rfl)) rfl rfl ?_);intro a fr;refine lst_y (wanted_of fr rfl rfl rfl rfl) (ow_call fr rfl rfl Tryd.call49 (ixs_calls [46, 59, 91, 47, 60, 62] c _) rfl rfl ?_);rintro e w ⟨rfl, hag⟩;refine ⟨_, rfl, ?_⟩;intro a fr;have st := st.keep hag;clear hag;refine lst_y (wanted_of fr rfl rfl rfl rfl) (ow_v fr (rn_as (v' := .bool false) (rn_geq (fr.ev rfl) (fr.ev rfl)) (congrArg Value.bool (decide_eq_false (by omega)))) rfl rfl ?_);intro a fr;refine lst rfl (ow_v fr (rn_pick_f (fr.ev rfl) (fr.ev rfl)) rfl rfl ?_);intro a fr;refine nil_n ?_;refine cond_f fr rfl rfl ?_;refine wp_skip ?_;refine blk_n ?_;refine then_n ?_;refine reg ?_;refine lst rfl (ow_v fr (rn_add (a := (k : Nat)) (b := 1) (c := ((k + 1 : Nat) : Int)) (fr.ev rfl) (fr.ev rfl) (wr_i64e (by omega) (by omega) (by omega))) rfl rfl ?_);intro a fr;refine mv fr rfl rfl ?_;intro a fr;refine wpList_nil ?_;refine then_n ⟨xs.length - (k + 1), ?_, k + 1, (by omega), (fun i hi h => by rcases (by omega : i < k ∨ i = k) with h2 | rfl; exact hJ i h2 h; rw [hc]; exact hok), rfl, fr.prune ⟨rfl, rfl, rfl, trivial⟩, st⟩
          omega
  · refine wp_seq ?_;refine reg ?_;refine lst rfl (ow_v fr (rn_as (v' := .bool false) (rn_lss (fr.ev rfl) (fr.ev rfl)) (congrArg Value.bool (decide_eq_false (by omega)))) rfl rfl ?_);intro a fr;refine nil_n ?_;refine wp_seq ?_;refine cond_f fr rfl rfl ?_;refine wp_exit ?_;refine then_x ?_;refine then_x ?_;refine blk_x ?_;refine then_n ?_;refine wp_seq ?_;refine reg ?_;refine mv fr rfl rfl ?_;intro a fr;refine lst rfl (ow_v fr (rn_sne (fr.ev rfl) (fr.ev rfl) Tryd.underlying9) rfl rfl ?_);intro a fr;refine as_ fr rfl rfl ?_;intro a fr;refine nil_n ?_;refine wp_ret ?_;refine ret1 Tryd.results34 fr (rv_tmp fr rfl) ?_
    have hall : xs.all okB = true := by
      rw [List.all_eq_true];intro x hx;obtain ⟨i, hi, rfl⟩ := List.mem_iff_getElem.1 hx;exact hJ i (by omega) hi
    rw [show partF xs = !decide (xs = []) by unfold partF; rw [hall]; rfl];exact ⟨rfl, st.agr⟩

end Go.Proofs.YtjhbpcdaojajdaaDoor.D1
