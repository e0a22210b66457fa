import Derived.Test.YtccagiflocnioaaC11
import Derived.Test.YtccagiflocnioaaLibK2
import Derived.Test.YtccagiflocnioaaLibP
import Derived.Test.YtccagiflocnioaaLibN
import Derived.Test.YtccagiflocnioaaLibH
import Derived.Test.YtccagiflocnioaaLibA
import Derived.Test.YtccagiflocnioaaLibZ
import Derived.Test.YtccagiflocnioaaLibI
import Derived.Test.YtccagiflocnioaaLibJ
import Derived.Test.YtccagiflocnioaaLibK
import Derived.Test.YtccagiflocnioaaLibDf
import Derived.Test.YtccagiflocnioaaLibAs
import Derived.Test.YtccagiflocnioaaLibCu
import Derived.Test.YtccagiflocnioaaLibMf
import Derived.Test.YtccagiflocnioaaLibPn
set_option linter.unusedVariables false
set_option linter.unusedSimpArgs false
set_option maxRecDepth 100000
namespace Go.Proofs.Ytccagiflocnioaa.C12
open Go.Lib Go.RowKit Go.Proofs.Ytccagiflocnioaa.LibA Go.Proofs.Ytccagiflocnioaa.LibC Go.Proofs.Ytccagiflocnioaa.LibS Go.Proofs.Ytccagiflocnioaa.LibR Go.Proofs.Ytccagiflocnioaa.LibT Go.Proofs.Ytccagiflocnioaa.LibU Go.Proofs.Ytccagiflocnioaa.LibV Go.Proofs.Ytccagiflocnioaa.LibW Go.Proofs.Ytccagiflocnioaa.LibX Go.Proofs.Ytccagiflocnioaa.LibY Go.Proofs.Ytccagiflocnioaa.LibZ Go.Proofs.Ytccagiflocnioaa.LibQ Go.Proofs.Ytccagiflocnioaa.LibP Go.Proofs.Ytccagiflocnioaa.LibN Go.Proofs.Ytccagiflocnioaa.LibH Go.Proofs.Ytccagiflocnioaa.LibI Go.Proofs.Ytccagiflocnioaa.LibJ Go.Proofs.Ytccagiflocnioaa.LibK Go.Proofs.Ytccagiflocnioaa.LibM Go.Proofs.Ytccagiflocnioaa.LibK2 Go.Proofs.Ytccagiflocnioaa.LibDf Go.Proofs.Ytccagiflocnioaa.LibAs Go.Proofs.Ytccagiflocnioaa.LibCu Go.Proofs.Ytccagiflocnioaa.LibMf Go.Proofs.Ytccagiflocnioaa.LibPn Go.Proofs.Ytccagiflocnioaa.C1 Go.Proofs.Ytccagiflocnioaa.C4 Go.Proofs.Ytccagiflocnioaa.C5 Go.Proofs.Ytccagiflocnioaa.C6 Go.Proofs.Ytccagiflocnioaa.C7 Go.Proofs.Ytccagiflocnioaa.C8 Go.Proofs.Ytccagiflocnioaa.C10 Go.Proofs.Ytccagiflocnioaa.C11
def byt (x j : Nat) : UInt8 := UInt8.ofNat (x / 256 ^ j % 256)
theorem wr_byt (x j : Nat) : IntKind.u8.wrap ((x / 256 ^ j : Nat) : Int) = (((byt x j).toNat : Nat) : Int) := by
  rw [IntKind.wrap_u8]
  unfold byt
  rw [UInt8.toNat_ofNat']
  omega
/-- the last n bytes of a number, the greatest first -/
def beB (x : Nat) : Nat → List UInt8
  | 0 => []
  | j + 1 => byt x j :: beB x j
theorem beB_len (x : Nat) : ∀ n, (beB x n).length = n
  | 0 => rfl
  | n + 1 => by simp [beB, beB_len x n]
theorem shr_byt (x j : Nat) : ((x : Int)) / 2 ^ (((8 * j : Nat) : Int)).toNat = ((x / 256 ^ j : Nat) : Int) := by
  rw [Int.toNat_natCast]
  have h : (2 : Int) ^ (8 * j) = ((256 ^ j : Nat) : Int) := by
    rw [show (256 : Nat) ^ j = 2 ^ (8 * j) by rw [Nat.pow_mul], Int.natCast_pow]
    rfl
  rw [h]
  rfl

theorem inf_5 : (Try.prog.info? 5).map (fun i => (i.zero, i.size, i.bytes)) = some (some (.int .u8 0), 1, 1) := by kernel_rfl
set_option maxHeartbeats 1000000 in
theorem put1_calls (x n : Nat) (hn : n ≤ 8) (pb : Nat) (acc0 : List UInt8) (A0 : Option Addr) (c0 : Nat) (hl : acc0.length ≤ 70000000000000) (K : List Nat) (w0 : World) (st : St w0 K w0 [.blk pb [.slice A0 acc0.length c0] 22, row C8 1 5 0 (.slice A0 acc0.length c0) acc0]) : Calls Try.prog 41 #[.int .u64 ((x : Nat) : Int), .int .i64 (n : Nat), .pointer (some ⟨pb, 0, none⟩)] w0 fun e w' => ∃ A c, e = .returned (.tuple #[]) ∧ St w0 K w' [.blk pb [.slice A (acc0 ++ beB x n).length c] 22, row C8 1 5 0 (.slice A (acc0 ++ beB x n).length c) (acc0 ++ beB x n)] := by
  refine enter Try.func41 rfl Try.ntmps41 (by simp) ?_;intro a fr;refine wp_seq ?_;refine reg ?_;refine mv fr rfl rfl ?_;intro a fr;refine lst rfl (ow_v fr (rn_sub (a := (n : Nat)) (b := 1) (c := (n : Nat) - 1) (fr.ev rfl) (fr.ev rfl) (wr_i64e (by omega) (by omega) (by omega))) rfl rfl ?_);intro a fr;refine as_ fr rfl rfl ?_;intro a fr;refine nil_n ?_;refine wp_block ?_;refine wp_loop_ghost (fun mz a w => ∃ (q : Int) (r : Nat) (acc : List UInt8) (A : Option Addr) (c : Nat), (q = (r : Int) - 1) ∧ (acc0 ++ beB x n = acc ++ beB x r) ∧ (acc.length + r = acc0.length + n) ∧ (r ≤ n) ∧ mz = r ∧ FrL 19 a [(0, .int .u64 (((x : Nat) : Int))), (1, .int .i64 (q)), (2, .pointer (some ⟨pb, 0, none⟩))] ∧ St w0 K w [.blk pb [.slice A acc.length c] 22, row C8 1 5 0 (.slice A acc.length c) acc]) _ ⟨_, n, acc0, A0, c0, (by omega), (rfl), (rfl), (Nat.le_refl _), rfl, fr.prune ⟨rfl, rfl, rfl, trivial⟩, st⟩ ?_;clear fr st;intro mz a w hI;obtain ⟨q, r, acc, A, c, hqr, hE, hlen, hrn, hmz, fr, st⟩ := hI;by_cases hq0 : 0 ≤ q
  · obtain ⟨j, rfl⟩ : ∃ j : Nat, q = (j : Int) := ⟨q.toNat, by omega⟩;obtain rfl : r = j + 1 := by omega
    refine wp_seq ?_;refine wp_seq ?_;refine reg ?_;refine mv fr rfl rfl ?_;intro a fr;refine lst rfl (ow_v fr (rn_as (v' := .bool true) (rn_geq (fr.ev rfl) (fr.ev rfl)) (congrArg Value.bool (decide_eq_true (by omega)))) rfl rfl ?_);intro a fr;refine nil_n ?_;refine cond_t fr rfl rfl ?_;refine wp_skip ?_;refine then_n ?_;refine wp_seq ?_;refine wp_block ?_;refine dr_start (by kernel_rfl) st (.cons _ (.cons _ .slnil)) ?_;intro w st;refine dt 1 rfl (by kernel_rfl) (fun _ _ _ h => h) fr rfl (st.sub (.cons _ (.cons _ .slnil))) (fun w st => rn_move (fr.ev rfl)) rfl rfl ?_;intro a fr;refine dt 2 rfl (by kernel_rfl) (fun _ _ _ h => h) fr rfl (st.sub (.cons _ (.cons _ .slnil))) (fun w st => rn_move (fr.ev rfl)) rfl rfl ?_;intro a fr;refine dt 3 rfl (by kernel_rfl) (fun _ _ _ h => h) fr rfl (st.sub (.cons _ (.cons _ .slnil))) (fun w st => rn_mul (a := 8) (b := (j : Nat)) (c := ((8 * j : Nat) : Int)) (fr.ev rfl) (fr.ev rfl) (wr_i64e (by omega) (by omega) (by omega))) rfl rfl ?_;intro a fr;refine dt 4 rfl (by kernel_rfl) (fun _ _ _ h => h) fr rfl (st.sub (.cons _ (.cons _ .slnil))) (fun w st => rn_shr (k := .u64) (a := ((x : Nat) : Int)) (b := ((8 * j : Nat) : Int)) (c := ((x / 256 ^ j : Nat) : Int)) (fr.ev rfl) (fr.ev rfl) (by omega) (by show (((8 * j : Nat) : Int)) ≤ 64; omega) (shr_byt x j)) rfl rfl ?_;intro a fr;refine dt 5 rfl (by kernel_rfl) (fun _ _ _ h => h) fr rfl (st.sub (.cons _ (.cons _ .slnil))) (fun w st => rn_conv (c := (((byt x j).toNat : Nat) : Int)) (fr.ev rfl) (by kernel_rfl) Try.underlying5 (wr_byt x j)) rfl rfl ?_;intro a fr;refine dr_two 0 6 (by kernel_rfl) rfl rfl rfl rfl ?_ ?_
    · refine ow_v fr (rn_load (fr.ev rfl) Try.underlying22 rfl (st.cell 0 rfl rfl)) rfl rfl ?_;intro a fr;refine ⟨st.sub (.cons _ (.cons _ .slnil)), ?_⟩;refine dr_one 6 (by kernel_rfl) rfl rfl (ow_bslice (E := 5) fr st rfl [.int .u8 ((((byt x j).toNat : Nat) : Int))] (fun w => by simp only [List.map_toArray, List.map_cons, List.map_nil]; rw [fr.ev (x := .tmp 16) rfl]; kernel_rfl) rfl rfl ?_);intro a w b1 fr st;refine ⟨st.sub (.cons _ (.cons _ (.cons _ .slnil))), ?_⟩;refine dr_one 7 (by kernel_rfl) rfl rfl (ow_append1k fr st 2 0 ((byt x j : UInt8)) rfl rfl rfl rfl rfl Try.underlying22 inf_5 (by rfl) (by decide) (fun _ => rfl) rfl (by ((try simp only [List.length_append, List.length_cons, List.length_nil]); omega)) (by unfold maxLen; ((try simp only [List.length_append, List.length_cons, List.length_nil]); omega)) (Nat.zero_le _) rfl rfl ?_);intro a w Ax2 cx3 fr (st : St _ K w [.blk b1 [.int .u8 ((((byt x j).toNat : Nat) : Int))] 5, .blk pb [.slice A acc.length c] 22, row C8 1 5 0 (.slice Ax2 ((acc ++ [(byt x j : UInt8)]).length) cx3) ((acc ++ [(byt x j : UInt8)]))]);refine ⟨st.sub (.cons _ (.cons _ (.cons _ .slnil))), ?_⟩;refine dr_one 8 (by kernel_rfl) rfl rfl (ow_st fr st 1 rfl rfl rfl rfl sz_22 rfl rfl rfl ?_);intro w (st : St _ K w [.blk b1 [.int .u8 ((((byt x j).toNat : Nat) : Int))] 5, .blk pb [.slice Ax2 ((acc ++ [(byt x j : UInt8)]).length) cx3] 22, row C8 1 5 0 (.slice Ax2 ((acc ++ [(byt x j : UInt8)]).length) cx3) ((acc ++ [(byt x j : UInt8)]))]);refine ⟨st.sub (.cons _ (.cons _ (.cons _ .slnil))), ?_⟩;refine dr_done (by kernel_rfl) ?_;refine blk_n ?_;refine then_n ?_;refine reg ?_;refine mv fr rfl rfl ?_;intro a fr;refine lst rfl (ow_v fr (rn_sub (a := (j : Nat)) (b := 1) (c := (j : Nat) - 1) (fr.ev rfl) (fr.ev rfl) (wr_i64e (by omega) (by omega) (by omega))) rfl rfl ?_);intro a fr;refine as_ fr rfl rfl ?_;intro a fr;refine wpList_nil ?_;refine then_n ⟨j, ?_, ((j : Nat) : Int) - 1, j, (acc ++ [(byt x j : UInt8)]), Ax2, cx3, (by omega), (by rw [hE]; simp [beB]), (by simp; omega), (by omega), rfl, fr.prune ⟨rfl, rfl, rfl, trivial⟩, st.sub (.cons _ (.cons_cons _ (.cons_cons _ .slnil)))⟩
      omega
    · refine ow_bslice (E := 5) fr st rfl [.int .u8 ((((byt x j).toNat : Nat) : Int))] (fun w => by simp only [List.map_toArray, List.map_cons, List.map_nil]; rw [fr.ev (x := .tmp 16) rfl]; kernel_rfl) rfl rfl ?_;intro a w b4 fr st;refine ⟨st.sub (.cons _ (.cons _ (.cons _ .slnil))), ?_⟩;refine dr_one 0 (by kernel_rfl) rfl rfl (ow_v fr (rn_load (fr.ev rfl) Try.underlying22 rfl (st.cell 1 rfl rfl)) rfl rfl ?_);intro a fr;refine ⟨st.sub (.cons _ (.cons _ (.cons _ .slnil))), ?_⟩;refine dr_one 7 (by kernel_rfl) rfl rfl (ow_append1k fr st 2 0 ((byt x j : UInt8)) rfl rfl rfl rfl rfl Try.underlying22 inf_5 (by rfl) (by decide) (fun _ => rfl) rfl (by ((try simp only [List.length_append, List.length_cons, List.length_nil]); omega)) (by unfold maxLen; ((try simp only [List.length_append, List.length_cons, List.length_nil]); omega)) (Nat.zero_le _) rfl rfl ?_);intro a w Ax5 cx6 fr (st : St _ K w [.blk b4 [.int .u8 ((((byt x j).toNat : Nat) : Int))] 5, .blk pb [.slice A acc.length c] 22, row C8 1 5 0 (.slice Ax5 ((acc ++ [(byt x j : UInt8)]).length) cx6) ((acc ++ [(byt x j : UInt8)]))]);refine ⟨st.sub (.cons _ (.cons _ (.cons _ .slnil))), ?_⟩;refine dr_one 8 (by kernel_rfl) rfl rfl (ow_st fr st 1 rfl rfl rfl rfl sz_22 rfl rfl rfl ?_);intro w (st : St _ K w [.blk b4 [.int .u8 ((((byt x j).toNat : Nat) : Int))] 5, .blk pb [.slice Ax5 ((acc ++ [(byt x j : UInt8)]).length) cx6] 22, row C8 1 5 0 (.slice Ax5 ((acc ++ [(byt x j : UInt8)]).length) cx6) ((acc ++ [(byt x j : UInt8)]))]);refine ⟨st.sub (.cons _ (.cons _ (.cons _ .slnil))), ?_⟩;refine dr_done (by kernel_rfl) ?_;refine blk_n ?_;refine then_n ?_;refine reg ?_;refine mv fr rfl rfl ?_;intro a fr;refine lst rfl (ow_v fr (rn_sub (a := (j : Nat)) (b := 1) (c := (j : Nat) - 1) (fr.ev rfl) (fr.ev rfl) (wr_i64e (by omega) (by omega) (by omega))) rfl rfl ?_);intro a fr;refine as_ fr rfl rfl ?_;intro a fr;refine wpList_nil ?_;refine then_n ⟨j, ?_, ((j : Nat) : Int) - 1, j, (acc ++ [(byt x j : UInt8)]), Ax5, cx6, (by omega), (by rw [hE]; simp [beB]), (by simp; omega), (by omega), rfl, fr.prune ⟨rfl, rfl, rfl, trivial⟩, st.sub (.cons _ (.cons_cons _ (.cons_cons _ .slnil)))⟩
      omega
  · obtain rfl : r = 0 := by omega
    refine wp_seq ?_;refine wp_seq ?_;refine reg ?_;refine mv fr rfl rfl ?_;intro a fr;refine lst rfl (ow_v fr (rn_as (v' := .bool false) (rn_geq (fr.ev rfl) (fr.ev rfl)) (congrArg Value.bool (decide_eq_false (by omega)))) rfl rfl ?_);intro a fr;refine nil_n ?_;refine cond_f fr rfl rfl ?_;refine wp_exit ?_;refine then_x ?_;refine then_x ?_;refine blk_x ?_;refine ret_end ?_;refine ret0 Try.results41 fr  ?_;rw [hE, show beB x 0 = [] from rfl, List.append_nil];exact ⟨A, c, rfl, st.sub (.cons_cons _ (.cons_cons _ .slnil))⟩

end Go.Proofs.Ytccagiflocnioaa.C12
