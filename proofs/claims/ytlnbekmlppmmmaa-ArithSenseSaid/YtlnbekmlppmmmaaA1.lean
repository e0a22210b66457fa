/- Plain facts on wraps, shifts and bits, and what the functions of layer 5 compute, as Lean functions. No Go here. -/
import Derived.RowKit
import Derived.IntWalk
import Derived.Laws.BitsAllLaws
namespace Go.Proofs.Ytlnbekmlppmmmaa.Ar
open Go.RowKit
set_option linter.unusedVariables false

theorem ret_int {k : IntKind} {a b : Int} (h : a = b) : Ending.returned (.int k a) = .returned (.int k b) := by rw [h]
theorem ret_bool {a b : Bool} (h : a = b) : Ending.returned (.bool a) = .returned (.bool b) := by rw [h]
theorem ret_ib {k : IntKind} {a b : Int} {p q : Bool} (h : a = b) (g : p = q) : Ending.returned (.tuple #[.int k a, .bool p]) = .returned (.tuple #[.int k b, .bool q]) := by rw [h, g]
theorem ret_ii {k : IntKind} {a b c d : Int} (h : a = b) (g : c = d) : Ending.returned (.tuple #[.int k a, .int k c]) = .returned (.tuple #[.int k b, .int k d]) := by rw [h, g]

theorem beq_eq_dec (a b : Int) : (a == b) = decide (a = b) := by rw [Bool.eq_iff_iff]; simp
def wr (a : Int) : Int := wrap32 a
theorem wr_bd (a : Int) : -2147483648 ≤ wr a ∧ wr a ≤ 2147483647 := by unfold wr wrap32; omega
theorem wr_in (a : Int) (h0 : -2147483648 ≤ a) (h1 : a ≤ 2147483647) : wr a = a := by unfold wr wrap32; omega
theorem wr_w64 (a : Int) : wrap64 (wr a) = wr a := by unfold wr wrap32 wrap64; omega
theorem wr_of64 (a : Int) : wr (wrap64 a) = wr a := by unfold wr wrap32 wrap64; omega
theorem w64_bd (a : Int) : -9223372036854775808 ≤ wrap64 a ∧ wrap64 a ≤ 9223372036854775807 := by unfold wrap64; omega

/-- 'b & 63', 'b & 31' of a number with a sign: the lowest bits. -/
theorem and_low (b : Int) (j : Nat) (hj : j ≤ 6) : bits .and .i64 b ((2 ^ j - 1 : Nat) : Int) = b % ((2 ^ j : Nat) : Int) := by
  have hp : 2 ^ j ≤ 2 ^ 6 := Nat.pow_le_pow_right (by omega) hj
  have hp0 : 0 < 2 ^ j := Nat.pow_pos (by omega)
  have hlow : (BitVec.ofInt 64 ((2 ^ j - 1 : Nat) : Int)).toNat = 2 ^ j - 1 := by
    rw [BitVec.ofInt_natCast, BitVec.toNat_ofNat]; exact Nat.mod_eq_of_lt (by omega)
  show IntKind.i64.wrap ((BitVec.ofInt 64 b &&& BitVec.ofInt 64 ((2 ^ j - 1 : Nat) : Int)).toNat : Int) = _
  rw [BitVec.toNat_and, hlow, Nat.and_two_pow_sub_one_eq_mod, BitVec.toNat_ofInt]
  have hd : (2 ^ j) ∣ (2 ^ 64 : Nat) := Nat.pow_dvd_pow 2 (by omega)
  have e1 : (((b % ((2 ^ 64 : Nat) : Int)).toNat % 2 ^ j : Nat) : Int) = b % ((2 ^ j : Nat) : Int) := by
    rw [Int.natCast_emod, Int.toNat_of_nonneg (Int.emod_nonneg _ (by decide))]
    exact Int.emod_emod_of_dvd _ (Int.natCast_dvd_natCast.mpr hd)
  rw [e1]
  have h0 : 0 ≤ b % ((2 ^ j : Nat) : Int) := Int.emod_nonneg _ (by omega)
  have h1 : b % ((2 ^ j : Nat) : Int) < ((2 ^ j : Nat) : Int) := Int.emod_lt_of_pos _ (by omega)
  rw [IntKind.wrap_i64]
  generalize b % ((2 ^ j : Nat) : Int) = x at *
  omega
theorem and63 (b : Int) : bits .and .i64 b 63 = b % 64 := and_low b 6 (by omega)
theorem and31 (b : Int) : bits .and .i64 b 31 = b % 32 := and_low b 5 (by omega)

theorem mul_mod (a b : Int) : ((a % 18446744073709551616) * (b % 18446744073709551616)) % 18446744073709551616 = (a * b) % 18446744073709551616 := (Int.mul_emod a b _).symm
theorem w64_mod (a : Int) : wrap64 (a % 18446744073709551616) = wrap64 a := by unfold wrap64; omega
theorem w64_mul (a b : Int) : wrap64 (((a % 18446744073709551616) * (b % 18446744073709551616)) % 18446744073709551616) = wrap64 (a * b) := by
  rw [mul_mod, w64_mod]


theorem u64w (a : Int) : IntKind.u64.wrap a = a % 18446744073709551616 := by simp [IntKind.wrap, IntKind.bits, IntKind.signed]
theorem u64_t256 (a : Int) : (IntKind.u64.wrap a).tmod 256 = a % 256 := by rw [u64w, Int.tmod_eq_emod_of_nonneg (by omega)]; omega
theorem u64_t64 (a : Int) : (IntKind.u64.wrap a).tmod 64 = a % 64 := by rw [u64w, Int.tmod_eq_emod_of_nonneg (by omega)]; omega
theorem u64_t32 (a : Int) : (IntKind.u64.wrap a).tmod 32 = a % 32 := by rw [u64w, Int.tmod_eq_emod_of_nonneg (by omega)]; omega
theorem u64_t16 (a : Int) : (IntKind.u64.wrap a).tmod 65536 = a % 65536 := by rw [u64w, Int.tmod_eq_emod_of_nonneg (by omega)]; omega
theorem u64_tw (a : Int) : (IntKind.u64.wrap a).tmod 4294967296 = a % 4294967296 := by rw [u64w, Int.tmod_eq_emod_of_nonneg (by omega)]; omega
theorem w64_small (a : Int) (h0 : -9223372036854775808 ≤ a) (h1 : a ≤ 9223372036854775807) : wrap64 a = a := by unfold wrap64; omega
theorem w64_m256 (a : Int) : wrap64 (a % 256) = a % 256 := w64_small _ (by omega) (by omega)
theorem w64_m16 (a : Int) : wrap64 (a % 65536) = a % 65536 := w64_small _ (by omega) (by omega)
theorem w64_m32 (a : Int) : wrap64 (a % 4294967296) = a % 4294967296 := w64_small _ (by omega) (by omega)


theorem w64_congr {x y : Int} (h : x % 18446744073709551616 = y % 18446744073709551616) : wrap64 x = wrap64 y := by unfold wrap64; omega
theorem w64_uadd (a b : Int) : wrap64 (IntKind.u64.wrap (IntKind.u64.wrap a + IntKind.u64.wrap b)) = wrap64 (a + b) := by
  simp only [u64w]; exact w64_congr (by omega)
theorem w64_usub (a b : Int) : wrap64 (IntKind.u64.wrap (IntKind.u64.wrap a - IntKind.u64.wrap b)) = wrap64 (a - b) := by
  simp only [u64w]; exact w64_congr (by omega)
theorem w64_umul (a b : Int) : wrap64 (IntKind.u64.wrap (IntKind.u64.wrap a * IntKind.u64.wrap b)) = wrap64 (a * b) := by
  simp only [u64w]; exact w64_mul a b
theorem w64_uneg (a : Int) : wrap64 (IntKind.u64.wrap (-IntKind.u64.wrap a)) = wrap64 (-a) := by
  simp only [u64w]; exact w64_congr (by omega)
theorem w64_ushl (a b : Int) : wrap64 (IntKind.u64.wrap (IntKind.u64.wrap a * b)) = wrap64 (a * b) := by
  simp only [u64w]; refine w64_congr ?_; rw [Int.emod_emod_of_dvd _ (Int.dvd_refl _)]; simp [Int.mul_emod]
theorem w64_ushr (a b : Int) : wrap64 (IntKind.u64.wrap a / b) = wrap64 (a % 18446744073709551616 / b) := by rw [u64w]

/-! what the functions compute -/
def divV (a b : Int) : Int := if b = -1 then wrap64 (-a) else wrap64 (Int.tdiv a b)
def remV (a b : Int) : Int := if b = -1 then 0 else Int.tmod a b
def longV (op a b : Int) : Int :=
  if op = 1 then wrap64 (a + b) else if op = 2 then wrap64 (a - b) else if op = 3 then wrap64 (a * b)
  else if op = 4 then (if b = 0 then 0 else divV a b) else if op = 5 then (if b = 0 then 0 else remV a b)
  else if op = 6 then bits .and .i64 a b else if op = 7 then bits .or .i64 a b else if op = 8 then bits .xor .i64 a b
  else if op = 9 then wrap64 (a * 2 ^ (b % 64).toNat) else if op = 10 then a / 2 ^ (b % 64).toNat
  else if op = 11 then wrap64 ((a % 18446744073709551616) / 2 ^ (b % 64).toNat) else 0
def longB (op b : Int) : Bool := if 1 ≤ op ∧ op ≤ 11 then (if op = 4 ∨ op = 5 then decide (b ≠ 0) else true) else false
def intV (op a b : Int) : Int :=
  if op = 9 then wr (wrap64 (wr a * 2 ^ (wr b % 32).toNat)) else if op = 10 then wr a / 2 ^ (wr b % 32).toNat
  else if op = 11 then wr ((wr a % 4294967296) / 2 ^ (wr b % 32).toNat) else wr (longV op (wr a) (wr b))
def intB (op b : Int) : Bool := longB op (wr b)
def pureB (op : Int) : Bool := decide (1 ≤ op ∧ op ≤ 11 ∧ op ≠ 4 ∧ op ≠ 5)
def narV (k a : Int) : Int := if k = 1 then (a + 128) % 256 - 128 else if k = 2 then a % 65536 else if k = 3 then (a + 32768) % 65536 - 32768 else a
def condB (c a b : Int) : Bool := if c = 1 then decide (a = b) else if c = 2 then decide (a ≠ b) else if c = 3 then decide (a < b) else if c = 4 then decide (b ≤ a) else if c = 5 then decide (b < a) else if c = 6 then decide (a ≤ b) else false
def notV (c : Int) : Int := if c = 1 then 2 else if c = 2 then 1 else if c = 3 then 4 else if c = 4 then 3 else if c = 5 then 6 else if c = 6 then 5 else 0
def swapV (c : Int) : Int := if c = 1 then 1 else if c = 2 then 2 else if c = 3 then 5 else if c = 4 then 6 else if c = 5 then 3 else if c = 6 then 4 else 0
def cmpV (a b : Int) : Int := if a < b then -1 else if b < a then 1 else 0


theorem wr_w64neg (a : Int) : wr (wrap64 (IntKind.u64.wrap (-IntKind.u64.wrap a))) = wr (wrap64 (-wr a)) := by
  rw [u64w, u64w, wr_of64, wr_of64]; unfold wr wrap32; omega
theorem rem_sign (a b : Int) (hb : b ≠ 0) : (remV a b < 0 → a < 0) ∧ (0 < remV a b → 0 < a) := by
  unfold remV
  by_cases h : b = -1
  · rw [if_pos h]; omega
  · rw [if_neg h]
    rcases (by omega : 0 ≤ a ∨ a < 0) with g | g
    · have h0 := Int.tmod_nonneg b g
      refine ⟨by omega, fun hp => ?_⟩
      rcases (by omega : a = 0 ∨ 0 < a) with e | e
      · subst e; simp at hp
      · exact e
    · have h0 : 0 ≤ Int.tmod (-a) b := Int.tmod_nonneg b (by omega)
      rw [Int.neg_tmod] at h0
      exact ⟨fun _ => g, by omega⟩
theorem rem_near (a b : Int) (hb : b ≠ 0) : (0 ≤ b → -b < remV a b ∧ remV a b < b) ∧ (b ≤ 0 → b < remV a b ∧ remV a b < -b) := by
  unfold remV
  by_cases h : b = -1
  · rw [if_pos h]; omega
  · rw [if_neg h]
    have h1 := Int.tmod_lt_of_pos a (b := (b.natAbs : Int)) (by omega)
    have h2 := Int.lt_tmod_of_pos a (b := (b.natAbs : Int)) (by omega)
    have e : a.tmod (b.natAbs : Int) = a.tmod b := by
      rcases (by omega : 0 ≤ b ∨ b < 0) with g | g
      · rw [show (b.natAbs : Int) = b from by omega]
      · rw [show (b.natAbs : Int) = -b from by omega, Int.tmod_neg]
    rw [e] at h1 h2
    omega
theorem div_back (a b : Int) (h0 : -9223372036854775808 ≤ a) (h1 : a ≤ 9223372036854775807) (hb : b ≠ 0) : wrap64 (wrap64 (divV a b * b) + remV a b) = a := by
  unfold divV remV
  by_cases h : b = -1
  · rw [if_pos h, if_pos h, h]; unfold wrap64; omega
  · rw [if_neg h, if_neg h]
    have e : Int.tdiv a b * b + Int.tmod a b = a := by rw [Int.mul_comm]; exact Int.mul_tdiv_add_tmod a b
    have k1 : ∀ x : Int, wrap64 x % 18446744073709551616 = x % 18446744073709551616 := fun x => by unfold wrap64; omega
    have k2 : (wrap64 (Int.tdiv a b) * b) % 18446744073709551616 = (Int.tdiv a b * b) % 18446744073709551616 := by
      rw [Int.mul_emod, k1, ← Int.mul_emod]
    have k3 : (wrap64 (wrap64 (Int.tdiv a b) * b) + Int.tmod a b) % 18446744073709551616 = a % 18446744073709551616 := by
      rw [Int.add_emod, k1, k2, ← Int.add_emod, e]
    rw [w64_congr k3]; exact w64_small a h0 h1


theorem bd64 {a : Int} (h : (Lit.int .i64 a).wf = true) : -9223372036854775808 ≤ a ∧ a ≤ 9223372036854775807 := by
  simpa [Lit.wf, IntKind.min, IntKind.max, IntKind.bits, IntKind.signed] using h
theorem wr_wr (a : Int) : wr (wr a) = wr a := wr_in _ (wr_bd a).1 (wr_bd a).2
theorem wr_negneg (a : Int) : wr (wrap64 (-wr (wr (wrap64 (-wr a))))) = wr a := by
  rw [wr_of64, wr_of64, wr_wr]; unfold wr wrap32; omega
theorem w64_negneg (a : Int) (h0 : -9223372036854775808 ≤ a) (h1 : a ≤ 9223372036854775807) : wrap64 (-wrap64 (-a)) = a := by unfold wrap64; omega
theorem shr_bd (x : Int) (n : Nat) (h0 : -2147483648 ≤ x) (h1 : x ≤ 2147483647) : -2147483648 ≤ x / 2 ^ n ∧ x / 2 ^ n ≤ 2147483647 := by
  have hp : (0 : Int) < 2 ^ n := Int.pow_pos (by omega)
  constructor
  · rw [Int.le_ediv_iff_mul_le hp]
    have : (1 : Int) ≤ 2 ^ n := hp
    generalize (2 : Int) ^ n = p at *
    have : -2147483648 * p ≤ -2147483648 * 1 := Int.mul_le_mul_of_nonpos_left (by omega) (by omega)
    omega
  · rcases (by omega : 0 ≤ x ∨ x < 0) with h | h
    · exact Int.le_trans (Int.ediv_le_self _ h) h1
    · have := Int.ediv_neg_of_neg_of_pos h hp
      omega
theorem wr_intV (op a b : Int) : wr (intV op a b) = intV op a b := by
  unfold intV
  have hx := shr_bd (wr a) (wr b % 32).toNat (wr_bd a).1 (wr_bd a).2
  repeat' split
  · exact wr_wr _
  · exact wr_in _ hx.1 hx.2
  · exact wr_wr _
  · exact wr_wr _
theorem near_yes (r b : Int) (h : r ≠ 0) (hb : b ≠ 0) (hn : (0 ≤ b → -b < r ∧ r < b) ∧ (b ≤ 0 → b < r ∧ r < -b)) : (r ≤ -r ∧ b ≤ -b ∧ -r < -b) ∨ (r ≤ -r ∧ -b ≤ b ∧ -r < b) ∨ (-r ≤ r ∧ b ≤ -b ∧ r < -b) ∨ (-r ≤ r ∧ -b ≤ b ∧ r < b) := by omega

/-- Any op: one of the eleven, or none. -/
theorem op_cases (op : Int) : op = 1 ∨ op = 2 ∨ op = 3 ∨ op = 4 ∨ op = 5 ∨ op = 6 ∨ op = 7 ∨ op = 8 ∨ op = 9 ∨ op = 10 ∨ op = 11 ∨ (op ≠ 1 ∧ op ≠ 2 ∧ op ≠ 3 ∧ op ≠ 4 ∧ op ≠ 5 ∧ op ≠ 6 ∧ op ≠ 7 ∧ op ≠ 8 ∧ op ≠ 9 ∧ op ≠ 10 ∧ op ≠ 11) := by omega
end Go.Proofs.Ytlnbekmlppmmmaa.Ar
