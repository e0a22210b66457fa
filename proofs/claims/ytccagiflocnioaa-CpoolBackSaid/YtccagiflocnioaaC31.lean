import Derived.Test.YtccagiflocnioaaC27
import Derived.Test.YtccagiflocnioaaLibK2
import Derived.Test.YtccagiflocnioaaLibP
import Derived.Test.YtccagiflocnioaaLibN
import Derived.Test.YtccagiflocnioaaLibH
import Derived.Test.YtccagiflocnioaaLibA
import Derived.Test.YtccagiflocnioaaLibZ
import Derived.Test.YtccagiflocnioaaLibI
import Derived.Test.YtccagiflocnioaaLibJ
import Derived.Test.YtccagiflocnioaaLibK
import Derived.Test.YtccagiflocnioaaLibDf
import Derived.Test.YtccagiflocnioaaLibAs
import Derived.Test.YtccagiflocnioaaLibCu
import Derived.Test.YtccagiflocnioaaLibMf
import Derived.Test.YtccagiflocnioaaLibPn
set_option linter.unusedVariables false
set_option linter.unusedSimpArgs false
set_option maxRecDepth 100000
namespace Go.Proofs.Ytccagiflocnioaa.C31
open Go.Lib Go.RowKit Go.Proofs.Ytccagiflocnioaa.LibA Go.Proofs.Ytccagiflocnioaa.LibC Go.Proofs.Ytccagiflocnioaa.LibS Go.Proofs.Ytccagiflocnioaa.LibR Go.Proofs.Ytccagiflocnioaa.LibT Go.Proofs.Ytccagiflocnioaa.LibU Go.Proofs.Ytccagiflocnioaa.LibV Go.Proofs.Ytccagiflocnioaa.LibW Go.Proofs.Ytccagiflocnioaa.LibX Go.Proofs.Ytccagiflocnioaa.LibY Go.Proofs.Ytccagiflocnioaa.LibZ Go.Proofs.Ytccagiflocnioaa.LibQ Go.Proofs.Ytccagiflocnioaa.LibP Go.Proofs.Ytccagiflocnioaa.LibN Go.Proofs.Ytccagiflocnioaa.LibH Go.Proofs.Ytccagiflocnioaa.LibI Go.Proofs.Ytccagiflocnioaa.LibJ Go.Proofs.Ytccagiflocnioaa.LibK Go.Proofs.Ytccagiflocnioaa.LibM Go.Proofs.Ytccagiflocnioaa.LibK2 Go.Proofs.Ytccagiflocnioaa.LibDf Go.Proofs.Ytccagiflocnioaa.LibAs Go.Proofs.Ytccagiflocnioaa.LibCu Go.Proofs.Ytccagiflocnioaa.LibMf Go.Proofs.Ytccagiflocnioaa.LibPn Go.Proofs.Ytccagiflocnioaa.C1 Go.Proofs.Ytccagiflocnioaa.C4 Go.Proofs.Ytccagiflocnioaa.C5 Go.Proofs.Ytccagiflocnioaa.C6 Go.Proofs.Ytccagiflocnioaa.C7 Go.Proofs.Ytccagiflocnioaa.C8 Go.Proofs.Ytccagiflocnioaa.C10 Go.Proofs.Ytccagiflocnioaa.C11 Go.Proofs.Ytccagiflocnioaa.C12 Go.Proofs.Ytccagiflocnioaa.C13 Go.Proofs.Ytccagiflocnioaa.C25 Go.Proofs.Ytccagiflocnioaa.C26 Go.Proofs.Ytccagiflocnioaa.C27
theorem beN_cons (c : UInt8) (xs : List UInt8) : beN (c :: xs) = c.toNat * 256 ^ xs.length + beN xs := by
  have key : ∀ (l : List UInt8) (x : Nat), l.foldl (fun x c => x * 256 + c.toNat) x = x * 256 ^ l.length + l.foldl (fun x c => x * 256 + c.toNat) 0 := by
    intro l
    induction l with
    | nil => intro x; simp
    | cons d r ih =>
      intro x
      rw [List.foldl_cons, List.foldl_cons, ih, ih (0 * 256 + d.toNat), List.length_cons, Nat.pow_succ, Nat.add_mul, Nat.zero_mul, Nat.zero_add, Nat.mul_assoc, Nat.mul_comm 256]
      omega
  unfold beN
  rw [List.foldl_cons, key]
  simp
theorem byt_nat (x j : Nat) : (byt x j).toNat = x / 256 ^ j % 256 := by
  unfold byt
  rw [UInt8.toNat_ofNat']
  omega
theorem byt_mod {x j n : Nat} (h : j < n) : byt (x % 256 ^ n) j = byt x j := by
  unfold byt
  congr 1
  obtain ⟨d, rfl⟩ : ∃ d, n = j + (d + 1) := ⟨n - j - 1, by omega⟩
  rw [Nat.pow_add, Nat.mod_mul_right_div_self, Nat.pow_succ, Nat.mul_comm (256 ^ d), Nat.mod_mul_right_mod]
theorem beB_mod (x n : Nat) : beB (x % 256 ^ n) n = beB x n := by
  have key : ∀ m, m ≤ n → beB (x % 256 ^ n) m = beB x m := by
    intro m
    induction m with
    | zero => intro _; rfl
    | succ m ih => intro h; unfold beB; rw [ih (by omega), byt_mod (by omega)]
  exact key n (Nat.le_refl _)
theorem beN_beB (x : Nat) : ∀ n, beN (beB x n) = x % 256 ^ n
  | 0 => by simp [beB, beN, Nat.mod_one]
  | n + 1 => by
    unfold beB
    rw [beN_cons, beN_beB x n, beB_len, byt_nat, Nat.pow_succ, Nat.mod_mul, Nat.mul_comm]
    omega
theorem beB_beN : ∀ xs : List UInt8, beB (beN xs) xs.length = xs
  | [] => rfl
  | c :: xs => by
    have h1 := beN_lt xs
    have h2 := UInt8.toNat_lt c
    have hp : 0 < 256 ^ xs.length := Nat.pow_pos (by decide)
    rw [List.length_cons]
    unfold beB
    rw [beN_cons]
    have e1 : byt (c.toNat * 256 ^ xs.length + beN xs) xs.length = c := by
      apply UInt8.toNat_inj.1
      rw [byt_nat, Nat.mul_comm, Nat.mul_add_div hp, Nat.div_eq_of_lt h1]
      omega
    rw [e1, ← beB_mod (c.toNat * 256 ^ xs.length + beN xs), Nat.mul_add_mod_self_right, Nat.mod_eq_of_lt h1, beB_beN xs]
theorem beB_nb {bs : List UInt8} {a n v : Nat} (h : nb bs a n = v) (hl : a + n ≤ bs.length) : beB v n = txt bs a n := by
  have hl2 : (txt bs a n).length = n := by unfold txt; rw [List.length_drop, List.length_take]; omega
  subst h
  have := beB_beN (txt bs a n)
  rw [hl2] at this
  exact this
theorem txt_drop' (bs : List UInt8) (a n : Nat) : txt bs a n = (bs.drop a).take n := by unfold txt; rw [List.take_drop]
theorem txt_pre {bs L R : List UInt8} {a x n : Nat} (h : bs.drop a = L ++ R) (hx : x + n ≤ L.length) : txt bs (a + x) n = (L.drop x).take n := by
  rw [txt_drop', ← List.drop_drop, h, List.drop_append_of_le_length (by omega), List.take_append_of_le_length (by rw [List.length_drop]; omega)]
theorem nb_at {bs L R : List UInt8} {a x n y : Nat} (h : bs.drop a = L ++ R) (hL : (L.drop x).take n = beB y n) (hx : x + n ≤ L.length) : nb bs (a + x) n = y % 256 ^ n := by
  have : nb bs (a + x) n = beN (txt bs (a + x) n) := rfl
  rw [this, txt_pre h hx, hL, beN_beB]
/-- what an entry that may be is -/
theorem may_cases {c : CstD} (h : mayF c = 0) : (∃ s : ByteArray, c = (1, s, 0, 0, 0) ∧ s.size ≤ 255 ∧ plainF s.data.toList = true) ∨ (∃ n, c = (3, ByteArray.empty, n, 0, 0) ∧ i32 n = n) ∨ (∃ n, c = (5, ByteArray.empty, n, 0, 0)) ∨ (∃ a, c = (7, ByteArray.empty, 0, a, 0) ∧ u16w a = a) ∨
    (∃ t a b, (t = 9 ∨ t = 10 ∨ t = 12) ∧ c = (t, ByteArray.empty, 0, a, b) ∧ u16w a = a ∧ u16w b = b) := by
  obtain ⟨t, s, n, a, b⟩ := c
  unfold mayF normF at h
  simp only at h
  by_cases h1 : t = 1
  · rw [if_pos h1] at h
    simp only at h
    by_cases he : ((t, s, 0, 0, 0) : CstD) = (t, s, n, a, b)
    · rw [if_pos he] at h
      simp only [Prod.mk.injEq, true_and] at he
      obtain ⟨rfl, rfl, rfl⟩ := he
      by_cases hp : 255 < s.size ∨ plainF s.data.toList = false
      · rw [if_pos hp] at h; cases h
      · exact .inl ⟨s, by rw [h1], by omega, by simpa using fun h => hp (.inr h)⟩
    · rw [if_neg he] at h; cases h
  · rw [if_neg h1] at h
    have size0 : ∀ {x y : CstD}, (if x = y then (if 255 < y.2.1.size ∨ plainF y.2.1.data.toList = false then (32 : Int) else 0) else 31) = 0 → x = y := fun {x y} h => by
      by_cases he : x = y
      · exact he
      · rw [if_neg he] at h; cases h
    by_cases h3 : t = 3
    · rw [if_pos h3] at h
      have he := size0 (x := (t, ByteArray.empty, i32 n, 0, 0)) (y := (t, s, n, a, b)) h
      simp only [Prod.mk.injEq, true_and] at he
      obtain ⟨rfl, h4, rfl, rfl⟩ := he
      exact .inr (.inl ⟨n, by rw [h3], h4⟩)
    · rw [if_neg h3] at h
      by_cases h5 : t = 5
      · rw [if_pos h5] at h
        have he := size0 (x := (t, ByteArray.empty, n, 0, 0)) (y := (t, s, n, a, b)) h
        simp only [Prod.mk.injEq, true_and] at he
        obtain ⟨rfl, rfl, rfl⟩ := he
        exact .inr (.inr (.inl ⟨n, by rw [h5]⟩))
      · rw [if_neg h5] at h
        by_cases h7 : t = 7
        · rw [if_pos h7] at h
          have he := size0 (x := (t, ByteArray.empty, 0, u16w a, 0)) (y := (t, s, n, a, b)) h
          simp only [Prod.mk.injEq, true_and] at he
          obtain ⟨rfl, rfl, h4, rfl⟩ := he
          exact .inr (.inr (.inr (.inl ⟨a, by rw [h7], h4⟩)))
        · rw [if_neg h7] at h
          by_cases h9 : t = 9 ∨ t = 10 ∨ t = 12
          · rw [if_pos h9] at h
            have he := size0 (x := (t, ByteArray.empty, 0, u16w a, u16w b)) (y := (t, s, n, a, b)) h
            simp only [Prod.mk.injEq, true_and] at he
            obtain ⟨rfl, rfl, h4, h6⟩ := he
            exact .inr (.inr (.inr (.inr ⟨t, a, b, h9, rfl, h4, h6⟩)))
          · rw [if_neg h9] at h; cases h
theorem may_of {c x : CstD} (hn : normF c = some x) (hx : x = c) (hs : c.2.1.size ≤ 255) (hp : plainF c.2.1.data.toList = true) : mayF c = 0 := by
  unfold mayF
  rw [hn]
  simp only
  rw [if_pos hx, if_neg (by rintro (h | h); omega; rw [hp] at h; cases h)]
theorem u64_i32 {n : Int} (h : i32 n = n) : u64N n % 256 ^ 4 = (n % 4294967296).toNat := by
  rw [show (256 : Nat) ^ 4 = 4294967296 by decide]
  unfold u64N
  omega
theorem i32_nat {n : Int} (h : i32 n = n) : i32 (((n % 4294967296).toNat : Nat) : Int) = n := by
  have h1 := i32_eq n
  rw [i32_eq]
  omega
theorem w64_nat {n : Int} (h1 : -9223372036854775808 ≤ n) (h2 : n ≤ 9223372036854775807) : w64 (u64N n % 256 ^ 8) = n := by
  rw [show (256 : Nat) ^ 8 = 18446744073709551616 by decide]
  unfold w64 u64N
  rw [IntKind.wrap_i64]
  omega
theorem u16_nat {a : Int} (h : u16w a = a) : ((u64N a % 256 ^ 2 : Nat) : Int) = a := by
  have h1 := u16w_eq a
  rw [show (256 : Nat) ^ 2 = 65536 by decide]
  unfold u64N
  omega
/-- an entry's bytes, read -/
theorem ent_back {bs R : List UInt8} {a : Nat} {c : CstD} {last : Bool} (hm : mayF c = 0) (hN : -9223372036854775808 ≤ c.2.2.1 ∧ c.2.2.1 ≤ 9223372036854775807) (h5 : c.1 = 5 → last = false) (hd : bs.drop a = entB c ++ R) : entF bs a last = (0, c, (entB c).length) := by
  have hlen : (entB c).length + R.length = bs.length - a := by rw [← List.length_append, ← hd, List.length_drop]
  rcases may_cases hm with ⟨s, rfl, hs, hp⟩ | ⟨n, rfl, hn⟩ | ⟨n, rfl⟩ | ⟨x, rfl, hx⟩ | ⟨t, x, y, ht, rfl, hx, hy⟩
  · have eB : entB ((1, s, 0, 0, 0) : CstD) = beB 1 1 ++ (beB s.size 2 ++ s.data.toList) := rfl
    have hsl : s.data.toList.length = s.size := by rw [Array.length_toList]; rfl
    have hl : (entB ((1, s, 0, 0, 0) : CstD)).length = 3 + s.size := by rw [eB]; simp only [List.length_append, beB_len]; omega
    rw [hl] at hlen ⊢
    rw [eB] at hd
    have e1 : nb bs a 1 = 1 := nb_at (x := 0) (y := 1) hd rfl (by simp only [List.length_append, beB_len]; omega)
    have e2 : nb bs (a + 1) 2 = s.size := by
      rw [nb_at (x := 1) (y := s.size) hd rfl (by simp only [List.length_append, beB_len]; omega)]
      exact Nat.mod_eq_of_lt (Nat.lt_of_le_of_lt hs (by decide))
    have e3 : txt bs (a + 1 + 2) s.size = s.data.toList := by
      rw [show a + 1 + 2 = a + 3 by omega, txt_pre hd (by simp only [List.length_append, beB_len]; omega)]
      show s.data.toList.take s.size = _
      rw [← hsl, List.take_length]
    unfold entF
    rw [if_neg (by omega), e1, if_pos rfl, if_neg (by omega), e2, if_neg (by omega), if_neg (by omega), e3, if_neg (by rw [hp]; decide), show 1 + 2 + s.size = 3 + s.size by omega, Array.toArray_toList]
    rfl
  · have eB : entB ((3, ByteArray.empty, n, 0, 0) : CstD) = beB 3 1 ++ beB (u64N n) 4 := rfl
    have hl : (entB ((3, ByteArray.empty, n, 0, 0) : CstD)).length = 5 := by rw [eB]; simp only [List.length_append, beB_len]
    rw [hl] at hlen ⊢
    rw [eB] at hd
    have e1 : nb bs a 1 = 3 := nb_at (x := 0) (y := 3) hd rfl (by simp only [List.length_append, beB_len]; omega)
    have e2 := nb_at (x := 1) (n := 4) (y := u64N n) hd rfl (by simp only [List.length_append, beB_len]; omega)
    unfold entF
    rw [if_neg (by omega), e1, if_neg (by decide), if_pos rfl, if_neg (by omega), e2, u64_i32 hn, i32_nat hn]
    rfl
  · have eB : entB ((5, ByteArray.empty, n, 0, 0) : CstD) = beB 5 1 ++ beB (u64N n) 8 := rfl
    have hl : (entB ((5, ByteArray.empty, n, 0, 0) : CstD)).length = 9 := by rw [eB]; simp only [List.length_append, beB_len]
    rw [hl] at hlen ⊢
    rw [eB] at hd
    have e1 : nb bs a 1 = 5 := nb_at (x := 0) (y := 5) hd rfl (by simp only [List.length_append, beB_len]; omega)
    have e2 := nb_at (x := 1) (n := 8) (y := u64N n) hd rfl (by simp only [List.length_append, beB_len]; omega)
    unfold entF
    rw [if_neg (by omega), e1, if_neg (by decide), if_neg (by decide), if_pos rfl, if_neg (by rw [h5 rfl]; decide), if_neg (by omega), e2, w64_nat hN.1 hN.2]
    rfl
  · have eB : entB ((7, ByteArray.empty, 0, x, 0) : CstD) = beB 7 1 ++ beB (u64N x) 2 := rfl
    have hl : (entB ((7, ByteArray.empty, 0, x, 0) : CstD)).length = 3 := by rw [eB]; simp only [List.length_append, beB_len]
    rw [hl] at hlen ⊢
    rw [eB] at hd
    have e1 : nb bs a 1 = 7 := nb_at (x := 0) (y := 7) hd rfl (by simp only [List.length_append, beB_len]; omega)
    have e2 := nb_at (x := 1) (n := 2) (y := u64N x) hd rfl (by simp only [List.length_append, beB_len]; omega)
    unfold entF
    rw [if_neg (by omega), e1, if_neg (by decide), if_neg (by decide), if_neg (by decide), if_pos rfl, if_neg (by omega), e2, u16_nat hx]
    rfl
  · have eB : entB ((t, ByteArray.empty, 0, x, y) : CstD) = beB (u64N t) 1 ++ (beB (u64N x) 2 ++ beB (u64N y) 2) := by rcases ht with rfl | rfl | rfl <;> rfl
    have hl : (entB ((t, ByteArray.empty, 0, x, y) : CstD)).length = 5 := by rw [eB]; simp only [List.length_append, beB_len]
    rw [hl] at hlen ⊢
    rw [eB] at hd
    have e1 : ((nb bs a 1 : Nat) : Int) = t := by
      rw [show nb bs a 1 = _ from nb_at (x := 0) (y := u64N t) hd rfl (by simp only [List.length_append, beB_len]; omega)]
      rcases ht with rfl | rfl | rfl <;> rfl
    have e2 := nb_at (x := 1) (n := 2) (y := u64N x) hd rfl (by simp only [List.length_append, beB_len]; omega)
    have e3 := nb_at (x := 1 + 2) (n := 2) (y := u64N y) hd rfl (by simp only [List.length_append, beB_len]; omega)
    rw [← Nat.add_assoc] at e3
    unfold entF
    rw [if_neg (by omega), if_neg (by omega), if_neg (by omega), if_neg (by omega), if_neg (by omega), if_pos (by omega), if_neg (by omega), e1, e2, e3, u16_nat hx, u16_nat hy]
theorem em1 : ByteArray.empty.size ≤ 255 := by decide
theorem em2 : plainF ByteArray.empty.data.toList = true := by decide
theorem u64_small {n : Nat} (h : n < 18446744073709551616) : u64N ((n : Nat) : Int) = n := by unfold u64N; omega
theorem u64_w64 {n : Nat} (h : n < 256 ^ 8) : u64N (w64 n) = n := by
  rw [show (256 : Nat) ^ 8 = 18446744073709551616 by decide] at h
  unfold w64 u64N
  rw [IntKind.wrap_i64]
  omega
theorem u64_i32b {n : Nat} (h : n < 256 ^ 4) : u64N (i32 ((n : Nat) : Int)) % 256 ^ 4 = n := by
  rw [show (256 : Nat) ^ 4 = 4294967296 by decide] at h ⊢
  unfold u64N
  rw [i32_eq]
  omega
theorem txt_join (bs : List UInt8) (a m n : Nat) : txt bs a m ++ txt bs (a + m) n = txt bs a (m + n) := by
  rw [txt_drop', txt_drop', txt_drop', ← List.drop_drop]
  exact (List.take_add (l := bs.drop a) (i := m) (j := n)).symm
theorem ent_len {c : CstD} (h0 : c.1 ≠ 0) : 0 < (entB c).length := by
  unfold entB
  rw [if_neg h0, List.length_append, beB_len]
  omega
/-- an entry that was read: it may be, and its bytes are those that were read -/
theorem ent_fwd {bs : List UInt8} {a k : Nat} {c : CstD} {last : Bool} (h : entF bs a last = (0, c, k)) : mayF c = 0 ∧ (c.1 = 5 → last = false) ∧ entB c = txt bs a k ∧ a + k ≤ bs.length ∧ c.1 ≠ 0 := by
  have hle := ent_le h
  unfold entF at h
  by_cases h1 : bs.length < a + 1
  · rw [if_pos h1] at h; simp at h
  rw [if_neg h1] at h
  obtain ⟨t, hT⟩ : ∃ t, nb bs a 1 = t := ⟨_, rfl⟩
  have hb1 := beB_nb hT (by omega)
  rw [hT] at h
  by_cases ht : t = 1
  · subst ht
    rw [if_pos rfl] at h
    by_cases h2 : bs.length < a + 1 + 2
    · rw [if_pos h2] at h; simp at h
    rw [if_neg h2] at h
    obtain ⟨n, hn⟩ : ∃ n, nb bs (a + 1) 2 = n := ⟨_, rfl⟩
    have hb2 := beB_nb hn (by omega)
    rw [hn] at h
    by_cases h3 : 255 < n
    · rw [if_pos h3] at h; simp at h
    rw [if_neg h3] at h
    by_cases h4 : bs.length < a + 1 + 2 + n
    · rw [if_pos h4] at h; simp at h
    rw [if_neg h4] at h
    obtain ⟨tx, htx⟩ : ∃ tx, txt bs (a + 1 + 2) n = tx := ⟨_, rfl⟩
    rw [htx] at h
    have htl : tx.length = n := by rw [← htx]; unfold txt; rw [List.length_drop, List.length_take]; omega
    by_cases h5 : plainF tx = false
    · rw [if_pos h5] at h; simp at h
    rw [if_neg h5] at h
    simp only [Prod.mk.injEq] at h
    obtain ⟨_, rfl, rfl⟩ := h
    have hsz : (⟨tx.toArray⟩ : ByteArray).size = n := by show tx.toArray.size = n; simpa using htl
    refine ⟨may_of (x := (((1 : Nat) : Int), ⟨tx.toArray⟩, 0, 0, 0)) rfl rfl (by show (⟨tx.toArray⟩ : ByteArray).size ≤ 255; omega) (by simpa using h5), fun h5 => by simp at h5, ?_, hle, by simp⟩
    show beB 1 1 ++ (beB (⟨tx.toArray⟩ : ByteArray).size 2 ++ (⟨tx.toArray⟩ : ByteArray).data.toList) = _
    rw [hsz, hb1, hb2, ← txt_join bs a (1 + 2) n, ← txt_join bs a 1 2, ← Nat.add_assoc, htx]
    simp
  rw [if_neg ht] at h
  by_cases ht : t = 3
  · subst ht
    rw [if_pos rfl] at h
    by_cases h2 : bs.length < a + 1 + 4
    · rw [if_pos h2] at h; simp at h
    rw [if_neg h2] at h
    obtain ⟨n, hn⟩ : ∃ n, nb bs (a + 1) 4 = n := ⟨_, rfl⟩
    have hb2 := beB_nb hn (by omega)
    have hlt := nb_lt hn
    rw [hn] at h
    simp only [Prod.mk.injEq] at h
    obtain ⟨_, rfl, rfl⟩ := h
    have hii : i32 (i32 ((n : Nat) : Int)) = i32 ((n : Nat) : Int) := by have := i32_eq ((n : Nat) : Int); rw [i32_eq (i32 _)]; omega
    refine ⟨may_of (x := (((3 : Nat) : Int), ByteArray.empty, i32 (i32 ((n : Nat) : Int)), 0, 0)) rfl (by rw [hii]) em1 em2, fun h5 => by simp at h5, ?_, hle, by simp⟩
    show beB 3 1 ++ beB (u64N (i32 ((n : Nat) : Int))) 4 = _
    rw [← beB_mod (u64N (i32 ((n : Nat) : Int))) 4, u64_i32b hlt, hb1, hb2, txt_join]
  rw [if_neg ht] at h
  by_cases ht : t = 5
  · subst ht
    rw [if_pos rfl] at h
    cases last with
    | true => rw [if_pos rfl] at h; simp at h
    | false =>
    rw [if_neg (by decide)] at h
    by_cases h2 : bs.length < a + 1 + 8
    · rw [if_pos h2] at h; simp at h
    rw [if_neg h2] at h
    obtain ⟨n, hn⟩ : ∃ n, nb bs (a + 1) 8 = n := ⟨_, rfl⟩
    have hb2 := beB_nb hn (by omega)
    have hlt := nb_lt hn
    rw [hn] at h
    simp only [Prod.mk.injEq] at h
    obtain ⟨_, rfl, rfl⟩ := h
    refine ⟨may_of (x := (((5 : Nat) : Int), ByteArray.empty, w64 n, 0, 0)) rfl rfl em1 em2, fun _ => rfl, ?_, hle, by simp⟩
    show beB 5 1 ++ beB (u64N (w64 n)) 8 = _
    rw [u64_w64 hlt, hb1, hb2, txt_join]
  rw [if_neg ht] at h
  by_cases ht : t = 7
  · subst ht
    rw [if_pos rfl] at h
    by_cases h2 : bs.length < a + 1 + 2
    · rw [if_pos h2] at h; simp at h
    rw [if_neg h2] at h
    obtain ⟨n, hn⟩ : ∃ n, nb bs (a + 1) 2 = n := ⟨_, rfl⟩
    have hb2 := beB_nb hn (by omega)
    have hlt := nb_lt hn
    rw [show (256 : Nat) ^ 2 = 65536 by decide] at hlt
    rw [hn] at h
    simp only [Prod.mk.injEq] at h
    obtain ⟨_, rfl, rfl⟩ := h
    have hu : u16w ((n : Nat) : Int) = n := by rw [u16w_eq]; omega
    refine ⟨may_of (x := (((7 : Nat) : Int), ByteArray.empty, 0, u16w ((n : Nat) : Int), 0)) rfl (by rw [hu]) em1 em2, fun h5 => by simp at h5, ?_, hle, by simp⟩
    show beB 7 1 ++ beB (u64N ((n : Nat) : Int)) 2 = _
    rw [u64_small (by omega), hb1, hb2, txt_join]
  rw [if_neg ht] at h
  by_cases ht : t = 9 ∨ t = 10 ∨ t = 12
  · rw [if_pos ht] at h
    by_cases h2 : bs.length < a + 1 + 4
    · rw [if_pos h2] at h; simp at h
    rw [if_neg h2] at h
    obtain ⟨n, hn⟩ : ∃ n, nb bs (a + 1) 2 = n := ⟨_, rfl⟩
    obtain ⟨m, hm⟩ : ∃ m, nb bs (a + 1 + 2) 2 = m := ⟨_, rfl⟩
    have hb2 := beB_nb hn (by omega)
    have hb3 := beB_nb hm (by omega)
    have hlt := nb_lt hn
    have hlt2 := nb_lt hm
    rw [show (256 : Nat) ^ 2 = 65536 by decide] at hlt hlt2
    rw [hn, hm] at h
    simp only [Prod.mk.injEq] at h
    obtain ⟨_, rfl, rfl⟩ := h
    have hu : u16w ((n : Nat) : Int) = n := by rw [u16w_eq]; omega
    have hu2 : u16w ((m : Nat) : Int) = m := by rw [u16w_eq]; omega
    have hno : normF (((t : Nat) : Int), ByteArray.empty, 0, ((n : Nat) : Int), ((m : Nat) : Int)) = some (((t : Nat) : Int), ByteArray.empty, 0, u16w ((n : Nat) : Int), u16w ((m : Nat) : Int)) := by rcases ht with rfl | rfl | rfl <;> rfl
    refine ⟨may_of hno (by rw [hu, hu2]) em1 em2, fun h5 => by simp at h5; omega, ?_, hle, by simp; omega⟩
    have eB : entB ((((t : Nat) : Int), ByteArray.empty, 0, ((n : Nat) : Int), ((m : Nat) : Int)) : CstD) = beB (u64N ((t : Nat) : Int)) 1 ++ (beB (u64N ((n : Nat) : Int)) 2 ++ beB (u64N ((m : Nat) : Int)) 2) := by rcases ht with rfl | rfl | rfl <;> rfl
    rw [eB, u64_small (by omega), u64_small (by omega), u64_small (by omega), hb1, hb2, hb3, txt_join, txt_join]
  rw [if_neg ht] at h
  simp at h
/-- what stands at a place of a pool that is being read -/
def okAt (many : Nat) (acc : List CstD) (k : Nat) : Prop := ∃ h : k < acc.length, if k = 0 ∨ (acc[k - 1]?).map (·.1) = some 5 then acc[k] = zC else mayF acc[k] = 0 ∧ (acc[k].1 = 5 → k + 1 < many)
theorem okAt_app {many k : Nat} {acc : List CstD} (h : okAt many acc k) (r : List CstD) : okAt many (acc ++ r) k := by
  obtain ⟨hk, h⟩ := h
  refine ⟨by rw [List.length_append]; omega, ?_⟩
  rw [List.getElem_append_left hk]
  have hp : (k = 0 ∨ ((acc ++ r)[k - 1]?).map (·.1) = some 5) ↔ (k = 0 ∨ (acc[k - 1]?).map (·.1) = some 5) := by
    by_cases h0 : k = 0
    · simp [h0]
    · rw [List.getElem?_append_left (by omega)]
  by_cases h1 : k = 0 ∨ (acc[k - 1]?).map (·.1) = some 5
  · rw [if_pos (hp.2 h1)]; rw [if_pos h1] at h; exact h
  · rw [if_neg (fun h => h1 (hp.1 h))]; rw [if_neg h1] at h; exact h
theorem takeN_fwd (bs : List UInt8) (many n : Nat) (l : List CstD) : ∀ (f : Nat) (acc : List CstD) (a : Nat), takeN bs many f acc a = (0, l, n) → many + 1 ≤ f + acc.length → 2 ≤ a → a ≤ bs.length → 1 ≤ acc.length → acc.length ≤ many → (∀ k, k < acc.length → okAt many acc k) → (acc[acc.length - 1]?).map (·.1) ≠ some 5 → acc.flatMap entB = txt bs 2 (a - 2) →
    l.length = many ∧ (∀ k, k < l.length → okAt many l k) ∧ l.flatMap entB = txt bs 2 (n - 2) ∧ 2 ≤ n ∧ n ≤ bs.length
  | 0, acc, a, _, hf, _, _, _, hm, _, _, _ => by omega
  | f + 1, acc, a, h, hf, ha, hab, h1, hm, hok, hl5, hfl => by
    unfold takeN at h
    by_cases hge : many ≤ acc.length
    · rw [if_pos hge] at h
      simp only [Prod.mk.injEq] at h
      obtain ⟨_, rfl, rfl⟩ := h
      exact ⟨by omega, hok, hfl, ha, hab⟩
    · rw [if_neg hge] at h
      cases hE : entF bs a (decide (acc.length + 1 = many)) with
      | mk er ck =>
        obtain ⟨c, k⟩ := ck
        rw [hE] at h
        simp only at h
        by_cases her : er = 0
        · subst her
          rw [if_pos rfl] at h
          obtain ⟨hmay, hlast, hB, hle, hc0⟩ := ent_fwd hE
          have hcok : ∀ r, okAt many (acc ++ [c] ++ r) acc.length := fun r => by
            refine okAt_app ⟨by simp, ?_⟩ r
            have hx : ((acc ++ [c])[acc.length]'(by simp)) = c := by simp
            have hpv : (acc ++ [c])[acc.length - 1]? = acc[acc.length - 1]? := by rw [List.getElem?_append_left (by omega)]
            rw [hx, if_neg (by rw [hpv]; rintro (h0 | h0); omega; exact hl5 h0)]
            exact ⟨hmay, fun h5 => by have := hlast h5; simp at this; omega⟩
          have hflat : (acc ++ [c]).flatMap entB = txt bs 2 (a + k - 2) := by
            rw [List.flatMap_append, hfl, List.flatMap_cons, List.flatMap_nil, List.append_nil, hB, show a + k - 2 = (a - 2) + k by omega, ← txt_join, show 2 + (a - 2) = a by omega]
          by_cases h5 : c.1 = 5
          · rw [if_pos h5] at h
            have hlt : acc.length + 1 < many := by have := hlast h5; simp at this; omega
            refine takeN_fwd bs many n l f _ _ h (by simp; omega) (by omega) hle (by simp) (by simp; omega) (fun q hq => ?_) ?_ ?_
            · rcases (by simp at hq; omega : q < acc.length ∨ q = acc.length ∨ q = acc.length + 1) with h2 | h2 | h2
              · rw [List.append_assoc]; exact okAt_app (hok q h2) _
              · subst h2; exact hcok [zC]
              · subst h2
                refine ⟨by simp, ?_⟩
                rw [if_pos (.inr (by rw [List.getElem?_append_left (by simp), Nat.add_sub_cancel]; simp [h5]))]
                simp
            · simp [zC]
            · rw [List.flatMap_append, hflat]
              simp [entB, zC]
          · rw [if_neg h5, List.append_nil] at h
            refine takeN_fwd bs many n l f _ _ h (by simp; omega) (by omega) hle (by simp) (by simp; omega) (fun q hq => ?_) ?_ hflat
            · rcases (by simp at hq; omega : q < acc.length ∨ q = acc.length) with h2 | h2
              · exact okAt_app (hok q h2) _
              · subst h2; simpa using hcok []
            · simp [h5]
        · rw [if_neg her] at h
          simp only [Prod.mk.injEq] at h
          exact absurd h.1 her
theorem okAt_err {l : List CstD} {k : Nat} (h : okAt l.length l k) : errAt l k = 0 := by
  obtain ⟨hk, h⟩ := h
  rw [err_at hk rfl]
  by_cases h1 : k = 0 ∨ (l[k - 1]?).map (·.1) = some 5
  · rw [if_pos h1] at h ⊢
    rw [if_pos (show l[k] = ((0, ByteArray.empty, 0, 0, 0) : CstD) from h)]
  · rw [if_neg h1] at h ⊢
    rw [if_neg (fun h' => by have := h.2 h'.1; omega)]
    exact h.1
/-- what is read, written again, is what was read -/
theorem take_put {bs : List UInt8} {l : List CstD} {n : Nat} (h : takeF bs = (0, l, n)) : checkF l = 0 ∧ putF l = bs.take n ∧ n ≤ bs.length := by
  unfold takeF at h
  by_cases h2 : bs.length < 2
  · rw [if_pos h2] at h; simp at h
  rw [if_neg h2] at h
  obtain ⟨m, hM⟩ : ∃ m, nb bs 0 2 = m := ⟨_, rfl⟩
  have hb := beB_nb hM (by omega)
  rw [hM] at h
  by_cases h3 : 4096 < m
  · rw [if_pos h3] at h; simp at h
  rw [if_neg h3] at h
  have htk : ∀ x, txt bs 0 2 ++ txt bs 2 x = bs.take (2 + x) := fun x => by rw [show (2 : Nat) = 0 + 2 by rfl, txt_join]; unfold txt; simp
  by_cases h0 : 0 < m
  · rw [if_pos h0] at h
    obtain ⟨e1, e2, e3, e4, e5⟩ := takeN_fwd bs m n l (m + 1) [zC] 2 h (by simp) (by omega) (by omega) (by simp) (by simp; omega) (fun k hk => by
      have : k = 0 := by simp at hk; omega
      subst this
      exact ⟨by simp, by rw [if_pos (.inl rfl)]; rfl⟩) (by simp [zC]) (by simp [entB, zC, txt])
    subst e1
    refine ⟨check_ok (by omega) (fun k hk => okAt_err (e2 k hk)), ?_, e5⟩
    unfold putF
    rw [e3, hb, htk, show 2 + (n - 2) = n by omega]
  · rw [if_neg h0, takeN_end (by simp; omega)] at h
    simp only [Prod.mk.injEq] at h
    obtain ⟨_, rfl, rfl⟩ := h
    have hm0 : m = 0 := by omega
    subst hm0
    refine ⟨by decide, ?_, by omega⟩
    have := htk 0
    unfold putF
    rw [List.flatMap_nil, List.append_nil, List.length_nil, hb]
    unfold txt
    simp
theorem takeN_back {bs R : List UInt8} {l : List CstD} (hc : checkF l = 0) (hw : ∀ c ∈ l, -9223372036854775808 ≤ c.2.2.1 ∧ c.2.2.1 ≤ 9223372036854775807) (hbs : bs = putF l ++ R) : ∀ (f j : Nat), l.length + 1 ≤ f + j → 1 ≤ j → j ≤ l.length → (l[j - 1]?).map (·.1) ≠ some 5 →
    takeN bs l.length f (l.take j) (2 + ((l.take j).flatMap entB).length) = (0, l, (putF l).length)
  | 0, j, h, _, h2, _ => by omega
  | f + 1, j, hf, h1, hj, hp => by
    by_cases he : j = l.length
    · subst he
      rw [List.take_length, takeN_end (Nat.le_refl _)]
      unfold putF
      rw [List.length_append, beB_len]
    · have hjl : j < l.length := by omega
      have hta : (l.take j).length = j := by rw [List.length_take]; omega
      have hej := (check_all hc).2 j hjl
      rw [err_at hjl rfl, if_neg (by rintro (h0 | h0); omega; exact hp h0)] at hej
      by_cases h5l : l[j].1 = 5 ∧ j = l.length - 1
      · rw [if_pos h5l] at hej; cases hej
      rw [if_neg h5l] at hej
      have hsplit : l = l.take j ++ (l[j] :: l.drop (j + 1)) := by rw [← List.drop_eq_getElem_cons hjl, List.take_append_drop]
      have hdrop : bs.drop (2 + ((l.take j).flatMap entB).length) = entB l[j] ++ ((l.drop (j + 1)).flatMap entB ++ R) := by
        rw [hbs]
        unfold putF
        conv => lhs; rw [show l.flatMap entB = (l.take j).flatMap entB ++ (entB l[j] ++ (l.drop (j + 1)).flatMap entB) by conv => lhs; rw [hsplit]
                                                                                                                          rw [List.flatMap_append, List.flatMap_cons]]
        rw [← List.append_assoc, List.append_assoc, List.drop_append_of_le_length (by rw [List.length_append, beB_len]; omega), List.drop_eq_nil_of_le (by rw [List.length_append, beB_len]; omega), List.nil_append, List.append_assoc]
      have hE := ent_back (last := decide (j + 1 = l.length)) hej (hw _ (List.getElem_mem hjl)) (fun h5 => by
        have : ¬ j = l.length - 1 := fun h => h5l ⟨h5, h⟩
        simp
        omega) hdrop
      rw [takeN_step (by omega) (by omega) (by rw [hta]; exact hE), Nat.add_sub_cancel]
      have hstep : (l.take (j + 1)) = l.take j ++ [l[j]] := List.take_succ_eq_append_getElem hjl
      have hfl1 : 2 + ((l.take j).flatMap entB).length + (entB l[j]).length = 2 + ((l.take (j + 1)).flatMap entB).length := by
        rw [hstep, List.flatMap_append, List.length_append]
        simp
        omega
      rw [← hstep, hfl1]
      by_cases h5 : l[j].1 = 5
      · have hj2 : j + 1 < l.length := by
          have : ¬ j = l.length - 1 := fun h => h5l ⟨h5, h⟩
          omega
        rw [if_pos h5]
        have hz : l[j + 1] = zC := by
          have hen := (check_all hc).2 (j + 1) hj2
          rw [err_at hj2 rfl, if_pos (.inr (by rw [Nat.add_sub_cancel, List.getElem?_eq_getElem hjl]; simp [h5]))] at hen
          by_cases hz : l[j + 1] = ((0, ByteArray.empty, 0, 0, 0) : CstD)
          · exact hz
          · rw [if_neg hz] at hen; cases hen
        have hs2 : l.take (j + 1) ++ [zC] = l.take (j + 2) := by rw [List.take_succ_eq_append_getElem hj2, hz]
        have hf2 : ((l.take (j + 1)).flatMap entB).length = ((l.take (j + 2)).flatMap entB).length := by
          rw [← hs2, List.flatMap_append]
          simp [entB, zC]
        rw [hs2, hf2]
        exact takeN_back hc hw hbs f (j + 2) (by omega) (by omega) (by omega) (by
          rw [show j + 2 - 1 = j + 1 by omega, List.getElem?_eq_getElem hj2, hz]
          simp [zC])
      · rw [if_neg h5, List.append_nil]
        exact takeN_back hc hw hbs f (j + 1) (by omega) (by omega) (by omega) (by
          rw [Nat.add_sub_cancel, List.getElem?_eq_getElem hjl]
          simpa using h5)
/-- a pool that is written is read as it was -/
theorem put_take {l : List CstD} {more : List UInt8} (hc : checkF l = 0) (hw : ∀ c ∈ l, -9223372036854775808 ≤ c.2.2.1 ∧ c.2.2.1 ≤ 9223372036854775807) : takeF (putF l ++ more) = (0, l, (putF l).length) := by
  have h4 := (check_all hc).1
  obtain ⟨bs, hbs⟩ : ∃ bs, bs = putF l ++ more := ⟨_, rfl⟩
  have hlen : 2 ≤ bs.length := by rw [hbs, List.length_append]; unfold putF; rw [List.length_append, beB_len]; omega
  have hd0 : bs.drop 0 = beB l.length 2 ++ (l.flatMap entB ++ more) := by rw [hbs]; unfold putF; simp
  have hM : nb bs 0 2 = l.length := by
    have := nb_at (x := 0) (n := 2) (y := l.length) hd0 rfl (by simp only [beB_len]; omega)
    rw [Nat.zero_add] at this
    rw [this]
    exact Nat.mod_eq_of_lt (Nat.lt_of_le_of_lt h4 (by decide))
  rw [← hbs]
  unfold takeF
  rw [if_neg (by omega), hM, if_neg (by omega)]
  by_cases h0 : 0 < l.length
  · rw [if_pos h0]
    have hz : l[0] = zC := by
      have hen := (check_all hc).2 0 h0
      rw [err_at h0 rfl, if_pos (.inl rfl)] at hen
      by_cases hz : l[0] = ((0, ByteArray.empty, 0, 0, 0) : CstD)
      · exact hz
      · rw [if_neg hz] at hen; cases hen
    have ht1 : l.take 1 = [zC] := by rw [List.take_succ_eq_append_getElem h0, hz]; rfl
    have := takeN_back (R := more) hc hw hbs (l.length + 1) 1 (by omega) (by omega) (by omega) (by
      rw [show 1 - 1 = 0 by rfl, List.getElem?_eq_getElem h0, hz]
      simp [zC])
    rw [ht1] at this
    exact this
  · have hl0 : l = [] := List.length_eq_zero_iff.1 (by omega)
    rw [if_neg h0, takeN_end (by simp; omega), hl0]
    rfl



end Go.Proofs.Ytccagiflocnioaa.C31
