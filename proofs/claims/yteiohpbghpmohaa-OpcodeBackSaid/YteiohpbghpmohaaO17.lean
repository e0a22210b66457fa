import Derived.Test.YteiohpbghpmohaaO12
import Derived.Test.YteiohpbghpmohaaLibK
set_option linter.unusedVariables false
set_option linter.unusedSimpArgs false
namespace Go.Proofs.Yteiohpbghpmohaa.O17
open Go.RowKit Go.Proofs.Yteiohpbghpmohaa.LibA Go.Proofs.Yteiohpbghpmohaa.LibC Go.Proofs.Yteiohpbghpmohaa.LibS Go.Proofs.Yteiohpbghpmohaa.LibR Go.Proofs.Yteiohpbghpmohaa.LibT Go.Proofs.Yteiohpbghpmohaa.LibU Go.Proofs.Yteiohpbghpmohaa.LibV Go.Proofs.Yteiohpbghpmohaa.LibW Go.Proofs.Yteiohpbghpmohaa.LibX Go.Proofs.Yteiohpbghpmohaa.LibY Go.Proofs.Yteiohpbghpmohaa.LibZ Go.Proofs.Yteiohpbghpmohaa.LibQ Go.Proofs.Yteiohpbghpmohaa.LibP Go.Proofs.Yteiohpbghpmohaa.LibN Go.Proofs.Yteiohpbghpmohaa.LibH Go.Proofs.Yteiohpbghpmohaa.LibI Go.Proofs.Yteiohpbghpmohaa.LibJ Go.Proofs.Yteiohpbghpmohaa.LibK Go.Proofs.Yteiohpbghpmohaa.O1 Go.Proofs.Yteiohpbghpmohaa.O2 Go.Proofs.Yteiohpbghpmohaa.O3 Go.Proofs.Yteiohpbghpmohaa.O4 Go.Proofs.Yteiohpbghpmohaa.O6 Go.Proofs.Yteiohpbghpmohaa.O7 Go.Proofs.Yteiohpbghpmohaa.O8 Go.Proofs.Yteiohpbghpmohaa.O10 Go.Proofs.Yteiohpbghpmohaa.O11 Go.Proofs.Yteiohpbghpmohaa.O12
theorem b8_eq {a : Int} {u : UInt8} (h : a % 256 = ((u.toNat : Nat) : Int)) : b8 a = u := by
  apply UInt8.toNat_inj.1
  have := b8_nat a
  omega
theorem ub_lt (bs : List UInt8) (i : Nat) : ub bs i < 256 := UInt8.toNat_lt _
theorem take1 {bs : List UInt8} {k : Nat} (h : k < bs.length) : (bs.drop k).take 1 = [bs[k]] := by
  rw [List.drop_eq_getElem_cons h]; rfl
theorem take2 {bs : List UInt8} {k : Nat} (h : k + 1 < bs.length) : (bs.drop k).take 2 = [bs[k], bs[k + 1]] := by
  rw [List.drop_eq_getElem_cons (show k < bs.length by omega), List.drop_eq_getElem_cons h]; rfl
theorem one_parts {bs : List UInt8} {k : Nat} {x : InsD} {nx : Int} (h : oneN bs k = (x, nx, 0)) : ∃ p q f, tblL.find? (fun r : RowD => r.1 == x.2.1) = some (p, q, f) ∧ Rng f ∧ nx = ((k + 1 + behF f : Nat) : Int) ∧ k + 1 + behF f ≤ bs.length ∧ x = ((k : Int), ((ub bs k : Nat) : Int), okA bs k f, okB bs k f) ∧ (f = 8 → ub bs (k + 1) = 10 ∨ ub bs (k + 1) = 11) := by
  unfold oneN at h
  by_cases h1 : bs.length ≤ k
  · rw [if_pos h1] at h; simp at h
  · rw [if_neg h1] at h
    cases hr : tblL.find? (fun r : RowD => r.1 == ((ub bs k : Nat) : Int)) with
    | none => rw [hr] at h; simp at h
    | some r =>
      rw [hr] at h
      obtain ⟨p, q, f⟩ := r
      simp only at h
      by_cases h2 : bs.length < k + 1 + behF f
      · rw [if_pos h2] at h; simp at h
      · rw [if_neg h2] at h
        by_cases h3 : f = 8 ∧ ub bs (k + 1) ≠ 10 ∧ ub bs (k + 1) ≠ 11
        · rw [if_pos h3] at h; simp at h
        · rw [if_neg h3] at h
          simp only [Prod.mk.injEq] at h
          obtain ⟨h4, h5, _⟩ := h
          subst h4
          exact ⟨p, q, f, hr, (row_rng hr).1, h5.symm, by omega, rfl, fun h8 => by omega⟩
theorem fit_dec (bs : List UInt8) (k : Nat) (op : Int) {f : Int} (hf : Rng f) (h8 : f = 8 → ub bs (k + 1) = 10 ∨ ub bs (k + 1) = 11) : fitR ((k : Int), op, okA bs k f, okB bs k f) f := by
  have u1 := ub_lt bs (k + 1)
  have u2 := ub_lt bs (k + 2)
  have s1 := sx8_rng (ub bs (k + 1)) u1
  have s2 := sx8_rng (ub bs (k + 2)) u2
  have s3 := sx16_rng (ub bs (k + 1) * 256 + ub bs (k + 2)) (by omega)
  rcases hf with rfl | rfl | rfl | rfl | rfl | rfl | rfl | rfl | rfl
  all_goals simp [fitR, okA, okB] at h8 ⊢
  all_goals omega
theorem sx8_mod (p : Nat) (h : p < 256) : sx8 p % 256 = (p : Int) := by unfold sx8; split <;> omega
theorem sx16_mod (p q : Nat) (hp : p < 256) (hq : q < 256) : sx16 (p * 256 + q) % 256 = (q : Int) ∧ (sx16 (p * 256 + q) / 256) % 256 = (p : Int) := by unfold sx16; split <;> omega
theorem put_dec {bs : List UInt8} {k : Nat} (op : Int) {f : Int} (hf : Rng f) (hk : k ≤ 4611686018427387904) (h : k + 1 + behF f ≤ bs.length) : putB ((k : Int), op, okA bs k f, okB bs k f) f = (bs.drop (k + 1)).take (behF f) := by
  have u1 := ub_lt bs (k + 1)
  have u2 := ub_lt bs (k + 2)
  have m1 := sx8_mod (ub bs (k + 1)) u1
  have m2 := sx8_mod (ub bs (k + 2)) u2
  have m3 := sx16_mod (ub bs (k + 1)) (ub bs (k + 2)) u1 u2
  have s3 := sx16_rng (ub bs (k + 1) * 256 + ub bs (k + 2)) (by omega)
  have hfar : ∀ B, far ((k : Int), op, (k : Int) + sx16 (ub bs (k + 1) * 256 + ub bs (k + 2)), B) = sx16 (ub bs (k + 1) * 256 + ub bs (k + 2)) := fun B => by
    unfold far; rw [w64_eq]; simp only; omega
  have one : ∀ a : Int, ∀ h : k + 1 < bs.length, a % 256 = ((ub bs (k + 1) : Nat) : Int) → [b8 a] = (bs.drop (k + 1)).take 1 := fun a h e => by
    rw [take1 h, b8_eq (u := bs[k + 1]) (by rw [e, ub_eq h])]
  have two : ∀ a c : Int, ∀ h : k + 2 < bs.length, a % 256 = ((ub bs (k + 1) : Nat) : Int) → c % 256 = ((ub bs (k + 2) : Nat) : Int) → [b8 a, b8 c] = (bs.drop (k + 1)).take 2 := fun a c h e e2 => by
    rw [take2 (k := k + 1) h, b8_eq (u := bs[k + 1]) (by rw [e, ub_eq (by omega)]), b8_eq (u := bs[k + 2]) (by rw [e2, ub_eq h])]
  rcases hf with rfl | rfl | rfl | rfl | rfl | rfl | rfl | rfl | rfl
  · rfl
  · exact one _ h (by show (((ub bs (k + 1) : Nat) : Int)) % 256 = _; omega)
  · exact one _ h (by show (sx8 (ub bs (k + 1))) % 256 = _; omega)
  · exact two _ _ h (by show (sx16 (ub bs (k + 1) * 256 + ub bs (k + 2)) / 256) % 256 = _; omega) (by show (sx16 (ub bs (k + 1) * 256 + ub bs (k + 2))) % 256 = _; omega)
  · exact one _ h (by show (((ub bs (k + 1) : Nat) : Int)) % 256 = _; omega)
  · exact two _ _ h (by show ((((ub bs (k + 1) * 256 + ub bs (k + 2) : Nat) : Int)) / 256) % 256 = _; omega) (by show ((((ub bs (k + 1) * 256 + ub bs (k + 2) : Nat) : Int))) % 256 = _; omega)
  · exact two _ _ h (by show (far ((k : Int), op, (k : Int) + sx16 (ub bs (k + 1) * 256 + ub bs (k + 2)), _) / 256) % 256 = _; rw [hfar]; omega) (by show (far ((k : Int), op, (k : Int) + sx16 (ub bs (k + 1) * 256 + ub bs (k + 2)), _)) % 256 = _; rw [hfar]; omega)
  · exact two _ _ h (by show (((ub bs (k + 1) : Nat) : Int)) % 256 = _; omega) (by show (sx8 (ub bs (k + 2))) % 256 = _; omega)
  · exact one _ h (by show (((ub bs (k + 1) : Nat) : Int)) % 256 = _; omega)
theorem w64_fit {x : InsD} {f : Int} (h : fitR x f) (h0 : 0 ≤ x.1) (h1 : x.1 ≤ 4611686018427387904) : W64 x.2.2.1 := by
  unfold fitR at h
  unfold W64
  omega
/-- what is decoded is encoded to what it was -/
theorem enc_dec (bs : List UInt8) (h4 : bs.length ≤ 4096) : ∀ n k, bs.length ≤ k + n → k ≤ bs.length → (walkN bs n k).2 = 0 → encGo (bs.take k) (walkN bs n k).1 = (bs, 0)
  | 0, k, h1, h2, _ => by
    show encGo (bs.take k) [] = _
    rw [encGo, List.take_of_length_le (by omega), if_neg (by omega)]
  | n + 1, k, h1, h2, h3 => by
    by_cases hk : bs.length ≤ k
    · rw [walk_end hk]
      show encGo (bs.take k) [] = _
      rw [encGo, List.take_of_length_le hk, if_neg (by omega)]
    · obtain ⟨x, nx, er, hr⟩ : ∃ x nx er, oneN bs k = (x, nx, er) := ⟨_, _, _, rfl⟩
      by_cases he : er = 0
      · subst he
        obtain ⟨p, q, f, hfd, hf, rfl, hm, hx, h8⟩ := one_parts hr
        have hfit : fitR x f := hx ▸ fit_dec bs k _ hf h8
        have hx1 : x.1 = (k : Int) := by rw [hx]
        have hok : okP x f = true := by
          obtain ⟨x0, x1, x2, x3⟩ := x
          rw [okP_fit hf (by rw [show x0 = (k : Int) from hx1]; omega) (by rw [show x0 = (k : Int) from hx1]; omega) (w64_fit hfit (by rw [hx1]; omega) (by rw [hx1]; omega))]
          exact decide_eq_true hfit
        rw [walk_some (by omega) hr] at h3 ⊢
        rw [encGo, hfd]
        simp only
        rw [if_pos ⟨hok, by rw [hx1, List.length_take]; omega⟩]
        have ht : bs.take k ++ [b8 x.2.1] ++ putB x f = bs.take (k + 1 + behF f) := by
          rw [hx, put_dec _ hf (by omega) hm]
          have hb : b8 ((ub bs k : Nat) : Int) = bs[k]'(by omega) := b8_eq (by rw [ub_eq (by omega)]; have := UInt8.toNat_lt (bs[k]'(by omega)); omega)
          show bs.take k ++ [b8 ((ub bs k : Nat) : Int)] ++ _ = _
          rw [hb, ← List.take_succ_eq_append_getElem (by omega), ← List.take_add]
        rw [ht]
        exact enc_dec bs h4 n _ (by omega) hm h3
      · rw [walk_err (by omega) hr he] at h3
        exact absurd h3 he
theorem back_a {bs : List UInt8} {l : List InsD} (h : decF bs = (l, 0)) : encF l = (bs, 0) := by
  unfold decF at h
  split at h
  · simp at h
  · split at h
    · simp at h
    · split at h
      · rename_i h3
        split at h
        · simp at h
        · simp only [Prod.mk.injEq, and_true] at h
          subst h
          exact enc_dec bs (by omega) bs.length 0 (by omega) (Nat.zero_le _) h3
      · rename_i h3; simp only [Prod.mk.injEq] at h; exact absurd h.2 h3
theorem enc_pre : ∀ (l : List InsD) (acc es : List UInt8), encGo acc l = (es, 0) → acc <+: es ∧ es.length ≤ 4096
  | [], acc, es, h => by
    rw [encGo] at h
    split at h
    · simp at h
    · simp only [Prod.mk.injEq, and_true] at h
      subst h
      exact ⟨List.prefix_refl _, by omega⟩
  | x :: r, acc, es, h => by
    rw [encGo] at h
    split at h
    · simp at h
    · rename_i row hrow
      split at h
      · obtain ⟨h1, h2⟩ := enc_pre r _ es h
        rw [List.append_assoc] at h1
        exact ⟨(List.prefix_append _ _).trans h1, h2⟩
      · simp at h
theorem ub_at (acc l : List UInt8) (j : Nat) (h : j < l.length) : ub (acc ++ l) (acc.length + j) = (l[j]).toNat := by
  unfold ub
  simp [h]
theorem one_forth (acc t : List UInt8) {x0 x1 x2 x3 p f : Int} {q : ByteArray} (hfd : tblL.find? (fun r : RowD => r.1 == x1) = some (p, q, f)) (h0 : x0 = (acc.length : Int)) (hacc : acc.length ≤ 4096) (hfit : fitR (x0, x1, x2, x3) f) : oneN (acc ++ (b8 x1 :: (putB (x0, x1, x2, x3) f ++ t))) acc.length = ((x0, x1, x2, x3), ((acc.length + 1 + behF f : Nat) : Int), 0) := by
  obtain ⟨hf, rfl, hp0, hp1⟩ := row_rng hfd
  obtain ⟨es, hes⟩ : ∃ es, es = acc ++ (b8 p :: (putB (x0, p, x2, x3) f ++ t)) := ⟨_, rfl⟩
  have h1 : ub es acc.length = (b8 p).toNat := by rw [hes]; exact ub_at acc _ 0 (by simp)
  have h1' : ((ub es acc.length : Nat) : Int) = p := by rw [h1, b8_nat]; omega
  have hlen : es.length = acc.length + 1 + (putB (x0, p, x2, x3) f).length + t.length := by rw [hes]; simp; omega
  have hu1 : ∀ a ds, putB (x0, p, x2, x3) f = b8 a :: ds → ((ub es (acc.length + 1) : Nat) : Int) = a % 256 := fun a ds e => by
    rw [hes, ub_at acc _ 1 (by simp [e]), ← b8_nat]
    simp [e]
  have hu2 : ∀ a c, putB (x0, p, x2, x3) f = [b8 a, b8 c] → ((ub es (acc.length + 2) : Nat) : Int) = c % 256 := fun a c e => by
    rw [hes, ub_at acc _ 2 (by simp [e]), ← b8_nat]
    simp [e]
  have e6 := w64_eq (x2 - x0)
  rw [← hes]
  unfold oneN
  have s8 : ∀ (u : Nat) (v : Int), (u : Int) = v % 256 → -128 ≤ v → v ≤ 127 → sx8 u = v := fun u v h1 h2 h3 => by unfold sx8; split <;> omega
  have s16 : ∀ (u u2 : Nat) (v : Int), (u : Int) = (v / 256) % 256 → (u2 : Int) = v % 256 → -32768 ≤ v → v ≤ 32767 → sx16 (u * 256 + u2) = v := fun u u2 v h1 h2 h3 h4 => by unfold sx16; split <;> omega
  have key : putB (x0, p, x2, x3) f = putB (x0, p, x2, x3) f → (putB (x0, p, x2, x3) f).length = behF f ∧ (f = 8 → ub es (acc.length + 1) = 10 ∨ ub es (acc.length + 1) = 11) ∧ okA es acc.length f = x2 ∧ okB es acc.length f = x3 := fun _ => by
    rcases hf with rfl | rfl | rfl | rfl | rfl | rfl | rfl | rfl | rfl
    · simp [fitR] at hfit; exact ⟨rfl, by simp, by show (0 : Int) = x2; omega, by show (0 : Int) = x3; omega⟩
    · simp [fitR] at hfit; have a1 := hu1 x2 [] rfl; exact ⟨rfl, by simp, by show ((ub es (acc.length + 1) : Nat) : Int) = x2; omega, by show (0 : Int) = x3; omega⟩
    · simp [fitR] at hfit; have a1 := hu1 x2 [] rfl; exact ⟨rfl, by simp, by show sx8 (ub es (acc.length + 1)) = x2; exact s8 _ _ a1 (by omega) (by omega), by show (0 : Int) = x3; omega⟩
    · simp [fitR] at hfit; have a1 := hu1 (x2 / 256) [b8 x2] rfl; have a2 := hu2 (x2 / 256) x2 rfl; exact ⟨rfl, by simp, by show sx16 (ub es (acc.length + 1) * 256 + ub es (acc.length + 2)) = x2; exact s16 _ _ _ a1 a2 (by omega) (by omega), by show (0 : Int) = x3; omega⟩
    · simp [fitR] at hfit; have a1 := hu1 x2 [] rfl; exact ⟨rfl, by simp, by show ((ub es (acc.length + 1) : Nat) : Int) = x2; omega, by show (0 : Int) = x3; omega⟩
    · simp [fitR] at hfit; have a1 := hu1 (x2 / 256) [b8 x2] rfl; have a2 := hu2 (x2 / 256) x2 rfl; exact ⟨rfl, by simp, by show ((ub es (acc.length + 1) * 256 + ub es (acc.length + 2) : Nat) : Int) = x2; omega, by show (0 : Int) = x3; omega⟩
    · simp [fitR] at hfit
      have hfar : far (x0, p, x2, x3) = x2 - x0 := by unfold far; simp only; rw [e6]; omega
      have a1 := hu1 (far (x0, p, x2, x3) / 256) [b8 (far (x0, p, x2, x3))] rfl; have a2 := hu2 (far (x0, p, x2, x3) / 256) (far (x0, p, x2, x3)) rfl
      rw [hfar] at a1 a2
      exact ⟨rfl, by simp, by show (acc.length : Int) + sx16 (ub es (acc.length + 1) * 256 + ub es (acc.length + 2)) = x2; rw [s16 _ _ _ a1 a2 (by omega) (by omega)]; omega, by show (0 : Int) = x3; omega⟩
    · simp [fitR] at hfit; have a1 := hu1 x2 [b8 x3] rfl; have a2 := hu2 x2 x3 rfl; exact ⟨rfl, by simp, by show ((ub es (acc.length + 1) : Nat) : Int) = x2; omega, by show sx8 (ub es (acc.length + 2)) = x3; exact s8 _ _ a2 (by omega) (by omega)⟩
    · simp [fitR] at hfit; have a1 := hu1 x2 [] rfl; exact ⟨rfl, by intro _; omega, by show ((ub es (acc.length + 1) : Nat) : Int) = x2; omega, by show (0 : Int) = x3; omega⟩
  obtain ⟨k1, k2, k3, k4⟩ := key rfl
  rw [if_neg (by omega), h1', hfd]
  simp only
  rw [if_neg (by omega), if_neg (by rintro ⟨a, b, c⟩; rcases k2 a with h | h; exact b h; exact c h), k3, k4, h0]
/-- what was encoded is walked as it was -/
theorem dec_enc : ∀ (l : List InsD) (acc es : List UInt8) (n : Nat), encGo acc l = (es, 0) → es.length ≤ acc.length + n → (∀ x ∈ l, W64 x.2.2.1) → walkN es n acc.length = (l, 0)
  | [], acc, es, n, h, hn, hw => by
    have h1 := enc_pre [] acc es h
    rw [encGo] at h
    split at h
    · simp at h
    · simp only [Prod.mk.injEq, and_true] at h
      subst h
      exact walk_end (Nat.le_refl _)
  | x :: r, acc, es, n, h, hn, hw => by
    rw [encGo] at h
    split at h
    · simp at h
    · rename_i row hrow
      obtain ⟨p, q, f⟩ := row
      split at h
      · rename_i hc
        obtain ⟨x0, x1, x2, x3⟩ := x
        obtain ⟨hok, hat⟩ := hc
        obtain ⟨hpre, h4⟩ := enc_pre r _ es h
        obtain ⟨t, ht⟩ := hpre
        have ht2 : es = acc ++ (b8 x1 :: (putB (x0, x1, x2, x3) f ++ t)) := by rw [← ht]; simp
        have hlen : acc.length < es.length := by rw [ht2]; simp
        have hx0 : x0 = (acc.length : Int) := hat
        have hfit : fitR (x0, x1, x2, x3) f := by
          have h5 := okP_fit (x0 := x0) (x1 := x1) (x2 := x2) (x3 := x3) (row_rng hrow).1 (by omega) (by omega) (hw _ (List.mem_cons_self))
          rw [h5] at hok
          exact of_decide_eq_true hok
        have ho := one_forth acc t hrow hx0 (by omega) hfit
        rw [← ht2] at ho
        obtain ⟨n1, rfl⟩ : ∃ n1, n = n1 + 1 := ⟨n - 1, by omega⟩
        obtain ⟨m, hm, hm1, hm2, hm3⟩ := oneN_ok ho
        have hm' : m = acc.length + 1 + behF f := by omega
        subst hm'
        have hl2 : (acc ++ [b8 x1] ++ putB (x0, x1, x2, x3) f).length = acc.length + 1 + behF f := by
          have h6 : (putB (x0, x1, x2, x3) f).length = behF f := by
            rcases (row_rng hrow).1 with rfl | rfl | rfl | rfl | rfl | rfl | rfl | rfl | rfl <;> rfl
          simp only [List.length_append, List.length_cons, List.length_nil, h6]
        rw [walk_some hlen ho]
        have ih := dec_enc r _ es n1 h (by rw [hl2]; omega) (fun y hy => hw y (List.mem_cons_of_mem _ hy))
        rw [hl2] at ih
        rw [ih]
      · simp at h
theorem back_b {l : List InsD} {es : List UInt8} (h : encF l = (es, 0)) (hw : ∀ x ∈ l, W64 x.2.2.1) : (walkF es).1 = l := by
  have := dec_enc l [] es es.length h (by simp) hw
  unfold walkF
  rw [show (0 : Nat) = ([] : List UInt8).length from rfl, this]



end Go.Proofs.Yteiohpbghpmohaa.O17
