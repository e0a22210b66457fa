/- Shifts, or, narrow whole numbers; parts of slices. No program here. -/
import Derived.Test.YtjhbpcdaojajdaaDoorLibH
import Derived.Laws.BitsLemmas
set_option linter.unusedVariables false
set_option linter.unusedSimpArgs false
namespace Go.Proofs.YtjhbpcdaojajdaaDoor.LibI
open Go.RowKit Go.Proofs.YtjhbpcdaojajdaaDoor.LibS Go.Proofs.YtjhbpcdaojajdaaDoor.LibR Go.Proofs.YtjhbpcdaojajdaaDoor.LibT Go.Proofs.YtjhbpcdaojajdaaDoor.LibU Go.Proofs.YtjhbpcdaojajdaaDoor.LibV Go.Proofs.YtjhbpcdaojajdaaDoor.LibW Go.Proofs.YtjhbpcdaojajdaaDoor.LibX Go.Proofs.YtjhbpcdaojajdaaDoor.LibY Go.Proofs.YtjhbpcdaojajdaaDoor.LibQ Go.Proofs.YtjhbpcdaojajdaaDoor.LibP Go.Proofs.YtjhbpcdaojajdaaDoor.LibN Go.Proofs.YtjhbpcdaojajdaaDoor.LibH Go.Proofs.YtjhbpcdaojajdaaDoor.LibC
section
variable {P : Program} {ρ : Operand → Value} {w : World} {dst : Option Tmp} {ty : TypeId} {pos : String} {aft : Array Edge} {gd : Option (Nat × Bool)} {x y z : Operand} {t u T e : TypeId} {k yk : IntKind} {a b c : Int}
theorem rn_shl (hx : ρ x = .int k a) (hy : ρ y = .int yk b) (h0 : 0 ≤ b) (h1 : b ≤ k.bits) (h : k.wrap (a * 2 ^ b.toNat) = c) : (execOp ρ ⟨dst, .binOp .shl t x y u, ty, pos, aft, gd⟩).run P w = .ok (.value (.int k c)) w := by
  subst h; simp [execOp, hx, hy, binOp_shl, eqGuard_at_int, shift_shl k yk a b h0 h1]
theorem rn_shr (hx : ρ x = .int k a) (hy : ρ y = .int yk b) (h0 : 0 ≤ b) (h1 : b ≤ k.bits) (h : a / 2 ^ b.toNat = c) : (execOp ρ ⟨dst, .binOp .shr t x y u, ty, pos, aft, gd⟩).run P w = .ok (.value (.int k c)) w := by
  subst h; simp [execOp, hx, hy, binOp, eqGuard_at_int, shift_shr k yk a b h0 h1]
theorem rn_or (hx : ρ x = .int k a) (hy : ρ y = .int k b) (h : bits .or k a b = c) : (execOp ρ ⟨dst, .binOp .or t x y u, ty, pos, aft, gd⟩).run P w = .ok (.value (.int k c)) w := by
  subst h; simp [execOp, hx, hy, binOp_or, eqGuard_at_int, intBits_or]
theorem rn_and (hx : ρ x = .int k a) (hy : ρ y = .int k b) (h : bits .and k a b = c) : (execOp ρ ⟨dst, .binOp .and t x y u, ty, pos, aft, gd⟩).run P w = .ok (.value (.int k c)) w := by
  subst h; simp [execOp, hx, hy, binOp_and, eqGuard_at_int, intBits_and]
theorem wr_u8 (x : Int) (h1 : 0 ≤ x) (h2 : x ≤ 255) : IntKind.u8.wrap x = x := by rw [IntKind.wrap_u8]; omega
theorem wr_u16 (x : Int) (h1 : 0 ≤ x) (h2 : x ≤ 65535) : IntKind.u16.wrap x = x := by simp [IntKind.wrap, IntKind.bits, IntKind.signed]; omega
theorem wr_u8e {x c : Int} (h1 : 0 ≤ x) (h2 : x ≤ 255) (e : x = c) : IntKind.u8.wrap x = c := e ▸ wr_u8 x h1 h2
theorem wr_u16e {x c : Int} (h1 : 0 ≤ x) (h2 : x ≤ 65535) (e : x = c) : IntKind.u16.wrap x = c := e ▸ wr_u16 x h1 h2
theorem wrap_small (k : IntKind) (n : Nat) (h : n < 2 ^ (k.bits - 1)) : k.wrap (n : Int) = n := by
  have h2 : (n : Int) < 2 ^ (k.bits - 1) := by exact_mod_cast h
  have h3 : (2 : Int) ^ (k.bits - 1) ≤ 2 ^ k.bits := by exact_mod_cast Nat.pow_le_pow_right (by decide) (Nat.sub_le _ _)
  have e : (n : Int) % 2 ^ k.bits = n := Int.emod_eq_of_lt (Int.natCast_nonneg n) (Int.lt_of_lt_of_le h2 h3)
  simp only [IntKind.wrap, e]
  rw [if_neg]
  simp only [Bool.and_eq_true, decide_eq_true_eq, not_and, ge_iff_le]
  exact fun _ => Int.not_le.2 h2
theorem bits_or_nat (k : IntKind) (a b : Nat) (ha : a < 2 ^ (k.bits - 1)) (hb : b < 2 ^ (k.bits - 1)) : bits .or k (a : Int) (b : Int) = ((a ||| b : Nat) : Int) := by
  have hlt : 2 ^ (k.bits - 1) ≤ 2 ^ k.bits := Nat.pow_le_pow_right (by decide) (by omega)
  have hor : a ||| b < 2 ^ (k.bits - 1) := Nat.or_lt_two_pow ha hb
  have e : (BitVec.ofInt k.bits (a : Int) ||| BitVec.ofInt k.bits (b : Int)).toNat = a ||| b := by
    rw [BitVec.ofInt_natCast, BitVec.ofInt_natCast, BitVec.toNat_or, BitVec.toNat_ofNat, BitVec.toNat_ofNat, Nat.mod_eq_of_lt (by omega), Nat.mod_eq_of_lt (by omega)]
  show k.wrap (((BitVec.ofInt k.bits (a : Int) ||| BitVec.ofInt k.bits (b : Int)).toNat : Nat) : Int) = _
  rw [e]
  exact wrap_small k (a ||| b) hor
theorem or8_nat (p q : Nat) (hq : q < 256) : (p * 256 ||| q) = p * 256 + q := by
  have := Nat.shiftLeft_add_eq_or_of_lt (b := q) (i := 8) (by omega) p
  rw [Nat.shiftLeft_eq] at this
  exact this.symm
theorem or8 (k : IntKind) (p q : Nat) (hp : p * 256 + q < 2 ^ (k.bits - 1)) (hq : q < 256) (hk : 256 ≤ 2 ^ (k.bits - 1)) : bits .or k (p * 256 : Nat) (q : Nat) = ((p * 256 + q : Nat) : Int) := by
  rw [bits_or_nat k _ _ (Nat.lt_of_le_of_lt (Nat.le_add_right _ _) hp) (Nat.lt_of_lt_of_le hq hk), or8_nat p q hq]
theorem or8u (p q : Nat) (hp : p < 256) (hq : q < 256) : bits .or .u16 (p * 256 : Nat) (q : Nat) = ((p * 256 + q : Nat) : Int) := by
  have e : (BitVec.ofInt 16 ((p * 256 : Nat) : Int) ||| BitVec.ofInt 16 (q : Int)).toNat = p * 256 ||| q := by
    rw [BitVec.ofInt_natCast, BitVec.ofInt_natCast, BitVec.toNat_or, BitVec.toNat_ofNat, BitVec.toNat_ofNat, Nat.mod_eq_of_lt (by omega), Nat.mod_eq_of_lt (by omega)]
  show IntKind.u16.wrap (((BitVec.ofInt 16 ((p * 256 : Nat) : Int) ||| BitVec.ofInt 16 (q : Int)).toNat : Nat) : Int) = _
  rw [e, or8_nat p q hq]
  exact wr_u16 _ (by omega) (by omega)
def sx8 (p : Nat) : Int := if p < 128 then p else (p : Int) - 256
def sx16 (p : Nat) : Int := if p < 32768 then p else (p : Int) - 65536
theorem wr_i8 (p : Nat) (h : p < 256) : IntKind.i8.wrap (p : Int) = sx8 p := by
  have e : (p : Int) % 256 = p := by omega
  by_cases h1 : p < 128
  · have h2 : ¬ ((p : Int) ≥ 128) := by omega
    simp [IntKind.wrap, IntKind.bits, IntKind.signed, sx8, e, h1]
    omega
  · have h2 : (p : Int) ≥ 128 := by omega
    have h3 : 128 ≤ p := by omega
    simp [IntKind.wrap, IntKind.bits, IntKind.signed, sx8, e, h1, h3]
    omega
theorem wr_i16 (p : Nat) (h : p < 65536) : IntKind.i16.wrap (p : Int) = sx16 p := by
  have e : (p : Int) % 65536 = p := by omega
  by_cases h1 : p < 32768
  · have h2 : ¬ ((p : Int) ≥ 32768) := by omega
    simp [IntKind.wrap, IntKind.bits, IntKind.signed, sx16, e, h1]
    omega
  · have h2 : (p : Int) ≥ 32768 := by omega
    have h3 : 32768 ≤ p := by omega
    simp [IntKind.wrap, IntKind.bits, IntKind.signed, sx16, e, h1, h3]
    omega
theorem sx8_rng (p : Nat) (h : p < 256) : -128 ≤ sx8 p ∧ sx8 p ≤ 127 := by unfold sx8; split <;> omega
theorem sx16_rng (p : Nat) (h : p < 65536) : -32768 ≤ sx16 p ∧ sx16 p ≤ 32767 := by unfold sx16; split <;> omega
/-! parts of slices -/
def cutA (A : Option Addr) (c lo sz : Nat) : Option Addr := if c = lo then A else A.map (·.add (lo * sz))
variable {A : Option Addr} {n m lo hi sz : Nat}
theorem rn_from (hx : ρ x = .slice A n m) (hy : ρ y = .int yk (lo : Nat)) (hT : P.underlying T = some (.slice e)) (hs : (P.info? e).map (·.size) = some sz) (h1 : lo ≤ n) :
    (execOp ρ ⟨dst, .slice T x (some y) none none, ty, pos, aft, gd⟩).run P w = .ok (.value (.slice (cutA A m lo sz) (n - lo) (m - lo))) w := by
  cases hj : P.info? e with
  | none => rw [hj] at hs; cases hs
  | some j =>
    rw [hj] at hs
    have hs' : j.size = sz := by simpa using hs
    have h0 : ¬ ((lo : Int) > (n : Int)) := by omega
    simp [execOp, hx, hy, Instr.sliceAt, Instr.slice, Instr.sliceBounds, Instr.sliceBound, asIntOf, Sem.run_bind, run_underlying hT, sizeOf, typeInfo, hj, h0, h1, hs', cutA]
theorem rn_upto (hx : ρ x = .slice A n m) (hy : ρ y = .int yk (hi : Nat)) (hT : P.underlying T = some (.slice e)) (hs : (P.info? e).map (·.size) = some sz) (h1 : hi ≤ m) :
    (execOp ρ ⟨dst, .slice T x none (some y) none, ty, pos, aft, gd⟩).run P w = .ok (.value (.slice (cutA A m 0 sz) hi m)) w := by
  cases hj : P.info? e with
  | none => rw [hj] at hs; cases hs
  | some j =>
    rw [hj] at hs
    have hs' : j.size = sz := by simpa using hs
    have h0 : ¬ ((hi : Int) > (m : Int)) := by omega
    simp [execOp, hx, hy, Instr.sliceAt, Instr.slice, Instr.sliceBounds, Instr.sliceBound, asIntOf, Sem.run_bind, run_underlying hT, sizeOf, typeInfo, hj, h0, h1, hs', cutA]
theorem rn_part (hx : ρ x = .slice A n m) (hy : ρ y = .int yk (lo : Nat)) (hz : ρ z = .int k (hi : Nat)) (hT : P.underlying T = some (.slice e)) (hs : (P.info? e).map (·.size) = some sz) (h1 : lo ≤ hi) (h2 : hi ≤ m) :
    (execOp ρ ⟨dst, .slice T x (some y) (some z) none, ty, pos, aft, gd⟩).run P w = .ok (.value (.slice (cutA A m lo sz) (hi - lo) (m - lo))) w := by
  cases hj : P.info? e with
  | none => rw [hj] at hs; cases hs
  | some j =>
    rw [hj] at hs
    have hs' : j.size = sz := by simpa using hs
    have h0 : ¬ ((hi : Int) > (m : Int)) := by omega
    have h3 : ¬ ((lo : Int) > (hi : Int)) := by omega
    simp [execOp, hx, hy, hz, Instr.sliceAt, Instr.slice, Instr.sliceBounds, Instr.sliceBound, asIntOf, Sem.run_bind, run_underlying hT, sizeOf, typeInfo, hj, h0, h1, h2, h3, hs', cutA]
theorem els_cut {E : Type} {C : E → List Value} {xs : List E} (h : Els C sz w A xs) (hc : xs.length ≤ m) (hh : hi ≤ xs.length) : Els C sz w (cutA A m lo sz) ((xs.take hi).drop lo) := by
  intro i hi'
  have hl : i < hi - lo := by simp at hi'; omega
  obtain ⟨b, off, rfl, hcell⟩ := h (lo + i) (by omega)
  refine ⟨b, off + lo * sz, ?_, fun j v hv => ?_⟩
  · unfold cutA; rw [if_neg (by omega)]; simp [Addr.add]
  · have e1 : ((xs.take hi).drop lo)[i] = xs[lo + i]'(by omega) := by simp
    rw [e1] at hv
    have := hcell j v hv
    rw [Nat.add_mul] at this
    rw [show off + lo * sz + i * sz + j = off + (lo * sz + i * sz) + j by omega]
    exact this
theorem els_from {E : Type} {C : E → List Value} {xs : List E} (h : Els C sz w A xs) (hc : xs.length ≤ m) : Els C sz w (cutA A m lo sz) (xs.drop lo) := by
  have := els_cut (lo := lo) h hc (Nat.le_refl _)
  rwa [List.take_length] at this
end
section
variable {w0 w : World} {K : List Nat} {M : List It} {E : Type} {C : E → List Value} {sz m lo hi : Nat} {A : Option Addr} {xs : List E}
variable {P : Program} {n : Nat} {ds : List Deferred} {a : Act} {L : List (Nat × Value)} {Q : Exit → Act → World → Prop} {X : Act → World → Prop} {o : Oper}
/-- a call of a closure by its contract -/
theorem ow_callv (fr : FrD ds n a L) {f : FuncId} {caps : Array Value} {x : Operand} {xs : List Operand} {ts : Array TypeId} {vs : List Value} {R : Ending → World → Prop} (ho : o.op = .call { callee := .value x, args := xs.toArray, argTypes := ts }) (hx : evO L x = some (.func (.func f) #[] caps)) (hvs : evs L xs = some vs) (hcf : ∀ args w, (callFunc f args).run P w = .ok (.enter f args) w) (hc : Calls P f (vs.toArray ++ caps) w R) {d : Tmp} (hd : o.dst = some d) (hlt : Nat.blt d n = true)
    (h : ∀ e w', R e w' → ∃ v, e = .returned v ∧ ∀ a', FrD ds n a' ((d, v) :: L) → X a' w') : o.wp P a w X Q := by
  unfold Oper.wp
  have hr : (execOp a.eval o).run P w = .ok (.enter f (vs.toArray ++ caps)) w := by
    have hm := evs_map fr hvs
    subst hm
    have e := fr.ev hx
    simp [execOp, ho, resolve, e, invoke, Deferred.ofValue, hcf]
  rw [hr]
  refine hc.mono fun e w' hR => ?_
  obtain ⟨v, rfl, hX⟩ := h e w' hR
  show X (a.put o.dst v) w'
  rw [hd]
  exact hX _ (fr.put v hlt)
def evsP (L : List (Nat × Value)) : List (Nat × Operand) → Option (List (Nat × Value))
  | [] => some []
  | (i, x) :: r => match evO L x, evsP L r with
    | some v, some vs => some ((i, v) :: vs)
    | _, _ => none
theorem evsP_map (fr : FrD ds n a L) : ∀ {ps : List (Nat × Operand)} {vs : List (Nat × Value)}, evsP L ps = some vs → (ps.map fun (i, x) => (i, a.eval x)) = vs
  | [], vs, h => by simp [evsP] at h; simp [h]
  | (i, x) :: r, vs, h => by
    unfold evsP at h
    split at h
    · rename_i v us h1 h2
      cases h
      simp [fr.ev h1, evsP_map fr h2]
    · cases h
/-- a great slice literal -/
theorem ow_bsliceL (fr : FrD ds n a L) (st : St w0 K w M) {d T E m : Nat} {ps : List (Nat × Operand)} {vs : List (Nat × Value)} (ho : o.op = .buildSlice T m ps.toArray) (hev : evsP L ps = some vs) (cs : List Value)
    (hrun : ∀ w : World, (Instr.buildSlice T m vs.toArray).run P w = .ok (.slice (some ⟨w.heap.size, 0, none⟩) m m) (w.alloc (.cells cs.toArray E))) (hd : o.dst = some d) (hlt : Nat.blt d n = true)
    (h : ∀ a' w' b, FrD ds n a' ((d, .slice (some ⟨b, 0, none⟩) m m) :: L) → St w0 K w' (.blk b cs E :: M) → X a' w') : o.wp P a w X Q := by
  refine ow_bslice (parts := ps.toArray) fr st ho cs (fun w => ?_) hd hlt h
  have e : (ps.toArray.map fun (i, x) => (i, a.eval x)) = vs.toArray := by
    rw [← evsP_map fr hev]; simp
  rw [e]
  exact hrun w
theorem rn_index {ρ : Operand → Value} {dst : Option Tmp} {ty : TypeId} {pos : String} {aft : Array Edge} {gd : Option (Nat × Bool)} {T : TypeId} {x y : Operand} {vx vy v : Value} (hx : ρ x = vx) (hy : ρ y = vy) (h : ∀ w, (Instr.index T vx vy).run P w = .ok v w) : (execOp ρ ⟨dst, .index T x y, ty, pos, aft, gd⟩).run P w = .ok (.value v) w := by
  simp only [execOp, hx, hy, Sem.run_bind, h w, Result.andThen_ok, Sem.run_pure]
theorem cut_fp {ys : List E} (hn : ys.length ≤ xs.length) : ∀ b ∈ elsFp (cutA A m lo sz) ys.length, b ∈ elsFp A xs.length := by
  intro b hb
  unfold elsFp at hb ⊢
  split at hb
  · cases hb
  · rename_i h0
    rw [if_neg (by omega)]
    unfold cutA at hb
    split at hb
    · exact hb
    · cases A with
      | none => exact hb
      | some ad =>
        have e : (ad.add (lo * sz)).block = ad.block := by unfold Addr.add; split <;> rfl
        simp only [Option.map_some, Option.toList_some, List.mem_singleton] at hb ⊢
        rw [hb, e]
/-- a part of a slice that is only read, looked at by itself -/
theorem _root_.Go.Proofs.YtjhbpcdaojajdaaDoor.LibS.St.cut (st : St w0 K w M) (i : Nat) (h : M[i]? = some (els C sz A xs)) (hsz : 0 < sz) (hC : ∀ x, (C x).length = sz) (hc : xs.length ≤ m) (hh : hi ≤ xs.length) : St w0 K w (els C sz (cutA A m lo sz) ((xs.take hi).drop lo) :: M) :=
  st.focus i h rfl rfl (els_ok hsz hC (els_cut (st.get i h).1 hc hh)) (cut_fp (by simp; omega))
theorem _root_.Go.Proofs.YtjhbpcdaojajdaaDoor.LibS.St.cutFrom (st : St w0 K w M) (i : Nat) (h : M[i]? = some (els C sz A xs)) (hsz : 0 < sz) (hC : ∀ x, (C x).length = sz) (hc : xs.length ≤ m) : St w0 K w (els C sz (cutA A m lo sz) (xs.drop lo) :: M) :=
  st.focus i h rfl rfl (els_ok hsz hC (els_from (st.get i h).1 hc)) (cut_fp (by simp))
end
end Go.Proofs.YtjhbpcdaojajdaaDoor.LibI
