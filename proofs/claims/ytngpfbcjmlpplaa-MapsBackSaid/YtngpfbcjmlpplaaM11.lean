import Derived.Test.YtngpfbcjmlpplaaM10
import Derived.Test.YtngpfbcjmlpplaaLibG
set_option linter.unusedVariables false
set_option linter.unusedSimpArgs false
namespace Go.Proofs.Ytngpfbcjmlpplaa.M
open Go.RowKit Go.Proofs.Ytngpfbcjmlpplaa.LibA Go.Proofs.Ytngpfbcjmlpplaa.LibB Go.Proofs.Ytngpfbcjmlpplaa.LibC Go.Proofs.Ytngpfbcjmlpplaa.LibD Go.Proofs.Ytngpfbcjmlpplaa.LibE Go.Proofs.Ytngpfbcjmlpplaa.LibF Go.Proofs.Ytngpfbcjmlpplaa.LibG

/-! Rules for the struct Regs (17 cells) and its array (16 cells). -/
def reg16 (rs : List Int) : Array Value := (rs.map (Value.int .i64)).toArray
theorem regsC_ext (rs : List Int) (s : Value) (h : rs.length = 16) : (regsC rs s).extract 0 16 = reg16 rs := by
  unfold regsC reg16
  simp [h]
def isReg16 (v : Value) : Bool := match v with
  | .agg c => c.size == 16 && c.toList.all (fun u => match u with | .int .i64 _ => true | _ => false)
  | _ => false
def reg16Of (v : Value) : List Int := match v with
  | .agg c => c.toList.map intOf
  | _ => []
theorem isReg16_mk (rs : List Int) (h : rs.length = 16) : isReg16 (.agg (reg16 rs)) = true := by simp [isReg16, reg16, h]
theorem reg16Of_mk (rs : List Int) : reg16Of (.agg (reg16 rs)) = rs := by
  simp [reg16Of, reg16, Function.comp_def, intOf]
theorem isReg16_eq {v : Value} (h : isReg16 v = true) : v = .agg (reg16 (reg16Of v)) ∧ (reg16Of v).length = 16 := by
  unfold isReg16 at h
  split at h
  · rename_i c
    simp only [Bool.and_eq_true, beq_iff_eq, List.all_eq_true] at h
    refine ⟨?_, by simp [reg16Of, h.1]⟩
    simp only [reg16Of, reg16, List.map_map]
    have : c.toList.map (Value.int .i64 ∘ intOf) = c.toList := by
      conv => rhs; rw [← List.map_id c.toList]
      apply List.map_congr_left
      intro u hu
      have := h.2 u hu
      split at this
      · rfl
      · cases this
    rw [this]
  · cases h
def isOne (v : Value) : Bool := v.oneCell'
theorem isOne_slice (A : Option Addr) (m c : Nat) : isOne (.slice A m c) = true := rfl
theorem isAggN_regs (rs : List Int) (A : Option Addr) (m c : Nat) (h : rs.length = 16) : isAggN (.agg (regsC rs (.slice A m c))) 17 = true := by
  simp only [isAggN, regsC_size _ _ h, Bool.and_eq_true, List.all_eq_true]
  exact ⟨rfl, regsC_one rs _ rfl⟩
section
variable {a : Act} {w : World} {K : Act → World → Prop} {Q : Exit → Act → World → Prop} {x y : Operand} {dst : Option Tmp} {ty : TypeId} {pos : String} {aft : Array Edge} {gd : Option (Nat × Bool)}
theorem ld27 (hx : isPtr0 (a.eval x) = true) (hs : isRw w (blkOf (a.eval x)) 17 = true) :
    Oper.wp Try.prog ⟨dst, .load 27 x, ty, pos, aft, gd⟩ a w K Q = K (a.put dst (.agg (rwAt w (blkOf (a.eval x))))) w :=
  wp_ld_row 27 17 _ Try.underlying27 rfl (by kernel_rfl) hx hs
theorem ld24 (hx : isPtr0 (a.eval x) = true) (hs : isRw w (blkOf (a.eval x)) 17 = true) :
    Oper.wp Try.prog ⟨dst, .load 24 x, ty, pos, aft, gd⟩ a w K Q = K (a.put dst (.agg ((rwAt w (blkOf (a.eval x))).extract 0 16))) w :=
  wp_ld_sub 24 16 17 _ Try.underlying24 rfl (by kernel_rfl) (by omega) hx hs
theorem st27 (hx : isPtr0 (a.eval x) = true) (hs : isRw w (blkOf (a.eval x)) 17 = true) (hy : isAggN (a.eval y) 17 = true) :
    Oper.wp Try.prog ⟨dst, .store 27 x y, ty, pos, aft, gd⟩ a w K Q = K (a.put dst undef) (w.setRow (blkOf (a.eval x)) (aggO (a.eval y))) :=
  wp_st_row 27 17 (by kernel_rfl) hx hs hy
theorem built27 (rs : List Int) (s : Value) (h : rs.length = 16) (h1 : ∃ A m c, s = .slice A m c) : Try.prog.built 27 [(0, .agg (reg16 rs)), (1, s)] = some (regsC rs s) := by
  obtain ⟨r0, r1, r2, r3, r4, r5, r6, r7, r8, r9, ra, rb, rc, rd, re, rf, rfl⟩ := list16 rs h
  obtain ⟨A, m, c, rfl⟩ := h1
  kernel_rfl
def isSl (v : Value) : Bool := match v with
  | .slice _ _ _ => true
  | _ => false
theorem isSl_mk (A : Option Addr) (m c : Nat) : isSl (.slice A m c) = true := rfl
theorem bl27 (hx : isReg16 (a.eval x) = true) (hy : isSl (a.eval y) = true) :
    Oper.wp Try.prog ⟨dst, .build 27 #[(0, x), (1, y)], ty, pos, aft, gd⟩ a w K Q = K (a.put dst (.agg (regsC (reg16Of (a.eval x)) (a.eval y)))) w := by
  obtain ⟨e, h⟩ := isReg16_eq hx
  refine wp_bld 27 _ _ ?_
  have hs : ∃ A m c, a.eval y = .slice A m c := by
    unfold isSl at hy
    split at hy
    · rename_i he; exact ⟨_, _, _, he⟩
    · cases hy
  have := built27 (reg16Of (a.eval x)) (a.eval y) h hs
  rw [← e] at this
  simpa using this
theorem xbl27 {ρ : Operand → Value} (hx : isReg16 (ρ x) = true) (hy : isSl (ρ y) = true) :
    (execOp ρ ⟨dst, .build 27 #[(0, x), (1, y)], ty, pos, aft, gd⟩).run Try.prog w = .ok (.value (.agg (regsC (reg16Of (ρ x)) (ρ y)))) w := by
  obtain ⟨e, h⟩ := isReg16_eq hx
  have hs : ∃ A m c, ρ y = .slice A m c := by
    unfold isSl at hy
    split at hy
    · rename_i he; exact ⟨_, _, _, he⟩
    · cases hy
  have := built27 (reg16Of (ρ x)) (ρ y) h hs
  rw [← e] at this
  unfold execOp
  have hb := run_build (P := Try.prog) w 27 #[(0, ρ x), (1, ρ y)] _ (by simpa using this)
  have he : (Array.map (fun (p : Nat × Operand) => (p.1, ρ p.2)) #[(0, x), (1, y)]) = #[(0, ρ x), (1, ρ y)] := by simp
  simp only [Sem.run_bind, he, hb, Result.andThen_ok, Sem.run_pure]
end
theorem isReg16_mk' (rs : List Int) (h : rs.length = 16) : isReg16 (.agg (rs.map (Value.int .i64)).toArray) = true := isReg16_mk rs h
theorem reg16Of_mk' (rs : List Int) : reg16Of (.agg (rs.map (Value.int .i64)).toArray) = rs := reg16Of_mk rs
theorem setRow_dr {w : World} {C : Array Value} {n : Nat} : w.drew.setRow n C = (w.setRow n C).drew := rfl
attribute [go_sem] isReg16_mk' reg16Of_mk' regsC_ext setRow_dr isReg16_mk reg16Of_mk isSl_mk isAggN_regs
end Go.Proofs.Ytngpfbcjmlpplaa.M
