/- Rules of the walk's simp at Oper.wp: whole rows, parts of rows and struct literals, also in regions that draw. No program here. -/
import Derived.Test.YtngpfbcjmlpplaaLibF
import Derived.Deep.MidRow
import Derived.Deep.DrawnRows
set_option linter.unusedVariables false
set_option linter.unusedSimpArgs false
namespace Go.Proofs.Ytngpfbcjmlpplaa.LibG
open Go.RowKit Go.Proofs.Ytngpfbcjmlpplaa.LibA Go.Proofs.Ytngpfbcjmlpplaa.LibB Go.Proofs.Ytngpfbcjmlpplaa.LibC Go.Proofs.Ytngpfbcjmlpplaa.LibD Go.Proofs.Ytngpfbcjmlpplaa.LibF
section
variable {P : Program} {a : Act} {w : World} {K : Act → World → Prop} {Q : Exit → Act → World → Prop} {x y : Operand} {dst : Option Tmp} {ty : TypeId} {pos : String} {aft : Array Edge} {gd : Option (Nat × Bool)}
theorem wp_ld_row (T k : Nat) (d : TypeDesc) (hu : P.underlying T = some d) (hd : d.isRow = true) (hi : (P.info? T).map (·.size) = some k)
    (hx : isPtr0 (a.eval x) = true) (hs : isRw w (blkOf (a.eval x)) k = true) :
    Oper.wp P ⟨dst, .load T x, ty, pos, aft, gd⟩ a w K Q = K (a.put dst (.agg (rwAt w (blkOf (a.eval x))))) w := by
  obtain ⟨t, hg, hk⟩ := isRw_eq hs
  have hr := run_loadAt_mid (P := P) w (blkOf (a.eval x)) 0 T (rwAt w (blkOf (a.eval x))).toList d (by
    have h := World.rangeAt_of_block hg 0 k
    rw [Nat.zero_add, ← hk, Array.extract_size] at h
    exact h) hu hd (by rw [hi]; simp [hk])
  have e := isPtr0_eq hx
  unfold Oper.wp execOp
  rw [← e] at hr
  simp only [Sem.run_bind, hr, Result.andThen_ok, Sem.run_pure]
  rfl
theorem wp_ld_sub (T k m : Nat) (d : TypeDesc) (hu : P.underlying T = some d) (hd : d.isRow = true) (hi : (P.info? T).map (·.size) = some k) (hkm : k ≤ m)
    (hx : isPtr0 (a.eval x) = true) (hs : isRw w (blkOf (a.eval x)) m = true) :
    Oper.wp P ⟨dst, .load T x, ty, pos, aft, gd⟩ a w K Q = K (a.put dst (.agg ((rwAt w (blkOf (a.eval x))).extract 0 k))) w := by
  obtain ⟨t, hg, hk⟩ := isRw_eq hs
  have hr := run_loadAt_mid (P := P) w (blkOf (a.eval x)) 0 T ((rwAt w (blkOf (a.eval x))).extract 0 k).toList d (by
    have h := World.rangeAt_of_block hg 0 k
    rw [Nat.zero_add] at h
    exact h) hu hd (by rw [hi]; simp; omega)
  have e := isPtr0_eq hx
  unfold Oper.wp execOp
  rw [← e] at hr
  simp only [Sem.run_bind, hr, Result.andThen_ok, Sem.run_pure]
  rfl
theorem wp_st_row (T k : Nat) (hi : (P.info? T).map (·.size) = some k)
    (hx : isPtr0 (a.eval x) = true) (hs : isRw w (blkOf (a.eval x)) k = true) (hy : isAggN (a.eval y) k = true) :
    Oper.wp P ⟨dst, .store T x y, ty, pos, aft, gd⟩ a w K Q = K (a.put dst undef) (w.setRow (blkOf (a.eval x)) (aggO (a.eval y))) := by
  have h := run_store_row (P := P) (ρ := a.eval) (x := x) (y := y) (w := w) (dst := dst) (ty := ty) (pos := pos) (aft := aft) (gd := gd) T k hi hx hs hy
  unfold Oper.wp
  rw [h]
  rfl
theorem wp_bld (T : Nat) (parts : Array (Nat × Operand)) (cells : Array Value) (h : P.built T (parts.map fun (i, x) => (i, a.eval x)).toList = some cells) :
    Oper.wp P ⟨dst, .build T parts, ty, pos, aft, gd⟩ a w K Q = K (a.put dst (.agg cells)) w := by
  unfold Oper.wp execOp
  simp only [Sem.run_bind, run_build w T _ cells h, Result.andThen_ok, Sem.run_pure]
  rfl
end
theorem run_append_none {P : Program} (w : World) (t ty e : TypeId) (i : TypeInfo) (ht : P.underlying t = some (.slice e)) (hi : P.info? e = some i) (A : Option Addr) (c : Nat) :
    (Builtin.append_ #[t, t] ty #[.slice none 0 0, .slice A 0 c]).run P w = .ok (.slice none 0 0) w := by
  have hf : (Builtin.firstCells i.size 0 (.slice A 0 c)).run P w = .ok #[] w := by
    cases A with
    | none => rfl
    | some ad => exact run_firstCells_some (P := P) w i.size 0 ad 0 c [] (by simp) (by simp)
  simp [Builtin.append_, run_underlying ht, sizeOf, typeInfo, hi, Builtin.lenOf, hf]
theorem step_append_none {P : Program} {ops : Array Oper} {o : Oper} {a : Act} {w : World} {K : Act → World → Prop} {Q : Exit → Act → World → Prop} {E : Prop}
    (hg : o.guard = none) (s x : Operand) (t : TypeId) (hop : o.op = Op.call { callee := Callee.builtin Builtin.append, args := #[s, x], argTypes := #[t, t] })
    (e : TypeId) (i : TypeInfo) (h1 : P.underlying t = some (.slice e)) (h2 : P.info? e = some i)
    (hs : a.eval s = .slice none 0 0) (A : Option Addr) (c : Nat) (hx : a.eval x = .slice A 0 c)
    (hK : K (a.put o.dst (.slice none 0 0)) w) :
    if Region.wanted o (yielded ops a.tmps) = true then Oper.wp P o a w K Q else E := by
  have hw : Region.wanted o (yielded ops a.tmps) = true := by simp [Region.wanted, hg]
  rw [if_pos hw]
  have hr := run_append_none (P := P) w t o.type e i h1 h2 A c
  unfold Oper.wp
  simp [execOp, hop, resolve, invoke, builtin, hs, hx, hr, Result.andThen]
  exact hK
end Go.Proofs.Ytngpfbcjmlpplaa.LibG
