/- Laws on rows that the walks of this seat share: a whole row stored or loaded; made rows; copy into a row just made; results in cells. No program here. -/
import Derived.Test.YtjhbpcdaojajdaaDoorLibA
import Derived.Laws.Rows
import Derived.Laws.CopyOwn
import Derived.Laws.CopyRow
import Derived.Laws.MakeOwn
import Derived.Deep.OwnRows
set_option linter.unusedVariables false
set_option linter.unusedSimpArgs false
namespace Go.Proofs.YtjhbpcdaojajdaaDoor.LibB
open Go.RowKit Go.Proofs.YtjhbpcdaojajdaaDoor.LibA

section
variable {P : Program} {ops : Array Oper} {rest : List Oper} {o : Oper} {a : Act} {w : World} {Q : Exit → Act → World → Prop}
theorem gate_dst {N : Tmp} (_hN : o.dst = some N) (h : wpList P ops Q (o :: rest) a w) : wpList P ops Q (o :: rest) a w := h
theorem gate_store {t : TypeId} {p : Tmp} {v : Operand} (_ho : o.op = .store t (.tmp p) v) (h : wpList P ops Q (o :: rest) a w) : wpList P ops Q (o :: rest) a w := h

/-! rows over new blocks -/
theorem setRow_alloc_at (c C : Array Value) (t : TypeId) (n : Nat) (hn : n = w.heap.size) : (w.alloc (.cells c t)).setRow n C = w.alloc (.cells C t) := by
  subst hn
  unfold World.setRow World.alloc
  congr 1
  apply Array.ext_getElem?
  intro k
  simp only [Array.getElem?_modify, Array.getElem?_push]
  by_cases hk : k = w.heap.size
  · subst hk; simp
  · simp [hk, Ne.symm hk]
theorem setRow_alloc_past (o : Obj) (C : Array Value) (n : Nat) (hn : n < w.heap.size) : (w.alloc o).setRow n C = (w.setRow n C).alloc o := by
  unfold World.setRow World.alloc
  congr 1
  apply Array.ext_getElem?
  intro k
  simp only [Array.getElem?_modify, Array.getElem?_push, Array.size_modify]
  by_cases hk : k = w.heap.size
  · subst hk; simp [Nat.ne_of_lt hn]
  · simp [hk]
theorem setRow_drewN (C : Array Value) (n k : Nat) : (w.drewN k).setRow n C = (w.setRow n C).drewN k := rfl
theorem setRow_drew (C : Array Value) (n : Nat) : w.drew.setRow n C = (w.setRow n C).drew := rfl
theorem setRow_past' {o : Obj} {C : Array Value} {n : Nat} {w' : World} (hn : n < w.heap.size) (h : w.setRow n C = w') : (w.alloc o).setRow n C = w'.alloc o := by
  rw [setRow_alloc_past o C n hn, h]
theorem setRow_drewN' {C : Array Value} {n k : Nat} {w' : World} (h : w.setRow n C = w') : (w.drewN k).setRow n C = w'.drewN k := by rw [setRow_drewN, h]
theorem heap_at (c : Array Value) (t : TypeId) (n : Nat) (hn : n = w.heap.size) : (w.alloc (.cells c t)).heap[n]? = some (.cells c t (0, 0)) := by
  subst hn; show (w.heap.push _)[w.heap.size]? = _; simp
theorem heap_past (o : Obj) (n : Nat) (hn : n < w.heap.size) : (w.alloc o).heap[n]? = w.heap[n]? := Below.heap_alloc w o n hn

theorem run_storeVar_row (g : Nat) (t ty : TypeId) (cur C : Array Value) (hg : w.heap[g]? = some (.cells cur t (0, 0))) (hs : cur.size = C.size)
    (hi : (P.info? ty).map (·.size) = some C.size) (h1 : ∀ v ∈ C.toList, v.oneCell' = true) :
    (storeVar ty ⟨g, 0, none⟩ (.agg C)).run P w = .ok () (w.setRow g C) := by
  have hst := run_storeCells_from (P := P) g t C.toList 0 cur w hg (by simp [hs]) h1
  cases hq : P.info? ty with
  | none => simp [hq] at hi
  | some i =>
    have hsz : i.size = C.size := by simpa [hq] using hi
    simp [storeVar, Sem.run_bind, sizeOf, typeInfo, hq, hsz, Value.cells]
    simpa using hst
theorem st_row (hgd : o.guard = none) (ty : TypeId) (x y : Operand) (ho : o.op = .store ty x y)
    (g : Nat) (hx : a.eval x = .pointer (some ⟨g, 0, none⟩)) (C : Array Value) (hy : a.eval y = .agg C) (t : TypeId) (cur : Array Value) (hg : w.heap[g]? = some (.cells cur t (0, 0))) (hs : cur.size = C.size)
    (hi : (P.info? ty).map (·.size) = some C.size) (h1 : ∀ v ∈ C.toList, v.oneCell' = true)
    (w1 : World) (hw : w.setRow g C = w1) (h : wpList P ops Q rest (a.put o.dst undef) w1) : wpList P ops Q (o :: rest) a w :=
  wpList_plain hgd fun _ hK => by
    subst hw
    unfold Oper.wp execOp
    simp only [ho, hx, hy, Instr.storeAt, Instr.sureAddr, Sem.run_bind, Sem.run_pure, Result.andThen_ok, run_storeVar_row g t ty cur C hg hs hi h1]
    exact hK _ _ h
/-- copy into the whole of a row just made, from a slice of as many elements (each one cell). -/
theorem run_copy_all (dT sT ty elem : TypeId) (hu : P.underlying dT = some (.slice elem)) (hs : (P.info? elem).map (·.size) = some 1)
    (g n c c' : Nat) (A : Option Addr) (cur : Array Value) (t : TypeId) (cs : List Value) (hg : w.heap[g]? = some (.cells cur t (0, 0))) (hcur : cur.size = n) (hn : cs.length = n)
    (hsrc : ∀ j v, cs[j]? = some v → ∃ ad, A = some ad ∧ w.cell? (ad.add j) = some v) (h1 : ∀ v ∈ cs, v.oneCell' = true) (hA : n = 0 → A = none → c = 0) :
    (Builtin.copy_ #[dT, sT] ty #[.slice (some ⟨g, 0, none⟩) n c', .slice A n c]).run P w = .ok (goInt n) (w.setRow g cs.toArray) := by
  cases A with
  | none =>
    have hn0 : n = 0 := by
      rcases Nat.eq_zero_or_pos n with h | h
      · exact h
      · obtain ⟨ad, e, _⟩ := hsrc 0 (cs[0]'(by omega)) (List.getElem?_eq_getElem (by omega))
        cases e
    subst hn0
    have hc := hA rfl rfl
    subst hc
    have hcs : cs = [] := List.eq_nil_of_length_eq_zero hn
    have hcc : cur = #[] := Array.eq_empty_of_size_eq_zero hcur
    subst hcs; subst hcc
    rw [run_copy_nil (P := P) w dT sT ty elem ⟨g, 0, none⟩ 0 c' hu (by cases hq : P.info? elem <;> simp_all)]
    rw [show ([] : List Value).toArray = #[] from rfl, setRow_self w g #[] t (0, 0) hg]
    rfl
  | some ad =>
    have hr := run_copy_row (P := P) w dT sT ty elem g 0 n c' ad n c cur t cs hu hs hg (by simp [hn]) (fun j v hv => by obtain ⟨a', e, h⟩ := hsrc j v hv; cases e; exact h) (by omega) h1
    rw [hr]
    congr 1
    · rw [hn]
    · congr 1
      have : cur.toList.drop (0 + cs.length) = [] := List.drop_eq_nil_of_le (by simp; omega)
      simp [this]
      omega
theorem cp_all (hgd : o.guard = none) (d s : Operand) (dT sT elem : TypeId) (ho : o.op = .call { callee := .builtin .copy, args := #[d, s], argTypes := #[dT, sT] })
    (hu : P.underlying dT = some (.slice elem)) (hs : (P.info? elem).map (·.size) = some 1)
    (g n c c' : Nat) (A : Option Addr) (cur : Array Value) (t : TypeId) (cs : List Value) (hd : a.eval d = .slice (some ⟨g, 0, none⟩) n c') (hx : a.eval s = .slice A n c)
    (hg : w.heap[g]? = some (.cells cur t (0, 0))) (hcur : cur.size = n) (hn : cs.length = n)
    (hsrc : ∀ j v, cs[j]? = some v → ∃ ad, A = some ad ∧ w.cell? (ad.add j) = some v) (h1 : ∀ v ∈ cs, v.oneCell' = true) (hA : n = 0 → A = none → c = 0)
    (w1 : World) (hw : w.setRow g cs.toArray = w1) (h : wpList P ops Q rest (a.put o.dst (goInt n)) w1) : wpList P ops Q (o :: rest) a w :=
  wpList_plain hgd fun _ hK => by
    subst hw
    have hr := run_copy_all (P := P) (w := w) dT sT o.type elem hu hs g n c c' A cur t cs hg hcur hn hsrc h1 hA
    unfold Oper.wp execOp
    simp only [ho, resolve, invoke, builtin, Sem.run_bind, Sem.run_pure, Result.andThen_ok, List.map_toArray, List.map_cons, List.map_nil, hd, hx, hr]
    exact hK _ _ h
/-- two results, the first in a row's cells -/
theorem results_ct {fn : Func} {p u : Tmp} {ty : TypeId} (h : fn.results = #[.cell p ty, .tmp u]) (tmps : Array Value) (g : Nat) (t : TypeId) (cs : Array Value) (fr : Nat × Nat) (d : TypeDesc)
    (hp : tmps.getD p undef = .pointer (some ⟨g, 0, none⟩)) (hg : w.heap[g]? = some (.cells cs t fr))
    (hu : P.underlying ty = some d) (hd : (match d with | .struct _ | .array _ _ => true | _ => false) = true) (hi : (P.info? ty).map (·.size) = some cs.size) :
    (results fn tmps).run P w = .ok (.tuple #[.agg cs, tmps.getD u undef]) w := by
  have hp' : tmps[p]?.getD undef = .pointer (some ⟨g, 0, none⟩) := by simpa using hp
  simp [results, h, hp', asAddr, run_loadVar_row w g t ty cs fr d hg hu hd hi]
end
end Go.Proofs.YtjhbpcdaojajdaaDoor.LibB
