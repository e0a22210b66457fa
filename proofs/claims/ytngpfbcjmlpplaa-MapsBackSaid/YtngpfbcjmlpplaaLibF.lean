/- Loads and stores of whole rows as rules of the walk's simp, in regions that draw too: what lies in a block is told by 'rwAt'. No program here. -/
import Derived.Test.YtngpfbcjmlpplaaLibE
set_option linter.unusedVariables false
set_option linter.unusedSimpArgs false
namespace Go.Proofs.Ytngpfbcjmlpplaa.LibF
open Go.RowKit Go.Proofs.Ytngpfbcjmlpplaa.LibA Go.Proofs.Ytngpfbcjmlpplaa.LibB Go.Proofs.Ytngpfbcjmlpplaa.LibC Go.Proofs.Ytngpfbcjmlpplaa.LibD

def blkOf : Value → Nat
  | .pointer (some ⟨b, 0, none⟩) => b
  | _ => 0
def isPtr0 : Value → Bool
  | .pointer (some ⟨_, 0, none⟩) => true
  | _ => false
def rwAt (w : World) (n : Nat) : Array Value := match w.heap[n]? with
  | some (.cells c _ _) => c
  | _ => #[]
def isRw (w : World) (n k : Nat) : Bool := match w.heap[n]? with
  | some (.cells c _ (0, 0)) => c.size == k
  | _ => false
def aggO : Value → Array Value
  | .agg c => c
  | _ => #[]
def isAggN : Value → Nat → Bool
  | .agg c, k => c.size == k && c.toList.all (·.oneCell')
  | _, _ => false
@[go_sem] theorem blkOf_mk (b : Nat) : blkOf (.pointer (some ⟨b, 0, none⟩)) = b := rfl
@[go_sem] theorem isPtr0_mk (b : Nat) : isPtr0 (.pointer (some ⟨b, 0, none⟩)) = true := rfl
@[go_sem] theorem aggO_mk (c : Array Value) : aggO (.agg c) = c := rfl
theorem isPtr0_eq {v : Value} (h : isPtr0 v = true) : v = .pointer (some ⟨blkOf v, 0, none⟩) := by
  unfold isPtr0 at h
  split at h
  · rfl
  · cases h
theorem isRw_eq {w : World} {n k : Nat} (h : isRw w n k = true) : ∃ t, w.heap[n]? = some (.cells (rwAt w n) t (0, 0)) ∧ (rwAt w n).size = k := by
  unfold isRw at h
  split at h
  · rename_i c t he
    refine ⟨t, ?_, ?_⟩
    · rw [he]; simp [rwAt, he]
    · simp only [rwAt, he]; simpa using h
  · cases h
theorem isRw_of {w : World} {n k : Nat} {c : Array Value} {t : TypeId} (h : w.heap[n]? = some (.cells c t (0, 0))) (hk : c.size = k) : isRw w n k = true ∧ rwAt w n = c := by
  simp [isRw, rwAt, h, hk]
theorem isAggN_eq {v : Value} {k : Nat} (h : isAggN v k = true) : v = .agg (aggO v) ∧ (aggO v).size = k ∧ ∀ u ∈ (aggO v).toList, u.oneCell' = true := by
  unfold isAggN at h
  split at h
  · simp only [Bool.and_eq_true, beq_iff_eq, List.all_eq_true] at h
    exact ⟨rfl, h.1, h.2⟩
  · cases h
/-! worlds -/
@[go_sem] theorem rwAt_drew (w : World) (n : Nat) : rwAt w.drew n = rwAt w n := rfl
@[go_sem] theorem isRw_drew (w : World) (n k : Nat) : isRw w.drew n k = isRw w n k := rfl
@[go_sem] theorem rwAt_drewN (w : World) (m n : Nat) : rwAt (w.drewN m) n = rwAt w n := rfl
@[go_sem] theorem isRw_drewN (w : World) (m n k : Nat) : isRw (w.drewN m) n k = isRw w n k := rfl
@[go_sem] theorem rwAt_alloc_past {w : World} {o : Obj} {n : Nat} (hn : n < w.heap.size) : rwAt (w.alloc o) n = rwAt w n := by simp only [rwAt, heap_past o n hn]
@[go_sem] theorem isRw_alloc_past {w : World} {o : Obj} {n k : Nat} (hn : n < w.heap.size) : isRw (w.alloc o) n k = isRw w n k := by simp only [isRw, heap_past o n hn]
@[go_sem] theorem rwAt_alloc_at {w : World} {c : Array Value} {t : TypeId} {n : Nat} (hn : n = w.heap.size) : rwAt (w.alloc (.cells c t)) n = c := by simp only [rwAt, heap_at c t n hn]
@[go_sem] theorem isRw_alloc_at {w : World} {c : Array Value} {t : TypeId} {n k : Nat} (hn : n = w.heap.size) : isRw (w.alloc (.cells c t)) n k = (c.size == k) := by simp only [isRw, heap_at c t n hn]
@[go_sem] theorem rwAt_ext {w : World} {l : List Obj} {d n : Nat} (hn : n < w.heap.size) : rwAt (ext w l d) n = rwAt w n := by simp only [rwAt, ext_heap hn]
@[go_sem] theorem isRw_ext {w : World} {l : List Obj} {d n k : Nat} (hn : n < w.heap.size) : isRw (ext w l d) n k = isRw w n k := by simp only [isRw, ext_heap hn]
section
variable {P : Program}
theorem run_load_row (T k : Nat) (d : TypeDesc) (hu : P.underlying T = some d) (hd : (match d with | .struct _ | .array _ _ => true | _ => false) = true) (hi : (P.info? T).map (·.size) = some k)
    {ρ : Operand → Value} {x : Operand} {w : World} {dst : Option Tmp} {ty : TypeId} {pos : String} {aft : Array Edge} {gd : Option (Nat × Bool)}
    (hx : isPtr0 (ρ x) = true) (hs : isRw w (blkOf (ρ x)) k = true) :
    (execOp ρ ⟨dst, .load T x, ty, pos, aft, gd⟩).run P w = .ok (.value (.agg (rwAt w (blkOf (ρ x))))) w := by
  obtain ⟨t, hg, hk⟩ := isRw_eq hs
  have hr := run_loadVar_row (P := P) w (blkOf (ρ x)) t T _ (0, 0) d hg hu hd (by rw [hk]; exact hi)
  unfold execOp
  have e := isPtr0_eq hx
  simp only [Instr.loadAt]
  rw [e]
  simp only [Instr.sureAddr, Sem.run_bind, Sem.run_pure, Result.andThen_ok, blkOf_mk, hr]
theorem run_store_row (T k : Nat) (hi : (P.info? T).map (·.size) = some k)
    {ρ : Operand → Value} {x y : Operand} {w : World} {dst : Option Tmp} {ty : TypeId} {pos : String} {aft : Array Edge} {gd : Option (Nat × Bool)}
    (hx : isPtr0 (ρ x) = true) (hs : isRw w (blkOf (ρ x)) k = true) (hy : isAggN (ρ y) k = true) :
    (execOp ρ ⟨dst, .store T x y, ty, pos, aft, gd⟩).run P w = .ok .skip (w.setRow (blkOf (ρ x)) (aggO (ρ y))) := by
  obtain ⟨t, hg, hk⟩ := isRw_eq hs
  obtain ⟨e2, hk2, h1⟩ := isAggN_eq hy
  have hr := Go.Proofs.Ytngpfbcjmlpplaa.LibB.run_storeVar_row (P := P) (blkOf (ρ x)) t T _ (aggO (ρ y)) hg (by rw [hk, hk2]) (by rw [hk2]; exact hi) h1
  unfold execOp
  have e := isPtr0_eq hx
  simp only [Instr.storeAt]
  rw [e, e2]
  simp only [Instr.sureAddr, Sem.run_bind, Sem.run_pure, Result.andThen_ok, blkOf_mk, aggO_mk, hr]
end
end Go.Proofs.Ytngpfbcjmlpplaa.LibF
