/- Rows of elements of several cells; append of one element that was just built. No program here. -/
import Derived.Test.YtjhbpcdaojajdaaDoorLibB
import Derived.Laws.AppendOwn
set_option linter.unusedVariables false
set_option linter.unusedSimpArgs false
namespace Go.Proofs.YtjhbpcdaojajdaaDoor.LibC
open Go.RowKit Go.Proofs.YtjhbpcdaojajdaaDoor.LibA Go.Proofs.YtjhbpcdaojajdaaDoor.LibB

/-- The elements of a slice, cell by cell: element i's j-th cell. -/
def Els {E : Type} (enc : E → List Value) (sz : Nat) (w : World) (A : Option Addr) (xs : List E) : Prop :=
  ∀ i (h : i < xs.length), ∃ b off, A = some ⟨b, off, none⟩ ∧ ∀ j u, (enc xs[i])[j]? = some u → w.cell? ⟨b, off + i * sz + j, none⟩ = some u
theorem Els.below {E : Type} {enc : E → List Value} {sz : Nat} {w W : World} {A : Option Addr} {xs : List E} (h : Els enc sz w A xs) (hB : Below w.heap.size w W) : Els enc sz W A xs := by
  intro i hi
  obtain ⟨b, off, e, hc⟩ := h i hi
  exact ⟨b, off, e, fun j u hu => cell_b hB (hc j u hu)⟩
theorem Els.nil {E : Type} (enc : E → List Value) (sz : Nat) (w : World) (A : Option Addr) : Els enc sz w A [] := fun i hi => absurd hi (Nat.not_lt_zero _)
/-- a row of the call's own, as elements -/
def flat {E : Type} (enc : E → List Value) (xs : List E) : List Value := xs.flatMap enc
theorem flat_snoc {E : Type} (enc : E → List Value) (xs : List E) (x : E) : flat enc (xs ++ [x]) = flat enc xs ++ enc x := by simp [flat]
theorem flat_len {E : Type} {enc : E → List Value} {sz : Nat} (he : ∀ x, (enc x).length = sz) (xs : List E) : (flat enc xs).length = xs.length * sz := by
  induction xs with
  | nil => simp [flat]
  | cons x l ih => simp only [flat, List.flatMap_cons, List.length_append, List.length_cons] at ih ⊢; rw [he, Nat.add_mul]; omega
theorem flat_get {E : Type} {enc : E → List Value} {sz : Nat} (he : ∀ x, (enc x).length = sz) (xs : List E) (i j : Nat) (hi : i < xs.length) (hj : j < sz) : (flat enc xs)[i * sz + j]? = (enc xs[i])[j]? := by
  induction xs generalizing i with
  | nil => simp at hi
  | cons x l ih =>
    simp only [flat, List.flatMap_cons]
    cases i with
    | zero =>
      rw [Nat.zero_mul, Nat.zero_add, List.getElem?_append_left (by rw [he]; exact hj)]
      rfl
    | succ i =>
      rw [List.getElem?_append_right (by rw [he, Nat.add_mul]; omega), he]
      have e : (i + 1) * sz + j - sz = i * sz + j := by rw [Nat.add_mul]; omega
      rw [e]
      exact ih i (by simpa using hi)
theorem own_rows {E : Type} {enc : E → List Value} {sz : Nat} {w : World} {base : Nat} {e : TypeId} {v : Value} {xs : List E} (he : ∀ x, (enc x).length = sz)
    (h : w.ownsRow base e sz v xs.length (flat enc xs)) : ∃ A c, v = .slice A xs.length c ∧ xs.length ≤ c ∧ (A = none → c = 0) ∧ Els enc sz w A xs := by
  rcases h.2 with ⟨rfl, h0⟩ | ⟨g, cap, cur, rfl, hb, hg, hle, hm, hs, htake⟩
  · exact ⟨none, 0, by rw [h0], by omega, fun _ => rfl, fun i hi => absurd hi (by omega)⟩
  · refine ⟨_, cap, rfl, hle, fun h => (by cases h), fun i hi => ⟨g, 0, rfl, fun j u hu => ?_⟩⟩
    have hj : j < sz := by have := (List.getElem?_eq_some_iff.1 hu).1; rwa [he] at this
    have hf := flat_get he xs i j hi hj
    rw [hu] at hf
    rw [Nat.zero_add, cell_of_row w g _ _ _ _ hg]
    rw [← htake, List.getElem?_take] at hf
    split at hf
    · simpa using hf
    · cases hf
theorem els_heap {E : Type} {enc : E → List Value} {sz : Nat} {w : World} {g : Nat} {cs : Array Value} {t : TypeId} {fr : Nat × Nat} (he : ∀ x, (enc x).length = sz) (xs : List E) (h : w.heap[g]? = some (.cells cs t fr)) (hc : cs.toList = flat enc xs) : Els enc sz w (some ⟨g, 0, none⟩) xs := by
  intro i hi
  refine ⟨g, 0, rfl, fun j u hu => ?_⟩
  have hj : j < sz := by have := (List.getElem?_eq_some_iff.1 hu).1; rwa [he] at this
  rw [Nat.zero_add, cell_of_row w g _ _ _ _ h]
  have hf := flat_get he xs i j hi hj
  rw [hu, ← hc] at hf
  simpa using hf
theorem cells_new {w : World} (cs : List Value) (e : TypeId) (n : Nat) (hn : n = w.heap.size) : ∀ j u, cs[j]? = some u → (w.alloc (.cells cs.toArray e)).cell? ((⟨n, 0, none⟩ : Addr).add j) = some u := by
  subst hn
  intro j u hu
  have hadd : (⟨w.heap.size, 0, none⟩ : Addr).add j = ⟨w.heap.size, j, none⟩ := by unfold Addr.add; split <;> simp_all
  rw [hadd, cell_of_row _ _ _ _ _ _ (heap_at _ _ _ rfl)]
  simpa using hu
theorem grown_cell {w w' : World} {row : Option Nat} (hg : w.grownBy w' row) {b o : Nat} {v : Value} (h : w.cell? ⟨b, o, none⟩ = some v) (hne : some b ≠ row) : w'.cell? ⟨b, o, none⟩ = some v := hg.cell h hne
theorem grown_trans {a b c : World} {row : Option Nat} (h : a.grownBy b row) (k : b.grownBy c row) : a.grownBy c row :=
  ⟨k.os.trans h.os, k.tape.trans h.tape, k.output.trans h.output, Nat.le_trans h.size k.size, fun i hi hr => (k.block i (Nat.lt_of_lt_of_le hi h.size) hr).trans (h.block i hi hr)⟩
theorem grown_below {a b : World} (h : Below a.heap.size a b) (row : Option Nat) : a.grownBy b row := ⟨h.os, h.tape, h.output, h.size, fun i hi _ => h.block i hi⟩
theorem grown_new {a b c : World} {row r2 : Option Nat} (h : a.grownBy b row) (k : b.grownBy c r2) (hr : ∀ i, r2 = some i → a.heap.size ≤ i) : a.grownBy c row :=
  ⟨k.os.trans h.os, k.tape.trans h.tape, k.output.trans h.output, Nat.le_trans h.size k.size, fun i hi hne => (k.block i (Nat.lt_of_lt_of_le hi h.size) (fun e => by have := hr i e.symm; omega)).trans (h.block i hi hne)⟩
theorem grown_alloc {a b : World} {row : Option Nat} (h : a.grownBy b row) (o : Obj) : a.grownBy (b.alloc o) row := grown_trans h (World.grownBy_alloc b o row)
theorem grown_set {a b : World} {g : Nat} (h : a.grownBy b (some g)) (o : Nat) (u : Value) : a.grownBy (b.setCell ⟨g, o, none⟩ u) (some g) :=
  grown_trans h ⟨rfl, rfl, rfl, by simp [World.setCell], fun k hk hne => Below.heap_setCell _ _ _ _ (fun e => hne (by rw [e]))⟩
theorem grown_refl (a : World) (row : Option Nat) : a.grownBy a row := ⟨rfl, rfl, rfl, Nat.le_refl _, fun _ _ _ => rfl⟩
theorem grown_drewN {a b : World} {row : Option Nat} (h : a.grownBy b row) (n : Nat) : a.grownBy (b.drewN n) row := ⟨h.os, h.tape, h.output, h.size, h.block⟩
end Go.Proofs.YtjhbpcdaojajdaaDoor.LibC
