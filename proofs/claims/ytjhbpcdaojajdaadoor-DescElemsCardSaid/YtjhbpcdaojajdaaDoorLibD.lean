/- A world with blocks laid behind its own: what a call leaves that turned nothing. The walk's simp reads through it. No program here. -/
import Derived.Test.YtjhbpcdaojajdaaDoorLibC
set_option linter.unusedVariables false
set_option linter.unusedSimpArgs false
namespace Go.Proofs.YtjhbpcdaojajdaaDoor.LibD
open Go.RowKit Go.Proofs.YtjhbpcdaojajdaaDoor.LibA Go.Proofs.YtjhbpcdaojajdaaDoor.LibB Go.Proofs.YtjhbpcdaojajdaaDoor.LibC

def ext (w : World) (l : List Obj) (d : Nat) : World := { w with heap := w.heap ++ l.toArray, drawn := d }
theorem ext_of_below {w w' : World} (h : Below w.heap.size w w') : ∃ l d, w' = ext w l d := by
  refine ⟨w'.heap.toList.drop w.heap.size, w'.drawn, ?_⟩
  have hh : w'.heap = w.heap ++ (w'.heap.toList.drop w.heap.size).toArray := by
    apply Array.ext_getElem?
    intro i
    rw [Array.getElem?_append]
    split
    · rename_i hi; exact h.block i hi
    · rename_i hi
      simp only [List.getElem?_toArray, List.getElem?_drop]
      rw [show w.heap.size + (i - w.heap.size) = i from by omega]
      simp
  cases w'; cases w
  obtain ⟨h1, h2, h3, h4, h5⟩ := h
  simp only [ext] at *
  subst h1; subst h2; subst h3
  congr 1
theorem ext_below (w : World) (l : List Obj) (d : Nat) : Below w.heap.size w (ext w l d) :=
  ⟨rfl, rfl, rfl, by simp [ext], fun k hk => by simp only [ext]; rw [Array.getElem?_append_left hk]⟩
@[simp, go_sem] theorem ext_size (w : World) (l : List Obj) (d : Nat) : (ext w l d).heap.size = w.heap.size + l.length := by simp [ext]
@[go_sem] theorem ext_cell {w : World} {l : List Obj} {d n i : Nat} (hn : n < w.heap.size) : (ext w l d).cell? ⟨n, i, none⟩ = w.cell? ⟨n, i, none⟩ := (ext_below w l d).cell (p := ⟨n, i, none⟩) hn
@[go_sem] theorem ext_frozen {w : World} {l : List Obj} {d n i : Nat} (hn : n < w.heap.size) : (ext w l d).frozen? ⟨n, i, none⟩ = w.frozen? ⟨n, i, none⟩ := (ext_below w l d).frozen (p := ⟨n, i, none⟩) hn
theorem ext_heap {w : World} {l : List Obj} {d n : Nat} (hn : n < w.heap.size) : (ext w l d).heap[n]? = w.heap[n]? := (ext_below w l d).block n hn
theorem modify_append {α : Type} (a : Array α) (l : List α) (n : Nat) (f : α → α) (hn : n < a.size) : (a ++ l.toArray).modify n f = a.modify n f ++ l.toArray := by
  apply Array.ext_getElem?
  intro i
  simp only [Array.getElem?_modify, Array.getElem?_append, Array.size_modify]
  by_cases hi : n = i
  · subst hi; simp [hn]
  · simp [hi]
@[go_sem] theorem ext_setCell {w : World} {l : List Obj} {d n i : Nat} {v : Value} (hn : n < w.heap.size) : (ext w l d).setCell ⟨n, i, none⟩ v = ext (w.setCell ⟨n, i, none⟩ v) l d := by
  simp only [ext, World.setCell]
  congr 1
  exact modify_append _ _ _ _ hn
theorem ext_setRow {w : World} {l : List Obj} {d n : Nat} {C : Array Value} (hn : n < w.heap.size) : (ext w l d).setRow n C = ext (w.setRow n C) l d := by
  simp only [ext, World.setRow]
  congr 1
  exact modify_append _ _ _ _ hn
theorem ext_setRow' {w w' : World} {l : List Obj} {d n : Nat} {C : Array Value} (hn : n < w.heap.size) (h : w.setRow n C = w') : (ext w l d).setRow n C = ext w' l d := by rw [ext_setRow hn, h]
@[go_sem] theorem ext_drewN (w : World) (l : List Obj) (d n : Nat) : (ext w l d).drewN n = ext w l (d + n) := rfl
@[go_sem] theorem ext_drew (w : World) (l : List Obj) (d : Nat) : (ext w l d).drew = ext w l (d + 1) := rfl
theorem bl_ext {w W : World} (h : Below w.heap.size w W) (l : List Obj) (d : Nat) : Below w.heap.size w (ext W l d) := h.trans ((ext_below W l d).mono h.size)
theorem own_ext {w : World} {base : Nat} {e : TypeId} {size : Nat} {v : Value} {n : Nat} {xs : List Value} (h : w.ownsRow base e size v n xs) (l : List Obj) (d : Nat) : (ext w l d).ownsRow base e size v n xs :=
  h.kept (grown_below (ext_below w l d) none) (by cases hv : v.ownBlock <;> simp)
theorem own_set_other {w : World} {base : Nat} {e : TypeId} {size : Nat} {v : Value} {n : Nat} {xs : List Value} (h : w.ownsRow base e size v n xs) {g : Nat} (hg : v.ownBlock ≠ some g) (o : Nat) (u : Value) : (w.setCell ⟨g, o, none⟩ u).ownsRow base e size v n xs :=
  h.kept (row := some g) ⟨rfl, rfl, rfl, by simp [World.setCell], fun k hk hne => Below.heap_setCell _ _ _ _ (fun e => hne (by rw [e]))⟩ (.inr hg)
@[go_sem] theorem ext_ext (w : World) (l l2 : List Obj) (d d2 : Nat) : ext (ext w l d) l2 d2 = ext w (l ++ l2) d2 := by simp [ext]
@[go_sem] theorem lt_addk {a b k : Nat} (h : a < b) : a < b + k := by omega
@[go_sem] theorem lt_add1 {a b : Nat} (h : a < b) : a < b + 1 := by omega
@[go_sem] theorem alloc_drewN (w : World) (n : Nat) (o : Obj) : (w.drewN n).alloc o = (w.alloc o).drewN n := rfl
@[go_sem] theorem setCell_drewN (w : World) (n : Nat) (a : Addr) (v : Value) : (w.drewN n).setCell a v = (w.setCell a v).drewN n := rfl
theorem own_ext_app {w : World} {base : Nat} {e : TypeId} {size : Nat} {v : Value} {n : Nat} {xs : List Value} {l : List Obj} {d : Nat} (h : (ext w l d).ownsRow base e size v n xs) (l2 : List Obj) (d2 : Nat) : (ext w (l ++ l2) d2).ownsRow base e size v n xs := by
  rw [← ext_ext w l l2 d d2]; exact own_ext h l2 d2
theorem own_low {w : World} {base B : Nat} {e : TypeId} {size : Nat} {v : Value} {n : Nat} {xs : List Value} (h : w.ownsRow base e size v n xs) (hB : B ≤ base) : w.ownsRow B e size v n xs := by
  refine ⟨h.1, ?_⟩
  rcases h.2 with h0 | ⟨g, cap, cur, rfl, hbg, r⟩
  · exact .inl h0
  · exact .inr ⟨g, cap, cur, rfl, Nat.le_trans hB hbg, r⟩
theorem grown_nil {a b : World} (h : a.grownBy b none) : Below a.heap.size a b := ⟨h.os, h.tape, h.output, h.size, fun k hk => h.block k hk (by simp)⟩
theorem ext_of_grown {w w' : World} {g : Nat} {c c' : Array Value} {t : TypeId} (h : w.grownBy w' (some g)) (hc : w.heap[g]? = some (.cells c t (0, 0))) (hc' : w'.heap[g]? = some (.cells c' t (0, 0))) (w2 : World) (hw2 : w.setRow g c' = w2) : ∃ l d, w' = ext w2 l d := by
  subst hw2
  have hb : Below (w.setRow g c').heap.size (w.setRow g c') w' := by
    refine ⟨h.os, h.tape, h.output, by simpa using h.size, fun k hk => ?_⟩
    by_cases e : k = g
    · subst e; rw [hc', setRow_heap w k c c' t (0, 0) hc]
    · rw [setRow_other w g k c' e]
      exact h.block k (by simpa using hk) (fun e' => e (Option.some.inj e'))
  exact ext_of_below hb
theorem own_swap {a b : World} {l : List Obj} {d base : Nat} {e : TypeId} {size : Nat} {v : Value} {n : Nat} {xs : List Value} (h : (ext a l d).ownsRow base e size v n xs) (hs : a.heap.size = b.heap.size) (hb : a.heap.size ≤ base) : (ext b l d).ownsRow base e size v n xs := by
  refine ⟨h.1, ?_⟩
  rcases h.2 with h0 | ⟨g, cap, cur, rfl, hbg, hg, r⟩
  · exact .inl h0
  · refine .inr ⟨g, cap, cur, rfl, hbg, ?_, r⟩
    simp only [ext] at hg ⊢
    rw [Array.getElem?_append_right (by omega)] at hg ⊢
    rw [← hs]; exact hg
theorem grown_ext {a b : World} {row : Option Nat} (h : a.grownBy b row) (l : List Obj) (d : Nat) : a.grownBy (ext b l d) row := grown_new h (grown_below (ext_below b l d) none) (fun _ h => by cases h)
end Go.Proofs.YtjhbpcdaojajdaaDoor.LibD
