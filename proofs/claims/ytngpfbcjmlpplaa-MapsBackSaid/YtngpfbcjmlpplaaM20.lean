import Derived.Test.YtngpfbcjmlpplaaM19
set_option linter.unusedVariables false
set_option linter.unusedSimpArgs false
namespace Go.Proofs.Ytngpfbcjmlpplaa.M
open Go.RowKit Go.Proofs.Ytngpfbcjmlpplaa.LibA Go.Proofs.Ytngpfbcjmlpplaa.LibB Go.Proofs.Ytngpfbcjmlpplaa.LibC Go.Proofs.Ytngpfbcjmlpplaa.LibD Go.Proofs.Ytngpfbcjmlpplaa.LibE Go.Proofs.Ytngpfbcjmlpplaa.LibF Go.Proofs.Ytngpfbcjmlpplaa.LibG
/-! what Enter computes -/
def entBad (N : Nat) (s : SlotD) : Bool := !(s.1 == 0) && (!(s.2.1 == 0) && !liesB s.2.1 s.2.2 N)
def entStep (s : SlotD) (v : Int) (st : List Int × List Int) : List Int × List Int := if s.1 = 0 ∨ s.2.1 = 0 then st else (putR s.2.1 s.2.2 v st.1, putS s.2.1 s.2.2 v st.2)
def entK (es : List SlotD) (ls : List ValD) (N : Nat) : Nat → List Int × List Int
  | 0 => (List.replicate 16 0, List.replicate N 0)
  | k + 1 => entStep (es.getD k (0, 0, 0)) (ls.getD k (0, 0)).2 (entK es ls N k)
theorem entStep_len (s : SlotD) (v : Int) (st : List Int × List Int) : (entStep s v st).1.length = st.1.length ∧ (entStep s v st).2.length = st.2.length := by
  unfold entStep; split
  · exact ⟨rfl, rfl⟩
  · exact ⟨putR_length _ _ _ _, putS_length _ _ _ _⟩
theorem entK_len (es : List SlotD) (ls : List ValD) (N : Nat) : ∀ k, (entK es ls N k).1.length = 16 ∧ (entK es ls N k).2.length = N
  | 0 => by simp [entK]
  | k + 1 => by
    have := entK_len es ls N k
    have h := entStep_len (es.getD k (0, 0, 0)) (ls.getD k (0, 0)).2 (entK es ls N k)
    exact ⟨h.1.trans this.1, h.2.trans this.2⟩
def entAny (N : Nat) (es : List SlotD) : Bool := es.any (entBad N)
def entE (fits : Bool) (csp : Int) (es : List SlotD) : Int := if fits = false then 1 else if csp < 0 ∨ 4096 < csp then 250 else if entAny csp.toNat es = true then 250 else 0
def entV (fits : Bool) (csp : Int) (es : List SlotD) (ls : List ValD) : List Int × List Int := if entE fits csp es = 0 then entK es ls csp.toNat es.length else (List.replicate 16 0, [])
theorem entAny_yes {N : Nat} {es : List SlotD} {k : Nat} (hk : k < es.length) {s : SlotD} (hs : es[k] = s) (h : entBad N s = true) : entAny N es = true := by
  simp only [entAny, List.any_eq_true]; exact ⟨s, hs ▸ List.getElem_mem hk, h⟩
theorem entAny_no {N : Nat} {es : List SlotD} (h : ∀ j, (hj : j < es.length) → entBad N es[j] = false) : entAny N es = false := by
  rw [Bool.eq_false_iff]; intro e
  simp only [entAny, List.any_eq_true] at e
  obtain ⟨x, hx, hb⟩ := e
  obtain ⟨j, hj, rfl⟩ := List.getElem_of_mem hx
  rw [h j hj] at hb; cases hb
theorem entK_succ {es : List SlotD} {ls : List ValD} {N k : Nat} {a b c va vn : Int} (hk : k < es.length) (hk2 : k < ls.length) (hx : es[k] = (a, b, c)) (hy : ls[k] = (va, vn)) {rs sp : List Int} (h : entK es ls N k = (rs, sp)) :
    entK es ls N (k + 1) = entStep (a, b, c) vn (rs, sp) := by
  unfold entK
  rw [h, List.getD_eq_getElem?_getD, List.getD_eq_getElem?_getD, List.getElem?_eq_getElem hk, List.getElem?_eq_getElem hk2, hx, hy]; rfl
/-! worlds -/
theorem ext_nil (w : World) : ext w [] w.drawn = w := by simp [ext]
theorem ints_ne {w w' : World} {A : Option Addr} {xs : List Int} {T : Nat} (h : Ints w A xs) (hA : ∀ a, A = some a → a.block ≠ T) (hb : ∀ n, n ≠ T → w'.heap[n]? = w.heap[n]?) : Ints w' A xs := fun i hi => by
  obtain ⟨b, off, e, hc⟩ := h i hi
  refine ⟨b, off, e, ?_⟩
  rw [World.cell?_of_block (w := w) (a := ⟨b, off + i, none⟩) (hb b (hA _ e))]
  exact hc
theorem heap_ne {W : World} {o o' : Obj} {l : List Obj} {d d' : Nat} (n : Nat) (hn : n ≠ W.heap.size) : (ext (W.alloc o') l d').heap[n]? = (ext (W.alloc o) l d).heap[n]? := by
  show ((W.heap.push o') ++ l.toArray)[n]? = ((W.heap.push o) ++ l.toArray)[n]?
  simp only [Array.getElem?_append, Array.size_push]
  split
  · rw [Array.getElem?_push, Array.getElem?_push, if_neg hn, if_neg hn]
  · rfl
theorem make_nums (N : Nat) (hN : N ≤ 4096) (W : World) : (Instr.makeSlice 25 (.int .i64 (N : Int)) (.int .i64 (N : Int))).run Try.prog W = .ok (.slice (some ⟨W.heap.size, 0, none⟩) N N) (W.alloc (.cells (numsI (List.replicate N 0)).toArray 2)) := by
  rw [run_make_row' (P := Try.prog) 25 2 (.int .i64 0) 8 Try.underlying25 (by kernel_rfl) rfl .i64 .i64 N (by omega) (by omega) W]
  congr 3
  apply Array.ext'
  rw [toList_madeCells_one]
  simp [numsI]
theorem put_own (k n v : Int) (rs sp : List Int) (A : Option Addr) (c : Nat) (hr : rs.length = 16) (hl : sp.length * 8 ≤ 140737488351232) (hA : A = none → c = 0) (w : World) (hs : Ints w A sp) (hb : liesB k n sp.length = true) :
    Calls Try.prog 11 #[.agg #[.int .i64 k, .int .i64 n], .int .i64 v, .agg (regsC rs (.slice A sp.length c))] w fun e w' => ∃ A1 c1, e = .returned (.tuple #[.agg (regsC (putR k n v rs) (.slice A1 (putS k n v sp).length c1)), .int .i64 0]) ∧ Ints w' A1 (putS k n v sp) ∧ (A1 = none → c1 = 0) ∧ (∀ a, A1 = some a → w.heap.size ≤ a.block) ∧ Below w.heap.size w w' :=
  (put_yes k n v rs sp A c hr hl hA w hs hb).mono fun e w' ⟨v', he, ho, hb⟩ => by
    obtain ⟨A1, e1, hi⟩ := ho.ints
    obtain ⟨g, hg, e2, _⟩ := ho
    have e3 := e1.symm.trans e2
    cases e3
    exact ⟨_, _, by rw [he, e2], hi, fun h => by simp at h, fun a ha => by cases ha; exact hg, hb⟩
theorem rput_own (k n v : Int) (rs sp : List Int) (A : Option Addr) (c : Nat) (hr : rs.length = 16) (hl : sp.length * 8 ≤ 140737488351232) (w : World) (hs : Ints w A sp) (hb : liesB k n sp.length = true) :
    Calls Try.prog 12 #[.agg #[.int .i64 k, .int .i64 n], .int .i64 v, .agg (regsC rs (.slice A sp.length c))] w fun e w' => ∃ A1 c1, e = .returned (.tuple #[.agg (regsC (putR k n v rs) (.slice A1 (putS k n v sp).length c1)), .int .i64 0]) ∧ Ints w' A1 (putS k n v sp) ∧ (∀ a, A1 = some a → w.heap.size ≤ a.block) ∧ Below w.heap.size w w' :=
  (rput_yes k n v rs sp A c hr hl w hs hb).mono fun e w' ⟨A1, m, c1, he, hm, hi, ha, hb⟩ => ⟨A1, c1, by rw [he, hm, putS_length], hi, ha, hb⟩
/-- the row as a word, at the operation's run (regions that draw take it first) -/
theorem xld27 {ρ : Operand → Value} {x : Operand} {w : World} {dst : Option Tmp} {ty : TypeId} {pos : String} {aft : Array Edge} {gd : Option (Nat × Bool)} (hx : isPtr0 (ρ x) = true) (hs : isRw w (blkOf (ρ x)) 17 = true) :
    (execOp ρ ⟨dst, .load 27 x, ty, pos, aft, gd⟩).run Try.prog w = .ok (.value (.agg (rwAt w (blkOf (ρ x))))) w :=
  run_load_row 27 17 _ Try.underlying27 rfl (by kernel_rfl) hx hs
end Go.Proofs.Ytngpfbcjmlpplaa.M
