/- A small logic for walks: a frame known by a list of slots, memory known by a list of items that lie apart. No program here. -/
import Derived.RowKit3
import Derived.Below
import Derived.WalkKit
import Derived.Lib.Hide
import Derived.Deep.Draws
import Derived.Deep.MidRow
import Derived.Deep.RegionHeld3
import Derived.Laws.AppendOwn
import Derived.Maps.AppendAt
import Derived.Laws.MakeOwn
set_option linter.unusedVariables false
set_option linter.unusedSimpArgs false
namespace Go.Proofs.YtjhbpcdaojajdaaDoor.LibS
open Go.RowKit

/-! ### 1. the frame -/
def lkS : List (Nat × Value) → Nat → Option Value
  | [], _ => none
  | (d, v) :: r, e => bif Nat.beq d e then some v else lkS r e
structure FrD (ds : List Deferred) (n : Nat) (a : Act) (L : List (Nat × Value)) : Prop where
  size : a.tmps.size = n
  defers : a.defers = ds
  get : ∀ d v, lkS L d = some v → a.tmps.getD d undef = v
abbrev FrL (n : Nat) (a : Act) (L : List (Nat × Value)) : Prop := FrD [] n a L
def evO (L : List (Nat × Value)) : Operand → Option Value
  | .tmp t => lkS L t
  | .const v => some v
  | .func f => some (.func (.func f) #[] #[])
  | .global g => some (.pointer (some ⟨g, 0, none⟩))
theorem FrD.ev {ds : List Deferred} {n : Nat} {a : Act} {L : List (Nat × Value)} (fr : FrD ds n a L) {x : Operand} {v : Value} (h : evO L x = some v) : a.eval x = v := by
  cases x with
  | tmp t => exact fr.get t v h
  | const c => simpa [evO, Act.eval] using h
  | func f => simpa [evO, Act.eval] using h
  | global g => simpa [evO, Act.eval] using h
theorem FrD.put {ds : List Deferred} {n : Nat} {a : Act} {L : List (Nat × Value)} (fr : FrD ds n a L) {d : Nat} (v : Value) (hd : Nat.blt d n = true) : FrD ds n (a.put (some d) v) ((d, v) :: L) := by
  have hd' : d < n := by simpa [Nat.blt_eq] using hd
  refine ⟨by simp [Act.put, fr.size], by simp [Act.put, fr.defers], fun e u h => ?_⟩
  unfold lkS at h
  by_cases he : d = e
  · subst he
    simp at h
    subst h
    simp [Act.put, fr.size, hd']
  · have : Nat.beq d e = false := by rw [Bool.eq_false_iff]; intro h2; exact he (Nat.eq_of_beq_eq_true h2)
    rw [this] at h
    have := fr.get e u h
    simp only [Act.put, Array.getD_eq_getD_getElem?] at this ⊢
    rw [Array.getElem?_setIfInBounds_ne he]
    exact this
theorem FrD.put_none {ds : List Deferred} {n : Nat} {a : Act} {L : List (Nat × Value)} (fr : FrD ds n a L) (v : Value) : FrD ds n (a.put none v) L := fr
def allIn (L : List (Nat × Value)) : List (Nat × Value) → Prop
  | [] => True
  | (d, v) :: r => lkS L d = some v ∧ allIn L r
theorem FrD.prune {ds : List Deferred} {n : Nat} {a : Act} {L L' : List (Nat × Value)} (fr : FrD ds n a L) (h : allIn L L') : FrD ds n a L' := by
  refine ⟨fr.size, fr.defers, ?_⟩
  induction L' with
  | nil => intro d v h; cases h
  | cons p r ih =>
    obtain ⟨e, u⟩ := p
    intro d v hl
    unfold lkS at hl
    cases hb : Nat.beq e d
    · rw [hb] at hl; exact ih h.2 d v hl
    · rw [hb] at hl
      have := Nat.eq_of_beq_eq_true hb
      subst this
      simp at hl
      subst hl
      exact fr.get _ _ h.1

/-! ### 2. memory -/
/-- w' is w but for the blocks in K, and for new ones. -/
structure Agr (K : List Nat) (w w' : World) : Prop where
  os : w'.os = w.os
  tape : w'.tape = w.tape
  output : w'.output = w.output
  size : w.heap.size ≤ w'.heap.size
  block : ∀ b, b < w.heap.size → b ∉ K → w'.heap[b]? = w.heap[b]?
theorem Agr.refl (K : List Nat) (w : World) : Agr K w w := ⟨rfl, rfl, rfl, Nat.le_refl _, fun _ _ _ => rfl⟩
theorem Agr.below {w w' : World} (h : Agr [] w w') : Below w.heap.size w w' := ⟨h.os, h.tape, h.output, h.size, fun b hb => h.block b hb (by simp)⟩
theorem Agr.of_below {w w' : World} (h : Below w.heap.size w w') : Agr [] w w' := ⟨h.os, h.tape, h.output, h.size, fun b hb _ => h.block b hb⟩
theorem Agr.of_grown {w w' : World} {g : Nat} (h : w.grownBy w' (some g)) : Agr [g] w w' := ⟨h.os, h.tape, h.output, h.size, fun b hb hn => h.block b hb (fun e => hn (by cases e; simp))⟩
theorem Agr.of_grown_none {w w' : World} (h : w.grownBy w' none) : Agr [] w w' := ⟨h.os, h.tape, h.output, h.size, fun b hb hn => h.block b hb (fun e => by cases e)⟩
theorem Agr.mono {K K' : List Nat} {w w' : World} (h : Agr K w w') (hk : ∀ b ∈ K, b ∈ K' ) : Agr K' w w' := ⟨h.os, h.tape, h.output, h.size, fun b hb hn => h.block b hb (fun hm => hn (hk b hm))⟩
/-- then: what is written second is old and named, or new. -/
theorem Agr.then {K K2 : List Nat} {w w1 w2 : World} (h : Agr K w w1) (h2 : Agr K2 w1 w2) (hk : ∀ b ∈ K2, b ∈ K ∨ w.heap.size ≤ b) : Agr K w w2 :=
  ⟨h2.os.trans h.os, h2.tape.trans h.tape, h2.output.trans h.output, Nat.le_trans h.size h2.size, fun b hb hn =>
    (h2.block b (Nat.lt_of_lt_of_le hb h.size) (fun hm => by rcases hk b hm with h | h; exact hn h; omega)).trans (h.block b hb hn)⟩
theorem Agr.trans0 {K : List Nat} {w w1 w2 : World} (h : Agr K w w1) (h2 : Agr [] w1 w2) : Agr K w w2 := h.then h2 (by simp)
theorem Agr.alloc (w : World) (o : Obj) : Agr [] w (w.alloc o) := ⟨rfl, rfl, rfl, by simp, fun b hb _ => Below.heap_alloc w o b hb⟩
theorem Agr.drew (w : World) : Agr [] w w.drew := ⟨rfl, rfl, rfl, Nat.le_refl _, fun _ _ _ => rfl⟩
theorem Agr.drewN (w : World) (n : Nat) : Agr [] w (w.drewN n) := ⟨rfl, rfl, rfl, Nat.le_refl _, fun _ _ _ => rfl⟩
theorem Agr.setCell (w : World) (b o : Nat) (v : Value) : Agr [b] w (w.setCell ⟨b, o, none⟩ v) :=
  ⟨rfl, rfl, rfl, by simp [World.setCell], fun k hk hn => Below.heap_setCell _ _ _ _ (fun e => hn (by simp [e]))⟩
theorem Agr.setCells (w : World) (b o : Nat) (cs : List Value) : Agr [b] w (w.setCells b o cs) := by
  induction cs generalizing w o with
  | nil => exact Agr.refl _ _
  | cons c r ih =>
    exact (Agr.setCell w b o c).then (ih _ _) (by simp)

inductive It where
  | blk (b : Nat) (cs : List Value) (t : TypeId)
  | cust (fp : List Nat) (wr : Bool) (Φ : World → Prop)
def It.fp : It → List Nat
  | .blk b _ _ => [b]
  | .cust fp _ _ => fp
def It.wr : It → Bool
  | .blk _ _ _ => true
  | .cust _ wr _ => wr
def It.ok (w0 : World) (K : List Nat) (w : World) : It → Prop
  | .blk b cs t => (w0.heap.size ≤ b ∨ b ∈ K) ∧ w.heap[b]? = some (.cells cs.toArray t (0, 0))
  | .cust fp wr Φ => Φ w ∧ (∀ b ∈ fp, b < w.heap.size ∧ (wr = true → w0.heap.size ≤ b ∨ b ∈ K)) ∧ ∀ w1 w2 : World, (∀ b ∈ fp, w2.heap[b]? = w1.heap[b]?) → Φ w1 → Φ w2
theorem It.ok_lt {w0 : World} {K : List Nat} {w : World} {it : It} (h : it.ok w0 K w) : ∀ b ∈ it.fp, b < w.heap.size := by
  cases it with
  | blk b cs t =>
    intro c hc
    simp only [It.fp, List.mem_singleton] at hc
    subst hc
    rcases Nat.lt_or_ge c w.heap.size with hl | hl
    · exact hl
    · have := h.2; rw [Array.getElem?_eq_none hl] at this; cases this
  | cust fp wr Φ => exact fun c hc => (h.2.1 c hc).1
theorem It.ok_own {w0 : World} {K : List Nat} {w : World} {it : It} (h : it.ok w0 K w) (hw : it.wr = true) : ∀ b ∈ it.fp, w0.heap.size ≤ b ∨ b ∈ K := by
  cases it with
  | blk b cs t => intro c hc; simp only [It.fp, List.mem_singleton] at hc; subst hc; exact h.1
  | cust fp wr Φ => exact fun c hc => (h.2.1 c hc).2 hw
theorem It.ok_keep {w0 : World} {K K' : List Nat} {w w' : World} {it : It} (h : it.ok w0 K w) (ha : Agr K' w w') (hd : ∀ b ∈ it.fp, b ∉ K') : it.ok w0 K w' := by
  have hlt := It.ok_lt h
  cases it with
  | blk b cs t => exact ⟨h.1, (ha.block b (hlt b (by simp [It.fp])) (hd b (by simp [It.fp]))).trans h.2⟩
  | cust fp wr Φ =>
    exact ⟨h.2.2 w w' (fun b hb => ha.block b (hlt b hb) (hd b hb)) h.1, fun b hb => ⟨Nat.lt_of_lt_of_le (hlt b hb) ha.size, (h.2.1 b hb).2⟩, h.2.2⟩
def sep (x y : It) : Prop := (x.wr = true ∨ y.wr = true) → ∀ b ∈ x.fp, b ∉ y.fp
theorem sep_symm {x y : It} (h : sep x y) : sep y x := fun hw b hb hb' => h (hw.symm) b hb' hb
structure St (w0 : World) (K : List Nat) (w : World) (L : List It) : Prop where
  agr : Agr K w0 w
  ok : ∀ it ∈ L, it.ok w0 K w
  sep : L.Pairwise sep
theorem St.start (w : World) (K : List Nat) : St w K w [] := ⟨Agr.refl _ _, by simp, by simp⟩
theorem St.lt {w0 w : World} {K : List Nat} {L : List It} (st : St w0 K w L) {it : It} (h : it ∈ L) : ∀ b ∈ it.fp, b < w.heap.size := It.ok_lt (st.ok it h)
theorem St.get {w0 w : World} {K : List Nat} {L : List It} (st : St w0 K w L) (i : Nat) {it : It} (h : L[i]? = some it) : it.ok w0 K w := st.ok it (List.mem_of_getElem? h)
theorem St.keep {w0 w w' : World} {K : List Nat} {L : List It} (st : St w0 K w L) (h : Agr [] w w') : St w0 K w' L :=
  ⟨st.agr.trans0 h, fun it hi => It.ok_keep (st.ok it hi) h (by simp), st.sep⟩
theorem St.drew {w0 w : World} {K : List Nat} {L : List It} (st : St w0 K w L) : St w0 K w.drew L := st.keep (Agr.drew w)
theorem St.drewN {w0 w : World} {K : List Nat} {L : List It} (st : St w0 K w L) (n : Nat) : St w0 K (w.drewN n) L := st.keep (Agr.drewN w n)
theorem St.sub {w0 w : World} {K : List Nat} {L L' : List It} (st : St w0 K w L) (h : L'.Sublist L) : St w0 K w L' := ⟨st.agr, fun it hi => st.ok it (h.subset hi), st.sep.sublist h⟩
/-- a new item, its blocks new -/
theorem St.new {w0 w w' : World} {K : List Nat} {L : List It} (st : St w0 K w L) (h : Agr [] w w') {it : It} (hok : it.ok w0 K w') (hf : ∀ b ∈ it.fp, w.heap.size ≤ b) : St w0 K w' (it :: L) := by
  have s := st.keep h
  refine ⟨s.agr, fun x hx => ?_, List.pairwise_cons.2 ⟨fun x hx _ b hb hb' => ?_, s.sep⟩⟩
  · rcases List.mem_cons.1 hx with rfl | hx
    · exact hok
    · exact s.ok x hx
  · have := hf b hb
    have := st.lt hx b hb'
    omega
/-- a further lkS at what lies under an item that is only read -/
theorem St.focus {w0 w : World} {K : List Nat} {L : List It} (st : St w0 K w L) (i : Nat) {x : It} (hx : L[i]? = some x) (hxw : x.wr = false) {it : It} (hw : it.wr = false) (hok : it.ok w0 K w) (hf : ∀ b ∈ it.fp, b ∈ x.fp) : St w0 K w (it :: L) := by
  refine ⟨st.agr, fun y hy => ?_, List.pairwise_cons.2 ⟨fun y hy hor b hb hb' => ?_, st.sep⟩⟩
  · rcases List.mem_cons.1 hy with rfl | hy
    · exact hok
    · exact st.ok y hy
  · rw [hw] at hor
    have hyw : y.wr = true := by simpa using hor
    have hxm := List.mem_of_getElem? hx
    have hne : x ≠ y := fun e => by subst e; rw [hxw] at hyw; cases hyw
    have this : Go.Proofs.YtjhbpcdaojajdaaDoor.LibS.sep x y := by
      obtain ⟨j, hj, rfl⟩ := List.getElem_of_mem hy
      have hil := (List.getElem?_eq_some_iff.1 hx).1
      have ex := (List.getElem?_eq_some_iff.1 hx).2
      have hp := List.pairwise_iff_getElem.1 st.sep
      have hij : i ≠ j := fun e => hne (by subst e; exact ex.symm)
      rcases Nat.lt_or_gt_of_ne hij with h | h
      · have := hp i j hil hj h; rwa [ex] at this
      · have := hp j i hj hil h; rw [ex] at this; exact sep_symm this
    exact this (.inr hyw) b (hf b hb) hb'
/-- an item that may be written is written -/
theorem St.upd {w0 w w' : World} {K : List Nat} {L : List It} (st : St w0 K w L) (i : Nat) {x : It} (hx : L[i]? = some x) (hxw : x.wr = true) (h : Agr x.fp w w') {it : It} (hok : it.ok w0 K w') (hf : ∀ b ∈ it.fp, b ∈ x.fp ∨ w.heap.size ≤ b) : St w0 K w' (L.set i it) := by
  have hown := It.ok_own (st.get i hx) hxw
  have hsep : ∀ y ∈ L, ∀ j, L[j]? = some y → j ≠ i → ∀ b ∈ x.fp, b ∉ y.fp := by
    intro y hy j hj hji b hb hb'
    have hp := List.pairwise_iff_getElem.1 st.sep
    have hil := (List.getElem?_eq_some_iff.1 hx).1
    have hjl := (List.getElem?_eq_some_iff.1 hj).1
    have ex := (List.getElem?_eq_some_iff.1 hx).2
    have ey := (List.getElem?_eq_some_iff.1 hj).2
    rcases Nat.lt_or_gt_of_ne hji with hlt | hlt
    · have := hp j i hjl hil hlt
      rw [ex, ey] at this
      exact this (.inr hxw) b hb' hb
    · have := hp i j hil hjl hlt
      rw [ex, ey] at this
      exact this (.inl hxw) b hb hb'
  refine ⟨st.agr.then h (fun b hb => (hown b hb).symm), fun y hy => ?_, ?_⟩
  · obtain ⟨j, hj, rfl⟩ := List.getElem_of_mem hy
    rw [List.getElem_set] at *
    split
    · exact hok
    · rename_i hne
      have hjl : j < L.length := by simpa using hj
      have hy' : L[j] ∈ L := List.getElem_mem hjl
      exact It.ok_keep (st.ok _ hy') h (fun b hb hbx => hsep _ hy' j (List.getElem?_eq_getElem hjl) (fun e => hne e.symm) b hbx hb)
  · have hp := List.pairwise_iff_getElem.1 st.sep
    rw [List.pairwise_iff_getElem]
    intro j k hj hk hjk
    have hjl : j < L.length := by simpa using hj
    have hkl : k < L.length := by simpa using hk
    have fresh : ∀ m (hm : m < L.length), m ≠ i → ∀ b ∈ it.fp, b ∉ (L[m]).fp := by
      intro m hm hmi b hb hb'
      rcases hf b hb with h1 | h1
      · exact hsep _ (List.getElem_mem hm) m (List.getElem?_eq_getElem hm) hmi b h1 hb'
      · have := st.lt (List.getElem_mem hm) b hb'
        omega
    rw [List.getElem_set, List.getElem_set]
    by_cases h1 : i = j
    · by_cases h2 : i = k
      · omega
      · rw [if_pos h1, if_neg h2]
        exact fun _ => fresh k hkl (fun e => h2 e.symm)
    · rw [if_neg h1]
      by_cases h2 : i = k
      · rw [if_pos h2]
        exact fun _ b hb hb' => fresh j hjl (fun e => h1 e.symm) b hb' hb
      · rw [if_neg h2]; exact hp j k hjl hkl hjk
/-- an item under another word: as long as its blocks are the same -/
theorem St.conv {w0 w : World} {K : List Nat} {L : List It} (st : St w0 K w L) (i : Nat) {x it : It} (hx : L[i]? = some x) (hw : it.wr = x.wr) (hfp : it.fp = x.fp) (hok : it.ok w0 K w) : St w0 K w (L.set i it) := by
  refine ⟨st.agr, fun y hy => ?_, ?_⟩
  · rcases List.mem_or_eq_of_mem_set hy with h | rfl
    · exact st.ok y h
    · exact hok
  · have hp := List.pairwise_iff_getElem.1 st.sep
    rw [List.pairwise_iff_getElem]
    intro j k hj hk hjk
    have hjl : j < L.length := by simpa using hj
    have hkl : k < L.length := by simpa using hk
    have ex := (List.getElem?_eq_some_iff.1 hx).2
    have := hp j k hjl hkl hjk
    rw [List.getElem_set, List.getElem_set]
    by_cases h1 : i = j
    · subst h1
      rw [if_pos rfl, if_neg (by omega)]
      rw [ex] at this
      exact fun ho b hb => this (by rwa [hw] at ho) b (hfp ▸ hb)
    · rw [if_neg h1]
      by_cases h2 : i = k
      · subst h2
        rw [if_pos rfl]
        rw [ex] at this
        exact fun ho b hb hb' => this (by rwa [hw] at ho) b hb (hfp ▸ hb')
      · rw [if_neg h2]; exact this
/-! cells -/
theorem St.cell {w0 w : World} {K : List Nat} {L : List It} (st : St w0 K w L) (i : Nat) {b : Nat} {cs : List Value} {t : TypeId} (h : L[i]? = some (.blk b cs t)) {o : Nat} {v : Value} (hv : cs[o]? = some v) : w.cell? ⟨b, o, none⟩ = some v := by
  rw [cell_of_row w b o _ _ _ (st.get i h).2]; simpa using hv
/-- cells that may be read -/
def Ro (b off : Nat) (cs : List Value) (w : World) : Prop := w.rangeAt b off cs
def ro (b off : Nat) (cs : List Value) : It := .cust [b] false (Ro b off cs)
theorem Ro_stable (b off : Nat) (cs : List Value) : ∀ w1 w2 : World, (∀ c ∈ [b], w2.heap[c]? = w1.heap[c]?) → Ro b off cs w1 → Ro b off cs w2 := fun w1 w2 h hr j v hj =>
  (World.cell?_of_block (w := w1) (a := ⟨b, off + j, none⟩) (h b (by simp))).trans (hr j v hj)
theorem St.rocell {w0 w : World} {K : List Nat} {L : List It} (st : St w0 K w L) (i : Nat) {b off : Nat} {cs : List Value} (h : L[i]? = some (ro b off cs)) {j : Nat} {v : Value} (hv : cs[j]? = some v) : w.cell? ⟨b, off + j, none⟩ = some v :=
  (st.get i h).1 j v hv
end Go.Proofs.YtjhbpcdaojajdaaDoor.LibS
