/- Nested memory: lists of items as one item; rows written in place. No program here. -/
import Derived.Test.YtjhbpcdaojajdaaDoorLibP
set_option linter.unusedVariables false
set_option linter.unusedSimpArgs false
namespace Go.Proofs.YtjhbpcdaojajdaaDoor.LibN
open Go.RowKit Go.Proofs.YtjhbpcdaojajdaaDoor.LibS Go.Proofs.YtjhbpcdaojajdaaDoor.LibR Go.Proofs.YtjhbpcdaojajdaaDoor.LibT Go.Proofs.YtjhbpcdaojajdaaDoor.LibU Go.Proofs.YtjhbpcdaojajdaaDoor.LibV Go.Proofs.YtjhbpcdaojajdaaDoor.LibW Go.Proofs.YtjhbpcdaojajdaaDoor.LibX Go.Proofs.YtjhbpcdaojajdaaDoor.LibY Go.Proofs.YtjhbpcdaojajdaaDoor.LibQ Go.Proofs.YtjhbpcdaojajdaaDoor.LibP Go.Proofs.YtjhbpcdaojajdaaDoor.LibC
def holds (w : World) : It → Prop
  | .blk b cs t => w.heap[b]? = some (.cells cs.toArray t (0, 0))
  | .cust fp _ Φ => Φ w ∧ (∀ b ∈ fp, b < w.heap.size) ∧ ∀ w1 w2 : World, (∀ b ∈ fp, w2.heap[b]? = w1.heap[b]?) → Φ w1 → Φ w2
theorem holds_of {w0 w : World} {K : List Nat} {it : It} (h : it.ok w0 K w) : holds w it := by
  cases it with
  | blk b cs t => exact h.2
  | cust fp wr Φ => exact ⟨h.1, fun b hb => (h.2.1 b hb).1, h.2.2⟩
theorem ok_of {w0 w : World} {K : List Nat} {it : It} (h : holds w it) (ho : it.wr = true → ∀ b ∈ it.fp, w0.heap.size ≤ b ∨ b ∈ K) : it.ok w0 K w := by
  cases it with
  | blk b cs t => exact ⟨ho rfl b (by simp [It.fp]), h⟩
  | cust fp wr Φ => exact ⟨h.1, fun b hb => ⟨h.2.1 b hb, fun hw => ho hw b hb⟩, h.2.2⟩
theorem holds_lt {w : World} {it : It} (h : holds w it) : ∀ b ∈ it.fp, b < w.heap.size := by
  cases it with
  | blk b cs t => intro c hc; simp only [It.fp, List.mem_singleton] at hc; subst hc; exact (Array.getElem?_eq_some_iff.1 h).1
  | cust fp wr Φ => exact h.2.1
theorem holds_keep {w1 w2 : World} {it : It} (h : holds w1 it) (he : ∀ b ∈ it.fp, w2.heap[b]? = w1.heap[b]?) (hs : ∀ b ∈ it.fp, b < w2.heap.size) : holds w2 it := by
  cases it with
  | blk b cs t => exact (he b (by simp [It.fp])).trans h
  | cust fp wr Φ => exact ⟨h.2.2 w1 w2 he h.1, hs, h.2.2⟩
/-- many items as one -/
def pack (wr : Bool) (M : List It) : It := .cust (M.flatMap It.fp) wr fun w => (∀ it ∈ M, holds w it ∧ it.wr = wr) ∧ M.Pairwise sep
section
variable {P : Program} {w0 w : World} {K : List Nat} {M M' L : List It} {wr : Bool}
theorem pack_stable (wr : Bool) (M : List It) : ∀ w1 w2 : World, (∀ b ∈ M.flatMap It.fp, w2.heap[b]? = w1.heap[b]?) → ((∀ it ∈ M, holds w1 it ∧ it.wr = wr) ∧ M.Pairwise sep) → ((∀ it ∈ M, holds w2 it ∧ it.wr = wr) ∧ M.Pairwise sep) := fun w1 w2 he h =>
  ⟨fun it hi => ⟨holds_keep (h.1 it hi).1 (fun b hb => he b (List.mem_flatMap.2 ⟨it, hi, hb⟩)) (fun b hb => by
    have h1 := holds_lt (h.1 it hi).1 b hb
    have h2 := he b (List.mem_flatMap.2 ⟨it, hi, hb⟩)
    rw [Array.getElem?_eq_getElem h1] at h2
    exact (Array.getElem?_eq_some_iff.1 h2).1), (h.1 it hi).2⟩, h.2⟩
theorem _root_.Go.Proofs.YtjhbpcdaojajdaaDoor.LibS.St.perm (st : St w0 K w L) {L' : List It} (h : L.Perm L') : St w0 K w L' :=
  ⟨st.agr, fun it hi => st.ok it (h.mem_iff.2 hi), h.pairwise st.sep (fun h => sep_symm h)⟩
theorem _root_.Go.Proofs.YtjhbpcdaojajdaaDoor.LibS.St.packs (st : St w0 K w (M ++ L)) (hw : ∀ it ∈ M, it.wr = wr) : St w0 K w (pack wr M :: L) := by
  have hp := List.pairwise_append.1 st.sep
  refine ⟨st.agr, fun it hi => ?_, List.pairwise_cons.2 ⟨fun y hy hor b hb hb' => ?_, hp.2.1⟩⟩
  · rcases List.mem_cons.1 hi with rfl | hi
    · refine ⟨⟨fun it hi => ⟨holds_of (st.ok it (List.mem_append_left _ hi)), hw it hi⟩, hp.1⟩, fun b hb => ?_, pack_stable wr M⟩
      obtain ⟨it, hi, hb⟩ := List.mem_flatMap.1 hb
      have hok := st.ok it (List.mem_append_left _ hi)
      exact ⟨It.ok_lt hok b hb, fun h => It.ok_own hok ((hw it hi).trans h) b hb⟩
    · exact st.ok it (List.mem_append_right _ hi)
  · obtain ⟨it, hi, hb⟩ := List.mem_flatMap.1 hb
    refine hp.2.2 it hi y hy ?_ b hb hb'
    rcases hor with h | h
    · exact .inl ((hw it hi).trans h)
    · exact .inr h
theorem _root_.Go.Proofs.YtjhbpcdaojajdaaDoor.LibS.St.unpacks (st : St w0 K w (pack wr M :: L)) : St w0 K w (M ++ L) := by
  have hp := List.pairwise_cons.1 st.sep
  have hok := st.ok _ (List.mem_cons_self)
  have hin : ∀ it ∈ M, ∀ b ∈ it.fp, b ∈ (pack wr M).fp := fun it hi b hb => List.mem_flatMap.2 ⟨it, hi, hb⟩
  refine ⟨st.agr, fun it hi => ?_, List.pairwise_append.2 ⟨hok.1.2, hp.2, fun x hx y hy hor b hb hb' => ?_⟩⟩
  · rcases List.mem_append.1 hi with hi | hi
    · have h1 := hok.1.1 it hi
      exact ok_of h1.1 (fun hw b hb => (hok.2.1 b (hin it hi b hb)).2 (h1.2.symm.trans hw))
    · exact st.ok it (List.mem_cons_of_mem _ hi)
  · refine hp.1 y hy ?_ b (hin x hx b hb) hb'
    rcases hor with h | h
    · exact .inl ((hok.1.1 x hx).2.symm.trans h)
    · exact .inr h
theorem pack_wr (st : St w0 K w (pack wr M :: L)) : ∀ it ∈ M, it.wr = wr := fun it hi => ((st.ok _ (List.mem_cons_self)).1.1 it hi).2
theorem perm_idx {α : Type} : ∀ (M : List α) (k : Nat) (h : k < M.length), M.Perm (M[k] :: M.eraseIdx k)
  | [], k, h => by simp at h
  | x :: M, 0, h => by simp
  | x :: M, k + 1, h => by
    have := perm_idx M k (by simpa using h)
    simp only [List.getElem_cons_succ, List.eraseIdx_cons_succ]
    exact (this.cons x).trans (List.Perm.swap _ _ _)
theorem perm_set {α : Type} : ∀ (M : List α) (k : Nat) (x : α) (h : k < M.length), (M.set k x).Perm (x :: M.eraseIdx k)
  | [], k, x, h => by simp at h
  | y :: M, 0, x, h => by simp
  | y :: M, k + 1, x, h => by
    have := perm_set M k x (by simpa using h)
    simp only [List.set_cons_succ, List.eraseIdx_cons_succ]
    exact (this.cons y).trans (List.Perm.swap _ _ _)
/-- one of many, taken out -/
theorem _root_.Go.Proofs.YtjhbpcdaojajdaaDoor.LibS.St.take (st : St w0 K w (pack wr M :: L)) (k : Nat) {x : It} (hx : M[k]? = some x) : St w0 K w (x :: pack wr (M.eraseIdx k) :: L) := by
  obtain ⟨hk, rfl⟩ := List.getElem?_eq_some_iff.1 hx
  have hw := pack_wr st
  have h1 := st.unpacks.perm ((perm_idx M k hk).append_right L)
  have h2 : St w0 K w (M.eraseIdx k ++ (M[k] :: L)) := h1.perm (List.perm_middle.symm)
  have h3 := h2.packs (wr := wr) (fun it hi => hw it (List.mem_of_mem_eraseIdx hi))
  exact h3.perm (List.Perm.swap _ _ _)
/-- .. and put back, changed -/
theorem _root_.Go.Proofs.YtjhbpcdaojajdaaDoor.LibS.St.back (k : Nat) {x : It} (st : St w0 K w (x :: pack wr (M.eraseIdx k) :: L)) (hk : k < M.length) (hw : x.wr = wr) : St w0 K w (pack wr (M.set k x) :: L) := by
  have h1 : St w0 K w (pack wr (M.eraseIdx k) :: x :: L) := st.perm (List.Perm.swap _ _ _)
  have hwe := pack_wr h1
  have h2 := h1.unpacks.perm (List.perm_middle)
  have h3 : St w0 K w (M.set k x ++ L) := h2.perm (((perm_set M k x hk).symm).append_right L)
  refine h3.packs (fun it hi => ?_)
  rcases List.mem_cons.1 ((perm_set M k x hk).mem_iff.1 hi) with rfl | hi
  · exact hw
  · exact hwe it hi
theorem _root_.Go.Proofs.YtjhbpcdaojajdaaDoor.LibS.St.empty (st : St w0 K w L) (wr : Bool) : St w0 K w (pack wr [] :: L) := St.packs (M := []) st (by simp)
/-- one more among many -/
theorem _root_.Go.Proofs.YtjhbpcdaojajdaaDoor.LibS.St.more {x : It} (st : St w0 K w (x :: pack wr M :: L)) (hw : x.wr = wr) : St w0 K w (pack wr (M ++ [x]) :: L) := by
  have h1 : St w0 K w (pack wr M :: x :: L) := st.perm (List.Perm.swap _ _ _)
  have hwe := pack_wr h1
  have h2 : St w0 K w ((M ++ [x]) ++ L) := by simpa using h1.unpacks
  refine h2.packs (fun it hi => ?_)
  rcases List.mem_append.1 hi with hi | hi
  · exact hwe it hi
  · simp only [List.mem_singleton] at hi; subst hi; exact hw
/-- a look at one of many that are only read -/
theorem _root_.Go.Proofs.YtjhbpcdaojajdaaDoor.LibS.St.look (st : St w0 K w L) (i : Nat) (hi : L[i]? = some (pack false M)) {x : It} (hx : x ∈ M) : St w0 K w (x :: L) := by
  have hok := st.get i hi
  have h1 := hok.1.1 x hx
  exact st.focus i hi rfl h1.2 (ok_of h1.1 (fun h => by rw [h1.2] at h; cases h)) (fun b hb => List.mem_flatMap.2 ⟨x, hx, hb⟩)
/-- what many say, of each -/
theorem pack_all (h : (pack wr M).ok w0 K w) {x : It} (hx : x ∈ M) : holds w x := (h.1.1 x hx).1
theorem pack_ro (h : ∀ it ∈ M, it.ok w0 K w ∧ it.wr = false) : (pack false M).ok w0 K w := by
  refine ⟨⟨fun it hi => ⟨holds_of (h it hi).1, (h it hi).2⟩, List.pairwise_of_forall_mem_list fun x hx y hy hor => ?_⟩, fun b hb => ?_, pack_stable false M⟩
  · rcases hor with h1 | h1
    · rw [(h x hx).2] at h1; cases h1
    · rw [(h y hy).2] at h1; cases h1
  · obtain ⟨it, hi, hb⟩ := List.mem_flatMap.1 hb
    exact ⟨It.ok_lt (h it hi).1 b hb, fun h => by cases h⟩
/-- what a call made, many items -/
theorem _root_.Go.Proofs.YtjhbpcdaojajdaaDoor.LibS.St.made {w' : World} (st : St w0 K w L) (st' : St w [] w' M) (hf : ∀ it ∈ M, it.wr = true) : St w0 K w' (M ++ L) :=
  st.join st' (fun it hi b hb => by
    rcases It.ok_own (st'.ok it hi) (hf it hi) b hb with h | h
    · exact h
    · cases h)
/-- a call that works on some of the items -/
theorem _root_.Go.Proofs.YtjhbpcdaojajdaaDoor.LibS.St.worked {w' : World} {N : List It} (st : St w0 K w (M ++ L)) (st' : St w (wrK M) w' N) (hf : ∀ it ∈ N, it.wr = true) : St w0 K w' (N ++ L) := by
  have hp := List.pairwise_append.1 st.sep
  have hKL : ∀ y ∈ L, ∀ b ∈ y.fp, b ∉ wrK M := fun y hy b hb hm => by
    obtain ⟨x, hx, hw, hb'⟩ := of_wrK hm
    exact hp.2.2 x hx y hy (.inl hw) b hb' hb
  have ownK : ∀ b ∈ wrK M, w0.heap.size ≤ b ∨ b ∈ K := fun b hb => by
    obtain ⟨x, hx, hw, hb'⟩ := of_wrK hb
    exact It.ok_own (st.ok x (List.mem_append_left _ hx)) hw b hb'
  refine ⟨st.agr.then st'.agr (fun b hb => (ownK b hb).symm), fun it hi => ?_, List.pairwise_append.2 ⟨st'.sep, hp.2.1, fun x hx y hy _ b hb hb' => ?_⟩⟩
  · rcases List.mem_append.1 hi with hi | hi
    · have h1 := st'.ok it hi
      refine ok_of (holds_of h1) (fun hw b hb => ?_)
      rcases It.ok_own h1 hw b hb with h2 | h2
      · exact .inl (Nat.le_trans st.agr.size h2)
      · exact ownK b h2
    · exact It.ok_keep (st.ok it (List.mem_append_right _ hi)) st'.agr (hKL it hi)
  · rcases It.ok_own (st'.ok x hx) (hf x hx) b hb with h2 | h2
    · have := It.ok_lt (st.ok y (List.mem_append_right _ hy)) b hb'
      omega
    · exact hKL y hy b hb' h2
end
end Go.Proofs.YtjhbpcdaojajdaaDoor.LibN
