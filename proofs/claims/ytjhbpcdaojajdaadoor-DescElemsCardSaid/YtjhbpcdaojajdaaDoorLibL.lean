/- The law's frame: arguments that come in read behind the call as before where no old block was written; what a slice of whole numbers holds. No program here. -/
import Derived.Test.YtjhbpcdaojajdaaDoorLibD
import Derived.ProofKit
import Derived.SizedLaws
import Derived.Lib.SmallJoins
set_option linter.unusedVariables false
set_option linter.unusedSimpArgs false
namespace Go.Proofs.YtjhbpcdaojajdaaDoor.LibL
open Go.RowKit Go.ChangeShapes Go.WideShapes Go.ChangeAt Go.Joins
section
variable {H : Type} {enc : TypeId × Value → H} {P : Program}
theorem trodAll_below (hl : laidOutB P = true) {W W' : World} (hb : Below W.heap.size W W') : ∀ (ts : List TypeId) (vs : List Value) (ds : List (DataW H)) (ps : List MemPlace),
    (∀ t ∈ ts, P.readableRec t = true ∧ t < P.types.size) → DataW.TrodAll enc P W 0 (fun _ => true) true ts vs ds ps → (∀ x ∈ ps, x.block < W.heap.size) →
    DataW.TrodAll enc P W' 0 (fun b => decide (b < W.heap.size)) true ts vs ds ps
  | [], [], [], ps, _, h, _ => h
  | t :: ts, v :: vs, d :: ds, ps, hr, h, hp => by
    obtain ⟨p, q, h0, h1, rfl⟩ := h
    refine ⟨p, q, ?_, ?_, rfl⟩
    · exact Below.trod hl (hr t (by simp)).1 (hr t (by simp)).2 h0 hb (fun x hx => hp x (by simp [hx]))
    · exact trodAll_below hl hb ts vs ds q (fun t ht => hr t (by simp [ht])) h1 (fun x hx => hp x (by simp [hx]))
  | [], _ :: _, _, _, _, h, _ => h.elim
  | [], [], _ :: _, _, _, h, _ => h.elim
  | _ :: _, [], _, _, _, h, _ => h.elim
  | _ :: _, _ :: _, [], _, _, h, _ => h.elim
/-- A slice of whole numbers that came in. -/
theorem ints_in {t e : TypeId} {k : IntKind} {fuel : Nat} {cs : List Value} {x : DataW H × List MemPlace} {w : World} {base : Nat} (ht : P.underlying t = some (.slice e)) (he : P.underlying e = some (.int k)) (hc : P.cellsOf e = 1)
    (h : DataW.trod enc P w base (fun _ => true) true fuel t cs = some x) :
    ∃ (A : Option Addr) (c : Nat) (xs : List Int), cs = [.slice A xs.length c] ∧ (A = none → c = 0) ∧ xs.length ≤ c ∧ c ≤ maxLen ∧
      (∀ i : Nat, i < xs.length → ∃ b off, A = some ⟨b, off, none⟩ ∧ w.cell? ⟨b, off + i, none⟩ = some (.int k (xs.getD i 0))) ∧ (∀ n ∈ xs, (Lit.int k n).wf = true) ∧
      ((∀ m ∈ x.1.weights P t, m ≤ reachBytes) → c * P.bytesOf e ≤ reachBytes) := by
  rcases open_ints ht he hc h with ⟨rfl, rfl⟩ | ⟨a, len, cap, zs, rfl, hb, hl, hm, hz, rfl, hcell, hwz⟩
  · exact ⟨none, 0, [], rfl, fun _ => rfl, by simp, by simp, fun i hi => absurd hi (by simp), by simp, fun _ => by simp⟩
  · simp only [if_true] at hz
    have hlen : (zs.take len).length = len := by simp; omega
    refine ⟨some a, cap, zs.take len, by rw [hlen], fun h => by simp at h, by omega, hm, ?_, fun n hn => hwz n (List.mem_of_mem_take hn), ?_⟩
    · intro i hi
      rw [hlen] at hi
      obtain ⟨b, off, spot⟩ := a
      have hspot : spot = none := by simpa [Addr.add] using World.cell?_spot (hcell 0 (by omega))
      subst hspot
      refine ⟨b, off, rfl, ?_⟩
      have := hcell i (by omega)
      rw [add_plain] at this
      rw [this]
      simp [List.getElem?_take, hi]
    · intro hw
      have := hw ((zs.take len).length * P.bytesOf e + (zs.drop len).length * P.bytesOf e) (by simp only [DataW.weights, ht, lits, List.length_map, ← Nat.add_mul]; simp)
      rw [← Nat.add_mul] at this
      have e2 : (zs.take len).length + (zs.drop len).length = cap := by simp; omega
      rw [e2] at this
      exact this
/-- The weights of an argument are among those of all. -/
theorem weights_arg {ts : List TypeId} {ds : List (DataW H)} (h : (DataW.weightsEach P ts ds).all (· ≤ reachBytes) = true) {j : Nat} {t : TypeId} {d : DataW H} (ht : ts[j]? = some t) (hd : ds[j]? = some d) :
    ∀ m ∈ d.weights P t, m ≤ reachBytes := fun m hm => by
  have := List.all_eq_true.1 h _ (DataW.weights_mem_each ht hd m hm)
  simpa using this
theorem weights_field {t : TypeId} {fs : Array Field} {parts : List (DataW H)} (ht : P.underlying t = some (.struct fs)) (h : ∀ m ∈ (DataW.agg parts).weights P t, m ≤ reachBytes) {j : Nat} {f : Field} {d : DataW H} (hf : fs[j]? = some f) (hd : parts[j]? = some d) :
    ∀ m ∈ d.weights P f.type, m ≤ reachBytes := fun m hm => h m (by
  simp only [DataW.weights, ht]
  exact DataW.weights_mem_each (by simp [hf]) hd m hm)
end
end Go.Proofs.YtjhbpcdaojajdaaDoor.LibL
