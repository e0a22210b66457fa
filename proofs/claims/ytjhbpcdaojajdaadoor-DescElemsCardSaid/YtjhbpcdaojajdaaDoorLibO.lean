/- What came in, opened: a slice of whatever elements, by a decoder of one element; structs by their cells. No program here. -/
import Derived.Test.YtjhbpcdaojajdaaDoorLibL
import Derived.Deep.Slices
set_option linter.unusedVariables false
set_option linter.unusedSimpArgs false
namespace Go.Proofs.YtjhbpcdaojajdaaDoor.LibO
open Go.RowKit Go.ChangeShapes Go.WideShapes Go.ChangeAt Go.Joins Go.Deep Go.Proofs.YtjhbpcdaojajdaaDoor.LibC
section
variable {H : Type} {enc : TypeId × Value → H} {P : Program} {w : World}
/-- A datum whose weights are all within reach. -/
def Fit (P : Program) (t : TypeId) (d : DataW H) : Prop := ∀ m ∈ d.weights P t, m ≤ reachBytes
theorem mem_weightsAll {e : TypeId} : ∀ {l : List (DataW H)} {d : DataW H} {m : Nat}, d ∈ l → m ∈ d.weights P e → m ∈ DataW.weightsAll P e l
  | x :: r, d, m, hd, hm => by
    simp only [DataW.weightsAll, List.mem_append]
    rcases List.mem_cons.1 hd with rfl | hd
    · exact .inl hm
    · exact .inr (mem_weightsAll hd hm)
theorem fit_field {t : TypeId} {fs : Array Field} {parts : List (DataW H)} (ht : P.underlying t = some (.struct fs)) (h : Fit P t (DataW.agg parts)) {j : Nat} {f : Field} {d : DataW H} (hf : fs[j]? = some f) (hd : parts[j]? = some d) : Fit P f.type d :=
  fun m hm => h m (by simp only [DataW.weights, ht]; exact DataW.weights_mem_each (by simp [hf]) hd m hm)
theorem fit_arg {ts : List TypeId} {ds : List (DataW H)} (h : (DataW.weightsEach P ts ds).all (· ≤ reachBytes) = true) {j : Nat} {t : TypeId} {d : DataW H} (ht : ts[j]? = some t) (hd : ds[j]? = some d) : Fit P t d := fun m hm => by
  have := List.all_eq_true.1 h _ (DataW.weights_mem_each ht hd m hm)
  simpa using this
/-- A slice that came in, by a decoder of its elements. -/
theorem slice_in {E : Type} [Inhabited E] (C : E → List Value) (Φ : E → Prop) {t e : TypeId} {fuel : Nat} {cs : List Value} {x : DataW H × List MemPlace} (ht : P.underlying t = some (.slice e)) (hz : 0 < P.cellsOf e)
    (hdec : ∀ n cs' y, DataW.trod enc P w 0 (fun _ => true) true n e cs' = some y → Fit P e y.1 → ∃ v : E, cs' = C v ∧ Φ v)
    (h : DataW.trod enc P w 0 (fun _ => true) true fuel t cs = some x) (hfit : Fit P t x.1) :
    ∃ (A : Option Addr) (c : Nat) (xs : List E), cs = [.slice A xs.length c] ∧ (A = none → c = 0) ∧ xs.length ≤ c ∧ c ≤ maxLen ∧ c * P.bytesOf e ≤ reachBytes ∧ Els C (P.cellsOf e) w A xs ∧ ∀ v ∈ xs, Φ v := by
  rcases open_slice ht h with ⟨rfl, rfl⟩ | ⟨a, len, cap, m, n, D, Pl, rfl, hb, hl, hm, hmm, rfl, hx⟩
  · exact ⟨none, 0, [], rfl, fun _ => rfl, by simp, by simp, by simp, Els.nil _ _ _ _, by simp⟩
  · simp only [if_true] at hmm
    subst hmm
    have hD : ∀ i, i < m → Fit P e (D i) := fun i hi k hk => by
      refine hfit k ?_
      simp only [DataW.weights, ht, List.mem_cons, List.mem_append]
      right
      by_cases hil : i < len
      · exact .inl (mem_weightsAll (d := D i) (List.mem_map.2 ⟨i, by simpa using hil, rfl⟩) hk)
      · exact .inr (mem_weightsAll (d := D i) (List.mem_map.2 ⟨i - len, by simp; omega, by rw [show len + (i - len) = i from by omega]⟩) hk)
    obtain ⟨V, hV⟩ := choose_lt (α := E) (p := fun i v => w.cells? 0 (a.add (i * P.cellsOf e)) (P.cellsOf e) = some (C v) ∧ Φ v) (fun i hi => by
      obtain ⟨cs', h1, h2⟩ := hx i hi
      obtain ⟨v, rfl, hp⟩ := hdec n cs' _ h2 (hD i hi)
      exact ⟨v, h1, hp⟩)
    have hlen : ((List.range len).map V).length = len := by simp
    refine ⟨some a, m, (List.range len).map V, by rw [hlen], fun h => by simp at h, by rw [hlen]; exact hl, hm, ?_, ?_, ?_⟩
    · have := hfit ((((List.range len).map D).length + ((List.range (m - len)).map fun j => D (len + j)).length) * P.bytesOf e) (by simp [DataW.weights, ht])
      simpa [show len + (m - len) = m from by omega] using this
    · intro i hi
      rw [hlen] at hi
      obtain ⟨b, off, spot⟩ := a
      obtain ⟨h1, hp⟩ := hV i (by omega)
      obtain ⟨_, hcl, hat⟩ := World.cells?_some h1
      have hspot : spot = none := by
        obtain ⟨h10, _⟩ := hV 0 (by omega)
        obtain ⟨_, hcl0, hat0⟩ := World.cells?_some h10
        have h0 := hat0 0 hz
        rw [List.getElem?_eq_getElem (by omega)] at h0
        simpa [Addr.add] using World.cell?_spot h0
      subst hspot
      refine ⟨b, off, rfl, fun j u hu => ?_⟩
      have hu' : (C (V i))[j]? = some u := by simpa using hu
      have hj : j < P.cellsOf e := by have := (List.getElem?_eq_some_iff.1 hu').1; omega
      have h2 := hat j hj
      rw [hu', add_plain] at h2
      rw [← h2, add_plain]
    · intro v hv
      obtain ⟨i, hi, rfl⟩ := List.mem_map.1 hv
      exact (hV i (by have := List.mem_range.1 hi; omega)).2
theorem len1 {α : Type} {l : List α} (h : l.length = 1) : ∃ a, l = [a] := by match l, h with | [a], _ => exact ⟨a, rfl⟩
theorem len2 {α : Type} {l : List α} (h : l.length = 2) : ∃ a b, l = [a, b] := by match l, h with | [a, b], _ => exact ⟨a, b, rfl⟩
theorem len3 {α : Type} {l : List α} (h : l.length = 3) : ∃ a b c, l = [a, b, c] := by match l, h with | [a, b, c], _ => exact ⟨a, b, c, rfl⟩
theorem len4 {α : Type} {l : List α} (h : l.length = 4) : ∃ a b c d, l = [a, b, c, d] := by match l, h with | [a, b, c, d], _ => exact ⟨a, b, c, d, rfl⟩
theorem len5 {α : Type} {l : List α} (h : l.length = 5) : ∃ a b c d e, l = [a, b, c, d, e] := by match l, h with | [a, b, c, d, e], _ => exact ⟨a, b, c, d, e, rfl⟩
theorem len6 {α : Type} {l : List α} (h : l.length = 6) : ∃ a b c d e f, l = [a, b, c, d, e, f] := by match l, h with | [a, b, c, d, e, f], _ => exact ⟨a, b, c, d, e, f, rfl⟩
theorem len7 {α : Type} {l : List α} (h : l.length = 7) : ∃ a b c d e f g, l = [a, b, c, d, e, f, g] := by match l, h with | [a, b, c, d, e, f, g], _ => exact ⟨a, b, c, d, e, f, g, rfl⟩
theorem len8 {α : Type} {l : List α} (h : l.length = 8) : ∃ a b c d e f g i, l = [a, b, c, d, e, f, g, i] := by match l, h with | [a, b, c, d, e, f, g, i], _ => exact ⟨a, b, c, d, e, f, g, i, rfl⟩
/-- A struct's parts: the reading of each field, out of the cells. -/
theorem struct_in {t : TypeId} {fs : Array Field} {fuel : Nat} {cs : List Value} {x : DataW H × List MemPlace} (ht : P.underlying t = some (.struct fs)) (h : DataW.trod enc P w 0 (fun _ => true) true fuel t cs = some x) (hfit : Fit P t x.1) :
    cs.length = P.cellsOf t ∧ ∀ (i : Nat) (f : Field), fs[i]? = some f → ∃ n y, DataW.trod enc P w 0 (fun _ => true) true n f.type ((cs.drop f.offset).take (P.cellsOf f.type)) = some y ∧ Fit P f.type y.1 := by
  obtain ⟨xs, n, _, rfl, hl, hxl, hf⟩ := DataW.trod_struct ht h
  refine ⟨hl, fun i f hi => ?_⟩
  have hil : i < xs.length := by rw [hxl]; exact (Array.getElem?_eq_some_iff.1 hi).1
  have h1 := hf i f hi
  rw [List.getElem?_eq_getElem hil] at h1
  exact ⟨n, _, h1, fit_field ht hfit hi (by rw [List.getElem?_map, List.getElem?_eq_getElem hil]; rfl)⟩
/-- A parameter that is a struct, as its cells. -/
theorem agg_in {t : TypeId} {fs : Array Field} {r : Reach} {b0 : Nat} {v : Value} {d : DataW H} {p : List MemPlace} (ht : P.underlying t = some (.struct fs)) (hv : Value.okWide P w r b0 t v) (h : DataW.Trod enc P w 0 (fun _ => true) true t v d p) (hfit : Fit P t d) :
    ∃ cs : List Value, v = .agg cs.toArray ∧ cs.length = P.cellsOf t ∧ ∀ (i : Nat) (f : Field), fs[i]? = some f → ∃ n y, DataW.trod enc P w 0 (fun _ => true) true n f.type ((cs.drop f.offset).take (P.cellsOf f.type)) = some y ∧ Fit P f.type y.1 := by
  obtain ⟨cs, rfl, hsz⟩ := okWide_struct ht hv
  obtain ⟨fuel, hf⟩ := h
  obtain ⟨h1, h2⟩ := struct_in ht hf hfit
  exact ⟨cs.toList, by simp, by simpa [Value.cells] using h1, by simpa [Value.cells] using h2⟩
theorem string_in {t : TypeId} {fuel : Nat} {cs : List Value} {x : DataW H × List MemPlace} (ht : P.underlying t = some .string) (h : DataW.trod enc P w 0 (fun _ => true) true fuel t cs = some x) (hfit : Fit P t x.1) :
    ∃ s : ByteArray, cs = [.string s] ∧ s.size ≤ reachBytes := by
  obtain ⟨s, rfl, rfl, _⟩ := DataW.trod_string ht h
  have := hfit s.data.toList.length (by simp [DataW.weights])
  exact ⟨s, rfl, by simpa using this⟩
theorem string_arg {t : TypeId} {r : Reach} {b0 : Nat} {v : Value} {d : DataW H} {p : List MemPlace} (ht : P.underlying t = some .string) (hv : Value.okWide P w r b0 t v) (h : DataW.Trod enc P w 0 (fun _ => true) true t v d p) (hfit : Fit P t d) :
    ∃ s : ByteArray, v = .string s ∧ s.size ≤ reachBytes := by
  obtain ⟨fuel, hf⟩ := h
  obtain ⟨s, e, hs⟩ := string_in ht hf hfit
  obtain ⟨s', rfl⟩ : ∃ s', v = .string s' := by
    simp only [Value.okWide, ht] at hv
    cases v <;> simp_all [Cell.okWide, Cell.ok]
  simp [Value.cells] at e
  exact ⟨s', rfl, e ▸ hs⟩
theorem slice_arg {E : Type} [Inhabited E] (C : E → List Value) (Φ : E → Prop) {t e : TypeId} {r : Reach} {b0 : Nat} {v : Value} {d : DataW H} {p : List MemPlace} (ht : P.underlying t = some (.slice e)) (hz : 0 < P.cellsOf e)
    (hdec : ∀ n cs' (y : DataW H × List MemPlace), DataW.trod enc P w 0 (fun _ => true) true n e cs' = some y → Fit P e y.1 → ∃ v : E, cs' = C v ∧ Φ v)
    (hv : Value.okWide P w r b0 t v) (h : DataW.Trod enc P w 0 (fun _ => true) true t v d p) (hfit : Fit P t d) :
    ∃ (A : Option Addr) (c : Nat) (xs : List E), v = .slice A xs.length c ∧ (A = none → c = 0) ∧ xs.length ≤ c ∧ c ≤ maxLen ∧ c * P.bytesOf e ≤ reachBytes ∧ Els C (P.cellsOf e) w A xs ∧ ∀ v ∈ xs, Φ v := by
  obtain ⟨fuel, hf⟩ := h
  obtain ⟨A, c, xs, e1, h0, h1, h2, h3, h4, h5⟩ := slice_in C Φ ht hz hdec hf hfit
  obtain ⟨A', n', c', rfl⟩ : ∃ A' n' c', v = .slice A' n' c' := by
    simp only [Value.okWide, ht] at hv
    cases v <;> simp_all [Cell.okWide, Cell.ok]
  simp only [Value.cells, List.cons.injEq, and_true] at e1
  exact ⟨A, c, xs, by simpa using e1, h0, h1, h2, h3, h4, h5⟩
end
end Go.Proofs.YtjhbpcdaojajdaaDoor.LibO
