import Derived.Test.YtnggnacaghcclaaLibW
import Derived.Test.YtnggnacaghcclaaProg
set_option linter.unusedVariables false
set_option linter.unusedSimpArgs false
namespace Go.Proofs.Ytnggnacaghcclaa.H1
open Go.RowKit Go.Proofs.Ytnggnacaghcclaa.LibA Go.Proofs.Ytnggnacaghcclaa.LibC Go.Proofs.Ytnggnacaghcclaa.LibS Go.Proofs.Ytnggnacaghcclaa.LibR Go.Proofs.Ytnggnacaghcclaa.LibT Go.Proofs.Ytnggnacaghcclaa.LibU Go.Proofs.Ytnggnacaghcclaa.LibV Go.Proofs.Ytnggnacaghcclaa.LibW
def CI (x : Int) : List Value := [.int .i64 x]
theorem CI_len (x : Int) : (CI x).length = 1 := rfl
def CS (x : ByteArray) : List Value := [.string x]
theorem CS_len (x : ByteArray) : (CS x).length = 1 := rfl
abbrev LineD := ByteArray × ByteArray
def lineC (p : LineD) : List Value := [.string p.1, .string p.2]
theorem lineC_len (p : LineD) : (lineC p).length = 2 := rfl
abbrev kS : ByteArray → Value := Value.string
abbrev vN (n : Nat) : Value := .int .i64 ((n : Nat) : Int)
theorem sameS : ∀ a b : ByteArray, Instr.sameNow .string (kS a) (kS b) = some (a == b) := fun _ _ => rfl
def bI : List ByteArray := [{ data := #[106, 97, 118, 97, 47, 108, 97, 110, 103, 47, 79, 98, 106, 101, 99, 116] }, { data := #[106, 97, 118, 97, 47, 108, 97, 110, 103, 47, 84, 104, 114, 111, 119, 97, 98, 108, 101] }, { data := #[106, 97, 118, 97, 47, 108, 97, 110, 103, 47, 65, 114, 105, 116, 104, 109, 101, 116, 105, 99, 69, 120, 99, 101, 112, 116, 105, 111, 110] }, { data := #[106, 97, 118, 97, 47, 108, 97, 110, 103, 47, 78, 117, 108, 108, 80, 111, 105, 110, 116, 101, 114, 69, 120, 99, 101, 112, 116, 105, 111, 110] }, { data := #[106, 97, 118, 97, 47, 108, 97, 110, 103, 47, 65, 114, 114, 97, 121, 73, 110, 100, 101, 120, 79, 117, 116, 79, 102, 66, 111, 117, 110, 100, 115, 69, 120, 99, 101, 112, 116, 105, 111, 110] }, { data := #[106, 97, 118, 97, 47, 108, 97, 110, 103, 47, 78, 101, 103, 97, 116, 105, 118, 101, 65, 114, 114, 97, 121, 83, 105, 122, 101, 69, 120, 99, 101, 112, 116, 105, 111, 110] }, { data := #[106, 97, 118, 97, 47, 108, 97, 110, 103, 47, 67, 108, 97, 115, 115, 67, 97, 115, 116, 69, 120, 99, 101, 112, 116, 105, 111, 110] }, { data := #[106, 97, 118, 97, 47, 108, 97, 110, 103, 47, 65, 114, 114, 97, 121, 83, 116, 111, 114, 101, 69, 120, 99, 101, 112, 116, 105, 111, 110] }]
def bS : List Int := [-1, 0, 1, 1, 1, 1, 1, 1]
/-- the names of the first k lines, behind the built-in ones -/
def nm (l : List LineD) (k : Nat) : List ByteArray := bI ++ (l.take k).map (·.1)
def mL (ns : List ByteArray) : List (ByteArray × Nat) := ns.zipIdx
def sl (l : List LineD) (k : Nat) : List Int := bS ++ (l.take k).map fun (x : LineD) => (((lkp (mL (nm l l.length)) x.2).getD 0 : Nat) : Int)
/-- the i-th above n -/
def itS (ss : List Int) : Nat → Int → Int
  | 0, n => n
  | i + 1, n => ss.getD (itS ss i n).toNat (-1)
def Dup (l : List LineD) : Prop := ∃ (k : Nat) (x : LineD), l[k]? = some x ∧ lkp (mL (nm l k)) x.1 ≠ none
def Miss (l : List LineD) : Prop := ∃ (k : Nat) (x : LineD), l[k]? = some x ∧ lkp (mL (nm l l.length)) x.2 = none
def Cyc (l : List LineD) : Prop := ∃ n : Nat, n < (nm l l.length).length ∧ ∀ i, i ≤ (nm l l.length).length → 0 ≤ itS (sl l l.length) i n
theorem bI_len : bI.length = 8 := rfl
theorem bS_len : bS.length = 8 := rfl
theorem nm_len (l : List LineD) (k : Nat) (h : k ≤ l.length) : (nm l k).length = 8 + k := by simp [nm, bI_len]; omega
theorem sl_len (l : List LineD) (k : Nat) (h : k ≤ l.length) : (sl l k).length = 8 + k := by simp [sl, bS_len]; omega
theorem mL_snoc (ns : List ByteArray) (x : ByteArray) : mL ns ++ [(x, ns.length)] = mL (ns ++ [x]) := by simp [mL, List.zipIdx_append]
theorem take_snoc {E : Type} {l : List E} {k : Nat} (h : k < l.length) : l.take (k + 1) = l.take k ++ [l[k]] := by simp
theorem nm_snoc {l : List LineD} {k : Nat} (h : k < l.length) {p q : ByteArray} (hx : l[k] = (p, q)) : nm l k ++ [p] = nm l (k + 1) := by
  unfold nm
  rw [take_snoc h, List.map_append, hx]
  simp
theorem sl_snoc {l : List LineD} {k : Nat} (h : k < l.length) {p q : ByteArray} (hx : l[k] = (p, q)) {v : Nat} (hv : lkp (mL (nm l l.length)) q = some v) : sl l k ++ [((v : Nat) : Int)] = sl l (k + 1) := by
  unfold sl
  rw [take_snoc h, List.map_append, hx]
  simp [hv]
theorem lkp_mem {κ ν : Type} [BEq κ] {l : List (κ × ν)} {k : κ} {v : ν} (h : lkp l k = some v) : ∃ p ∈ l, p.2 = v := by
  unfold lkp at h
  cases hf : l.find? (fun p => k == p.1) with
  | none => rw [hf] at h; cases h
  | some p =>
    rw [hf] at h
    simp at h
    exact ⟨p, List.mem_of_find?_eq_some hf, h⟩
theorem lkp_lt {ns : List ByteArray} {x : ByteArray} {v : Nat} (h : lkp (mL ns) x = some v) : v < ns.length := by
  obtain ⟨p, hp, rfl⟩ := lkp_mem h
  unfold mL at hp
  rw [List.mem_zipIdx_iff_getElem?] at hp
  exact (List.getElem?_eq_some_iff.1 hp).1
theorem bI_new : ∀ k : Nat, ∀ x, k < 8 → bI[k]? = some x → lkp (mL (bI.take k)) x = none
  | 0, x, _, h => rfl
  | 1, x, _, h => by cases h; kernel_rfl
  | 2, x, _, h => by cases h; kernel_rfl
  | 3, x, _, h => by cases h; kernel_rfl
  | 4, x, _, h => by cases h; kernel_rfl
  | 5, x, _, h => by cases h; kernel_rfl
  | 6, x, _, h => by cases h; kernel_rfl
  | 7, x, _, h => by cases h; kernel_rfl
  | k + 8, x, h, _ => by omega
theorem bI_snoc {k : Nat} {x : ByteArray} (hk : k < 8) (h : bI[k]? = some x) : mL (bI.take k) ++ [(x, k)] = mL (bI.take (k + 1)) := by
  have e : (bI.take k).length = k := by simp [bI_len]; omega
  have := mL_snoc (bI.take k) x
  rw [e] at this
  rw [this]
  congr 1
  rw [take_snoc (by rw [bI_len]; exact hk)]
  rw [List.getElem?_eq_getElem (by rw [bI_len]; exact hk)] at h
  cases h
  rfl
theorem row_cell1 {e base b m c k : Nat} {xs : List ByteArray} {x : ByteArray} {w : World} (h : Row CS 1 e base (.slice (some ⟨b, 0, none⟩) m c) xs w) (hk : xs[k]? = some x) : w.cell? ⟨b, 0 + k * 1, none⟩ = some (.string x) := by
  obtain ⟨hl, rfl⟩ := List.getElem?_eq_some_iff.1 hk
  obtain ⟨b', o', e1, h2⟩ := row_els CS_len h k hl
  cases e1
  exact h2 0 _ rfl
/-- no super is out of range -/
theorem sl_rng (l : List LineD) (hm : ¬ Miss l) : ∀ m : Nat, ∀ h : m < (sl l l.length).length, -1 ≤ (sl l l.length)[m] ∧ (sl l l.length)[m] < (nm l l.length).length := by
  intro m h
  have hx := List.getElem_mem h
  generalize (sl l l.length)[m] = x at hx ⊢
  rw [nm_len l _ (Nat.le_refl _)]
  unfold sl at hx
  rw [List.take_length, List.mem_append, List.mem_map] at hx
  rcases hx with hx | ⟨p, hp, rfl⟩
  · simp only [bS, List.mem_cons, List.not_mem_nil, or_false] at hx
    omega
  · cases hv : lkp (mL (nm l l.length)) p.2 with
    | none =>
      obtain ⟨j, hj, he⟩ := List.mem_iff_getElem.1 hp
      exact absurd ⟨j, p, by rw [List.getElem?_eq_getElem hj, he], hv⟩ hm
    | some v =>
      have := lkp_lt hv
      rw [nm_len l _ (Nat.le_refl _)] at this
      simp
      omega
theorem itS_succ {ss : List Int} {i : Nat} {n : Int} {m : Nat} (h : itS ss i n = (m : Int)) (hm : m < ss.length) {x : Int} (hx : ss[m] = x) : itS ss (i + 1) n = x := by
  show ss.getD (itS ss i n).toNat (-1) = x
  rw [h]
  simp [hm, hx]
/-- what a made hierarchy is -/
def hI (g m : Nat) (A1 A2 : Option Addr) (c1 c2 : Nat) (ns : List ByteArray) (ss : List Int) : List It := [ro g 0 [.slice A1 ns.length c1, .slice A2 ss.length c2, .map (some m)], els CS 1 A1 ns, els CI 1 A2 ss, mapRo kS vN m (mL ns)]
def Made (l : List LineD) (w : World) (e : Ending) (w' : World) : Prop :=
  (64 < l.length ∧ e = .returned (.tuple #[.pointer none, .int .i64 3]) ∧ Agr [] w w') ∨
  (l.length ≤ 64 ∧ Dup l ∧ e = .returned (.tuple #[.pointer none, .int .i64 70]) ∧ Agr [] w w') ∨
  (l.length ≤ 64 ∧ ¬ Dup l ∧ Miss l ∧ e = .returned (.tuple #[.pointer none, .int .i64 71]) ∧ Agr [] w w') ∨
  (l.length ≤ 64 ∧ ¬ Dup l ∧ ¬ Miss l ∧ Cyc l ∧ e = .returned (.tuple #[.pointer none, .int .i64 72]) ∧ Agr [] w w') ∨
  (l.length ≤ 64 ∧ ¬ Dup l ∧ ¬ Miss l ∧ ¬ Cyc l ∧ ∃ g m A1 A2 c1 c2, e = .returned (.tuple #[.pointer (some ⟨g, 0, none⟩), .int .i64 0]) ∧ St w [] w' (hI g m A1 A2 c1 c2 (nm l l.length) (sl l l.length)) ∧ (w.heap.size ≤ g ∧ w.heap.size ≤ m ∧ (∀ a, A1 = some a → w.heap.size ≤ a.block) ∧ (∀ a, A2 = some a → w.heap.size ≤ a.block)))

theorem fa_48_0 {ρ : Operand → Value} {w : World} {dst : Option Tmp} {ty : TypeId} {pos : String} {aft : Array Edge} {gd : Option (Nat × Bool)} {x : Operand} {b o : Nat} (hx : ρ x = .pointer (some ⟨b, o, none⟩)) : (execOp ρ ⟨dst, .fieldAddr 48 x 0, ty, pos, aft, gd⟩).run Try.prog w = .ok (.value (.pointer (some ⟨b, o + 0, none⟩))) w := rn_field hx Try.underlying48 rfl (by kernel_rfl) rfl
theorem fa_48_1 {ρ : Operand → Value} {w : World} {dst : Option Tmp} {ty : TypeId} {pos : String} {aft : Array Edge} {gd : Option (Nat × Bool)} {x : Operand} {b o : Nat} (hx : ρ x = .pointer (some ⟨b, o, none⟩)) : (execOp ρ ⟨dst, .fieldAddr 48 x 1, ty, pos, aft, gd⟩).run Try.prog w = .ok (.value (.pointer (some ⟨b, o + 1, none⟩))) w := rn_field hx Try.underlying48 rfl (by kernel_rfl) rfl
theorem fa_48_2 {ρ : Operand → Value} {w : World} {dst : Option Tmp} {ty : TypeId} {pos : String} {aft : Array Edge} {gd : Option (Nat × Bool)} {x : Operand} {b o : Nat} (hx : ρ x = .pointer (some ⟨b, o, none⟩)) : (execOp ρ ⟨dst, .fieldAddr 48 x 2, ty, pos, aft, gd⟩).run Try.prog w = .ok (.value (.pointer (some ⟨b, o + 2, none⟩))) w := rn_field hx Try.underlying48 rfl (by kernel_rfl) rfl
theorem fa_56_0 {ρ : Operand → Value} {w : World} {dst : Option Tmp} {ty : TypeId} {pos : String} {aft : Array Edge} {gd : Option (Nat × Bool)} {x : Operand} {b o : Nat} (hx : ρ x = .pointer (some ⟨b, o, none⟩)) : (execOp ρ ⟨dst, .fieldAddr 56 x 0, ty, pos, aft, gd⟩).run Try.prog w = .ok (.value (.pointer (some ⟨b, o + 0, none⟩))) w := rn_field hx Try.underlying56 rfl (by kernel_rfl) rfl
theorem fa_56_1 {ρ : Operand → Value} {w : World} {dst : Option Tmp} {ty : TypeId} {pos : String} {aft : Array Edge} {gd : Option (Nat × Bool)} {x : Operand} {b o : Nat} (hx : ρ x = .pointer (some ⟨b, o, none⟩)) : (execOp ρ ⟨dst, .fieldAddr 56 x 1, ty, pos, aft, gd⟩).run Try.prog w = .ok (.value (.pointer (some ⟨b, o + 1, none⟩))) w := rn_field hx Try.underlying56 rfl (by kernel_rfl) rfl
theorem inf_3 : (Try.prog.info? 3).map (fun i => (i.zero, i.size, i.bytes)) = some (some (.int .i64 0), 1, 8) := by kernel_rfl
theorem inf_9 : (Try.prog.info? 9).map (fun i => (i.zero, i.size, i.bytes)) = some (some (.string ByteArray.empty), 1, 16) := by kernel_rfl
theorem sz_3 : (Try.prog.info? 3).map (·.size) = some 1 := by kernel_rfl
theorem sz_9 : (Try.prog.info? 9).map (·.size) = some 1 := by kernel_rfl
theorem sz_43 : (Try.prog.info? 43).map (·.size) = some 1 := by kernel_rfl
theorem sz_45 : (Try.prog.info? 45).map (·.size) = some 1 := by kernel_rfl
theorem sz_46 : (Try.prog.info? 46).map (·.size) = some 1 := by kernel_rfl
theorem sz_56 : (Try.prog.info? 56).map (·.size) = some 2 := by kernel_rfl
theorem zv_3 : ∀ w : World, (zeroValue 3).run Try.prog w = .ok (.int .i64 0) w := fun w => by kernel_rfl
theorem zv_56 : ∀ w : World, (zeroValue 56).run Try.prog w = .ok (.agg #[.string ByteArray.empty, .string ByteArray.empty]) w := fun w => by kernel_rfl
set_option maxHeartbeats 2000000 in
theorem new_calls (l : List LineD) (LA : Option Addr) (lc : Nat) (hl : l.length ≤ 9223372036854775807) (w0 : World) (ha : Els lineC 2 w0 LA l) : Calls Try.prog 7 #[.slice LA l.length lc] w0 (Made l w0) := by
  have st : St w0 [] w0 [els lineC 2 LA l] := (add_ro (start0 w0 []) (by simp [els, It.wr]) rfl (els_ok (C := lineC) (sz := 2) (by decide) (fun x => rfl) ha))
  clear ha
  by_cases hlen : 64 < l.length
  · refine enter Try.func7 rfl Try.ntmps7 (by simp) ?_
    intro a fr
    refine wp_seq ?_
    refine reg ?_
    refine lst rfl (ow_v fr (rn_assign (fr.ev rfl)) rfl rfl ?_)
    intro a fr
    refine lst rfl (ow_v fr (rn_assign (fr.ev rfl)) rfl rfl ?_)
    intro a fr
    refine wpList_nil ?_
    refine then_n ?_
    refine wp_seq ?_
    refine wp_seq ?_
    refine reg ?_
    refine lst rfl (ow_v fr (rn_move (fr.ev rfl)) rfl rfl ?_)
    intro a fr
    refine lst rfl (ow_v fr (rn_len (fr.ev rfl) Try.underlying22) rfl rfl ?_)
    intro a fr
    refine lst rfl (ow_v fr (rn_as (v' := .bool true) (rn_gtr (fr.ev rfl) (fr.ev rfl)) (congrArg Value.bool (decide_eq_true (by omega)))) rfl rfl ?_)
    intro a fr
    refine wpList_nil ?_
    refine then_n ?_
    refine cond_t fr rfl rfl ?_
    refine wp_seq ?_
    refine reg ?_
    refine lst rfl (ow_v fr (rn_assign (fr.ev rfl)) rfl rfl ?_)
    intro a fr
    refine lst rfl (ow_v fr (rn_assign (fr.ev rfl)) rfl rfl ?_)
    intro a fr
    refine wpList_nil ?_
    refine then_n ?_
    refine wp_ret ?_
    refine then_r ?_
    refine ret2 Try.results7 fr (rv_tmp fr rfl) (rv_tmp fr rfl) ?_
    exact .inl ⟨hlen, rfl, st.agr⟩
  · refine enter Try.func7 rfl Try.ntmps7 (by simp) ?_
    intro a fr
    refine wp_seq ?_
    refine reg ?_
    refine lst rfl (ow_v fr (rn_assign (fr.ev rfl)) rfl rfl ?_)
    intro a fr
    refine lst rfl (ow_v fr (rn_assign (fr.ev rfl)) rfl rfl ?_)
    intro a fr
    refine wpList_nil ?_
    refine then_n ?_
    refine wp_seq ?_
    refine wp_seq ?_
    refine reg ?_
    refine lst rfl (ow_v fr (rn_move (fr.ev rfl)) rfl rfl ?_)
    intro a fr
    refine lst rfl (ow_v fr (rn_len (fr.ev rfl) Try.underlying22) rfl rfl ?_)
    intro a fr
    refine lst rfl (ow_v fr (rn_as (v' := .bool false) (rn_gtr (fr.ev rfl) (fr.ev rfl)) (congrArg Value.bool (decide_eq_false (by omega)))) rfl rfl ?_)
    intro a fr
    refine wpList_nil ?_
    refine then_n ?_
    refine cond_f fr rfl rfl ?_
    refine wp_skip ?_
    refine then_n ?_
    refine wp_seq ?_
    refine reg ?_
    refine lst rfl (ow_makeMap (kf := kS) (vf := vN) fr st rfl rfl rfl ?_)
    intro a w b1 fr st
    refine lst rfl (ow_v fr (rn_build (cells := #[.slice none 0 0, .slice none 0 0, (.map (some b1))]) (by simp only [List.map_toArray, List.map_cons, List.map_nil]; rw [fr.ev (x := .tmp 21) rfl]; rfl)) rfl rfl ?_)
    intro a fr
    refine lst rfl (ow_box fr st rfl rfl rfl rfl ([.slice none 0 0, .slice none 0 0, (.map (some b1))]) (by rfl) ?_)
    intro a w b2 fr st
    refine lst rfl (ow_v fr (rn_assign (fr.ev rfl)) rfl rfl ?_)
    intro a fr
    refine wpList_nil ?_
    refine then_n ?_
    refine wp_seq ?_
    refine reg ?_
    refine lst rfl (ow_v fr (rn_move (fr.ev rfl)) rfl rfl ?_)
    intro a fr
    refine lst rfl (ow_bslice (E := 9) fr st rfl [(.string { data := #[106, 97, 118, 97, 47, 108, 97, 110, 103, 47, 79, 98, 106, 101, 99, 116] }), (.string { data := #[106, 97, 118, 97, 47, 108, 97, 110, 103, 47, 84, 104, 114, 111, 119, 97, 98, 108, 101] }), (.string { data := #[106, 97, 118, 97, 47, 108, 97, 110, 103, 47, 65, 114, 105, 116, 104, 109, 101, 116, 105, 99, 69, 120, 99, 101, 112, 116, 105, 111, 110] }), (.string { data := #[106, 97, 118, 97, 47, 108, 97, 110, 103, 47, 78, 117, 108, 108, 80, 111, 105, 110, 116, 101, 114, 69, 120, 99, 101, 112, 116, 105, 111, 110] }), (.string { data := #[106, 97, 118, 97, 47, 108, 97, 110, 103, 47, 65, 114, 114, 97, 121, 73, 110, 100, 101, 120, 79, 117, 116, 79, 102, 66, 111, 117, 110, 100, 115, 69, 120, 99, 101, 112, 116, 105, 111, 110] }), (.string { data := #[106, 97, 118, 97, 47, 108, 97, 110, 103, 47, 78, 101, 103, 97, 116, 105, 118, 101, 65, 114, 114, 97, 121, 83, 105, 122, 101, 69, 120, 99, 101, 112, 116, 105, 111, 110] }), (.string { data := #[106, 97, 118, 97, 47, 108, 97, 110, 103, 47, 67, 108, 97, 115, 115, 67, 97, 115, 116, 69, 120, 99, 101, 112, 116, 105, 111, 110] }), (.string { data := #[106, 97, 118, 97, 47, 108, 97, 110, 103, 47, 65, 114, 114, 97, 121, 83, 116, 111, 114, 101, 69, 120, 99, 101, 112, 116, 105, 111, 110] })] (fun w => by simp only [List.map_toArray, List.map_cons, List.map_nil]; kernel_rfl) rfl rfl ?_)
    intro a w b3 fr st
    refine lst rfl (ow_v fr (rn_nilCheck (fr.ev rfl)) rfl rfl ?_)
    intro a fr
    refine lst rfl (ow_v fr (fa_48_0 (fr.ev rfl)) rfl rfl ?_)
    intro a fr
    refine lst rfl (ow_st fr st 1 rfl rfl rfl rfl sz_45 rfl rfl rfl ?_)
    intro w (st : St _ [] w [.blk b3 [(.string { data := #[106, 97, 118, 97, 47, 108, 97, 110, 103, 47, 79, 98, 106, 101, 99, 116] }), (.string { data := #[106, 97, 118, 97, 47, 108, 97, 110, 103, 47, 84, 104, 114, 111, 119, 97, 98, 108, 101] }), (.string { data := #[106, 97, 118, 97, 47, 108, 97, 110, 103, 47, 65, 114, 105, 116, 104, 109, 101, 116, 105, 99, 69, 120, 99, 101, 112, 116, 105, 111, 110] }), (.string { data := #[106, 97, 118, 97, 47, 108, 97, 110, 103, 47, 78, 117, 108, 108, 80, 111, 105, 110, 116, 101, 114, 69, 120, 99, 101, 112, 116, 105, 111, 110] }), (.string { data := #[106, 97, 118, 97, 47, 108, 97, 110, 103, 47, 65, 114, 114, 97, 121, 73, 110, 100, 101, 120, 79, 117, 116, 79, 102, 66, 111, 117, 110, 100, 115, 69, 120, 99, 101, 112, 116, 105, 111, 110] }), (.string { data := #[106, 97, 118, 97, 47, 108, 97, 110, 103, 47, 78, 101, 103, 97, 116, 105, 118, 101, 65, 114, 114, 97, 121, 83, 105, 122, 101, 69, 120, 99, 101, 112, 116, 105, 111, 110] }), (.string { data := #[106, 97, 118, 97, 47, 108, 97, 110, 103, 47, 67, 108, 97, 115, 115, 67, 97, 115, 116, 69, 120, 99, 101, 112, 116, 105, 111, 110] }), (.string { data := #[106, 97, 118, 97, 47, 108, 97, 110, 103, 47, 65, 114, 114, 97, 121, 83, 116, 111, 114, 101, 69, 120, 99, 101, 112, 116, 105, 111, 110] })] 9, .blk b2 [.slice (some ⟨b3, 0, none⟩) 8 8, .slice none 0 0, (.map (some b1))] 48, mapIt kS vN b1 ([]), els lineC 2 LA l])
    refine wpList_nil ?_
    refine then_n ?_
    refine wp_seq ?_
    have st := st.weaken 0 rfl (it := row CS 1 9 w0.heap.size (.slice (some ⟨b3, 0, none⟩) 8 8) bI) (fun _ => rfl) (fun b hb => by simpa [row, It.fp, Value.ownBlock] using hb) (row_ok (row_of_blk (C := CS) CS_len (st.get 0 rfl) (by rfl) (by rfl) (by decide) ((st.get 0 rfl).1.resolve_right (by simp))) (Nat.le_refl _))
    replace st : St _ [] w [row CS 1 9 w0.heap.size (.slice (some ⟨b3, 0, none⟩) 8 8) bI, .blk b2 [.slice (some ⟨b3, 0, none⟩) 8 8, .slice none 0 0, (.map (some b1))] 48, mapIt kS vN b1 ([]), els lineC 2 LA l] := st
    refine reg ?_
    refine lst rfl (ow_v fr (rn_move (fr.ev rfl)) rfl rfl ?_)
    intro a fr
    refine lst rfl (ow_bslice (E := 3) fr st rfl [.int .i64 (-1), .int .i64 0, .int .i64 1, .int .i64 1, .int .i64 1, .int .i64 1, .int .i64 1, .int .i64 1] (fun w => by simp only [List.map_toArray, List.map_cons, List.map_nil]; kernel_rfl) rfl rfl ?_)
    intro a w b4 fr st
    refine lst rfl (ow_v fr (rn_nilCheck (fr.ev rfl)) rfl rfl ?_)
    intro a fr
    refine lst rfl (ow_v fr (fa_48_1 (fr.ev rfl)) rfl rfl ?_)
    intro a fr
    refine lst rfl (ow_st fr st 2 rfl rfl rfl rfl sz_43 rfl rfl rfl ?_)
    intro w (st : St _ [] w [.blk b4 [.int .i64 (-1), .int .i64 0, .int .i64 1, .int .i64 1, .int .i64 1, .int .i64 1, .int .i64 1, .int .i64 1] 3, row CS 1 9 w0.heap.size (.slice (some ⟨b3, 0, none⟩) 8 8) bI, .blk b2 [.slice (some ⟨b3, 0, none⟩) 8 8, .slice (some ⟨b4, 0, none⟩) 8 8, (.map (some b1))] 48, mapIt kS vN b1 ([]), els lineC 2 LA l])
    refine wpList_nil ?_
    refine then_n ?_
    refine wp_seq ?_
    refine wp_seq ?_
    have st := st.weaken 0 rfl (it := row CI 1 3 w0.heap.size (.slice (some ⟨b4, 0, none⟩) 8 8) bS) (fun _ => rfl) (fun b hb => by simpa [row, It.fp, Value.ownBlock] using hb) (row_ok (row_of_blk (C := CI) CI_len (st.get 0 rfl) (by rfl) (by rfl) (by decide) ((st.get 0 rfl).1.resolve_right (by simp))) (Nat.le_refl _))
    replace st : St _ [] w [row CI 1 3 w0.heap.size (.slice (some ⟨b4, 0, none⟩) 8 8) bS, row CS 1 9 w0.heap.size (.slice (some ⟨b3, 0, none⟩) 8 8) bI, .blk b2 [.slice (some ⟨b3, 0, none⟩) 8 8, .slice (some ⟨b4, 0, none⟩) 8 8, (.map (some b1))] 48, mapIt kS vN b1 ([]), els lineC 2 LA l] := st
    refine reg ?_
    refine lst rfl (ow_v fr (rn_move (fr.ev rfl)) rfl rfl ?_)
    intro a fr
    refine lst rfl (ow_v fr (rn_nilCheck (fr.ev rfl)) rfl rfl ?_)
    intro a fr
    refine lst rfl (ow_v fr (fa_48_0 (fr.ev rfl)) rfl rfl ?_)
    intro a fr
    refine lst rfl (ow_v fr (rn_load (fr.ev rfl) Try.underlying45 rfl (st.cell 2 rfl rfl)) rfl rfl ?_)
    intro a fr
    refine lst rfl (ow_v fr (rn_len (fr.ev rfl) Try.underlying45) rfl rfl ?_)
    intro a fr
    refine lst rfl (ow_v fr (rn_move (fr.ev rfl)) rfl rfl ?_)
    intro a fr
    refine wpList_nil ?_
    refine then_n ?_
    refine wp_block ?_
    have st := st.sub (.cons_cons _ (.cons_cons _ (.cons_cons _ (.cons_cons _ (.cons_cons _ .slnil)))))
    refine wp_loop_ghost (fun mz a w => ∃ (k : Nat), (k ≤ 8) ∧ mz = 8 - k ∧ FrL 147 a [(0, .slice LA l.length lc), (4, .pointer (some ⟨b2, 0, none⟩)), (35, .slice (some ⟨b3, 0, none⟩) 8 8), (36, .int .i64 8), (37, .int .i64 ((k : Nat)))] ∧ St w0 [] w [row CI 1 3 w0.heap.size (.slice (some ⟨b4, 0, none⟩) 8 8) bS, row CS 1 9 w0.heap.size (.slice (some ⟨b3, 0, none⟩) 8 8) bI, .blk b2 [.slice (some ⟨b3, 0, none⟩) 8 8, .slice (some ⟨b4, 0, none⟩) 8 8, (.map (some b1))] 48, mapIt kS vN b1 ((mL (bI.take k))), els lineC 2 LA l]) _ ⟨0, (Nat.zero_le _), rfl, fr.prune ⟨rfl, rfl, rfl, rfl, rfl, trivial⟩, st⟩ ?_
    clear fr st
    intro mz a w hI
    obtain ⟨k, hk, hmz, fr, st⟩ := hI
    by_cases hlt : k < 8
    · obtain ⟨x, hx⟩ : ∃ x, bI[k]? = some x := ⟨_, List.getElem?_eq_getElem (by rw [bI_len]; exact hlt)⟩
      refine wp_seq ?_
      refine reg ?_
      refine lst rfl (ow_v fr (rn_as (v' := .bool true) (rn_lss (fr.ev rfl) (fr.ev rfl)) (congrArg Value.bool (decide_eq_true (by omega)))) rfl rfl ?_)
      intro a fr
      refine wpList_nil ?_
      refine then_n ?_
      refine wp_seq ?_
      refine cond_t fr rfl rfl ?_
      refine wp_skip ?_
      refine then_n ?_
      refine wp_seq ?_
      refine wp_block ?_
      refine wp_seq ?_
      refine reg ?_
      refine lst rfl (ow_v fr (rn_move (fr.ev rfl)) rfl rfl ?_)
      intro a fr
      refine lst rfl (ow_v fr (rn_at (i := k) (fr.ev rfl) (fr.ev rfl) Try.underlying45 sz_9 (by omega) (by rfl)) rfl rfl ?_)
      intro a fr
      refine lst rfl (ow_v fr (rn_load (fr.ev rfl) Try.underlying9 rfl (row_cell1 (st.get 1 rfl).1 hx)) rfl rfl ?_)
      intro a fr
      refine lst rfl (ow_v fr (rn_assign (fr.ev rfl)) rfl rfl ?_)
      intro a fr
      refine lst rfl (ow_v fr (rn_assign (fr.ev rfl)) rfl rfl ?_)
      intro a fr
      refine wpList_nil ?_
      refine then_n ?_
      refine reg ?_
      refine lst rfl (ow_v fr (rn_move (fr.ev rfl)) rfl rfl ?_)
      intro a fr
      refine lst rfl (ow_v fr (rn_nilCheck (fr.ev rfl)) rfl rfl ?_)
      intro a fr
      refine lst rfl (ow_v fr (fa_48_2 (fr.ev rfl)) rfl rfl ?_)
      intro a fr
      refine lst rfl (ow_v fr (rn_load (fr.ev rfl) Try.underlying46 rfl (st.cell 2 rfl rfl)) rfl rfl ?_)
      intro a fr
      refine lst rfl (ow_v fr (rn_move (fr.ev rfl)) rfl rfl ?_)
      intro a fr
      refine lst rfl (ow_v fr (rn_move (fr.ev rfl)) rfl rfl ?_)
      intro a fr
      refine lst rfl (ow_mapnew (kf := kS) (vf := vN) (k := x) (v := k) fr st 3 rfl rfl rfl rfl Try.underlying46 Try.underlying9 sameS (fun e w => by kernel_rfl) rfl (bI_new k x hlt hx) rfl ?_)
      intro w (st : St _ [] w [row CI 1 3 w0.heap.size (.slice (some ⟨b4, 0, none⟩) 8 8) bS, row CS 1 9 w0.heap.size (.slice (some ⟨b3, 0, none⟩) 8 8) bI, .blk b2 [.slice (some ⟨b3, 0, none⟩) 8 8, .slice (some ⟨b4, 0, none⟩) 8 8, (.map (some b1))] 48, mapIt kS vN b1 (((mL (bI.take k)) ++ [(x, k)])), els lineC 2 LA l])
      refine wpList_nil ?_
      refine blk_n ?_
      refine then_n ?_
      refine reg ?_
      refine lst rfl (ow_v fr (rn_add (c := ((k + 1 : Nat) : Int)) (fr.ev rfl) (fr.ev rfl) (wr_i64e (by omega) (by omega) (by omega))) rfl rfl ?_)
      intro a fr
      refine lst rfl (ow_v fr (rn_move (fr.ev rfl)) rfl rfl ?_)
      intro a fr
      refine wpList_nil ?_
      rw [bI_snoc hlt hx] at st
      refine then_n ⟨8 - (k + 1), ?_, k + 1, (by omega), rfl, fr.prune ⟨rfl, rfl, rfl, rfl, rfl, trivial⟩, st.sub (.cons_cons _ (.cons_cons _ (.cons_cons _ (.cons_cons _ (.cons_cons _ .slnil)))))⟩
      omega
    · have hk8 : k = 8 := by omega
      subst hk8
      have e8 : mL (bI.take 8) = mL (nm l 0) := by rw [List.take_of_length_le (by rw [bI_len]; omega)]; simp [nm]
      rw [e8] at st
      refine wp_seq ?_
      refine reg ?_
      refine lst rfl (ow_v fr (rn_as (v' := .bool false) (rn_lss (fr.ev rfl) (fr.ev rfl)) (congrArg Value.bool (decide_eq_false (by omega)))) rfl rfl ?_)
      intro a fr
      refine wpList_nil ?_
      refine then_n ?_
      refine wp_seq ?_
      refine cond_f fr rfl rfl ?_
      refine wp_exit ?_
      refine then_x ?_
      refine then_x ?_
      refine blk_x ?_
      refine then_n ?_
      refine wp_seq ?_
      refine wp_seq ?_
      refine reg ?_
      refine lst rfl (ow_v fr (rn_move (fr.ev rfl)) rfl rfl ?_)
      intro a fr
      refine lst rfl (ow_v fr (rn_len (fr.ev rfl) Try.underlying22) rfl rfl ?_)
      intro a fr
      refine lst rfl (ow_v fr (rn_move (fr.ev rfl)) rfl rfl ?_)
      intro a fr
      refine wpList_nil ?_
      refine then_n ?_
      refine wp_block ?_
      have st := st.sub (.cons_cons _ (.cons_cons _ (.cons_cons _ (.cons_cons _ (.cons_cons _ .slnil)))))
      refine wp_loop_ghost (fun mz a w => ∃ (k : Nat) (A : Option Addr) (c : Nat), (k ≤ l.length) ∧ (∀ (j : Nat) (x : LineD), j < k → l[j]? = some x → lkp (mL (nm l j)) x.1 = none) ∧ mz = l.length - k ∧ FrL 147 a [(0, .slice LA l.length lc), (4, .pointer (some ⟨b2, 0, none⟩)), (49, .slice LA l.length lc), (50, .int .i64 ((l.length : Nat))), (51, .int .i64 ((k : Nat)))] ∧ St w0 [] w [row CI 1 3 w0.heap.size (.slice (some ⟨b4, 0, none⟩) 8 8) bS, row CS 1 9 w0.heap.size (.slice A ((nm l k).length) c) ((nm l k)), .blk b2 [.slice A ((nm l k).length) c, .slice (some ⟨b4, 0, none⟩) 8 8, (.map (some b1))] 48, mapIt kS vN b1 ((mL (nm l k))), els lineC 2 LA l]) _ ⟨0, some ⟨b3, 0, none⟩, 8, (Nat.zero_le _), (fun j x h => absurd h (Nat.not_lt_zero _)), rfl, fr.prune ⟨rfl, rfl, rfl, rfl, rfl, trivial⟩, st⟩ ?_
      clear fr st
      intro mz a w hI
      obtain ⟨k, A, c, hk, hno, hmz, fr, st⟩ := hI
      have hnl := nm_len l k hk
      by_cases hlt : k < l.length
      · obtain ⟨b5, o6, eA, st⟩ := st.elem 4 rfl k hlt (by simp [lineC])
        cases eA
        obtain ⟨p, q, hx_l_p⟩ : ∃ p q, l[k] = (p, q) := ⟨_, _, rfl⟩
        rw [hx_l_p] at st
        replace st : St _ [] w [ro b5 (o6 + k * 2) [(.string p), (.string q)], row CI 1 3 w0.heap.size (.slice (some ⟨b4, 0, none⟩) 8 8) bS, row CS 1 9 w0.heap.size (.slice A ((nm l k).length) c) ((nm l k)), .blk b2 [.slice A ((nm l k).length) c, .slice (some ⟨b4, 0, none⟩) 8 8, (.map (some b1))] 48, mapIt kS vN b1 ((mL (nm l k))), els lineC 2 (some ⟨b5, o6, none⟩) l] := st
        rcases hlk : lkp (mL (nm l k)) p with _ | v
        · refine wp_seq ?_
          refine reg ?_
          refine lst rfl (ow_v fr (rn_as (v' := .bool true) (rn_lss (fr.ev rfl) (fr.ev rfl)) (congrArg Value.bool (decide_eq_true (by omega)))) rfl rfl ?_)
          intro a fr
          refine wpList_nil ?_
          refine then_n ?_
          refine wp_seq ?_
          refine cond_t fr rfl rfl ?_
          refine wp_skip ?_
          refine then_n ?_
          refine wp_seq ?_
          refine wp_block ?_
          refine wp_seq ?_
          refine reg ?_
          refine lst rfl (ow_v fr (rn_at (i := k) (fr.ev rfl) (fr.ev rfl) Try.underlying22 sz_56 (by omega) (by rfl)) rfl rfl ?_)
          intro a fr
          refine lst rfl (ow_v fr (rn_loadN (cs := [(.string p), (.string q)]) (fr.ev rfl) Try.underlying56 rfl sz_56 (st.rorange 0 rfl 0 rfl)) rfl rfl ?_)
          intro a fr
          refine lst rfl (ow_alloc fr st rfl zv_56 rfl rfl _ (by rfl) ?_)
          intro a w b7 fr st
          refine lst rfl (ow_stN fr st 0 (vs := [(.string p), (.string q)]) rfl rfl rfl rfl sz_56 rfl (Nat.le_of_ble_eq_true rfl) rfl ?_)
          intro w (st : St _ [] w [.blk b7 [(.string p), (.string q)] 56, ro b5 (o6 + k * 2) [(.string p), (.string q)], row CI 1 3 w0.heap.size (.slice (some ⟨b4, 0, none⟩) 8 8) bS, row CS 1 9 w0.heap.size (.slice A ((nm l k).length) c) ((nm l k)), .blk b2 [.slice A ((nm l k).length) c, .slice (some ⟨b4, 0, none⟩) 8 8, (.map (some b1))] 48, mapIt kS vN b1 ((mL (nm l k))), els lineC 2 (some ⟨b5, o6, none⟩) l])
          refine wpList_nil ?_
          refine then_n ?_
          refine wp_seq ?_
          refine wp_seq ?_
          refine dr_start (by kernel_rfl) st (.cons_cons _ (.cons_cons _ (.cons_cons _ (.cons_cons _ (.cons_cons _ (.cons_cons _ (.cons_cons _ .slnil))))))) ?_
          intro w st
          refine dr_take 0 rfl (by kernel_rfl) (by kernel_rfl) (by kernel_rfl) (fun _ _ _ h => h) fr rfl (st.sub (.cons_cons _ (.cons_cons _ (.cons_cons _ (.cons_cons _ (.cons_cons _ (.cons_cons _ (.cons_cons _ .slnil)))))))) (fun w st => rn_move (fr.ev rfl)) rfl rfl ?_
          intro a fr
          refine dr_take 1 rfl (by kernel_rfl) (by kernel_rfl) (by kernel_rfl) (fun _ _ _ h => h) fr rfl (st.sub (.cons_cons _ (.cons_cons _ (.cons_cons _ (.cons_cons _ (.cons_cons _ (.cons_cons _ (.cons_cons _ .slnil)))))))) (fun w st => rn_nilCheck (fr.ev rfl)) rfl rfl ?_
          intro a fr
          refine dr_take 2 rfl (by kernel_rfl) (by kernel_rfl) (by kernel_rfl) (fun _ _ _ h => h) fr rfl (st.sub (.cons_cons _ (.cons_cons _ (.cons_cons _ (.cons_cons _ (.cons_cons _ (.cons_cons _ (.cons_cons _ .slnil)))))))) (fun w st => fa_48_2 (fr.ev rfl)) rfl rfl ?_
          intro a fr
          refine dr_take 3 rfl (by kernel_rfl) (by kernel_rfl) (by kernel_rfl) (fun _ _ _ h => h) fr rfl (st.sub (.cons_cons _ (.cons_cons _ (.cons_cons _ (.cons_cons _ (.cons_cons _ (.cons_cons _ (.cons_cons _ .slnil)))))))) (fun w st => rn_load (fr.ev rfl) Try.underlying46 rfl (st.cell 4 rfl rfl)) rfl rfl ?_
          intro a fr
          refine dr_take 4 rfl (by kernel_rfl) (by kernel_rfl) (by kernel_rfl) (fun _ _ _ h => h) fr rfl (st.sub (.cons_cons _ (.cons_cons _ (.cons_cons _ (.cons_cons _ (.cons_cons _ (.cons_cons _ (.cons_cons _ .slnil)))))))) (fun w st => fa_56_0 (fr.ev rfl)) rfl rfl ?_
          intro a fr
          refine dr_take 5 rfl (by kernel_rfl) (by kernel_rfl) (by kernel_rfl) (fun _ _ _ h => h) fr rfl (st.sub (.cons_cons _ (.cons_cons _ (.cons_cons _ (.cons_cons _ (.cons_cons _ (.cons_cons _ (.cons_cons _ .slnil)))))))) (fun w st => rn_load (fr.ev rfl) Try.underlying9 rfl (st.cell 0 rfl rfl)) rfl rfl ?_
          intro a fr
          refine dr_one 6 (by kernel_rfl) rfl rfl (ow_v fr (rn_as (v' := .tuple #[.int .i64 0, .bool false]) (rn_lookup2 (kf := kS) (vf := vN) (k := p) (l := (mL (nm l k))) (fr.ev rfl) (fr.ev rfl) Try.underlying46 Try.underlying9 sameS (fun e w => by kernel_rfl) zv_3 (st.get 5 rfl).1) (by rw [hlk])) rfl rfl ?_)
          intro a fr
          refine ⟨st.sub (.cons_cons _ (.cons_cons _ (.cons_cons _ (.cons_cons _ (.cons_cons _ (.cons_cons _ (.cons_cons _ .slnil))))))), ?_⟩
          refine dr_take 7 rfl (by kernel_rfl) (by kernel_rfl) (by kernel_rfl) (fun _ _ _ h => h) fr rfl (st.sub (.cons_cons _ (.cons_cons _ (.cons_cons _ (.cons_cons _ (.cons_cons _ (.cons_cons _ (.cons_cons _ .slnil)))))))) (fun w st => rn_move (fr.ev rfl)) rfl rfl ?_
          intro a fr
          refine dr_take 8 rfl (by kernel_rfl) (by kernel_rfl) (by kernel_rfl) (fun _ _ _ h => h) fr rfl (st.sub (.cons_cons _ (.cons_cons _ (.cons_cons _ (.cons_cons _ (.cons_cons _ (.cons_cons _ (.cons_cons _ .slnil)))))))) (fun w st => rn_extract (fr.ev rfl) rfl) rfl rfl ?_
          intro a fr
          refine dr_take 9 rfl (by kernel_rfl) (by kernel_rfl) (by kernel_rfl) (fun _ _ _ h => h) fr rfl (st.sub (.cons_cons _ (.cons_cons _ (.cons_cons _ (.cons_cons _ (.cons_cons _ (.cons_cons _ (.cons_cons _ .slnil)))))))) (fun w st => rn_extract (fr.ev rfl) rfl) rfl rfl ?_
          intro a fr
          refine dr_take 10 rfl (by kernel_rfl) (by kernel_rfl) (by kernel_rfl) (fun _ _ _ h => h) fr rfl (st.sub (.cons_cons _ (.cons_cons _ (.cons_cons _ (.cons_cons _ (.cons_cons _ (.cons_cons _ (.cons_cons _ .slnil)))))))) (fun w st => rn_assign (fr.ev rfl)) rfl rfl ?_
          intro a fr
          refine dr_take 11 rfl (by kernel_rfl) (by kernel_rfl) (by kernel_rfl) (fun _ _ _ h => h) fr rfl (st.sub (.cons_cons _ (.cons_cons _ (.cons_cons _ (.cons_cons _ (.cons_cons _ (.cons_cons _ (.cons_cons _ .slnil)))))))) (fun w st => rn_assign (fr.ev rfl)) rfl rfl ?_
          intro a fr
          refine dr_done (by kernel_rfl) ?_
          refine then_n ?_
          refine wp_seq ?_
          refine reg ?_
          refine lst rfl (ow_v fr (rn_move (fr.ev rfl)) rfl rfl ?_)
          intro a fr
          refine wpList_nil ?_
          refine then_n ?_
          refine cond_f fr rfl rfl ?_
          refine wp_skip ?_
          refine then_n ?_
          refine wp_seq ?_
          refine dr_start (by kernel_rfl) st (.cons_cons _ (.cons_cons _ (.cons_cons _ (.cons_cons _ (.cons_cons _ (.cons _ (.cons_cons _ .slnil))))))) ?_
          intro w st
          refine dr_take 0 rfl (by kernel_rfl) (by kernel_rfl) (by kernel_rfl) (fun _ _ _ h => h) fr rfl (st.sub (.cons_cons _ (.cons_cons _ (.cons_cons _ (.cons_cons _ (.cons_cons _ (.cons _ (.cons_cons _ .slnil)))))))) (fun w st => rn_move (fr.ev rfl)) rfl rfl ?_
          intro a fr
          refine dr_take 1 rfl (by kernel_rfl) (by kernel_rfl) (by kernel_rfl) (fun _ _ _ h => h) fr rfl (st.sub (.cons_cons _ (.cons_cons _ (.cons_cons _ (.cons_cons _ (.cons_cons _ (.cons _ (.cons_cons _ .slnil)))))))) (fun w st => rn_nilCheck (fr.ev rfl)) rfl rfl ?_
          intro a fr
          refine dr_take 2 rfl (by kernel_rfl) (by kernel_rfl) (by kernel_rfl) (fun _ _ _ h => h) fr rfl (st.sub (.cons_cons _ (.cons_cons _ (.cons_cons _ (.cons_cons _ (.cons_cons _ (.cons _ (.cons_cons _ .slnil)))))))) (fun w st => fa_48_2 (fr.ev rfl)) rfl rfl ?_
          intro a fr
          refine dr_take 3 rfl (by kernel_rfl) (by kernel_rfl) (by kernel_rfl) (fun _ _ _ h => h) fr rfl (st.sub (.cons_cons _ (.cons_cons _ (.cons_cons _ (.cons_cons _ (.cons_cons _ (.cons _ (.cons_cons _ .slnil)))))))) (fun w st => rn_load (fr.ev rfl) Try.underlying46 rfl (st.cell 4 rfl rfl)) rfl rfl ?_
          intro a fr
          refine dr_take 4 rfl (by kernel_rfl) (by kernel_rfl) (by kernel_rfl) (fun _ _ _ h => h) fr rfl (st.sub (.cons_cons _ (.cons_cons _ (.cons_cons _ (.cons_cons _ (.cons_cons _ (.cons _ (.cons_cons _ .slnil)))))))) (fun w st => fa_56_0 (fr.ev rfl)) rfl rfl ?_
          intro a fr
          refine dr_take 5 rfl (by kernel_rfl) (by kernel_rfl) (by kernel_rfl) (fun _ _ _ h => h) fr rfl (st.sub (.cons_cons _ (.cons_cons _ (.cons_cons _ (.cons_cons _ (.cons_cons _ (.cons _ (.cons_cons _ .slnil)))))))) (fun w st => rn_load (fr.ev rfl) Try.underlying9 rfl (st.cell 0 rfl rfl)) rfl rfl ?_
          intro a fr
          refine dr_take 6 rfl (by kernel_rfl) (by kernel_rfl) (by kernel_rfl) (fun _ _ _ h => h) fr rfl (st.sub (.cons_cons _ (.cons_cons _ (.cons_cons _ (.cons_cons _ (.cons_cons _ (.cons _ (.cons_cons _ .slnil)))))))) (fun w st => rn_move (fr.ev rfl)) rfl rfl ?_
          intro a fr
          refine dr_take 7 rfl (by kernel_rfl) (by kernel_rfl) (by kernel_rfl) (fun _ _ _ h => h) fr rfl (st.sub (.cons_cons _ (.cons_cons _ (.cons_cons _ (.cons_cons _ (.cons_cons _ (.cons _ (.cons_cons _ .slnil)))))))) (fun w st => rn_nilCheck (fr.ev rfl)) rfl rfl ?_
          intro a fr
          refine dr_take 8 rfl (by kernel_rfl) (by kernel_rfl) (by kernel_rfl) (fun _ _ _ h => h) fr rfl (st.sub (.cons_cons _ (.cons_cons _ (.cons_cons _ (.cons_cons _ (.cons_cons _ (.cons _ (.cons_cons _ .slnil)))))))) (fun w st => fa_48_0 (fr.ev rfl)) rfl rfl ?_
          intro a fr
          refine dr_take 9 rfl (by kernel_rfl) (by kernel_rfl) (by kernel_rfl) (fun _ _ _ h => h) fr rfl (st.sub (.cons_cons _ (.cons_cons _ (.cons_cons _ (.cons_cons _ (.cons_cons _ (.cons _ (.cons_cons _ .slnil)))))))) (fun w st => rn_load (fr.ev rfl) Try.underlying45 rfl (st.cell 4 rfl rfl)) rfl rfl ?_
          intro a fr
          refine dr_take 10 rfl (by kernel_rfl) (by kernel_rfl) (by kernel_rfl) (fun _ _ _ h => h) fr rfl (st.sub (.cons_cons _ (.cons_cons _ (.cons_cons _ (.cons_cons _ (.cons_cons _ (.cons _ (.cons_cons _ .slnil)))))))) (fun w st => rn_len (fr.ev rfl) Try.underlying45) rfl rfl ?_
          intro a fr
          refine dr_one 11 (by kernel_rfl) rfl rfl (ow_mapnew (kf := kS) (vf := vN) (k := p) (v := (nm l k).length) fr st 5 rfl rfl rfl rfl Try.underlying46 Try.underlying9 sameS (fun e w => by kernel_rfl) rfl (hlk) rfl ?_)
          intro w (st : St _ [] w [.blk b7 [(.string p), (.string q)] 56, ro b5 (o6 + k * 2) [(.string p), (.string q)], row CI 1 3 w0.heap.size (.slice (some ⟨b4, 0, none⟩) 8 8) bS, row CS 1 9 w0.heap.size (.slice A ((nm l k).length) c) ((nm l k)), .blk b2 [.slice A ((nm l k).length) c, .slice (some ⟨b4, 0, none⟩) 8 8, (.map (some b1))] 48, mapIt kS vN b1 (((mL (nm l k)) ++ [(p, (nm l k).length)])), els lineC 2 (some ⟨b5, o6, none⟩) l])
          refine ⟨st.sub (.cons_cons _ (.cons_cons _ (.cons_cons _ (.cons_cons _ (.cons_cons _ (.cons _ (.cons_cons _ .slnil))))))), ?_⟩
          refine dr_done (by kernel_rfl) ?_
          refine then_n ?_
          refine dr_start (by kernel_rfl) st (.cons_cons _ (.cons_cons _ (.cons_cons _ (.cons _ (.cons _ (.cons_cons _ (.cons_cons _ .slnil))))))) ?_
          intro w st
          refine dr_take 0 rfl (by kernel_rfl) (by kernel_rfl) (by kernel_rfl) (fun _ _ _ h => h) fr rfl (st.sub (.cons_cons _ (.cons_cons _ (.cons_cons _ (.cons _ (.cons _ (.cons_cons _ (.cons_cons _ .slnil)))))))) (fun w st => rn_move (fr.ev rfl)) rfl rfl ?_
          intro a fr
          refine dr_take 1 rfl (by kernel_rfl) (by kernel_rfl) (by kernel_rfl) (fun _ _ _ h => h) fr rfl (st.sub (.cons_cons _ (.cons_cons _ (.cons_cons _ (.cons _ (.cons _ (.cons_cons _ (.cons_cons _ .slnil)))))))) (fun w st => rn_move (fr.ev rfl)) rfl rfl ?_
          intro a fr
          refine dr_take 2 rfl (by kernel_rfl) (by kernel_rfl) (by kernel_rfl) (fun _ _ _ h => h) fr rfl (st.sub (.cons_cons _ (.cons_cons _ (.cons_cons _ (.cons _ (.cons _ (.cons_cons _ (.cons_cons _ .slnil)))))))) (fun w st => rn_nilCheck (fr.ev rfl)) rfl rfl ?_
          intro a fr
          refine dr_take 3 rfl (by kernel_rfl) (by kernel_rfl) (by kernel_rfl) (fun _ _ _ h => h) fr rfl (st.sub (.cons_cons _ (.cons_cons _ (.cons_cons _ (.cons _ (.cons _ (.cons_cons _ (.cons_cons _ .slnil)))))))) (fun w st => fa_48_0 (fr.ev rfl)) rfl rfl ?_
          intro a fr
          refine dr_take 5 rfl (by kernel_rfl) (by kernel_rfl) (by kernel_rfl) (fun _ _ _ h => h) fr rfl (st.sub (.cons_cons _ (.cons_cons _ (.cons_cons _ (.cons _ (.cons _ (.cons_cons _ (.cons_cons _ .slnil)))))))) (fun w st => fa_56_0 (fr.ev rfl)) rfl rfl ?_
          intro a fr
          refine dr_take 6 rfl (by kernel_rfl) (by kernel_rfl) (by kernel_rfl) (fun _ _ _ h => h) fr rfl (st.sub (.cons_cons _ (.cons_cons _ (.cons_cons _ (.cons _ (.cons _ (.cons_cons _ (.cons_cons _ .slnil)))))))) (fun w st => rn_load (fr.ev rfl) Try.underlying9 rfl (st.cell 0 rfl rfl)) rfl rfl ?_
          intro a fr
          refine dr_two 4 7 (by kernel_rfl) rfl rfl rfl rfl ?_ ?_
          · refine ow_v fr (rn_load (fr.ev rfl) Try.underlying45 rfl (st.cell 4 rfl rfl)) rfl rfl ?_
            intro a fr
            refine ⟨st.sub (.cons_cons _ (.cons_cons _ (.cons_cons _ (.cons _ (.cons _ (.cons_cons _ (.cons_cons _ .slnil))))))), ?_⟩
            refine dr_one 7 (by kernel_rfl) rfl rfl (ow_bslice (E := 9) fr st rfl [(.string p)] (fun w => by simp only [List.map_toArray, List.map_cons, List.map_nil]; rw [fr.ev (x := .tmp 83) rfl]; kernel_rfl) rfl rfl ?_)
            intro a w b8 fr st
            refine ⟨st.sub (.cons _ (.cons_cons _ (.cons_cons _ (.cons_cons _ (.cons _ (.cons _ (.cons_cons _ (.cons_cons _ .slnil)))))))), ?_⟩
            refine dr_one 8 (by kernel_rfl) rfl rfl (ow_append1 fr st 4 0 p rfl rfl rfl rfl rfl Try.underlying45 inf_9 (by rfl) (by decide) (fun _ => rfl) rfl (by (simp [bI_len, nm_len l k (by omega)]; omega)) (by unfold maxLen; (simp [bI_len, nm_len l k (by omega)]; omega)) (Nat.le_refl _) st.agr.size rfl rfl ?_)
            intro a w A9 c10 fr (st : St _ [] w [.blk b8 [(.string p)] 9, .blk b7 [(.string p), (.string q)] 56, ro b5 (o6 + k * 2) [(.string p), (.string q)], row CI 1 3 w0.heap.size (.slice (some ⟨b4, 0, none⟩) 8 8) bS, row CS 1 9 w0.heap.size (.slice A9 (((nm l k) ++ [p]).length) c10) (((nm l k) ++ [p])), .blk b2 [.slice A ((nm l k).length) c, .slice (some ⟨b4, 0, none⟩) 8 8, (.map (some b1))] 48, mapIt kS vN b1 (((mL (nm l k)) ++ [(p, (nm l k).length)])), els lineC 2 (some ⟨b5, o6, none⟩) l])
            refine ⟨st.sub (.cons _ (.cons_cons _ (.cons_cons _ (.cons_cons _ (.cons _ (.cons _ (.cons_cons _ (.cons_cons _ .slnil)))))))), ?_⟩
            refine dr_take 9 rfl (by kernel_rfl) (by kernel_rfl) (by kernel_rfl) (fun _ _ _ h => h) fr rfl (st.sub (.cons _ (.cons_cons _ (.cons_cons _ (.cons_cons _ (.cons _ (.cons _ (.cons_cons _ (.cons_cons _ .slnil))))))))) (fun w st => rn_nilCheck (fr.ev rfl)) rfl rfl ?_
            intro a fr
            refine dr_take 10 rfl (by kernel_rfl) (by kernel_rfl) (by kernel_rfl) (fun _ _ _ h => h) fr rfl (st.sub (.cons _ (.cons_cons _ (.cons_cons _ (.cons_cons _ (.cons _ (.cons _ (.cons_cons _ (.cons_cons _ .slnil))))))))) (fun w st => fa_48_0 (fr.ev rfl)) rfl rfl ?_
            intro a fr
            refine dr_one 11 (by kernel_rfl) rfl rfl (ow_st fr st 5 rfl rfl rfl rfl sz_45 rfl rfl rfl ?_)
            intro w (st : St _ [] w [.blk b8 [(.string p)] 9, .blk b7 [(.string p), (.string q)] 56, ro b5 (o6 + k * 2) [(.string p), (.string q)], row CI 1 3 w0.heap.size (.slice (some ⟨b4, 0, none⟩) 8 8) bS, row CS 1 9 w0.heap.size (.slice A9 (((nm l k) ++ [p]).length) c10) (((nm l k) ++ [p])), .blk b2 [.slice A9 (((nm l k) ++ [p]).length) c10, .slice (some ⟨b4, 0, none⟩) 8 8, (.map (some b1))] 48, mapIt kS vN b1 (((mL (nm l k)) ++ [(p, (nm l k).length)])), els lineC 2 (some ⟨b5, o6, none⟩) l])
            refine ⟨st.sub (.cons _ (.cons_cons _ (.cons_cons _ (.cons_cons _ (.cons _ (.cons _ (.cons_cons _ (.cons_cons _ .slnil)))))))), ?_⟩
            refine dr_done (by kernel_rfl) ?_
            refine blk_n ?_
            refine then_n ?_
            refine reg ?_
            refine lst rfl (ow_v fr (rn_add (c := ((k + 1 : Nat) : Int)) (fr.ev rfl) (fr.ev rfl) (wr_i64e (by omega) (by omega) (by omega))) rfl rfl ?_)
            intro a fr
            refine lst rfl (ow_v fr (rn_move (fr.ev rfl)) rfl rfl ?_)
            intro a fr
            refine wpList_nil ?_
            have e1 := mL_snoc (nm l k) p
            have e2 := nm_snoc hlt hx_l_p
            rw [e1, e2] at st
            refine then_n ⟨l.length - (k + 1), ?_, k + 1, A9, c10, (by omega), (fun j x hj h1 => by rcases (by omega : j < k ∨ j = k) with h | rfl; exact hno j x h h1; (rw [List.getElem?_eq_getElem hlt, hx_l_p] at h1; cases h1; exact hlk)), rfl, fr.prune ⟨rfl, rfl, rfl, rfl, rfl, trivial⟩, st.sub (.cons _ (.cons _ (.cons _ (.cons_cons _ (.cons_cons _ (.cons_cons _ (.cons_cons _ (.cons_cons _ .slnil))))))))⟩
            omega
          · refine ow_bslice (E := 9) fr st rfl [(.string p)] (fun w => by simp only [List.map_toArray, List.map_cons, List.map_nil]; rw [fr.ev (x := .tmp 83) rfl]; kernel_rfl) rfl rfl ?_
            intro a w b11 fr st
            refine ⟨st.sub (.cons _ (.cons_cons _ (.cons_cons _ (.cons_cons _ (.cons _ (.cons _ (.cons_cons _ (.cons_cons _ .slnil)))))))), ?_⟩
            refine dr_one 4 (by kernel_rfl) rfl rfl (ow_v fr (rn_load (fr.ev rfl) Try.underlying45 rfl (st.cell 5 rfl rfl)) rfl rfl ?_)
            intro a fr
            refine ⟨st.sub (.cons _ (.cons_cons _ (.cons_cons _ (.cons_cons _ (.cons _ (.cons _ (.cons_cons _ (.cons_cons _ .slnil)))))))), ?_⟩
            refine dr_one 8 (by kernel_rfl) rfl rfl (ow_append1 fr st 4 0 p rfl rfl rfl rfl rfl Try.underlying45 inf_9 (by rfl) (by decide) (fun _ => rfl) rfl (by (simp [bI_len, nm_len l k (by omega)]; omega)) (by unfold maxLen; (simp [bI_len, nm_len l k (by omega)]; omega)) (Nat.le_refl _) st.agr.size rfl rfl ?_)
            intro a w A12 c13 fr (st : St _ [] w [.blk b11 [(.string p)] 9, .blk b7 [(.string p), (.string q)] 56, ro b5 (o6 + k * 2) [(.string p), (.string q)], row CI 1 3 w0.heap.size (.slice (some ⟨b4, 0, none⟩) 8 8) bS, row CS 1 9 w0.heap.size (.slice A12 (((nm l k) ++ [p]).length) c13) (((nm l k) ++ [p])), .blk b2 [.slice A ((nm l k).length) c, .slice (some ⟨b4, 0, none⟩) 8 8, (.map (some b1))] 48, mapIt kS vN b1 (((mL (nm l k)) ++ [(p, (nm l k).length)])), els lineC 2 (some ⟨b5, o6, none⟩) l])
            refine ⟨st.sub (.cons _ (.cons_cons _ (.cons_cons _ (.cons_cons _ (.cons _ (.cons _ (.cons_cons _ (.cons_cons _ .slnil)))))))), ?_⟩
            refine dr_take 9 rfl (by kernel_rfl) (by kernel_rfl) (by kernel_rfl) (fun _ _ _ h => h) fr rfl (st.sub (.cons _ (.cons_cons _ (.cons_cons _ (.cons_cons _ (.cons _ (.cons _ (.cons_cons _ (.cons_cons _ .slnil))))))))) (fun w st => rn_nilCheck (fr.ev rfl)) rfl rfl ?_
            intro a fr
            refine dr_take 10 rfl (by kernel_rfl) (by kernel_rfl) (by kernel_rfl) (fun _ _ _ h => h) fr rfl (st.sub (.cons _ (.cons_cons _ (.cons_cons _ (.cons_cons _ (.cons _ (.cons _ (.cons_cons _ (.cons_cons _ .slnil))))))))) (fun w st => fa_48_0 (fr.ev rfl)) rfl rfl ?_
            intro a fr
            refine dr_one 11 (by kernel_rfl) rfl rfl (ow_st fr st 5 rfl rfl rfl rfl sz_45 rfl rfl rfl ?_)
            intro w (st : St _ [] w [.blk b11 [(.string p)] 9, .blk b7 [(.string p), (.string q)] 56, ro b5 (o6 + k * 2) [(.string p), (.string q)], row CI 1 3 w0.heap.size (.slice (some ⟨b4, 0, none⟩) 8 8) bS, row CS 1 9 w0.heap.size (.slice A12 (((nm l k) ++ [p]).length) c13) (((nm l k) ++ [p])), .blk b2 [.slice A12 (((nm l k) ++ [p]).length) c13, .slice (some ⟨b4, 0, none⟩) 8 8, (.map (some b1))] 48, mapIt kS vN b1 (((mL (nm l k)) ++ [(p, (nm l k).length)])), els lineC 2 (some ⟨b5, o6, none⟩) l])
            refine ⟨st.sub (.cons _ (.cons_cons _ (.cons_cons _ (.cons_cons _ (.cons _ (.cons _ (.cons_cons _ (.cons_cons _ .slnil)))))))), ?_⟩
            refine dr_done (by kernel_rfl) ?_
            refine blk_n ?_
            refine then_n ?_
            refine reg ?_
            refine lst rfl (ow_v fr (rn_add (c := ((k + 1 : Nat) : Int)) (fr.ev rfl) (fr.ev rfl) (wr_i64e (by omega) (by omega) (by omega))) rfl rfl ?_)
            intro a fr
            refine lst rfl (ow_v fr (rn_move (fr.ev rfl)) rfl rfl ?_)
            intro a fr
            refine wpList_nil ?_
            have e1 := mL_snoc (nm l k) p
            have e2 := nm_snoc hlt hx_l_p
            rw [e1, e2] at st
            refine then_n ⟨l.length - (k + 1), ?_, k + 1, A12, c13, (by omega), (fun j x hj h1 => by rcases (by omega : j < k ∨ j = k) with h | rfl; exact hno j x h h1; (rw [List.getElem?_eq_getElem hlt, hx_l_p] at h1; cases h1; exact hlk)), rfl, fr.prune ⟨rfl, rfl, rfl, rfl, rfl, trivial⟩, st.sub (.cons _ (.cons _ (.cons _ (.cons_cons _ (.cons_cons _ (.cons_cons _ (.cons_cons _ (.cons_cons _ .slnil))))))))⟩
            omega
        · have hdup : Dup l := ⟨k, (p, q), by rw [List.getElem?_eq_getElem hlt, hx_l_p], by simp [hlk]⟩
          refine wp_seq ?_
          refine reg ?_
          refine lst rfl (ow_v fr (rn_as (v' := .bool true) (rn_lss (fr.ev rfl) (fr.ev rfl)) (congrArg Value.bool (decide_eq_true (by omega)))) rfl rfl ?_)
          intro a fr
          refine wpList_nil ?_
          refine then_n ?_
          refine wp_seq ?_
          refine cond_t fr rfl rfl ?_
          refine wp_skip ?_
          refine then_n ?_
          refine wp_seq ?_
          refine wp_block ?_
          refine wp_seq ?_
          refine reg ?_
          refine lst rfl (ow_v fr (rn_at (i := k) (fr.ev rfl) (fr.ev rfl) Try.underlying22 sz_56 (by omega) (by rfl)) rfl rfl ?_)
          intro a fr
          refine lst rfl (ow_v fr (rn_loadN (cs := [(.string p), (.string q)]) (fr.ev rfl) Try.underlying56 rfl sz_56 (st.rorange 0 rfl 0 rfl)) rfl rfl ?_)
          intro a fr
          refine lst rfl (ow_alloc fr st rfl zv_56 rfl rfl _ (by rfl) ?_)
          intro a w b14 fr st
          refine lst rfl (ow_stN fr st 0 (vs := [(.string p), (.string q)]) rfl rfl rfl rfl sz_56 rfl (Nat.le_of_ble_eq_true rfl) rfl ?_)
          intro w (st : St _ [] w [.blk b14 [(.string p), (.string q)] 56, ro b5 (o6 + k * 2) [(.string p), (.string q)], row CI 1 3 w0.heap.size (.slice (some ⟨b4, 0, none⟩) 8 8) bS, row CS 1 9 w0.heap.size (.slice A ((nm l k).length) c) ((nm l k)), .blk b2 [.slice A ((nm l k).length) c, .slice (some ⟨b4, 0, none⟩) 8 8, (.map (some b1))] 48, mapIt kS vN b1 ((mL (nm l k))), els lineC 2 (some ⟨b5, o6, none⟩) l])
          refine wpList_nil ?_
          refine then_n ?_
          refine wp_seq ?_
          refine wp_seq ?_
          refine dr_start (by kernel_rfl) st (.cons_cons _ (.cons_cons _ (.cons_cons _ (.cons_cons _ (.cons_cons _ (.cons_cons _ (.cons_cons _ .slnil))))))) ?_
          intro w st
          refine dr_take 0 rfl (by kernel_rfl) (by kernel_rfl) (by kernel_rfl) (fun _ _ _ h => h) fr rfl (st.sub (.cons_cons _ (.cons_cons _ (.cons_cons _ (.cons_cons _ (.cons_cons _ (.cons_cons _ (.cons_cons _ .slnil)))))))) (fun w st => rn_move (fr.ev rfl)) rfl rfl ?_
          intro a fr
          refine dr_take 1 rfl (by kernel_rfl) (by kernel_rfl) (by kernel_rfl) (fun _ _ _ h => h) fr rfl (st.sub (.cons_cons _ (.cons_cons _ (.cons_cons _ (.cons_cons _ (.cons_cons _ (.cons_cons _ (.cons_cons _ .slnil)))))))) (fun w st => rn_nilCheck (fr.ev rfl)) rfl rfl ?_
          intro a fr
          refine dr_take 2 rfl (by kernel_rfl) (by kernel_rfl) (by kernel_rfl) (fun _ _ _ h => h) fr rfl (st.sub (.cons_cons _ (.cons_cons _ (.cons_cons _ (.cons_cons _ (.cons_cons _ (.cons_cons _ (.cons_cons _ .slnil)))))))) (fun w st => fa_48_2 (fr.ev rfl)) rfl rfl ?_
          intro a fr
          refine dr_take 3 rfl (by kernel_rfl) (by kernel_rfl) (by kernel_rfl) (fun _ _ _ h => h) fr rfl (st.sub (.cons_cons _ (.cons_cons _ (.cons_cons _ (.cons_cons _ (.cons_cons _ (.cons_cons _ (.cons_cons _ .slnil)))))))) (fun w st => rn_load (fr.ev rfl) Try.underlying46 rfl (st.cell 4 rfl rfl)) rfl rfl ?_
          intro a fr
          refine dr_take 4 rfl (by kernel_rfl) (by kernel_rfl) (by kernel_rfl) (fun _ _ _ h => h) fr rfl (st.sub (.cons_cons _ (.cons_cons _ (.cons_cons _ (.cons_cons _ (.cons_cons _ (.cons_cons _ (.cons_cons _ .slnil)))))))) (fun w st => fa_56_0 (fr.ev rfl)) rfl rfl ?_
          intro a fr
          refine dr_take 5 rfl (by kernel_rfl) (by kernel_rfl) (by kernel_rfl) (fun _ _ _ h => h) fr rfl (st.sub (.cons_cons _ (.cons_cons _ (.cons_cons _ (.cons_cons _ (.cons_cons _ (.cons_cons _ (.cons_cons _ .slnil)))))))) (fun w st => rn_load (fr.ev rfl) Try.underlying9 rfl (st.cell 0 rfl rfl)) rfl rfl ?_
          intro a fr
          refine dr_one 6 (by kernel_rfl) rfl rfl (ow_v fr (rn_as (v' := .tuple #[.int .i64 ((v : Nat)), .bool true]) (rn_lookup2 (kf := kS) (vf := vN) (k := p) (l := (mL (nm l k))) (fr.ev rfl) (fr.ev rfl) Try.underlying46 Try.underlying9 sameS (fun e w => by kernel_rfl) zv_3 (st.get 5 rfl).1) (by rw [hlk])) rfl rfl ?_)
          intro a fr
          refine ⟨st.sub (.cons_cons _ (.cons_cons _ (.cons_cons _ (.cons_cons _ (.cons_cons _ (.cons_cons _ (.cons_cons _ .slnil))))))), ?_⟩
          refine dr_take 7 rfl (by kernel_rfl) (by kernel_rfl) (by kernel_rfl) (fun _ _ _ h => h) fr rfl (st.sub (.cons_cons _ (.cons_cons _ (.cons_cons _ (.cons_cons _ (.cons_cons _ (.cons_cons _ (.cons_cons _ .slnil)))))))) (fun w st => rn_move (fr.ev rfl)) rfl rfl ?_
          intro a fr
          refine dr_take 8 rfl (by kernel_rfl) (by kernel_rfl) (by kernel_rfl) (fun _ _ _ h => h) fr rfl (st.sub (.cons_cons _ (.cons_cons _ (.cons_cons _ (.cons_cons _ (.cons_cons _ (.cons_cons _ (.cons_cons _ .slnil)))))))) (fun w st => rn_extract (fr.ev rfl) rfl) rfl rfl ?_
          intro a fr
          refine dr_take 9 rfl (by kernel_rfl) (by kernel_rfl) (by kernel_rfl) (fun _ _ _ h => h) fr rfl (st.sub (.cons_cons _ (.cons_cons _ (.cons_cons _ (.cons_cons _ (.cons_cons _ (.cons_cons _ (.cons_cons _ .slnil)))))))) (fun w st => rn_extract (fr.ev rfl) rfl) rfl rfl ?_
          intro a fr
          refine dr_take 10 rfl (by kernel_rfl) (by kernel_rfl) (by kernel_rfl) (fun _ _ _ h => h) fr rfl (st.sub (.cons_cons _ (.cons_cons _ (.cons_cons _ (.cons_cons _ (.cons_cons _ (.cons_cons _ (.cons_cons _ .slnil)))))))) (fun w st => rn_assign (fr.ev rfl)) rfl rfl ?_
          intro a fr
          refine dr_take 11 rfl (by kernel_rfl) (by kernel_rfl) (by kernel_rfl) (fun _ _ _ h => h) fr rfl (st.sub (.cons_cons _ (.cons_cons _ (.cons_cons _ (.cons_cons _ (.cons_cons _ (.cons_cons _ (.cons_cons _ .slnil)))))))) (fun w st => rn_assign (fr.ev rfl)) rfl rfl ?_
          intro a fr
          refine dr_done (by kernel_rfl) ?_
          refine then_n ?_
          refine wp_seq ?_
          refine reg ?_
          refine lst rfl (ow_v fr (rn_move (fr.ev rfl)) rfl rfl ?_)
          intro a fr
          refine wpList_nil ?_
          refine then_n ?_
          refine cond_t fr rfl rfl ?_
          refine wp_seq ?_
          refine reg ?_
          refine lst rfl (ow_v fr (rn_assign (fr.ev rfl)) rfl rfl ?_)
          intro a fr
          refine lst rfl (ow_v fr (rn_assign (fr.ev rfl)) rfl rfl ?_)
          intro a fr
          refine wpList_nil ?_
          refine then_n ?_
          refine wp_ret ?_
          refine then_r ?_
          refine blk_r ?_
          refine then_r ?_
          refine then_r ?_
          refine blk_r ?_
          refine then_r ?_
          refine ret2 Try.results7 fr (rv_tmp fr rfl) (rv_tmp fr rfl) ?_
          exact .inr (.inl ⟨by omega, hdup, rfl, st.agr⟩)
      · have hkl : k = l.length := by omega
        subst hkl
        have hnd : ¬ Dup l := fun ⟨j, x, h1, h2⟩ => h2 (hno j x (List.getElem?_eq_some_iff.1 h1).1 h1)
        refine wp_seq ?_
        refine reg ?_
        refine lst rfl (ow_v fr (rn_as (v' := .bool false) (rn_lss (fr.ev rfl) (fr.ev rfl)) (congrArg Value.bool (decide_eq_false (by omega)))) rfl rfl ?_)
        intro a fr
        refine wpList_nil ?_
        refine then_n ?_
        refine wp_seq ?_
        refine cond_f fr rfl rfl ?_
        refine wp_exit ?_
        refine then_x ?_
        refine then_x ?_
        refine blk_x ?_
        refine then_n ?_
        refine wp_seq ?_
        refine wp_seq ?_
        refine reg ?_
        refine lst rfl (ow_v fr (rn_move (fr.ev rfl)) rfl rfl ?_)
        intro a fr
        refine lst rfl (ow_v fr (rn_len (fr.ev rfl) Try.underlying22) rfl rfl ?_)
        intro a fr
        refine lst rfl (ow_v fr (rn_move (fr.ev rfl)) rfl rfl ?_)
        intro a fr
        refine wpList_nil ?_
        refine then_n ?_
        refine wp_block ?_
        have st := st.sub (.cons_cons _ (.cons_cons _ (.cons_cons _ (.cons_cons _ (.cons_cons _ .slnil)))))
        refine wp_loop_ghost (fun mz a w => ∃ (k : Nat) (B : Option Addr) (d : Nat), (k ≤ l.length) ∧ (∀ (j : Nat) (x : LineD), j < k → l[j]? = some x → lkp (mL (nm l l.length)) x.2 ≠ none) ∧ mz = l.length - k ∧ FrL 147 a [(0, .slice LA l.length lc), (4, .pointer (some ⟨b2, 0, none⟩)), (89, .slice LA l.length lc), (90, .int .i64 ((l.length : Nat))), (91, .int .i64 ((k : Nat)))] ∧ St w0 [] w [row CI 1 3 w0.heap.size (.slice B ((sl l k).length) d) ((sl l k)), row CS 1 9 w0.heap.size (.slice A ((nm l l.length).length) c) ((nm l l.length)), .blk b2 [.slice A ((nm l l.length).length) c, .slice B ((sl l k).length) d, (.map (some b1))] 48, mapIt kS vN b1 ((mL (nm l l.length))), els lineC 2 LA l]) _ ⟨0, some ⟨b4, 0, none⟩, 8, (Nat.zero_le _), (fun j x h => absurd h (Nat.not_lt_zero _)), rfl, fr.prune ⟨rfl, rfl, rfl, rfl, rfl, trivial⟩, st⟩ ?_
        clear fr st
        intro mz a w hI
        obtain ⟨k, B, d, hk, hns, hmz, fr, st⟩ := hI
        have hsl := sl_len l k hk
        by_cases hlt : k < l.length
        · obtain ⟨b15, o16, eA, st⟩ := st.elem 4 rfl k hlt (by simp [lineC])
          cases eA
          obtain ⟨p, q, hx_l_p⟩ : ∃ p q, l[k] = (p, q) := ⟨_, _, rfl⟩
          rw [hx_l_p] at st
          replace st : St _ [] w [ro b15 (o16 + k * 2) [(.string p), (.string q)], row CI 1 3 w0.heap.size (.slice B ((sl l k).length) d) ((sl l k)), row CS 1 9 w0.heap.size (.slice A ((nm l l.length).length) c) ((nm l l.length)), .blk b2 [.slice A ((nm l l.length).length) c, .slice B ((sl l k).length) d, (.map (some b1))] 48, mapIt kS vN b1 ((mL (nm l l.length))), els lineC 2 (some ⟨b15, o16, none⟩) l] := st
          rcases hlk : lkp (mL (nm l l.length)) q with _ | v
          · have hmiss : Miss l := ⟨k, (p, q), by rw [List.getElem?_eq_getElem hlt, hx_l_p], hlk⟩
            refine wp_seq ?_
            refine reg ?_
            refine lst rfl (ow_v fr (rn_as (v' := .bool true) (rn_lss (fr.ev rfl) (fr.ev rfl)) (congrArg Value.bool (decide_eq_true (by omega)))) rfl rfl ?_)
            intro a fr
            refine wpList_nil ?_
            refine then_n ?_
            refine wp_seq ?_
            refine cond_t fr rfl rfl ?_
            refine wp_skip ?_
            refine then_n ?_
            refine wp_seq ?_
            refine wp_block ?_
            refine wp_seq ?_
            refine reg ?_
            refine lst rfl (ow_v fr (rn_at (i := k) (fr.ev rfl) (fr.ev rfl) Try.underlying22 sz_56 (by omega) (by rfl)) rfl rfl ?_)
            intro a fr
            refine lst rfl (ow_v fr (rn_loadN (cs := [(.string p), (.string q)]) (fr.ev rfl) Try.underlying56 rfl sz_56 (st.rorange 0 rfl 0 rfl)) rfl rfl ?_)
            intro a fr
            refine lst rfl (ow_alloc fr st rfl zv_56 rfl rfl _ (by rfl) ?_)
            intro a w b17 fr st
            refine lst rfl (ow_stN fr st 0 (vs := [(.string p), (.string q)]) rfl rfl rfl rfl sz_56 rfl (Nat.le_of_ble_eq_true rfl) rfl ?_)
            intro w (st : St _ [] w [.blk b17 [(.string p), (.string q)] 56, ro b15 (o16 + k * 2) [(.string p), (.string q)], row CI 1 3 w0.heap.size (.slice B ((sl l k).length) d) ((sl l k)), row CS 1 9 w0.heap.size (.slice A ((nm l l.length).length) c) ((nm l l.length)), .blk b2 [.slice A ((nm l l.length).length) c, .slice B ((sl l k).length) d, (.map (some b1))] 48, mapIt kS vN b1 ((mL (nm l l.length))), els lineC 2 (some ⟨b15, o16, none⟩) l])
            refine wpList_nil ?_
            refine then_n ?_
            refine wp_seq ?_
            refine dr_start (by kernel_rfl) st (.cons_cons _ (.cons_cons _ (.cons_cons _ (.cons_cons _ (.cons_cons _ (.cons_cons _ (.cons_cons _ .slnil))))))) ?_
            intro w st
            refine dr_take 0 rfl (by kernel_rfl) (by kernel_rfl) (by kernel_rfl) (fun _ _ _ h => h) fr rfl (st.sub (.cons_cons _ (.cons_cons _ (.cons_cons _ (.cons_cons _ (.cons_cons _ (.cons_cons _ (.cons_cons _ .slnil)))))))) (fun w st => rn_move (fr.ev rfl)) rfl rfl ?_
            intro a fr
            refine dr_take 1 rfl (by kernel_rfl) (by kernel_rfl) (by kernel_rfl) (fun _ _ _ h => h) fr rfl (st.sub (.cons_cons _ (.cons_cons _ (.cons_cons _ (.cons_cons _ (.cons_cons _ (.cons_cons _ (.cons_cons _ .slnil)))))))) (fun w st => rn_nilCheck (fr.ev rfl)) rfl rfl ?_
            intro a fr
            refine dr_take 2 rfl (by kernel_rfl) (by kernel_rfl) (by kernel_rfl) (fun _ _ _ h => h) fr rfl (st.sub (.cons_cons _ (.cons_cons _ (.cons_cons _ (.cons_cons _ (.cons_cons _ (.cons_cons _ (.cons_cons _ .slnil)))))))) (fun w st => fa_48_2 (fr.ev rfl)) rfl rfl ?_
            intro a fr
            refine dr_take 3 rfl (by kernel_rfl) (by kernel_rfl) (by kernel_rfl) (fun _ _ _ h => h) fr rfl (st.sub (.cons_cons _ (.cons_cons _ (.cons_cons _ (.cons_cons _ (.cons_cons _ (.cons_cons _ (.cons_cons _ .slnil)))))))) (fun w st => rn_load (fr.ev rfl) Try.underlying46 rfl (st.cell 4 rfl rfl)) rfl rfl ?_
            intro a fr
            refine dr_take 4 rfl (by kernel_rfl) (by kernel_rfl) (by kernel_rfl) (fun _ _ _ h => h) fr rfl (st.sub (.cons_cons _ (.cons_cons _ (.cons_cons _ (.cons_cons _ (.cons_cons _ (.cons_cons _ (.cons_cons _ .slnil)))))))) (fun w st => fa_56_1 (fr.ev rfl)) rfl rfl ?_
            intro a fr
            refine dr_take 5 rfl (by kernel_rfl) (by kernel_rfl) (by kernel_rfl) (fun _ _ _ h => h) fr rfl (st.sub (.cons_cons _ (.cons_cons _ (.cons_cons _ (.cons_cons _ (.cons_cons _ (.cons_cons _ (.cons_cons _ .slnil)))))))) (fun w st => rn_load (fr.ev rfl) Try.underlying9 rfl (st.cell 0 rfl rfl)) rfl rfl ?_
            intro a fr
            refine dr_one 6 (by kernel_rfl) rfl rfl (ow_v fr (rn_as (v' := .tuple #[.int .i64 0, .bool false]) (rn_lookup2 (kf := kS) (vf := vN) (k := q) (l := (mL (nm l l.length))) (fr.ev rfl) (fr.ev rfl) Try.underlying46 Try.underlying9 sameS (fun e w => by kernel_rfl) zv_3 (st.get 5 rfl).1) (by rw [hlk])) rfl rfl ?_)
            intro a fr
            refine ⟨st.sub (.cons_cons _ (.cons_cons _ (.cons_cons _ (.cons_cons _ (.cons_cons _ (.cons_cons _ (.cons_cons _ .slnil))))))), ?_⟩
            refine dr_take 7 rfl (by kernel_rfl) (by kernel_rfl) (by kernel_rfl) (fun _ _ _ h => h) fr rfl (st.sub (.cons_cons _ (.cons_cons _ (.cons_cons _ (.cons_cons _ (.cons_cons _ (.cons_cons _ (.cons_cons _ .slnil)))))))) (fun w st => rn_move (fr.ev rfl)) rfl rfl ?_
            intro a fr
            refine dr_take 8 rfl (by kernel_rfl) (by kernel_rfl) (by kernel_rfl) (fun _ _ _ h => h) fr rfl (st.sub (.cons_cons _ (.cons_cons _ (.cons_cons _ (.cons_cons _ (.cons_cons _ (.cons_cons _ (.cons_cons _ .slnil)))))))) (fun w st => rn_extract (fr.ev rfl) rfl) rfl rfl ?_
            intro a fr
            refine dr_take 9 rfl (by kernel_rfl) (by kernel_rfl) (by kernel_rfl) (fun _ _ _ h => h) fr rfl (st.sub (.cons_cons _ (.cons_cons _ (.cons_cons _ (.cons_cons _ (.cons_cons _ (.cons_cons _ (.cons_cons _ .slnil)))))))) (fun w st => rn_extract (fr.ev rfl) rfl) rfl rfl ?_
            intro a fr
            refine dr_take 10 rfl (by kernel_rfl) (by kernel_rfl) (by kernel_rfl) (fun _ _ _ h => h) fr rfl (st.sub (.cons_cons _ (.cons_cons _ (.cons_cons _ (.cons_cons _ (.cons_cons _ (.cons_cons _ (.cons_cons _ .slnil)))))))) (fun w st => rn_assign (fr.ev rfl)) rfl rfl ?_
            intro a fr
            refine dr_take 11 rfl (by kernel_rfl) (by kernel_rfl) (by kernel_rfl) (fun _ _ _ h => h) fr rfl (st.sub (.cons_cons _ (.cons_cons _ (.cons_cons _ (.cons_cons _ (.cons_cons _ (.cons_cons _ (.cons_cons _ .slnil)))))))) (fun w st => rn_assign (fr.ev rfl)) rfl rfl ?_
            intro a fr
            refine dr_done (by kernel_rfl) ?_
            refine then_n ?_
            refine wp_seq ?_
            refine wp_seq ?_
            refine reg ?_
            refine lst rfl (ow_v fr (rn_move (fr.ev rfl)) rfl rfl ?_)
            intro a fr
            refine lst rfl (ow_v fr (rn_not (fr.ev rfl)) rfl rfl ?_)
            intro a fr
            refine wpList_nil ?_
            refine then_n ?_
            refine cond_t fr rfl rfl ?_
            refine wp_seq ?_
            refine reg ?_
            refine lst rfl (ow_v fr (rn_assign (fr.ev rfl)) rfl rfl ?_)
            intro a fr
            refine lst rfl (ow_v fr (rn_assign (fr.ev rfl)) rfl rfl ?_)
            intro a fr
            refine wpList_nil ?_
            refine then_n ?_
            refine wp_ret ?_
            refine then_r ?_
            refine blk_r ?_
            refine then_r ?_
            refine then_r ?_
            refine blk_r ?_
            refine then_r ?_
            refine ret2 Try.results7 fr (rv_tmp fr rfl) (rv_tmp fr rfl) ?_
            exact .inr (.inr (.inl ⟨by omega, hnd, hmiss, rfl, st.agr⟩))
          · refine wp_seq ?_
            refine reg ?_
            refine lst rfl (ow_v fr (rn_as (v' := .bool true) (rn_lss (fr.ev rfl) (fr.ev rfl)) (congrArg Value.bool (decide_eq_true (by omega)))) rfl rfl ?_)
            intro a fr
            refine wpList_nil ?_
            refine then_n ?_
            refine wp_seq ?_
            refine cond_t fr rfl rfl ?_
            refine wp_skip ?_
            refine then_n ?_
            refine wp_seq ?_
            refine wp_block ?_
            refine wp_seq ?_
            refine reg ?_
            refine lst rfl (ow_v fr (rn_at (i := k) (fr.ev rfl) (fr.ev rfl) Try.underlying22 sz_56 (by omega) (by rfl)) rfl rfl ?_)
            intro a fr
            refine lst rfl (ow_v fr (rn_loadN (cs := [(.string p), (.string q)]) (fr.ev rfl) Try.underlying56 rfl sz_56 (st.rorange 0 rfl 0 rfl)) rfl rfl ?_)
            intro a fr
            refine lst rfl (ow_alloc fr st rfl zv_56 rfl rfl _ (by rfl) ?_)
            intro a w b18 fr st
            refine lst rfl (ow_stN fr st 0 (vs := [(.string p), (.string q)]) rfl rfl rfl rfl sz_56 rfl (Nat.le_of_ble_eq_true rfl) rfl ?_)
            intro w (st : St _ [] w [.blk b18 [(.string p), (.string q)] 56, ro b15 (o16 + k * 2) [(.string p), (.string q)], row CI 1 3 w0.heap.size (.slice B ((sl l k).length) d) ((sl l k)), row CS 1 9 w0.heap.size (.slice A ((nm l l.length).length) c) ((nm l l.length)), .blk b2 [.slice A ((nm l l.length).length) c, .slice B ((sl l k).length) d, (.map (some b1))] 48, mapIt kS vN b1 ((mL (nm l l.length))), els lineC 2 (some ⟨b15, o16, none⟩) l])
            refine wpList_nil ?_
            refine then_n ?_
            refine wp_seq ?_
            refine dr_start (by kernel_rfl) st (.cons_cons _ (.cons_cons _ (.cons_cons _ (.cons_cons _ (.cons_cons _ (.cons_cons _ (.cons_cons _ .slnil))))))) ?_
            intro w st
            refine dr_take 0 rfl (by kernel_rfl) (by kernel_rfl) (by kernel_rfl) (fun _ _ _ h => h) fr rfl (st.sub (.cons_cons _ (.cons_cons _ (.cons_cons _ (.cons_cons _ (.cons_cons _ (.cons_cons _ (.cons_cons _ .slnil)))))))) (fun w st => rn_move (fr.ev rfl)) rfl rfl ?_
            intro a fr
            refine dr_take 1 rfl (by kernel_rfl) (by kernel_rfl) (by kernel_rfl) (fun _ _ _ h => h) fr rfl (st.sub (.cons_cons _ (.cons_cons _ (.cons_cons _ (.cons_cons _ (.cons_cons _ (.cons_cons _ (.cons_cons _ .slnil)))))))) (fun w st => rn_nilCheck (fr.ev rfl)) rfl rfl ?_
            intro a fr
            refine dr_take 2 rfl (by kernel_rfl) (by kernel_rfl) (by kernel_rfl) (fun _ _ _ h => h) fr rfl (st.sub (.cons_cons _ (.cons_cons _ (.cons_cons _ (.cons_cons _ (.cons_cons _ (.cons_cons _ (.cons_cons _ .slnil)))))))) (fun w st => fa_48_2 (fr.ev rfl)) rfl rfl ?_
            intro a fr
            refine dr_take 3 rfl (by kernel_rfl) (by kernel_rfl) (by kernel_rfl) (fun _ _ _ h => h) fr rfl (st.sub (.cons_cons _ (.cons_cons _ (.cons_cons _ (.cons_cons _ (.cons_cons _ (.cons_cons _ (.cons_cons _ .slnil)))))))) (fun w st => rn_load (fr.ev rfl) Try.underlying46 rfl (st.cell 4 rfl rfl)) rfl rfl ?_
            intro a fr
            refine dr_take 4 rfl (by kernel_rfl) (by kernel_rfl) (by kernel_rfl) (fun _ _ _ h => h) fr rfl (st.sub (.cons_cons _ (.cons_cons _ (.cons_cons _ (.cons_cons _ (.cons_cons _ (.cons_cons _ (.cons_cons _ .slnil)))))))) (fun w st => fa_56_1 (fr.ev rfl)) rfl rfl ?_
            intro a fr
            refine dr_take 5 rfl (by kernel_rfl) (by kernel_rfl) (by kernel_rfl) (fun _ _ _ h => h) fr rfl (st.sub (.cons_cons _ (.cons_cons _ (.cons_cons _ (.cons_cons _ (.cons_cons _ (.cons_cons _ (.cons_cons _ .slnil)))))))) (fun w st => rn_load (fr.ev rfl) Try.underlying9 rfl (st.cell 0 rfl rfl)) rfl rfl ?_
            intro a fr
            refine dr_one 6 (by kernel_rfl) rfl rfl (ow_v fr (rn_as (v' := .tuple #[.int .i64 ((v : Nat)), .bool true]) (rn_lookup2 (kf := kS) (vf := vN) (k := q) (l := (mL (nm l l.length))) (fr.ev rfl) (fr.ev rfl) Try.underlying46 Try.underlying9 sameS (fun e w => by kernel_rfl) zv_3 (st.get 5 rfl).1) (by rw [hlk])) rfl rfl ?_)
            intro a fr
            refine ⟨st.sub (.cons_cons _ (.cons_cons _ (.cons_cons _ (.cons_cons _ (.cons_cons _ (.cons_cons _ (.cons_cons _ .slnil))))))), ?_⟩
            refine dr_take 7 rfl (by kernel_rfl) (by kernel_rfl) (by kernel_rfl) (fun _ _ _ h => h) fr rfl (st.sub (.cons_cons _ (.cons_cons _ (.cons_cons _ (.cons_cons _ (.cons_cons _ (.cons_cons _ (.cons_cons _ .slnil)))))))) (fun w st => rn_move (fr.ev rfl)) rfl rfl ?_
            intro a fr
            refine dr_take 8 rfl (by kernel_rfl) (by kernel_rfl) (by kernel_rfl) (fun _ _ _ h => h) fr rfl (st.sub (.cons_cons _ (.cons_cons _ (.cons_cons _ (.cons_cons _ (.cons_cons _ (.cons_cons _ (.cons_cons _ .slnil)))))))) (fun w st => rn_extract (fr.ev rfl) rfl) rfl rfl ?_
            intro a fr
            refine dr_take 9 rfl (by kernel_rfl) (by kernel_rfl) (by kernel_rfl) (fun _ _ _ h => h) fr rfl (st.sub (.cons_cons _ (.cons_cons _ (.cons_cons _ (.cons_cons _ (.cons_cons _ (.cons_cons _ (.cons_cons _ .slnil)))))))) (fun w st => rn_extract (fr.ev rfl) rfl) rfl rfl ?_
            intro a fr
            refine dr_take 10 rfl (by kernel_rfl) (by kernel_rfl) (by kernel_rfl) (fun _ _ _ h => h) fr rfl (st.sub (.cons_cons _ (.cons_cons _ (.cons_cons _ (.cons_cons _ (.cons_cons _ (.cons_cons _ (.cons_cons _ .slnil)))))))) (fun w st => rn_assign (fr.ev rfl)) rfl rfl ?_
            intro a fr
            refine dr_take 11 rfl (by kernel_rfl) (by kernel_rfl) (by kernel_rfl) (fun _ _ _ h => h) fr rfl (st.sub (.cons_cons _ (.cons_cons _ (.cons_cons _ (.cons_cons _ (.cons_cons _ (.cons_cons _ (.cons_cons _ .slnil)))))))) (fun w st => rn_assign (fr.ev rfl)) rfl rfl ?_
            intro a fr
            refine dr_done (by kernel_rfl) ?_
            refine then_n ?_
            refine wp_seq ?_
            refine wp_seq ?_
            refine reg ?_
            refine lst rfl (ow_v fr (rn_move (fr.ev rfl)) rfl rfl ?_)
            intro a fr
            refine lst rfl (ow_v fr (rn_not (fr.ev rfl)) rfl rfl ?_)
            intro a fr
            refine wpList_nil ?_
            refine then_n ?_
            refine cond_f fr rfl rfl ?_
            refine wp_skip ?_
            refine then_n ?_
            refine reg ?_
            refine lst rfl (ow_v fr (rn_move (fr.ev rfl)) rfl rfl ?_)
            intro a fr
            refine lst rfl (ow_v fr (rn_move (fr.ev rfl)) rfl rfl ?_)
            intro a fr
            refine lst rfl (ow_v fr (rn_nilCheck (fr.ev rfl)) rfl rfl ?_)
            intro a fr
            refine lst rfl (ow_v fr (fa_48_1 (fr.ev rfl)) rfl rfl ?_)
            intro a fr
            refine lst rfl (ow_v fr (rn_load (fr.ev rfl) Try.underlying43 rfl (st.cell 4 rfl rfl)) rfl rfl ?_)
            intro a fr
            refine lst rfl (ow_v fr (rn_move (fr.ev rfl)) rfl rfl ?_)
            intro a fr
            refine lst rfl (ow_bslice (E := 3) fr st rfl [.int .i64 ((v : Nat))] (fun w => by simp only [List.map_toArray, List.map_cons, List.map_nil]; rw [fr.ev (x := .tmp 112) rfl]; kernel_rfl) rfl rfl ?_)
            intro a w b19 fr st
            refine lst rfl (ow_append1 fr st 3 0 ((((v : Nat)) : Int)) rfl rfl rfl rfl rfl Try.underlying43 inf_3 (by rfl) (by decide) (fun _ => rfl) rfl (by (simp [sl_len l k (by omega)]; omega)) (by unfold maxLen; (simp [sl_len l k (by omega)]; omega)) (Nat.le_refl _) st.agr.size rfl rfl ?_)
            intro a w A20 c21 fr (st : St _ [] w [.blk b19 [.int .i64 ((v : Nat))] 3, .blk b18 [(.string p), (.string q)] 56, ro b15 (o16 + k * 2) [(.string p), (.string q)], row CI 1 3 w0.heap.size (.slice A20 (((sl l k) ++ [(((v : Nat)) : Int)]).length) c21) (((sl l k) ++ [(((v : Nat)) : Int)])), row CS 1 9 w0.heap.size (.slice A ((nm l l.length).length) c) ((nm l l.length)), .blk b2 [.slice A ((nm l l.length).length) c, .slice B ((sl l k).length) d, (.map (some b1))] 48, mapIt kS vN b1 ((mL (nm l l.length))), els lineC 2 (some ⟨b15, o16, none⟩) l])
            refine lst rfl (ow_v fr (rn_nilCheck (fr.ev rfl)) rfl rfl ?_)
            intro a fr
            refine lst rfl (ow_v fr (fa_48_1 (fr.ev rfl)) rfl rfl ?_)
            intro a fr
            refine lst rfl (ow_st fr st 5 rfl rfl rfl rfl sz_43 rfl rfl rfl ?_)
            intro w (st : St _ [] w [.blk b19 [.int .i64 ((v : Nat))] 3, .blk b18 [(.string p), (.string q)] 56, ro b15 (o16 + k * 2) [(.string p), (.string q)], row CI 1 3 w0.heap.size (.slice A20 (((sl l k) ++ [(((v : Nat)) : Int)]).length) c21) (((sl l k) ++ [(((v : Nat)) : Int)])), row CS 1 9 w0.heap.size (.slice A ((nm l l.length).length) c) ((nm l l.length)), .blk b2 [.slice A ((nm l l.length).length) c, .slice A20 (((sl l k) ++ [(((v : Nat)) : Int)]).length) c21, (.map (some b1))] 48, mapIt kS vN b1 ((mL (nm l l.length))), els lineC 2 (some ⟨b15, o16, none⟩) l])
            refine wpList_nil ?_
            refine blk_n ?_
            refine then_n ?_
            refine reg ?_
            refine lst rfl (ow_v fr (rn_add (c := ((k + 1 : Nat) : Int)) (fr.ev rfl) (fr.ev rfl) (wr_i64e (by omega) (by omega) (by omega))) rfl rfl ?_)
            intro a fr
            refine lst rfl (ow_v fr (rn_move (fr.ev rfl)) rfl rfl ?_)
            intro a fr
            refine wpList_nil ?_
            have e1 := sl_snoc hlt hx_l_p hlk
            rw [e1] at st
            refine then_n ⟨l.length - (k + 1), ?_, k + 1, A20, c21, (by omega), (fun j x hj h1 => by rcases (by omega : j < k ∨ j = k) with h | rfl; exact hns j x h h1; (rw [List.getElem?_eq_getElem hlt, hx_l_p] at h1; cases h1; simp [hlk])), rfl, fr.prune ⟨rfl, rfl, rfl, rfl, rfl, trivial⟩, st.sub (.cons _ (.cons _ (.cons _ (.cons_cons _ (.cons_cons _ (.cons_cons _ (.cons_cons _ (.cons_cons _ .slnil))))))))⟩
            omega
        · have hkl : k = l.length := by omega
          subst hkl
          have hnm : ¬ Miss l := fun ⟨j, x, h1, h2⟩ => hns j x (List.getElem?_eq_some_iff.1 h1).1 h1 h2
          refine wp_seq ?_
          refine reg ?_
          refine lst rfl (ow_v fr (rn_as (v' := .bool false) (rn_lss (fr.ev rfl) (fr.ev rfl)) (congrArg Value.bool (decide_eq_false (by omega)))) rfl rfl ?_)
          intro a fr
          refine wpList_nil ?_
          refine then_n ?_
          refine wp_seq ?_
          refine cond_f fr rfl rfl ?_
          refine wp_exit ?_
          refine then_x ?_
          refine then_x ?_
          refine blk_x ?_
          refine then_n ?_
          refine wp_seq ?_
          refine wp_seq ?_
          refine reg ?_
          refine lst rfl (ow_v fr (rn_move (fr.ev rfl)) rfl rfl ?_)
          intro a fr
          refine lst rfl (ow_v fr (rn_nilCheck (fr.ev rfl)) rfl rfl ?_)
          intro a fr
          refine lst rfl (ow_v fr (fa_48_0 (fr.ev rfl)) rfl rfl ?_)
          intro a fr
          refine lst rfl (ow_v fr (rn_load (fr.ev rfl) Try.underlying45 rfl (st.cell 2 rfl rfl)) rfl rfl ?_)
          intro a fr
          refine lst rfl (ow_v fr (rn_len (fr.ev rfl) Try.underlying45) rfl rfl ?_)
          intro a fr
          refine lst rfl (ow_v fr (rn_move (fr.ev rfl)) rfl rfl ?_)
          intro a fr
          refine wpList_nil ?_
          refine then_n ?_
          refine wp_block ?_
          have st := st.sub (.cons_cons _ (.cons_cons _ (.cons_cons _ (.cons_cons _ (.cons_cons _ .slnil)))))
          have hnl := nm_len l l.length (Nat.le_refl _)
          have hsl := sl_len l l.length (Nat.le_refl _)
          have hrng := sl_rng l hnm
          have hA1 := row_base (st.get 1 rfl).1
          have hA2 := row_base (st.get 0 rfl).1
          have st := st.weaken 0 rfl (it := els CI 1 B (sl l l.length)) (fun h => by cases h) (elsFp_row) (els_of_row (by decide) CI_len (st.get 0 rfl))
          replace st : St _ [] w [els CI 1 B (sl l l.length), row CS 1 9 w0.heap.size (.slice A ((nm l l.length).length) c) ((nm l l.length)), .blk b2 [.slice A ((nm l l.length).length) c, .slice B ((sl l l.length).length) d, (.map (some b1))] 48, mapIt kS vN b1 ((mL (nm l l.length))), els lineC 2 LA l] := st
          refine wp_loop_ghost (fun mz a w => ∃ (n : Nat), (n ≤ (nm l l.length).length) ∧ (∀ j : Nat, j < n → ∃ i, i ≤ (nm l l.length).length ∧ itS (sl l l.length) i j < 0) ∧ mz = (nm l l.length).length - n ∧ FrL 147 a [(0, .slice LA l.length lc), (4, .pointer (some ⟨b2, 0, none⟩)), (122, .int .i64 (((nm l l.length).length : Nat))), (123, .int .i64 ((n : Nat)))] ∧ St w0 [] w [els CI 1 B (sl l l.length), row CS 1 9 w0.heap.size (.slice A ((nm l l.length).length) c) ((nm l l.length)), .blk b2 [.slice A ((nm l l.length).length) c, .slice B ((sl l l.length).length) d, (.map (some b1))] 48, mapIt kS vN b1 ((mL (nm l l.length))), els lineC 2 LA l]) _ ⟨0, (Nat.zero_le _), (fun j h => absurd h (Nat.not_lt_zero _)), rfl, fr.prune ⟨rfl, rfl, rfl, rfl, trivial⟩, st⟩ ?_
          clear fr st
          intro mz a w hI
          obtain ⟨n, hn, hok, hmz, fr, st⟩ := hI
          by_cases hlt : n < (nm l l.length).length
          · refine wp_seq ?_
            refine reg ?_
            refine lst rfl (ow_v fr (rn_as (v' := .bool true) (rn_lss (fr.ev rfl) (fr.ev rfl)) (congrArg Value.bool (decide_eq_true (by omega)))) rfl rfl ?_)
            intro a fr
            refine wpList_nil ?_
            refine then_n ?_
            refine wp_seq ?_
            refine cond_t fr rfl rfl ?_
            refine wp_skip ?_
            refine then_n ?_
            refine wp_seq ?_
            refine wp_block ?_
            refine wp_seq ?_
            refine reg ?_
            refine lst rfl (ow_v fr (rn_move (fr.ev rfl)) rfl rfl ?_)
            intro a fr
            refine lst rfl (ow_v fr (rn_assign (fr.ev rfl)) rfl rfl ?_)
            intro a fr
            refine wpList_nil ?_
            refine then_n ?_
            refine wp_seq ?_
            refine reg ?_
            refine lst rfl (ow_v fr (rn_assign (fr.ev rfl)) rfl rfl ?_)
            intro a fr
            refine wpList_nil ?_
            refine then_n ?_
            refine wp_seq ?_
            refine reg ?_
            refine lst rfl (ow_v fr (rn_move (fr.ev rfl)) rfl rfl ?_)
            intro a fr
            refine lst rfl (ow_v fr (rn_assign (fr.ev rfl)) rfl rfl ?_)
            intro a fr
            refine wpList_nil ?_
            refine then_n ?_
            refine wp_block ?_
            refine wp_loop_ghost (fun mz a w => ∃ (i : Nat) (cc : Int), (i ≤ (nm l l.length).length) ∧ (itS (sl l l.length) i n = cc) ∧ (cc < (nm l l.length).length) ∧ (∀ j : Nat, j < i → 0 ≤ itS (sl l l.length) j n) ∧ mz = (nm l l.length).length + 1 - i ∧ FrL 147 a [(0, .slice LA l.length lc), (4, .pointer (some ⟨b2, 0, none⟩)), (16, .int .i64 ((i : Nat))), (17, .int .i64 (cc)), (122, .int .i64 (((nm l l.length).length : Nat))), (123, .int .i64 ((n : Nat)))] ∧ St w0 [] w [els CI 1 B (sl l l.length), row CS 1 9 w0.heap.size (.slice A ((nm l l.length).length) c) ((nm l l.length)), .blk b2 [.slice A ((nm l l.length).length) c, .slice B ((sl l l.length).length) d, (.map (some b1))] 48, mapIt kS vN b1 ((mL (nm l l.length))), els lineC 2 LA l]) _ ⟨0, n, (Nat.zero_le _), (rfl), (by omega), (fun j h => absurd h (Nat.not_lt_zero _)), rfl, fr.prune ⟨rfl, rfl, rfl, rfl, rfl, rfl, trivial⟩, st⟩ ?_
            clear fr st
            intro mz a w hI
            obtain ⟨i, cc, hi, hc, hcl, hpos, hmz, fr, st⟩ := hI
            by_cases hneg : cc < 0
            · refine wp_seq ?_
              refine wp_seq ?_
              refine reg ?_
              refine lst rfl (ow_v fr (rn_move (fr.ev rfl)) rfl rfl ?_)
              intro a fr
              refine lst rfl (ow_v fr (rn_as (v' := .bool false) (rn_geq (fr.ev rfl) (fr.ev rfl)) (congrArg Value.bool (decide_eq_false (by omega)))) rfl rfl ?_)
              intro a fr
              refine wpList_nil ?_
              refine then_n ?_
              refine cond_f fr rfl rfl ?_
              refine wp_exit ?_
              refine then_x ?_
              refine then_x ?_
              refine blk_x ?_
              refine blk_n ?_
              refine then_n ?_
              refine reg ?_
              refine lst rfl (ow_v fr (rn_add (c := ((n + 1 : Nat) : Int)) (fr.ev rfl) (fr.ev rfl) (wr_i64e (by omega) (by omega) (by omega))) rfl rfl ?_)
              intro a fr
              refine lst rfl (ow_v fr (rn_move (fr.ev rfl)) rfl rfl ?_)
              intro a fr
              refine wpList_nil ?_
              refine then_n ⟨(nm l l.length).length - (n + 1), ?_, n + 1, (by omega), (fun j hj => by rcases (by omega : j < n ∨ j = n) with h | rfl; exact hok j h; exact ⟨i, by omega, hc ▸ hneg⟩), rfl, fr.prune ⟨rfl, rfl, rfl, rfl, trivial⟩, st.sub (.cons_cons _ (.cons_cons _ (.cons_cons _ (.cons_cons _ (.cons_cons _ .slnil)))))⟩
              omega
            · obtain ⟨m, rfl⟩ := Int.eq_ofNat_of_zero_le (by omega : 0 ≤ cc)
              have hpos1 : ∀ j : Nat, j ≤ i → 0 ≤ itS (sl l l.length) j n := fun j hj => by rcases (by omega : j < i ∨ j = i) with h | rfl; exact hpos j h; rw [hc]; omega
              by_cases hst : (nm l l.length).length < i + 1
              · have hcyc : Cyc l := ⟨n, hlt, fun j hj => hpos1 j (by omega)⟩
                refine wp_seq ?_
                refine wp_seq ?_
                refine reg ?_
                refine lst rfl (ow_v fr (rn_move (fr.ev rfl)) rfl rfl ?_)
                intro a fr
                refine lst rfl (ow_v fr (rn_as (v' := .bool true) (rn_geq (fr.ev rfl) (fr.ev rfl)) (congrArg Value.bool (decide_eq_true (by omega)))) rfl rfl ?_)
                intro a fr
                refine wpList_nil ?_
                refine then_n ?_
                refine cond_t fr rfl rfl ?_
                refine wp_skip ?_
                refine then_n ?_
                refine wp_seq ?_
                refine wp_block ?_
                refine wp_seq ?_
                refine reg ?_
                refine lst rfl (ow_v fr (rn_move (fr.ev rfl)) rfl rfl ?_)
                intro a fr
                refine lst rfl (ow_v fr (rn_add (c := ((i + 1 : Nat) : Int)) (fr.ev rfl) (fr.ev rfl) (wr_i64e (by omega) (by omega) (by omega))) rfl rfl ?_)
                intro a fr
                refine lst rfl (ow_v fr (rn_assign (fr.ev rfl)) rfl rfl ?_)
                intro a fr
                refine wpList_nil ?_
                refine then_n ?_
                refine wp_seq ?_
                refine reg ?_
                refine lst rfl (ow_v fr (rn_move (fr.ev rfl)) rfl rfl ?_)
                intro a fr
                refine lst rfl (ow_v fr (rn_move (fr.ev rfl)) rfl rfl ?_)
                intro a fr
                refine lst rfl (ow_v fr (rn_nilCheck (fr.ev rfl)) rfl rfl ?_)
                intro a fr
                refine lst rfl (ow_v fr (fa_48_0 (fr.ev rfl)) rfl rfl ?_)
                intro a fr
                refine lst rfl (ow_v fr (rn_load (fr.ev rfl) Try.underlying45 rfl (st.cell 2 rfl rfl)) rfl rfl ?_)
                intro a fr
                refine lst rfl (ow_v fr (rn_len (fr.ev rfl) Try.underlying45) rfl rfl ?_)
                intro a fr
                refine lst rfl (ow_v fr (rn_as (v' := .bool true) (rn_gtr (fr.ev rfl) (fr.ev rfl)) (congrArg Value.bool (decide_eq_true (by omega)))) rfl rfl ?_)
                intro a fr
                refine wpList_nil ?_
                refine then_n ?_
                refine cond_t fr rfl rfl ?_
                refine wp_seq ?_
                refine reg ?_
                refine lst rfl (ow_v fr (rn_assign (fr.ev rfl)) rfl rfl ?_)
                intro a fr
                refine lst rfl (ow_v fr (rn_assign (fr.ev rfl)) rfl rfl ?_)
                intro a fr
                refine wpList_nil ?_
                refine then_n ?_
                refine wp_ret ?_
                refine blk_r ?_
                refine then_r ?_
                refine then_r ?_
                refine blk_r ?_
                refine blk_r ?_
                refine then_r ?_
                refine then_r ?_
                refine blk_r ?_
                refine then_r ?_
                refine ret2 Try.results7 fr (rv_tmp fr rfl) (rv_tmp fr rfl) ?_
                exact .inr (.inr (.inr (.inl ⟨by omega, hnd, hnm, hcyc, rfl, st.agr⟩)))
              · obtain ⟨b22, o23, eA, st⟩ := st.elem 0 rfl m (by omega) (by simp [CI])
                cases eA
                obtain ⟨x, hxx⟩ : ∃ x, (sl l l.length)[m] = x := ⟨_, rfl⟩
                rw [hxx] at st
                replace st : St _ [] w [ro b22 (o23 + m * 1) [.int .i64 (x)], els CI 1 (some ⟨b22, o23, none⟩) (sl l l.length), row CS 1 9 w0.heap.size (.slice A ((nm l l.length).length) c) ((nm l l.length)), .blk b2 [.slice A ((nm l l.length).length) c, .slice (some ⟨b22, o23, none⟩) ((sl l l.length).length) d, (.map (some b1))] 48, mapIt kS vN b1 ((mL (nm l l.length))), els lineC 2 LA l] := st
                have hrx := hrng m (by omega)
                rw [hxx] at hrx
                have hc1 := itS_succ hc (by omega) hxx
                refine wp_seq ?_
                refine wp_seq ?_
                refine reg ?_
                refine lst rfl (ow_v fr (rn_move (fr.ev rfl)) rfl rfl ?_)
                intro a fr
                refine lst rfl (ow_v fr (rn_as (v' := .bool true) (rn_geq (fr.ev rfl) (fr.ev rfl)) (congrArg Value.bool (decide_eq_true (by omega)))) rfl rfl ?_)
                intro a fr
                refine wpList_nil ?_
                refine then_n ?_
                refine cond_t fr rfl rfl ?_
                refine wp_skip ?_
                refine then_n ?_
                refine wp_seq ?_
                refine wp_block ?_
                refine wp_seq ?_
                refine reg ?_
                refine lst rfl (ow_v fr (rn_move (fr.ev rfl)) rfl rfl ?_)
                intro a fr
                refine lst rfl (ow_v fr (rn_add (c := ((i + 1 : Nat) : Int)) (fr.ev rfl) (fr.ev rfl) (wr_i64e (by omega) (by omega) (by omega))) rfl rfl ?_)
                intro a fr
                refine lst rfl (ow_v fr (rn_assign (fr.ev rfl)) rfl rfl ?_)
                intro a fr
                refine wpList_nil ?_
                refine then_n ?_
                refine wp_seq ?_
                refine reg ?_
                refine lst rfl (ow_v fr (rn_move (fr.ev rfl)) rfl rfl ?_)
                intro a fr
                refine lst rfl (ow_v fr (rn_move (fr.ev rfl)) rfl rfl ?_)
                intro a fr
                refine lst rfl (ow_v fr (rn_nilCheck (fr.ev rfl)) rfl rfl ?_)
                intro a fr
                refine lst rfl (ow_v fr (fa_48_0 (fr.ev rfl)) rfl rfl ?_)
                intro a fr
                refine lst rfl (ow_v fr (rn_load (fr.ev rfl) Try.underlying45 rfl (st.cell 3 rfl rfl)) rfl rfl ?_)
                intro a fr
                refine lst rfl (ow_v fr (rn_len (fr.ev rfl) Try.underlying45) rfl rfl ?_)
                intro a fr
                refine lst rfl (ow_v fr (rn_as (v' := .bool false) (rn_gtr (fr.ev rfl) (fr.ev rfl)) (congrArg Value.bool (decide_eq_false (by omega)))) rfl rfl ?_)
                intro a fr
                refine wpList_nil ?_
                refine then_n ?_
                refine cond_f fr rfl rfl ?_
                refine wp_skip ?_
                refine blk_n ?_
                refine then_n ?_
                refine reg ?_
                refine lst rfl (ow_v fr (rn_move (fr.ev rfl)) rfl rfl ?_)
                intro a fr
                refine lst rfl (ow_v fr (rn_nilCheck (fr.ev rfl)) rfl rfl ?_)
                intro a fr
                refine lst rfl (ow_v fr (fa_48_1 (fr.ev rfl)) rfl rfl ?_)
                intro a fr
                refine lst rfl (ow_v fr (rn_load (fr.ev rfl) Try.underlying43 rfl (st.cell 3 rfl rfl)) rfl rfl ?_)
                intro a fr
                refine lst rfl (ow_v fr (rn_move (fr.ev rfl)) rfl rfl ?_)
                intro a fr
                refine lst rfl (ow_v fr (rn_at (i := m) (fr.ev rfl) (fr.ev rfl) Try.underlying43 sz_3 (by omega) (by rfl)) rfl rfl ?_)
                intro a fr
                refine lst rfl (ow_v fr (rn_load (fr.ev rfl) Try.underlying3 rfl (st.rocell 0 rfl (j := 0) rfl)) rfl rfl ?_)
                intro a fr
                refine lst rfl (ow_v fr (rn_assign (fr.ev rfl)) rfl rfl ?_)
                intro a fr
                refine wpList_nil ?_
                refine then_n ⟨(nm l l.length).length + 1 - (i + 1), ?_, i + 1, x, (by omega), (hc1), (by omega), (fun j hj => hpos1 j (by omega)), rfl, fr.prune ⟨rfl, rfl, rfl, rfl, rfl, rfl, trivial⟩, st.sub (.cons _ (.cons_cons _ (.cons_cons _ (.cons_cons _ (.cons_cons _ (.cons_cons _ .slnil))))))⟩
                omega
          · have hnc : ¬ Cyc l := fun ⟨j, h1, h2⟩ => by obtain ⟨i, h3, h4⟩ := hok j (by omega); have := h2 i h3; omega
            refine wp_seq ?_
            refine reg ?_
            refine lst rfl (ow_v fr (rn_as (v' := .bool false) (rn_lss (fr.ev rfl) (fr.ev rfl)) (congrArg Value.bool (decide_eq_false (by omega)))) rfl rfl ?_)
            intro a fr
            refine wpList_nil ?_
            refine then_n ?_
            refine wp_seq ?_
            refine cond_f fr rfl rfl ?_
            refine wp_exit ?_
            refine then_x ?_
            refine then_x ?_
            refine blk_x ?_
            refine then_n ?_
            refine wp_seq ?_
            refine reg ?_
            refine lst rfl (ow_v fr (rn_move (fr.ev rfl)) rfl rfl ?_)
            intro a fr
            refine lst rfl (ow_v fr (rn_assign (fr.ev rfl)) rfl rfl ?_)
            intro a fr
            refine lst rfl (ow_v fr (rn_assign (fr.ev rfl)) rfl rfl ?_)
            intro a fr
            refine wpList_nil ?_
            refine then_n ?_
            refine wp_ret ?_
            refine ret2 Try.results7 fr (rv_tmp fr rfl) (rv_tmp fr rfl) ?_
            have hg := (st.get 2 rfl).1.resolve_right (by simp)
            have hm := ((st.get 3 rfl).2.1 b1 (by simp)).2 rfl
            replace hm := hm.resolve_right (by simp)
            have st := st.weaken 2 rfl (it := ro b2 0 [.slice A ((nm l l.length).length) c, .slice B ((sl l l.length).length) d, (.map (some b1))]) (fun h => by cases h) (fun b hb => hb) (ro_of_blk (st.get 2 rfl))
            replace st : St _ [] w [els CI 1 B (sl l l.length), row CS 1 9 w0.heap.size (.slice A ((nm l l.length).length) c) ((nm l l.length)), ro b2 0 [.slice A ((nm l l.length).length) c, .slice B ((sl l l.length).length) d, (.map (some b1))], mapIt kS vN b1 ((mL (nm l l.length))), els lineC 2 LA l] := st
            have st := st.weaken 3 rfl (it := mapRo kS vN b1 ((mL (nm l l.length)))) (fun h => by cases h) (fun b hb => hb) (mapRo_ok (st.get 3 rfl).1)
            replace st : St _ [] w [els CI 1 B (sl l l.length), row CS 1 9 w0.heap.size (.slice A ((nm l l.length).length) c) ((nm l l.length)), ro b2 0 [.slice A ((nm l l.length).length) c, .slice B ((sl l l.length).length) d, (.map (some b1))], mapRo kS vN b1 ((mL (nm l l.length))), els lineC 2 LA l] := st
            have st := st.weaken 1 rfl (it := els CS 1 A (nm l l.length)) (fun h => by cases h) (elsFp_row) (els_of_row (by decide) CS_len (st.get 1 rfl))
            replace st : St _ [] w [els CI 1 B (sl l l.length), els CS 1 A (nm l l.length), ro b2 0 [.slice A ((nm l l.length).length) c, .slice B ((sl l l.length).length) d, (.map (some b1))], mapRo kS vN b1 ((mL (nm l l.length))), els lineC 2 LA l] := st
            have st := st.pick [2, 1, 0, 3] (by decide) (M' := hI b2 b1 A B c d (nm l l.length) (sl l l.length)) rfl
            exact .inr (.inr (.inr (.inr ⟨by omega, hnd, hnm, hnc, b2, b1, A, B, c, d, rfl, st, hg, hm, hA1, hA2⟩)))

end Go.Proofs.Ytnggnacaghcclaa.H1
