import Derived.Test.YtngpfbcjmlpplaaM4
import Derived.Test.YtngpfbcjmlpplaaLibD
set_option linter.unusedVariables false
set_option linter.unusedSimpArgs false
namespace Go.Proofs.Ytngpfbcjmlpplaa.M
open Go.RowKit Go.Proofs.Ytngpfbcjmlpplaa.LibA Go.Proofs.Ytngpfbcjmlpplaa.LibB Go.Proofs.Ytngpfbcjmlpplaa.LibC Go.Proofs.Ytngpfbcjmlpplaa.LibD

abbrev SlotD := Int × Int × Int
abbrev ValD := Int × Int
def slotC (s : SlotD) : List Value := [.int .i64 s.1, .int .i64 s.2.1, .int .i64 s.2.2]
def valC (v : ValD) : List Value := [.int .i64 v.1, .int .i64 v.2]
theorem slotC_len (s : SlotD) : (slotC s).length = 3 := rfl
theorem valC_len (s : ValD) : (valC s).length = 2 := rfl
def slotE (sp : List Int) (s : SlotD) : Int := if s.1 < 0 ∨ 3 < s.1 then 250 else if s.1 = 0 then 0 else atE s.2.1 s.2.2 sp
def slotV (rs sp : List Int) (s : SlotD) : ValD := (s.1, if s.1 = 0 then 0 else atV s.2.1 s.2.2 rs sp)
def errF (sp : List Int) (e0 : Int) (ls : List SlotD) : Int := if e0 ≠ 0 then e0 else if ∀ s ∈ ls, slotE sp s = 0 then 0 else 250
theorem atE_or (k n : Int) (sp : List Int) : atE k n sp = 0 ∨ atE k n sp = 250 := by unfold atE; (repeat' split) <;> simp
/-- the slot at a place: its three cells -/
theorem els_slot {w : World} {A : Option Addr} {xs : List SlotD} (h : Els slotC 3 w A xs) (k : Nat) (hk : k < xs.length) :
    ∃ b off a b1 c, A = some ⟨b, off, none⟩ ∧ b < w.heap.size ∧ w.cell? ⟨b, off + k * 3, none⟩ = some (.int .i64 a) ∧ w.cell? ⟨b, off + k * 3 + 1, none⟩ = some (.int .i64 b1) ∧ w.cell? ⟨b, off + k * 3 + 2, none⟩ = some (.int .i64 c) ∧ Hid (xs[k] = (a, b1, c)) := by
  obtain ⟨b, off, e, hc⟩ := h k hk
  have h0 := hc 0 _ rfl
  exact ⟨b, off, _, _, _, e, World.block_lt_of_cell? w _ h0, h0, hc 1 _ rfl, hc 2 _ rfl, rfl⟩
/-- what holds of the list of what was built after k rounds -/
def FrSt (rs sp : List Int) (ls : List SlotD) (k : Nat) (vs : List ValD) (e : Int) : Prop :=
  vs.length = k ∧ ((e = 0 ∧ (∀ j (h : j < ls.length), j < k → slotE sp ls[j] = 0) ∧ vs = (ls.take k).map (slotV rs sp)) ∨ (e = 250 ∧ ∃ j, ∃ h : j < ls.length, slotE sp ls[j] ≠ 0))
theorem FrSt.zero (rs sp : List Int) (ls : List SlotD) : FrSt rs sp ls 0 [] 0 := ⟨rfl, .inl ⟨rfl, fun j _ h => absurd h (Nat.not_lt_zero _), by simp⟩⟩
theorem FrSt.ok {rs sp : List Int} {ls : List SlotD} {k : Nat} {vs : List ValD} (h : FrSt rs sp ls k vs 0) (hk : k < ls.length) (he : slotE sp ls[k] = 0) : FrSt rs sp ls (k + 1) (vs ++ [slotV rs sp ls[k]]) 0 := by
  obtain ⟨h0, h1⟩ := h
  rcases h1 with ⟨_, hj, hv⟩ | ⟨e, _⟩
  · refine ⟨by simp [h0], .inl ⟨rfl, fun j hj' hjk => ?_, ?_⟩⟩
    · rcases (by omega : j < k ∨ j = k) with h | rfl
      · exact hj j hj' h
      · exact he
    · rw [List.take_succ_eq_append_getElem hk, List.map_append, ← hv]; rfl
  · cases e
theorem FrSt.bad {rs sp : List Int} {ls : List SlotD} {k : Nat} {vs : List ValD} {e : Int} (h : FrSt rs sp ls k vs e) (hk : k < ls.length) (he : slotE sp ls[k] ≠ 0) (x : ValD) : FrSt rs sp ls (k + 1) (vs ++ [x]) 250 :=
  ⟨by simp [h.1], .inr ⟨rfl, k, hk, he⟩⟩
theorem FrSt.err {rs sp : List Int} {ls : List SlotD} {vs : List ValD} {e : Int} {k : Nat} (h : FrSt rs sp ls k vs e) (hk : e = 0 → k = ls.length) : e = errF sp 0 ls ∧ (e = 0 → vs = ls.map (slotV rs sp)) := by
  rcases h.2 with ⟨rfl, hj, hv⟩ | ⟨rfl, j, hj, hne⟩
  · have hk' := hk rfl
    subst hk'
    refine ⟨?_, fun _ => by rw [hv, List.take_length]⟩
    unfold errF
    rw [if_neg (by simp), if_pos]
    intro s hs
    obtain ⟨j, hj', rfl⟩ := List.getElem_of_mem hs
    exact hj j hj' hj'
  · refine ⟨?_, fun h => by cases h⟩
    unfold errF
    rw [if_neg (by simp), if_neg]
    intro hall
    exact hne (hall _ (List.getElem_mem hj))
theorem FrSt.either {rs sp : List Int} {ls : List SlotD} {k : Nat} {vs : List ValD} {e : Int} {x : ValD} (h : FrSt rs sp ls k vs 0) (hk : k < ls.length) (he : e = 0 ∨ e = 250) (h1 : slotE sp ls[k] = e) (h2 : slotV rs sp ls[k] = x) : FrSt rs sp ls (k + 1) (vs ++ [x]) e := by
  rcases he with rfl | rfl
  · rw [← h2]; exact h.ok hk h1
  · exact h.bad hk (by rw [h1]; omega) x
theorem Ints.kept {w w' : World} {A : Option Addr} {xs : List Int} {g : Nat} (h : Ints w A xs) (hg : w.grownBy w' (some g)) (hne : 0 < xs.length → ∀ a, A = some a → a.block ≠ g) : Ints w' A xs := by
  intro i hi
  obtain ⟨b, off, e, hc⟩ := h i hi
  exact ⟨b, off, e, hg.cell hc (fun e' => hne (by omega) _ e (Option.some.inj e'))⟩
theorem Ints.below {w w' : World} {A : Option Addr} {xs : List Int} (h : Ints w A xs) (hg : Below w.heap.size w w') : Ints w' A xs := by
  intro i hi
  obtain ⟨b, off, e, hc⟩ := h i hi
  exact ⟨b, off, e, cell_b hg hc⟩
theorem els_lt {w : World} {L : Option Addr} {ls : List SlotD} (h : Els slotC 3 w L ls) {a : Addr} (ha : L = some a) (hn : 0 < ls.length) : a.block < w.heap.size := by
  obtain ⟨b, off, e, hc⟩ := h 0 hn
  rw [ha] at e; cases e
  exact World.block_lt_of_cell? w _ (hc 0 _ rfl)
theorem ints_lt {w : World} {L : Option Addr} {ls : List Int} (h : Ints w L ls) {a : Addr} (ha : L = some a) (hn : 0 < ls.length) : a.block < w.heap.size := by
  obtain ⟨b, off, e, hc⟩ := h 0 hn
  rw [ha] at e; cases e
  exact World.block_lt_of_cell? w _ hc
theorem info43 : (Try.prog.info? 43).map (fun i => (i.zero, i.size, i.bytes)) = some (some (.agg #[.int .i64 0, .int .i64 0]), 2, 16) := by kernel_rfl
theorem blk1 {w : World} {g : Nat} {v : Value} {t : TypeId} (h : w.heap[g]? = some (.cells #[v] t (0, 0))) : g < w.heap.size ∧ w.cell? ⟨g, 0, none⟩ = some v ∧ w.frozen? ⟨g, 0, none⟩ = false :=
  ⟨(Array.getElem?_eq_some_iff.1 h).1, by rw [cell_of_row w g 0 _ _ _ h]; rfl, frozen_of_row w g 0 _ _ h⟩
set_option maxHeartbeats 1000000 in
theorem vals_ok (ls : List SlotD) (rs sp : List Int) (L A : Option Addr) (cl c eb rb : Nat) (hr : rs.length = 16) (hl : ls.length * 24 ≤ 140737488351232) (w : World) (hls : Els slotC 3 w L ls) (hs : Ints w A sp) (hrb : w.heap[rb]? = some (.cells (regsC rs (.slice A sp.length c)) 27 (0, 0))) (hLe : 0 < ls.length → ∀ a, L = some a → a.block ≠ eb) (hAe : 0 < sp.length → ∀ a, A = some a → a.block ≠ eb) (hre : rb ≠ eb) (heb : w.heap[eb]? = some (.cells #[.int .i64 0] 28 (0, 0))) :
    Calls Try.prog 34 #[.slice L ls.length cl, .pointer (some ⟨eb, 0, none⟩), .pointer (some ⟨rb, 0, none⟩)] w fun e w' => ∃ (v' : Value) (vs : List ValD) (e1 : Int), e = .returned v' ∧ w'.ownsRow w.heap.size 43 2 v' vs.length (flat valC vs) ∧ w'.heap[eb]? = some (.cells #[.int .i64 e1] 28 (0, 0)) ∧ e1 = errF sp 0 ls ∧ (e1 = 0 → vs = ls.map (slotV rs sp)) ∧ w.grownBy w' (some eb) := by
  obtain ⟨i0, hi, hz0, hz1, hz2⟩ := info_parts info43
  obtain ⟨hebw, _, _⟩ := blk1 heb
  go_enter Try.func34, Try.ntmps34
  go_wp2
  go_loopw [5, 11] (fun v i wr => ∃ (k : Nat) (vs : List ValD) (e1 : Int), k ≤ ls.length ∧ i = .int .i64 k ∧ wr.ownsRow w.heap.size 43 2 v vs.length (flat valC vs) ∧ wr.heap[eb]? = some (.cells #[.int .i64 e1] 28 (0, 0)) ∧ FrSt rs sp ls k vs e1 ∧ w.grownBy wr (some eb)) (fun _ i _ => ls.length - (intOf i).toNat)
  case atStart => exact ⟨0, [], 0, Nat.zero_le _, rfl, World.ownsRow_nil _ _ _ _, heb, FrSt.zero _ _ _, grown_refl _ _⟩
  case round =>
    obtain ⟨k, vs, e1, hk, rfl, hown, heb1, hst, hgr⟩ := hrel
    obtain ⟨hebl, hebc, hebf⟩ := blk1 heb1
    obtain ⟨g1, g2, g3, g4, g5, g6, g7⟩ := lt_all hebl
    have hvl := hst.1
    have hws := hgr.size
    by_cases hlt : k < ls.length
    · by_cases he : e1 = 0
      · subst he
        obtain ⟨b, off, ka, lk, ln, hL, hbl, c0, c1, c2, hx⟩ := els_slot hls k hlt
        subst hL
        have hbe : b ≠ eb := hLe (by omega) _ rfl
        have d0 := grown_cell hgr c0 (fun e => hbe (Option.some.inj e))
        have d1 := grown_cell hgr c1 (fun e => hbe (Option.some.inj e))
        have d2 := grown_cell hgr c2 (fun e => hbe (Option.some.inj e))
        have hblr : b < wr.heap.size := Nat.lt_of_lt_of_le hbl hgr.size
        clear c0 c1 c2
        rcases (by omega : ka < 0 ∨ (0 ≤ ka ∧ 3 < ka) ∨ ka = 0 ∨ (0 < ka ∧ ka ≤ 3)) with h | ⟨h, h2⟩ | rfl | ⟨h, h2⟩
        · have hbad : slotE sp ls[k] ≠ 0 := by rw [hx.out]; unfold slotE; rw [if_pos (by omega)]; omega
          have HB := Lib.hid hbad
          clear hbad
          go_wp2_with (first | ((with_reducible refine gate_dst (N := 44) rfl ?_); refine wpList_append_own _ rfl _ _ 40 rfl w.heap.size 43 i0 (.agg #[.int .i64 0, .int .i64 0]) 2 16 Try.underlying40 hi hz0 hz1 hz2 rfl (by decide) _ vs.length (flat valC vs) rfl ((((ownsRow_setCell_below hown hebw _).alloc _).alloc _).alloc _) _ 1 1 (valC (ka, 0)) rfl rfl (cells_new _ _ _ (by simp)) (by intro u hu; simp [valC] at hu; rcases hu with rfl | rfl <;> rfl) (by unfold maxLen; omega) (by omega) (by simp; omega) ?_; intro v2 w2 hown2 hgr2 _))
          have hown3 : w2.ownsRow w.heap.size 43 2 v2 (vs ++ [(ka, 0)]).length (flat valC (vs ++ [(ka, 0)])) := by rw [flat_snoc, List.length_append]; exact hown2
          have hgrw := (grown_new (grown_alloc (grown_alloc (grown_alloc (grown_set hgr 0 _) _) _) _) hgr2 (fun i hi => (hown.lt i hi).1))
          have heb2 : w2.heap[eb]? = some (.cells #[.int .i64 250] 28 (0, 0)) := by
              rw [hgr2.block eb (by simp; omega) (fun e => by have := (hown.lt eb e.symm).1; omega)]
              exact (by repeat (first | (refine (heap_past _ _ ?_).trans ?_; focus (first | omega | (simp; done) | (simp; omega))) | exact heap_setCell_same _ _ _ _ _ _ heb1 | (refine (ext_heap ?_).trans ?_; focus (first | omega | (simp; done) | (simp; omega))) | assumption))
          clear hown2 hgr2
          go_wp2
          go_roundw
          case rel => exact ⟨k + 1, vs ++ [(ka, 0)], 250, by omega, by go_num, hown3, heb2, hst.bad hlt HB.out _, hgrw⟩
          case measure => simp [intOf]; omega
        · have hbad : slotE sp ls[k] ≠ 0 := by rw [hx.out]; unfold slotE; rw [if_pos (by omega)]; omega
          have HB := Lib.hid hbad
          clear hbad
          go_wp2_with (first | ((with_reducible refine gate_dst (N := 44) rfl ?_); refine wpList_append_own _ rfl _ _ 40 rfl w.heap.size 43 i0 (.agg #[.int .i64 0, .int .i64 0]) 2 16 Try.underlying40 hi hz0 hz1 hz2 rfl (by decide) _ vs.length (flat valC vs) rfl ((((ownsRow_setCell_below hown hebw _).alloc _).alloc _).alloc _) _ 1 1 (valC (ka, 0)) rfl rfl (cells_new _ _ _ (by simp)) (by intro u hu; simp [valC] at hu; rcases hu with rfl | rfl <;> rfl) (by unfold maxLen; omega) (by omega) (by simp; omega) ?_; intro v2 w2 hown2 hgr2 _))
          have hown3 : w2.ownsRow w.heap.size 43 2 v2 (vs ++ [(ka, 0)]).length (flat valC (vs ++ [(ka, 0)])) := by rw [flat_snoc, List.length_append]; exact hown2
          have hgrw := (grown_new (grown_alloc (grown_alloc (grown_alloc (grown_set hgr 0 _) _) _) _) hgr2 (fun i hi => (hown.lt i hi).1))
          have heb2 : w2.heap[eb]? = some (.cells #[.int .i64 250] 28 (0, 0)) := by
              rw [hgr2.block eb (by simp; omega) (fun e => by have := (hown.lt eb e.symm).1; omega)]
              exact (by repeat (first | (refine (heap_past _ _ ?_).trans ?_; focus (first | omega | (simp; done) | (simp; omega))) | exact heap_setCell_same _ _ _ _ _ _ heb1 | (refine (ext_heap ?_).trans ?_; focus (first | omega | (simp; done) | (simp; omega))) | assumption))
          clear hown2 hgr2
          go_wp2
          go_roundw
          case rel => exact ⟨k + 1, vs ++ [(ka, 0)], 250, by omega, by go_num, hown3, heb2, hst.bad hlt HB.out _, hgrw⟩
          case measure => simp [intOf]; omega
        · have hgood : slotE sp ls[k] = 0 := by rw [hx.out]; unfold slotE; rw [if_neg (by omega), if_pos rfl]
          have hval : slotV rs sp ls[k] = (0, 0) := by rw [hx.out]; rfl
          have HB := Lib.hid hgood
          have HV := Lib.hid hval
          clear hgood hval
          go_wp2_with (first | ((with_reducible refine gate_dst (N := 44) rfl ?_); refine wpList_append_own _ rfl _ _ 40 rfl w.heap.size 43 i0 (.agg #[.int .i64 0, .int .i64 0]) 2 16 Try.underlying40 hi hz0 hz1 hz2 rfl (by decide) _ vs.length (flat valC vs) rfl (((hown.alloc _).alloc _).alloc _) _ 1 1 (valC (0, 0)) rfl rfl (cells_new _ _ _ (by simp)) (by intro u hu; simp [valC] at hu; rcases hu with rfl | rfl <;> rfl) (by unfold maxLen; omega) (by omega) (by simp; omega) ?_; intro v2 w2 hown2 hgr2 _))
          have hown3 : w2.ownsRow w.heap.size 43 2 v2 (vs ++ [(0, 0)]).length (flat valC (vs ++ [(0, 0)])) := by rw [flat_snoc, List.length_append]; exact hown2
          have hgrw := (grown_new (grown_alloc (grown_alloc (grown_alloc hgr _) _) _) hgr2 (fun i hi => (hown.lt i hi).1))
          have heb2 : w2.heap[eb]? = some (.cells #[.int .i64 0] 28 (0, 0)) := by
              rw [hgr2.block eb (by simp; omega) (fun e => by have := (hown.lt eb e.symm).1; omega)]
              exact (by repeat (first | (refine (heap_past _ _ ?_).trans ?_; focus (first | omega | (simp; done) | (simp; omega))) | exact heap_setCell_same _ _ _ _ _ _ heb1 | (refine (ext_heap ?_).trans ?_; focus (first | omega | (simp; done) | (simp; omega))) | assumption))
          clear hown2 hgr2
          go_wp2
          go_roundw
          case rel => exact ⟨k + 1, vs ++ [(0, 0)], 0, by omega, by go_num, hown3, heb2, HV.out ▸ hst.ok hlt HB.out, hgrw⟩
          case measure => simp [intOf]; omega
        · have hka : ka ≠ 0 := by omega
          have hse : slotE sp ls[k] = atE lk ln sp := by rw [hx.out]; unfold slotE; rw [if_neg (by omega), if_neg hka]
          have hval : slotV rs sp ls[k] = (ka, atV lk ln rs sp) := by rw [hx.out]; unfold slotV; rw [if_neg hka]
          have HB := Lib.hid hse
          have HV := Lib.hid hval
          have hkz : (ka != 0) = true := by simpa using hka
          have HK := Lib.hid hka
          clear hse hval hka
          have hrb1 : wr.heap[rb]? = some (.cells (regsC rs (.slice A sp.length c)) 27 (0, 0)) := (hgr.block rb (Array.getElem?_eq_some_iff.1 hrb).1 (fun e => hre (Option.some.inj e))).trans hrb
          have hrbl : rb < wr.heap.size := (Array.getElem?_eq_some_iff.1 hrb1).1
          go_wp2_with (first | (go_at_call 9; (with_reducible refine (at_calls _ _ rs sp A c hr _ (Ints.below (Ints.kept hs hgr hAe) (by repeat (with_reducible first | assumption | exact Below.refl _ _ | refine bl_alloc ?_ _ | refine bl_drewN ?_ _ | refine bl_drew ?_ | refine bl_ext ?_ _ _ | refine bl_then0 ?_ (by assumption))))).mono ?_); rintro e w1 ⟨rfl, hb1⟩; obtain ⟨l1, d1, rfl⟩ := ext_of_below hb1; clear hb1) | ((with_reducible refine gate_dst (N := 36) rfl ?_); refine wpList_load_row rfl 27 _ rfl rb rfl 27 (regsC rs (.slice A sp.length c)) (0, 0) _ (by repeat (first | assumption | (refine heap_at _ _ _ ?_; (first | omega | (simp; done) | (simp; omega))) | (refine (heap_past _ _ ?_).trans ?_; focus (first | omega | (simp; done) | (simp; omega))) | (refine (ext_heap ?_).trans ?_; focus (first | omega | (simp; done) | (simp; omega))))) Try.underlying27 rfl (by rw [regsC_size _ _ hr]; kernel_rfl) ?_) | ((with_reducible refine gate_dst (N := 44) rfl ?_); refine wpList_append_own _ rfl _ _ 40 rfl w.heap.size 43 i0 (.agg #[.int .i64 0, .int .i64 0]) 2 16 Try.underlying40 hi hz0 hz1 hz2 rfl (by decide) _ vs.length (flat valC vs) rfl ((((own_ext (((ownsRow_setCell_below hown hebw _).alloc _).alloc _) _ _).alloc _))) _ 1 1 (valC (ka, atV lk ln rs sp)) rfl rfl (cells_new _ _ _ (by simp)) (by intro u hu; simp [valC] at hu; rcases hu with rfl | rfl <;> rfl) (by unfold maxLen; omega) (by omega) (by simp; omega) ?_; intro v2 w2 hown2 hgr2 _))
          have hown3 : w2.ownsRow w.heap.size 43 2 v2 (vs ++ [(ka, atV lk ln rs sp)]).length (flat valC (vs ++ [(ka, atV lk ln rs sp)])) := by rw [flat_snoc, List.length_append]; exact hown2
          have hgrw := (grown_new (grown_alloc (grown_ext (grown_alloc (grown_alloc (grown_set hgr 0 _) _) _) _ _) _) hgr2 (fun i hi => (hown.lt i hi).1))
          have heb2 : w2.heap[eb]? = some (.cells #[.int .i64 (atE lk ln sp)] 28 (0, 0)) := by
              rw [hgr2.block eb (by simp; omega) (fun e => by have := (hown.lt eb e.symm).1; omega)]
              exact (by repeat (first | (refine (heap_past _ _ ?_).trans ?_; focus (first | omega | (simp; done) | (simp; omega))) | exact heap_setCell_same _ _ _ _ _ _ heb1 | (refine (ext_heap ?_).trans ?_; focus (first | omega | (simp; done) | (simp; omega))) | assumption))
          clear hown2 hgr2
          go_wp2
          go_roundw
          case rel => exact ⟨k + 1, vs ++ [(ka, atV lk ln rs sp)], (atE lk ln sp), by omega, by go_num, hown3, heb2, (FrSt.either hst hlt (atE_or lk ln sp) HB.out HV.out), hgrw⟩
          case measure => simp [intOf]; omega
      · obtain ⟨b, off, ka, lk, ln, hL, hbl, c0, c1, c2, hx⟩ := els_slot hls k hlt
        subst hL
        have hbe : b ≠ eb := hLe (by omega) _ rfl
        have d0 := grown_cell hgr c0 (fun e => hbe (Option.some.inj e))
        have d1 := grown_cell hgr c1 (fun e => hbe (Option.some.inj e))
        have d2 := grown_cell hgr c2 (fun e => hbe (Option.some.inj e))
        have hblr : b < wr.heap.size := Nat.lt_of_lt_of_le hbl hgr.size
        clear c0 c1 c2
        have hez : (e1 != 0) = true := by simpa using he
        have hE := hst.err (fun h => absurd h he)
        have HE := Lib.hid hE
        clear hE he
        go_wp2
        go_ret
        exact ⟨_, [], e1, rfl, World.ownsRow_nil _ _ _ _, (by repeat (first | assumption | (refine heap_at _ _ _ ?_; (first | omega | (simp; done) | (simp; omega))) | (refine (heap_past _ _ ?_).trans ?_; focus (first | omega | (simp; done) | (simp; omega))) | (refine (ext_heap ?_).trans ?_; focus (first | omega | (simp; done) | (simp; omega))))), HE.out.1, fun h => absurd h (by simpa using hez), grown_alloc hgr _⟩
    · go_wp2
      go_ret
      have hE := hst.err (fun _ => by omega)
      exact ⟨_, vs, e1, rfl, hown, heb1, hE.1, hE.2, hgr⟩
end Go.Proofs.Ytngpfbcjmlpplaa.M
