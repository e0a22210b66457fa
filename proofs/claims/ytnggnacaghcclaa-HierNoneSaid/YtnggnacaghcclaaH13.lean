import Derived.Test.YtnggnacaghcclaaH12
set_option linter.unusedVariables false
set_option linter.unusedSimpArgs false
namespace Go.Proofs.Ytnggnacaghcclaa.H13
open Go.RowKit Go.Proofs.Ytnggnacaghcclaa.LibA Go.Proofs.Ytnggnacaghcclaa.LibC Go.Proofs.Ytnggnacaghcclaa.LibS Go.Proofs.Ytnggnacaghcclaa.LibR Go.Proofs.Ytnggnacaghcclaa.LibT Go.Proofs.Ytnggnacaghcclaa.LibU Go.Proofs.Ytnggnacaghcclaa.LibV Go.Proofs.Ytnggnacaghcclaa.LibW Go.Proofs.Ytnggnacaghcclaa.LibX Go.Proofs.Ytnggnacaghcclaa.LibY Go.Proofs.Ytnggnacaghcclaa.LibZ Go.Proofs.Ytnggnacaghcclaa.LibQ Go.Proofs.Ytnggnacaghcclaa.H1 Go.Proofs.Ytnggnacaghcclaa.H2 Go.Proofs.Ytnggnacaghcclaa.H3 Go.Proofs.Ytnggnacaghcclaa.H4 Go.Proofs.Ytnggnacaghcclaa.H5 Go.Proofs.Ytnggnacaghcclaa.H6 Go.Proofs.Ytnggnacaghcclaa.H7 Go.Proofs.Ytnggnacaghcclaa.H8 Go.Proofs.Ytnggnacaghcclaa.H10 Go.Proofs.Ytnggnacaghcclaa.H12
def ErrC (l : List LineD) (x : Int) : Prop := (64 < l.length ∧ x = 3) ∨ (l.length ≤ 64 ∧ Dup l ∧ x = 70) ∨ (l.length ≤ 64 ∧ ¬ Dup l ∧ Miss l ∧ x = 71) ∨ (l.length ≤ 64 ∧ ¬ Dup l ∧ ¬ Miss l ∧ x = 72)
theorem errC_eq {l : List LineD} {x y : Int} (h : ErrC l x) (h2 : ErrC l y) : x = y := by
  rcases h with ⟨a, rfl⟩ | ⟨a, b, rfl⟩ | ⟨a, b, c, rfl⟩ | ⟨a, b, c, rfl⟩ <;> rcases h2 with ⟨a', rfl⟩ | ⟨a', b', rfl⟩ | ⟨a', b', c', rfl⟩ | ⟨a', b', c', rfl⟩ <;> first | rfl | omega | exact absurd ‹Dup l› ‹¬ Dup l› | exact absurd ‹Miss l› ‹¬ Miss l›
theorem errC_ne {l : List LineD} {x : Int} (h : ErrC l x) : x ≠ 0 := by
  rcases h with ⟨a, rfl⟩ | ⟨a, b, rfl⟩ | ⟨a, b, c, rfl⟩ | ⟨a, b, c, rfl⟩ <;> decide
theorem new_err {l : List LineD} (hfi : ¬ Fine l) (LA : Option Addr) (lc : Nat) (hl : l.length ≤ 9223372036854775807) (w0 : World) (ha : Els lineC 2 w0 LA l) : Calls Try.prog 7 #[.slice LA l.length lc] w0 fun e w' => ∃ x : Int, e = .returned (.tuple #[.pointer none, .int .i64 x]) ∧ ErrC l x ∧ Agr [] w0 w' :=
  (new_calls l LA lc hl w0 ha).mono fun e w' h => by
    rcases h with ⟨a, h1, h2⟩ | ⟨a, b, h1, h2⟩ | ⟨a, b, c, h1, h2⟩ | ⟨a, b, c, d, h1, h2⟩ | ⟨h1, h2, h3, h4, _⟩
    · exact ⟨3, h1, .inl ⟨a, rfl⟩, h2⟩
    · exact ⟨70, h1, .inr (.inl ⟨a, b, rfl⟩), h2⟩
    · exact ⟨71, h1, .inr (.inr (.inl ⟨a, b, c, rfl⟩)), h2⟩
    · exact ⟨72, h1, .inr (.inr (.inr ⟨a, b, c, rfl⟩)), h2⟩
    · exact absurd ⟨h1, h2, h3, h4⟩ hfi
theorem rnew_err {l : List LineD} (hfi : ¬ Fine l) (LA : Option Addr) (lc : Nat) (hl : l.length ≤ 9223372036854775807) {y : Int} (hy : ErrC l y) (w0 : World) (ha : Els lineC 2 w0 LA l) : Calls Try.prog 14 #[.slice LA l.length lc] w0 fun e w' => e = .returned (.tuple #[.pointer none, .int .i64 y]) ∧ Agr [] w0 w' :=
  (rnew_calls l LA lc hl w0 ha).mono fun e w' h => by
    rcases h with ⟨a, h1, h2⟩ | ⟨a, b, h1, h2⟩ | ⟨a, b, c, h1, h2⟩ | ⟨a, b, c, d, h1, h2⟩ | ⟨h1, h2, h3, h4, _⟩
    · exact ⟨by rw [h1, errC_eq hy (.inl ⟨a, rfl⟩)], h2⟩
    · exact ⟨by rw [h1, errC_eq hy (.inr (.inl ⟨a, b, rfl⟩))], h2⟩
    · exact ⟨by rw [h1, errC_eq hy (.inr (.inr (.inl ⟨a, b, c, rfl⟩)))], h2⟩
    · exact ⟨by rw [h1, errC_eq hy (.inr (.inr (.inr ⟨a, b, c, rfl⟩)))], h2⟩
    · exact absurd ⟨h1, h2, h3, h4⟩ hfi
theorem rnew_fine {l : List LineD} (hfi : Fine l) (LA : Option Addr) (lc : Nat) (hl : l.length ≤ 9223372036854775807) {ns : List ByteArray} {ss : List Int} (hes : ns = nm l l.length ∧ ss = sl l l.length) (w0 : World) (ha : Els lineC 2 w0 LA l) : Calls Try.prog 14 #[.slice LA l.length lc] w0 fun e w' => ∃ g A1 A2 c1 c2, e = .returned (.tuple #[.pointer (some ⟨g, 0, none⟩), .int .i64 0]) ∧ St w0 [] w' (rI g A1 A2 c1 c2 ns ss) ∧ (∀ it ∈ rI g A1 A2 c1 c2 ns ss, ∀ b ∈ it.fp, w0.heap.size ≤ b) :=
  (rnew_calls l LA lc hl w0 ha).mono fun e w' h => by
    obtain ⟨f1, f2, f3, f4⟩ := hfi
    obtain ⟨rfl, rfl⟩ := hes
    rcases h with ⟨h1, _⟩ | ⟨_, h1, _⟩ | ⟨_, _, h1, _⟩ | ⟨_, _, _, h1, _⟩ | ⟨_, _, _, _, g, A1, A2, c1, c2, rfl, st, hn⟩
    · omega
    · exact absurd h1 f2
    · exact absurd h1 f3
    · exact absurd h1 f4
    · refine ⟨g, A1, A2, c1, c2, rfl, st, fun it hi b hb => ?_⟩
      simp only [rI, List.mem_cons, List.not_mem_nil, or_false] at hi
      rcases hi with rfl | rfl | rfl
      · simp [ro, It.fp] at hb; subst hb; exact hn.1
      · obtain ⟨ad, rfl, rfl⟩ := elsFp_mem hb; exact hn.2.1 _ rfl
      · obtain ⟨ad, rfl, rfl⟩ := elsFp_mem hb; exact hn.2.2 _ rfl
theorem comP_uniq {L : Nat} {ss : List Int} (hf : HF L ss) {a b c d : Int} (h : ComP L ss a b c) (h2 : ComP L ss a b d) : c = d := by
  have h3 := comP_least hf h h2.left h2.right
  have h4 := comP_least hf h2 h.left h.right
  exact Classical.byContradiction fun hne => und_anti hf hne h3 h4
theorem rcommon_as (g : Nat) (A1 A2 : Option Addr) (c1 c2 : Nat) (ns : List ByteArray) (ss : List Int) (hf : HF ns.length ss) (p1 p2 c : Int) (ha : 0 ≤ p1 ∧ p1 < ns.length) (hb : 0 ≤ p2 ∧ p2 < ns.length) (hc : ComP ns.length ss p1 p2 c) (w0 : World) (hok : RHOk g A1 A2 c1 c2 ns ss w0) : Calls Try.prog 16 #[.pointer (some ⟨g, 0, none⟩), .int .i64 p1, .int .i64 p2] w0 fun e w' => e = .returned (.int .i64 c) ∧ Agr [] w0 w' :=
  (rcommon_t g A1 A2 c1 c2 ns ss hf p1 p2 ha hb w0 hok).mono fun e w' ⟨⟨d, h1, i, h2, h3, h4⟩, h5⟩ => ⟨by rw [h1, comP_uniq hf hc (comP_of hf ha h2 h3 h4)], h5⟩
theorem st5_of {g m b : Nat} {A1 A2 : Option Addr} {c1 c2 : Nat} {ns : List ByteArray} {ss : List Int} {w0 w : World} {K : List Nat} (hb : (It.blk b [.pointer (some ⟨g, 0, none⟩)] 23).ok w0 K w) (hok : HOk g m A1 A2 c1 c2 ns ss w) : St w [] w [ro b 0 [.pointer (some ⟨g, 0, none⟩)], ro g 0 [.slice A1 ns.length c1, .slice A2 ss.length c2, (.map (some m))], els CS 1 A1 ns, els CI 1 A2 ss, mapRo kS vN m ((mL ns))] :=
  St.start_ro fun it hi => by
    rcases List.mem_cons.1 hi with rfl | hi
    · exact ⟨ro_of_blk hb, rfl⟩
    · refine ⟨hok it hi, ?_⟩
      simp only [List.mem_cons, List.not_mem_nil, or_false] at hi
      rcases hi with rfl | rfl | rfl | rfl <;> rfl
theorem tells_order {g m b : Nat} {A1 A2 : Option Addr} {c1 c2 : Nat} {ns : List ByteArray} {ss : List Int} (hf : HF ns.length ss) (stop : Int) (A : Option Addr) (c : Nat) {w : World} (st : St w [] w [ro b 0 [.pointer (some ⟨g, 0, none⟩)], ro g 0 [.slice A1 ns.length c1, .slice A2 ss.length c2, (.map (some m))], els CS 1 A1 ns, els CI 1 A2 ss, mapRo kS vN m ((mL ns))]) (ha : Els CI 1 w A (oI ss ns.length (ns.length + 1) 0)) : Calls Try.prog 17 #[(.func (.func 31) #[] #[.pointer (some ⟨b, 0, none⟩)]), .slice A (oI ss ns.length (ns.length + 1) 0).length c, .int .i64 stop] w fun e w' => e = .returned (.bool true) ∧ Agr [] w w' :=
  tells_calls (oI ss ns.length (ns.length + 1) 0) A c b stop (by rw [oI_all_len]; have := hf.high; omega) w (fun w1 hb k => order_seq g m b _ A1 A2 c1 c2 ns ss hf w1 (st_over st hb (all_ro rfl) (ro_lt st (Nat.le_refl _))) (ro_lt st (Nat.le_refl _)) k) ha

theorem fa_33_2 {ρ : Operand → Value} {w : World} {dst : Option Tmp} {ty : TypeId} {pos : String} {aft : Array Edge} {gd : Option (Nat × Bool)} {x : Operand} {b o : Nat} (hx : ρ x = .pointer (some ⟨b, o, none⟩)) : (execOp ρ ⟨dst, .fieldAddr 33 x 2, ty, pos, aft, gd⟩).run Try.prog w = .ok (.value (.pointer (some ⟨b, o + 2, none⟩))) w := rn_field hx Try.underlying33 rfl (by kernel_rfl) rfl
set_option maxHeartbeats 1000000 in
theorem asks_walk (l : List LineD) (LA : Option Addr) (lc : Nat) (pa pb pc : Int) (hl : l.length ≤ 9223372036854775807) (w0 : World) (ha0 : Els lineC 2 w0 LA l) : Calls Try.prog 5 #[.slice LA l.length lc, .agg #[.int .i64 pa, .int .i64 pb, .int .i64 pc]] w0 fun e w' => e = .returned (.bool true) ∧ Below w0.heap.size w0 w' := by
  have st : St w0 [] w0 [els lineC 2 LA l] := (add_ro (start0 w0 []) (by simp [els, It.wr]) rfl (els_ok (C := lineC) (sz := 2) (by decide) (fun x => rfl) ha0))
  clear ha0
  by_cases hfi : Fine l
  · refine enter Try.func5 rfl Try.ntmps5 (by simp) ?_
    intro a fr
    refine wp_seq ?_
    refine reg ?_
    refine lst rfl (ow_box fr st rfl rfl rfl rfl ([.int .i64 (pa), .int .i64 (pb), .int .i64 (pc)]) (by rfl) ?_)
    intro a w b1 fr st
    refine lst rfl (ow_v fr (rn_assign (fr.ev rfl)) rfl rfl ?_)
    intro a fr
    refine wpList_nil ?_
    refine then_n ?_
    refine wp_seq ?_
    refine reg ?_
    refine lst rfl (ow_v fr (rn_move (fr.ev rfl)) rfl rfl ?_)
    intro a fr
    refine lst rfl (ow_call fr rfl rfl Try.call7 (new_fine hfi _ _ hl _ (st.get 1 rfl).1) rfl rfl ?_)
    rintro e w ⟨ns, ss, g, m, A1, A2, c1, c2, rfl, hf, hes, st2, hnw⟩
    refine ⟨_, rfl, ?_⟩
    intro a fr
    have st := st.join st2 hnw
    clear st2 hnw
    replace st : St _ [] w [ro g 0 [.slice A1 ns.length c1, .slice A2 ss.length c2, (.map (some m))], els CS 1 A1 ns, els CI 1 A2 ss, mapRo kS vN m ((mL ns)), .blk b1 [.int .i64 (pa), .int .i64 (pb), .int .i64 (pc)] 33, els lineC 2 LA l] := st
    refine lst rfl (ow_v fr (rn_move (fr.ev rfl)) rfl rfl ?_)
    intro a fr
    refine lst rfl (ow_v fr (rn_extract (fr.ev rfl) rfl) rfl rfl ?_)
    intro a fr
    refine lst rfl (ow_v fr (rn_extract (fr.ev rfl) rfl) rfl rfl ?_)
    intro a fr
    refine lst rfl (ow_v fr (rn_assign (fr.ev rfl)) rfl rfl ?_)
    intro a fr
    refine lst rfl (ow_v fr (rn_assign (fr.ev rfl)) rfl rfl ?_)
    intro a fr
    refine wpList_nil ?_
    refine then_n ?_
    refine wp_seq ?_
    refine reg ?_
    refine lst rfl (ow_v fr (rn_move (fr.ev rfl)) rfl rfl ?_)
    intro a fr
    refine lst rfl (ow_call fr rfl rfl Try.call14 (rnew_fine hfi _ _ hl hes _ (st.get 5 rfl).1) rfl rfl ?_)
    rintro e w ⟨rg, B1, B2, d1, d2, rfl, st2, hnw⟩
    refine ⟨_, rfl, ?_⟩
    intro a fr
    have st := st.join st2 hnw
    clear st2 hnw
    replace st : St _ [] w [ro rg 0 [.slice B1 ns.length d1, .slice B2 ss.length d2], els CS 1 B1 ns, els CI 1 B2 ss, ro g 0 [.slice A1 ns.length c1, .slice A2 ss.length c2, (.map (some m))], els CS 1 A1 ns, els CI 1 A2 ss, mapRo kS vN m ((mL ns)), .blk b1 [.int .i64 (pa), .int .i64 (pb), .int .i64 (pc)] 33, els lineC 2 LA l] := st
    refine lst rfl (ow_v fr (rn_move (fr.ev rfl)) rfl rfl ?_)
    intro a fr
    refine lst rfl (ow_v fr (rn_extract (fr.ev rfl) rfl) rfl rfl ?_)
    intro a fr
    refine lst rfl (ow_v fr (rn_extract (fr.ev rfl) rfl) rfl rfl ?_)
    intro a fr
    refine lst rfl (ow_v fr (rn_assign (fr.ev rfl)) rfl rfl ?_)
    intro a fr
    refine lst rfl (ow_v fr (rn_assign (fr.ev rfl)) rfl rfl ?_)
    intro a fr
    refine wpList_nil ?_
    refine then_n ?_
    refine wp_seq ?_
    refine wp_seq ?_
    refine reg ?_
    refine lst rfl (ow_call fr rfl rfl Try.call8 (live_calls _) rfl rfl ?_)
    rintro e w ⟨rfl, hag⟩
    refine ⟨_, rfl, ?_⟩
    intro a fr
    have st := st.keep hag
    clear hag
    refine lst rfl (ow_v fr (rn_not (fr.ev rfl)) rfl rfl ?_)
    intro a fr
    refine lst rfl (ow_v fr (rn_move (fr.ev rfl)) rfl rfl ?_)
    intro a fr
    refine lst_y (wanted_of fr rfl rfl rfl rfl) (ow_v fr (rn_move (fr.ev rfl)) rfl rfl ?_)
    intro a fr
    refine lst_y (wanted_of fr rfl rfl rfl rfl) (ow_v fr (rn_move (fr.ev rfl)) rfl rfl ?_)
    intro a fr
    refine lst_y (wanted_of fr rfl rfl rfl rfl) (ow_v fr (rn_as (rn_neq (fr.ev rfl) (fr.ev rfl)) (by rfl)) rfl rfl ?_)
    intro a fr
    refine lst rfl (ow_v fr (rn_pick_f (fr.ev rfl) (fr.ev rfl)) rfl rfl ?_)
    intro a fr
    refine wpList_nil ?_
    refine then_n ?_
    refine cond_f fr rfl rfl ?_
    refine wp_skip ?_
    refine then_n ?_
    refine wp_seq ?_
    refine wp_seq ?_
    refine reg ?_
    refine lst rfl (ow_v fr (rn_move (fr.ev rfl)) rfl rfl ?_)
    intro a fr
    refine lst rfl (ow_v fr (rn_as (rn_neq (fr.ev rfl) (fr.ev rfl)) (by rfl)) rfl rfl ?_)
    intro a fr
    refine wpList_nil ?_
    refine then_n ?_
    refine cond_f fr rfl rfl ?_
    refine wp_skip ?_
    refine then_n ?_
    refine wp_seq ?_
    by_cases hU : UndP ns.length ss pa pb
    · by_cases hr : (0 ≤ pa ∧ pa < ns.length) ∧ (0 ≤ pb ∧ pb < ns.length)
      · refine dr_start (by kernel_rfl) st (.cons_cons _ (.cons_cons _ (.cons_cons _ (.cons_cons _ (.cons_cons _ (.cons_cons _ (.cons_cons _ (.cons_cons _ (.cons_cons _ .slnil))))))))) ?_
        intro w st
        refine dr_take 0 rfl (by kernel_rfl) (by kernel_rfl) (by kernel_rfl) (fun _ _ _ h => h) fr rfl (st.sub (.cons_cons _ (.cons_cons _ (.cons_cons _ (.cons_cons _ (.cons_cons _ (.cons_cons _ (.cons_cons _ (.cons_cons _ (.cons_cons _ .slnil)))))))))) (fun w st => rn_move (fr.ev rfl)) rfl rfl ?_
        intro a fr
        refine dr_take 1 rfl (by kernel_rfl) (by kernel_rfl) (by kernel_rfl) (fun _ _ _ h => h) fr rfl (st.sub (.cons_cons _ (.cons_cons _ (.cons_cons _ (.cons_cons _ (.cons_cons _ (.cons_cons _ (.cons_cons _ (.cons_cons _ (.cons_cons _ .slnil)))))))))) (fun w st => fa_33_0 (fr.ev rfl)) rfl rfl ?_
        intro a fr
        refine dr_take 2 rfl (by kernel_rfl) (by kernel_rfl) (by kernel_rfl) (fun _ _ _ h => h) fr rfl (st.sub (.cons_cons _ (.cons_cons _ (.cons_cons _ (.cons_cons _ (.cons_cons _ (.cons_cons _ (.cons_cons _ (.cons_cons _ (.cons_cons _ .slnil)))))))))) (fun w st => rn_load (fr.ev rfl) Try.underlying3 rfl (st.cell 7 rfl rfl)) rfl rfl ?_
        intro a fr
        refine dr_take 3 rfl (by kernel_rfl) (by kernel_rfl) (by kernel_rfl) (fun _ _ _ h => h) fr rfl (st.sub (.cons_cons _ (.cons_cons _ (.cons_cons _ (.cons_cons _ (.cons_cons _ (.cons_cons _ (.cons_cons _ (.cons_cons _ (.cons_cons _ .slnil)))))))))) (fun w st => fa_33_1 (fr.ev rfl)) rfl rfl ?_
        intro a fr
        refine dr_take 4 rfl (by kernel_rfl) (by kernel_rfl) (by kernel_rfl) (fun _ _ _ h => h) fr rfl (st.sub (.cons_cons _ (.cons_cons _ (.cons_cons _ (.cons_cons _ (.cons_cons _ (.cons_cons _ (.cons_cons _ (.cons_cons _ (.cons_cons _ .slnil)))))))))) (fun w st => rn_load (fr.ev rfl) Try.underlying3 rfl (st.cell 7 rfl rfl)) rfl rfl ?_
        intro a fr
        refine dr_take 6 rfl (by kernel_rfl) (by kernel_rfl) (by kernel_rfl) (fun _ _ _ h => h) fr rfl (st.sub (.cons_cons _ (.cons_cons _ (.cons_cons _ (.cons_cons _ (.cons_cons _ (.cons_cons _ (.cons_cons _ (.cons_cons _ (.cons_cons _ .slnil)))))))))) (fun w st => rn_move (fr.ev rfl)) rfl rfl ?_
        intro a fr
        refine dr_take 7 rfl (by kernel_rfl) (by kernel_rfl) (by kernel_rfl) (fun _ _ _ h => h) fr rfl (st.sub (.cons_cons _ (.cons_cons _ (.cons_cons _ (.cons_cons _ (.cons_cons _ (.cons_cons _ (.cons_cons _ (.cons_cons _ (.cons_cons _ .slnil)))))))))) (fun w st => fa_33_0 (fr.ev rfl)) rfl rfl ?_
        intro a fr
        refine dr_take 8 rfl (by kernel_rfl) (by kernel_rfl) (by kernel_rfl) (fun _ _ _ h => h) fr rfl (st.sub (.cons_cons _ (.cons_cons _ (.cons_cons _ (.cons_cons _ (.cons_cons _ (.cons_cons _ (.cons_cons _ (.cons_cons _ (.cons_cons _ .slnil)))))))))) (fun w st => rn_load (fr.ev rfl) Try.underlying3 rfl (st.cell 7 rfl rfl)) rfl rfl ?_
        intro a fr
        refine dr_take 9 rfl (by kernel_rfl) (by kernel_rfl) (by kernel_rfl) (fun _ _ _ h => h) fr rfl (st.sub (.cons_cons _ (.cons_cons _ (.cons_cons _ (.cons_cons _ (.cons_cons _ (.cons_cons _ (.cons_cons _ (.cons_cons _ (.cons_cons _ .slnil)))))))))) (fun w st => fa_33_1 (fr.ev rfl)) rfl rfl ?_
        intro a fr
        refine dr_take 10 rfl (by kernel_rfl) (by kernel_rfl) (by kernel_rfl) (fun _ _ _ h => h) fr rfl (st.sub (.cons_cons _ (.cons_cons _ (.cons_cons _ (.cons_cons _ (.cons_cons _ (.cons_cons _ (.cons_cons _ (.cons_cons _ (.cons_cons _ .slnil)))))))))) (fun w st => rn_load (fr.ev rfl) Try.underlying3 rfl (st.cell 7 rfl rfl)) rfl rfl ?_
        intro a fr
        refine dr_one 5 (by kernel_rfl) rfl rfl (ow_call fr rfl rfl Try.call10 (under_t g m _ _ c1 c2 ns ss hf pa pb hU _ (hok4 (st.get 3 rfl) (st.get 4 rfl) (st.get 5 rfl) (st.get 6 rfl))) rfl rfl ?_)
        rintro e w ⟨rfl, hag⟩
        refine ⟨_, rfl, ?_⟩
        intro a fr
        have st := st.keep hag
        clear hag
        refine ⟨st.sub (.cons_cons _ (.cons_cons _ (.cons_cons _ (.cons_cons _ (.cons_cons _ (.cons_cons _ (.cons_cons _ (.cons_cons _ (.cons_cons _ .slnil))))))))), ?_⟩
        refine dr_one 11 (by kernel_rfl) rfl rfl (ow_call fr rfl rfl Try.call15 (runder_t rg _ _ d1 d2 ns ss hf pa pb hU _ (rhok3 (st.get 0 rfl) (st.get 1 rfl) (st.get 2 rfl))) rfl rfl ?_)
        rintro e w ⟨rfl, hag⟩
        refine ⟨_, rfl, ?_⟩
        intro a fr
        have st := st.keep hag
        clear hag
        refine ⟨st.sub (.cons_cons _ (.cons_cons _ (.cons_cons _ (.cons_cons _ (.cons_cons _ (.cons_cons _ (.cons_cons _ (.cons_cons _ (.cons_cons _ .slnil))))))))), ?_⟩
        refine dr_take 12 rfl (by kernel_rfl) (by kernel_rfl) (by kernel_rfl) (fun _ _ _ h => h) fr rfl (st.sub (.cons_cons _ (.cons_cons _ (.cons_cons _ (.cons_cons _ (.cons_cons _ (.cons_cons _ (.cons_cons _ (.cons_cons _ (.cons_cons _ .slnil)))))))))) (fun w st => rn_as (v' := .bool true) (rn_eqb (fr.ev rfl) (fr.ev rfl) Try.underlying4) (congrArg Value.bool (rfl))) rfl rfl ?_
        intro a fr
        refine dr_take 13 rfl (by kernel_rfl) (by kernel_rfl) (by kernel_rfl) (fun _ _ _ h => h) fr rfl (st.sub (.cons_cons _ (.cons_cons _ (.cons_cons _ (.cons_cons _ (.cons_cons _ (.cons_cons _ (.cons_cons _ (.cons_cons _ (.cons_cons _ .slnil)))))))))) (fun w st => rn_move (fr.ev rfl)) rfl rfl ?_
        intro a fr
        refine dr_take_y 14 rfl (by kernel_rfl) (by kernel_rfl) (by kernel_rfl) (fun _ _ _ h => h) fr (wanted_of fr rfl rfl rfl rfl) (st.sub (.cons_cons _ (.cons_cons _ (.cons_cons _ (.cons_cons _ (.cons_cons _ (.cons_cons _ (.cons_cons _ (.cons_cons _ (.cons_cons _ .slnil)))))))))) (fun w st => rn_move (fr.ev rfl)) rfl rfl ?_
        intro a fr
        refine dr_take_y 15 rfl (by kernel_rfl) (by kernel_rfl) (by kernel_rfl) (fun _ _ _ h => h) fr (wanted_of fr rfl rfl rfl rfl) (st.sub (.cons_cons _ (.cons_cons _ (.cons_cons _ (.cons_cons _ (.cons_cons _ (.cons_cons _ (.cons_cons _ (.cons_cons _ (.cons_cons _ .slnil)))))))))) (fun w st => fa_33_0 (fr.ev rfl)) rfl rfl ?_
        intro a fr
        refine dr_take_y 16 rfl (by kernel_rfl) (by kernel_rfl) (by kernel_rfl) (fun _ _ _ h => h) fr (wanted_of fr rfl rfl rfl rfl) (st.sub (.cons_cons _ (.cons_cons _ (.cons_cons _ (.cons_cons _ (.cons_cons _ (.cons_cons _ (.cons_cons _ (.cons_cons _ (.cons_cons _ .slnil)))))))))) (fun w st => rn_load (fr.ev rfl) Try.underlying3 rfl (st.cell 7 rfl rfl)) rfl rfl ?_
        intro a fr
        refine dr_take_y 17 rfl (by kernel_rfl) (by kernel_rfl) (by kernel_rfl) (fun _ _ _ h => h) fr (wanted_of fr rfl rfl rfl rfl) (st.sub (.cons_cons _ (.cons_cons _ (.cons_cons _ (.cons_cons _ (.cons_cons _ (.cons_cons _ (.cons_cons _ (.cons_cons _ (.cons_cons _ .slnil)))))))))) (fun w st => fa_33_1 (fr.ev rfl)) rfl rfl ?_
        intro a fr
        refine dr_take_y 18 rfl (by kernel_rfl) (by kernel_rfl) (by kernel_rfl) (fun _ _ _ h => h) fr (wanted_of fr rfl rfl rfl rfl) (st.sub (.cons_cons _ (.cons_cons _ (.cons_cons _ (.cons_cons _ (.cons_cons _ (.cons_cons _ (.cons_cons _ (.cons_cons _ (.cons_cons _ .slnil)))))))))) (fun w st => rn_load (fr.ev rfl) Try.underlying3 rfl (st.cell 7 rfl rfl)) rfl rfl ?_
        intro a fr
        refine dr_take_y 20 rfl (by kernel_rfl) (by kernel_rfl) (by kernel_rfl) (fun _ _ _ h => h) fr (wanted_of fr rfl rfl rfl rfl) (st.sub (.cons_cons _ (.cons_cons _ (.cons_cons _ (.cons_cons _ (.cons_cons _ (.cons_cons _ (.cons_cons _ (.cons_cons _ (.cons_cons _ .slnil)))))))))) (fun w st => rn_move (fr.ev rfl)) rfl rfl ?_
        intro a fr
        refine dr_take_y 21 rfl (by kernel_rfl) (by kernel_rfl) (by kernel_rfl) (fun _ _ _ h => h) fr (wanted_of fr rfl rfl rfl rfl) (st.sub (.cons_cons _ (.cons_cons _ (.cons_cons _ (.cons_cons _ (.cons_cons _ (.cons_cons _ (.cons_cons _ (.cons_cons _ (.cons_cons _ .slnil)))))))))) (fun w st => fa_33_0 (fr.ev rfl)) rfl rfl ?_
        intro a fr
        refine dr_take_y 22 rfl (by kernel_rfl) (by kernel_rfl) (by kernel_rfl) (fun _ _ _ h => h) fr (wanted_of fr rfl rfl rfl rfl) (st.sub (.cons_cons _ (.cons_cons _ (.cons_cons _ (.cons_cons _ (.cons_cons _ (.cons_cons _ (.cons_cons _ (.cons_cons _ (.cons_cons _ .slnil)))))))))) (fun w st => rn_load (fr.ev rfl) Try.underlying3 rfl (st.cell 7 rfl rfl)) rfl rfl ?_
        intro a fr
        refine dr_take_y 23 rfl (by kernel_rfl) (by kernel_rfl) (by kernel_rfl) (fun _ _ _ h => h) fr (wanted_of fr rfl rfl rfl rfl) (st.sub (.cons_cons _ (.cons_cons _ (.cons_cons _ (.cons_cons _ (.cons_cons _ (.cons_cons _ (.cons_cons _ (.cons_cons _ (.cons_cons _ .slnil)))))))))) (fun w st => fa_33_1 (fr.ev rfl)) rfl rfl ?_
        intro a fr
        refine dr_take_y 24 rfl (by kernel_rfl) (by kernel_rfl) (by kernel_rfl) (fun _ _ _ h => h) fr (wanted_of fr rfl rfl rfl rfl) (st.sub (.cons_cons _ (.cons_cons _ (.cons_cons _ (.cons_cons _ (.cons_cons _ (.cons_cons _ (.cons_cons _ (.cons_cons _ (.cons_cons _ .slnil)))))))))) (fun w st => rn_load (fr.ev rfl) Try.underlying3 rfl (st.cell 7 rfl rfl)) rfl rfl ?_
        intro a fr
        refine dr_one_y 19 (by kernel_rfl) rfl (wanted_of fr rfl rfl rfl rfl) (ow_call fr rfl rfl Try.call13 (common_c g m _ _ c1 c2 ns ss hf pa pb hr.1 hr.2 _ (hok4 (st.get 3 rfl) (st.get 4 rfl) (st.get 5 rfl) (st.get 6 rfl))) rfl rfl ?_)
        rintro e w ⟨⟨c, rfl, hc⟩, hag⟩
        refine ⟨_, rfl, ?_⟩
        intro a fr
        have st := st.keep hag
        clear hag
        refine ⟨st.sub (.cons_cons _ (.cons_cons _ (.cons_cons _ (.cons_cons _ (.cons_cons _ (.cons_cons _ (.cons_cons _ (.cons_cons _ (.cons_cons _ .slnil))))))))), ?_⟩
        refine dr_one_y 25 (by kernel_rfl) rfl (wanted_of fr rfl rfl rfl rfl) (ow_call fr rfl rfl Try.call16 (rcommon_as rg _ _ d1 d2 ns ss hf pa pb c hr.1 hr.2 hc _ (rhok3 (st.get 0 rfl) (st.get 1 rfl) (st.get 2 rfl))) rfl rfl ?_)
        rintro e w ⟨rfl, hag⟩
        refine ⟨_, rfl, ?_⟩
        intro a fr
        have st := st.keep hag
        clear hag
        refine ⟨st.sub (.cons_cons _ (.cons_cons _ (.cons_cons _ (.cons_cons _ (.cons_cons _ (.cons_cons _ (.cons_cons _ (.cons_cons _ (.cons_cons _ .slnil))))))))), ?_⟩
        refine dr_take_y 26 rfl (by kernel_rfl) (by kernel_rfl) (by kernel_rfl) (fun _ _ _ h => h) fr (wanted_of fr rfl rfl rfl rfl) (st.sub (.cons_cons _ (.cons_cons _ (.cons_cons _ (.cons_cons _ (.cons_cons _ (.cons_cons _ (.cons_cons _ (.cons_cons _ (.cons_cons _ .slnil)))))))))) (fun w st => rn_as (v' := .bool true) (rn_eql (fr.ev rfl) (fr.ev rfl)) (congrArg Value.bool (by simp))) rfl rfl ?_
        intro a fr
        refine dr_take 27 rfl (by kernel_rfl) (by kernel_rfl) (by kernel_rfl) (fun _ _ _ h => h) fr rfl (st.sub (.cons_cons _ (.cons_cons _ (.cons_cons _ (.cons_cons _ (.cons_cons _ (.cons_cons _ (.cons_cons _ (.cons_cons _ (.cons_cons _ .slnil)))))))))) (fun w st => rn_pick_t (fr.ev rfl) (fr.ev rfl)) rfl rfl ?_
        intro a fr
        refine dr_take 28 rfl (by kernel_rfl) (by kernel_rfl) (by kernel_rfl) (fun _ _ _ h => h) fr rfl (st.sub (.cons_cons _ (.cons_cons _ (.cons_cons _ (.cons_cons _ (.cons_cons _ (.cons_cons _ (.cons_cons _ (.cons_cons _ (.cons_cons _ .slnil)))))))))) (fun w st => rn_move (fr.ev rfl)) rfl rfl ?_
        intro a fr
        refine dr_take_y 29 rfl (by kernel_rfl) (by kernel_rfl) (by kernel_rfl) (fun _ _ _ h => h) fr (wanted_of fr rfl rfl rfl rfl) (st.sub (.cons_cons _ (.cons_cons _ (.cons_cons _ (.cons_cons _ (.cons_cons _ (.cons_cons _ (.cons_cons _ (.cons_cons _ (.cons_cons _ .slnil)))))))))) (fun w st => rn_move (fr.ev rfl)) rfl rfl ?_
        intro a fr
        refine dr_take_y 31 rfl (by kernel_rfl) (by kernel_rfl) (by kernel_rfl) (fun _ _ _ h => h) fr (wanted_of fr rfl rfl rfl rfl) (st.sub (.cons_cons _ (.cons_cons _ (.cons_cons _ (.cons_cons _ (.cons_cons _ (.cons_cons _ (.cons_cons _ (.cons_cons _ (.cons_cons _ .slnil)))))))))) (fun w st => rn_move (fr.ev rfl)) rfl rfl ?_
        intro a fr
        refine dr_take_y 33 rfl (by kernel_rfl) (by kernel_rfl) (by kernel_rfl) (fun _ _ _ h => h) fr (wanted_of fr rfl rfl rfl rfl) (st.sub (.cons_cons _ (.cons_cons _ (.cons_cons _ (.cons_cons _ (.cons_cons _ (.cons_cons _ (.cons_cons _ (.cons_cons _ (.cons_cons _ .slnil)))))))))) (fun w st => fa_33_2 (fr.ev rfl)) rfl rfl ?_
        intro a fr
        refine dr_take_y 34 rfl (by kernel_rfl) (by kernel_rfl) (by kernel_rfl) (fun _ _ _ h => h) fr (wanted_of fr rfl rfl rfl rfl) (st.sub (.cons_cons _ (.cons_cons _ (.cons_cons _ (.cons_cons _ (.cons_cons _ (.cons_cons _ (.cons_cons _ (.cons_cons _ (.cons_cons _ .slnil)))))))))) (fun w st => rn_load (fr.ev rfl) Try.underlying3 rfl (st.cell 7 rfl rfl)) rfl rfl ?_
        intro a fr
        refine dr_one_y 30 (by kernel_rfl) rfl (wanted_of fr rfl rfl rfl rfl) (ow_call fr rfl rfl Try.call18 (order_calls _ _) rfl rfl ?_)
        rintro e w ⟨q2, rfl, st2, hnw⟩
        refine ⟨_, rfl, ?_⟩
        intro a fr
        have st := st.join st2 (by intro it hi b hb; simp at hi; subst hi; simp [It.fp] at hb; subst hb; exact hnw)
        clear st2 hnw
        replace st : St _ [] w [.blk q2 [.pointer (some ⟨g, 0, none⟩)] 23, ro rg 0 [.slice B1 ns.length d1, .slice B2 ss.length d2], els CS 1 B1 ns, els CI 1 B2 ss, ro g 0 [.slice A1 ns.length c1, .slice A2 ss.length c2, (.map (some m))], els CS 1 A1 ns, els CI 1 A2 ss, mapRo kS vN m ((mL ns)), .blk b1 [.int .i64 (pa), .int .i64 (pb), .int .i64 (pc)] 33, els lineC 2 LA l] := st
        refine ⟨st.sub (.cons _ (.cons_cons _ (.cons_cons _ (.cons_cons _ (.cons_cons _ (.cons_cons _ (.cons_cons _ (.cons_cons _ (.cons_cons _ (.cons_cons _ .slnil)))))))))), ?_⟩
        refine dr_one_y 32 (by kernel_rfl) rfl (wanted_of fr rfl rfl rfl rfl) (ow_call fr rfl rfl Try.call19 (rorder_calls rg _ _ d1 d2 ns ss hf _ (rhok3 (st.get 1 rfl) (st.get 2 rfl) (st.get 3 rfl))) rfl rfl ?_)
        rintro e w ⟨OA3, oc4, rfl, hrow, hag⟩
        refine ⟨_, rfl, ?_⟩
        intro a fr
        have st := st.call_row hag hrow
        clear hag hrow
        replace st : St _ [] w [row CI 1 3 w0.heap.size (.slice OA3 ((oI ss ns.length (ns.length + 1) 0).length) oc4) ((oI ss ns.length (ns.length + 1) 0)), .blk q2 [.pointer (some ⟨g, 0, none⟩)] 23, ro rg 0 [.slice B1 ns.length d1, .slice B2 ss.length d2], els CS 1 B1 ns, els CI 1 B2 ss, ro g 0 [.slice A1 ns.length c1, .slice A2 ss.length c2, (.map (some m))], els CS 1 A1 ns, els CI 1 A2 ss, mapRo kS vN m ((mL ns)), .blk b1 [.int .i64 (pa), .int .i64 (pb), .int .i64 (pc)] 33, els lineC 2 LA l] := st
        refine ⟨st.sub (.cons _ (.cons _ (.cons_cons _ (.cons_cons _ (.cons_cons _ (.cons_cons _ (.cons_cons _ (.cons_cons _ (.cons_cons _ (.cons_cons _ (.cons_cons _ .slnil))))))))))), ?_⟩
        refine dr_one_y 35 (by kernel_rfl) rfl (wanted_of fr rfl rfl rfl rfl) (ow_call fr rfl rfl Try.call17 (tells_order hf pc _ _ (st5_of (st.get 1 rfl) (hok4 (st.get 5 rfl) (st.get 6 rfl) (st.get 7 rfl) (st.get 8 rfl))) (row_els CI_len (st.get 0 rfl).1)) rfl rfl ?_)
        rintro e w ⟨rfl, hag⟩
        refine ⟨_, rfl, ?_⟩
        intro a fr
        have st := st.keep hag
        clear hag
        refine ⟨st.sub (.cons _ (.cons _ (.cons_cons _ (.cons_cons _ (.cons_cons _ (.cons_cons _ (.cons_cons _ (.cons_cons _ (.cons_cons _ (.cons_cons _ (.cons_cons _ .slnil))))))))))), ?_⟩
        refine dr_take 36 rfl (by kernel_rfl) (by kernel_rfl) (by kernel_rfl) (fun _ _ _ h => h) fr rfl (st.sub (.cons _ (.cons _ (.cons_cons _ (.cons_cons _ (.cons_cons _ (.cons_cons _ (.cons_cons _ (.cons_cons _ (.cons_cons _ (.cons_cons _ (.cons_cons _ .slnil)))))))))))) (fun w st => rn_pick_t (fr.ev rfl) (fr.ev rfl)) rfl rfl ?_
        intro a fr
        refine dr_take 37 rfl (by kernel_rfl) (by kernel_rfl) (by kernel_rfl) (fun _ _ _ h => h) fr rfl (st.sub (.cons _ (.cons _ (.cons_cons _ (.cons_cons _ (.cons_cons _ (.cons_cons _ (.cons_cons _ (.cons_cons _ (.cons_cons _ (.cons_cons _ (.cons_cons _ .slnil)))))))))))) (fun w st => rn_move (fr.ev rfl)) rfl rfl ?_
        intro a fr
        refine dr_take_y 38 rfl (by kernel_rfl) (by kernel_rfl) (by kernel_rfl) (fun _ _ _ h => h) fr (wanted_of fr rfl rfl rfl rfl) (st.sub (.cons _ (.cons _ (.cons_cons _ (.cons_cons _ (.cons_cons _ (.cons_cons _ (.cons_cons _ (.cons_cons _ (.cons_cons _ (.cons_cons _ (.cons_cons _ .slnil)))))))))))) (fun w st => rn_move (fr.ev rfl)) rfl rfl ?_
        intro a fr
        refine dr_take_y 40 rfl (by kernel_rfl) (by kernel_rfl) (by kernel_rfl) (fun _ _ _ h => h) fr (wanted_of fr rfl rfl rfl rfl) (st.sub (.cons _ (.cons _ (.cons_cons _ (.cons_cons _ (.cons_cons _ (.cons_cons _ (.cons_cons _ (.cons_cons _ (.cons_cons _ (.cons_cons _ (.cons_cons _ .slnil)))))))))))) (fun w st => rn_move (fr.ev rfl)) rfl rfl ?_
        intro a fr
        refine dr_one_y 39 (by kernel_rfl) rfl (wanted_of fr rfl rfl rfl rfl) (ow_call fr rfl rfl Try.call18 (order_calls _ _) rfl rfl ?_)
        rintro e w ⟨q5, rfl, st2, hnw⟩
        refine ⟨_, rfl, ?_⟩
        intro a fr
        have st := st.join st2 (by intro it hi b hb; simp at hi; subst hi; simp [It.fp] at hb; subst hb; exact hnw)
        clear st2 hnw
        replace st : St _ [] w [.blk q5 [.pointer (some ⟨g, 0, none⟩)] 23, row CI 1 3 w0.heap.size (.slice OA3 ((oI ss ns.length (ns.length + 1) 0).length) oc4) ((oI ss ns.length (ns.length + 1) 0)), .blk q2 [.pointer (some ⟨g, 0, none⟩)] 23, ro rg 0 [.slice B1 ns.length d1, .slice B2 ss.length d2], els CS 1 B1 ns, els CI 1 B2 ss, ro g 0 [.slice A1 ns.length c1, .slice A2 ss.length c2, (.map (some m))], els CS 1 A1 ns, els CI 1 A2 ss, mapRo kS vN m ((mL ns)), .blk b1 [.int .i64 (pa), .int .i64 (pb), .int .i64 (pc)] 33, els lineC 2 LA l] := st
        refine ⟨st.sub (.cons _ (.cons _ (.cons _ (.cons_cons _ (.cons_cons _ (.cons_cons _ (.cons_cons _ (.cons_cons _ (.cons_cons _ (.cons_cons _ (.cons_cons _ (.cons_cons _ .slnil)))))))))))), ?_⟩
        refine dr_one_y 41 (by kernel_rfl) rfl (wanted_of fr rfl rfl rfl rfl) (ow_call fr rfl rfl Try.call19 (rorder_calls rg _ _ d1 d2 ns ss hf _ (rhok3 (st.get 3 rfl) (st.get 4 rfl) (st.get 5 rfl))) rfl rfl ?_)
        rintro e w ⟨OA6, oc7, rfl, hrow, hag⟩
        refine ⟨_, rfl, ?_⟩
        intro a fr
        have st := st.call_row hag hrow
        clear hag hrow
        replace st : St _ [] w [row CI 1 3 w0.heap.size (.slice OA6 ((oI ss ns.length (ns.length + 1) 0).length) oc7) ((oI ss ns.length (ns.length + 1) 0)), .blk q5 [.pointer (some ⟨g, 0, none⟩)] 23, row CI 1 3 w0.heap.size (.slice OA3 ((oI ss ns.length (ns.length + 1) 0).length) oc4) ((oI ss ns.length (ns.length + 1) 0)), .blk q2 [.pointer (some ⟨g, 0, none⟩)] 23, ro rg 0 [.slice B1 ns.length d1, .slice B2 ss.length d2], els CS 1 B1 ns, els CI 1 B2 ss, ro g 0 [.slice A1 ns.length c1, .slice A2 ss.length c2, (.map (some m))], els CS 1 A1 ns, els CI 1 A2 ss, mapRo kS vN m ((mL ns)), .blk b1 [.int .i64 (pa), .int .i64 (pb), .int .i64 (pc)] 33, els lineC 2 LA l] := st
        refine ⟨st.sub (.cons _ (.cons _ (.cons _ (.cons _ (.cons_cons _ (.cons_cons _ (.cons_cons _ (.cons_cons _ (.cons_cons _ (.cons_cons _ (.cons_cons _ (.cons_cons _ (.cons_cons _ .slnil))))))))))))), ?_⟩
        refine dr_one_y 42 (by kernel_rfl) rfl (wanted_of fr rfl rfl rfl rfl) (ow_call fr rfl rfl Try.call17 (tells_order hf 0 _ _ (st5_of (st.get 1 rfl) (hok4 (st.get 7 rfl) (st.get 8 rfl) (st.get 9 rfl) (st.get 10 rfl))) (row_els CI_len (st.get 0 rfl).1)) rfl rfl ?_)
        rintro e w ⟨rfl, hag⟩
        refine ⟨_, rfl, ?_⟩
        intro a fr
        have st := st.keep hag
        clear hag
        refine ⟨st.sub (.cons _ (.cons _ (.cons _ (.cons _ (.cons_cons _ (.cons_cons _ (.cons_cons _ (.cons_cons _ (.cons_cons _ (.cons_cons _ (.cons_cons _ (.cons_cons _ (.cons_cons _ .slnil))))))))))))), ?_⟩
        refine dr_take 43 rfl (by kernel_rfl) (by kernel_rfl) (by kernel_rfl) (fun _ _ _ h => h) fr rfl (st.sub (.cons _ (.cons _ (.cons _ (.cons _ (.cons_cons _ (.cons_cons _ (.cons_cons _ (.cons_cons _ (.cons_cons _ (.cons_cons _ (.cons_cons _ (.cons_cons _ (.cons_cons _ .slnil)))))))))))))) (fun w st => rn_pick_t (fr.ev rfl) (fr.ev rfl)) rfl rfl ?_
        intro a fr
        refine dr_take 44 rfl (by kernel_rfl) (by kernel_rfl) (by kernel_rfl) (fun _ _ _ h => h) fr rfl (st.sub (.cons _ (.cons _ (.cons _ (.cons _ (.cons_cons _ (.cons_cons _ (.cons_cons _ (.cons_cons _ (.cons_cons _ (.cons_cons _ (.cons_cons _ (.cons_cons _ (.cons_cons _ .slnil)))))))))))))) (fun w st => rn_assign (fr.ev rfl)) rfl rfl ?_
        intro a fr
        refine dr_done (by kernel_rfl) ?_
        refine then_n ?_
        refine wp_ret ?_
        refine ret1 Try.results5 fr (rv_tmp fr rfl) ?_
        exact ⟨rfl, st.agr.below⟩
      · refine dr_start (by kernel_rfl) st (.cons_cons _ (.cons_cons _ (.cons_cons _ (.cons_cons _ (.cons_cons _ (.cons_cons _ (.cons_cons _ (.cons_cons _ (.cons_cons _ .slnil))))))))) ?_
        intro w st
        refine dr_take 0 rfl (by kernel_rfl) (by kernel_rfl) (by kernel_rfl) (fun _ _ _ h => h) fr rfl (st.sub (.cons_cons _ (.cons_cons _ (.cons_cons _ (.cons_cons _ (.cons_cons _ (.cons_cons _ (.cons_cons _ (.cons_cons _ (.cons_cons _ .slnil)))))))))) (fun w st => rn_move (fr.ev rfl)) rfl rfl ?_
        intro a fr
        refine dr_take 1 rfl (by kernel_rfl) (by kernel_rfl) (by kernel_rfl) (fun _ _ _ h => h) fr rfl (st.sub (.cons_cons _ (.cons_cons _ (.cons_cons _ (.cons_cons _ (.cons_cons _ (.cons_cons _ (.cons_cons _ (.cons_cons _ (.cons_cons _ .slnil)))))))))) (fun w st => fa_33_0 (fr.ev rfl)) rfl rfl ?_
        intro a fr
        refine dr_take 2 rfl (by kernel_rfl) (by kernel_rfl) (by kernel_rfl) (fun _ _ _ h => h) fr rfl (st.sub (.cons_cons _ (.cons_cons _ (.cons_cons _ (.cons_cons _ (.cons_cons _ (.cons_cons _ (.cons_cons _ (.cons_cons _ (.cons_cons _ .slnil)))))))))) (fun w st => rn_load (fr.ev rfl) Try.underlying3 rfl (st.cell 7 rfl rfl)) rfl rfl ?_
        intro a fr
        refine dr_take 3 rfl (by kernel_rfl) (by kernel_rfl) (by kernel_rfl) (fun _ _ _ h => h) fr rfl (st.sub (.cons_cons _ (.cons_cons _ (.cons_cons _ (.cons_cons _ (.cons_cons _ (.cons_cons _ (.cons_cons _ (.cons_cons _ (.cons_cons _ .slnil)))))))))) (fun w st => fa_33_1 (fr.ev rfl)) rfl rfl ?_
        intro a fr
        refine dr_take 4 rfl (by kernel_rfl) (by kernel_rfl) (by kernel_rfl) (fun _ _ _ h => h) fr rfl (st.sub (.cons_cons _ (.cons_cons _ (.cons_cons _ (.cons_cons _ (.cons_cons _ (.cons_cons _ (.cons_cons _ (.cons_cons _ (.cons_cons _ .slnil)))))))))) (fun w st => rn_load (fr.ev rfl) Try.underlying3 rfl (st.cell 7 rfl rfl)) rfl rfl ?_
        intro a fr
        refine dr_take 6 rfl (by kernel_rfl) (by kernel_rfl) (by kernel_rfl) (fun _ _ _ h => h) fr rfl (st.sub (.cons_cons _ (.cons_cons _ (.cons_cons _ (.cons_cons _ (.cons_cons _ (.cons_cons _ (.cons_cons _ (.cons_cons _ (.cons_cons _ .slnil)))))))))) (fun w st => rn_move (fr.ev rfl)) rfl rfl ?_
        intro a fr
        refine dr_take 7 rfl (by kernel_rfl) (by kernel_rfl) (by kernel_rfl) (fun _ _ _ h => h) fr rfl (st.sub (.cons_cons _ (.cons_cons _ (.cons_cons _ (.cons_cons _ (.cons_cons _ (.cons_cons _ (.cons_cons _ (.cons_cons _ (.cons_cons _ .slnil)))))))))) (fun w st => fa_33_0 (fr.ev rfl)) rfl rfl ?_
        intro a fr
        refine dr_take 8 rfl (by kernel_rfl) (by kernel_rfl) (by kernel_rfl) (fun _ _ _ h => h) fr rfl (st.sub (.cons_cons _ (.cons_cons _ (.cons_cons _ (.cons_cons _ (.cons_cons _ (.cons_cons _ (.cons_cons _ (.cons_cons _ (.cons_cons _ .slnil)))))))))) (fun w st => rn_load (fr.ev rfl) Try.underlying3 rfl (st.cell 7 rfl rfl)) rfl rfl ?_
        intro a fr
        refine dr_take 9 rfl (by kernel_rfl) (by kernel_rfl) (by kernel_rfl) (fun _ _ _ h => h) fr rfl (st.sub (.cons_cons _ (.cons_cons _ (.cons_cons _ (.cons_cons _ (.cons_cons _ (.cons_cons _ (.cons_cons _ (.cons_cons _ (.cons_cons _ .slnil)))))))))) (fun w st => fa_33_1 (fr.ev rfl)) rfl rfl ?_
        intro a fr
        refine dr_take 10 rfl (by kernel_rfl) (by kernel_rfl) (by kernel_rfl) (fun _ _ _ h => h) fr rfl (st.sub (.cons_cons _ (.cons_cons _ (.cons_cons _ (.cons_cons _ (.cons_cons _ (.cons_cons _ (.cons_cons _ (.cons_cons _ (.cons_cons _ .slnil)))))))))) (fun w st => rn_load (fr.ev rfl) Try.underlying3 rfl (st.cell 7 rfl rfl)) rfl rfl ?_
        intro a fr
        refine dr_one 5 (by kernel_rfl) rfl rfl (ow_call fr rfl rfl Try.call10 (under_t g m _ _ c1 c2 ns ss hf pa pb hU _ (hok4 (st.get 3 rfl) (st.get 4 rfl) (st.get 5 rfl) (st.get 6 rfl))) rfl rfl ?_)
        rintro e w ⟨rfl, hag⟩
        refine ⟨_, rfl, ?_⟩
        intro a fr
        have st := st.keep hag
        clear hag
        refine ⟨st.sub (.cons_cons _ (.cons_cons _ (.cons_cons _ (.cons_cons _ (.cons_cons _ (.cons_cons _ (.cons_cons _ (.cons_cons _ (.cons_cons _ .slnil))))))))), ?_⟩
        refine dr_one 11 (by kernel_rfl) rfl rfl (ow_call fr rfl rfl Try.call15 (runder_t rg _ _ d1 d2 ns ss hf pa pb hU _ (rhok3 (st.get 0 rfl) (st.get 1 rfl) (st.get 2 rfl))) rfl rfl ?_)
        rintro e w ⟨rfl, hag⟩
        refine ⟨_, rfl, ?_⟩
        intro a fr
        have st := st.keep hag
        clear hag
        refine ⟨st.sub (.cons_cons _ (.cons_cons _ (.cons_cons _ (.cons_cons _ (.cons_cons _ (.cons_cons _ (.cons_cons _ (.cons_cons _ (.cons_cons _ .slnil))))))))), ?_⟩
        refine dr_take 12 rfl (by kernel_rfl) (by kernel_rfl) (by kernel_rfl) (fun _ _ _ h => h) fr rfl (st.sub (.cons_cons _ (.cons_cons _ (.cons_cons _ (.cons_cons _ (.cons_cons _ (.cons_cons _ (.cons_cons _ (.cons_cons _ (.cons_cons _ .slnil)))))))))) (fun w st => rn_as (v' := .bool true) (rn_eqb (fr.ev rfl) (fr.ev rfl) Try.underlying4) (congrArg Value.bool (rfl))) rfl rfl ?_
        intro a fr
        refine dr_take 13 rfl (by kernel_rfl) (by kernel_rfl) (by kernel_rfl) (fun _ _ _ h => h) fr rfl (st.sub (.cons_cons _ (.cons_cons _ (.cons_cons _ (.cons_cons _ (.cons_cons _ (.cons_cons _ (.cons_cons _ (.cons_cons _ (.cons_cons _ .slnil)))))))))) (fun w st => rn_move (fr.ev rfl)) rfl rfl ?_
        intro a fr
        refine dr_take_y 14 rfl (by kernel_rfl) (by kernel_rfl) (by kernel_rfl) (fun _ _ _ h => h) fr (wanted_of fr rfl rfl rfl rfl) (st.sub (.cons_cons _ (.cons_cons _ (.cons_cons _ (.cons_cons _ (.cons_cons _ (.cons_cons _ (.cons_cons _ (.cons_cons _ (.cons_cons _ .slnil)))))))))) (fun w st => rn_move (fr.ev rfl)) rfl rfl ?_
        intro a fr
        refine dr_take_y 15 rfl (by kernel_rfl) (by kernel_rfl) (by kernel_rfl) (fun _ _ _ h => h) fr (wanted_of fr rfl rfl rfl rfl) (st.sub (.cons_cons _ (.cons_cons _ (.cons_cons _ (.cons_cons _ (.cons_cons _ (.cons_cons _ (.cons_cons _ (.cons_cons _ (.cons_cons _ .slnil)))))))))) (fun w st => fa_33_0 (fr.ev rfl)) rfl rfl ?_
        intro a fr
        refine dr_take_y 16 rfl (by kernel_rfl) (by kernel_rfl) (by kernel_rfl) (fun _ _ _ h => h) fr (wanted_of fr rfl rfl rfl rfl) (st.sub (.cons_cons _ (.cons_cons _ (.cons_cons _ (.cons_cons _ (.cons_cons _ (.cons_cons _ (.cons_cons _ (.cons_cons _ (.cons_cons _ .slnil)))))))))) (fun w st => rn_load (fr.ev rfl) Try.underlying3 rfl (st.cell 7 rfl rfl)) rfl rfl ?_
        intro a fr
        refine dr_take_y 17 rfl (by kernel_rfl) (by kernel_rfl) (by kernel_rfl) (fun _ _ _ h => h) fr (wanted_of fr rfl rfl rfl rfl) (st.sub (.cons_cons _ (.cons_cons _ (.cons_cons _ (.cons_cons _ (.cons_cons _ (.cons_cons _ (.cons_cons _ (.cons_cons _ (.cons_cons _ .slnil)))))))))) (fun w st => fa_33_1 (fr.ev rfl)) rfl rfl ?_
        intro a fr
        refine dr_take_y 18 rfl (by kernel_rfl) (by kernel_rfl) (by kernel_rfl) (fun _ _ _ h => h) fr (wanted_of fr rfl rfl rfl rfl) (st.sub (.cons_cons _ (.cons_cons _ (.cons_cons _ (.cons_cons _ (.cons_cons _ (.cons_cons _ (.cons_cons _ (.cons_cons _ (.cons_cons _ .slnil)))))))))) (fun w st => rn_load (fr.ev rfl) Try.underlying3 rfl (st.cell 7 rfl rfl)) rfl rfl ?_
        intro a fr
        refine dr_take_y 20 rfl (by kernel_rfl) (by kernel_rfl) (by kernel_rfl) (fun _ _ _ h => h) fr (wanted_of fr rfl rfl rfl rfl) (st.sub (.cons_cons _ (.cons_cons _ (.cons_cons _ (.cons_cons _ (.cons_cons _ (.cons_cons _ (.cons_cons _ (.cons_cons _ (.cons_cons _ .slnil)))))))))) (fun w st => rn_move (fr.ev rfl)) rfl rfl ?_
        intro a fr
        refine dr_take_y 21 rfl (by kernel_rfl) (by kernel_rfl) (by kernel_rfl) (fun _ _ _ h => h) fr (wanted_of fr rfl rfl rfl rfl) (st.sub (.cons_cons _ (.cons_cons _ (.cons_cons _ (.cons_cons _ (.cons_cons _ (.cons_cons _ (.cons_cons _ (.cons_cons _ (.cons_cons _ .slnil)))))))))) (fun w st => fa_33_0 (fr.ev rfl)) rfl rfl ?_
        intro a fr
        refine dr_take_y 22 rfl (by kernel_rfl) (by kernel_rfl) (by kernel_rfl) (fun _ _ _ h => h) fr (wanted_of fr rfl rfl rfl rfl) (st.sub (.cons_cons _ (.cons_cons _ (.cons_cons _ (.cons_cons _ (.cons_cons _ (.cons_cons _ (.cons_cons _ (.cons_cons _ (.cons_cons _ .slnil)))))))))) (fun w st => rn_load (fr.ev rfl) Try.underlying3 rfl (st.cell 7 rfl rfl)) rfl rfl ?_
        intro a fr
        refine dr_take_y 23 rfl (by kernel_rfl) (by kernel_rfl) (by kernel_rfl) (fun _ _ _ h => h) fr (wanted_of fr rfl rfl rfl rfl) (st.sub (.cons_cons _ (.cons_cons _ (.cons_cons _ (.cons_cons _ (.cons_cons _ (.cons_cons _ (.cons_cons _ (.cons_cons _ (.cons_cons _ .slnil)))))))))) (fun w st => fa_33_1 (fr.ev rfl)) rfl rfl ?_
        intro a fr
        refine dr_take_y 24 rfl (by kernel_rfl) (by kernel_rfl) (by kernel_rfl) (fun _ _ _ h => h) fr (wanted_of fr rfl rfl rfl rfl) (st.sub (.cons_cons _ (.cons_cons _ (.cons_cons _ (.cons_cons _ (.cons_cons _ (.cons_cons _ (.cons_cons _ (.cons_cons _ (.cons_cons _ .slnil)))))))))) (fun w st => rn_load (fr.ev rfl) Try.underlying3 rfl (st.cell 7 rfl rfl)) rfl rfl ?_
        intro a fr
        refine dr_one_y 19 (by kernel_rfl) rfl (wanted_of fr rfl rfl rfl rfl) (ow_call fr rfl rfl Try.call13 (common_f g m _ _ c1 c2 ns ss pa pb hr _ (hok4 (st.get 3 rfl) (st.get 4 rfl) (st.get 5 rfl) (st.get 6 rfl))) rfl rfl ?_)
        rintro e w ⟨rfl, hag⟩
        refine ⟨_, rfl, ?_⟩
        intro a fr
        have st := st.keep hag
        clear hag
        refine ⟨st.sub (.cons_cons _ (.cons_cons _ (.cons_cons _ (.cons_cons _ (.cons_cons _ (.cons_cons _ (.cons_cons _ (.cons_cons _ (.cons_cons _ .slnil))))))))), ?_⟩
        refine dr_one_y 25 (by kernel_rfl) rfl (wanted_of fr rfl rfl rfl rfl) (ow_call fr rfl rfl Try.call16 (rcommon_f rg _ _ d1 d2 ns ss pa pb hr _ (rhok3 (st.get 0 rfl) (st.get 1 rfl) (st.get 2 rfl))) rfl rfl ?_)
        rintro e w ⟨rfl, hag⟩
        refine ⟨_, rfl, ?_⟩
        intro a fr
        have st := st.keep hag
        clear hag
        refine ⟨st.sub (.cons_cons _ (.cons_cons _ (.cons_cons _ (.cons_cons _ (.cons_cons _ (.cons_cons _ (.cons_cons _ (.cons_cons _ (.cons_cons _ .slnil))))))))), ?_⟩
        refine dr_take_y 26 rfl (by kernel_rfl) (by kernel_rfl) (by kernel_rfl) (fun _ _ _ h => h) fr (wanted_of fr rfl rfl rfl rfl) (st.sub (.cons_cons _ (.cons_cons _ (.cons_cons _ (.cons_cons _ (.cons_cons _ (.cons_cons _ (.cons_cons _ (.cons_cons _ (.cons_cons _ .slnil)))))))))) (fun w st => rn_as (rn_eql (fr.ev rfl) (fr.ev rfl)) (by rfl)) rfl rfl ?_
        intro a fr
        refine dr_take 27 rfl (by kernel_rfl) (by kernel_rfl) (by kernel_rfl) (fun _ _ _ h => h) fr rfl (st.sub (.cons_cons _ (.cons_cons _ (.cons_cons _ (.cons_cons _ (.cons_cons _ (.cons_cons _ (.cons_cons _ (.cons_cons _ (.cons_cons _ .slnil)))))))))) (fun w st => rn_pick_t (fr.ev rfl) (fr.ev rfl)) rfl rfl ?_
        intro a fr
        refine dr_take 28 rfl (by kernel_rfl) (by kernel_rfl) (by kernel_rfl) (fun _ _ _ h => h) fr rfl (st.sub (.cons_cons _ (.cons_cons _ (.cons_cons _ (.cons_cons _ (.cons_cons _ (.cons_cons _ (.cons_cons _ (.cons_cons _ (.cons_cons _ .slnil)))))))))) (fun w st => rn_move (fr.ev rfl)) rfl rfl ?_
        intro a fr
        refine dr_take_y 29 rfl (by kernel_rfl) (by kernel_rfl) (by kernel_rfl) (fun _ _ _ h => h) fr (wanted_of fr rfl rfl rfl rfl) (st.sub (.cons_cons _ (.cons_cons _ (.cons_cons _ (.cons_cons _ (.cons_cons _ (.cons_cons _ (.cons_cons _ (.cons_cons _ (.cons_cons _ .slnil)))))))))) (fun w st => rn_move (fr.ev rfl)) rfl rfl ?_
        intro a fr
        refine dr_take_y 31 rfl (by kernel_rfl) (by kernel_rfl) (by kernel_rfl) (fun _ _ _ h => h) fr (wanted_of fr rfl rfl rfl rfl) (st.sub (.cons_cons _ (.cons_cons _ (.cons_cons _ (.cons_cons _ (.cons_cons _ (.cons_cons _ (.cons_cons _ (.cons_cons _ (.cons_cons _ .slnil)))))))))) (fun w st => rn_move (fr.ev rfl)) rfl rfl ?_
        intro a fr
        refine dr_take_y 33 rfl (by kernel_rfl) (by kernel_rfl) (by kernel_rfl) (fun _ _ _ h => h) fr (wanted_of fr rfl rfl rfl rfl) (st.sub (.cons_cons _ (.cons_cons _ (.cons_cons _ (.cons_cons _ (.cons_cons _ (.cons_cons _ (.cons_cons _ (.cons_cons _ (.cons_cons _ .slnil)))))))))) (fun w st => fa_33_2 (fr.ev rfl)) rfl rfl ?_
        intro a fr
        refine dr_take_y 34 rfl (by kernel_rfl) (by kernel_rfl) (by kernel_rfl) (fun _ _ _ h => h) fr (wanted_of fr rfl rfl rfl rfl) (st.sub (.cons_cons _ (.cons_cons _ (.cons_cons _ (.cons_cons _ (.cons_cons _ (.cons_cons _ (.cons_cons _ (.cons_cons _ (.cons_cons _ .slnil)))))))))) (fun w st => rn_load (fr.ev rfl) Try.underlying3 rfl (st.cell 7 rfl rfl)) rfl rfl ?_
        intro a fr
        refine dr_one_y 30 (by kernel_rfl) rfl (wanted_of fr rfl rfl rfl rfl) (ow_call fr rfl rfl Try.call18 (order_calls _ _) rfl rfl ?_)
        rintro e w ⟨q8, rfl, st2, hnw⟩
        refine ⟨_, rfl, ?_⟩
        intro a fr
        have st := st.join st2 (by intro it hi b hb; simp at hi; subst hi; simp [It.fp] at hb; subst hb; exact hnw)
        clear st2 hnw
        replace st : St _ [] w [.blk q8 [.pointer (some ⟨g, 0, none⟩)] 23, ro rg 0 [.slice B1 ns.length d1, .slice B2 ss.length d2], els CS 1 B1 ns, els CI 1 B2 ss, ro g 0 [.slice A1 ns.length c1, .slice A2 ss.length c2, (.map (some m))], els CS 1 A1 ns, els CI 1 A2 ss, mapRo kS vN m ((mL ns)), .blk b1 [.int .i64 (pa), .int .i64 (pb), .int .i64 (pc)] 33, els lineC 2 LA l] := st
        refine ⟨st.sub (.cons _ (.cons_cons _ (.cons_cons _ (.cons_cons _ (.cons_cons _ (.cons_cons _ (.cons_cons _ (.cons_cons _ (.cons_cons _ (.cons_cons _ .slnil)))))))))), ?_⟩
        refine dr_one_y 32 (by kernel_rfl) rfl (wanted_of fr rfl rfl rfl rfl) (ow_call fr rfl rfl Try.call19 (rorder_calls rg _ _ d1 d2 ns ss hf _ (rhok3 (st.get 1 rfl) (st.get 2 rfl) (st.get 3 rfl))) rfl rfl ?_)
        rintro e w ⟨OA9, oc10, rfl, hrow, hag⟩
        refine ⟨_, rfl, ?_⟩
        intro a fr
        have st := st.call_row hag hrow
        clear hag hrow
        replace st : St _ [] w [row CI 1 3 w0.heap.size (.slice OA9 ((oI ss ns.length (ns.length + 1) 0).length) oc10) ((oI ss ns.length (ns.length + 1) 0)), .blk q8 [.pointer (some ⟨g, 0, none⟩)] 23, ro rg 0 [.slice B1 ns.length d1, .slice B2 ss.length d2], els CS 1 B1 ns, els CI 1 B2 ss, ro g 0 [.slice A1 ns.length c1, .slice A2 ss.length c2, (.map (some m))], els CS 1 A1 ns, els CI 1 A2 ss, mapRo kS vN m ((mL ns)), .blk b1 [.int .i64 (pa), .int .i64 (pb), .int .i64 (pc)] 33, els lineC 2 LA l] := st
        refine ⟨st.sub (.cons _ (.cons _ (.cons_cons _ (.cons_cons _ (.cons_cons _ (.cons_cons _ (.cons_cons _ (.cons_cons _ (.cons_cons _ (.cons_cons _ (.cons_cons _ .slnil))))))))))), ?_⟩
        refine dr_one_y 35 (by kernel_rfl) rfl (wanted_of fr rfl rfl rfl rfl) (ow_call fr rfl rfl Try.call17 (tells_order hf pc _ _ (st5_of (st.get 1 rfl) (hok4 (st.get 5 rfl) (st.get 6 rfl) (st.get 7 rfl) (st.get 8 rfl))) (row_els CI_len (st.get 0 rfl).1)) rfl rfl ?_)
        rintro e w ⟨rfl, hag⟩
        refine ⟨_, rfl, ?_⟩
        intro a fr
        have st := st.keep hag
        clear hag
        refine ⟨st.sub (.cons _ (.cons _ (.cons_cons _ (.cons_cons _ (.cons_cons _ (.cons_cons _ (.cons_cons _ (.cons_cons _ (.cons_cons _ (.cons_cons _ (.cons_cons _ .slnil))))))))))), ?_⟩
        refine dr_take 36 rfl (by kernel_rfl) (by kernel_rfl) (by kernel_rfl) (fun _ _ _ h => h) fr rfl (st.sub (.cons _ (.cons _ (.cons_cons _ (.cons_cons _ (.cons_cons _ (.cons_cons _ (.cons_cons _ (.cons_cons _ (.cons_cons _ (.cons_cons _ (.cons_cons _ .slnil)))))))))))) (fun w st => rn_pick_t (fr.ev rfl) (fr.ev rfl)) rfl rfl ?_
        intro a fr
        refine dr_take 37 rfl (by kernel_rfl) (by kernel_rfl) (by kernel_rfl) (fun _ _ _ h => h) fr rfl (st.sub (.cons _ (.cons _ (.cons_cons _ (.cons_cons _ (.cons_cons _ (.cons_cons _ (.cons_cons _ (.cons_cons _ (.cons_cons _ (.cons_cons _ (.cons_cons _ .slnil)))))))))))) (fun w st => rn_move (fr.ev rfl)) rfl rfl ?_
        intro a fr
        refine dr_take_y 38 rfl (by kernel_rfl) (by kernel_rfl) (by kernel_rfl) (fun _ _ _ h => h) fr (wanted_of fr rfl rfl rfl rfl) (st.sub (.cons _ (.cons _ (.cons_cons _ (.cons_cons _ (.cons_cons _ (.cons_cons _ (.cons_cons _ (.cons_cons _ (.cons_cons _ (.cons_cons _ (.cons_cons _ .slnil)))))))))))) (fun w st => rn_move (fr.ev rfl)) rfl rfl ?_
        intro a fr
        refine dr_take_y 40 rfl (by kernel_rfl) (by kernel_rfl) (by kernel_rfl) (fun _ _ _ h => h) fr (wanted_of fr rfl rfl rfl rfl) (st.sub (.cons _ (.cons _ (.cons_cons _ (.cons_cons _ (.cons_cons _ (.cons_cons _ (.cons_cons _ (.cons_cons _ (.cons_cons _ (.cons_cons _ (.cons_cons _ .slnil)))))))))))) (fun w st => rn_move (fr.ev rfl)) rfl rfl ?_
        intro a fr
        refine dr_one_y 39 (by kernel_rfl) rfl (wanted_of fr rfl rfl rfl rfl) (ow_call fr rfl rfl Try.call18 (order_calls _ _) rfl rfl ?_)
        rintro e w ⟨q11, rfl, st2, hnw⟩
        refine ⟨_, rfl, ?_⟩
        intro a fr
        have st := st.join st2 (by intro it hi b hb; simp at hi; subst hi; simp [It.fp] at hb; subst hb; exact hnw)
        clear st2 hnw
        replace st : St _ [] w [.blk q11 [.pointer (some ⟨g, 0, none⟩)] 23, row CI 1 3 w0.heap.size (.slice OA9 ((oI ss ns.length (ns.length + 1) 0).length) oc10) ((oI ss ns.length (ns.length + 1) 0)), .blk q8 [.pointer (some ⟨g, 0, none⟩)] 23, ro rg 0 [.slice B1 ns.length d1, .slice B2 ss.length d2], els CS 1 B1 ns, els CI 1 B2 ss, ro g 0 [.slice A1 ns.length c1, .slice A2 ss.length c2, (.map (some m))], els CS 1 A1 ns, els CI 1 A2 ss, mapRo kS vN m ((mL ns)), .blk b1 [.int .i64 (pa), .int .i64 (pb), .int .i64 (pc)] 33, els lineC 2 LA l] := st
        refine ⟨st.sub (.cons _ (.cons _ (.cons _ (.cons_cons _ (.cons_cons _ (.cons_cons _ (.cons_cons _ (.cons_cons _ (.cons_cons _ (.cons_cons _ (.cons_cons _ (.cons_cons _ .slnil)))))))))))), ?_⟩
        refine dr_one_y 41 (by kernel_rfl) rfl (wanted_of fr rfl rfl rfl rfl) (ow_call fr rfl rfl Try.call19 (rorder_calls rg _ _ d1 d2 ns ss hf _ (rhok3 (st.get 3 rfl) (st.get 4 rfl) (st.get 5 rfl))) rfl rfl ?_)
        rintro e w ⟨OA12, oc13, rfl, hrow, hag⟩
        refine ⟨_, rfl, ?_⟩
        intro a fr
        have st := st.call_row hag hrow
        clear hag hrow
        replace st : St _ [] w [row CI 1 3 w0.heap.size (.slice OA12 ((oI ss ns.length (ns.length + 1) 0).length) oc13) ((oI ss ns.length (ns.length + 1) 0)), .blk q11 [.pointer (some ⟨g, 0, none⟩)] 23, row CI 1 3 w0.heap.size (.slice OA9 ((oI ss ns.length (ns.length + 1) 0).length) oc10) ((oI ss ns.length (ns.length + 1) 0)), .blk q8 [.pointer (some ⟨g, 0, none⟩)] 23, ro rg 0 [.slice B1 ns.length d1, .slice B2 ss.length d2], els CS 1 B1 ns, els CI 1 B2 ss, ro g 0 [.slice A1 ns.length c1, .slice A2 ss.length c2, (.map (some m))], els CS 1 A1 ns, els CI 1 A2 ss, mapRo kS vN m ((mL ns)), .blk b1 [.int .i64 (pa), .int .i64 (pb), .int .i64 (pc)] 33, els lineC 2 LA l] := st
        refine ⟨st.sub (.cons _ (.cons _ (.cons _ (.cons _ (.cons_cons _ (.cons_cons _ (.cons_cons _ (.cons_cons _ (.cons_cons _ (.cons_cons _ (.cons_cons _ (.cons_cons _ (.cons_cons _ .slnil))))))))))))), ?_⟩
        refine dr_one_y 42 (by kernel_rfl) rfl (wanted_of fr rfl rfl rfl rfl) (ow_call fr rfl rfl Try.call17 (tells_order hf 0 _ _ (st5_of (st.get 1 rfl) (hok4 (st.get 7 rfl) (st.get 8 rfl) (st.get 9 rfl) (st.get 10 rfl))) (row_els CI_len (st.get 0 rfl).1)) rfl rfl ?_)
        rintro e w ⟨rfl, hag⟩
        refine ⟨_, rfl, ?_⟩
        intro a fr
        have st := st.keep hag
        clear hag
        refine ⟨st.sub (.cons _ (.cons _ (.cons _ (.cons _ (.cons_cons _ (.cons_cons _ (.cons_cons _ (.cons_cons _ (.cons_cons _ (.cons_cons _ (.cons_cons _ (.cons_cons _ (.cons_cons _ .slnil))))))))))))), ?_⟩
        refine dr_take 43 rfl (by kernel_rfl) (by kernel_rfl) (by kernel_rfl) (fun _ _ _ h => h) fr rfl (st.sub (.cons _ (.cons _ (.cons _ (.cons _ (.cons_cons _ (.cons_cons _ (.cons_cons _ (.cons_cons _ (.cons_cons _ (.cons_cons _ (.cons_cons _ (.cons_cons _ (.cons_cons _ .slnil)))))))))))))) (fun w st => rn_pick_t (fr.ev rfl) (fr.ev rfl)) rfl rfl ?_
        intro a fr
        refine dr_take 44 rfl (by kernel_rfl) (by kernel_rfl) (by kernel_rfl) (fun _ _ _ h => h) fr rfl (st.sub (.cons _ (.cons _ (.cons _ (.cons _ (.cons_cons _ (.cons_cons _ (.cons_cons _ (.cons_cons _ (.cons_cons _ (.cons_cons _ (.cons_cons _ (.cons_cons _ (.cons_cons _ .slnil)))))))))))))) (fun w st => rn_assign (fr.ev rfl)) rfl rfl ?_
        intro a fr
        refine dr_done (by kernel_rfl) ?_
        refine then_n ?_
        refine wp_ret ?_
        refine ret1 Try.results5 fr (rv_tmp fr rfl) ?_
        exact ⟨rfl, st.agr.below⟩
    · by_cases hr : (0 ≤ pa ∧ pa < ns.length) ∧ (0 ≤ pb ∧ pb < ns.length)
      · refine dr_start (by kernel_rfl) st (.cons_cons _ (.cons_cons _ (.cons_cons _ (.cons_cons _ (.cons_cons _ (.cons_cons _ (.cons_cons _ (.cons_cons _ (.cons_cons _ .slnil))))))))) ?_
        intro w st
        refine dr_take 0 rfl (by kernel_rfl) (by kernel_rfl) (by kernel_rfl) (fun _ _ _ h => h) fr rfl (st.sub (.cons_cons _ (.cons_cons _ (.cons_cons _ (.cons_cons _ (.cons_cons _ (.cons_cons _ (.cons_cons _ (.cons_cons _ (.cons_cons _ .slnil)))))))))) (fun w st => rn_move (fr.ev rfl)) rfl rfl ?_
        intro a fr
        refine dr_take 1 rfl (by kernel_rfl) (by kernel_rfl) (by kernel_rfl) (fun _ _ _ h => h) fr rfl (st.sub (.cons_cons _ (.cons_cons _ (.cons_cons _ (.cons_cons _ (.cons_cons _ (.cons_cons _ (.cons_cons _ (.cons_cons _ (.cons_cons _ .slnil)))))))))) (fun w st => fa_33_0 (fr.ev rfl)) rfl rfl ?_
        intro a fr
        refine dr_take 2 rfl (by kernel_rfl) (by kernel_rfl) (by kernel_rfl) (fun _ _ _ h => h) fr rfl (st.sub (.cons_cons _ (.cons_cons _ (.cons_cons _ (.cons_cons _ (.cons_cons _ (.cons_cons _ (.cons_cons _ (.cons_cons _ (.cons_cons _ .slnil)))))))))) (fun w st => rn_load (fr.ev rfl) Try.underlying3 rfl (st.cell 7 rfl rfl)) rfl rfl ?_
        intro a fr
        refine dr_take 3 rfl (by kernel_rfl) (by kernel_rfl) (by kernel_rfl) (fun _ _ _ h => h) fr rfl (st.sub (.cons_cons _ (.cons_cons _ (.cons_cons _ (.cons_cons _ (.cons_cons _ (.cons_cons _ (.cons_cons _ (.cons_cons _ (.cons_cons _ .slnil)))))))))) (fun w st => fa_33_1 (fr.ev rfl)) rfl rfl ?_
        intro a fr
        refine dr_take 4 rfl (by kernel_rfl) (by kernel_rfl) (by kernel_rfl) (fun _ _ _ h => h) fr rfl (st.sub (.cons_cons _ (.cons_cons _ (.cons_cons _ (.cons_cons _ (.cons_cons _ (.cons_cons _ (.cons_cons _ (.cons_cons _ (.cons_cons _ .slnil)))))))))) (fun w st => rn_load (fr.ev rfl) Try.underlying3 rfl (st.cell 7 rfl rfl)) rfl rfl ?_
        intro a fr
        refine dr_take 6 rfl (by kernel_rfl) (by kernel_rfl) (by kernel_rfl) (fun _ _ _ h => h) fr rfl (st.sub (.cons_cons _ (.cons_cons _ (.cons_cons _ (.cons_cons _ (.cons_cons _ (.cons_cons _ (.cons_cons _ (.cons_cons _ (.cons_cons _ .slnil)))))))))) (fun w st => rn_move (fr.ev rfl)) rfl rfl ?_
        intro a fr
        refine dr_take 7 rfl (by kernel_rfl) (by kernel_rfl) (by kernel_rfl) (fun _ _ _ h => h) fr rfl (st.sub (.cons_cons _ (.cons_cons _ (.cons_cons _ (.cons_cons _ (.cons_cons _ (.cons_cons _ (.cons_cons _ (.cons_cons _ (.cons_cons _ .slnil)))))))))) (fun w st => fa_33_0 (fr.ev rfl)) rfl rfl ?_
        intro a fr
        refine dr_take 8 rfl (by kernel_rfl) (by kernel_rfl) (by kernel_rfl) (fun _ _ _ h => h) fr rfl (st.sub (.cons_cons _ (.cons_cons _ (.cons_cons _ (.cons_cons _ (.cons_cons _ (.cons_cons _ (.cons_cons _ (.cons_cons _ (.cons_cons _ .slnil)))))))))) (fun w st => rn_load (fr.ev rfl) Try.underlying3 rfl (st.cell 7 rfl rfl)) rfl rfl ?_
        intro a fr
        refine dr_take 9 rfl (by kernel_rfl) (by kernel_rfl) (by kernel_rfl) (fun _ _ _ h => h) fr rfl (st.sub (.cons_cons _ (.cons_cons _ (.cons_cons _ (.cons_cons _ (.cons_cons _ (.cons_cons _ (.cons_cons _ (.cons_cons _ (.cons_cons _ .slnil)))))))))) (fun w st => fa_33_1 (fr.ev rfl)) rfl rfl ?_
        intro a fr
        refine dr_take 10 rfl (by kernel_rfl) (by kernel_rfl) (by kernel_rfl) (fun _ _ _ h => h) fr rfl (st.sub (.cons_cons _ (.cons_cons _ (.cons_cons _ (.cons_cons _ (.cons_cons _ (.cons_cons _ (.cons_cons _ (.cons_cons _ (.cons_cons _ .slnil)))))))))) (fun w st => rn_load (fr.ev rfl) Try.underlying3 rfl (st.cell 7 rfl rfl)) rfl rfl ?_
        intro a fr
        refine dr_one 5 (by kernel_rfl) rfl rfl (ow_call fr rfl rfl Try.call10 (under_f g m _ _ c1 c2 ns ss hf pa pb hU _ (hok4 (st.get 3 rfl) (st.get 4 rfl) (st.get 5 rfl) (st.get 6 rfl))) rfl rfl ?_)
        rintro e w ⟨rfl, hag⟩
        refine ⟨_, rfl, ?_⟩
        intro a fr
        have st := st.keep hag
        clear hag
        refine ⟨st.sub (.cons_cons _ (.cons_cons _ (.cons_cons _ (.cons_cons _ (.cons_cons _ (.cons_cons _ (.cons_cons _ (.cons_cons _ (.cons_cons _ .slnil))))))))), ?_⟩
        refine dr_one 11 (by kernel_rfl) rfl rfl (ow_call fr rfl rfl Try.call15 (runder_f rg _ _ d1 d2 ns ss hf pa pb hU _ (rhok3 (st.get 0 rfl) (st.get 1 rfl) (st.get 2 rfl))) rfl rfl ?_)
        rintro e w ⟨rfl, hag⟩
        refine ⟨_, rfl, ?_⟩
        intro a fr
        have st := st.keep hag
        clear hag
        refine ⟨st.sub (.cons_cons _ (.cons_cons _ (.cons_cons _ (.cons_cons _ (.cons_cons _ (.cons_cons _ (.cons_cons _ (.cons_cons _ (.cons_cons _ .slnil))))))))), ?_⟩
        refine dr_take 12 rfl (by kernel_rfl) (by kernel_rfl) (by kernel_rfl) (fun _ _ _ h => h) fr rfl (st.sub (.cons_cons _ (.cons_cons _ (.cons_cons _ (.cons_cons _ (.cons_cons _ (.cons_cons _ (.cons_cons _ (.cons_cons _ (.cons_cons _ .slnil)))))))))) (fun w st => rn_as (v' := .bool true) (rn_eqb (fr.ev rfl) (fr.ev rfl) Try.underlying4) (congrArg Value.bool (rfl))) rfl rfl ?_
        intro a fr
        refine dr_take 13 rfl (by kernel_rfl) (by kernel_rfl) (by kernel_rfl) (fun _ _ _ h => h) fr rfl (st.sub (.cons_cons _ (.cons_cons _ (.cons_cons _ (.cons_cons _ (.cons_cons _ (.cons_cons _ (.cons_cons _ (.cons_cons _ (.cons_cons _ .slnil)))))))))) (fun w st => rn_move (fr.ev rfl)) rfl rfl ?_
        intro a fr
        refine dr_take_y 14 rfl (by kernel_rfl) (by kernel_rfl) (by kernel_rfl) (fun _ _ _ h => h) fr (wanted_of fr rfl rfl rfl rfl) (st.sub (.cons_cons _ (.cons_cons _ (.cons_cons _ (.cons_cons _ (.cons_cons _ (.cons_cons _ (.cons_cons _ (.cons_cons _ (.cons_cons _ .slnil)))))))))) (fun w st => rn_move (fr.ev rfl)) rfl rfl ?_
        intro a fr
        refine dr_take_y 15 rfl (by kernel_rfl) (by kernel_rfl) (by kernel_rfl) (fun _ _ _ h => h) fr (wanted_of fr rfl rfl rfl rfl) (st.sub (.cons_cons _ (.cons_cons _ (.cons_cons _ (.cons_cons _ (.cons_cons _ (.cons_cons _ (.cons_cons _ (.cons_cons _ (.cons_cons _ .slnil)))))))))) (fun w st => fa_33_0 (fr.ev rfl)) rfl rfl ?_
        intro a fr
        refine dr_take_y 16 rfl (by kernel_rfl) (by kernel_rfl) (by kernel_rfl) (fun _ _ _ h => h) fr (wanted_of fr rfl rfl rfl rfl) (st.sub (.cons_cons _ (.cons_cons _ (.cons_cons _ (.cons_cons _ (.cons_cons _ (.cons_cons _ (.cons_cons _ (.cons_cons _ (.cons_cons _ .slnil)))))))))) (fun w st => rn_load (fr.ev rfl) Try.underlying3 rfl (st.cell 7 rfl rfl)) rfl rfl ?_
        intro a fr
        refine dr_take_y 17 rfl (by kernel_rfl) (by kernel_rfl) (by kernel_rfl) (fun _ _ _ h => h) fr (wanted_of fr rfl rfl rfl rfl) (st.sub (.cons_cons _ (.cons_cons _ (.cons_cons _ (.cons_cons _ (.cons_cons _ (.cons_cons _ (.cons_cons _ (.cons_cons _ (.cons_cons _ .slnil)))))))))) (fun w st => fa_33_1 (fr.ev rfl)) rfl rfl ?_
        intro a fr
        refine dr_take_y 18 rfl (by kernel_rfl) (by kernel_rfl) (by kernel_rfl) (fun _ _ _ h => h) fr (wanted_of fr rfl rfl rfl rfl) (st.sub (.cons_cons _ (.cons_cons _ (.cons_cons _ (.cons_cons _ (.cons_cons _ (.cons_cons _ (.cons_cons _ (.cons_cons _ (.cons_cons _ .slnil)))))))))) (fun w st => rn_load (fr.ev rfl) Try.underlying3 rfl (st.cell 7 rfl rfl)) rfl rfl ?_
        intro a fr
        refine dr_take_y 20 rfl (by kernel_rfl) (by kernel_rfl) (by kernel_rfl) (fun _ _ _ h => h) fr (wanted_of fr rfl rfl rfl rfl) (st.sub (.cons_cons _ (.cons_cons _ (.cons_cons _ (.cons_cons _ (.cons_cons _ (.cons_cons _ (.cons_cons _ (.cons_cons _ (.cons_cons _ .slnil)))))))))) (fun w st => rn_move (fr.ev rfl)) rfl rfl ?_
        intro a fr
        refine dr_take_y 21 rfl (by kernel_rfl) (by kernel_rfl) (by kernel_rfl) (fun _ _ _ h => h) fr (wanted_of fr rfl rfl rfl rfl) (st.sub (.cons_cons _ (.cons_cons _ (.cons_cons _ (.cons_cons _ (.cons_cons _ (.cons_cons _ (.cons_cons _ (.cons_cons _ (.cons_cons _ .slnil)))))))))) (fun w st => fa_33_0 (fr.ev rfl)) rfl rfl ?_
        intro a fr
        refine dr_take_y 22 rfl (by kernel_rfl) (by kernel_rfl) (by kernel_rfl) (fun _ _ _ h => h) fr (wanted_of fr rfl rfl rfl rfl) (st.sub (.cons_cons _ (.cons_cons _ (.cons_cons _ (.cons_cons _ (.cons_cons _ (.cons_cons _ (.cons_cons _ (.cons_cons _ (.cons_cons _ .slnil)))))))))) (fun w st => rn_load (fr.ev rfl) Try.underlying3 rfl (st.cell 7 rfl rfl)) rfl rfl ?_
        intro a fr
        refine dr_take_y 23 rfl (by kernel_rfl) (by kernel_rfl) (by kernel_rfl) (fun _ _ _ h => h) fr (wanted_of fr rfl rfl rfl rfl) (st.sub (.cons_cons _ (.cons_cons _ (.cons_cons _ (.cons_cons _ (.cons_cons _ (.cons_cons _ (.cons_cons _ (.cons_cons _ (.cons_cons _ .slnil)))))))))) (fun w st => fa_33_1 (fr.ev rfl)) rfl rfl ?_
        intro a fr
        refine dr_take_y 24 rfl (by kernel_rfl) (by kernel_rfl) (by kernel_rfl) (fun _ _ _ h => h) fr (wanted_of fr rfl rfl rfl rfl) (st.sub (.cons_cons _ (.cons_cons _ (.cons_cons _ (.cons_cons _ (.cons_cons _ (.cons_cons _ (.cons_cons _ (.cons_cons _ (.cons_cons _ .slnil)))))))))) (fun w st => rn_load (fr.ev rfl) Try.underlying3 rfl (st.cell 7 rfl rfl)) rfl rfl ?_
        intro a fr
        refine dr_one_y 19 (by kernel_rfl) rfl (wanted_of fr rfl rfl rfl rfl) (ow_call fr rfl rfl Try.call13 (common_c g m _ _ c1 c2 ns ss hf pa pb hr.1 hr.2 _ (hok4 (st.get 3 rfl) (st.get 4 rfl) (st.get 5 rfl) (st.get 6 rfl))) rfl rfl ?_)
        rintro e w ⟨⟨c, rfl, hc⟩, hag⟩
        refine ⟨_, rfl, ?_⟩
        intro a fr
        have st := st.keep hag
        clear hag
        refine ⟨st.sub (.cons_cons _ (.cons_cons _ (.cons_cons _ (.cons_cons _ (.cons_cons _ (.cons_cons _ (.cons_cons _ (.cons_cons _ (.cons_cons _ .slnil))))))))), ?_⟩
        refine dr_one_y 25 (by kernel_rfl) rfl (wanted_of fr rfl rfl rfl rfl) (ow_call fr rfl rfl Try.call16 (rcommon_as rg _ _ d1 d2 ns ss hf pa pb c hr.1 hr.2 hc _ (rhok3 (st.get 0 rfl) (st.get 1 rfl) (st.get 2 rfl))) rfl rfl ?_)
        rintro e w ⟨rfl, hag⟩
        refine ⟨_, rfl, ?_⟩
        intro a fr
        have st := st.keep hag
        clear hag
        refine ⟨st.sub (.cons_cons _ (.cons_cons _ (.cons_cons _ (.cons_cons _ (.cons_cons _ (.cons_cons _ (.cons_cons _ (.cons_cons _ (.cons_cons _ .slnil))))))))), ?_⟩
        refine dr_take_y 26 rfl (by kernel_rfl) (by kernel_rfl) (by kernel_rfl) (fun _ _ _ h => h) fr (wanted_of fr rfl rfl rfl rfl) (st.sub (.cons_cons _ (.cons_cons _ (.cons_cons _ (.cons_cons _ (.cons_cons _ (.cons_cons _ (.cons_cons _ (.cons_cons _ (.cons_cons _ .slnil)))))))))) (fun w st => rn_as (v' := .bool true) (rn_eql (fr.ev rfl) (fr.ev rfl)) (congrArg Value.bool (by simp))) rfl rfl ?_
        intro a fr
        refine dr_take 27 rfl (by kernel_rfl) (by kernel_rfl) (by kernel_rfl) (fun _ _ _ h => h) fr rfl (st.sub (.cons_cons _ (.cons_cons _ (.cons_cons _ (.cons_cons _ (.cons_cons _ (.cons_cons _ (.cons_cons _ (.cons_cons _ (.cons_cons _ .slnil)))))))))) (fun w st => rn_pick_t (fr.ev rfl) (fr.ev rfl)) rfl rfl ?_
        intro a fr
        refine dr_take 28 rfl (by kernel_rfl) (by kernel_rfl) (by kernel_rfl) (fun _ _ _ h => h) fr rfl (st.sub (.cons_cons _ (.cons_cons _ (.cons_cons _ (.cons_cons _ (.cons_cons _ (.cons_cons _ (.cons_cons _ (.cons_cons _ (.cons_cons _ .slnil)))))))))) (fun w st => rn_move (fr.ev rfl)) rfl rfl ?_
        intro a fr
        refine dr_take_y 29 rfl (by kernel_rfl) (by kernel_rfl) (by kernel_rfl) (fun _ _ _ h => h) fr (wanted_of fr rfl rfl rfl rfl) (st.sub (.cons_cons _ (.cons_cons _ (.cons_cons _ (.cons_cons _ (.cons_cons _ (.cons_cons _ (.cons_cons _ (.cons_cons _ (.cons_cons _ .slnil)))))))))) (fun w st => rn_move (fr.ev rfl)) rfl rfl ?_
        intro a fr
        refine dr_take_y 31 rfl (by kernel_rfl) (by kernel_rfl) (by kernel_rfl) (fun _ _ _ h => h) fr (wanted_of fr rfl rfl rfl rfl) (st.sub (.cons_cons _ (.cons_cons _ (.cons_cons _ (.cons_cons _ (.cons_cons _ (.cons_cons _ (.cons_cons _ (.cons_cons _ (.cons_cons _ .slnil)))))))))) (fun w st => rn_move (fr.ev rfl)) rfl rfl ?_
        intro a fr
        refine dr_take_y 33 rfl (by kernel_rfl) (by kernel_rfl) (by kernel_rfl) (fun _ _ _ h => h) fr (wanted_of fr rfl rfl rfl rfl) (st.sub (.cons_cons _ (.cons_cons _ (.cons_cons _ (.cons_cons _ (.cons_cons _ (.cons_cons _ (.cons_cons _ (.cons_cons _ (.cons_cons _ .slnil)))))))))) (fun w st => fa_33_2 (fr.ev rfl)) rfl rfl ?_
        intro a fr
        refine dr_take_y 34 rfl (by kernel_rfl) (by kernel_rfl) (by kernel_rfl) (fun _ _ _ h => h) fr (wanted_of fr rfl rfl rfl rfl) (st.sub (.cons_cons _ (.cons_cons _ (.cons_cons _ (.cons_cons _ (.cons_cons _ (.cons_cons _ (.cons_cons _ (.cons_cons _ (.cons_cons _ .slnil)))))))))) (fun w st => rn_load (fr.ev rfl) Try.underlying3 rfl (st.cell 7 rfl rfl)) rfl rfl ?_
        intro a fr
        refine dr_one_y 30 (by kernel_rfl) rfl (wanted_of fr rfl rfl rfl rfl) (ow_call fr rfl rfl Try.call18 (order_calls _ _) rfl rfl ?_)
        rintro e w ⟨q14, rfl, st2, hnw⟩
        refine ⟨_, rfl, ?_⟩
        intro a fr
        have st := st.join st2 (by intro it hi b hb; simp at hi; subst hi; simp [It.fp] at hb; subst hb; exact hnw)
        clear st2 hnw
        replace st : St _ [] w [.blk q14 [.pointer (some ⟨g, 0, none⟩)] 23, ro rg 0 [.slice B1 ns.length d1, .slice B2 ss.length d2], els CS 1 B1 ns, els CI 1 B2 ss, ro g 0 [.slice A1 ns.length c1, .slice A2 ss.length c2, (.map (some m))], els CS 1 A1 ns, els CI 1 A2 ss, mapRo kS vN m ((mL ns)), .blk b1 [.int .i64 (pa), .int .i64 (pb), .int .i64 (pc)] 33, els lineC 2 LA l] := st
        refine ⟨st.sub (.cons _ (.cons_cons _ (.cons_cons _ (.cons_cons _ (.cons_cons _ (.cons_cons _ (.cons_cons _ (.cons_cons _ (.cons_cons _ (.cons_cons _ .slnil)))))))))), ?_⟩
        refine dr_one_y 32 (by kernel_rfl) rfl (wanted_of fr rfl rfl rfl rfl) (ow_call fr rfl rfl Try.call19 (rorder_calls rg _ _ d1 d2 ns ss hf _ (rhok3 (st.get 1 rfl) (st.get 2 rfl) (st.get 3 rfl))) rfl rfl ?_)
        rintro e w ⟨OA15, oc16, rfl, hrow, hag⟩
        refine ⟨_, rfl, ?_⟩
        intro a fr
        have st := st.call_row hag hrow
        clear hag hrow
        replace st : St _ [] w [row CI 1 3 w0.heap.size (.slice OA15 ((oI ss ns.length (ns.length + 1) 0).length) oc16) ((oI ss ns.length (ns.length + 1) 0)), .blk q14 [.pointer (some ⟨g, 0, none⟩)] 23, ro rg 0 [.slice B1 ns.length d1, .slice B2 ss.length d2], els CS 1 B1 ns, els CI 1 B2 ss, ro g 0 [.slice A1 ns.length c1, .slice A2 ss.length c2, (.map (some m))], els CS 1 A1 ns, els CI 1 A2 ss, mapRo kS vN m ((mL ns)), .blk b1 [.int .i64 (pa), .int .i64 (pb), .int .i64 (pc)] 33, els lineC 2 LA l] := st
        refine ⟨st.sub (.cons _ (.cons _ (.cons_cons _ (.cons_cons _ (.cons_cons _ (.cons_cons _ (.cons_cons _ (.cons_cons _ (.cons_cons _ (.cons_cons _ (.cons_cons _ .slnil))))))))))), ?_⟩
        refine dr_one_y 35 (by kernel_rfl) rfl (wanted_of fr rfl rfl rfl rfl) (ow_call fr rfl rfl Try.call17 (tells_order hf pc _ _ (st5_of (st.get 1 rfl) (hok4 (st.get 5 rfl) (st.get 6 rfl) (st.get 7 rfl) (st.get 8 rfl))) (row_els CI_len (st.get 0 rfl).1)) rfl rfl ?_)
        rintro e w ⟨rfl, hag⟩
        refine ⟨_, rfl, ?_⟩
        intro a fr
        have st := st.keep hag
        clear hag
        refine ⟨st.sub (.cons _ (.cons _ (.cons_cons _ (.cons_cons _ (.cons_cons _ (.cons_cons _ (.cons_cons _ (.cons_cons _ (.cons_cons _ (.cons_cons _ (.cons_cons _ .slnil))))))))))), ?_⟩
        refine dr_take 36 rfl (by kernel_rfl) (by kernel_rfl) (by kernel_rfl) (fun _ _ _ h => h) fr rfl (st.sub (.cons _ (.cons _ (.cons_cons _ (.cons_cons _ (.cons_cons _ (.cons_cons _ (.cons_cons _ (.cons_cons _ (.cons_cons _ (.cons_cons _ (.cons_cons _ .slnil)))))))))))) (fun w st => rn_pick_t (fr.ev rfl) (fr.ev rfl)) rfl rfl ?_
        intro a fr
        refine dr_take 37 rfl (by kernel_rfl) (by kernel_rfl) (by kernel_rfl) (fun _ _ _ h => h) fr rfl (st.sub (.cons _ (.cons _ (.cons_cons _ (.cons_cons _ (.cons_cons _ (.cons_cons _ (.cons_cons _ (.cons_cons _ (.cons_cons _ (.cons_cons _ (.cons_cons _ .slnil)))))))))))) (fun w st => rn_move (fr.ev rfl)) rfl rfl ?_
        intro a fr
        refine dr_take_y 38 rfl (by kernel_rfl) (by kernel_rfl) (by kernel_rfl) (fun _ _ _ h => h) fr (wanted_of fr rfl rfl rfl rfl) (st.sub (.cons _ (.cons _ (.cons_cons _ (.cons_cons _ (.cons_cons _ (.cons_cons _ (.cons_cons _ (.cons_cons _ (.cons_cons _ (.cons_cons _ (.cons_cons _ .slnil)))))))))))) (fun w st => rn_move (fr.ev rfl)) rfl rfl ?_
        intro a fr
        refine dr_take_y 40 rfl (by kernel_rfl) (by kernel_rfl) (by kernel_rfl) (fun _ _ _ h => h) fr (wanted_of fr rfl rfl rfl rfl) (st.sub (.cons _ (.cons _ (.cons_cons _ (.cons_cons _ (.cons_cons _ (.cons_cons _ (.cons_cons _ (.cons_cons _ (.cons_cons _ (.cons_cons _ (.cons_cons _ .slnil)))))))))))) (fun w st => rn_move (fr.ev rfl)) rfl rfl ?_
        intro a fr
        refine dr_one_y 39 (by kernel_rfl) rfl (wanted_of fr rfl rfl rfl rfl) (ow_call fr rfl rfl Try.call18 (order_calls _ _) rfl rfl ?_)
        rintro e w ⟨q17, rfl, st2, hnw⟩
        refine ⟨_, rfl, ?_⟩
        intro a fr
        have st := st.join st2 (by intro it hi b hb; simp at hi; subst hi; simp [It.fp] at hb; subst hb; exact hnw)
        clear st2 hnw
        replace st : St _ [] w [.blk q17 [.pointer (some ⟨g, 0, none⟩)] 23, row CI 1 3 w0.heap.size (.slice OA15 ((oI ss ns.length (ns.length + 1) 0).length) oc16) ((oI ss ns.length (ns.length + 1) 0)), .blk q14 [.pointer (some ⟨g, 0, none⟩)] 23, ro rg 0 [.slice B1 ns.length d1, .slice B2 ss.length d2], els CS 1 B1 ns, els CI 1 B2 ss, ro g 0 [.slice A1 ns.length c1, .slice A2 ss.length c2, (.map (some m))], els CS 1 A1 ns, els CI 1 A2 ss, mapRo kS vN m ((mL ns)), .blk b1 [.int .i64 (pa), .int .i64 (pb), .int .i64 (pc)] 33, els lineC 2 LA l] := st
        refine ⟨st.sub (.cons _ (.cons _ (.cons _ (.cons_cons _ (.cons_cons _ (.cons_cons _ (.cons_cons _ (.cons_cons _ (.cons_cons _ (.cons_cons _ (.cons_cons _ (.cons_cons _ .slnil)))))))))))), ?_⟩
        refine dr_one_y 41 (by kernel_rfl) rfl (wanted_of fr rfl rfl rfl rfl) (ow_call fr rfl rfl Try.call19 (rorder_calls rg _ _ d1 d2 ns ss hf _ (rhok3 (st.get 3 rfl) (st.get 4 rfl) (st.get 5 rfl))) rfl rfl ?_)
        rintro e w ⟨OA18, oc19, rfl, hrow, hag⟩
        refine ⟨_, rfl, ?_⟩
        intro a fr
        have st := st.call_row hag hrow
        clear hag hrow
        replace st : St _ [] w [row CI 1 3 w0.heap.size (.slice OA18 ((oI ss ns.length (ns.length + 1) 0).length) oc19) ((oI ss ns.length (ns.length + 1) 0)), .blk q17 [.pointer (some ⟨g, 0, none⟩)] 23, row CI 1 3 w0.heap.size (.slice OA15 ((oI ss ns.length (ns.length + 1) 0).length) oc16) ((oI ss ns.length (ns.length + 1) 0)), .blk q14 [.pointer (some ⟨g, 0, none⟩)] 23, ro rg 0 [.slice B1 ns.length d1, .slice B2 ss.length d2], els CS 1 B1 ns, els CI 1 B2 ss, ro g 0 [.slice A1 ns.length c1, .slice A2 ss.length c2, (.map (some m))], els CS 1 A1 ns, els CI 1 A2 ss, mapRo kS vN m ((mL ns)), .blk b1 [.int .i64 (pa), .int .i64 (pb), .int .i64 (pc)] 33, els lineC 2 LA l] := st
        refine ⟨st.sub (.cons _ (.cons _ (.cons _ (.cons _ (.cons_cons _ (.cons_cons _ (.cons_cons _ (.cons_cons _ (.cons_cons _ (.cons_cons _ (.cons_cons _ (.cons_cons _ (.cons_cons _ .slnil))))))))))))), ?_⟩
        refine dr_one_y 42 (by kernel_rfl) rfl (wanted_of fr rfl rfl rfl rfl) (ow_call fr rfl rfl Try.call17 (tells_order hf 0 _ _ (st5_of (st.get 1 rfl) (hok4 (st.get 7 rfl) (st.get 8 rfl) (st.get 9 rfl) (st.get 10 rfl))) (row_els CI_len (st.get 0 rfl).1)) rfl rfl ?_)
        rintro e w ⟨rfl, hag⟩
        refine ⟨_, rfl, ?_⟩
        intro a fr
        have st := st.keep hag
        clear hag
        refine ⟨st.sub (.cons _ (.cons _ (.cons _ (.cons _ (.cons_cons _ (.cons_cons _ (.cons_cons _ (.cons_cons _ (.cons_cons _ (.cons_cons _ (.cons_cons _ (.cons_cons _ (.cons_cons _ .slnil))))))))))))), ?_⟩
        refine dr_take 43 rfl (by kernel_rfl) (by kernel_rfl) (by kernel_rfl) (fun _ _ _ h => h) fr rfl (st.sub (.cons _ (.cons _ (.cons _ (.cons _ (.cons_cons _ (.cons_cons _ (.cons_cons _ (.cons_cons _ (.cons_cons _ (.cons_cons _ (.cons_cons _ (.cons_cons _ (.cons_cons _ .slnil)))))))))))))) (fun w st => rn_pick_t (fr.ev rfl) (fr.ev rfl)) rfl rfl ?_
        intro a fr
        refine dr_take 44 rfl (by kernel_rfl) (by kernel_rfl) (by kernel_rfl) (fun _ _ _ h => h) fr rfl (st.sub (.cons _ (.cons _ (.cons _ (.cons _ (.cons_cons _ (.cons_cons _ (.cons_cons _ (.cons_cons _ (.cons_cons _ (.cons_cons _ (.cons_cons _ (.cons_cons _ (.cons_cons _ .slnil)))))))))))))) (fun w st => rn_assign (fr.ev rfl)) rfl rfl ?_
        intro a fr
        refine dr_done (by kernel_rfl) ?_
        refine then_n ?_
        refine wp_ret ?_
        refine ret1 Try.results5 fr (rv_tmp fr rfl) ?_
        exact ⟨rfl, st.agr.below⟩
      · refine dr_start (by kernel_rfl) st (.cons_cons _ (.cons_cons _ (.cons_cons _ (.cons_cons _ (.cons_cons _ (.cons_cons _ (.cons_cons _ (.cons_cons _ (.cons_cons _ .slnil))))))))) ?_
        intro w st
        refine dr_take 0 rfl (by kernel_rfl) (by kernel_rfl) (by kernel_rfl) (fun _ _ _ h => h) fr rfl (st.sub (.cons_cons _ (.cons_cons _ (.cons_cons _ (.cons_cons _ (.cons_cons _ (.cons_cons _ (.cons_cons _ (.cons_cons _ (.cons_cons _ .slnil)))))))))) (fun w st => rn_move (fr.ev rfl)) rfl rfl ?_
        intro a fr
        refine dr_take 1 rfl (by kernel_rfl) (by kernel_rfl) (by kernel_rfl) (fun _ _ _ h => h) fr rfl (st.sub (.cons_cons _ (.cons_cons _ (.cons_cons _ (.cons_cons _ (.cons_cons _ (.cons_cons _ (.cons_cons _ (.cons_cons _ (.cons_cons _ .slnil)))))))))) (fun w st => fa_33_0 (fr.ev rfl)) rfl rfl ?_
        intro a fr
        refine dr_take 2 rfl (by kernel_rfl) (by kernel_rfl) (by kernel_rfl) (fun _ _ _ h => h) fr rfl (st.sub (.cons_cons _ (.cons_cons _ (.cons_cons _ (.cons_cons _ (.cons_cons _ (.cons_cons _ (.cons_cons _ (.cons_cons _ (.cons_cons _ .slnil)))))))))) (fun w st => rn_load (fr.ev rfl) Try.underlying3 rfl (st.cell 7 rfl rfl)) rfl rfl ?_
        intro a fr
        refine dr_take 3 rfl (by kernel_rfl) (by kernel_rfl) (by kernel_rfl) (fun _ _ _ h => h) fr rfl (st.sub (.cons_cons _ (.cons_cons _ (.cons_cons _ (.cons_cons _ (.cons_cons _ (.cons_cons _ (.cons_cons _ (.cons_cons _ (.cons_cons _ .slnil)))))))))) (fun w st => fa_33_1 (fr.ev rfl)) rfl rfl ?_
        intro a fr
        refine dr_take 4 rfl (by kernel_rfl) (by kernel_rfl) (by kernel_rfl) (fun _ _ _ h => h) fr rfl (st.sub (.cons_cons _ (.cons_cons _ (.cons_cons _ (.cons_cons _ (.cons_cons _ (.cons_cons _ (.cons_cons _ (.cons_cons _ (.cons_cons _ .slnil)))))))))) (fun w st => rn_load (fr.ev rfl) Try.underlying3 rfl (st.cell 7 rfl rfl)) rfl rfl ?_
        intro a fr
        refine dr_take 6 rfl (by kernel_rfl) (by kernel_rfl) (by kernel_rfl) (fun _ _ _ h => h) fr rfl (st.sub (.cons_cons _ (.cons_cons _ (.cons_cons _ (.cons_cons _ (.cons_cons _ (.cons_cons _ (.cons_cons _ (.cons_cons _ (.cons_cons _ .slnil)))))))))) (fun w st => rn_move (fr.ev rfl)) rfl rfl ?_
        intro a fr
        refine dr_take 7 rfl (by kernel_rfl) (by kernel_rfl) (by kernel_rfl) (fun _ _ _ h => h) fr rfl (st.sub (.cons_cons _ (.cons_cons _ (.cons_cons _ (.cons_cons _ (.cons_cons _ (.cons_cons _ (.cons_cons _ (.cons_cons _ (.cons_cons _ .slnil)))))))))) (fun w st => fa_33_0 (fr.ev rfl)) rfl rfl ?_
        intro a fr
        refine dr_take 8 rfl (by kernel_rfl) (by kernel_rfl) (by kernel_rfl) (fun _ _ _ h => h) fr rfl (st.sub (.cons_cons _ (.cons_cons _ (.cons_cons _ (.cons_cons _ (.cons_cons _ (.cons_cons _ (.cons_cons _ (.cons_cons _ (.cons_cons _ .slnil)))))))))) (fun w st => rn_load (fr.ev rfl) Try.underlying3 rfl (st.cell 7 rfl rfl)) rfl rfl ?_
        intro a fr
        refine dr_take 9 rfl (by kernel_rfl) (by kernel_rfl) (by kernel_rfl) (fun _ _ _ h => h) fr rfl (st.sub (.cons_cons _ (.cons_cons _ (.cons_cons _ (.cons_cons _ (.cons_cons _ (.cons_cons _ (.cons_cons _ (.cons_cons _ (.cons_cons _ .slnil)))))))))) (fun w st => fa_33_1 (fr.ev rfl)) rfl rfl ?_
        intro a fr
        refine dr_take 10 rfl (by kernel_rfl) (by kernel_rfl) (by kernel_rfl) (fun _ _ _ h => h) fr rfl (st.sub (.cons_cons _ (.cons_cons _ (.cons_cons _ (.cons_cons _ (.cons_cons _ (.cons_cons _ (.cons_cons _ (.cons_cons _ (.cons_cons _ .slnil)))))))))) (fun w st => rn_load (fr.ev rfl) Try.underlying3 rfl (st.cell 7 rfl rfl)) rfl rfl ?_
        intro a fr
        refine dr_one 5 (by kernel_rfl) rfl rfl (ow_call fr rfl rfl Try.call10 (under_f g m _ _ c1 c2 ns ss hf pa pb hU _ (hok4 (st.get 3 rfl) (st.get 4 rfl) (st.get 5 rfl) (st.get 6 rfl))) rfl rfl ?_)
        rintro e w ⟨rfl, hag⟩
        refine ⟨_, rfl, ?_⟩
        intro a fr
        have st := st.keep hag
        clear hag
        refine ⟨st.sub (.cons_cons _ (.cons_cons _ (.cons_cons _ (.cons_cons _ (.cons_cons _ (.cons_cons _ (.cons_cons _ (.cons_cons _ (.cons_cons _ .slnil))))))))), ?_⟩
        refine dr_one 11 (by kernel_rfl) rfl rfl (ow_call fr rfl rfl Try.call15 (runder_f rg _ _ d1 d2 ns ss hf pa pb hU _ (rhok3 (st.get 0 rfl) (st.get 1 rfl) (st.get 2 rfl))) rfl rfl ?_)
        rintro e w ⟨rfl, hag⟩
        refine ⟨_, rfl, ?_⟩
        intro a fr
        have st := st.keep hag
        clear hag
        refine ⟨st.sub (.cons_cons _ (.cons_cons _ (.cons_cons _ (.cons_cons _ (.cons_cons _ (.cons_cons _ (.cons_cons _ (.cons_cons _ (.cons_cons _ .slnil))))))))), ?_⟩
        refine dr_take 12 rfl (by kernel_rfl) (by kernel_rfl) (by kernel_rfl) (fun _ _ _ h => h) fr rfl (st.sub (.cons_cons _ (.cons_cons _ (.cons_cons _ (.cons_cons _ (.cons_cons _ (.cons_cons _ (.cons_cons _ (.cons_cons _ (.cons_cons _ .slnil)))))))))) (fun w st => rn_as (v' := .bool true) (rn_eqb (fr.ev rfl) (fr.ev rfl) Try.underlying4) (congrArg Value.bool (rfl))) rfl rfl ?_
        intro a fr
        refine dr_take 13 rfl (by kernel_rfl) (by kernel_rfl) (by kernel_rfl) (fun _ _ _ h => h) fr rfl (st.sub (.cons_cons _ (.cons_cons _ (.cons_cons _ (.cons_cons _ (.cons_cons _ (.cons_cons _ (.cons_cons _ (.cons_cons _ (.cons_cons _ .slnil)))))))))) (fun w st => rn_move (fr.ev rfl)) rfl rfl ?_
        intro a fr
        refine dr_take_y 14 rfl (by kernel_rfl) (by kernel_rfl) (by kernel_rfl) (fun _ _ _ h => h) fr (wanted_of fr rfl rfl rfl rfl) (st.sub (.cons_cons _ (.cons_cons _ (.cons_cons _ (.cons_cons _ (.cons_cons _ (.cons_cons _ (.cons_cons _ (.cons_cons _ (.cons_cons _ .slnil)))))))))) (fun w st => rn_move (fr.ev rfl)) rfl rfl ?_
        intro a fr
        refine dr_take_y 15 rfl (by kernel_rfl) (by kernel_rfl) (by kernel_rfl) (fun _ _ _ h => h) fr (wanted_of fr rfl rfl rfl rfl) (st.sub (.cons_cons _ (.cons_cons _ (.cons_cons _ (.cons_cons _ (.cons_cons _ (.cons_cons _ (.cons_cons _ (.cons_cons _ (.cons_cons _ .slnil)))))))))) (fun w st => fa_33_0 (fr.ev rfl)) rfl rfl ?_
        intro a fr
        refine dr_take_y 16 rfl (by kernel_rfl) (by kernel_rfl) (by kernel_rfl) (fun _ _ _ h => h) fr (wanted_of fr rfl rfl rfl rfl) (st.sub (.cons_cons _ (.cons_cons _ (.cons_cons _ (.cons_cons _ (.cons_cons _ (.cons_cons _ (.cons_cons _ (.cons_cons _ (.cons_cons _ .slnil)))))))))) (fun w st => rn_load (fr.ev rfl) Try.underlying3 rfl (st.cell 7 rfl rfl)) rfl rfl ?_
        intro a fr
        refine dr_take_y 17 rfl (by kernel_rfl) (by kernel_rfl) (by kernel_rfl) (fun _ _ _ h => h) fr (wanted_of fr rfl rfl rfl rfl) (st.sub (.cons_cons _ (.cons_cons _ (.cons_cons _ (.cons_cons _ (.cons_cons _ (.cons_cons _ (.cons_cons _ (.cons_cons _ (.cons_cons _ .slnil)))))))))) (fun w st => fa_33_1 (fr.ev rfl)) rfl rfl ?_
        intro a fr
        refine dr_take_y 18 rfl (by kernel_rfl) (by kernel_rfl) (by kernel_rfl) (fun _ _ _ h => h) fr (wanted_of fr rfl rfl rfl rfl) (st.sub (.cons_cons _ (.cons_cons _ (.cons_cons _ (.cons_cons _ (.cons_cons _ (.cons_cons _ (.cons_cons _ (.cons_cons _ (.cons_cons _ .slnil)))))))))) (fun w st => rn_load (fr.ev rfl) Try.underlying3 rfl (st.cell 7 rfl rfl)) rfl rfl ?_
        intro a fr
        refine dr_take_y 20 rfl (by kernel_rfl) (by kernel_rfl) (by kernel_rfl) (fun _ _ _ h => h) fr (wanted_of fr rfl rfl rfl rfl) (st.sub (.cons_cons _ (.cons_cons _ (.cons_cons _ (.cons_cons _ (.cons_cons _ (.cons_cons _ (.cons_cons _ (.cons_cons _ (.cons_cons _ .slnil)))))))))) (fun w st => rn_move (fr.ev rfl)) rfl rfl ?_
        intro a fr
        refine dr_take_y 21 rfl (by kernel_rfl) (by kernel_rfl) (by kernel_rfl) (fun _ _ _ h => h) fr (wanted_of fr rfl rfl rfl rfl) (st.sub (.cons_cons _ (.cons_cons _ (.cons_cons _ (.cons_cons _ (.cons_cons _ (.cons_cons _ (.cons_cons _ (.cons_cons _ (.cons_cons _ .slnil)))))))))) (fun w st => fa_33_0 (fr.ev rfl)) rfl rfl ?_
        intro a fr
        refine dr_take_y 22 rfl (by kernel_rfl) (by kernel_rfl) (by kernel_rfl) (fun _ _ _ h => h) fr (wanted_of fr rfl rfl rfl rfl) (st.sub (.cons_cons _ (.cons_cons _ (.cons_cons _ (.cons_cons _ (.cons_cons _ (.cons_cons _ (.cons_cons _ (.cons_cons _ (.cons_cons _ .slnil)))))))))) (fun w st => rn_load (fr.ev rfl) Try.underlying3 rfl (st.cell 7 rfl rfl)) rfl rfl ?_
        intro a fr
        refine dr_take_y 23 rfl (by kernel_rfl) (by kernel_rfl) (by kernel_rfl) (fun _ _ _ h => h) fr (wanted_of fr rfl rfl rfl rfl) (st.sub (.cons_cons _ (.cons_cons _ (.cons_cons _ (.cons_cons _ (.cons_cons _ (.cons_cons _ (.cons_cons _ (.cons_cons _ (.cons_cons _ .slnil)))))))))) (fun w st => fa_33_1 (fr.ev rfl)) rfl rfl ?_
        intro a fr
        refine dr_take_y 24 rfl (by kernel_rfl) (by kernel_rfl) (by kernel_rfl) (fun _ _ _ h => h) fr (wanted_of fr rfl rfl rfl rfl) (st.sub (.cons_cons _ (.cons_cons _ (.cons_cons _ (.cons_cons _ (.cons_cons _ (.cons_cons _ (.cons_cons _ (.cons_cons _ (.cons_cons _ .slnil)))))))))) (fun w st => rn_load (fr.ev rfl) Try.underlying3 rfl (st.cell 7 rfl rfl)) rfl rfl ?_
        intro a fr
        refine dr_one_y 19 (by kernel_rfl) rfl (wanted_of fr rfl rfl rfl rfl) (ow_call fr rfl rfl Try.call13 (common_f g m _ _ c1 c2 ns ss pa pb hr _ (hok4 (st.get 3 rfl) (st.get 4 rfl) (st.get 5 rfl) (st.get 6 rfl))) rfl rfl ?_)
        rintro e w ⟨rfl, hag⟩
        refine ⟨_, rfl, ?_⟩
        intro a fr
        have st := st.keep hag
        clear hag
        refine ⟨st.sub (.cons_cons _ (.cons_cons _ (.cons_cons _ (.cons_cons _ (.cons_cons _ (.cons_cons _ (.cons_cons _ (.cons_cons _ (.cons_cons _ .slnil))))))))), ?_⟩
        refine dr_one_y 25 (by kernel_rfl) rfl (wanted_of fr rfl rfl rfl rfl) (ow_call fr rfl rfl Try.call16 (rcommon_f rg _ _ d1 d2 ns ss pa pb hr _ (rhok3 (st.get 0 rfl) (st.get 1 rfl) (st.get 2 rfl))) rfl rfl ?_)
        rintro e w ⟨rfl, hag⟩
        refine ⟨_, rfl, ?_⟩
        intro a fr
        have st := st.keep hag
        clear hag
        refine ⟨st.sub (.cons_cons _ (.cons_cons _ (.cons_cons _ (.cons_cons _ (.cons_cons _ (.cons_cons _ (.cons_cons _ (.cons_cons _ (.cons_cons _ .slnil))))))))), ?_⟩
        refine dr_take_y 26 rfl (by kernel_rfl) (by kernel_rfl) (by kernel_rfl) (fun _ _ _ h => h) fr (wanted_of fr rfl rfl rfl rfl) (st.sub (.cons_cons _ (.cons_cons _ (.cons_cons _ (.cons_cons _ (.cons_cons _ (.cons_cons _ (.cons_cons _ (.cons_cons _ (.cons_cons _ .slnil)))))))))) (fun w st => rn_as (rn_eql (fr.ev rfl) (fr.ev rfl)) (by rfl)) rfl rfl ?_
        intro a fr
        refine dr_take 27 rfl (by kernel_rfl) (by kernel_rfl) (by kernel_rfl) (fun _ _ _ h => h) fr rfl (st.sub (.cons_cons _ (.cons_cons _ (.cons_cons _ (.cons_cons _ (.cons_cons _ (.cons_cons _ (.cons_cons _ (.cons_cons _ (.cons_cons _ .slnil)))))))))) (fun w st => rn_pick_t (fr.ev rfl) (fr.ev rfl)) rfl rfl ?_
        intro a fr
        refine dr_take 28 rfl (by kernel_rfl) (by kernel_rfl) (by kernel_rfl) (fun _ _ _ h => h) fr rfl (st.sub (.cons_cons _ (.cons_cons _ (.cons_cons _ (.cons_cons _ (.cons_cons _ (.cons_cons _ (.cons_cons _ (.cons_cons _ (.cons_cons _ .slnil)))))))))) (fun w st => rn_move (fr.ev rfl)) rfl rfl ?_
        intro a fr
        refine dr_take_y 29 rfl (by kernel_rfl) (by kernel_rfl) (by kernel_rfl) (fun _ _ _ h => h) fr (wanted_of fr rfl rfl rfl rfl) (st.sub (.cons_cons _ (.cons_cons _ (.cons_cons _ (.cons_cons _ (.cons_cons _ (.cons_cons _ (.cons_cons _ (.cons_cons _ (.cons_cons _ .slnil)))))))))) (fun w st => rn_move (fr.ev rfl)) rfl rfl ?_
        intro a fr
        refine dr_take_y 31 rfl (by kernel_rfl) (by kernel_rfl) (by kernel_rfl) (fun _ _ _ h => h) fr (wanted_of fr rfl rfl rfl rfl) (st.sub (.cons_cons _ (.cons_cons _ (.cons_cons _ (.cons_cons _ (.cons_cons _ (.cons_cons _ (.cons_cons _ (.cons_cons _ (.cons_cons _ .slnil)))))))))) (fun w st => rn_move (fr.ev rfl)) rfl rfl ?_
        intro a fr
        refine dr_take_y 33 rfl (by kernel_rfl) (by kernel_rfl) (by kernel_rfl) (fun _ _ _ h => h) fr (wanted_of fr rfl rfl rfl rfl) (st.sub (.cons_cons _ (.cons_cons _ (.cons_cons _ (.cons_cons _ (.cons_cons _ (.cons_cons _ (.cons_cons _ (.cons_cons _ (.cons_cons _ .slnil)))))))))) (fun w st => fa_33_2 (fr.ev rfl)) rfl rfl ?_
        intro a fr
        refine dr_take_y 34 rfl (by kernel_rfl) (by kernel_rfl) (by kernel_rfl) (fun _ _ _ h => h) fr (wanted_of fr rfl rfl rfl rfl) (st.sub (.cons_cons _ (.cons_cons _ (.cons_cons _ (.cons_cons _ (.cons_cons _ (.cons_cons _ (.cons_cons _ (.cons_cons _ (.cons_cons _ .slnil)))))))))) (fun w st => rn_load (fr.ev rfl) Try.underlying3 rfl (st.cell 7 rfl rfl)) rfl rfl ?_
        intro a fr
        refine dr_one_y 30 (by kernel_rfl) rfl (wanted_of fr rfl rfl rfl rfl) (ow_call fr rfl rfl Try.call18 (order_calls _ _) rfl rfl ?_)
        rintro e w ⟨q20, rfl, st2, hnw⟩
        refine ⟨_, rfl, ?_⟩
        intro a fr
        have st := st.join st2 (by intro it hi b hb; simp at hi; subst hi; simp [It.fp] at hb; subst hb; exact hnw)
        clear st2 hnw
        replace st : St _ [] w [.blk q20 [.pointer (some ⟨g, 0, none⟩)] 23, ro rg 0 [.slice B1 ns.length d1, .slice B2 ss.length d2], els CS 1 B1 ns, els CI 1 B2 ss, ro g 0 [.slice A1 ns.length c1, .slice A2 ss.length c2, (.map (some m))], els CS 1 A1 ns, els CI 1 A2 ss, mapRo kS vN m ((mL ns)), .blk b1 [.int .i64 (pa), .int .i64 (pb), .int .i64 (pc)] 33, els lineC 2 LA l] := st
        refine ⟨st.sub (.cons _ (.cons_cons _ (.cons_cons _ (.cons_cons _ (.cons_cons _ (.cons_cons _ (.cons_cons _ (.cons_cons _ (.cons_cons _ (.cons_cons _ .slnil)))))))))), ?_⟩
        refine dr_one_y 32 (by kernel_rfl) rfl (wanted_of fr rfl rfl rfl rfl) (ow_call fr rfl rfl Try.call19 (rorder_calls rg _ _ d1 d2 ns ss hf _ (rhok3 (st.get 1 rfl) (st.get 2 rfl) (st.get 3 rfl))) rfl rfl ?_)
        rintro e w ⟨OA21, oc22, rfl, hrow, hag⟩
        refine ⟨_, rfl, ?_⟩
        intro a fr
        have st := st.call_row hag hrow
        clear hag hrow
        replace st : St _ [] w [row CI 1 3 w0.heap.size (.slice OA21 ((oI ss ns.length (ns.length + 1) 0).length) oc22) ((oI ss ns.length (ns.length + 1) 0)), .blk q20 [.pointer (some ⟨g, 0, none⟩)] 23, ro rg 0 [.slice B1 ns.length d1, .slice B2 ss.length d2], els CS 1 B1 ns, els CI 1 B2 ss, ro g 0 [.slice A1 ns.length c1, .slice A2 ss.length c2, (.map (some m))], els CS 1 A1 ns, els CI 1 A2 ss, mapRo kS vN m ((mL ns)), .blk b1 [.int .i64 (pa), .int .i64 (pb), .int .i64 (pc)] 33, els lineC 2 LA l] := st
        refine ⟨st.sub (.cons _ (.cons _ (.cons_cons _ (.cons_cons _ (.cons_cons _ (.cons_cons _ (.cons_cons _ (.cons_cons _ (.cons_cons _ (.cons_cons _ (.cons_cons _ .slnil))))))))))), ?_⟩
        refine dr_one_y 35 (by kernel_rfl) rfl (wanted_of fr rfl rfl rfl rfl) (ow_call fr rfl rfl Try.call17 (tells_order hf pc _ _ (st5_of (st.get 1 rfl) (hok4 (st.get 5 rfl) (st.get 6 rfl) (st.get 7 rfl) (st.get 8 rfl))) (row_els CI_len (st.get 0 rfl).1)) rfl rfl ?_)
        rintro e w ⟨rfl, hag⟩
        refine ⟨_, rfl, ?_⟩
        intro a fr
        have st := st.keep hag
        clear hag
        refine ⟨st.sub (.cons _ (.cons _ (.cons_cons _ (.cons_cons _ (.cons_cons _ (.cons_cons _ (.cons_cons _ (.cons_cons _ (.cons_cons _ (.cons_cons _ (.cons_cons _ .slnil))))))))))), ?_⟩
        refine dr_take 36 rfl (by kernel_rfl) (by kernel_rfl) (by kernel_rfl) (fun _ _ _ h => h) fr rfl (st.sub (.cons _ (.cons _ (.cons_cons _ (.cons_cons _ (.cons_cons _ (.cons_cons _ (.cons_cons _ (.cons_cons _ (.cons_cons _ (.cons_cons _ (.cons_cons _ .slnil)))))))))))) (fun w st => rn_pick_t (fr.ev rfl) (fr.ev rfl)) rfl rfl ?_
        intro a fr
        refine dr_take 37 rfl (by kernel_rfl) (by kernel_rfl) (by kernel_rfl) (fun _ _ _ h => h) fr rfl (st.sub (.cons _ (.cons _ (.cons_cons _ (.cons_cons _ (.cons_cons _ (.cons_cons _ (.cons_cons _ (.cons_cons _ (.cons_cons _ (.cons_cons _ (.cons_cons _ .slnil)))))))))))) (fun w st => rn_move (fr.ev rfl)) rfl rfl ?_
        intro a fr
        refine dr_take_y 38 rfl (by kernel_rfl) (by kernel_rfl) (by kernel_rfl) (fun _ _ _ h => h) fr (wanted_of fr rfl rfl rfl rfl) (st.sub (.cons _ (.cons _ (.cons_cons _ (.cons_cons _ (.cons_cons _ (.cons_cons _ (.cons_cons _ (.cons_cons _ (.cons_cons _ (.cons_cons _ (.cons_cons _ .slnil)))))))))))) (fun w st => rn_move (fr.ev rfl)) rfl rfl ?_
        intro a fr
        refine dr_take_y 40 rfl (by kernel_rfl) (by kernel_rfl) (by kernel_rfl) (fun _ _ _ h => h) fr (wanted_of fr rfl rfl rfl rfl) (st.sub (.cons _ (.cons _ (.cons_cons _ (.cons_cons _ (.cons_cons _ (.cons_cons _ (.cons_cons _ (.cons_cons _ (.cons_cons _ (.cons_cons _ (.cons_cons _ .slnil)))))))))))) (fun w st => rn_move (fr.ev rfl)) rfl rfl ?_
        intro a fr
        refine dr_one_y 39 (by kernel_rfl) rfl (wanted_of fr rfl rfl rfl rfl) (ow_call fr rfl rfl Try.call18 (order_calls _ _) rfl rfl ?_)
        rintro e w ⟨q23, rfl, st2, hnw⟩
        refine ⟨_, rfl, ?_⟩
        intro a fr
        have st := st.join st2 (by intro it hi b hb; simp at hi; subst hi; simp [It.fp] at hb; subst hb; exact hnw)
        clear st2 hnw
        replace st : St _ [] w [.blk q23 [.pointer (some ⟨g, 0, none⟩)] 23, row CI 1 3 w0.heap.size (.slice OA21 ((oI ss ns.length (ns.length + 1) 0).length) oc22) ((oI ss ns.length (ns.length + 1) 0)), .blk q20 [.pointer (some ⟨g, 0, none⟩)] 23, ro rg 0 [.slice B1 ns.length d1, .slice B2 ss.length d2], els CS 1 B1 ns, els CI 1 B2 ss, ro g 0 [.slice A1 ns.length c1, .slice A2 ss.length c2, (.map (some m))], els CS 1 A1 ns, els CI 1 A2 ss, mapRo kS vN m ((mL ns)), .blk b1 [.int .i64 (pa), .int .i64 (pb), .int .i64 (pc)] 33, els lineC 2 LA l] := st
        refine ⟨st.sub (.cons _ (.cons _ (.cons _ (.cons_cons _ (.cons_cons _ (.cons_cons _ (.cons_cons _ (.cons_cons _ (.cons_cons _ (.cons_cons _ (.cons_cons _ (.cons_cons _ .slnil)))))))))))), ?_⟩
        refine dr_one_y 41 (by kernel_rfl) rfl (wanted_of fr rfl rfl rfl rfl) (ow_call fr rfl rfl Try.call19 (rorder_calls rg _ _ d1 d2 ns ss hf _ (rhok3 (st.get 3 rfl) (st.get 4 rfl) (st.get 5 rfl))) rfl rfl ?_)
        rintro e w ⟨OA24, oc25, rfl, hrow, hag⟩
        refine ⟨_, rfl, ?_⟩
        intro a fr
        have st := st.call_row hag hrow
        clear hag hrow
        replace st : St _ [] w [row CI 1 3 w0.heap.size (.slice OA24 ((oI ss ns.length (ns.length + 1) 0).length) oc25) ((oI ss ns.length (ns.length + 1) 0)), .blk q23 [.pointer (some ⟨g, 0, none⟩)] 23, row CI 1 3 w0.heap.size (.slice OA21 ((oI ss ns.length (ns.length + 1) 0).length) oc22) ((oI ss ns.length (ns.length + 1) 0)), .blk q20 [.pointer (some ⟨g, 0, none⟩)] 23, ro rg 0 [.slice B1 ns.length d1, .slice B2 ss.length d2], els CS 1 B1 ns, els CI 1 B2 ss, ro g 0 [.slice A1 ns.length c1, .slice A2 ss.length c2, (.map (some m))], els CS 1 A1 ns, els CI 1 A2 ss, mapRo kS vN m ((mL ns)), .blk b1 [.int .i64 (pa), .int .i64 (pb), .int .i64 (pc)] 33, els lineC 2 LA l] := st
        refine ⟨st.sub (.cons _ (.cons _ (.cons _ (.cons _ (.cons_cons _ (.cons_cons _ (.cons_cons _ (.cons_cons _ (.cons_cons _ (.cons_cons _ (.cons_cons _ (.cons_cons _ (.cons_cons _ .slnil))))))))))))), ?_⟩
        refine dr_one_y 42 (by kernel_rfl) rfl (wanted_of fr rfl rfl rfl rfl) (ow_call fr rfl rfl Try.call17 (tells_order hf 0 _ _ (st5_of (st.get 1 rfl) (hok4 (st.get 7 rfl) (st.get 8 rfl) (st.get 9 rfl) (st.get 10 rfl))) (row_els CI_len (st.get 0 rfl).1)) rfl rfl ?_)
        rintro e w ⟨rfl, hag⟩
        refine ⟨_, rfl, ?_⟩
        intro a fr
        have st := st.keep hag
        clear hag
        refine ⟨st.sub (.cons _ (.cons _ (.cons _ (.cons _ (.cons_cons _ (.cons_cons _ (.cons_cons _ (.cons_cons _ (.cons_cons _ (.cons_cons _ (.cons_cons _ (.cons_cons _ (.cons_cons _ .slnil))))))))))))), ?_⟩
        refine dr_take 43 rfl (by kernel_rfl) (by kernel_rfl) (by kernel_rfl) (fun _ _ _ h => h) fr rfl (st.sub (.cons _ (.cons _ (.cons _ (.cons _ (.cons_cons _ (.cons_cons _ (.cons_cons _ (.cons_cons _ (.cons_cons _ (.cons_cons _ (.cons_cons _ (.cons_cons _ (.cons_cons _ .slnil)))))))))))))) (fun w st => rn_pick_t (fr.ev rfl) (fr.ev rfl)) rfl rfl ?_
        intro a fr
        refine dr_take 44 rfl (by kernel_rfl) (by kernel_rfl) (by kernel_rfl) (fun _ _ _ h => h) fr rfl (st.sub (.cons _ (.cons _ (.cons _ (.cons _ (.cons_cons _ (.cons_cons _ (.cons_cons _ (.cons_cons _ (.cons_cons _ (.cons_cons _ (.cons_cons _ (.cons_cons _ (.cons_cons _ .slnil)))))))))))))) (fun w st => rn_assign (fr.ev rfl)) rfl rfl ?_
        intro a fr
        refine dr_done (by kernel_rfl) ?_
        refine then_n ?_
        refine wp_ret ?_
        refine ret1 Try.results5 fr (rv_tmp fr rfl) ?_
        exact ⟨rfl, st.agr.below⟩
  · refine enter Try.func5 rfl Try.ntmps5 (by simp) ?_
    intro a fr
    refine wp_seq ?_
    refine reg ?_
    refine lst rfl (ow_box fr st rfl rfl rfl rfl ([.int .i64 (pa), .int .i64 (pb), .int .i64 (pc)]) (by rfl) ?_)
    intro a w b1 fr st
    refine lst rfl (ow_v fr (rn_assign (fr.ev rfl)) rfl rfl ?_)
    intro a fr
    refine wpList_nil ?_
    refine then_n ?_
    refine wp_seq ?_
    refine reg ?_
    refine lst rfl (ow_v fr (rn_move (fr.ev rfl)) rfl rfl ?_)
    intro a fr
    refine lst rfl (ow_call fr rfl rfl Try.call7 (new_err hfi _ _ hl _ (st.get 1 rfl).1) rfl rfl ?_)
    rintro e w ⟨er, rfl, her, hag⟩
    refine ⟨_, rfl, ?_⟩
    intro a fr
    have st := st.keep hag
    clear hag
    refine lst rfl (ow_v fr (rn_move (fr.ev rfl)) rfl rfl ?_)
    intro a fr
    refine lst rfl (ow_v fr (rn_extract (fr.ev rfl) rfl) rfl rfl ?_)
    intro a fr
    refine lst rfl (ow_v fr (rn_extract (fr.ev rfl) rfl) rfl rfl ?_)
    intro a fr
    refine lst rfl (ow_v fr (rn_assign (fr.ev rfl)) rfl rfl ?_)
    intro a fr
    refine lst rfl (ow_v fr (rn_assign (fr.ev rfl)) rfl rfl ?_)
    intro a fr
    refine wpList_nil ?_
    refine then_n ?_
    refine wp_seq ?_
    refine reg ?_
    refine lst rfl (ow_v fr (rn_move (fr.ev rfl)) rfl rfl ?_)
    intro a fr
    refine lst rfl (ow_call fr rfl rfl Try.call14 (rnew_err hfi _ _ hl her _ (st.get 1 rfl).1) rfl rfl ?_)
    rintro e w ⟨rfl, hag⟩
    refine ⟨_, rfl, ?_⟩
    intro a fr
    have st := st.keep hag
    clear hag
    refine lst rfl (ow_v fr (rn_move (fr.ev rfl)) rfl rfl ?_)
    intro a fr
    refine lst rfl (ow_v fr (rn_extract (fr.ev rfl) rfl) rfl rfl ?_)
    intro a fr
    refine lst rfl (ow_v fr (rn_extract (fr.ev rfl) rfl) rfl rfl ?_)
    intro a fr
    refine lst rfl (ow_v fr (rn_assign (fr.ev rfl)) rfl rfl ?_)
    intro a fr
    refine lst rfl (ow_v fr (rn_assign (fr.ev rfl)) rfl rfl ?_)
    intro a fr
    refine wpList_nil ?_
    refine then_n ?_
    refine wp_seq ?_
    refine wp_seq ?_
    refine reg ?_
    refine lst rfl (ow_call fr rfl rfl Try.call8 (live_calls _) rfl rfl ?_)
    rintro e w ⟨rfl, hag⟩
    refine ⟨_, rfl, ?_⟩
    intro a fr
    have st := st.keep hag
    clear hag
    refine lst rfl (ow_v fr (rn_not (fr.ev rfl)) rfl rfl ?_)
    intro a fr
    refine lst rfl (ow_v fr (rn_move (fr.ev rfl)) rfl rfl ?_)
    intro a fr
    refine lst_y (wanted_of fr rfl rfl rfl rfl) (ow_v fr (rn_move (fr.ev rfl)) rfl rfl ?_)
    intro a fr
    refine lst_y (wanted_of fr rfl rfl rfl rfl) (ow_v fr (rn_move (fr.ev rfl)) rfl rfl ?_)
    intro a fr
    refine lst_y (wanted_of fr rfl rfl rfl rfl) (ow_v fr (rn_as (v' := .bool false) (rn_neq (fr.ev rfl) (fr.ev rfl)) (congrArg Value.bool (by simp))) rfl rfl ?_)
    intro a fr
    refine lst rfl (ow_v fr (rn_pick_f (fr.ev rfl) (fr.ev rfl)) rfl rfl ?_)
    intro a fr
    refine wpList_nil ?_
    refine then_n ?_
    refine cond_f fr rfl rfl ?_
    refine wp_skip ?_
    refine then_n ?_
    refine wp_seq ?_
    refine wp_seq ?_
    refine reg ?_
    refine lst rfl (ow_v fr (rn_move (fr.ev rfl)) rfl rfl ?_)
    intro a fr
    refine lst rfl (ow_v fr (rn_as (v' := .bool true) (rn_neq (fr.ev rfl) (fr.ev rfl)) (congrArg Value.bool (by simpa using errC_ne her))) rfl rfl ?_)
    intro a fr
    refine wpList_nil ?_
    refine then_n ?_
    refine cond_t fr rfl rfl ?_
    refine wp_seq ?_
    refine reg ?_
    refine lst rfl (ow_v fr (rn_assign (fr.ev rfl)) rfl rfl ?_)
    intro a fr
    refine wpList_nil ?_
    refine then_n ?_
    refine wp_ret ?_
    refine then_r ?_
    refine ret1 Try.results5 fr (rv_tmp fr rfl) ?_
    exact ⟨rfl, st.agr.below⟩

end Go.Proofs.Ytnggnacaghcclaa.H13
