/- copy between blocks of one's own. No program here. -/
import Derived.Test.YtjhbpcdaojajdaaDoorLibM
import Derived.Laws.CopyRow
set_option linter.unusedVariables false
set_option linter.unusedSimpArgs false
namespace Go.Proofs.YtjhbpcdaojajdaaDoor.LibK2
open Go.RowKit Go.Proofs.YtjhbpcdaojajdaaDoor.LibS Go.Proofs.YtjhbpcdaojajdaaDoor.LibR Go.Proofs.YtjhbpcdaojajdaaDoor.LibT Go.Proofs.YtjhbpcdaojajdaaDoor.LibU Go.Proofs.YtjhbpcdaojajdaaDoor.LibV Go.Proofs.YtjhbpcdaojajdaaDoor.LibW Go.Proofs.YtjhbpcdaojajdaaDoor.LibX Go.Proofs.YtjhbpcdaojajdaaDoor.LibY Go.Proofs.YtjhbpcdaojajdaaDoor.LibQ Go.Proofs.YtjhbpcdaojajdaaDoor.LibC
section
variable {P : Program} {w0 w : World} {K : List Nat} {M : List It} {n : Nat} {ds : List Deferred} {a : Act} {L : List (Nat × Value)} {Q : Exit → Act → World → Prop} {X : Act → World → Prop} {op : Oper}
theorem run_copyN (w : World) (dT sT ty elem : TypeId) (g o dLen dCap : Nat) (ad : Addr) (sLen sCap k sz : Nat) (cur : Array Value) (t : TypeId) (cs : List Value)
    (hu : P.underlying dT = some (.slice elem)) (hs : (P.info? elem).map (·.size) = some sz)
    (hg : w.heap[g]? = some (.cells cur t (0, 0))) (hk : k = Nat.min sLen dLen) (hn : cs.length = k * sz)
    (hsrc : ∀ j v, cs[j]? = some v → w.cell? (ad.add j) = some v) (hfit : o + cs.length ≤ cur.size) (h1 : ∀ v ∈ cs, v.oneCell' = true) :
    (Builtin.copy_ #[dT, sT] ty #[.slice (some ⟨g, o, none⟩) dLen dCap, .slice (some ad) sLen sCap]).run P w =
      .ok (.int .i64 ((k : Nat) : Int)) (w.setRow g (cur.toList.take o ++ cs ++ cur.toList.drop (o + cs.length)).toArray) := by
  have hl := run_loadCells_list (P := P) w ad cs hsrc
  have hst := run_storeCells_at P g o t cs 0 cur w hg (by simpa using hfit) h1
  rw [hn] at hl
  cases hq : P.info? elem with
  | none => simp [hq] at hs
  | some i =>
    have hi : i.size = sz := by simpa [hq] using hs
    simp [Builtin.copy_, run_underlying hu, Builtin.lenOf, Builtin.firstCells, sizeOf, typeInfo, hq, hi, ← hk, hl, hst, goInt]
theorem agr_setRow (w : World) (b : Nat) (r : Array Value) : Agr [b] w (w.setRow b r) := by
  refine ⟨rfl, rfl, rfl, by simp [World.setRow], fun k hk hn => ?_⟩
  simp only [List.mem_singleton] at hn
  simp only [World.setRow, Array.getElem?_modify]
  rw [if_neg (fun h => hn h.symm)]
theorem ow_copyB (fr : FrD ds n a L) (st : St w0 K w M) (i j : Nat) {d Td Ts e b b2 t t2 o o2 dl dc sl sc sz : Nat} (k : Nat) {cs cs2 : List Value} (us : List Value) {x y : Operand}
    (ho : op.op = .call { callee := .builtin .copy, args := #[x, y], argTypes := #[Td, Ts] }) (hx : evO L x = some (.slice (some ⟨b, o, none⟩) dl dc)) (hy : evO L y = some (.slice (some ⟨b2, o2, none⟩) sl sc))
    (hi : M[i]? = some (.blk b cs t)) (hj : M[j]? = some (.blk b2 cs2 t2)) (hT : P.underlying Td = some (.slice e)) (hs : (P.info? e).map (·.size) = some sz)
    (hk : k = Nat.min sl dl) (hus : us.length = k * sz) (hsrc : ∀ q v, us[q]? = some v → cs2[o2 + q]? = some v) (hfit : o + us.length ≤ cs.length) (h1 : us.all (·.oneCell') = true) (hd : op.dst = some d) (hlt : Nat.blt d n = true)
    (h : ∀ a' w', FrD ds n a' ((d, .int .i64 ((k : Nat) : Int)) :: L) → St w0 K w' (M.set i (.blk b (cs.take o ++ us ++ cs.drop (o + us.length)) t)) → X a' w') : op.wp P a w X Q := by
  have hb := (st.get i hi).2
  have hb2 := (st.get j hj).2
  have hr : (execOp a.eval op).run P w = .ok (.value (.int .i64 ((k : Nat) : Int))) (w.setRow b (cs.take o ++ us ++ cs.drop (o + us.length)).toArray) := by
    have := run_copyN (P := P) w Td Ts op.type e b o dl dc ⟨b2, o2, none⟩ sl sc k sz cs.toArray t us hT hs hb hk hus (fun q v hq => by
      rw [show (⟨b2, o2, none⟩ : Addr).add q = ⟨b2, o2 + q, none⟩ by unfold Addr.add; split <;> simp_all, cell_of_row w b2 _ _ _ _ hb2]
      simpa using hsrc q v hq) (by simpa using hfit) (fun v hv => List.all_eq_true.1 h1 v hv)
    simp only [execOp, ho, resolve, invoke, builtin, Sem.run_bind, Sem.run_pure, Result.andThen_ok, List.map_toArray, List.map_cons, List.map_nil, fr.ev hx, fr.ev hy, this]
    first | done | simp [this]
  unfold Oper.wp
  rw [hr]
  show X (a.put op.dst _) _
  rw [hd]
  refine h _ _ (fr.put _ hlt) (st.upd i hi rfl (agr_setRow w b _) ⟨(st.get i hi).1, ?_⟩ (fun c hc => .inl hc))
  simp only [World.setRow, Array.getElem?_modify, hb]
  simp
theorem ow_copyC (fr : FrD ds n a L) (st : St w0 K w M) (i : Nat) {d Td Ts e b t o dl dc sl sc sz : Nat} {ad : Addr} (k : Nat) {cs : List Value} (us : List Value) {x y : Operand}
    (ho : op.op = .call { callee := .builtin .copy, args := #[x, y], argTypes := #[Td, Ts] }) (hx : evO L x = some (.slice (some ⟨b, o, none⟩) dl dc)) (hy : evO L y = some (.slice (some ad) sl sc))
    (hi : M[i]? = some (.blk b cs t)) (hT : P.underlying Td = some (.slice e)) (hs : (P.info? e).map (·.size) = some sz)
    (hk : k = Nat.min sl dl) (hus : us.length = k * sz) (hsrc : ∀ q v, us[q]? = some v → w.cell? (ad.add q) = some v) (hfit : o + us.length ≤ cs.length) (h1 : us.all (·.oneCell') = true) (hd : op.dst = some d) (hlt : Nat.blt d n = true)
    (h : ∀ a' w', FrD ds n a' ((d, .int .i64 ((k : Nat) : Int)) :: L) → St w0 K w' (M.set i (.blk b (cs.take o ++ us ++ cs.drop (o + us.length)) t)) → X a' w') : op.wp P a w X Q := by
  have hb := (st.get i hi).2
  have hr : (execOp a.eval op).run P w = .ok (.value (.int .i64 ((k : Nat) : Int))) (w.setRow b (cs.take o ++ us ++ cs.drop (o + us.length)).toArray) := by
    have := run_copyN (P := P) w Td Ts op.type e b o dl dc ad sl sc k sz cs.toArray t us hT hs hb hk hus hsrc (by simpa using hfit) (fun v hv => List.all_eq_true.1 h1 v hv)
    simp only [execOp, ho, resolve, invoke, builtin, Sem.run_bind, Sem.run_pure, Result.andThen_ok, List.map_toArray, List.map_cons, List.map_nil, fr.ev hx, fr.ev hy, this]
    first | done | simp [this]
  unfold Oper.wp
  rw [hr]
  show X (a.put op.dst _) _
  rw [hd]
  refine h _ _ (fr.put _ hlt) (st.upd i hi rfl (agr_setRow w b _) ⟨(st.get i hi).1, ?_⟩ (fun c hc => .inl hc))
  simp only [World.setRow, Array.getElem?_modify, hb]
  simp
/-- a block's cells, from an offset on -/
theorem blk_src {b o t : Nat} {cs us : List Value} (h : (It.blk b cs t).ok w0 K w) (hu : ∀ q v, us[q]? = some v → cs[o + q]? = some v) : ∀ q v, us[q]? = some v → w.cell? ((⟨b, o, none⟩ : Addr).add q) = some v := fun q v hq => by
  rw [show (⟨b, o, none⟩ : Addr).add q = ⟨b, o + q, none⟩ by unfold Addr.add; split <;> simp_all, cell_of_row w b _ _ _ _ h.2]
  simpa using hu q v hq
end
end Go.Proofs.YtjhbpcdaojajdaaDoor.LibK2
