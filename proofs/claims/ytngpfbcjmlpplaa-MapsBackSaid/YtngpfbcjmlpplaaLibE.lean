/- append(nil, ys...) as one step of a region that draws. No program here. -/
import Derived.Test.YtngpfbcjmlpplaaLibD
import Derived.Deep.RegionLaw
set_option linter.unusedVariables false
set_option linter.unusedSimpArgs false
namespace Go.Proofs.Ytngpfbcjmlpplaa.LibE
open Go.RowKit Go.Proofs.Ytngpfbcjmlpplaa.LibA Go.Proofs.Ytngpfbcjmlpplaa.LibB Go.Proofs.Ytngpfbcjmlpplaa.LibC Go.Proofs.Ytngpfbcjmlpplaa.LibD

theorem step_append_nil {P : Program} {ops : Array Oper} {o : Oper} {a : Act} {w : World} {K : Act → World → Prop} {Q : Exit → Act → World → Prop} {E : Prop}
    (hg : o.guard = none) (s x : Operand) (t : TypeId) (hop : o.op = Op.call { callee := Callee.builtin Builtin.append, args := #[s, x], argTypes := #[t, t] })
    (e : TypeId) (i : TypeInfo) (z : Value) (size bytes : Nat) (h1 : P.underlying t = some (.slice e)) (h2 : P.info? e = some i) (h3 : i.zero = some z) (h4 : i.size = size) (h5 : i.bytes = bytes)
    (hs : a.eval s = .slice none 0 0) (A : Option Addr) (m c : Nat) (news : List Value) (hx : a.eval x = .slice A m c) (hn : news.length = m * size) (hm : 0 < m) (hsz : 0 < size)
    (hc : ∀ j u, news[j]? = some u → ∃ ad, A = some ad ∧ w.cell? (ad.add j) = some u) (b1 : m ≤ 9223372036854775807) (b2 : m * bytes ≤ 281474976710656)
    (hK : K (a.put o.dst (.slice (some ⟨w.heap.size, 0, none⟩) m (grownCap w m 0 e))) (w.drew.alloc (.cells (news.toArray ++ Builtin.zeroCells z.cells (grownCap w m 0 e - m)) e))) :
    if Region.wanted o (yielded ops a.tmps) = true then Oper.wp P o a w K Q else E := by
  have hw : Region.wanted o (yielded ops a.tmps) = true := by simp [Region.wanted, hg]
  rw [if_pos hw]
  subst h4; subst h5
  have hpos : 0 < news.length := by rw [hn]; exact Nat.mul_pos hm hsz
  obtain ⟨ad, hA, _⟩ := hc 0 (news[0]'hpos) (List.getElem?_eq_getElem hpos)
  subst hA
  have hr := run_append_nil (P := P) w t o.type e i z h1 h2 h3 ad m c news hn (fun j v hv => by obtain ⟨a', ea, h⟩ := hc j v hv; cases ea; exact h) hm (by omega) b2
  unfold Oper.wp
  simp [execOp, hop, resolve, invoke, builtin, hs, hx, hr, Result.andThen]
  exact hK
end Go.Proofs.Ytngpfbcjmlpplaa.LibE
