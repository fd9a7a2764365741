
/- Append of points in a region of one order. -/
import Derived.Test.YtlndcpjaeoppmaaHApp
namespace Go.Proofs.Ytlndcpjaeoppmaa
open Go.RowKit Go.Shelf

theorem wpList_append_pts {w : World} {ops : Array Oper} {rest : List Oper} {o : Oper} {a : Act} {Q : Exit → Act → World → Prop} (hgd : o.guard = none) (s x : Operand)
    (ho : o.op = .call { callee := .builtin .append, args := #[s, x], argTypes := #[23, 23] })
    (base : Nat) (v vx : Value) (l m : List HPt) (hs : a.eval s = v) (hown : OwnP base w v l) (hx : a.eval x = vx) (hp : Pts w vx m) (hn : l.length + m.length ≤ 8000000) (hbase : base ≤ w.heap.size)
    (h : ∀ v' w', OwnP base w' v' (l ++ m) → w.grownBy w' v.ownBlock → wpList Try.prog ops Q rest (a.put o.dst v') w') : wpList Try.prog ops Q (o :: rest) a w :=
  wpList_plain hgd fun K hK => by
    have h1 := step_append_pts (ops := ops) (E := True) (Q := Q) (K := K) hgd s x ho base v vx l m hs hown hx hp hn hbase fun v' w' h1 h2 => hK _ _ (h v' w' h1 h2)
    have hw : Region.wanted o (yielded ops a.tmps) = true := by simp [Region.wanted, hgd]
    rwa [if_pos hw] at h1
end Go.Proofs.Ytlndcpjaeoppmaa
