
/- A row of directions of the call's own: it grows, it reads as directions. -/
import Derived.Test.YtlndcpjaeoppmaaHDot
namespace Go.Proofs.Ytlndcpjaeoppmaa
open Go.RowKit Go.Shelf

def flatD (l : List HPt) : List Value := l.flatMap (fun p => [.int .i64 p.1, .int .i64 p.2, .int .i64 0])
theorem flatD_len (l : List HPt) : (flatD l).length = l.length * 3 := by
  induction l with
  | nil => rfl
  | cons a l ih => rw [show flatD (a :: l) = [.int .i64 a.1, .int .i64 a.2, .int .i64 0] ++ flatD l from rfl, List.length_append, ih]; simp; omega
theorem flatD_at : ∀ (l : List HPt) (i : Nat) (p : HPt), l[i]? = some p → (flatD l)[i * 3]? = some (.int .i64 p.1) ∧ (flatD l)[i * 3 + 1]? = some (.int .i64 p.2) ∧ (flatD l)[i * 3 + 2]? = some (.int .i64 0)
  | [], i, p, h => by simp at h
  | a :: l, 0, p, h => by
    simp only [List.getElem?_cons_zero, Option.some.injEq] at h
    subst h
    exact ⟨rfl, rfl, rfl⟩
  | a :: l, i + 1, p, h => by
    have h2 := flatD_at l i p (by simpa using h)
    have e : flatD (a :: l) = [.int .i64 a.1, .int .i64 a.2, .int .i64 0] ++ flatD l := rfl
    rw [e, List.getElem?_append_right (by simp; omega), List.getElem?_append_right (by simp; omega), List.getElem?_append_right (by simp; omega)]
    simp only [List.length_cons, List.length_nil]
    rw [show (i + 1) * 3 - (0 + 1 + 1 + 1) = i * 3 by omega, show (i + 1) * 3 + 1 - (0 + 1 + 1 + 1) = i * 3 + 1 by omega, show (i + 1) * 3 + 2 - (0 + 1 + 1 + 1) = i * 3 + 2 by omega]
    exact h2
theorem flatD_append (l m : List HPt) : flatD (l ++ m) = flatD l ++ flatD m := by simp [flatD]
theorem flatD_one : ∀ (l : List HPt), ∀ u ∈ flatD l, u.oneCell' = true := by
  intro l u hu
  simp only [flatD, List.mem_flatMap] at hu
  obtain ⟨p, _, hp⟩ := hu
  simp at hp
  rcases hp with rfl | rfl | rfl <;> rfl
def OwnD (base : Nat) (w : World) (v : Value) (l : List HPt) : Prop := w.ownsRow base 43 3 v l.length (flatD l)
theorem infoLine : (Try.prog.info? 43).map (fun i => (i.zero, i.size, i.bytes)) = some (some (.agg #[.int .i64 0, .int .i64 0, .int .i64 0]), 3, 24) := by kernel_rfl
theorem OwnD.none0 {base : Nat} {w : World} : OwnD base w (.slice none 0 0) [] := World.ownsRow_nil w base _ 3
theorem OwnD.ext {w w' : World} {base : Nat} {v : Value} {l : List HPt} (h : OwnD base w v l) (he : Ext w w') : OwnD base w' v l := ownsRow_ext' he h
theorem OwnD.down {w : World} {base base' : Nat} {v : Value} {l : List HPt} (h : OwnD base w v l) (hb : base' ≤ base) : OwnD base' w v l := own_down h hb
theorem OwnD.shape {base : Nat} {w : World} {v : Value} {l : List HPt} (h : OwnD base w v l) : ∃ a cap, v = .slice a l.length cap ∧ l.length ≤ maxLen := by
  rcases h.2 with ⟨rfl, h1⟩ | ⟨g, cap, cur, rfl, _, _, hc, hc2, _⟩
  · exact ⟨none, 0, by rw [h1], by rw [h1]; exact Nat.zero_le _⟩
  · exact ⟨_, cap, rfl, Nat.le_trans hc hc2⟩
/-- what an append of directions takes -/
def Dirs (w : World) (v : Value) (l : List HPt) : Prop := ∃ (A : Option Addr) (c : Nat), v = .slice A l.length c ∧ ((A = none ∧ l = []) ∨ ∃ b : Nat, A = some ⟨b, 0, none⟩ ∧ ∀ j u, (flatD l)[j]? = some u → w.cell? ⟨b, j, none⟩ = some u)
theorem Dirs.ext {w w' : World} {v : Value} {l : List HPt} (h : Dirs w v l) (he : Ext w w') : Dirs w' v l := by
  obtain ⟨A, c, e, h2⟩ := h
  refine ⟨A, c, e, ?_⟩
  rcases h2 with h2 | ⟨b, e2, hc⟩
  · exact .inl h2
  · exact .inr ⟨b, e2, fun j u hj => he.cell (hc j u hj)⟩
theorem OwnD.dirs {base : Nat} {w : World} {v : Value} {l : List HPt} (h : OwnD base w v l) : Dirs w v l := by
  rcases h.2 with ⟨rfl, h1⟩ | ⟨g, cap, cur, rfl, _, hb, hc, hc2, hcs, ht⟩
  · have : l = [] := List.eq_nil_of_length_eq_zero h1
    subst this
    exact ⟨none, 0, rfl, .inl ⟨rfl, rfl⟩⟩
  · refine ⟨_, cap, rfl, .inr ⟨g, rfl, fun j u hj => ?_⟩⟩
    rw [← ht, List.getElem?_take] at hj
    split at hj
    · have := World.news_of_block hb j u hj
      rwa [add_noneH, Nat.zero_add] at this
    · simp at hj
theorem Dirs.blk {w : World} {b c : Nat} {l : List HPt} (h : w.heap[b]? = some (.cells (flatD l).toArray 43 (0, 0))) : Dirs w (.slice (some ⟨b, 0, none⟩) l.length c) l := by
  refine ⟨_, c, rfl, .inr ⟨b, rfl, fun j u hj => ?_⟩⟩
  have := World.news_of_block h j u (by simpa using hj)
  rwa [add_noneH, Nat.zero_add] at this
theorem Dirs.cells {w : World} {v : Value} {l : List HPt} (h : Dirs w v l) (h0 : l ≠ []) : ∃ b c, v = .slice (some ⟨b, 0, none⟩) l.length c ∧ DirCells w b 0 l := by
  obtain ⟨A, c, rfl, h2⟩ := h
  rcases h2 with ⟨_, h2⟩ | ⟨b, rfl, hc⟩
  · exact absurd h2 h0
  · refine ⟨b, c, rfl, fun i d hi => ?_⟩
    obtain ⟨h1, h2, h3⟩ := flatD_at l i d hi
    rw [Nat.zero_add]
    exact ⟨hc _ _ h1, hc _ _ h2, hc _ _ h3⟩
/-- an append of directions to a row of the call's own -/
theorem step_append_dirs {w : World} {ops : Array Oper} {o : Oper} {a : Act} {K : Act → World → Prop} {Q : Exit → Act → World → Prop} {E : Prop} (hgd : o.guard = none) (s x : Operand)
    (ho : o.op = .call { callee := .builtin .append, args := #[s, x], argTypes := #[103, 103] })
    (base : Nat) (v vx : Value) (l m : List HPt) (hs : a.eval s = v) (hown : OwnD base w v l) (hx : a.eval x = vx) (hp : Dirs w vx m) (hn : l.length + m.length ≤ 4000000) (hbase : base ≤ w.heap.size)
    (h : ∀ v' w', OwnD base w' v' (l ++ m) → w.grownBy w' v.ownBlock → K (a.put o.dst v') w') :
    if Region.wanted o (yielded ops a.tmps) = true then Oper.wp Try.prog o a w K Q else E := by
  have hw : Region.wanted o (yielded ops a.tmps) = true := by simp [Region.wanted, hgd]
  rw [if_pos hw]
  obtain ⟨ip, hi0, hii⟩ := Option.map_eq_some_iff.1 infoLine
  simp only [Prod.mk.injEq] at hii
  obtain ⟨hi1, hi2, hi3⟩ := hii
  have hown' : w.ownsRow base 43 3 v l.length (flatD l) := hown
  obtain ⟨A, c, rfl, hA⟩ := hp
  rcases hA with ⟨rfl, rfl⟩ | ⟨b, rfl, hc⟩
  · obtain ⟨A0, c0, rfl, hle⟩ : ∃ (A0 : Option Addr) (c0 : Nat), v = .slice A0 l.length c0 ∧ l.length ≤ c0 := by
      rcases hown'.2 with ⟨rfl, h1⟩ | ⟨g, cp, _, rfl, _, _, hle, _⟩
      · exact ⟨none, 0, by rw [h1], by omega⟩
      · exact ⟨_, cp, rfl, hle⟩
    have hrun := run_append_nothing (P := Try.prog) w 103 103 o.type 43 ip Try.underlying103 hi0 A0 l.length c0 hle (.slice none 0 c) (Src.ofNil w Try.underlying103 c)
    have hK := h (.slice A0 l.length c0) w (by simpa using hown) ⟨rfl, rfl, rfl, Nat.le_refl _, fun _ _ _ => rfl⟩
    unfold Oper.wp
    simp only [List.length_nil] at hx
    simp [execOp, ho, resolve, invoke, builtin, hs, hx, hrun, Result.andThen]
    exact hK
  · refine wp_append_own w s x 103 ho base 43 ip _ 3 24 Try.underlying103 hi0 hi1 hi2 hi3 rfl (by decide) v l.length (flatD l) hs hown' ⟨b, 0, none⟩ m.length c (flatD m) hx (flatD_len m) (fun j u hj => by rw [add_noneH, Nat.zero_add]; exact hc j u hj) (flatD_one m) (by unfold maxLen; omega) (by omega) hbase ?_
    intro v' w' h1 h2 _
    refine h v' w' ?_ h2
    unfold OwnD
    rw [List.length_append, flatD_append]
    exact h1
theorem wpList_append_dirs {w : World} {ops : Array Oper} {rest : List Oper} {o : Oper} {a : Act} {Q : Exit → Act → World → Prop} (hgd : o.guard = none) (s x : Operand)
    (ho : o.op = .call { callee := .builtin .append, args := #[s, x], argTypes := #[103, 103] })
    (base : Nat) (v vx : Value) (l m : List HPt) (hs : a.eval s = v) (hown : OwnD base w v l) (hx : a.eval x = vx) (hp : Dirs w vx m) (hn : l.length + m.length ≤ 4000000) (hbase : base ≤ w.heap.size)
    (h : ∀ v' w', OwnD base w' v' (l ++ m) → w.grownBy w' v.ownBlock → wpList Try.prog ops Q rest (a.put o.dst v') w') : wpList Try.prog ops Q (o :: rest) a w :=
  wpList_plain hgd fun K hK => by
    have h1 := step_append_dirs (ops := ops) (E := True) (Q := Q) (K := K) hgd s x ho base v vx l m hs hown hx hp hn hbase fun v' w' h1 h2 => hK _ _ (h v' w' h1 h2)
    have hw : Region.wanted o (yielded ops a.tmps) = true := by simp [Region.wanted, hgd]
    rwa [if_pos hw] at h1
end Go.Proofs.Ytlndcpjaeoppmaa
