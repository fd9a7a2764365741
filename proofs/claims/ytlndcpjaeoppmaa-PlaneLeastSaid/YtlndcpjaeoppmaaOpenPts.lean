
/- A slice of structs of two integers, among a law's arguments: it reads as a list of pairs. -/
import Derived.Test.YtlndcpjaeoppmaaPlaneA
import Derived.Lib.SmallJoins
import Derived.Deep.Slices
import Derived.Deep.Fields
import Derived.ChangeSame
import Derived.OpenShut
namespace Go.Proofs.Ytlndcpjaeoppmaa
open Go.ChangeShapes Go.WideShapes Go.ChangeAt Go.RowKit Go.Joins Go.Deep
section
variable {H : Type} {enc : TypeId × Value → H} {P : Program} {w : World} {base : Nat} {spare : Nat → Bool} {held : Bool}

theorem spot_none {a : Addr} {v : Value} (h : w.cell? a = some v) : ∃ b o, a = ⟨b, o, none⟩ := by
  obtain ⟨b, o, sp⟩ := a
  cases sp with
  | none => exact ⟨b, o, rfl⟩
  | some k =>
    exfalso
    unfold World.cell? at h
    split at h <;> simp at h

/-- a list of pairs in memory, of whatever kind of integers -/
def PairCells (k : IntKind) (w : World) (b off : Nat) (l : List (Int × Int)) : Prop :=
  ∀ i, i < l.length → w.cell? ⟨b, off + i * 2, none⟩ = some (.int k (l.getD i (0, 0)).1) ∧ w.cell? ⟨b, off + i * 2 + 1, none⟩ = some (.int k (l.getD i (0, 0)).2)
def Pairs (k : IntKind) (w : World) (v : Value) (l : List (Int × Int)) : Prop :=
  (∃ (a : Option Addr) (c : Nat), v = .slice a 0 c ∧ l = []) ∨ ∃ b off cap : Nat, v = .slice (some ⟨b, off, none⟩) l.length cap ∧ l.length ≤ 9223372036854775807 ∧ l.length ≤ cap ∧ PairCells k w b off l

theorem open_pairs {k : IntKind} {t e : TypeId} {f0 f1 : Field} {v : Value} {d : DataW H} {p : List MemPlace} {r : Reach} {b0 : Nat} (ht : P.underlying t = some (.slice e)) (he : P.underlying e = some (.struct #[f0, f1]))
    (hone : oneCellFields P #[f0, f1] = true) (hC : P.cellsOf e = 2) (h0 : P.underlying f0.type = some (.int k)) (h1 : P.underlying f1.type = some (.int k))
    (hv : Value.okWide P w r b0 t v) (h : DataW.Trod enc P w base spare held t v d p) :
    ∃ l : List (Int × Int), Pairs k w v l ∧ ∀ q ∈ l, (Lit.int k q.1).wf = true ∧ (Lit.int k q.2).wf = true := by
  obtain ⟨a, len, cap, rfl⟩ := okWide_slice ht hv
  obtain ⟨fuel, hf⟩ := h
  rcases open_slice ht hf with ⟨h2, _⟩ | ⟨a', len', cap', m, n, D, Pl, hcs, hb, hl, hmx, hmm, hx, hi⟩
  · have h2' : Value.slice a len cap = .slice none 0 0 := by simpa [Value.cells] using h2
    exact ⟨[], .inl ⟨none, 0, h2', rfl⟩, by simp⟩
  · have h2' : a = some a' ∧ len = len' ∧ cap = cap' := by simpa [Value.cells] using hcs
    obtain ⟨rfl, rfl, rfl⟩ := h2'
    have hlm : len ≤ m := by rw [hmm]; split <;> omega
    have key : ∀ i, i < len → ∃ q : Int × Int, (w.cell? (a'.add (i * 2)) = some (.int k q.1) ∧ w.cell? ((a'.add (i * 2)).add 1) = some (.int k q.2)) ∧ (Lit.int k q.1).wf = true ∧ (Lit.int k q.2).wf = true := by
      intro i hil
      obtain ⟨cs', hc, ht'⟩ := hi i (by omega)
      rw [hC] at hc
      obtain ⟨ys, n', hn', hy, hlen, hyl, hfd⟩ := DataW.trod_struct he ht'
      obtain ⟨_, hcl, hat⟩ := World.cells?_some hc
      obtain ⟨c0, c1, rfl⟩ : ∃ c0 c1, cs' = [c0, c1] := by
        match cs', hcl with
        | [c0, c1], _ => exact ⟨c0, c1, rfl⟩
      obtain ⟨o0, k0⟩ := hone_of hone 0 f0 rfl
      obtain ⟨o1, k1⟩ := hone_of hone 1 f1 rfl
      obtain ⟨y0, y1, rfl⟩ : ∃ y0 y1, ys = [y0, y1] := by
        match ys, hyl with
        | [y0, y1], _ => exact ⟨y0, y1, rfl⟩
      have g0 := hfd 0 f0 rfl
      have g1 := hfd 1 f1 rfl
      rw [o0, k0] at g0
      rw [o1, k1] at g1
      simp only [List.drop_zero, List.take_succ_cons, List.take_zero, List.drop_succ_cons, List.getElem?_cons_zero, List.getElem?_cons_succ] at g0 g1
      obtain ⟨x0, e0, _, w0⟩ := DataW.trod_int h0 g0
      obtain ⟨x1, e1, _, w1⟩ := DataW.trod_int h1 g1
      simp only [List.cons.injEq, and_true] at e0 e1
      subst e0 e1
      have a0 := hat 0 (by omega)
      have a1 := hat 1 (by omega)
      exact ⟨(x0, x1), ⟨by simpa [Addr.add] using a0, by simpa using a1⟩, w0, w1⟩
    rcases Nat.eq_zero_or_pos len with hz | hz
    · subst hz
      exact ⟨[], .inl ⟨_, _, rfl, rfl⟩, by simp⟩
    · obtain ⟨q0, hq0, _⟩ := key 0 hz
      obtain ⟨b, off, rfl⟩ := spot_none (by simpa [Addr.add] using hq0.1)
      let g : Nat → Int × Int := fun i => if hil : i < len then Classical.choose (key i hil) else (0, 0)
      have hg : ∀ i, i < len → ((w.cell? ((⟨b, off, none⟩ : Addr).add (i * 2)) = some (.int k (g i).1) ∧ w.cell? (((⟨b, off, none⟩ : Addr).add (i * 2)).add 1) = some (.int k (g i).2)) ∧ (Lit.int k (g i).1).wf = true ∧ (Lit.int k (g i).2).wf = true) := by
        intro i hil
        have := Classical.choose_spec (key i hil)
        simp only [g, hil, dif_pos]
        exact this
      refine ⟨(List.range len).map g, .inr ⟨b, off, cap, by simp, by unfold maxLen at hmx; simp; omega, by simpa using hl, fun i hil => ?_⟩, ?_⟩
      · have hil' : i < len := by simpa using hil
        obtain ⟨⟨u, u'⟩, _⟩ := hg i hil'
        have hgd : ((List.range len).map g).getD i (0, 0) = g i := by simp [List.getD, hil']
        rw [hgd]
        have ea : (⟨b, off, none⟩ : Addr).add (i * 2) = ⟨b, off + i * 2, none⟩ := by unfold Addr.add; split <;> simp_all
        rw [ea] at u u'
        exact ⟨u, u'⟩
      · intro q hq
        obtain ⟨i, hi', rfl⟩ := List.mem_map.1 hq
        exact (hg i (List.mem_range.1 hi')).2

theorem pts_of_pairs {v : Value} {l : List (Int × Int)} (h : Pairs .i64 w v l) : Pts w v l := h

theorem open_pts {t e : TypeId} {f0 f1 : Field} {v : Value} {d : DataW H} {p : List MemPlace} {r : Reach} {b0 : Nat} (ht : P.underlying t = some (.slice e)) (he : P.underlying e = some (.struct #[f0, f1]))
    (hone : oneCellFields P #[f0, f1] = true) (hC : P.cellsOf e = 2) (h0 : P.underlying f0.type = some (.int .i64)) (h1 : P.underlying f1.type = some (.int .i64))
    (hv : Value.okWide P w r b0 t v) (h : DataW.Trod enc P w base spare held t v d p) : ∃ l : List (Int × Int), Pts w v l := by
  obtain ⟨l, hl, _⟩ := open_pairs ht he hone hC h0 h1 hv h
  exact ⟨l, pts_of_pairs hl⟩
end
end Go.Proofs.Ytlndcpjaeoppmaa
