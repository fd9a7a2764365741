
/- What few points give: their hull is a hull; contracts of few and Hull for these laws. -/
import Derived.Test.YtlndcpjaeoppmaaHGeo4
import Derived.Test.YtlndcpjaeoppmaaHTopsB
import Derived.Test.YtlndcpjaeoppmaaHWorks
import Derived.Test.YtlndcpjaeoppmaaFew
namespace Go.Proofs.Ytlndcpjaeoppmaa
open Go.RowKit Go.Shelf

theorem few_ok {l : List HPt} (hw : ∀ q ∈ l, (Lit.int .i8 q.1).wf = true ∧ (Lit.int .i8 q.2).wf = true) (n : Nat) : ∀ p ∈ l.take n, (-128 ≤ p.1 ∧ p.1 ≤ 127) ∧ (-128 ≤ p.2 ∧ p.2 ≤ 127) := by
  intro p hp
  have h := hw p (List.mem_of_mem_take hp)
  exact ⟨bounds_i8 h.1, bounds_i8 h.2⟩
theorem ok_small {p : HPt} (h : (-128 ≤ p.1 ∧ p.1 ≤ 127) ∧ (-128 ≤ p.2 ∧ p.2 ≤ 127)) : okPt p = true := by
  obtain ⟨p1, p2⟩ := p
  simp only at h
  rw [okPt_iff]
  omega
theorem errPts_good {L : List HPt} (hok : ∀ p ∈ L, okPt p = true) (hn : L.length ≤ 256) : errPts L = 0 := by
  have : L.all okPt = true := List.all_eq_true.2 hok
  unfold errPts
  rw [if_neg (by omega), if_pos this]
theorem isHull_good {L : List HPt} (h0 : L ≠ []) (hok : ∀ p ∈ L, okPt p = true) (hn : L.length ≤ 100) : isHullB (cornersP L) = true := by
  have h1 := corners_len L
  unfold isHullB
  rw [decide_eq_true (corners_pos (List.length_pos_iff.2 h0)), decide_eq_true (errPts_good (fun p hp => hok p (corners_sub hp)) (by omega)), decide_eq_true (corners_idem L)]
  rfl
theorem hullS_good {L : List HPt} (h0 : L ≠ []) (hok : ∀ p ∈ L, okPt p = true) (hn : L.length ≤ 256) : hullS L = (cornersP L, 0) := hullS_ok (errPts_good hok hn) (by intro e; exact h0 (List.eq_nil_of_length_eq_zero e))
theorem errHs_good {a b : List HPt} (ha : isHullB a = true) (hb : isHullB b = true) : errHs [a, b] = 0 := by
  have h1 := (isHull_facts ha).2.1
  have h2 := (isHull_facts hb).2.1
  rw [errHs_two, if_neg (by omega), if_pos ⟨ha, hb⟩]
theorem twoH_good {a b : List HPt} (ha : isHullB a = true) (hb : isHullB b = true) : TwoH a b := by
  obtain ⟨a1, _, a3, _, a5⟩ := isHull_facts ha
  obtain ⟨b1, _, b3, _, b5⟩ := isHull_facts hb
  exact ⟨a5, b5, List.ne_nil_of_length_pos a1, List.ne_nil_of_length_pos b1, a3, b3⟩
theorem insideS_good {a : List HPt} (ha : isHullB a = true) {q : HPt} (hq : okPt q = true) : insideS a q = (meetB a [q], 0) := by
  unfold insideS
  rw [if_pos (errHs_good ha ha), if_pos hq]
theorem meetE_good {a b : List HPt} (ha : isHullB a = true) (hb : isHullB b = true) : meetE a b = (meetB a b, 0) := by unfold meetE; rw [if_pos (errHs_good ha hb)]
theorem gapE_good {a b : List HPt} (ha : isHullB a = true) (hb : isHullB b = true) : gapE a b = (gapP a b, 0) := by unfold gapE; rw [if_pos (errHs_good ha hb)]
theorem partE_good {a b : List HPt} (ha : isHullB a = true) (hb : isHullB b = true) : partE a b = if meetB a b = true then 5 else 0 := by unfold partE; rw [if_pos (errHs_good ha hb)]
theorem pairs_shape {k : IntKind} {w : World} {v : Value} {l : List HPt} (h : Pairs k w v l) : ∃ A c, v = .slice A l.length c ∧ l.length ≤ 9223372036854775807 := by
  rcases h with ⟨a, c, rfl, rfl⟩ | ⟨b, off, cap, rfl, h1, _, _⟩
  · exact ⟨_, _, rfl, by simp⟩
  · exact ⟨_, _, rfl, h1⟩
theorem pairs_ext {k : IntKind} {w w' : World} {v : Value} {l : List HPt} (h : Pairs k w v l) (he : Ext w w') : Pairs k w' v l := by
  rcases h with h | ⟨b, off, cap, h1, h2, h3, h4⟩
  · exact .inl h
  · exact .inr ⟨b, off, cap, h1, h2, h3, fun i hi => ⟨he.cell (h4 i hi).1, he.cell (h4 i hi).2⟩⟩
/-- 'few', at a later world -/
theorem few_at (v : Value) (l : List HPt) (n : Nat) (w W : World) (h : Ext w W) (hp : Pairs .i8 w v l) (hw : ∀ q ∈ l, (Lit.int .i8 q.1).wf = true ∧ (Lit.int .i8 q.2).wf = true) (hn : n ≤ 100) :
    Calls Try.prog 8 #[v, .int .i64 n] W fun e w' => ∃ A c, e = .returned (.slice A (l.take n).length c) ∧ Pts w' (.slice A (l.take n).length c) (l.take n) ∧ Ext W w' := by
  refine (few_c v l n W (pairs_ext hp h) hw hn).mono ?_
  rintro e w' ⟨v', rfl, hv, he⟩
  have hv2 := pts_of_own hv
  obtain ⟨A, c, rfl, _⟩ := hv2.shapeH
  exact ⟨A, c, rfl, hv2, he⟩
/-- 'Hull', of few points -/
theorem hull_at {L a : List HPt} {e0 : Int} (hS : hullS L = (a, e0)) (v : Value) (W : World) (h : Pts W v L) :
    Calls Try.prog 9 #[v] W fun e w' => ∃ A c, e = .returned (.tuple #[.slice A a.length c, .int .i64 e0]) ∧ Pts w' (.slice A a.length c) a ∧ Ext W w' := by
  refine (Hull_c v L W h).mono ?_
  rintro e w' ⟨v', rfl, hv, he⟩
  rw [hS] at hv ⊢
  simp only at hv ⊢
  obtain ⟨A, c, rfl, _⟩ := hv.shapeH
  exact ⟨A, c, rfl, hv, he⟩
end Go.Proofs.Ytlndcpjaeoppmaa
