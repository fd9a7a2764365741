
/- The directions of two hulls are small enough for a line; the line of a direction that parts them is accepted. -/
import Derived.Test.YtlndcpjaeoppmaaHTops2
namespace Go.Proofs.Ytlndcpjaeoppmaa
open Go.RowKit Go.Shelf

theorem diff_ok {p q : HPt} (hp : okPt p = true) (hq : okPt q = true) : (-33554432 ≤ q.1 - p.1 ∧ q.1 - p.1 ≤ 33554432) ∧ (-33554432 ≤ q.2 - p.2 ∧ q.2 - p.2 ≤ 33554432) := by
  obtain ⟨p1, p2⟩ := p
  obtain ⟨q1, q2⟩ := q
  rw [okPt_iff] at hp hq
  simp only
  omega
theorem rdirs_ok {h : List HPt} (hw : ∀ p ∈ h, okPt p = true) : ∀ d ∈ rdirs h, (-33554432 ≤ d.1 ∧ d.1 ≤ 33554432) ∧ (-33554432 ≤ d.2 ∧ d.2 ≤ 33554432) := by
  intro d hd
  unfold rdirs at hd
  obtain ⟨i, hi, hd⟩ := List.mem_flatMap.1 hd
  have hi' := List.mem_range.1 hi
  have h1 := diff_ok (hw _ (get_mem hi')) (hw _ (nxt_mem (by omega) i))
  have h2 : sdP h i = ((nxtP h i).1 - (h.getD i (0, 0)).1, (nxtP h i).2 - (h.getD i (0, 0)).2) := rfl
  obtain ⟨X, hX⟩ : ∃ X, (nxtP h i).1 - (h.getD i (0, 0)).1 = X := ⟨_, rfl⟩
  obtain ⟨Y, hY⟩ : ∃ Y, (nxtP h i).2 - (h.getD i (0, 0)).2 = Y := ⟨_, rfl⟩
  rw [hX, hY] at h1 h2
  rw [h2] at hd
  simp only [rdP, List.mem_cons, List.not_mem_nil, or_false] at hd
  rcases hd with rfl | rfl | rfl | rfl <;> simp only <;> omega
theorem adirs_ok {a b : List HPt} (ha0 : 0 < a.length) (hb0 : 0 < b.length) (hwa : ∀ p ∈ a, okPt p = true) (hwb : ∀ p ∈ b, okPt p = true) : ∀ d ∈ adirs a b, (-33554432 ≤ d.1 ∧ d.1 ≤ 33554432) ∧ (-33554432 ≤ d.2 ∧ d.2 ≤ 33554432) := by
  intro d hd
  unfold adirs at hd
  rcases List.mem_append.1 hd with hd | hd
  · rcases List.mem_append.1 hd with hd | hd
    · have : d = fdP a b := by simpa using hd
      subst this
      exact diff_ok (hwa _ (get_mem ha0)) (hwb _ (get_mem hb0))
    · exact rdirs_ok hwa d hd
  · exact rdirs_ok hwb d hd
theorem dot_ok {d p : HPt} (hd : (-33554432 ≤ d.1 ∧ d.1 ≤ 33554432) ∧ (-33554432 ≤ d.2 ∧ d.2 ≤ 33554432)) (hp : okPt p = true) : -4503599627370496 ≤ dotP d p ∧ dotP d p ≤ 4503599627370496 := by
  obtain ⟨d1, d2⟩ := d
  obtain ⟨p1, p2⟩ := p
  rw [okPt_iff] at hp
  simp only at hd
  obtain ⟨m1, m2⟩ := Pl.mul_bd (a := d1) (b := p1) (A := 33554432) (B := 16777216) (by omega) (by omega) (by omega) (by omega)
  obtain ⟨m3, m4⟩ := Pl.mul_bd (a := d2) (b := p2) (A := 33554432) (B := 16777216) (by omega) (by omega) (by omega) (by omega)
  show -4503599627370496 ≤ d1 * p1 + d2 * p2 ∧ d1 * p1 + d2 * p2 ≤ 4503599627370496
  omega
theorem check_part {a b : List HPt} {x y : Int} (he : errHs [a, b] = 0) (hd : (x, y) ∈ adirs a b) (hs : sepB a b (x, y) = true) : checkE a b x y (hiP (x, y) a) = 0 := by
  obtain ⟨h1, h2⟩ := errHs_ok he
  obtain ⟨ha0, hal, hoa, hwa, _⟩ := isHull_facts h1
  obtain ⟨hb0, hbl, hob, hwb, _⟩ := isHull_facts h2
  have hdd := adirs_ok ha0 hb0 hoa hob _ hd
  have hm := get_mem ha0
  have k1 := hi_ge (d := (x, y)) hm
  have k2 := (dot_ok hdd (hoa _ hm)).1
  have k3 : hiP (x, y) a ≤ 4503599627370496 := (hi_le (List.ne_nil_of_length_pos ha0) _).2 (fun p hp => (dot_ok hdd (hoa p hp)).2)
  simp only at hdd
  unfold checkE
  rw [if_pos he, if_pos, if_pos]
  · rw [parts_sep (List.ne_nil_of_length_pos hb0)]; exact hs
  · unfold lineB inB
    simp only [Bool.and_eq_true, decide_eq_true_eq]
    omega
theorem partE_ok {a b : List HPt} (h : partE a b = 0) : errHs [a, b] = 0 := by
  unfold partE at h
  by_cases he : errHs [a, b] = 0
  · exact he
  · rw [if_neg he] at h; exact h
end Go.Proofs.Ytlndcpjaeoppmaa
