
/- Contract: the hull of points, the definition. -/
import Derived.Test.YtcbjecpfijogcaaGreatHSide
import Derived.Test.YtcbjecpfijogcaaGreatHSorted
import Derived.Test.YtcbjecpfijogcaaGreatHAppAll
namespace Go.Proofs.YtcbjecpfijogcaaGreat
open Go.RowKit Go.Shelf

theorem Pts.shapeH {w : World} {v : Value} {l : List HPt} (h : Pts w v l) : ∃ a cap, v = .slice a l.length cap ∧ l.length ≤ 9223372036854775807 := by
  rcases h with ⟨a, c, rfl, rfl⟩ | ⟨b, off, cap, rfl, hl, _, _⟩
  · exact ⟨_, _, rfl, by simp⟩
  · exact ⟨_, _, rfl, hl⟩
theorem sort_len (l : List HPt) : (sortP l).length ≤ l.length := by
  have := foldI_len l []
  simpa [sortP] using this
theorem push_len (st : List HPt) (x : HPt) : 0 < (pushP st x).length := by simp [pushP]
theorem side_pos {l : List HPt} (h : 0 < l.length) : 0 < (sideP l).length := by
  unfold sideP
  rw [List.length_reverse]
  rcases List.eq_nil_or_concat l with rfl | ⟨m, x, rfl⟩
  · simp at h
  · rw [List.concat_eq_append, List.foldl_append]
    exact push_len _ _
theorem side_len (l : List HPt) : (sideP l).length ≤ l.length := by
  unfold sideP
  rw [List.length_reverse]
  have := foldP_len l []
  simpa using this
set_option maxRecDepth 100000 in
set_option maxHeartbeats 8000000 in
theorem Corners_c (v : Value) (l : List HPt) (w : World) (hs : Pts w v l) (hw : ∀ p ∈ l, wideB p) (hn : l.length ≤ 100000) :
    Calls Tryz.prog 34 #[v] w fun e w' => ∃ v', e = .returned v' ∧ OwnP w.heap.size w' v' (cornersP l) ∧ Ext w w' := by
  have SC := Lib.hid (fun w' (h : Ext w w') => sorted_c v l w' (hs.ext h) hn)
  have hSw : ∀ p ∈ sortP l, wideB p := fun p hp => hw p ((sort_mem l p).1 hp)
  have hSn := Nat.le_trans (sort_len l) hn
  have DC := Lib.hid (fun v w' (h : Pts w' v (sortP l)) => side_c v (sortP l) w' h hSw hSn)
  have DR := Lib.hid (fun v w' (h : Pts w' v (sortP l).reverse) => side_c v (sortP l).reverse w' h (fun p hp => hSw p (List.mem_reverse.1 hp)) (by rw [List.length_reverse]; exact hSn))
  obtain ⟨A0, cap0, rfl, _⟩ := hs.shapeH
  have hE0 : Ext w w := Ext.refl w
  have hcn : cornersP l = if (sortP l).length < 2 then sortP l else (sideP (sortP l)).dropLast ++ (sideP (sortP l).reverse).dropLast := rfl
  have HCN := Lib.hid hcn
  generalize sortP l = S at *
  clear hcn
  obtain ⟨N, hN⟩ : ∃ N, S.length = N := ⟨_, rfl⟩
  have hSn' : N ≤ 100000 := by omega
  by_cases h2 : N < 2
  · go_enter Tryz.func34, Tryz.ntmps34
    go_wp2_with (go_at_call 54; refine (SC.out _ (by (repeat' (first | exact Ext.refl _ | assumption | refine Ext.alloc ?_ _ | refine Ext.drew ?_ | refine Ext.drewN ?_ _ | refine Ext.set ?_ (by first | exact Nat.le_refl _ | exact le1 _ | exact le2 _ | exact le3 _ | exact le4 _ | exact le5 _ | exact le6 _) _ | refine Ext.trans ?_ (by assumption))))).mono ?_; rintro e w1 ⟨v1, rfl, ho1, hE1⟩; obtain ⟨A1, c1, rfl, _⟩ := ho1.shape; rw [hN] at ho1)
    go_ret
    exact ⟨_, rfl, by rw [HCN.out, if_pos (by omega)]; exact ho1, hE1⟩
  · have h2' := Lib.hid h2
    have g2 : ¬ (N : Int) < 2 := by omega
    clear h2
    go_enter Tryz.func34, Tryz.ntmps34
    go_wp2_with (go_at_call 54; refine (SC.out _ (by (repeat' (first | exact Ext.refl _ | assumption | refine Ext.alloc ?_ _ | refine Ext.drew ?_ | refine Ext.drewN ?_ _ | refine Ext.set ?_ (by first | exact Nat.le_refl _ | exact le1 _ | exact le2 _ | exact le3 _ | exact le4 _ | exact le5 _ | exact le6 _) _ | refine Ext.trans ?_ (by assumption))))).mono ?_; rintro e w1 ⟨v1, rfl, ho1, hE1⟩; obtain ⟨A1, c1, rfl, _⟩ := ho1.shape; obtain ⟨g1, cc, ee, _, _, hc1, hcm⟩ := ho1.form (by have := h2'.out; omega); simp only [Value.slice.injEq] at ee; obtain ⟨rfl, -, rfl⟩ := ee; rw [hN] at ho1 hc1; replace ho1 := Lib.hid ho1; replace hE1 := Lib.hid hE1; simp only [hN])
    have wm : IntKind.i64.wrap ((N : Int) - 1) = (N : Int) - 1 := IntWalk.i64_in _ (by have := h2'.out; omega)
    go_loopw [4, 5] (fun o i wr => ∃ (k : Nat) (A : Option Addr) (c : Nat), o = .slice A k c ∧ k ≤ N ∧ ((k = N ∧ i = .int .i64 (-1)) ∨ ∃ M : Nat, M + 1 + k = N ∧ i = .int .i64 M) ∧ OwnP w1.heap.size wr (.slice A k c) (S.reverse.take k) ∧ Ext w1 wr) (fun _ i _ => (intOf i + 1).toNat)
    case atStart =>
      have := h2'.out
      exact ⟨0, none, 0, rfl, Nat.zero_le _, .inr ⟨N - 1, by omega, by congr 1; omega⟩, OwnP.none0, Ext.refl _⟩
    case round =>
      obtain ⟨k, A, c, rfl, hk, hi, ho, hE⟩ := hrel
      rcases hi with ⟨rfl, rfl⟩ | ⟨M, hM, rfl⟩
      · rw [List.take_of_length_le (by rw [List.length_reverse]; omega)] at ho
        have HB := Lib.hid ho
        have HE := Lib.hid hE
        have hl1 := side_len S
        have hl2 := side_len S.reverse
        have hp1 := side_pos (l := S) (by have := h2'.out; omega)
        have hp2 := side_pos (l := S.reverse) (by rw [List.length_reverse]; have := h2'.out; omega)
        rw [List.length_reverse] at hl2
        generalize sideP S = L1 at *
        generalize sideP S.reverse = L2 at *
        obtain ⟨m1, hm1⟩ : ∃ m, L1.length = m + 1 := ⟨L1.length - 1, by omega⟩
        obtain ⟨m2, hm2⟩ : ∃ m, L2.length = m + 1 := ⟨L2.length - 1, by omega⟩
        have hm1b : m1 ≤ 100000 := by omega
        have hm2b : m2 ≤ 100000 := by omega
        have HM := Lib.hid (And.intro hm1 (And.intro hm2 (And.intro hp1 hp2)))
        clear ho hE hl1 hl2 hp1 hp2 hm1 hm2
        go_wp2_with (first
          | (go_at_call 55; refine (DC.out _ _ ((ho1.out.ext HE.out).pts)).mono ?_; rintro e w2 ⟨v2, rfl, ho2, hE2⟩; clear DC; obtain ⟨g2, c2, rfl, _, _, hc2, hcm2⟩ := ho2.form HM.out.2.2.1; rw [HM.out.1] at ho2 hc2; replace ho2 := Lib.hid ho2; replace hE2 := Lib.hid hE2; simp only [HM.out.1])
          | (go_at_call 55; refine (DR.out _ _ ((HB.out.ext hE2.out).pts)).mono ?_; rintro e w3 ⟨v3, rfl, ho3, hE3⟩; clear DR; obtain ⟨g3, c3, rfl, _, _, hc3, hcm3⟩ := ho3.form HM.out.2.2.2; rw [HM.out.2.1] at ho3 hc3; replace ho3 := Lib.hid ho3; replace hE3 := Lib.hid hE3; simp only [HM.out.2.1]))
        have E12 := Lib.hid (hE1.out.trans (HE.out.trans (hE2.out.trans hE3.out)))
        have o2 := ho2.out.ext hE3.out
        have o3 := ho3.out
        have HP1 := Lib.hid (fun W' (h : Ext w3 W') => (o2.ext h).pts.cut (m := m1) (by omega) HM.out.1)
        have HP2 := Lib.hid (fun W' (h : Ext w3 W') => (o3.ext h).pts.cut (m := m2) (by omega) HM.out.2.1)
        unfold maxLen at hcm2 hcm3
        have zq := E12.out.sz
        have j1 : m1 ≤ c2 := by omega
        have j2 : m2 ≤ c3 := by omega
        have j3 : c2 ≤ 9223372036854775807 := by omega
        have j4 : c3 ≤ 9223372036854775807 := by omega
        have j5 := IntWalk.i64_in (m1 : Int) (by omega)
        have j6 := IntWalk.i64_in (m2 : Int) (by omega)
        have HLC := Lib.hid (show (L1.take m1 ++ L2.take m2).length = m1 + m2 by rw [List.length_append, List.length_take, List.length_take]; have h1 := HM.out.1; have h2 := HM.out.2.1; omega)
        clear o2 o3
        go_upto_region 11 with fail
        go_region_law (first
          | (refine step_append_pts (by rfl) _ _ (by rfl) w3.heap.size (.slice (some ⟨w3.heap.size, 0, none⟩) 0 0) (.slice (some ⟨g2, 0, none⟩) m1 c2) [] (L1.take m1) (by rfl) (OwnP.empty (World.alloc_heap_new _ _) (Nat.le_refl _)) (by rfl) (HP1.out _ (by (repeat' (first | exact Ext.refl _ | assumption | refine Ext.alloc ?_ _ | refine Ext.drew ?_ | refine Ext.drewN ?_ _ | refine Ext.set ?_ (by first | exact Nat.le_refl _ | exact le1 _ | exact le2 _ | exact le3 _ | exact le4 _ | exact le5 _ | exact le6 _) _ | refine Ext.trans ?_ (by assumption))))) (by rw [List.length_take]; simp; omega) (by simp; try omega) ?_; intro vA wA hoA hgA; have EA : Ext w3 wA := Ext.trans' (w := w3) (by (repeat' (first | exact Ext.refl _ | assumption | refine Ext.alloc ?_ _ | refine Ext.drew ?_ | refine Ext.drewN ?_ _ | refine Ext.set ?_ (by first | exact Nat.le_refl _ | exact le1 _ | exact le2 _ | exact le3 _ | exact le4 _ | exact le5 _ | exact le6 _) _ | refine Ext.trans ?_ (by assumption)))) hgA (fun k e => Nat.le_of_eq (Option.some.inj e)); simp only [List.nil_append] at hoA)
          | (refine step_append_pts (by rfl) _ _ (by rfl) w3.heap.size vA (.slice (some ⟨g3, 0, none⟩) m2 c3) (L1.take m1) (L2.take m2) (by rfl) (by first | exact hoA | exact hoA.ext (by (repeat' (first | exact Ext.refl _ | assumption | refine Ext.alloc ?_ _ | refine Ext.drew ?_ | refine Ext.drewN ?_ _ | refine Ext.set ?_ (by first | exact Nat.le_refl _ | exact le1 _ | exact le2 _ | exact le3 _ | exact le4 _ | exact le5 _ | exact le6 _) _ | refine Ext.trans ?_ (by assumption))))) (by rfl) (HP2.out _ (by (repeat' (first | exact Ext.refl _ | assumption | refine Ext.alloc ?_ _ | refine Ext.drew ?_ | refine Ext.drewN ?_ _ | refine Ext.set ?_ (by first | exact Nat.le_refl _ | exact le1 _ | exact le2 _ | exact le3 _ | exact le4 _ | exact le5 _ | exact le6 _) _ | refine Ext.trans ?_ (by assumption))))) (by rw [List.length_take, List.length_take]; omega) (by have := EA.sz; simp; try omega) ?_; intro vC wC hoC hgC; have EC : Ext w3 wC := Ext.trans' (w := w3) (by (repeat' (first | exact Ext.refl _ | assumption | refine Ext.alloc ?_ _ | refine Ext.drew ?_ | refine Ext.drewN ?_ _ | refine Ext.set ?_ (by first | exact Nat.le_refl _ | exact le1 _ | exact le2 _ | exact le3 _ | exact le4 _ | exact le5 _ | exact le6 _) _ | refine Ext.trans ?_ (by assumption)))) hgC (own_ge' hoA); obtain ⟨AC, cC, rfl, _⟩ := hoC.shape; rw [HLC.out] at hoC ⊢))
        all_goals
          go_wp2
          go_ret
          refine ⟨_, rfl, ?_, E12.out.trans EC⟩
          rw [HCN.out, if_neg (by have := h2'.out; omega), List.dropLast_eq_take, List.dropLast_eq_take, HM.out.1, HM.out.2.1]
          exact hoC.down zq
      · have hMS : S[M]? = some S[M] := List.getElem?_eq_getElem (by omega)
        obtain ⟨g9, c9, e9, _, _, cm1, cm2⟩ := ho1.out.at hMS
        simp only [Value.slice.injEq, Option.some.injEq, Addr.mk.injEq, and_true] at e9
        obtain ⟨e3, -, -⟩ := e9
        subst e3
        have htk : S.reverse.take (k + 1) = S.reverse.take k ++ [S[M]] := by
          rw [List.take_succ_eq_append_getElem (by rw [List.length_reverse]; omega), List.getElem_reverse]
          congr 3
          omega
        have HTK := Lib.hid htk
        clear htk
        generalize S[M] = p at *
        obtain ⟨pa, pb⟩ := p
        simp only at cm1 cm2
        replace cm1 := hE.cell cm1
        replace cm2 := hE.cell cm2
        have hkl : (S.reverse.take k).length = k := by rw [List.length_take, List.length_reverse]; omega
        have hMN : M < N := by omega
        have hkb : k ≤ 100000 := by omega
        have HO := Lib.hid ho
        have HE := Lib.hid hE
        have HMS := Lib.hid hMS
        clear ho hE hMS
        go_wp2_with (at_builtin; refine wpList_append_pts (by rfl) _ _ (by rfl) w1.heap.size (.slice A k c) (.slice (some ⟨wr.heap.size, 0, none⟩) 1 1) (S.reverse.take k) [(pa, pb)] (by rfl) (HO.out.ext ((Ext.refl _).alloc _)) (by rfl) (Pts.one (World.alloc_heap_new _ _)) (by rw [hkl]; simp; omega) (by have := HE.out.sz; simp; omega) ?_; intro v4 w4 ho4 hg4; have E4 : Ext w1 w4 := Ext.trans' (w := w1) (HE.out.alloc _) hg4 (own_ge' HO.out); obtain ⟨A4, c4, rfl, _⟩ := ho4.shape; replace ho4 := Lib.hid ho4; replace hg4 := Lib.hid hg4; replace E4 := Lib.hid E4)
        have hl4 : (S.reverse.take k ++ [(pa, pb)]).length = k + 1 := by rw [List.length_append, hkl]; rfl
        have h4 := ho4.out
        rw [hl4, ← HTK.out] at h4
        refine ⟨⟨k + 1, A4, c4, rfl, by omega, ?_, h4, E4.out⟩, by simp [intOf]⟩
        rcases Nat.eq_zero_or_pos M with h0 | h0
        · subst h0
          exact .inl ⟨by omega, rfl⟩
        · exact .inr ⟨M - 1, by omega, by congr 1; omega⟩
end Go.Proofs.YtcbjecpfijogcaaGreat
