
/- Contract: load.around: the hull of points. -/
import Derived.Test.YtkkeblgahbpmmaaLSort
namespace Go.Proofs.Ytkkeblgahbpmmaa
open Go.RowKit Go.Shelf Go.Lib Go.Sort

theorem putRow_grown {w : World} {g n : Nat} (F : Array Value) : w.grownBy (putRow id (Sort.ahead w n) g 0 F) (some g) := by
  refine ⟨rfl, rfl, rfl, by simp, fun k hk hne => ?_⟩
  have : g ≠ k := fun e => hne (by rw [e])
  simp [putRow, mapBlock, Sort.ahead, Array.getElem?_modify, this]
theorem holdsP_ext {w w' : World} {g : Nat} {d : Array HPt} (h : HoldsK encP 2 w g 0 d) (he : Ext w w') : HoldsK encP 2 w' g 0 d := by
  intro j hj
  obtain ⟨h1, h2⟩ := h j hj
  refine ⟨he.cell h1, ?_⟩
  rw [(bcell he).2 g _ (World.block_lt_of_cell? w _ h1)]
  exact h2
theorem OwnP.src {base : Nat} {w : World} {g n c : Nat} {l : List HPt} (h : OwnP base w (.slice (some ⟨g, 0, none⟩) n c) l) : ∀ j u, (flatP l)[j]? = some u → w.cell? ((⟨g, 0, none⟩ : Addr).add j) = some u := by
  rcases h.2 with ⟨h0, _⟩ | ⟨g', cap, cur, e, _, hb, hc1, hc2, hcs, ht⟩
  · cases h0
  · simp only [Value.slice.injEq, Option.some.injEq, Addr.mk.injEq, and_true] at e
    obtain ⟨rfl, _, _⟩ := e
    intro j u hj
    rw [← ht, List.getElem?_take] at hj
    split at hj
    · exact World.news_of_block hb j u hj
    · simp at hj
theorem OwnP.srcA {base : Nat} {w : World} {A : Option Addr} {n c : Nat} {l : List HPt} (h : OwnP base w (.slice A n c) l) : (A = none ∧ l.length = 0) ∨ ∃ ad, A = some ad ∧ ∀ j u, (flatP l)[j]? = some u → w.cell? (ad.add j) = some u := by
  rcases h.2 with ⟨h0, h1⟩ | ⟨g', cap, cur, e, _⟩
  · simp only [Value.slice.injEq] at h0
    exact .inl ⟨h0.1, h1⟩
  · simp only [Value.slice.injEq] at e
    obtain ⟨rfl, _, _⟩ := e
    exact .inr ⟨_, rfl, h.src⟩
theorem flatP_oneL : ∀ (l : List HPt), ∀ u ∈ flatP l, u.oneCell' = true := flatP_one
theorem around_eq {l : List HPt} : cornersP l = if (sortP l).length < 3 then sortP l else (sideP (sortP l)).dropLast ++ (sideP (sortP l).reverse).dropLast := by
  unfold cornersP
  by_cases h2 : (sortP l).length < 2
  · rw [if_pos h2, if_pos (by omega)]
  · rw [if_neg h2]
    by_cases h3 : (sortP l).length < 3
    · rw [if_pos h3]
      obtain ⟨a, b, e⟩ : ∃ a b, sortP l = [a, b] := by
        rcases hs : sortP l with _ | ⟨a, _ | ⟨b, _ | ⟨c, r⟩⟩⟩
        · rw [hs] at h2; simp at h2
        · rw [hs] at h2; simp at h2
        · exact ⟨a, b, rfl⟩
        · rw [hs] at h3; simp only [List.length_cons] at h3; omega
      rw [e]
      rfl
    · rw [if_neg h3]
theorem sort_lenL (l : List HPt) : (sortP l).length ≤ l.length := by
  have hD := srtD_len l
  have := compact_srtD l
  have h2 : ∀ (d : List HPt), (compactP d).length ≤ d.length := by
    intro d
    induction d with
    | nil => exact Nat.le_refl _
    | cons a d ih =>
      cases d with
      | nil => exact Nat.le_refl _
      | cons b d =>
        unfold compactP
        split
        · exact Nat.le_succ_of_le ih
        · simp only [List.length_cons] at *
          omega
  rw [← this]
  have := h2 (srtD l)
  omega
/-- a slice whose block is none of the elder ones -/
def Fresh (base : Nat) (v : Value) : Prop := ∀ k, v.ownBlock = some k → base ≤ k
set_option maxRecDepth 100000 in
set_option maxHeartbeats 8000000 in
theorem around_c (b off c : Nat) (l : List HPt) (w : World) (hc : PtCells w b off l) (h0 : 0 < l.length) (hw : ∀ p ∈ l, wideB p) (hn : l.length ≤ 100000) :
    Calls Try.prog 73 #[.slice (some ⟨b, off, none⟩) l.length c] w fun e w' => ∃ v', e = .returned v' ∧ Pts w' v' (cornersP l) ∧ Ext w w' ∧ Fresh w.heap.size v' := by
  have CC := Lib.hid (clone_c b off c l w hc (by omega))
  have hSw : ∀ p ∈ sortP l, wideB p := fun p hp => hw p ((sort_mem l p).1 hp)
  have hSL := sort_lenL l
  have hS0 : 0 < (sortP l).length := by
    rcases l with _ | ⟨x, l⟩
    · simp at h0
    · exact List.length_pos_of_mem ((sort_mem (x :: l) x).2 (by simp))
  have HCS := Lib.hid (fun (d : List HPt) (h1 : SrtLe d) (h2 : ∀ y, y ∈ d ↔ y ∈ l) => (compactUpTo_eq d).trans (compact_sort h1 h2))
  have HCN := Lib.hid (around_eq (l := l))
  have HLW := Lib.hid hw
  obtain ⟨S, hS⟩ : ∃ S, sortP l = S := ⟨_, rfl⟩
  rw [hS] at hSw hS0 HCS HCN hSL
  clear hS hc hw
  obtain ⟨N, hN⟩ : ∃ N, S.length = N := ⟨_, rfl⟩
  obtain ⟨L, hL⟩ : ∃ L, l.length = L := ⟨_, rfl⟩
  have HSW := Lib.hid hSw
  have HNL := Lib.hid (And.intro hN hL)
  rw [hN] at hS0 hSL
  rw [hL] at h0 hn hSL
  clear hSw
  rw [hL]
  by_cases h2 : N < 3
  · have g2 : (N : Int) < 3 := by omega
    go_enter Try.func73, Try.ntmps73
    go_wp2_with (first
      | (go_at_call 84; refine (hL ▸ CC.out).mono ?_; rintro e w1 ⟨v1, rfl, ho1, _, hE1⟩; obtain ⟨g, c1, rfl, hg1, hg2, hc1, hcm⟩ := ho1.form (by omega); have hH1 := Lib.hid ho1.holds; replace ho1 := Lib.hid ho1; replace hE1 := Lib.hid hE1; simp only [hL] at hc1 ⊢)
      | (go_at_call 85; have hsc := lsort_c g 0 c1 l HLW.out w1 hH1.out hg2 (by omega); rw [hL] at hsc; refine hsc.mono ?_; rintro e w2 ⟨rfl, n2, os2, d, hd1, hd2, hd3, hw2⟩; clear hsc; have hH2 := Lib.hid (holds_sort (n := n2) (os := os2) (d := d) hH1.out hg2 (hd3.trans hL.symm)); have hE2 := Lib.hid (ext_sortWorldK (n := n2) (d := d.toArray) (os := os2) hE1.out hg1); rw [← hw2] at hH2 hE2; have hdL := hd3; have HDS := Lib.hid (HCS.out d hd1 hd2); clear hw2 hd1 hd2)
      | (go_at_call 87; have hcc := compact_c g 0 c1 d.toArray w2 hH2.out (by rw [List.size_toArray, hdL]; omega) (by rw [List.size_toArray, hdL]; omega); unfold CEnd at hcc; rw [List.size_toArray, HDS.out, hdL, hN] at hcc; refine hcc.mono ?_; clear hcc; rintro e w3 ⟨rfl, q3, F3, hF3, hw3, hH3⟩; have hE3 := Lib.hid (ext_putRow (q := q3) (F := F3) hE2.out hg1); rw [← hw3] at hE3; clear hw3 hF3; replace hH3 := Lib.hid hH3))
    go_ret
    have hp := holds_pts (cap := c1) hH3.out (by omega) (by omega)
    rw [hN] at hp
    exact ⟨_, rfl, by rw [HCN.out, if_pos (by omega)]; exact hp, hE3.out, fun k hk => by simp [Value.ownBlock] at hk; omega⟩
  · have h2' := Lib.hid h2
    have g2 : ¬ (N : Int) < 3 := by omega
    obtain ⟨L1, hL1⟩ : ∃ L1, (sideP S).dropLast = L1 := ⟨_, rfl⟩
    obtain ⟨L2, hL2⟩ : ∃ L2, (sideP S.reverse).dropLast = L2 := ⟨_, rfl⟩
    have hn1 : L1.length ≤ 100000 := by
      have := foldP_len S []
      rw [← hL1, List.length_dropLast, sideP, List.length_reverse]
      simp only [List.length_nil] at this
      omega
    have hn2 : L2.length ≤ 100000 := by
      have := foldP_len S.reverse []
      rw [← hL2, List.length_dropLast, sideP, List.length_reverse]
      simp only [List.length_nil, List.length_reverse] at this
      omega
    have HL12 := Lib.hid (And.intro hL1 hL2)
    obtain ⟨ip, hi0, hii⟩ := Option.map_eq_some_iff.1 infoPoint
    simp only [Prod.mk.injEq] at hii
    obtain ⟨hi1, hi2, hi3⟩ := hii
    clear hL1 hL2
    go_enter Try.func73, Try.ntmps73
    go_wp2_with (first
      | (go_at_call 84; refine (hL ▸ CC.out).mono ?_; rintro e w1 ⟨v1, rfl, ho1, _, hE1⟩; obtain ⟨g, c1, rfl, hg1, hg2, hc1, hcm⟩ := ho1.form (by omega); have hH1 := Lib.hid ho1.holds; replace ho1 := Lib.hid ho1; replace hE1 := Lib.hid hE1; simp only [hL] at hc1 ⊢)
      | (go_at_call 85; have hsc := lsort_c g 0 c1 l HLW.out w1 hH1.out hg2 (by omega); rw [hL] at hsc; refine hsc.mono ?_; rintro e w2 ⟨rfl, n2, os2, d, hd1, hd2, hd3, hw2⟩; clear hsc; have hH2 := Lib.hid (holds_sort (n := n2) (os := os2) (d := d) hH1.out hg2 (hd3.trans hL.symm)); have hE2 := Lib.hid (ext_sortWorldK (n := n2) (d := d.toArray) (os := os2) hE1.out hg1); rw [← hw2] at hH2 hE2; have hdL := hd3; have HDS := Lib.hid (HCS.out d hd1 hd2); clear hw2 hd1 hd2)
      | (go_at_call 87; have hcc := compact_c g 0 c1 d.toArray w2 hH2.out (by rw [List.size_toArray, hdL]; omega) (by rw [List.size_toArray, hdL]; omega); unfold CEnd at hcc; rw [List.size_toArray, HDS.out, hdL, hN] at hcc; refine hcc.mono ?_; clear hcc; rintro e w3 ⟨rfl, q3, F3, hF3, hw3, hH3⟩; have hE3 := Lib.hid (ext_putRow (q := q3) (F := F3) hE2.out hg1); rw [← hw3] at hE3; clear hw3 hF3; replace hH3 := Lib.hid hH3; have hg3 : g < w3.heap.size := World.block_lt_of_cell? _ _ (hH3.out 0 (by rw [size_flatK]; simp; omega)).1; have hcN : N ≤ c1 := (by omega); have hp3 := holds_pts (cap := c1) hH3.out (by omega) (by omega); rw [hN] at hp3; have HP3 := Lib.hid hp3; clear hp3)
      | (go_at_call 88; refine (lside_c _ S w3 HP3.out (by omega) (by omega) HSW.out).mono ?_; rintro e w5 ⟨v5, rfl, ho5, hE5⟩; clear HP3; rw [HL12.out.1] at ho5; obtain ⟨A5, c5, rfl, hm5⟩ := ho5.shape; have E35 := Lib.hid hE5; have HO5 := Lib.hid ho5; clear ho5 hE5)
      | (go_at_call 89; have hrc := rev_c g 0 c1 S w5 (holdsP_ext hH3.out E35.out) (by omega); rw [hN] at hrc; refine hrc.mono ?_; clear hrc; rintro e w6 ⟨rfl, n6, hw6⟩; have hH6 := Lib.hid (holds_rev (n := n6) (holdsP_ext hH3.out E35.out)); have hE6 := Lib.hid (ext_putRow (q := n6) (F := flatK encP 2 S.reverse.toArray) (hE3.out.trans E35.out) hg1); have HO6 := Lib.hid (World.ownsRow.kept HO5.out (putRow_grown (g := g) (n := n6) (flatK encP 2 S.reverse.toArray)) (.inr (own_ne HO5.out hg3))); have hz6 : w5.heap.size = w6.heap.size := (by rw [hw6]; simp [putRowK]); unfold putRowK at hw6 hH6; rw [← hw6] at hH6 hE6 HO6; clear hw6 HO5; have hp6 := holds_pts (cap := c1) hH6.out (by rw [List.length_reverse]; omega) (by rw [List.length_reverse]; omega); rw [List.length_reverse, hN] at hp6; have HP6 := Lib.hid hp6; clear hp6)
      | (go_at_call 88; refine (lside_c _ S.reverse w6 HP6.out (by rw [List.length_reverse]; omega) (by rw [List.length_reverse]; omega) (fun p hp => HSW.out p (List.mem_reverse.1 hp))).mono ?_; rintro e w8 ⟨v8, rfl, ho8, hE8⟩; clear HP6; rw [HL12.out.2] at ho8; obtain ⟨A8, c8, rfl, hm8⟩ := ho8.shape; have E68 := Lib.hid hE8; have HO8 := Lib.hid ho8; have z38 : w3.heap.size ≤ w8.heap.size := Nat.le_trans E35.out.size (Nat.le_trans (Nat.le_of_eq hz6) hE8.size); clear ho8 hE8)
      | (at_builtin; refine wpList_append_sl rfl _ _ 97 rfl w3.heap.size 52 ip _ 2 16 Try.underlying97 hi0 hi1 hi2 hi3 rfl (by decide) _ _ _ rfl (ownsRow_ext' E68.out HO6.out) A8 L2.length c8 (flatP L2) rfl (flatP_len L2) HO8.out.srcA (flatP_one L2) (by unfold maxLen; omega) (by omega) z38 ?_; intro vC wC hoC hgC))
    go_ret
    have EC : Ext w wC := Ext.grown (hE6.out.trans E68.out) hgC (fun k e => Nat.le_trans hE3.out.size (own_ge HO6.out k e))
    have hoD : OwnP w3.heap.size wC vC (L1 ++ L2) := by
      unfold OwnP
      rw [flatP_append, List.length_append]
      exact hoC
    refine ⟨_, rfl, ?_, EC, fun k hk => Nat.le_trans hE3.out.size (own_ge hoD k hk)⟩
    rw [HCN.out, if_neg (by have := h2'.out; omega), HL12.out.1, HL12.out.2]
    exact hoD.pts
end Go.Proofs.Ytkkeblgahbpmmaa
