/- Contract: the leads of a guide, by the reference. -/
import Derived.Test.YtgikfliibimkdaaCFolS
import Derived.Test.YtgikfliibimkdaaCRJoints
namespace Go.Proofs.Ytgikfliibimkdaa
open Go.RowKit Go.Shelf

theorem range_snoc {α : Type} (f : Nat → α) (k : Nat) : (List.range k).map f ++ [f k] = (List.range (k + 1)).map f := by rw [List.range_succ, List.map_append]; rfl
theorem stepsI_end {n s d : Int} {k : Nat} (hd : 1 ≤ d) (h1 : n ≤ s + (k : Int) * d) (h2 : s + (k : Int) * d - d < n) : stepsI n s d = (k : Int) + 1 := by
  unfold stepsI
  have e : n - s + d - 1 = (n - s + d - 1 - (k : Int) * d) + (k : Int) * d := by omega
  rw [e, Int.add_mul_ediv_right _ _ (by omega), Int.ediv_eq_zero_of_lt (by omega) (by omega)]
  omega
theorem stepsI_more {n s d : Int} {k : Nat} (hd : 1 ≤ d) (h1 : s + (k : Int) * d < n) : (k : Int) + 2 ≤ stepsI n s d := by
  unfold stepsI
  have : (k : Int) + 1 ≤ (n - s + d - 1) / d := by
    rw [Int.le_ediv_iff_mul_le (by omega), Int.add_mul]; omega
  omega
theorem leadF_lt {guide : List Pt} {s d n : Int} {k : Nat} (h : s + (k : Int) * d < n) : leadF guide s d n k = (atS guide (s + (k : Int) * d)).1 := by unfold leadF; rw [Int.min_eq_left (by omega)]
theorem leadF_end {guide : List Pt} {s d n : Int} {k : Nat} (h : n ≤ s + (k : Int) * d) : leadF guide s d n k = (atS guide n).1 := by
  unfold leadF
  rw [Int.min_eq_right h]
set_option maxRecDepth 100000 in
set_option maxHeartbeats 6400000 in
theorem Leads_c (vg : Value) (guide : List Pt) (s d n : Int) (w : World) (hg : Pts w vg guide) (h2 : (lenS guide).2 = 0) (hn : (lenS guide).1 = n) (hd1 : 1 ≤ d) (hd2 : d ≤ 16777216) (hs1 : 0 ≤ s) (hs2 : s ≤ n) :
    Calls Try.prog 70 #[vg, .int .i64 s, .int .i64 d] w fun e w' => ∃ (vl : Value) (ls : List Pt), e = .returned vl ∧ OwnP w.heap.size w' vl ls ∧ Ext w w' ∧ (stepsI n s d ≤ 2000 → ls = (List.range (stepsI n s d).toNat).map (leadF guide s d n)) ∧ (2000 < stepsI n s d → 2000 < ls.length) := by
  obtain ⟨he, hz, hl⟩ := lenS_0 h2
  obtain ⟨hm, ha⟩ := errPts_0 he
  have hnb := longS_le he hz
  rw [← hl, hn] at hnb
  have CL := fun w' (h : Ext w w') => Long_c vg guide w' (hg.ext h) hm ha
  rw [← hl, hn] at CL
  have CA := fun t w' (h : Ext w w') (h1 : 0 ≤ t) (h3 : t ≤ 17179869184) => At_c vg guide t w' (hg.ext h) hm hz ha h1 h3
  unfold ptiV at CA
  have hlen : guide.length ≤ 256 := hm
  obtain ⟨Ag, capg, rfl⟩ := pts_shape hg
  obtain ⟨ip, hip, hz0, hz1, hz2⟩ := info_parts infoPoint
  replace CL := Lib.hid CL
  replace CA := Lib.hid CA
  obtain ⟨F, hF⟩ : ∃ F, leadF guide s d n = F := ⟨_, rfl⟩
  have HF := Lib.hid hF
  rw [hF]
  have HB := Lib.hid (And.intro hd1 (And.intro hd2 (And.intro hs1 (And.intro hs2 hnb))))
  have hO0 : OwnP w.heap.size w (.slice none 0 0) ((List.range 0).map F) := ⟨rfl, .inl ⟨rfl, rfl⟩⟩
  clear hg h2 hn he hz hl hm ha hF hd1 hd2 hs1 hs2 hlen
  go_enter Try.func70, Try.ntmps70
  go_upto_region 3 with (go_at_call 67; refine (CL.out _ (by (repeat' (first | exact Ext.refl _ | assumption | refine Ext.alloc ?_ _ | refine Ext.drew ?_ | refine Ext.drewN ?_ _ | refine Ext.set ?_ (by first | exact Nat.le_refl _ | exact le1 _ | exact le2 _ | exact le3 _ | exact le4 _ | exact le5 _ | exact le6 _) _ | refine Ext.trans ?_ (by assumption))))).mono ?_; rintro e w1 ⟨rfl, hb1⟩)
  have hO1 := hO0.ext hb1
  go_loopw [1, 8] (fun sv out wr => ∃ (k : Nat) (t : Int) (ov : Value), sv = .int .i64 t ∧ ov = out ∧ t = s + (k : Int) * d ∧ t - d < n ∧ k ≤ 2001 ∧ OwnP w.heap.size wr ov ((List.range k).map F) ∧ Ext w wr) (fun sv _ _ => (n - intOf sv).toNat)
  case atStart => exact ⟨0, s, _, rfl, rfl, by simp, by have := HB.out; omega, by omega, hO1, hb1⟩
  case round =>
    obtain ⟨k, t, ov, rfl, rfl, ht, htd, hk, hO, E⟩ := hrel
    obtain ⟨b1, b2, b3, b4, b5, b6⟩ := HB.out
    have hkd : 0 ≤ (k : Int) * d := Int.mul_nonneg (by omega) (by omega)
    have ht0 : 0 ≤ t := by omega
    have ht1 : t ≤ n + 16777216 := by omega
    have hsh : ∃ A c, ov = .slice A k c := by
      rcases hO.2 with ⟨h, h0⟩ | ⟨g, cap, cur, h, _⟩
      · have h0' : k = 0 := by simpa using h0
        exact ⟨none, 0, by rw [h, h0']⟩
      · exact ⟨some ⟨g, 0, none⟩, cap, by simpa using h⟩
    obtain ⟨A9, c9, rfl⟩ := hsh
    have hln : ((List.range k).map F).length = k := by simp
    have HO := Lib.hid hO
    have HLN := Lib.hid hln
    have HT := Lib.hid (And.intro ht (And.intro htd hkd))
    clear hO hln ht htd hkd hO1 hO0
    by_cases hgo : t < n ∧ k ≤ 2000
    case pos =>
      obtain ⟨⟨⟨r1, r2⟩, ix⟩, hAt⟩ : ∃ x, atS guide t = x := ⟨_, rfl⟩
      have CAt := fun w' (he : Ext w w') => CA.out t w' he ht0 (by omega)
      rw [hAt] at CAt
      simp only at CAt
      have hFk : F k = (r1, r2) := by rw [← HF.out, leadF_lt (by have := HT.out.1; omega), ← HT.out.1, hAt]
      obtain ⟨g1, g2⟩ := hgo
      have g3 : (k : Int) ≤ 2000 := by omega
      have ew := IntWalk.i64_in (t + d) (by omega)
      have HFk := Lib.hid hFk
      have HG := Lib.hid g2
      replace CAt := Lib.hid CAt
      clear hFk hAt g2
      go_upto_region 5 with (go_at_call 94; refine (CAt.out _ (by (repeat' (first | exact Ext.refl _ | assumption | refine Ext.alloc ?_ _ | refine Ext.drew ?_ | refine Ext.drewN ?_ _ | refine Ext.set ?_ (by first | exact Nat.le_refl _ | exact le1 _ | exact le2 _ | exact le3 _ | exact le4 _ | exact le5 _ | exact le6 _) _ | refine Ext.trans ?_ (by assumption))))).mono ?_; rintro e w2 ⟨rfl, hb2⟩)
      have h23 : Ext w2 (w2.alloc (.cells #[.int .i64 r1, .int .i64 r2] 26)) := (Ext.refl w2).alloc _
      have hL3 : (w2.alloc (.cells #[.int .i64 r1, .int .i64 r2] 26)).heap[w2.heap.size]? = some (.cells #[.int .i64 r1, .int .i64 r2] 26 (0, 0)) := new_at rfl
      have E3 := hb2.trans h23
      generalize (w2.alloc (.cells #[.int .i64 r1, .int .i64 r2] 26)) = W3 at *
      have L0 : W3.cell? ⟨w2.heap.size, 0, none⟩ = some (.int .i64 r1) := news_at hL3 0 _ rfl
      have L1 : W3.cell? ⟨w2.heap.size, 1, none⟩ = some (.int .i64 r2) := news_at hL3 1 _ rfl
      have hl3 := fst_lt hL3
      have HO3 := Lib.hid (HO.out.ext E3)
      have hs3 := (E.trans E3).sz
      clear hL3 h23 hb2
      go_upto_region 6 with (at_builtin; refine wpList_append_lies _ rfl _ _ 27 rfl w.heap.size 26 ip _ 2 16 Try.underlying27 hip hz0 hz1 hz2 rfl (by decide) (.slice A9 k c9) k (flatP ((List.range k).map F)) rfl (by have := HO3.out.alloc (.cells #[.int .i64 r1, .int .i64 r2] 26); rw [HLN.out] at this; exact this) ⟨W3.heap.size, 0, none⟩ 1 1 [.int .i64 r1, .int .i64 r2] rfl rfl (World.news_of_block (cs := #[.int .i64 r1, .int .i64 r2]) (t := 26) (fr := (0, 0)) (heap_alloc_new _ _)) (by simp [Value.oneCell']) (by omega) (by unfold maxLen; omega) (by omega) (by simp; omega) (W3.heap.size + 1) (by simp) ?_; intro g4 cap4 w8 hown8 hgrow8 hat8 hlt8)
      have EG : Ext w w8 := Ext.grown ((E.trans E3).alloc _) hgrow8 (fun g hg => own_ge HO3.out g hg)
      have hO8 : OwnP w.heap.size w8 (.slice (some ⟨g4, 0, none⟩) (k + 1) cap4) ((List.range (k + 1)).map F) := by
        unfold OwnP
        rw [← range_snoc, HFk.out, flatP_snoc, List.length_append, HLN.out]
        exact hown8
      have HX := Lib.hid (And.intro hO8 EG)
      clear hO8 EG hown8 hgrow8 hat8 hlt8 L0 L1
      go_wp2_with fail
      go_roundw
      case rel => exact ⟨k + 1, t + d, _, rfl, rfl, by have h5 := HT.out.1; have h6 : ((k + 1 : Nat) : Int) * d = (k : Int) * d + d := (by push_cast; rw [Int.add_mul]; omega); rw [h6]; omega, by omega, by have := HG.out; omega, HX.out.1, HX.out.2⟩
      case measure => simp [intOf]; omega
    case neg =>
      have CAt := fun w' (he : Ext w w') => CA.out n w' he (by omega) (by omega)
      obtain ⟨⟨⟨r1, r2⟩, ix⟩, hAt⟩ : ∃ x, atS guide n = x := ⟨_, rfl⟩
      rw [hAt] at CAt
      simp only at CAt
      have hfin : (stepsI n s d ≤ 2000 → (List.range k).map F ++ [(r1, r2)] = (List.range (stepsI n s d).toNat).map F) ∧ (2000 < stepsI n s d → 2000 < ((List.range k).map F ++ [((r1, r2) : Pt)]).length) := by
        obtain ⟨k1, k2, k3⟩ := HT.out
        by_cases htn : t < n
        · have hk1 : k = 2001 := by omega
          have := stepsI_more (n := n) (s := s) (d := d) (k := k) b1 (by omega)
          exact ⟨fun h => by omega, fun _ => by rw [List.length_append, HLN.out]; simp; omega⟩
        · have h5 := stepsI_end (n := n) (s := s) (d := d) (k := k) b1 (by omega) (by omega)
          have hFk : F k = (r1, r2) := by rw [← HF.out, leadF_end (by omega), hAt]
          refine ⟨fun _ => ?_, fun h => by rw [List.length_append, HLN.out]; simp; omega⟩
          rw [h5, show ((k : Int) + 1).toNat = k + 1 by omega, ← range_snoc, hFk]
      have hx : (¬ t < n) ∨ (t < n ∧ ¬ (k : Int) ≤ 2000) := by omega
      have HFI := Lib.hid hfin
      replace CAt := Lib.hid CAt
      clear hfin hAt hgo
      rcases hx with hx | ⟨hx, hx2⟩
      all_goals
        go_upto_region 8 with (go_at_call 94; refine (CAt.out _ (by (repeat' (first | exact Ext.refl _ | assumption | refine Ext.alloc ?_ _ | refine Ext.drew ?_ | refine Ext.drewN ?_ _ | refine Ext.set ?_ (by first | exact Nat.le_refl _ | exact le1 _ | exact le2 _ | exact le3 _ | exact le4 _ | exact le5 _ | exact le6 _) _ | refine Ext.trans ?_ (by assumption))))).mono ?_; rintro e w2 ⟨rfl, hb2⟩)
        have h23 : Ext w2 (w2.alloc (.cells #[.int .i64 r1, .int .i64 r2] 26)) := (Ext.refl w2).alloc _
        have hL3 : (w2.alloc (.cells #[.int .i64 r1, .int .i64 r2] 26)).heap[w2.heap.size]? = some (.cells #[.int .i64 r1, .int .i64 r2] 26 (0, 0)) := new_at rfl
        have E3 := hb2.trans h23
        generalize (w2.alloc (.cells #[.int .i64 r1, .int .i64 r2] 26)) = W3 at *
        have L0 : W3.cell? ⟨w2.heap.size, 0, none⟩ = some (.int .i64 r1) := news_at hL3 0 _ rfl
        have L1 : W3.cell? ⟨w2.heap.size, 1, none⟩ = some (.int .i64 r2) := news_at hL3 1 _ rfl
        have hl3 := fst_lt hL3
        have HO3 := Lib.hid (HO.out.ext E3)
        have hs3 := (E.trans E3).sz
        clear hL3 h23 hb2
        go_wp2_with (at_builtin; refine wpList_append_lies _ rfl _ _ 27 rfl w.heap.size 26 ip _ 2 16 Try.underlying27 hip hz0 hz1 hz2 rfl (by decide) (.slice A9 k c9) k (flatP ((List.range k).map F)) rfl (by have := HO3.out.alloc (.cells #[.int .i64 r1, .int .i64 r2] 26); rw [HLN.out] at this; exact this) ⟨W3.heap.size, 0, none⟩ 1 1 [.int .i64 r1, .int .i64 r2] rfl rfl (World.news_of_block (cs := #[.int .i64 r1, .int .i64 r2]) (t := 26) (fr := (0, 0)) (heap_alloc_new _ _)) (by simp [Value.oneCell']) (by omega) (by unfold maxLen; omega) (by omega) (by simp; omega) (W3.heap.size + 1) (by simp) ?_; intro g4 cap4 w8 hown8 hgrow8 hat8 hlt8)
        have EG : Ext w w8 := Ext.grown ((E.trans E3).alloc _) hgrow8 (fun g hg => own_ge HO3.out g hg)
        have hO8 : OwnP w.heap.size w8 (.slice (some ⟨g4, 0, none⟩) (k + 1) cap4) ((List.range k).map F ++ [(r1, r2)]) := by
          unfold OwnP
          rw [flatP_snoc, List.length_append, HLN.out]
          exact hown8
        refine bodyPost_ret (v := .slice (some ⟨g4, 0, none⟩) (k + 1) cap4) (by simp [results, Try.results70, go_sem]) rfl ?_
        exact ⟨_, _, rfl, hO8, EG, HFI.out.1, HFI.out.2⟩
end Go.Proofs.Ytgikfliibimkdaa
