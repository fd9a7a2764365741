
/- HTopsB: several texts in one. -/
import Derived.Test.YtlndcpjaeoppmaaHTops2
import Derived.Test.YtlndcpjaeoppmaaHGeoAll
import Derived.Test.YtlndcpjaeoppmaaHSorted
/- Contracts: Hull, both; Inside, the program. -/
namespace Go.Proofs.Ytlndcpjaeoppmaa
open Go.RowKit Go.Shelf

/-- what Hull returns -/
def hullS (l : List HPt) : List HPt × Int := if errPts l = 0 then (if l.length = 0 then ([], 5) else (cornersP l, 0)) else ([], errPts l)
theorem hullS_bad {l : List HPt} (h : ¬ errPts l = 0) : hullS l = ([], errPts l) := by unfold hullS; rw [if_neg h]
theorem hullS_ok {l : List HPt} (h : errPts l = 0) (h0 : ¬ l.length = 0) : hullS l = (cornersP l, 0) := by unfold hullS; rw [if_pos h, if_neg h0]
set_option maxRecDepth 100000 in
set_option maxHeartbeats 1600000 in
theorem Hull_c (v : Value) (l : List HPt) (w : World) (hp : Pts w v l) :
    Calls Try.prog 9 #[v] w fun e w' => ∃ v', e = .returned (.tuple #[v', .int .i64 (hullS l).2]) ∧ Pts w' v' (hullS l).1 ∧ Ext w w' := by
  have CP := Lib.hid (fun W (h : Ext w W) (bb : Nat) (h1 : W.cell? ⟨bb, 0, none⟩ = some v) => checkPoints_c bb 1 v l W (hp.ext h) h1)
  rcases hp with ⟨a0, c0, rfl, rfl⟩ | ⟨b, off, cap, rfl, hl, hcap, hc⟩
  · rw [show errPts [] = 0 from rfl] at CP
    rw [show hullS [] = ([], 5) from rfl]
    go_enter Try.func9, Try.ntmps9
    go_wp2_with (go_at_call 30; refine (CP.out _ (by (repeat' (first | exact Ext.refl _ | assumption | refine Ext.alloc ?_ _ | refine Ext.drew ?_ | refine Ext.drewN ?_ _ | refine Ext.set ?_ (by first | exact Nat.le_refl _ | exact le1 _ | exact le2 _ | exact le3 _ | exact le4 _ | exact le5 _ | exact le6 _) _ | refine Ext.trans ?_ (by assumption)))) _ (by go_simp)).mono ?_; rintro e w1 ⟨rfl, hb1⟩)
    exact bodyPost_ret (v := .tuple #[.slice none 0 0, .int .i64 5]) (by simp [results, Try.results9, go_sem]) rfl ⟨_, rfl, .inl ⟨none, 0, rfl, rfl⟩, by (repeat' (first | exact Ext.refl _ | assumption | refine Ext.alloc ?_ _ | refine Ext.drew ?_ | refine Ext.drewN ?_ _ | refine Ext.set ?_ (by first | exact Nat.le_refl _ | exact le1 _ | exact le2 _ | exact le3 _ | exact le4 _ | exact le5 _ | exact le6 _) _ | refine Ext.trans ?_ (by assumption)))⟩
  · by_cases he : errPts l = 0
    · by_cases h0 : l.length = 0
      · have hn := List.eq_nil_of_length_eq_zero h0
        subst hn
        rw [show errPts [] = 0 from rfl] at CP
        rw [show hullS [] = ([], 5) from rfl]
        simp only [List.length_nil] at *
        clear h0 he
        go_enter Try.func9, Try.ntmps9
        go_wp2_with (go_at_call 30; refine (CP.out _ (by (repeat' (first | exact Ext.refl _ | assumption | refine Ext.alloc ?_ _ | refine Ext.drew ?_ | refine Ext.drewN ?_ _ | refine Ext.set ?_ (by first | exact Nat.le_refl _ | exact le1 _ | exact le2 _ | exact le3 _ | exact le4 _ | exact le5 _ | exact le6 _) _ | refine Ext.trans ?_ (by assumption)))) _ (by go_simp)).mono ?_; rintro e w1 ⟨rfl, hb1⟩)
        exact bodyPost_ret (v := .tuple #[.slice none 0 0, .int .i64 5]) (by simp [results, Try.results9, go_sem]) rfl ⟨_, rfl, .inl ⟨none, 0, rfl, rfl⟩, by (repeat' (first | exact Ext.refl _ | assumption | refine Ext.alloc ?_ _ | refine Ext.drew ?_ | refine Ext.drewN ?_ _ | refine Ext.set ?_ (by first | exact Nat.le_refl _ | exact le1 _ | exact le2 _ | exact le3 _ | exact le4 _ | exact le5 _ | exact le6 _) _ | refine Ext.trans ?_ (by assumption)))⟩
      · rw [hullS_ok he h0]
        obtain ⟨hl2, _, hw⟩ := errPts_wide he
        have HC := Lib.hid hc
        have CC := Lib.hid (fun W (h : Ext w W) => corners_c b off cap l W (HC.out.ext h) (by omega) hw (by omega))
        rw [he] at CP
        have hz : ¬ l = [] := by intro e; subst e; simp at h0
        generalize cornersP l = K at *
        clear he hw hc
        go_enter Try.func9, Try.ntmps9
        go_wp2_with (first
          | (go_at_call 30; refine (CP.out _ (by (repeat' (first | exact Ext.refl _ | assumption | refine Ext.alloc ?_ _ | refine Ext.drew ?_ | refine Ext.drewN ?_ _ | refine Ext.set ?_ (by first | exact Nat.le_refl _ | exact le1 _ | exact le2 _ | exact le3 _ | exact le4 _ | exact le5 _ | exact le6 _) _ | refine Ext.trans ?_ (by assumption)))) _ (by go_simp)).mono ?_; rintro e w1 ⟨rfl, hb1⟩)
          | (go_at_call 31; refine (CC.out _ (by (repeat' (first | exact Ext.refl _ | assumption | refine Ext.alloc ?_ _ | refine Ext.drew ?_ | refine Ext.drewN ?_ _ | refine Ext.set ?_ (by first | exact Nat.le_refl _ | exact le1 _ | exact le2 _ | exact le3 _ | exact le4 _ | exact le5 _ | exact le6 _) _ | refine Ext.trans ?_ (by assumption))))).mono ?_; rintro e w2 ⟨v2, rfl, hp2, hb2⟩; obtain ⟨A2, c2, rfl, _⟩ := hp2.shapeH; replace hp2 := Lib.hid hp2))
        exact bodyPost_ret (v := .tuple #[.slice A2 K.length c2, .int .i64 0]) (by simp [results, Try.results9, go_sem]) rfl ⟨_, rfl, hp2.out, by (repeat' (first | exact Ext.refl _ | assumption | refine Ext.alloc ?_ _ | refine Ext.drew ?_ | refine Ext.drewN ?_ _ | refine Ext.set ?_ (by first | exact Nat.le_refl _ | exact le1 _ | exact le2 _ | exact le3 _ | exact le4 _ | exact le5 _ | exact le6 _) _ | refine Ext.trans ?_ (by assumption)))⟩
    · rw [hullS_bad he]
      have he2 : (errPts l != 0) = true := by simpa using he
      generalize errPts l = E at *
      clear hc
      go_enter Try.func9, Try.ntmps9
      go_wp2_with (go_at_call 30; refine (CP.out _ (by (repeat' (first | exact Ext.refl _ | assumption | refine Ext.alloc ?_ _ | refine Ext.drew ?_ | refine Ext.drewN ?_ _ | refine Ext.set ?_ (by first | exact Nat.le_refl _ | exact le1 _ | exact le2 _ | exact le3 _ | exact le4 _ | exact le5 _ | exact le6 _) _ | refine Ext.trans ?_ (by assumption)))) _ (by go_simp)).mono ?_; rintro e w1 ⟨rfl, hb1⟩)
      exact bodyPost_ret (v := .tuple #[.slice none 0 0, .int .i64 E]) (by simp [results, Try.results9, go_sem]) rfl ⟨_, rfl, .inl ⟨none, 0, rfl, rfl⟩, by (repeat' (first | exact Ext.refl _ | assumption | refine Ext.alloc ?_ _ | refine Ext.drew ?_ | refine Ext.drewN ?_ _ | refine Ext.set ?_ (by first | exact Nat.le_refl _ | exact le1 _ | exact le2 _ | exact le3 _ | exact le4 _ | exact le5 _ | exact le6 _) _ | refine Ext.trans ?_ (by assumption)))⟩
set_option maxRecDepth 100000 in
set_option maxHeartbeats 1600000 in
theorem RHull_c (v : Value) (l : List HPt) (w : World) (hp : Pts w v l) :
    Calls Try.prog 15 #[v] w fun e w' => ∃ v', e = .returned (.tuple #[v', .int .i64 (hullS l).2]) ∧ Pts w' v' (hullS l).1 ∧ Ext w w' := by
  have CP := Lib.hid (fun W (h : Ext w W) => points_c v l W (hp.ext h))
  by_cases he : errPts l = 0
  · by_cases h0 : l.length = 0
    · have hn := List.eq_nil_of_length_eq_zero h0
      subst hn
      obtain ⟨A, c, rfl, _⟩ := hp.shapeH
      rw [show errPts [] = 0 from rfl] at CP
      rw [show hullS [] = ([], 5) from rfl]
      simp only [List.length_nil] at *
      clear h0 he hp
      go_enter Try.func15, Try.ntmps15
      go_wp2_with (go_at_call 39; refine (CP.out _ (by (repeat' (first | exact Ext.refl _ | assumption | refine Ext.alloc ?_ _ | refine Ext.drew ?_ | refine Ext.drewN ?_ _ | refine Ext.set ?_ (by first | exact Nat.le_refl _ | exact le1 _ | exact le2 _ | exact le3 _ | exact le4 _ | exact le5 _ | exact le6 _) _ | refine Ext.trans ?_ (by assumption))))).mono ?_; rintro e w1 ⟨rfl, hb1⟩)
      exact bodyPost_ret (v := .tuple #[.slice none 0 0, .int .i64 5]) (by simp [results, Try.results15, go_sem]) rfl ⟨_, rfl, .inl ⟨none, 0, rfl, rfl⟩, by (repeat' (first | exact Ext.refl _ | assumption | refine Ext.alloc ?_ _ | refine Ext.drew ?_ | refine Ext.drewN ?_ _ | refine Ext.set ?_ (by first | exact Nat.le_refl _ | exact le1 _ | exact le2 _ | exact le3 _ | exact le4 _ | exact le5 _ | exact le6 _) _ | refine Ext.trans ?_ (by assumption)))⟩
    · rw [hullS_ok he h0]
      obtain ⟨hl2, _, hw⟩ := errPts_wide he
      have CC := Lib.hid (fun W (h : Ext w W) => Corners_c v l W (hp.ext h) hw (by omega))
      obtain ⟨A, c, rfl, _⟩ := hp.shapeH
      rw [he] at CP
      have hz : ¬ l = [] := by intro e; subst e; simp at h0
      generalize cornersP l = K at *
      clear he hw hp
      go_enter Try.func15, Try.ntmps15
      go_wp2_with (first
        | (go_at_call 39; refine (CP.out _ (by (repeat' (first | exact Ext.refl _ | assumption | refine Ext.alloc ?_ _ | refine Ext.drew ?_ | refine Ext.drewN ?_ _ | refine Ext.set ?_ (by first | exact Nat.le_refl _ | exact le1 _ | exact le2 _ | exact le3 _ | exact le4 _ | exact le5 _ | exact le6 _) _ | refine Ext.trans ?_ (by assumption))))).mono ?_; rintro e w1 ⟨rfl, hb1⟩)
        | (go_at_call 40; refine (CC.out _ (by (repeat' (first | exact Ext.refl _ | assumption | refine Ext.alloc ?_ _ | refine Ext.drew ?_ | refine Ext.drewN ?_ _ | refine Ext.set ?_ (by first | exact Nat.le_refl _ | exact le1 _ | exact le2 _ | exact le3 _ | exact le4 _ | exact le5 _ | exact le6 _) _ | refine Ext.trans ?_ (by assumption))))).mono ?_; rintro e w2 ⟨v2, rfl, ho2, hb2⟩; have hp2 := ho2.pts; obtain ⟨A2, c2, rfl, _⟩ := hp2.shapeH; replace hp2 := Lib.hid hp2; clear ho2))
      exact bodyPost_ret (v := .tuple #[.slice A2 K.length c2, .int .i64 0]) (by simp [results, Try.results15, go_sem]) rfl ⟨_, rfl, hp2.out, by (repeat' (first | exact Ext.refl _ | assumption | refine Ext.alloc ?_ _ | refine Ext.drew ?_ | refine Ext.drewN ?_ _ | refine Ext.set ?_ (by first | exact Nat.le_refl _ | exact le1 _ | exact le2 _ | exact le3 _ | exact le4 _ | exact le5 _ | exact le6 _) _ | refine Ext.trans ?_ (by assumption)))⟩
  · rw [hullS_bad he]
    have he2 : (errPts l != 0) = true := by simpa using he
    obtain ⟨A, c, rfl, _⟩ := hp.shapeH
    generalize errPts l = E at *
    clear hp
    go_enter Try.func15, Try.ntmps15
    go_wp2_with (go_at_call 39; refine (CP.out _ (by (repeat' (first | exact Ext.refl _ | assumption | refine Ext.alloc ?_ _ | refine Ext.drew ?_ | refine Ext.drewN ?_ _ | refine Ext.set ?_ (by first | exact Nat.le_refl _ | exact le1 _ | exact le2 _ | exact le3 _ | exact le4 _ | exact le5 _ | exact le6 _) _ | refine Ext.trans ?_ (by assumption))))).mono ?_; rintro e w1 ⟨rfl, hb1⟩)
    exact bodyPost_ret (v := .tuple #[.slice none 0 0, .int .i64 E]) (by simp [results, Try.results15, go_sem]) rfl ⟨_, rfl, .inl ⟨none, 0, rfl, rfl⟩, by (repeat' (first | exact Ext.refl _ | assumption | refine Ext.alloc ?_ _ | refine Ext.drew ?_ | refine Ext.drewN ?_ _ | refine Ext.set ?_ (by first | exact Nat.le_refl _ | exact le1 _ | exact le2 _ | exact le3 _ | exact le4 _ | exact le5 _ | exact le6 _) _ | refine Ext.trans ?_ (by assumption)))⟩
end Go.Proofs.Ytlndcpjaeoppmaa
/- Contract: Inside, the program. -/
namespace Go.Proofs.Ytlndcpjaeoppmaa
open Go.RowKit Go.Shelf

/-- what Inside returns -/
def insideS (h : List HPt) (p : HPt) : Bool × Int := if errHs [h, h] = 0 then (if okPt p = true then (meetB h [p], 0) else (false, 2)) else (false, errHs [h, h])
theorem ok_wide {p : HPt} (h : okPt p = true) : wideB p := by
  simp only [okPt, inB, Bool.and_eq_true, decide_eq_true_eq] at h
  unfold wideB
  omega
set_option maxRecDepth 100000 in
set_option maxHeartbeats 1600000 in
theorem Inside_c (v : Value) (h : List HPt) (x y : Int) (w : World) (hp : Pts w v h) :
    Calls Try.prog 13 #[v, .agg #[.int .i64 x, .int .i64 y]] w fun e w' => e = .returned (.tuple #[.bool (insideS h (x, y)).1, .int .i64 (insideS h (x, y)).2]) ∧ Ext w w' := by
  have HC := Lib.hid (fun W (hh : Ext w W) (bb : Nat) (t : TypeId) (hblk : W.heap[bb]? = some (.cells #[v] t (0, 0))) => checkHulls_c bb 1 [v] [h] W (Lists.one hblk (hp.ext hh)) (by simp))
  have VC := fun W (v' : Value) (hv : Pts W v' [(x, y)]) => valid_c v' [(x, y)] W hv
  have hall : ([(x, y)] : List HPt).all okPt = okPt (x, y) := by simp
  rw [hall] at VC
  rw [errHs_one] at HC
  by_cases he : errHs [h, h] = 0
  · obtain ⟨h1, _⟩ := errHs_ok he
    obtain ⟨h0, hl, _, hw, _⟩ := isHull_facts h1
    cases hk : okPt (x, y)
    · rw [hk] at VC
      have hS : insideS h (x, y) = (false, 2) := by unfold insideS; rw [if_pos he, hk]; rfl
      rw [hS]
      rw [he] at HC
      obtain ⟨A, ca, rfl, _⟩ := hp.shapeH
      replace VC := Lib.hid VC
      clear he h1 hp hw hS hk hall
      go_enter Try.func13, Try.ntmps13
      go_wp2_with (first
        | (go_at_call 36; refine (HC.out _ (by (repeat' (first | exact Ext.refl _ | assumption | refine Ext.alloc ?_ _ | refine Ext.drew ?_ | refine Ext.drewN ?_ _ | refine Ext.set ?_ (by first | exact Nat.le_refl _ | exact le1 _ | exact le2 _ | exact le3 _ | exact le4 _ | exact le5 _ | exact le6 _) _ | refine Ext.trans ?_ (by assumption)))) _ _ (heap2_second _ _ _)).mono ?_; rintro e w1 ⟨rfl, hb1⟩; have y0 := Ext.cell hb1 (p := ⟨w.heap.size, 0, none⟩) (v := .int .i64 x) (by go_simp); have y1 := Ext.cell hb1 (p := ⟨w.heap.size, 1, none⟩) (v := .int .i64 y) (by go_simp); have ly := World.block_lt_of_cell? _ _ y0; simp only at ly)
        | (go_at_call 37; refine (VC.out _ _ (OwnP.one w1 (x, y)).pts).mono ?_; rintro e w2 ⟨rfl, hb2⟩))
      exact bodyPost_ret (v := .tuple #[.bool false, .int .i64 2]) (by simp [results, Try.results13, go_sem]) rfl ⟨rfl, by (repeat' (first | exact Ext.refl _ | assumption | refine Ext.alloc ?_ _ | refine Ext.drew ?_ | refine Ext.drewN ?_ _ | refine Ext.set ?_ (by first | exact Nat.le_refl _ | exact le1 _ | exact le2 _ | exact le3 _ | exact le4 _ | exact le5 _ | exact le6 _) _ | refine Ext.trans ?_ (by assumption)))⟩
    · rw [hk] at VC
      have hS : insideS h (x, y) = (meetB h [(x, y)], 0) := by unfold insideS; rw [if_pos he, hk]; rfl
      have MC := Lib.hid (fun W (hh : Ext w W) (v' : Value) (hv : Pts W v' [(x, y)]) => apart_c v v' h [(x, y)] W (hp.ext hh) hv h0 (by simp) hw (fun p hp => by
        have : p = (x, y) := by simpa using hp
        rw [this]; exact ok_wide hk) (by omega) (by simp))
      rw [hS]
      rw [he] at HC
      obtain ⟨A, ca, rfl, _⟩ := hp.shapeH
      replace VC := Lib.hid VC
      generalize meetB h [(x, y)] = M at *
      clear he h1 hp hw hS hk hall
      go_enter Try.func13, Try.ntmps13
      go_wp2_with (first
        | (go_at_call 36; refine (HC.out _ (by (repeat' (first | exact Ext.refl _ | assumption | refine Ext.alloc ?_ _ | refine Ext.drew ?_ | refine Ext.drewN ?_ _ | refine Ext.set ?_ (by first | exact Nat.le_refl _ | exact le1 _ | exact le2 _ | exact le3 _ | exact le4 _ | exact le5 _ | exact le6 _) _ | refine Ext.trans ?_ (by assumption)))) _ _ (heap2_second _ _ _)).mono ?_; rintro e w1 ⟨rfl, hb1⟩; have y0 := Ext.cell hb1 (p := ⟨w.heap.size, 0, none⟩) (v := .int .i64 x) (by go_simp); have y1 := Ext.cell hb1 (p := ⟨w.heap.size, 1, none⟩) (v := .int .i64 y) (by go_simp); have ly := World.block_lt_of_cell? _ _ y0; simp only at ly)
        | (go_at_call 37; refine (VC.out _ _ (OwnP.one w1 (x, y)).pts).mono ?_; rintro e w2 ⟨rfl, hb2⟩; have e12 : Ext w1 w2 := ((Ext.refl w1).alloc _).trans hb2; replace y0 := e12.cell y0; replace y1 := e12.cell y1; clear VC)
        | (go_at_call 38; refine (MC.out _ (by (repeat' (first | exact Ext.refl _ | assumption | refine Ext.alloc ?_ _ | refine Ext.drew ?_ | refine Ext.drewN ?_ _ | refine Ext.set ?_ (by first | exact Nat.le_refl _ | exact le1 _ | exact le2 _ | exact le3 _ | exact le4 _ | exact le5 _ | exact le6 _) _ | refine Ext.trans ?_ (by assumption)))) _ (OwnP.one w2 (x, y)).pts).mono ?_; rintro e w3 ⟨rfl, hb3⟩))
      exact bodyPost_ret (v := .tuple #[.bool M, .int .i64 0]) (by simp [results, Try.results13, go_sem]) rfl ⟨rfl, by (repeat' (first | exact Ext.refl _ | assumption | refine Ext.alloc ?_ _ | refine Ext.drew ?_ | refine Ext.drewN ?_ _ | refine Ext.set ?_ (by first | exact Nat.le_refl _ | exact le1 _ | exact le2 _ | exact le3 _ | exact le4 _ | exact le5 _ | exact le6 _) _ | refine Ext.trans ?_ (by assumption)))⟩
  · have hS : insideS h (x, y) = (false, errHs [h, h]) := by unfold insideS; rw [if_neg he]
    rw [hS]
    have he2 : (errHs [h, h] != 0) = true := by simpa using he
    obtain ⟨A, ca, rfl, _⟩ := hp.shapeH
    generalize errHs [h, h] = E at *
    clear hp hS VC he hall
    go_enter Try.func13, Try.ntmps13
    go_wp2_with (go_at_call 36; refine (HC.out _ (by (repeat' (first | exact Ext.refl _ | assumption | refine Ext.alloc ?_ _ | refine Ext.drew ?_ | refine Ext.drewN ?_ _ | refine Ext.set ?_ (by first | exact Nat.le_refl _ | exact le1 _ | exact le2 _ | exact le3 _ | exact le4 _ | exact le5 _ | exact le6 _) _ | refine Ext.trans ?_ (by assumption)))) _ _ (heap2_second _ _ _)).mono ?_; rintro e w1 ⟨rfl, hb1⟩)
    exact bodyPost_ret (v := .tuple #[.bool false, .int .i64 E]) (by simp [results, Try.results13, go_sem]) rfl ⟨rfl, by (repeat' (first | exact Ext.refl _ | assumption | refine Ext.alloc ?_ _ | refine Ext.drew ?_ | refine Ext.drewN ?_ _ | refine Ext.set ?_ (by first | exact Nat.le_refl _ | exact le1 _ | exact le2 _ | exact le3 _ | exact le4 _ | exact le5 _ | exact le6 _) _ | refine Ext.trans ?_ (by assumption)))⟩
end Go.Proofs.Ytlndcpjaeoppmaa
/- Contracts: Has and Inside, the definition. -/
namespace Go.Proofs.Ytlndcpjaeoppmaa
open Go.RowKit Go.Shelf

set_option maxRecDepth 100000 in
set_option maxHeartbeats 3200000 in
theorem Has_c (v : Value) (h : List HPt) (x y : Int) (w : World) (hp : Pts w v h) (hw : ∀ q ∈ h, wideB q) (hk : wideB (x, y)) (hn : h.length ≤ 1000) :
    Calls Try.prog 43 #[v, .agg #[.int .i64 x, .int .i64 y]] w fun e w' => e = .returned (.bool (decide (cornersP (h ++ [(x, y)]) = h))) ∧ Ext w w' := by
  have CC := Lib.hid (fun W v' (hv : Pts W v' (h ++ [(x, y)])) => Corners_c v' _ W hv (fun q hq => by
    rcases List.mem_append.1 hq with hq | hq
    · exact hw q hq
    · have : q = (x, y) := by simpa using hq
      rw [this]; exact hk) (by simp; omega))
  have CS := Lib.hid (fun W (hh : Ext w W) v' (hv : Pts W v' (cornersP (h ++ [(x, y)]))) => Same01_c v' v _ h W hv (hp.ext hh))
  obtain ⟨A, c, rfl, _⟩ := hp.shapeH
  generalize cornersP (h ++ [(x, y)]) = K at *
  have HP0 := Lib.hid hp
  clear hp hw hk
  go_enter Try.func43, Try.ntmps43
  go_upto_region 1 with fail
  have EW1 : Ext w (w.alloc (.cells #[.int .i64 x, .int .i64 y] 31)) := (Ext.refl w).alloc _
  have y0 : (w.alloc (.cells #[.int .i64 x, .int .i64 y] 31)).cell? ⟨w.heap.size, 0, none⟩ = some (.int .i64 x) := World.cell?_alloc_new _ _ _ _
  have y1 : (w.alloc (.cells #[.int .i64 x, .int .i64 y] 31)).cell? ⟨w.heap.size, 1, none⟩ = some (.int .i64 y) := World.cell?_alloc_new _ _ _ _
  generalize (w.alloc (.cells #[.int .i64 x, .int .i64 y] 31)) = W1 at *
  have HPF := Lib.hid (fun W' (hh : Ext W1 W') => HP0.out.ext (EW1.trans hh))
  have HEW1 := Lib.hid EW1
  clear EW1
  have ly := World.block_lt_of_cell? _ _ y0
  simp only at ly
  go_region_held3 (fun w' => w'.cell? ⟨w.heap.size, 0, none⟩ = some (.int .i64 x) ∧ w'.cell? ⟨w.heap.size, 1, none⟩ = some (.int .i64 y)) (first | exact ⟨Ext.cell (w := W1) (by (repeat' (first | exact Ext.refl _ | assumption | refine Ext.alloc ?_ _ | refine Ext.drew ?_ | refine Ext.drewN ?_ _ | refine Ext.set ?_ (by first | exact Nat.le_refl _ | exact le1 _ | exact le2 _ | exact le3 _ | exact le4 _ | exact le5 _ | exact le6 _) _ | refine Ext.trans ?_ (by assumption)))) y0, Ext.cell (w := W1) (by (repeat' (first | exact Ext.refl _ | assumption | refine Ext.alloc ?_ _ | refine Ext.drew ?_ | refine Ext.drewN ?_ _ | refine Ext.set ?_ (by first | exact Nat.le_refl _ | exact le1 _ | exact le2 _ | exact le3 _ | exact le4 _ | exact le5 _ | exact le6 _) _ | refine Ext.trans ?_ (by assumption)))) y1⟩ | exact ⟨EA.cell y0, EA.cell y1⟩ | exact ⟨EC.cell y0, EC.cell y1⟩) (first
      | (refine step_append_pts (by rfl) _ _ (by rfl) W1.heap.size (.slice (some ⟨W1.heap.size, 0, none⟩) 0 0) (.slice A h.length c) [] h (by rfl) (OwnP.empty (by first | exact World.alloc_heap_new _ _ | exact heap2_first _ _ _ | exact heap2_second _ _ _) (Nat.le_refl _)) (by rfl) (HPF.out _ (by (repeat' (first | exact Ext.refl _ | assumption | refine Ext.alloc ?_ _ | refine Ext.drew ?_ | refine Ext.drewN ?_ _ | refine Ext.set ?_ (by first | exact Nat.le_refl _ | exact le1 _ | exact le2 _ | exact le3 _ | exact le4 _ | exact le5 _ | exact le6 _) _ | refine Ext.trans ?_ (by assumption))))) (by simp; omega) (by simp; try omega) ?_; intro vA wA' hoA hgA; have EA : Ext W1 wA' := Ext.trans' (w := W1) (by (repeat' (first | exact Ext.refl _ | assumption | refine Ext.alloc ?_ _ | refine Ext.drew ?_ | refine Ext.drewN ?_ _ | refine Ext.set ?_ (by first | exact Nat.le_refl _ | exact le1 _ | exact le2 _ | exact le3 _ | exact le4 _ | exact le5 _ | exact le6 _) _ | refine Ext.trans ?_ (by assumption)))) hgA (fun k e => Nat.le_of_eq (Option.some.inj e)); simp only [List.nil_append] at hoA; have q0 := EA.cell y0; have q1 := EA.cell y1; have lA := World.block_lt_of_cell? _ _ q0; simp only at lA)
      | (refine step_append_pts (by rfl) _ _ (by rfl) W1.heap.size (.slice (some ⟨W1.heap.size + 1, 0, none⟩) 0 0) (.slice A h.length c) [] h (by rfl) (OwnP.empty (by first | exact World.alloc_heap_new _ _ | exact heap2_first _ _ _ | exact heap2_second _ _ _) (Nat.le_succ _)) (by rfl) (HPF.out _ (by (repeat' (first | exact Ext.refl _ | assumption | refine Ext.alloc ?_ _ | refine Ext.drew ?_ | refine Ext.drewN ?_ _ | refine Ext.set ?_ (by first | exact Nat.le_refl _ | exact le1 _ | exact le2 _ | exact le3 _ | exact le4 _ | exact le5 _ | exact le6 _) _ | refine Ext.trans ?_ (by assumption))))) (by simp; omega) (by simp; try omega) ?_; intro vA wA' hoA hgA; have EA : Ext W1 wA' := Ext.trans' (w := W1) (by (repeat' (first | exact Ext.refl _ | assumption | refine Ext.alloc ?_ _ | refine Ext.drew ?_ | refine Ext.drewN ?_ _ | refine Ext.set ?_ (by first | exact Nat.le_refl _ | exact le1 _ | exact le2 _ | exact le3 _ | exact le4 _ | exact le5 _ | exact le6 _) _ | refine Ext.trans ?_ (by assumption)))) hgA (fun k e => Nat.le_trans (Nat.le_succ _) (Nat.le_of_eq (Option.some.inj e))); simp only [List.nil_append] at hoA; have q0 := EA.cell y0; have q1 := EA.cell y1; have lA := World.block_lt_of_cell? _ _ q0; simp only at lA)
      | (refine step_append_pts (by rfl) _ _ (by rfl) W1.heap.size vA (.slice (some ⟨wA'.heap.size, 0, none⟩) 1 1) h [(x, y)] (by rfl) (by first | exact hoA.ext ((Ext.refl _).alloc _) | exact hoA.ext (((Ext.refl _).alloc _).drew) | exact hoA.ext ((((Ext.refl _).drew).alloc _))) (by rfl) (Pts.one (World.alloc_heap_new wA' _)) (by simp; omega) (by have := EA.sz; simp; try omega) ?_; intro vC wC hoC hgC; have EC : Ext W1 wC := Ext.trans' (w := W1) (by (repeat' (first | exact Ext.refl _ | assumption | refine Ext.alloc ?_ _ | refine Ext.drew ?_ | refine Ext.drewN ?_ _ | refine Ext.set ?_ (by first | exact Nat.le_refl _ | exact le1 _ | exact le2 _ | exact le3 _ | exact le4 _ | exact le5 _ | exact le6 _) _ | refine Ext.trans ?_ (by assumption)))) hgC (own_ge' hoA); have hpC := hoC.pts; obtain ⟨AC, cC, rfl, _⟩ := hoC.shape; simp only [List.length_append, List.length_cons, List.length_nil, Nat.zero_add] at hpC; replace hpC := Lib.hid hpC)
      | (refine step_append_pts (by rfl) _ _ (by rfl) W1.heap.size vA (.slice (some ⟨W1.heap.size + 1, 0, none⟩) 1 1) h [(x, y)] (by rfl) hoA (by rfl) (Pts.one (kept_blk' hgA rfl (heap2_second _ _ _) (Nat.succ_ne_self _))) (by simp; omega) (by have := EA.sz; simp; try omega) ?_; intro vC wC hoC hgC; have EC : Ext W1 wC := Ext.trans' (w := W1) (by (repeat' (first | exact Ext.refl _ | assumption | refine Ext.alloc ?_ _ | refine Ext.drew ?_ | refine Ext.drewN ?_ _ | refine Ext.set ?_ (by first | exact Nat.le_refl _ | exact le1 _ | exact le2 _ | exact le3 _ | exact le4 _ | exact le5 _ | exact le6 _) _ | refine Ext.trans ?_ (by assumption)))) hgC (own_ge' hoA); have hpC := hoC.pts; obtain ⟨AC, cC, rfl, _⟩ := hoC.shape; simp only [List.length_append, List.length_cons, List.length_nil, Nat.zero_add] at hpC; replace hpC := Lib.hid hpC)
      | (refine step_append_pts (by rfl) _ _ (by rfl) W1.heap.size vA (.slice (some ⟨W1.heap.size, 0, none⟩) 1 1) h [(x, y)] (by rfl) hoA (by rfl) (Pts.one (kept_blk' hgA rfl (heap2_first _ _ _) (Nat.succ_ne_self _).symm)) (by simp; omega) (by have := EA.sz; simp; try omega) ?_; intro vC wC hoC hgC; have EC : Ext W1 wC := Ext.trans' (w := W1) (by (repeat' (first | exact Ext.refl _ | assumption | refine Ext.alloc ?_ _ | refine Ext.drew ?_ | refine Ext.drewN ?_ _ | refine Ext.set ?_ (by first | exact Nat.le_refl _ | exact le1 _ | exact le2 _ | exact le3 _ | exact le4 _ | exact le5 _ | exact le6 _) _ | refine Ext.trans ?_ (by assumption)))) hgC (own_ge' hoA); have hpC := hoC.pts; obtain ⟨AC, cC, rfl, _⟩ := hoC.shape; simp only [List.length_append, List.length_cons, List.length_nil, Nat.zero_add] at hpC; replace hpC := Lib.hid hpC)
      | (go_at_call 40; refine (CC.out wC _ hpC.out).mono ?_; rintro e w5 ⟨v5, rfl, ho5, hb5⟩; have hp5 := ho5.pts; obtain ⟨A5, c5, rfl, _⟩ := hp5.shapeH; replace hp5 := Lib.hid hp5; clear ho5; have E15 : Ext W1 w5 := EC.trans hb5; have HE5 := Lib.hid (HEW1.out.trans E15))
      | (go_at_call 14; refine (CS.out w5 HE5.out _ hp5.out).mono ?_; rintro e w6 ⟨rfl, hb6⟩))
  all_goals
    go_wp2
    go_ret
    exact ⟨rfl, HEW1.out.trans (by (repeat' (first | exact Ext.refl _ | assumption | refine Ext.alloc ?_ _ | refine Ext.drew ?_ | refine Ext.drewN ?_ _ | refine Ext.set ?_ (by first | exact Nat.le_refl _ | exact le1 _ | exact le2 _ | exact le3 _ | exact le4 _ | exact le5 _ | exact le6 _) _ | refine Ext.trans ?_ (by assumption))))⟩
end Go.Proofs.Ytlndcpjaeoppmaa
/- Contract: Inside, the definition. -/
namespace Go.Proofs.Ytlndcpjaeoppmaa
open Go.RowKit Go.Shelf

set_option maxRecDepth 100000 in
set_option maxHeartbeats 1600000 in
theorem RInside_c (v : Value) (h : List HPt) (x y : Int) (w : World) (hp : Pts w v h) :
    Calls Try.prog 17 #[v, .agg #[.int .i64 x, .int .i64 y]] w fun e w' => e = .returned (.tuple #[.bool (insideS h (x, y)).1, .int .i64 (insideS h (x, y)).2]) ∧ Ext w w' := by
  have HC := Lib.hid (fun W (hh : Ext w W) => Rhulls_c v v h h W (hp.ext hh) (hp.ext hh))
  have VC := fun W => Is_c x y W
  by_cases he : errHs [h, h] = 0
  · obtain ⟨h1, _⟩ := errHs_ok he
    obtain ⟨h0, hl, _, hw, hcor⟩ := isHull_facts h1
    cases hk : okPt (x, y)
    · rw [hk] at VC
      have hS : insideS h (x, y) = (false, 2) := by unfold insideS; rw [if_pos he, hk]; rfl
      rw [hS]
      rw [he] at HC
      obtain ⟨A, ca, rfl, _⟩ := hp.shapeH
      replace VC := Lib.hid VC
      clear he h1 hp hw hS hk hcor
      go_enter Try.func17, Try.ntmps17
      go_wp2_with (first
        | (go_at_call 41; refine (HC.out _ (by (repeat' (first | exact Ext.refl _ | assumption | refine Ext.alloc ?_ _ | refine Ext.drew ?_ | refine Ext.drewN ?_ _ | refine Ext.set ?_ (by first | exact Nat.le_refl _ | exact le1 _ | exact le2 _ | exact le3 _ | exact le4 _ | exact le5 _ | exact le6 _) _ | refine Ext.trans ?_ (by assumption))))).mono ?_; rintro e w1 ⟨rfl, hb1⟩; have y0 := Ext.cell hb1 (p := ⟨w.heap.size, 0, none⟩) (v := .int .i64 x) (by go_simp); have y1 := Ext.cell hb1 (p := ⟨w.heap.size, 1, none⟩) (v := .int .i64 y) (by go_simp))
        | (go_at_call 42; refine (VC.out _).mono ?_; rintro e w2 ⟨rfl, hb2⟩))
      exact bodyPost_ret (v := .tuple #[.bool false, .int .i64 2]) (by simp [results, Try.results17, go_sem]) rfl ⟨rfl, by (repeat' (first | exact Ext.refl _ | assumption | refine Ext.alloc ?_ _ | refine Ext.drew ?_ | refine Ext.drewN ?_ _ | refine Ext.set ?_ (by first | exact Nat.le_refl _ | exact le1 _ | exact le2 _ | exact le3 _ | exact le4 _ | exact le5 _ | exact le6 _) _ | refine Ext.trans ?_ (by assumption)))⟩
    · rw [hk] at VC
      have hS : insideS h (x, y) = (meetB h [(x, y)], 0) := by unfold insideS; rw [if_pos he, hk]; rfl
      have MC := fun W (hh : Ext w W) => Has_c v h x y W (hp.ext hh) hw (ok_wide hk) (by omega)
      rw [← has_meet hcor (List.ne_nil_of_length_pos h0)] at MC
      rw [hS]
      rw [he] at HC
      obtain ⟨A, ca, rfl, _⟩ := hp.shapeH
      replace VC := Lib.hid VC
      replace MC := Lib.hid MC
      generalize meetB h [(x, y)] = M at *
      clear he h1 hp hw hS hk hcor
      go_enter Try.func17, Try.ntmps17
      go_wp2_with (first
        | (go_at_call 41; refine (HC.out _ (by (repeat' (first | exact Ext.refl _ | assumption | refine Ext.alloc ?_ _ | refine Ext.drew ?_ | refine Ext.drewN ?_ _ | refine Ext.set ?_ (by first | exact Nat.le_refl _ | exact le1 _ | exact le2 _ | exact le3 _ | exact le4 _ | exact le5 _ | exact le6 _) _ | refine Ext.trans ?_ (by assumption))))).mono ?_; rintro e w1 ⟨rfl, hb1⟩; have y0 := Ext.cell hb1 (p := ⟨w.heap.size, 0, none⟩) (v := .int .i64 x) (by go_simp); have y1 := Ext.cell hb1 (p := ⟨w.heap.size, 1, none⟩) (v := .int .i64 y) (by go_simp))
        | (go_at_call 42; refine (VC.out _).mono ?_; rintro e w2 ⟨rfl, hb2⟩; replace y0 := hb2.cell y0; replace y1 := hb2.cell y1)
        | (go_at_call 43; refine (MC.out _ (by (repeat' (first | exact Ext.refl _ | assumption | refine Ext.alloc ?_ _ | refine Ext.drew ?_ | refine Ext.drewN ?_ _ | refine Ext.set ?_ (by first | exact Nat.le_refl _ | exact le1 _ | exact le2 _ | exact le3 _ | exact le4 _ | exact le5 _ | exact le6 _) _ | refine Ext.trans ?_ (by assumption))))).mono ?_; rintro e w3 ⟨rfl, hb3⟩))
      exact bodyPost_ret (v := .tuple #[.bool M, .int .i64 0]) (by simp [results, Try.results17, go_sem]) rfl ⟨rfl, by (repeat' (first | exact Ext.refl _ | assumption | refine Ext.alloc ?_ _ | refine Ext.drew ?_ | refine Ext.drewN ?_ _ | refine Ext.set ?_ (by first | exact Nat.le_refl _ | exact le1 _ | exact le2 _ | exact le3 _ | exact le4 _ | exact le5 _ | exact le6 _) _ | refine Ext.trans ?_ (by assumption)))⟩
  · have hS : insideS h (x, y) = (false, errHs [h, h]) := by unfold insideS; rw [if_neg he]
    rw [hS]
    have he2 : (errHs [h, h] != 0) = true := by simpa using he
    obtain ⟨A, ca, rfl, _⟩ := hp.shapeH
    generalize errHs [h, h] = E at *
    clear hp hS VC he
    go_enter Try.func17, Try.ntmps17
    go_wp2_with (go_at_call 41; refine (HC.out _ (by (repeat' (first | exact Ext.refl _ | assumption | refine Ext.alloc ?_ _ | refine Ext.drew ?_ | refine Ext.drewN ?_ _ | refine Ext.set ?_ (by first | exact Nat.le_refl _ | exact le1 _ | exact le2 _ | exact le3 _ | exact le4 _ | exact le5 _ | exact le6 _) _ | refine Ext.trans ?_ (by assumption))))).mono ?_; rintro e w1 ⟨rfl, hb1⟩)
    exact bodyPost_ret (v := .tuple #[.bool false, .int .i64 E]) (by simp [results, Try.results17, go_sem]) rfl ⟨rfl, by (repeat' (first | exact Ext.refl _ | assumption | refine Ext.alloc ?_ _ | refine Ext.drew ?_ | refine Ext.drewN ?_ _ | refine Ext.set ?_ (by first | exact Nat.le_refl _ | exact le1 _ | exact le2 _ | exact le3 _ | exact le4 _ | exact le5 _ | exact le6 _) _ | refine Ext.trans ?_ (by assumption)))⟩
end Go.Proofs.Ytlndcpjaeoppmaa
/- Contracts: Grow, both. -/
namespace Go.Proofs.Ytlndcpjaeoppmaa
open Go.RowKit Go.Shelf

/-- what Grow returns -/
def growE (h : List HPt) (t : Int) : List HPt × Int :=
  if errHs [h, h] = 0 then (if inB t 0 33554432 = true then (if 256 < (cornersP (growP t h)).length then ([], 6) else if (cornersP (growP t h)).all okPt = true then (cornersP (growP t h), 0) else ([], 4)) else ([], 3)) else ([], errHs [h, h])
theorem growE_bad {h : List HPt} {t : Int} (he : ¬ errHs [h, h] = 0) : growE h t = ([], errHs [h, h]) := by unfold growE; rw [if_neg he]
theorem growE_range {h : List HPt} {t : Int} (he : errHs [h, h] = 0) (ht : inB t 0 33554432 = false) : growE h t = ([], 3) := by unfold growE; rw [if_pos he, ht]; rfl
theorem growE_in {h : List HPt} {t : Int} (he : errHs [h, h] = 0) (ht : inB t 0 33554432 = true) : growE h t = (if 256 < (cornersP (growP t h)).length then ([], 6) else if (cornersP (growP t h)).all okPt = true then (cornersP (growP t h), 0) else ([], 4)) := by unfold growE; rw [if_pos he, if_pos ht]
set_option maxRecDepth 100000 in
set_option maxHeartbeats 3200000 in
theorem Grow_c (v : Value) (h : List HPt) (t : Int) (w : World) (hp : Pts w v h) :
    Calls Try.prog 20 #[v, .int .i64 t] w fun e w' => ∃ v', e = .returned (.tuple #[v', .int .i64 (growE h t).2]) ∧ Pts w' v' (growE h t).1 ∧ Ext w w' := by
  have HC := Lib.hid (fun W (hh : Ext w W) (bb : Nat) (t : TypeId) (hblk : W.heap[bb]? = some (.cells #[v] t (0, 0))) => checkHulls_c bb 1 [v] [h] W (Lists.one hblk (hp.ext hh)) (by simp))
  rw [errHs_one] at HC
  have IT := fun W => within_c t 0 33554432 W
  by_cases he : errHs [h, h] = 0
  · obtain ⟨h1, _⟩ := errHs_ok he
    obtain ⟨h0, hl, hok, hw, _⟩ := isHull_facts h1
    rw [he] at HC
    cases ht : inB t 0 33554432
    · rw [growE_range he ht]
      rw [ht] at IT
      replace IT := Lib.hid IT
      obtain ⟨A, ca, rfl, _⟩ := hp.shapeH
      clear he h1 hp hw hok ht
      go_enter Try.func20, Try.ntmps20
      go_wp2_with (first
        | (go_at_call 36; refine (HC.out _ (by (repeat' (first | exact Ext.refl _ | assumption | refine Ext.alloc ?_ _ | refine Ext.drew ?_ | refine Ext.drewN ?_ _ | refine Ext.set ?_ (by first | exact Nat.le_refl _ | exact le1 _ | exact le2 _ | exact le3 _ | exact le4 _ | exact le5 _ | exact le6 _) _ | refine Ext.trans ?_ (by assumption)))) _ _ (World.alloc_heap_new _ _)).mono ?_; rintro e w1 ⟨rfl, hb1⟩)
        | (go_at_call 46; refine (IT.out _).mono ?_; rintro e w2 ⟨rfl, rfl⟩))
      exact bodyPost_ret (v := .tuple #[.slice none 0 0, .int .i64 3]) (by simp [results, Try.results20, go_sem]) rfl ⟨_, rfl, .inl ⟨none, 0, rfl, rfl⟩, by (repeat' (first | exact Ext.refl _ | assumption | refine Ext.alloc ?_ _ | refine Ext.drew ?_ | refine Ext.drewN ?_ _ | refine Ext.set ?_ (by first | exact Nat.le_refl _ | exact le1 _ | exact le2 _ | exact le3 _ | exact le4 _ | exact le5 _ | exact le6 _) _ | refine Ext.trans ?_ (by assumption)))⟩
    · rw [growE_in he ht]
      rw [ht] at IT
      replace IT := Lib.hid IT
      have htb : 0 ≤ t ∧ t ≤ 33554432 := inB_iff.1 ht
      have GC := Lib.hid (fun W (hh : Ext w W) => grown_c t v h W (hp.ext hh) h0 (by omega) (fun p hp => ok_mid (hok p hp)) (by omega))
      obtain ⟨A, ca, rfl, _⟩ := hp.shapeH
      generalize cornersP (growP t h) = K at *
      have VC := fun W v' (hv : Pts W v' K) => valid_c v' K W hv
      clear he h1 hp hw hok ht htb
      by_cases hK : 256 < K.length
      · rw [if_pos hK]
        go_enter Try.func20, Try.ntmps20
        go_wp2_with (first
          | (go_at_call 36; refine (HC.out _ (by (repeat' (first | exact Ext.refl _ | assumption | refine Ext.alloc ?_ _ | refine Ext.drew ?_ | refine Ext.drewN ?_ _ | refine Ext.set ?_ (by first | exact Nat.le_refl _ | exact le1 _ | exact le2 _ | exact le3 _ | exact le4 _ | exact le5 _ | exact le6 _) _ | refine Ext.trans ?_ (by assumption)))) _ _ (World.alloc_heap_new _ _)).mono ?_; rintro e w1 ⟨rfl, hb1⟩)
          | (go_at_call 46; refine (IT.out _).mono ?_; rintro e w2 ⟨rfl, rfl⟩)
          | (go_at_call 47; refine (GC.out _ (by (repeat' (first | exact Ext.refl _ | assumption | refine Ext.alloc ?_ _ | refine Ext.drew ?_ | refine Ext.drewN ?_ _ | refine Ext.set ?_ (by first | exact Nat.le_refl _ | exact le1 _ | exact le2 _ | exact le3 _ | exact le4 _ | exact le5 _ | exact le6 _) _ | refine Ext.trans ?_ (by assumption))))).mono ?_; rintro e w3 ⟨v3, rfl, hp3, hb3⟩; obtain ⟨A3, c3, rfl, _⟩ := hp3.shapeH; replace hp3 := Lib.hid hp3))
        exact bodyPost_ret (v := .tuple #[.slice none 0 0, .int .i64 6]) (by simp [results, Try.results20, go_sem]) rfl ⟨_, rfl, .inl ⟨none, 0, rfl, rfl⟩, by (repeat' (first | exact Ext.refl _ | assumption | refine Ext.alloc ?_ _ | refine Ext.drew ?_ | refine Ext.drewN ?_ _ | refine Ext.set ?_ (by first | exact Nat.le_refl _ | exact le1 _ | exact le2 _ | exact le3 _ | exact le4 _ | exact le5 _ | exact le6 _) _ | refine Ext.trans ?_ (by assumption)))⟩
      · rw [if_neg hK]
        cases ha : K.all okPt
        · rw [ha] at VC
          replace VC := Lib.hid VC
          rw [if_neg (by simp)]
          clear ha
          go_enter Try.func20, Try.ntmps20
          go_wp2_with (first
            | (go_at_call 36; refine (HC.out _ (by (repeat' (first | exact Ext.refl _ | assumption | refine Ext.alloc ?_ _ | refine Ext.drew ?_ | refine Ext.drewN ?_ _ | refine Ext.set ?_ (by first | exact Nat.le_refl _ | exact le1 _ | exact le2 _ | exact le3 _ | exact le4 _ | exact le5 _ | exact le6 _) _ | refine Ext.trans ?_ (by assumption)))) _ _ (World.alloc_heap_new _ _)).mono ?_; rintro e w1 ⟨rfl, hb1⟩)
            | (go_at_call 46; refine (IT.out _).mono ?_; rintro e w2 ⟨rfl, rfl⟩)
            | (go_at_call 47; refine (GC.out _ (by (repeat' (first | exact Ext.refl _ | assumption | refine Ext.alloc ?_ _ | refine Ext.drew ?_ | refine Ext.drewN ?_ _ | refine Ext.set ?_ (by first | exact Nat.le_refl _ | exact le1 _ | exact le2 _ | exact le3 _ | exact le4 _ | exact le5 _ | exact le6 _) _ | refine Ext.trans ?_ (by assumption))))).mono ?_; rintro e w3 ⟨v3, rfl, hp3, hb3⟩; obtain ⟨A3, c3, rfl, _⟩ := hp3.shapeH; replace hp3 := Lib.hid hp3)
            | (go_at_call 37; refine (VC.out _ _ hp3.out).mono ?_; rintro e w4 ⟨rfl, hb4⟩))
          exact bodyPost_ret (v := .tuple #[.slice none 0 0, .int .i64 4]) (by simp [results, Try.results20, go_sem]) rfl ⟨_, rfl, .inl ⟨none, 0, rfl, rfl⟩, by (repeat' (first | exact Ext.refl _ | assumption | refine Ext.alloc ?_ _ | refine Ext.drew ?_ | refine Ext.drewN ?_ _ | refine Ext.set ?_ (by first | exact Nat.le_refl _ | exact le1 _ | exact le2 _ | exact le3 _ | exact le4 _ | exact le5 _ | exact le6 _) _ | refine Ext.trans ?_ (by assumption)))⟩
        · rw [ha] at VC
          replace VC := Lib.hid VC
          rw [if_pos rfl]
          clear ha
          go_enter Try.func20, Try.ntmps20
          go_wp2_with (first
            | (go_at_call 36; refine (HC.out _ (by (repeat' (first | exact Ext.refl _ | assumption | refine Ext.alloc ?_ _ | refine Ext.drew ?_ | refine Ext.drewN ?_ _ | refine Ext.set ?_ (by first | exact Nat.le_refl _ | exact le1 _ | exact le2 _ | exact le3 _ | exact le4 _ | exact le5 _ | exact le6 _) _ | refine Ext.trans ?_ (by assumption)))) _ _ (World.alloc_heap_new _ _)).mono ?_; rintro e w1 ⟨rfl, hb1⟩)
            | (go_at_call 46; refine (IT.out _).mono ?_; rintro e w2 ⟨rfl, rfl⟩)
            | (go_at_call 47; refine (GC.out _ (by (repeat' (first | exact Ext.refl _ | assumption | refine Ext.alloc ?_ _ | refine Ext.drew ?_ | refine Ext.drewN ?_ _ | refine Ext.set ?_ (by first | exact Nat.le_refl _ | exact le1 _ | exact le2 _ | exact le3 _ | exact le4 _ | exact le5 _ | exact le6 _) _ | refine Ext.trans ?_ (by assumption))))).mono ?_; rintro e w3 ⟨v3, rfl, hp3, hb3⟩; obtain ⟨A3, c3, rfl, _⟩ := hp3.shapeH; replace hp3 := Lib.hid hp3)
            | (go_at_call 37; refine (VC.out _ _ hp3.out).mono ?_; rintro e w4 ⟨rfl, hb4⟩))
          exact bodyPost_ret (v := .tuple #[.slice A3 K.length c3, .int .i64 0]) (by simp [results, Try.results20, go_sem]) rfl ⟨_, rfl, hp3.out.ext hb4, by (repeat' (first | exact Ext.refl _ | assumption | refine Ext.alloc ?_ _ | refine Ext.drew ?_ | refine Ext.drewN ?_ _ | refine Ext.set ?_ (by first | exact Nat.le_refl _ | exact le1 _ | exact le2 _ | exact le3 _ | exact le4 _ | exact le5 _ | exact le6 _) _ | refine Ext.trans ?_ (by assumption)))⟩
  · rw [growE_bad he]
    have he2 : (errHs [h, h] != 0) = true := by simpa using he
    obtain ⟨A, ca, rfl, _⟩ := hp.shapeH
    generalize errHs [h, h] = E at *
    clear hp he IT
    go_enter Try.func20, Try.ntmps20
    go_wp2_with (go_at_call 36; refine (HC.out _ (by (repeat' (first | exact Ext.refl _ | assumption | refine Ext.alloc ?_ _ | refine Ext.drew ?_ | refine Ext.drewN ?_ _ | refine Ext.set ?_ (by first | exact Nat.le_refl _ | exact le1 _ | exact le2 _ | exact le3 _ | exact le4 _ | exact le5 _ | exact le6 _) _ | refine Ext.trans ?_ (by assumption)))) _ _ (World.alloc_heap_new _ _)).mono ?_; rintro e w1 ⟨rfl, hb1⟩)
    exact bodyPost_ret (v := .tuple #[.slice none 0 0, .int .i64 E]) (by simp [results, Try.results20, go_sem]) rfl ⟨_, rfl, .inl ⟨none, 0, rfl, rfl⟩, by (repeat' (first | exact Ext.refl _ | assumption | refine Ext.alloc ?_ _ | refine Ext.drew ?_ | refine Ext.drewN ?_ _ | refine Ext.set ?_ (by first | exact Nat.le_refl _ | exact le1 _ | exact le2 _ | exact le3 _ | exact le4 _ | exact le5 _ | exact le6 _) _ | refine Ext.trans ?_ (by assumption)))⟩
end Go.Proofs.Ytlndcpjaeoppmaa
/- Contract: Grow, the definition. -/
namespace Go.Proofs.Ytlndcpjaeoppmaa
open Go.RowKit Go.Shelf

theorem all_split {K : List HPt} {k : Nat} {p : HPt} (hp : K[k]? = some p) (h : okPt p = false) : K.all okPt = false := by
  have hm := List.mem_of_getElem? hp
  cases ha : K.all okPt
  · rfl
  · rw [List.all_eq_true] at ha
    rw [ha p hm] at h
    cases h
set_option maxRecDepth 100000 in
set_option maxHeartbeats 3200000 in
theorem RGrow_c (v : Value) (h : List HPt) (t : Int) (w : World) (hp : Pts w v h) :
    Calls Try.prog 21 #[v, .int .i64 t] w fun e w' => ∃ v', e = .returned (.tuple #[v', .int .i64 (growE h t).2]) ∧ Pts w' v' (growE h t).1 ∧ Ext w w' := by
  have HC := Lib.hid (fun W (hh : Ext w W) => Rhulls_c v v h h W (hp.ext hh) (hp.ext hh))
  have IT := fun W => In_c t 0 33554432 W
  by_cases he : errHs [h, h] = 0
  · obtain ⟨h1, _⟩ := errHs_ok he
    obtain ⟨h0, hl, hok, hw, _⟩ := isHull_facts h1
    rw [he] at HC
    cases ht : inB t 0 33554432
    · rw [growE_range he ht]
      rw [ht] at IT
      replace IT := Lib.hid IT
      obtain ⟨A, ca, rfl, _⟩ := hp.shapeH
      clear he h1 hp hw hok ht
      go_enter Try.func21, Try.ntmps21
      go_wp2_with (first
        | (go_at_call 41; refine (HC.out _ (by (repeat' (first | exact Ext.refl _ | assumption | refine Ext.alloc ?_ _ | refine Ext.drew ?_ | refine Ext.drewN ?_ _ | refine Ext.set ?_ (by first | exact Nat.le_refl _ | exact le1 _ | exact le2 _ | exact le3 _ | exact le4 _ | exact le5 _ | exact le6 _) _ | refine Ext.trans ?_ (by assumption))))).mono ?_; rintro e w1 ⟨rfl, hb1⟩)
        | (go_at_call 48; refine (IT.out _).mono ?_; rintro e w2 ⟨rfl, rfl⟩))
      exact bodyPost_ret (v := .tuple #[.slice none 0 0, .int .i64 3]) (by simp [results, Try.results21, go_sem]) rfl ⟨_, rfl, .inl ⟨none, 0, rfl, rfl⟩, by (repeat' (first | exact Ext.refl _ | assumption | refine Ext.alloc ?_ _ | refine Ext.drew ?_ | refine Ext.drewN ?_ _ | refine Ext.set ?_ (by first | exact Nat.le_refl _ | exact le1 _ | exact le2 _ | exact le3 _ | exact le4 _ | exact le5 _ | exact le6 _) _ | refine Ext.trans ?_ (by assumption)))⟩
    · rw [growE_in he ht]
      rw [ht] at IT
      replace IT := Lib.hid IT
      have htb : 0 ≤ t ∧ t ≤ 33554432 := inB_iff.1 ht
      have GC := Lib.hid (fun W (hh : Ext w W) => Grown_c t v h W (hp.ext hh) (by omega) (fun p hp => ok_mid (hok p hp)) (by omega))
      obtain ⟨A, ca, rfl, _⟩ := hp.shapeH
      generalize cornersP (growP t h) = K at *
      have VC := Lib.hid (fun x y W => Is_c x y W)
      clear he h1 hp hw hok ht htb
      by_cases hK : 256 < K.length
      · rw [if_pos hK]
        go_enter Try.func21, Try.ntmps21
        go_wp2_with (first
          | (go_at_call 41; refine (HC.out _ (by (repeat' (first | exact Ext.refl _ | assumption | refine Ext.alloc ?_ _ | refine Ext.drew ?_ | refine Ext.drewN ?_ _ | refine Ext.set ?_ (by first | exact Nat.le_refl _ | exact le1 _ | exact le2 _ | exact le3 _ | exact le4 _ | exact le5 _ | exact le6 _) _ | refine Ext.trans ?_ (by assumption))))).mono ?_; rintro e w1 ⟨rfl, hb1⟩)
          | (go_at_call 48; refine (IT.out _).mono ?_; rintro e w2 ⟨rfl, rfl⟩)
          | (go_at_call 49; refine (GC.out _ (by (repeat' (first | exact Ext.refl _ | assumption | refine Ext.alloc ?_ _ | refine Ext.drew ?_ | refine Ext.drewN ?_ _ | refine Ext.set ?_ (by first | exact Nat.le_refl _ | exact le1 _ | exact le2 _ | exact le3 _ | exact le4 _ | exact le5 _ | exact le6 _) _ | refine Ext.trans ?_ (by assumption))))).mono ?_; rintro e w3 ⟨v3, rfl, ho3, hb3⟩; have hp3 := ho3.pts; obtain ⟨A3, c3, rfl, _⟩ := hp3.shapeH; replace hp3 := Lib.hid hp3; clear ho3))
        exact bodyPost_ret (v := .tuple #[.slice none 0 0, .int .i64 6]) (by simp [results, Try.results21, go_sem]) rfl ⟨_, rfl, .inl ⟨none, 0, rfl, rfl⟩, by (repeat' (first | exact Ext.refl _ | assumption | refine Ext.alloc ?_ _ | refine Ext.drew ?_ | refine Ext.drewN ?_ _ | refine Ext.set ?_ (by first | exact Nat.le_refl _ | exact le1 _ | exact le2 _ | exact le3 _ | exact le4 _ | exact le5 _ | exact le6 _) _ | refine Ext.trans ?_ (by assumption)))⟩
      · rw [if_neg hK]
        obtain ⟨R, hR⟩ : ∃ R : List HPt × Int, (if K.all okPt = true then (K, (0 : Int)) else ([], 4)) = R := ⟨_, rfl⟩
        rw [hR]
        have HR := Lib.hid hR
        clear hR
        go_enter Try.func21, Try.ntmps21
        go_wp2_with (first
          | (go_at_call 41; refine (HC.out _ (by (repeat' (first | exact Ext.refl _ | assumption | refine Ext.alloc ?_ _ | refine Ext.drew ?_ | refine Ext.drewN ?_ _ | refine Ext.set ?_ (by first | exact Nat.le_refl _ | exact le1 _ | exact le2 _ | exact le3 _ | exact le4 _ | exact le5 _ | exact le6 _) _ | refine Ext.trans ?_ (by assumption))))).mono ?_; rintro e w1 ⟨rfl, hb1⟩)
          | (go_at_call 48; refine (IT.out _).mono ?_; rintro e w2 ⟨rfl, rfl⟩)
          | (go_at_call 49; refine (GC.out _ (by (repeat' (first | exact Ext.refl _ | assumption | refine Ext.alloc ?_ _ | refine Ext.drew ?_ | refine Ext.drewN ?_ _ | refine Ext.set ?_ (by first | exact Nat.le_refl _ | exact le1 _ | exact le2 _ | exact le3 _ | exact le4 _ | exact le5 _ | exact le6 _) _ | refine Ext.trans ?_ (by assumption))))).mono ?_; rintro e w3 ⟨v3, rfl, ho3, hb3⟩; have hp3 := ho3.pts; obtain ⟨A3, c3, rfl, _⟩ := hp3.shapeH; replace hp3 := Lib.hid hp3; clear ho3))
        have E3 : Ext w w3 := by (repeat' (first | exact Ext.refl _ | assumption | refine Ext.alloc ?_ _ | refine Ext.drew ?_ | refine Ext.drewN ?_ _ | refine Ext.set ?_ (by first | exact Nat.le_refl _ | exact le1 _ | exact le2 _ | exact le3 _ | exact le4 _ | exact le5 _ | exact le6 _) _ | refine Ext.trans ?_ (by assumption)))
        have HE3 := Lib.hid E3
        clear E3 hb1 hb3
        go_loopw [8] (fun i wr => ∃ k : Nat, k ≤ K.length ∧ i = .int .i64 k ∧ (K.take k).all okPt = true ∧ Ext w3 wr) (fun i _ => K.length - (intOf i).toNat)
        case atStart => exact ⟨0, by omega, rfl, by simp, Ext.refl _⟩
        case round =>
          obtain ⟨k, hk, rfl, hal, hE⟩ := hrel
          have HAL := Lib.hid hal
          clear hal
          by_cases hlt : k < K.length
          · have hq : K[k]? = some (K.getD k (0, 0)) := by rw [getD_lt hlt]; exact List.getElem?_eq_getElem hlt
            have htk : K.take (k + 1) = K.take k ++ [K.getD k (0, 0)] := by rw [getD_lt hlt]; exact List.take_succ_eq_append_getElem hlt
            obtain ⟨b3, o3, rfl, x0, x1⟩ := pts_atH (hp3.out.ext hE) rfl hq
            generalize K.getD k (0, 0) = p at *
            obtain ⟨p1, p2⟩ := p
            simp only at x0 x1
            have HTK := Lib.hid (And.intro htk hq)
            clear htk hq
            cases hpk : okPt (p1, p2)
            · have HPK := Lib.hid hpk
              clear hpk
              go_wp2_with (go_at_call 42; refine (VC.out _ _ _).mono ?_; rintro e w4 ⟨he, hb4⟩; rw [HPK.out] at he; subst he)
              exact bodyPost_ret (v := .tuple #[.slice none 0 0, .int .i64 4]) (by simp [results, Try.results21, go_sem]) rfl ⟨_, by rw [← HR.out, if_neg (by rw [all_split HTK.out.2 HPK.out]; simp)], by rw [← HR.out, if_neg (by rw [all_split HTK.out.2 HPK.out]; simp)]; exact .inl ⟨none, 0, rfl, rfl⟩, HE3.out.trans (hE.trans hb4)⟩
            · have HPK := Lib.hid hpk
              clear hpk
              go_wp2_with (go_at_call 42; refine (VC.out _ _ _).mono ?_; rintro e w4 ⟨he, hb4⟩; rw [HPK.out] at he; subst he)
              go_roundw
              case rel => exact ⟨k + 1, by omega, by go_num, by rw [HTK.out.1, List.all_append, HAL.out]; simp [HPK.out], hE.trans hb4⟩
              case measure => simp [intOf]; omega
          · have hkl : k = K.length := by omega
            subst hkl
            have hall : K.all okPt = true := by have := HAL.out; rwa [List.take_of_length_le (Nat.le_refl _)] at this
            have HALL := Lib.hid hall
            clear hall
            go_wp2_with fail
            exact bodyPost_ret (v := .tuple #[.slice A3 K.length c3, .int .i64 0]) (by simp [results, Try.results21, go_sem]) rfl ⟨_, by rw [← HR.out, if_pos HALL.out], by rw [← HR.out, if_pos HALL.out]; exact hp3.out.ext hE, HE3.out.trans hE⟩
  · rw [growE_bad he]
    have he2 : (errHs [h, h] != 0) = true := by simpa using he
    obtain ⟨A, ca, rfl, _⟩ := hp.shapeH
    generalize errHs [h, h] = E at *
    clear hp he IT
    go_enter Try.func21, Try.ntmps21
    go_wp2_with (go_at_call 41; refine (HC.out _ (by (repeat' (first | exact Ext.refl _ | assumption | refine Ext.alloc ?_ _ | refine Ext.drew ?_ | refine Ext.drewN ?_ _ | refine Ext.set ?_ (by first | exact Nat.le_refl _ | exact le1 _ | exact le2 _ | exact le3 _ | exact le4 _ | exact le5 _ | exact le6 _) _ | refine Ext.trans ?_ (by assumption))))).mono ?_; rintro e w1 ⟨rfl, hb1⟩)
    exact bodyPost_ret (v := .tuple #[.slice none 0 0, .int .i64 E]) (by simp [results, Try.results21, go_sem]) rfl ⟨_, rfl, .inl ⟨none, 0, rfl, rfl⟩, by (repeat' (first | exact Ext.refl _ | assumption | refine Ext.alloc ?_ _ | refine Ext.drew ?_ | refine Ext.drewN ?_ _ | refine Ext.set ?_ (by first | exact Nat.le_refl _ | exact le1 _ | exact le2 _ | exact le3 _ | exact le4 _ | exact le5 _ | exact le6 _) _ | refine Ext.trans ?_ (by assumption)))⟩
end Go.Proofs.Ytlndcpjaeoppmaa
