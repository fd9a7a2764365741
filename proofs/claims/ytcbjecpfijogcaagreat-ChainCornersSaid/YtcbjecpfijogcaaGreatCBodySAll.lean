
/- CBodySAll: several texts in one. -/
import Derived.Test.YtcbjecpfijogcaaGreatHCorn
import Derived.Test.YtcbjecpfijogcaaGreatPlaneB
import Derived.Test.YtcbjecpfijogcaaGreatCFoldB
import Derived.Test.YtcbjecpfijogcaaGreatHAppAll
/- Contract: plane.Hull, where all is well. -/
namespace Go.Proofs.YtcbjecpfijogcaaGreat
open Go.RowKit Go.Shelf

set_option maxRecDepth 100000 in
set_option maxHeartbeats 1600000 in
theorem hull_ok (v : Value) (l : List HPt) (w : World) (hp : Pts w v l) (he : errPts l = 0) (h0 : 0 < l.length) (hw : ∀ p ∈ l, wideB p) (hn : l.length ≤ 256) :
    Calls Tryz.prog 30 #[v] w fun e w' => ∃ v', e = .returned (.tuple #[v', .int .i64 0]) ∧ Pts w' v' (cornersP l) ∧ Ext w w' := by
  rcases hp with ⟨a0, c0, rfl, rfl⟩ | ⟨b, off, cap, rfl, hl, hcap, hc⟩
  · simp at h0
  · have HP := Lib.hid (show Pts w (.slice (some ⟨b, off, none⟩) l.length cap) l from .inr ⟨b, off, cap, rfl, hl, hcap, hc⟩)
    have HC := Lib.hid hc
    clear hc
    have CP := Lib.hid (fun W (h : Ext w W) (bb : Nat) (h1 : W.cell? ⟨bb, 0, none⟩ = some (.slice (some ⟨b, off, none⟩) l.length cap)) => checkPoints_c bb 1 _ l W (HP.out.ext h) h1)
    have CC := Lib.hid (fun W (h : Ext w W) => corners_c b off cap l W (fun i hi => ⟨h.cell (HC.out i hi).1, h.cell (HC.out i hi).2⟩) h0 hw (by omega))
    rw [he] at CP
    have hz : ¬ l = [] := by intro e; subst e; simp at h0
    have hz2 : ¬ l.length = 0 := by omega
    generalize cornersP l = K at *
    clear he hw
    go_enter Tryz.func30, Tryz.ntmps30
    go_wp2_with (first
      | (go_at_call 47; refine (CP.out _ (by (repeat' (first | exact Ext.refl _ | assumption | refine Ext.alloc ?_ _ | refine Ext.drew ?_ | refine Ext.drewN ?_ _ | refine Ext.set ?_ (by first | exact Nat.le_refl _ | exact le1 _ | exact le2 _ | exact le3 _ | exact le4 _ | exact le5 _ | exact le6 _) _ | refine Ext.trans ?_ (by assumption)))) _ (by go_simp)).mono ?_; rintro e w1 ⟨rfl, hb1⟩)
      | (go_at_call 48; refine (CC.out _ (by (repeat' (first | exact Ext.refl _ | assumption | refine Ext.alloc ?_ _ | refine Ext.drew ?_ | refine Ext.drewN ?_ _ | refine Ext.set ?_ (by first | exact Nat.le_refl _ | exact le1 _ | exact le2 _ | exact le3 _ | exact le4 _ | exact le5 _ | exact le6 _) _ | refine Ext.trans ?_ (by assumption))))).mono ?_; rintro e w2 ⟨v2, rfl, hp2, hb2⟩; obtain ⟨A2, c2, rfl, _⟩ := hp2.shapeH; replace hp2 := Lib.hid hp2))
    exact bodyPost_ret (v := .tuple #[.slice A2 K.length c2, .int .i64 0]) (by simp [results, Tryz.results30, go_sem]) rfl ⟨_, rfl, hp2.out, by (repeat' (first | exact Ext.refl _ | assumption | refine Ext.alloc ?_ _ | refine Ext.drew ?_ | refine Ext.drewN ?_ _ | refine Ext.set ?_ (by first | exact Nat.le_refl _ | exact le1 _ | exact le2 _ | exact le3 _ | exact le4 _ | exact le5 _ | exact le6 _) _ | refine Ext.trans ?_ (by assumption)))⟩
end Go.Proofs.YtcbjecpfijogcaaGreat
/- What Body returns; an append of one point. -/
namespace Go.Proofs.YtcbjecpfijogcaaGreat
open Go.RowKit Go.Shelf

/-- an append of one point: where the row lies behind it -/
theorem wpList_append_pt1 {w : World} {ops : Array Oper} {rest : List Oper} {o : Oper} {a : Act} {Q : Exit → Act → World → Prop} (hgd : o.guard = none) (s x : Operand)
    (ho : o.op = .call { callee := .builtin .append, args := #[s, x], argTypes := #[27, 27] })
    (base : Nat) (v : Value) (l : List HPt) (n b px py : _) (hs : a.eval s = v) (hown : OwnP base w v l) (hnl : l.length = n) (hx : a.eval x = .slice (some ⟨b, 0, none⟩) 1 1) (hb : w.heap[b]? = some (.cells #[.int .i64 px, .int .i64 py] 26 (0, 0))) (hn : n + 1 ≤ 8000000) (hbase : base ≤ w.heap.size)
    (h : ∀ g cap w', OwnP base w' (.slice (some ⟨g, 0, none⟩) (n + 1) cap) (l ++ [(px, py)]) → w.grownBy w' v.ownBlock → (v.ownBlock = some g ∨ g = w.heap.size) → wpList Tryz.prog ops Q rest (a.put o.dst (.slice (some ⟨g, 0, none⟩) (n + 1) cap)) w') : wpList Tryz.prog ops Q (o :: rest) a w := by
  subst hnl
  obtain ⟨ip, hi0, hii⟩ := Option.map_eq_some_iff.1 infoPoint
  simp only [Prod.mk.injEq] at hii
  obtain ⟨hi1, hi2, hi3⟩ := hii
  have hown' : w.ownsRow base 26 2 v l.length (flatP l) := hown
  refine wpList_append_lies w hgd s x 27 ho base 26 ip _ 2 16 Tryz.underlying27 hi0 hi1 hi2 hi3 rfl (by decide) v l.length (flatP l) hs hown' ⟨b, 0, none⟩ 1 1 [.int .i64 px, .int .i64 py] hx rfl (World.news_of_block hb) (by simp [Value.oneCell']) (by omega) (by unfold maxLen; omega) (by omega) hbase w.heap.size rfl ?_
  intro g cap w' h1 h2 h3 _
  exact h g cap w' (OwnP.snoc h1) h2 h3
theorem fbd {u : CUnit} (h : unitB u = true) : (0 ≤ u.front ∧ u.front ≤ 131072) ∧ (0 ≤ u.rear ∧ u.rear ≤ 131072) ∧ (0 ≤ u.width ∧ u.width ≤ 131072) := by
  unfold unitB sizesB at h
  simp only [Bool.and_eq_true, inB_iff] at h
  exact ⟨h.1.1.1.1.1.1, h.1.1.1.1.1.2, h.1.1.1.1.2⟩
/-- the first error of some results -/
def firstE : List (Pt × Int) → Int
  | [] => 0
  | r :: l => if r.2 = 0 then firstE l else r.2
theorem firstE_ok {r : Pt × Int} {l : List (Pt × Int)} (h : r.2 = 0) : firstE (r :: l) = firstE l := by rw [firstE, if_pos h]
theorem firstE_bad {r : Pt × Int} {l : List (Pt × Int)} (h : ¬ r.2 = 0) : firstE (r :: l) = r.2 := by rw [firstE, if_neg h]
theorem firstE_all : ∀ {l : List (Pt × Int)}, firstE l = 0 → ∀ r ∈ l, r.2 = 0
  | [], _, r, hr => by simp at hr
  | q :: l, h, r, hr => by
    by_cases hq : q.2 = 0
    · rw [firstE_ok hq] at h
      rcases List.mem_cons.1 hr with rfl | hr
      · exact hq
      · exact firstE_all h r hr
    · rw [firstE_bad hq] at h; exact absurd h hq
/-- the four corners of a unit -/
def bodyR (c : CPut) : List (Pt × Int) := [placeS c.axle c.joint (pulledN c.unit + c.unit.front) c.unit.width, placeS c.axle c.joint (pulledN c.unit + c.unit.front) (-c.unit.width), placeS c.axle c.joint (pulledN c.unit - c.unit.length - c.unit.rear) c.unit.width, placeS c.axle c.joint (pulledN c.unit - c.unit.length - c.unit.rear) (-c.unit.width)]
/-- what Body returns -/
def bodyS (v : CVeh) (lead : Pt) (ps : List Pt) (i : Int) : List Pt × Int :=
  if oneE v lead ps i = 0 then (match (putsN lead v.units ps)[i.toNat]? with | some c => (if firstE (bodyR c) = 0 then cornersP ((bodyR c).map (·.1)) else [], firstE (bodyR c)) | none => ([], 3)) else ([], oneE v lead ps i)
theorem body_ok {c : CPut} (h : firstE (bodyR c) = 0) : ∀ p ∈ (bodyR c).map (·.1), okPt p = true := by
  intro p hp
  obtain ⟨r, hr, rfl⟩ := List.mem_map.1 hp
  have h0 := firstE_all h r hr
  unfold bodyR at hr
  simp only [List.mem_cons, List.not_mem_nil, or_false] at hr
  rcases hr with rfl | rfl | rfl | rfl <;> exact place_ok h0
theorem okPt_wideB {p : Pt} (h : okPt p = true) : wideB p := by
  simp only [okPt, inB, Bool.and_eq_true, decide_eq_true_eq] at h
  unfold wideB
  omega
end Go.Proofs.YtcbjecpfijogcaaGreat
/- What LoadLine returns. -/
namespace Go.Proofs.YtcbjecpfijogcaaGreat
open Go.RowKit Go.Shelf

/-- a point of the load line: at the rear of a unit -/
def rearP (c : CPut) : Pt × Int := placeS c.axle c.joint (pulledN c.unit - c.unit.length) 0
/-- what LoadLine returns, of the first and the last unit of the load -/
def lineL (one : Bool) (a b : CPut) : (Pt × Pt) × Int :=
  if (if one then (0 : Int) else (rearP a).2) = 0 then (if (rearP b).2 = 0 then ((if one then a.joint else (rearP a).1, (rearP b).1), 0) else (((0, 0), (0, 0)), (rearP b).2)) else (((0, 0), (0, 0)), (rearP a).2)
def lineS (v : CVeh) (lead : Pt) (ps : List Pt) : (Pt × Pt) × Int :=
  if poseE v lead ps = 0 then (match (putsN lead v.units ps)[v.first.toNat]?, (putsN lead v.units ps)[v.last.toNat]? with | some a, some b => lineL (decide (v.first = v.last)) a b | _, _ => (((0, 0), (0, 0)), 3)) else (((0, 0), (0, 0)), poseE v lead ps)
def lineV (r : (Pt × Pt) × Int) : Value := .tuple #[.agg #[.int .i64 r.1.1.1, .int .i64 r.1.1.2], .agg #[.int .i64 r.1.2.1, .int .i64 r.1.2.2], .int .i64 r.2]
theorem lineS_bad {v : CVeh} {lead : Pt} {ps : List Pt} (h : ¬ poseE v lead ps = 0) : lineS v lead ps = (((0, 0), (0, 0)), poseE v lead ps) := by unfold lineS; rw [if_neg h]
theorem lineS_ok {v : CVeh} {lead : Pt} {ps : List Pt} {f l : Nat} {a b : CPut} (h : poseE v lead ps = 0) (hf : v.first = f) (hl : v.last = l) (ha : (putsN lead v.units ps)[f]? = some a) (hb : (putsN lead v.units ps)[l]? = some b) :
    lineS v lead ps = lineL (decide (f = l)) a b := by
  have e : decide (v.first = v.last) = decide (f = l) := by rw [hf, hl]; exact decide_eq_decide.2 Int.ofNat_inj
  unfold lineS
  rw [if_pos h, e, hf, hl, Int.toNat_natCast, Int.toNat_natCast, ha, hb]
theorem blk_oth {W : World} {b c : Nat} {i : Nat} {u : Value} {o : Obj} (hne : b ≠ c) (h : W.heap[b]? = some o) : (W.setCell ⟨c, i, none⟩ u).heap[b]? = some o := (Below.heap_setCell W ⟨c, i, none⟩ u b hne).trans h
theorem veh_ends {v : CVeh} (h : vehE v = 0) : ∃ f l : Nat, v.first = f ∧ v.last = l ∧ f ≤ l ∧ l < v.units.length := by
  have h0 := (vehE_zero h).2.1
  unfold headB at h0
  simp only [Bool.and_eq_true, decide_eq_true_eq] at h0
  obtain ⟨_, h1, h2, h3⟩ := h0
  exact ⟨v.first.toNat, v.last.toNat, by omega, by omega, by omega, by omega⟩
end Go.Proofs.YtcbjecpfijogcaaGreat
