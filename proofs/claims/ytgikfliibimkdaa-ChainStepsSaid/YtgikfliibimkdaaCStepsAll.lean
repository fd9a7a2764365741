/- CStepsAll: several texts in one. -/
import Derived.Test.YtgikfliibimkdaaCStep
import Derived.Test.YtgikfliibimkdaaCRStep
import Derived.Test.YtgikfliibimkdaaCLong
import Derived.RangeFuncNested
import Derived.RangeFuncLeaves
import Derived.Test.YtgikfliibimkdaaCBackS
import Derived.Test.YtgikfliibimkdaaCUnits
import Derived.Test.YtgikfliibimkdaaCCheck
import Derived.RangeFuncBox
import Derived.Test.YtgikfliibimkdaaRound
import Derived.Test.YtgikfliibimkdaaCSame
import Derived.Sort.CutIn
import Derived.Test.YtgikfliibimkdaaCRJoint
import Derived.Test.YtgikfliibimkdaaUntil
import Derived.Test.YtgikfliibimkdaaCStrC
import Derived.Test.YtgikfliibimkdaaCOpen
import Derived.Test.YtgikfliibimkdaaCSteer
import Derived.OpenShut
import Derived.Test.YtgikfliibimkdaaRows
import Derived.ProofKit
import Derived.ChangeOld
import Derived.Lib.SmallJoins
import Derived.Deep.Slices
import Derived.Deep.Fields
import Derived.ChangeSame
/- Contracts: Step (both texts), Pulled, the law's valid. -/
namespace Go.Proofs.Ytgikfliibimkdaa
open Go.RowKit Go.Shelf

section
variable {vu vp vst : Value} {v : CVeh} {ps : List Pt} {st : List Int}
theorem Step_c (o1 o2 l1 l2 : Int) (w : World) (hs : Sl 11 RUnit w vu v.units) (hp : Pts w vp ps) (hst : Sl 1 RNum w vst st) :
    Calls Try.prog 21 #[vehV v vu, poseV (o1, o2) vp, .agg #[.int .i64 l1, .int .i64 l2], vst] w (StepR v (o1, o2) ps (l1, l2) st w) := by
  by_cases h : poseE v (o1, o2) ps = 0
  · cases h2 : okPt (l1, l2)
    · exact Step_lead o1 o2 l1 l2 w hs hp hst h h2
    · by_cases h3 : steerE v st = 0
      · exact Step_go o1 o2 l1 l2 w hs hp hst h h2 h3
      · exact Step_steer o1 o2 l1 l2 w hs hp hst h h2 h3
  · exact Step_pose o1 o2 l1 l2 w hs hp hst h
theorem RStep_c (o1 o2 l1 l2 : Int) (w : World) (hs : Sl 11 RUnit w vu v.units) (hp : Pts w vp ps) (hst : Sl 1 RNum w vst st) :
    Calls Try.prog 25 #[vehV v vu, poseV (o1, o2) vp, .agg #[.int .i64 l1, .int .i64 l2], vst] w (StepR v (o1, o2) ps (l1, l2) st w) := by
  by_cases h : poseE v (o1, o2) ps = 0
  · cases h2 : okPt (l1, l2)
    · exact RStep_lead o1 o2 l1 l2 w hs hp hst h h2
    · by_cases h3 : steerE v st = 0
      · exact RStep_go o1 o2 l1 l2 w hs hp hst h h2 h3
      · exact RStep_steer o1 o2 l1 l2 w hs hp hst h h2 h3
  · exact RStep_pose o1 o2 l1 l2 w hs hp hst h
end
end Go.Proofs.Ytgikfliibimkdaa
/- Contracts: which units cannot be led back; the iterator slices.Backward over units. -/
namespace Go.Proofs.Ytgikfliibimkdaa
open Go.RowKit Go.Shelf
attribute [local go_sem] Oper.semAt_some

theorem Back1_c (v : Value) (u : CUnit) (w : World) (hs : Sl 3 RAxle w v u.axles) :
    Calls Try.prog 63 #[.agg #[.int .i64 u.kind, .int .i64 u.length, .int .i64 u.behind, .int .i64 u.front, .int .i64 u.rear, .int .i64 u.width, .int .i64 u.height, .int .i64 u.mass, .int .i64 u.steer, .int .i64 u.most, v]] w fun e w' => e = .returned (.bool (!backU u)) ∧ Ext w w' := by
  obtain ⟨A, cap, rfl, hl, hl2⟩ := hs.shape
  clear hs
  by_cases h : u.behind < 100
  · have hb : backU u = false := by unfold backU; simp [h]
    rw [hb]
    go_enter Try.func63, Try.ntmps63
    go_wp2
    go_ret
    exact ⟨rfl, by (repeat' (first | exact Ext.refl _ | assumption | refine Ext.alloc ?_ _ | refine Ext.drew ?_ | refine Ext.drewN ?_ _ | refine Ext.set ?_ (by first | exact Nat.le_refl _ | exact le1 _ | exact le2 _ | exact le3 _ | exact le4 _ | exact le5 _ | exact le6 _) _ | refine Ext.trans ?_ (by assumption)))⟩
  · by_cases h2 : u.steer = 0
    · have hb : backU u = true := by unfold backU; simp [h, h2]
      rw [hb]
      go_enter Try.func63, Try.ntmps63
      go_wp2
      go_ret
      exact ⟨ret_bool (by simp), by (repeat' (first | exact Ext.refl _ | assumption | refine Ext.alloc ?_ _ | refine Ext.drew ?_ | refine Ext.drewN ?_ _ | refine Ext.set ?_ (by first | exact Nat.le_refl _ | exact le1 _ | exact le2 _ | exact le3 _ | exact le4 _ | exact le5 _ | exact le6 _) _ | refine Ext.trans ?_ (by assumption)))⟩
    · have hb : backU u = false := by unfold backU; simp [h2]
      rw [hb]
      go_enter Try.func63, Try.ntmps63
      go_wp2
      go_ret
      exact ⟨ret_bool (by simp [h2]), by (repeat' (first | exact Ext.refl _ | assumption | refine Ext.alloc ?_ _ | refine Ext.drew ?_ | refine Ext.drewN ?_ _ | refine Ext.set ?_ (by first | exact Nat.le_refl _ | exact le1 _ | exact le2 _ | exact le3 _ | exact le4 _ | exact le5 _ | exact le6 _) _ | refine Ext.trans ?_ (by assumption)))⟩
theorem backs_c (v : Value) (l : List CUnit) (w : World) (hs : Sl 11 RUnit w v l) :
    Calls Try.prog 62 #[v, .func (.func 63) #[] #[]] w fun e w' => e = .returned (.bool (!backB l)) ∧ Ext w w' := by
  unfold backB
  rw [← any_not]
  refine ContainsFuncUnit_c RUnit.stable 63 #[] (enters_of Try.func63 (by kernel_rfl) rfl) _ v l w hs ?_
  rintro W cs x _ ⟨v', rfl, h⟩ _
  exact Back1_c v' x W h

/-! ### the iterator -/
/-- the numbers below k, from the greatest one on -/
def dnk (n : Nat) : (k : Nat) → k ≤ n → List (Fin n)
  | 0, _ => []
  | k + 1, h => ⟨k, h⟩ :: dnk n k (by omega)
theorem dnk_len {n : Nat} : ∀ (k : Nat) (h : k ≤ n), (dnk n k h).length = k
  | 0, _ => rfl
  | k + 1, h => by rw [dnk, List.length_cons, dnk_len k]
theorem dnk_at {n : Nat} : ∀ (k t j : Nat) (h : k ≤ n) (hj : t + j + 1 = k), (dnk n k h)[t]? = some ⟨j, by omega⟩
  | 0, t, j, h, hj => by omega
  | k + 1, 0, j, h, hj => by
    obtain rfl : j = k := by omega
    rfl
  | k + 1, t + 1, j, h, hj => by
    rw [dnk, List.getElem?_cons_succ]
    exact dnk_at k t j (by omega) (by omega)
def unitVal (e : Option Addr × Nat) (u : CUnit) : Value := .agg #[.int .i64 u.kind, .int .i64 u.length, .int .i64 u.behind, .int .i64 u.front, .int .i64 u.rear, .int .i64 u.width, .int .i64 u.height, .int .i64 u.mass, .int .i64 u.steer, .int .i64 u.most, .slice e.1 u.axles.length e.2]
def bwE (us : List CUnit) (ex : Nat → Option Addr × Nat) (x : Fin us.length) : Array Value := #[.int .i64 (x.1 : Int), unitVal (ex x.1) (us.get x)]
/-- what a round keeps: what lay below n₀, and the box of the slice -/
def KpW (n₀ Bs : Nat) (W W' : World) : Prop := Below n₀ W W' ∧ W'.heap[Bs]? = W.heap[Bs]?
theorem KpW.refl (n₀ Bs : Nat) (W : World) : KpW n₀ Bs W W := ⟨Below.refl _ _, rfl⟩
theorem KpW.trans {n₀ Bs : Nat} {A B C : World} (h : KpW n₀ Bs A B) (k : KpW n₀ Bs B C) : KpW n₀ Bs A C := ⟨h.1.trans k.1, k.2.trans h.2⟩
theorem KpW.put {n₀ Bs : Nat} {w : World} (hn : n₀ ≤ w.heap.size) (hB : Bs < w.heap.size) (W : World) (l : Nat) (o o' : Obj) (hl : w.heap.size ≤ l) (h : W.heap[l]? = some o) (h1 : o.isCells = false) (h2 : o.isWalk = false) : KpW n₀ Bs W (W.putObj l o') :=
  ⟨belowK_b hn W l o o' hl h h1 h2, World.putObj_heap_other (by omega)⟩
theorem KpW.ext {n₀ Bs : Nat} {W W' : World} (h : Ext W W') (hn : n₀ ≤ W.heap.size) (hB : Bs < W.heap.size) : KpW n₀ Bs W W' := ⟨Below.mono h hn, h.block Bs hB⟩

set_option maxRecDepth 100000 in
set_option maxHeartbeats 4000000 in
theorem Bw1_in (F : Fence) (n : Nat) (hF : F.fn 92) (hro : F.round = none) (hn : 1 ≤ n) (l Bs n₀ b off cap : Nat) (us : List CUnit) (ex : Nat → Option Addr × Nat) (hle : us.length ≤ 1000) (hb : b < n₀) (J Jx : List (Fin us.length) → World → Prop)
    (hY : ∀ pre x W, J pre W → pre.length < us.length → YieldAt F (n - 1) Try.prog l (bwE us ex x) W fun e W' =>
      (e = .returned (.bool true) ∧ J (pre ++ [x]) W' ∧ KpW n₀ Bs W W') ∨ (e = .returned (.bool false) ∧ Jx (pre ++ [x]) W'))
    (W : World) (hBs : W.cell? ⟨Bs, 0, none⟩ = some (.slice (some ⟨b, off, none⟩) us.length cap))
    (hc : ∀ i u, us[i]? = some u → ∀ j c, (unitCs (.slice (ex i).1 u.axles.length (ex i).2) u)[j]? = some c → W.cell? ⟨b, off + i * 11 + j, none⟩ = some c) (h0 : J [] W) :
    CallsIn F n Try.prog 92 #[.func (.yield l) #[] #[], .pointer (some ⟨Bs, 0, none⟩)] W fun e W' => (∃ v, e = .returned v) ∧
      ((∃ ys, ys = dnk us.length us.length (Nat.le_refl _) ∧ J ys W') ∨ (∃ pre, pre <+: dnk us.length us.length (Nat.le_refl _) ∧ Jx pre W')) := by
  refine callsIn_of_wp Try.func92 rfl hF ?_ hro
  have hi0 : IntKind.i64.wrap ((us.length : Int) - 1) = (us.length : Int) - 1 := IntWalk.i64_in _ (by omega)
  simp only [Try.ntmps92, List.size_toArray, List.length_cons, List.length_nil, Nat.reduceAdd, Nat.reduceSub, Array.replicate_succ, Array.replicate_zero, List.push_toArray, List.append_toArray, List.nil_append, List.cons_append]
  gi_wp2
  gi_loopw [3] (fun i wr => ∃ k : Nat, k ≤ us.length ∧ i = .int .i64 ((k : Int) - 1) ∧ J ((dnk us.length us.length (Nat.le_refl _)).take (us.length - k)) wr ∧ KpW n₀ Bs W wr) (fun i _ => (intOf i + 1).toNat)
  case atStart => exact ⟨us.length, Nat.le_refl _, rfl, by simpa using h0, KpW.refl _ _ _⟩
  case round =>
    obtain ⟨k, hk, rfl, hJs, hnx⟩ := hrel
    have hB' : wr.cell? ⟨Bs, 0, none⟩ = some (.slice (some ⟨b, off, none⟩) us.length cap) := by rw [World.cell?_of_block (w := W) hnx.2]; exact hBs
    cases k with
    | zero =>
      rw [show (((0 : Nat) : Int) - 1) = (-1 : Int) from rfl]
      have hJe : J (dnk us.length us.length (Nat.le_refl _)) wr := by
        have h9 := hJs
        rw [List.take_of_length_le (by rw [dnk_len]; omega)] at h9
        exact h9
      gi_wp2
      go_end0
      exact ⟨⟨_, rfl⟩, .inl ⟨_, rfl, hJe⟩⟩
    | succ k =>
      rw [show (((k + 1 : Nat) : Int) - 1) = (k : Int) by omega]
      have hku : k < us.length := by omega
      obtain ⟨u, hu⟩ := some_of_lt hku
      have hget : us.get ⟨k, hku⟩ = u := by
        obtain ⟨h1, h2⟩ := List.getElem?_eq_some_iff.1 hu
        exact h2
      have hcx := hc k u hu
      have cc : ∀ j c, (unitCs (.slice (ex k).1 u.axles.length (ex k).2) u)[j]? = some c → wr.cell? ⟨b, off + k * 11 + j, none⟩ = some c := fun j c hj => (hnx.1.cell (p := ⟨b, off + k * 11 + j, none⟩) hb).trans (hcx j c hj)
      have k0 := cc 0 _ rfl
      have k1 := cc 1 _ rfl
      have k2 := cc 2 _ rfl
      have k3 := cc 3 _ rfl
      have k4 := cc 4 _ rfl
      have k5 := cc 5 _ rfl
      have k6 := cc 6 _ rfl
      have k7 := cc 7 _ rfl
      have k8 := cc 8 _ rfl
      have k9 := cc 9 _ rfl
      have k10 := cc 10 _ rfl
      simp only [Nat.add_zero] at k0
      have hyy := hY _ ⟨k, hku⟩ wr hJs (by rw [List.length_take, dnk_len]; omega)
      have hpre : (dnk us.length us.length (Nat.le_refl _)).take (us.length - (k + 1)) ++ [⟨k, hku⟩] = (dnk us.length us.length (Nat.le_refl _)).take (us.length - k) := by
        have h1 := dnk_at us.length (us.length - (k + 1)) k (Nat.le_refl _) (by omega)
        rw [show us.length - k = us.length - (k + 1) + 1 by omega, List.take_add_one, h1]
        rfl
      rw [hpre] at hyy
      unfold bwE unitVal at hyy
      rw [hget] at hyy
      dsimp only at hyy
      obtain ⟨fn, tmps, assign, body, hy, hR⟩ := hyy
      have i1 : (0 : Int) ≤ (k : Int) := by omega
      have i2 : (k : Int) < (us.length : Int) := by omega
      have ew := IntWalk.i64_in ((k : Int) - 1) (by omega)
      have HK := Lib.hid hnx
      have HN := Lib.hid hk
      clear hJs hnx hcx cc hget hu hpre hc hY h0 hi0 hk
      gi_wp2
      refine hR.mono ?_
      rintro e W3 (⟨rfl, hJ3, hk3⟩ | ⟨rfl, hJx3⟩)
      · gi_wp2
        go_roundw
        case rel => exact ⟨k, by have := HN.out; omega, rfl, hJ3, HK.out.trans hk3⟩
        case measure => simp [intOf]
      · gi_wp2
        refine bodyPost_ret (results_none rfl _ _ _) rfl ?_
        exact ⟨⟨_, rfl⟩, .inr ⟨_, List.take_prefix _ _, hJx3⟩⟩
theorem Bw_stops (F : Fence) (n : Nat) (hF : F.fn 92) (hro : F.round = none) (hn : 1 ≤ n) (Bs n₀ b off cap : Nat) (us : List CUnit) (ex : Nat → Option Addr × Nat) (hle : us.length ≤ 1000) (hb : b < n₀) (w : World)
    (hBs : w.cell? ⟨Bs, 0, none⟩ = some (.slice (some ⟨b, off, none⟩) us.length cap))
    (hc : ∀ i u, us[i]? = some u → ∀ j c, (unitCs (.slice (ex i).1 u.axles.length (ex i).2) u)[j]? = some c → w.cell? ⟨b, off + i * 11 + j, none⟩ = some c) :
    SeqStopsK F n Try.prog 92 #[.pointer (some ⟨Bs, 0, none⟩)] (bwE us ex) (KpW n₀ Bs) (fun ys => ys = dnk us.length us.length (Nat.le_refl _)) (fun pre => pre <+: dnk us.length us.length (Nat.le_refl _)) us.length w :=
  fun l J Jx W hW _ _ hY h0 => Bw1_in F n hF hro hn l Bs n₀ b off cap us ex hle hb J Jx hY W (Ext.cell hW hBs) (fun i u hu j c hj => Ext.cell hW (hc i u hu j c hj)) h0
set_option maxHeartbeats 800000 in
theorem Backward_c (A : Option Addr) (len cap : Nat) (w : World) :
    Calls Try.prog 64 #[.slice A len cap] w fun e w' => e = .returned (.func (.func 92) #[] #[.pointer (some ⟨w.heap.size, 0, none⟩)]) ∧ w' = w.alloc (.cells #[.slice A len cap] 22) := by
  go_enter Try.func64, Try.ntmps64
  go_wp2
  go_ret
  exact ⟨rfl, rfl⟩
end Go.Proofs.Ytgikfliibimkdaa
/- Back, round by round: what has been pulled, whatever unit comes; and that it comes to what backK says. -/
namespace Go.Proofs.Ytgikfliibimkdaa
open Go.RowKit Go.Shelf

section
variable {us : List CUnit} {ps : List Pt} {ss : List Int}
/-- one round: the next joint, the row with the axle; or the error -/
def bst1 (us : List CUnit) (ps : List Pt) (ss : List Int) (jt : Pt) (l : List Pt) (x : Fin us.length) : Sum (Pt × List Pt) Int :=
  if (pullTS jt (ps.getD x.1 (0, 0)) (us.get x).behind (ss.getD x.1 0)).2 = 0 then
    (if (placeS (pullTS jt (ps.getD x.1 (0, 0)) (us.get x).behind (ss.getD x.1 0)).1 jt (-(us.get x).length) 0).2 = 0 then
      .inl ((placeS (pullTS jt (ps.getD x.1 (0, 0)) (us.get x).behind (ss.getD x.1 0)).1 jt (-(us.get x).length) 0).1, l.set x.1 (pullTS jt (ps.getD x.1 (0, 0)) (us.get x).behind (ss.getD x.1 0)).1)
    else .inr (placeS (pullTS jt (ps.getD x.1 (0, 0)) (us.get x).behind (ss.getD x.1 0)).1 jt (-(us.get x).length) 0).2)
  else .inr (pullTS jt (ps.getD x.1 (0, 0)) (us.get x).behind (ss.getD x.1 0)).2
def bnext (us : List CUnit) (ps : List Pt) (ss : List Int) : Sum (Pt × List Pt) Int → Fin us.length → Sum (Pt × List Pt) Int
  | .inl q, x => bst1 us ps ss q.1 q.2 x
  | .inr e, _ => .inr e
def bst (us : List CUnit) (ps : List Pt) (ss : List Int) (tail : Pt) (pre : List (Fin us.length)) : Sum (Pt × List Pt) Int := pre.foldl (bnext us ps ss) (.inl (tail, List.replicate us.length (0, 0)))
theorem bst1_eq {jt : Pt} {l : List Pt} {x : Fin us.length} {u : CUnit} {a : Pt} {s : Int} {p j : Pt × Int} (hu : us.get x = u) (ha : ps[x.1]? = some a) (hs : ss[x.1]? = some s) (hp : pullTS jt a u.behind s = p) (hj : placeS p.1 jt (-u.length) 0 = j) :
    bst1 us ps ss jt l x = if p.2 = 0 then (if j.2 = 0 then .inl (j.1, l.set x.1 p.1) else .inr j.2) else .inr p.2 := by
  have e1 : ps.getD x.1 (0, 0) = a := by simp [List.getD, ha]
  have e2 : ss.getD x.1 0 = s := by simp [List.getD, hs]
  unfold bst1
  rw [e1, e2, hu, hp, hj]
theorem bst_snoc {tail : Pt} {pre : List (Fin us.length)} {x : Fin us.length} : bst us ps ss tail (pre ++ [x]) = bnext us ps ss (bst us ps ss tail pre) x := by unfold bst; rw [List.foldl_append]; rfl
theorem bfold_inr (e : Int) : ∀ xs : List (Fin us.length), xs.foldl (bnext us ps ss) (.inr e) = .inr e
  | [] => rfl
  | _ :: xs => bfold_inr e xs
theorem set_mid (k : Nat) (acc : List Pt) (p : Pt) : (List.replicate (k + 1) (0, 0) ++ acc).set k p = List.replicate k (0, 0) ++ p :: acc := by
  induction k with
  | zero => rfl
  | succ k ih =>
    rw [List.replicate_succ, List.cons_append, List.set_cons_succ, ih, List.replicate_succ]
    rfl
theorem bfold_all (hps : ps.length = us.length) (hss : ss.length = us.length) : ∀ (k : Nat) (h : k ≤ us.length) (jt : Pt) (acc : List Pt),
    (dnk us.length k h).foldl (bnext us ps ss) (.inl (jt, List.replicate k (0, 0) ++ acc)) =
      if (backK us ps ss k jt acc).2.2 = 0 then .inl ((backK us ps ss k jt acc).2.1, (backK us ps ss k jt acc).1) else .inr (backK us ps ss k jt acc).2.2
  | 0, _, jt, acc => by rw [backK_zero]; rfl
  | k + 1, h, jt, acc => by
    obtain ⟨u, hu⟩ := some_of_lt (show k < us.length by omega)
    obtain ⟨a, ha⟩ := some_of_lt (show k < ps.length by omega)
    obtain ⟨s, hs⟩ := some_of_lt (show k < ss.length by omega)
    have hget : us.get ⟨k, by omega⟩ = u := by
      obtain ⟨h1, h2⟩ := List.getElem?_eq_some_iff.1 hu
      exact h2
    obtain ⟨p, hp⟩ : ∃ p, pullTS jt a u.behind s = p := ⟨_, rfl⟩
    obtain ⟨j, hj⟩ : ∃ j, placeS p.1 jt (-u.length) 0 = j := ⟨_, rfl⟩
    have e1 := bst1_eq (us := us) (ps := ps) (ss := ss) (jt := jt) (l := List.replicate (k + 1) (0, 0) ++ acc) (x := ⟨k, by omega⟩) hget ha hs hp hj
    rw [backK_step hu ha hs hp hj, dnk, List.foldl_cons]
    show List.foldl (bnext us ps ss) (bst1 us ps ss jt (List.replicate (k + 1) (0, 0) ++ acc) ⟨k, by omega⟩) _ = _
    rw [e1]
    by_cases hp0 : p.2 = 0
    · rw [if_pos hp0, if_pos hp0]
      by_cases hj0 : j.2 = 0
      · rw [if_pos hj0, if_pos hj0, set_mid]
        exact bfold_all hps hss k (by omega) j.1 (p.1 :: acc)
      · rw [if_neg hj0, if_neg hj0, bfold_inr, if_neg (by simpa using hj0)]
    · rw [if_neg hp0, if_neg hp0, bfold_inr, if_neg (by simpa using hp0)]
theorem bst_done (hps : ps.length = us.length) (hss : ss.length = us.length) {tail jt : Pt} {l : List Pt} {r : List Pt × Pt × Int} (hr : backK us ps ss us.length tail [] = r)
    (h : bst us ps ss tail (dnk us.length us.length (Nat.le_refl _)) = .inl (jt, l)) : r = (l, jt, 0) := by
  have h1 := bfold_all hps hss us.length (Nat.le_refl _) tail []
  rw [List.append_nil, hr] at h1
  unfold bst at h
  rw [h] at h1
  split at h1
  · rename_i h2
    obtain ⟨r1, r2, r3⟩ := r
    simp only [Sum.inl.injEq, Prod.mk.injEq] at h1 h2
    obtain ⟨rfl, rfl⟩ := h1
    rw [h2]
  · cases h1
theorem bst_stop (hps : ps.length = us.length) (hss : ss.length = us.length) {tail : Pt} {e : Int} {pre : List (Fin us.length)} {r : List Pt × Pt × Int} (hr : backK us ps ss us.length tail [] = r)
    (hpre : pre <+: dnk us.length us.length (Nat.le_refl _)) (h : bst us ps ss tail pre = .inr e) : ¬ r.2.2 = 0 ∧ r.2.2 = e := by
  have h1 := bfold_all hps hss us.length (Nat.le_refl _) tail []
  rw [List.append_nil, hr] at h1
  obtain ⟨suf, hsuf⟩ := hpre
  rw [← hsuf, List.foldl_append] at h1
  unfold bst at h
  rw [h, bfold_inr] at h1
  split at h1
  · cases h1
  · rename_i h2
    simp only [Sum.inr.injEq] at h1
    exact ⟨h2, h1.symm⟩
end
theorem one_set {W : World} {b : Nat} {t : TypeId} {x : Value} (u : Value) (h : W.heap[b]? = some (.cells #[x] t (0, 0))) : (W.setCell ⟨b, 0, none⟩ u).heap[b]? = some (.cells #[u] t (0, 0)) := by
  have := blk_set 0 u h
  simpa using this
theorem BlkP.set {W : World} {b k : Nat} {l : List Pt} (h : BlkP W b l) (hk : k < l.length) (x y : Int) :
    BlkP ((W.setCell ⟨b, k * 2, none⟩ (.int .i64 x)).setCell ⟨b, k * 2 + 1, none⟩ (.int .i64 y)) b (l.set k (x, y)) := by
  unfold BlkP at *
  have h1 := blk_set (k * 2 + 1) (.int .i64 y) (blk_set (k * 2) (.int .i64 x) h)
  obtain ⟨z, hz⟩ := some_of_lt hk
  have e0 : l = l.take k ++ (z :: l.drop (k + 1)) := by
    have h2 := drop_some hz
    rw [← h2, List.take_append_drop]
  have e1 : l.set k (x, y) = l.take k ++ ((x, y) :: l.drop (k + 1)) := List.set_eq_take_append_cons_drop.trans (if_pos hk)
  have hl : (flatP (l.take k)).length = k * 2 := by rw [flatP_len, List.length_take]; congr 1; omega
  have f0 : flatP l = flatP (l.take k) ++ [.int .i64 z.1, .int .i64 z.2] ++ flatP (l.drop (k + 1)) := by
    rw [List.append_assoc]
    exact (congrArg flatP e0).trans (flatP_app _ _)
  have f1 : flatP (l.set k (x, y)) = flatP (l.take k) ++ [.int .i64 x, .int .i64 y] ++ flatP (l.drop (k + 1)) := by
    rw [e1, List.append_assoc]
    exact flatP_app _ _
  rw [h1, f0, f1]
  simp only [List.setIfInBounds_toArray]
  rw [← hl, set_app, set_app2]
/-- a block of cells lies as it lay where another kind of block turns -/
theorem kept_blk {W W' : World} {row : Option Nat} {b : Nat} {cs : Array Value} {t : TypeId} {fr : Nat × Nat} (h : W.heap[b]? = some (.cells cs t fr)) (hg : W.grownBy W' row) (hr : ∀ r, row = some r → ∃ o : Obj, W.heap[r]? = some o ∧ o.isCells = false) : W'.heap[b]? = some (.cells cs t fr) := by
  refine (hg.block b (Array.getElem?_eq_some_iff.1 h).1 (fun e => ?_)).trans h
  obtain ⟨o, ho, hc⟩ := hr b e.symm
  rw [h] at ho
  cases ho
  cases hc
theorem Ext.from {W W' : World} (h : Ext W W') (B : Nat) : KeepsFrom B W W' := ⟨h.sz, fun k _ _ hk _ => (h.block k (Array.getElem?_eq_some_iff.1 hk).1).trans hk⟩
theorem keeps_set (B : Nat) (W : World) (a : Addr) (v : Value) : KeepsFrom B W (W.setCell a v) := (KeepsOthers.setCell W a v).from B
theorem KpW.set {n₀ Bs : Nat} {A W : World} (h : KpW n₀ Bs A W) {a : Addr} (h1 : n₀ ≤ a.block) (h2 : Bs ≠ a.block) (v : Value) : KpW n₀ Bs A (W.setCell a v) :=
  ⟨Below.setCell h.1 h1 v, (Below.heap_setCell W a v Bs h2).trans h.2⟩
section
variable {F : Fence} {n : Nat} {P : Program} {Q : Exit → Act → World → Prop} {w : World}
theorem tmps_gen {c : Code} {T : Array Value} {D : List Deferred} (h : ∀ T0, T = T0 → c.wpIn F n P Q { tmps := T0, defers := D } w) : c.wpIn F n P Q { tmps := T, defers := D } w := h T rfl
end
section
variable {P : Program} {ops : Array Oper} {Q : Exit → Act → World → Prop} {md : Region.Mode} {S : World → Prop}
/-- the one operation that may come up now -/
theorem held_one {i : Nat} {o : Oper} {rest : List Oper} {n : Nat} {listed : Array Bool} {a : Act} {w : World} (hi : ops.toList.drop i = o :: rest) (hr : Region.ready md ops listed = [i])
    (h : ∀ K' : Act → World → Prop, Shut (∀ a w, S w → (S w → wpAnyH P md ops Q S n (listed.setIfInBounds i true) a w) → K' a w) → if Region.wanted o (yielded ops a.tmps) = true then Oper.wp P o a w K' Q else K' (a.put o.dst undef) w) : wpAnyH P md ops Q S (n + 1) listed a w :=
  ⟨fun h0 => (by rw [hr] at h0; cases h0), fun j hj => by
    rw [hr] at hj
    obtain rfl : j = i := by simpa using hj
    exact wpOp_step (udrop_get hi) (fun K' hK => h K' (fun a w hS hW => hK a w ⟨hS, hW hS⟩))⟩
/-- two operations that may come up now -/
theorem held_two {i i2 : Nat} {o o2 : Oper} {rest rest2 : List Oper} {n : Nat} {listed : Array Bool} {a : Act} {w : World} (hi : ops.toList.drop i = o :: rest) (hi2 : ops.toList.drop i2 = o2 :: rest2) (hr : Region.ready md ops listed = [i, i2])
    (h : ∀ K' : Act → World → Prop, Shut (∀ a w, S w → (S w → wpAnyH P md ops Q S n (listed.setIfInBounds i true) a w) → K' a w) → if Region.wanted o (yielded ops a.tmps) = true then Oper.wp P o a w K' Q else K' (a.put o.dst undef) w)
    (h2 : ∀ K' : Act → World → Prop, Shut (∀ a w, S w → (S w → wpAnyH P md ops Q S n (listed.setIfInBounds i2 true) a w) → K' a w) → if Region.wanted o2 (yielded ops a.tmps) = true then Oper.wp P o2 a w K' Q else K' (a.put o2.dst undef) w) : wpAnyH P md ops Q S (n + 1) listed a w :=
  ⟨fun h0 => (by rw [hr] at h0; cases h0), fun j hj => by
    rw [hr] at hj
    rcases (show j = i ∨ j = i2 by simpa using hj) with rfl | rfl
    · exact wpOp_step (udrop_get hi) (fun K' hK => h K' (fun a w hS hW => hK a w ⟨hS, hW hS⟩))
    · exact wpOp_step (udrop_get hi2) (fun K' hK => h2 K' (fun a w hS hW => hK a w ⟨hS, hW hS⟩))⟩
end
end Go.Proofs.Ytgikfliibimkdaa
/- Contract: Back, by the program: what it refuses at once. -/
namespace Go.Proofs.Ytgikfliibimkdaa
open Go.RowKit Go.Shelf

section
variable {vu vp vst : Value} {v : CVeh} {ps : List Pt} {st : List Int}
set_option maxRecDepth 100000 in
set_option maxHeartbeats 6400000 in
theorem Back_pose (o1 o2 l1 l2 : Int) (w : World) (hs : Sl 11 RUnit w vu v.units) (hp : Pts w vp ps) (hst : Sl 1 RNum w vst st) (h : ¬ poseE v (o1, o2) ps = 0) :
    Calls Try.prog 26 #[vehV v vu, poseV (o1, o2) vp, .agg #[.int .i64 l1, .int .i64 l2], vst] w (BackR v (o1, o2) ps (l1, l2) st w) := by
  have CC := fun w' (h : Ext w w') => CheckPose_c (lead := (o1, o2)) w' (hs.ext RUnit.stable h) (hp.ext h)
  have HR := Lib.hid (backS_pose (tail := (l1, l2)) (st := st) h)
  obtain ⟨A, cap, rfl, hl, hl2⟩ := hs.shape
  obtain ⟨Ap, capp, rfl⟩ := pts_shape hp
  obtain ⟨As, caps, rfl, hls, hls2⟩ := hst.shape
  obtain ⟨Post, hPost⟩ : ∃ Post, BackR v (o1, o2) ps (l1, l2) st w = Post := ⟨_, rfl⟩
  rw [hPost]
  have HPo := Lib.hid hPost
  unfold vehV poseV at *
  simp only at CC ⊢
  have HN := h
  generalize poseE v (o1, o2) ps = PE at *
  replace CC := Lib.hid CC
  clear hs hp hst h hPost
  go_enter Try.func26, Try.ntmps26
  go_upto_region 3 with (go_at_call 14; refine (CC.out _ (by (repeat' (first | exact Ext.refl _ | assumption | refine Ext.alloc ?_ _ | refine Ext.drew ?_ | refine Ext.drewN ?_ _ | refine Ext.set ?_ (by first | exact Nat.le_refl _ | exact le1 _ | exact le2 _ | exact le3 _ | exact le4 _ | exact le5 _ | exact le6 _) _ | refine Ext.trans ?_ (by assumption))))).mono ?_; rintro e w1 ⟨rfl, hb⟩; have y0 := Ext.cell hb (p := ⟨w.heap.size, 0, none⟩) (v := .string v.name) (by go_simp); have y1 := Ext.cell hb (p := ⟨w.heap.size, 1, none⟩) (v := .slice A v.units.length cap) (by go_simp); have y2 := Ext.cell hb (p := ⟨w.heap.size, 2, none⟩) (v := .int .i64 v.first) (by go_simp); have y3 := Ext.cell hb (p := ⟨w.heap.size, 3, none⟩) (v := .int .i64 v.last) (by go_simp); have t0 := Ext.cell hb (p := ⟨w.heap.size + 1, 0, none⟩) (v := .int .i64 o1) (by go_simp); have t1 := Ext.cell hb (p := ⟨w.heap.size + 1, 1, none⟩) (v := .int .i64 o2) (by go_simp); have t2 := Ext.cell hb (p := ⟨w.heap.size + 1, 2, none⟩) (v := .slice Ap ps.length capp) (by go_simp); have L0 := Ext.cell hb (p := ⟨w.heap.size + 1 + 1, 0, none⟩) (v := .int .i64 l1) (by go_simp); have L1 := Ext.cell hb (p := ⟨w.heap.size + 1 + 1, 1, none⟩) (v := .int .i64 l2) (by go_simp); have S0 := Ext.cell hb (p := ⟨w.heap.size + 1 + 1 + 1, 0, none⟩) (v := .slice As st.length caps) (by go_simp); have hR : w1.heap[w.heap.size + 1 + 1 + 1 + 1]? = some (.cells #[.int .i64 0, .int .i64 0, .slice none 0 0] 29 (0, 0)) := (hb.block _ (by simp)).trans (heap_old (new_at (by simp))); have hE : w1.heap[w.heap.size + 1 + 1 + 1 + 1 + 1]? = some (.cells #[.int .i64 0] 32 (0, 0)) := (hb.block _ (by simp)).trans (new_at (by simp)); have E3 : Ext w w1 := (((((((Ext.refl w).alloc _).alloc _).alloc _).alloc _).alloc _).alloc _).trans hb; clear hb; have r0 : w1.cell? ⟨w.heap.size + 1 + 1 + 1 + 1, 0, none⟩ = some (.int .i64 0) := World.news_of_block hR 0 _ rfl; have r1 : w1.cell? ⟨w.heap.size + 1 + 1 + 1 + 1, 1, none⟩ = some (.int .i64 0) := World.news_of_block hR 1 _ rfl; have r2 : w1.cell? ⟨w.heap.size + 1 + 1 + 1 + 1, 2, none⟩ = some (.slice none 0 0) := World.news_of_block hR 2 _ rfl; have e0 : w1.cell? ⟨w.heap.size + 1 + 1 + 1 + 1 + 1, 0, none⟩ = some (.int .i64 0) := World.news_of_block hE 0 _ rfl; have f0 := blk_frz hR 0; have f1 := blk_frz hR 1; have f2 := blk_frz hR 2; have fe := blk_frz hE 0; have hlR := fst_lt hR; have hlE := fst_lt hE; have hly := lt_of_cell y0; have hlt := lt_of_cell t0; have hlL := lt_of_cell L0; have hlS := lt_of_cell S0)
  go_wp2_with fail
  have hR2 := three_set (.int .i64 0) (.int .i64 0) (.slice none 0 0) hR
  have hE2 : (((w1.setCell ⟨w.heap.size + 1 + 1 + 1 + 1, 0, none⟩ (.int .i64 0)).setCell ⟨w.heap.size + 1 + 1 + 1 + 1, 1, none⟩ (.int .i64 0)).setCell ⟨w.heap.size + 1 + 1 + 1 + 1, 2, none⟩ (.slice none 0 0)).heap[w.heap.size + 1 + 1 + 1 + 1 + 1]? = some (.cells #[.int .i64 0] 32 (0, 0)) := (heap_ne (by omega)).trans ((heap_ne (by omega)).trans ((heap_ne (by omega)).trans hE))
  have hR3 : ((((w1.setCell ⟨w.heap.size + 1 + 1 + 1 + 1, 0, none⟩ (.int .i64 0)).setCell ⟨w.heap.size + 1 + 1 + 1 + 1, 1, none⟩ (.int .i64 0)).setCell ⟨w.heap.size + 1 + 1 + 1 + 1, 2, none⟩ (.slice none 0 0)).setCell ⟨w.heap.size + 1 + 1 + 1 + 1 + 1, 0, none⟩ (.int .i64 PE)).heap[w.heap.size + 1 + 1 + 1 + 1]? = some (.cells #[.int .i64 0, .int .i64 0, .slice none 0 0] 29 (0, 0)) := (heap_ne (by omega)).trans hR2
  have hE3 := one_set (.int .i64 PE) hE2
  have ER2 := (((E3.set (p := ⟨w.heap.size + 1 + 1 + 1 + 1, 0, none⟩) (le4 _) (.int .i64 0)).set (p := ⟨w.heap.size + 1 + 1 + 1 + 1, 1, none⟩) (le4 _) (.int .i64 0)).set (p := ⟨w.heap.size + 1 + 1 + 1 + 1, 2, none⟩) (le4 _) (.slice none 0 0)).set (p := ⟨w.heap.size + 1 + 1 + 1 + 1 + 1, 0, none⟩) (le5 _) (.int .i64 PE)
  generalize ((((w1.setCell ⟨w.heap.size + 1 + 1 + 1 + 1, 0, none⟩ (.int .i64 0)).setCell ⟨w.heap.size + 1 + 1 + 1 + 1, 1, none⟩ (.int .i64 0)).setCell ⟨w.heap.size + 1 + 1 + 1 + 1, 2, none⟩ (.slice none 0 0)).setCell ⟨w.heap.size + 1 + 1 + 1 + 1 + 1, 0, none⟩ (.int .i64 PE)) = WF at *
  have n0 : WF.cell? ⟨w.heap.size + 1 + 1 + 1 + 1, 0, none⟩ = some (.int .i64 0) := World.news_of_block hR3 0 _ rfl
  have n1 : WF.cell? ⟨w.heap.size + 1 + 1 + 1 + 1, 1, none⟩ = some (.int .i64 0) := World.news_of_block hR3 1 _ rfl
  have n2 : WF.cell? ⟨w.heap.size + 1 + 1 + 1 + 1, 2, none⟩ = some (.slice none 0 0) := World.news_of_block hR3 2 _ rfl
  have n3 : WF.cell? ⟨w.heap.size + 1 + 1 + 1 + 1 + 1, 0, none⟩ = some (.int .i64 PE) := World.news_of_block hE3 0 _ rfl
  refine bodyPost_ret (v := poseEV (0, 0) (.slice none 0 0) PE) (by simp [results, Try.results26, go_sem, n0, n1, n2, n3, poseEV]) rfl ?_
  rw [← HPo.out]
  unfold BackR
  rw [HR.out]
  exact ⟨_, rfl, .inl ⟨none, 0, rfl, rfl⟩, ER2⟩
set_option maxRecDepth 100000 in
set_option maxHeartbeats 6400000 in
theorem Back_tail (o1 o2 l1 l2 : Int) (w : World) (hs : Sl 11 RUnit w vu v.units) (hp : Pts w vp ps) (hst : Sl 1 RNum w vst st) (h : poseE v (o1, o2) ps = 0) (h2 : okPt (l1, l2) = false) :
    Calls Try.prog 26 #[vehV v vu, poseV (o1, o2) vp, .agg #[.int .i64 l1, .int .i64 l2], vst] w (BackR v (o1, o2) ps (l1, l2) st w) := by
  have CC := fun w' (h : Ext w w') => CheckPose_c (lead := (o1, o2)) w' (hs.ext RUnit.stable h) (hp.ext h)
  rw [h] at CC
  have C1 := fun w => Check_c l1 l2 w
  rw [show checkS (l1, l2) = 2 by simp [checkS, h2]] at C1
  have HR := Lib.hid (backS_tail (st := st) h h2)
  obtain ⟨A, cap, rfl, hl, hl2⟩ := hs.shape
  obtain ⟨Ap, capp, rfl⟩ := pts_shape hp
  obtain ⟨As, caps, rfl, hls, hls2⟩ := hst.shape
  obtain ⟨Post, hPost⟩ : ∃ Post, BackR v (o1, o2) ps (l1, l2) st w = Post := ⟨_, rfl⟩
  rw [hPost]
  have HPo := Lib.hid hPost
  unfold vehV poseV at *
  simp only at CC ⊢
  replace CC := Lib.hid CC
  replace C1 := Lib.hid C1
  clear hs hp hst h hPost
  go_enter Try.func26, Try.ntmps26
  go_upto_region 5 with (first | (go_at_call 14; refine (CC.out _ (by (repeat' (first | exact Ext.refl _ | assumption | refine Ext.alloc ?_ _ | refine Ext.drew ?_ | refine Ext.drewN ?_ _ | refine Ext.set ?_ (by first | exact Nat.le_refl _ | exact le1 _ | exact le2 _ | exact le3 _ | exact le4 _ | exact le5 _ | exact le6 _) _ | refine Ext.trans ?_ (by assumption))))).mono ?_; rintro e w1 ⟨rfl, hb⟩; have y0 := Ext.cell hb (p := ⟨w.heap.size, 0, none⟩) (v := .string v.name) (by go_simp); have y1 := Ext.cell hb (p := ⟨w.heap.size, 1, none⟩) (v := .slice A v.units.length cap) (by go_simp); have y2 := Ext.cell hb (p := ⟨w.heap.size, 2, none⟩) (v := .int .i64 v.first) (by go_simp); have y3 := Ext.cell hb (p := ⟨w.heap.size, 3, none⟩) (v := .int .i64 v.last) (by go_simp); have t0 := Ext.cell hb (p := ⟨w.heap.size + 1, 0, none⟩) (v := .int .i64 o1) (by go_simp); have t1 := Ext.cell hb (p := ⟨w.heap.size + 1, 1, none⟩) (v := .int .i64 o2) (by go_simp); have t2 := Ext.cell hb (p := ⟨w.heap.size + 1, 2, none⟩) (v := .slice Ap ps.length capp) (by go_simp); have L0 := Ext.cell hb (p := ⟨w.heap.size + 1 + 1, 0, none⟩) (v := .int .i64 l1) (by go_simp); have L1 := Ext.cell hb (p := ⟨w.heap.size + 1 + 1, 1, none⟩) (v := .int .i64 l2) (by go_simp); have S0 := Ext.cell hb (p := ⟨w.heap.size + 1 + 1 + 1, 0, none⟩) (v := .slice As st.length caps) (by go_simp); have hR : w1.heap[w.heap.size + 1 + 1 + 1 + 1]? = some (.cells #[.int .i64 0, .int .i64 0, .slice none 0 0] 29 (0, 0)) := (hb.block _ (by simp)).trans (heap_old (new_at (by simp))); have hE : w1.heap[w.heap.size + 1 + 1 + 1 + 1 + 1]? = some (.cells #[.int .i64 0] 32 (0, 0)) := (hb.block _ (by simp)).trans (new_at (by simp)); have E3 : Ext w w1 := (((((((Ext.refl w).alloc _).alloc _).alloc _).alloc _).alloc _).alloc _).trans hb; clear hb) | (go_at_call 40; refine (C1.out _).mono ?_; rintro e w2 ⟨rfl, hb⟩; replace y0 := Ext.cell hb y0; replace y1 := Ext.cell hb y1; replace y2 := Ext.cell hb y2; replace y3 := Ext.cell hb y3; replace t0 := Ext.cell hb t0; replace t1 := Ext.cell hb t1; replace t2 := Ext.cell hb t2; replace L0 := Ext.cell hb L0; replace L1 := Ext.cell hb L1; replace S0 := Ext.cell hb S0; replace hR := hb.blk hR; replace hE := hb.blk hE; replace E3 := E3.trans hb; clear hb; have r0 : w2.cell? ⟨w.heap.size + 1 + 1 + 1 + 1, 0, none⟩ = some (.int .i64 0) := World.news_of_block hR 0 _ rfl; have r1 : w2.cell? ⟨w.heap.size + 1 + 1 + 1 + 1, 1, none⟩ = some (.int .i64 0) := World.news_of_block hR 1 _ rfl; have r2 : w2.cell? ⟨w.heap.size + 1 + 1 + 1 + 1, 2, none⟩ = some (.slice none 0 0) := World.news_of_block hR 2 _ rfl; have e0 : w2.cell? ⟨w.heap.size + 1 + 1 + 1 + 1 + 1, 0, none⟩ = some (.int .i64 0) := World.news_of_block hE 0 _ rfl; have f0 := blk_frz hR 0; have f1 := blk_frz hR 1; have f2 := blk_frz hR 2; have fe := blk_frz hE 0; have hlR := fst_lt hR; have hlE := fst_lt hE; have hly := lt_of_cell y0; have hlt := lt_of_cell t0; have hlL := lt_of_cell L0; have hlS := lt_of_cell S0))
  go_wp2_with fail
  have hR2 := three_set (.int .i64 0) (.int .i64 0) (.slice none 0 0) hR
  have hE2 : (((w2.setCell ⟨w.heap.size + 1 + 1 + 1 + 1, 0, none⟩ (.int .i64 0)).setCell ⟨w.heap.size + 1 + 1 + 1 + 1, 1, none⟩ (.int .i64 0)).setCell ⟨w.heap.size + 1 + 1 + 1 + 1, 2, none⟩ (.slice none 0 0)).heap[w.heap.size + 1 + 1 + 1 + 1 + 1]? = some (.cells #[.int .i64 0] 32 (0, 0)) := (heap_ne (by omega)).trans ((heap_ne (by omega)).trans ((heap_ne (by omega)).trans hE))
  have hR3 : ((((w2.setCell ⟨w.heap.size + 1 + 1 + 1 + 1, 0, none⟩ (.int .i64 0)).setCell ⟨w.heap.size + 1 + 1 + 1 + 1, 1, none⟩ (.int .i64 0)).setCell ⟨w.heap.size + 1 + 1 + 1 + 1, 2, none⟩ (.slice none 0 0)).setCell ⟨w.heap.size + 1 + 1 + 1 + 1 + 1, 0, none⟩ (.int .i64 2)).heap[w.heap.size + 1 + 1 + 1 + 1]? = some (.cells #[.int .i64 0, .int .i64 0, .slice none 0 0] 29 (0, 0)) := (heap_ne (by omega)).trans hR2
  have hE3 := one_set (.int .i64 2) hE2
  have ER2 := (((E3.set (p := ⟨w.heap.size + 1 + 1 + 1 + 1, 0, none⟩) (le4 _) (.int .i64 0)).set (p := ⟨w.heap.size + 1 + 1 + 1 + 1, 1, none⟩) (le4 _) (.int .i64 0)).set (p := ⟨w.heap.size + 1 + 1 + 1 + 1, 2, none⟩) (le4 _) (.slice none 0 0)).set (p := ⟨w.heap.size + 1 + 1 + 1 + 1 + 1, 0, none⟩) (le5 _) (.int .i64 2)
  generalize ((((w2.setCell ⟨w.heap.size + 1 + 1 + 1 + 1, 0, none⟩ (.int .i64 0)).setCell ⟨w.heap.size + 1 + 1 + 1 + 1, 1, none⟩ (.int .i64 0)).setCell ⟨w.heap.size + 1 + 1 + 1 + 1, 2, none⟩ (.slice none 0 0)).setCell ⟨w.heap.size + 1 + 1 + 1 + 1 + 1, 0, none⟩ (.int .i64 2)) = WF at *
  have n0 : WF.cell? ⟨w.heap.size + 1 + 1 + 1 + 1, 0, none⟩ = some (.int .i64 0) := World.news_of_block hR3 0 _ rfl
  have n1 : WF.cell? ⟨w.heap.size + 1 + 1 + 1 + 1, 1, none⟩ = some (.int .i64 0) := World.news_of_block hR3 1 _ rfl
  have n2 : WF.cell? ⟨w.heap.size + 1 + 1 + 1 + 1, 2, none⟩ = some (.slice none 0 0) := World.news_of_block hR3 2 _ rfl
  have n3 : WF.cell? ⟨w.heap.size + 1 + 1 + 1 + 1 + 1, 0, none⟩ = some (.int .i64 2) := World.news_of_block hE3 0 _ rfl
  refine bodyPost_ret (v := poseEV (0, 0) (.slice none 0 0) 2) (by simp [results, Try.results26, go_sem, n0, n1, n2, n3, poseEV]) rfl ?_
  rw [← HPo.out]
  unfold BackR
  rw [HR.out]
  exact ⟨_, rfl, .inl ⟨none, 0, rfl, rfl⟩, ER2⟩
set_option maxRecDepth 100000 in
set_option maxHeartbeats 6400000 in
theorem Back_state (o1 o2 l1 l2 : Int) (w : World) (hs : Sl 11 RUnit w vu v.units) (hp : Pts w vp ps) (hst : Sl 1 RNum w vst st) (h : poseE v (o1, o2) ps = 0) (h2 : okPt (l1, l2) = true) (h3 : backB v.units = false) :
    Calls Try.prog 26 #[vehV v vu, poseV (o1, o2) vp, .agg #[.int .i64 l1, .int .i64 l2], vst] w (BackR v (o1, o2) ps (l1, l2) st w) := by
  have CC := fun w' (h : Ext w w') => CheckPose_c (lead := (o1, o2)) w' (hs.ext RUnit.stable h) (hp.ext h)
  rw [h] at CC
  have C1 := fun w => Check_c l1 l2 w
  rw [show checkS (l1, l2) = 0 by simp [checkS, h2]] at C1
  have CF := fun w' (h' : Ext w w') => backs_c vu v.units w' (hs.ext RUnit.stable h')
  rw [h3] at CF
  have HR := Lib.hid (backS_state (st := st) h h2 h3)
  obtain ⟨A, cap, rfl, hl, hl2⟩ := hs.shape
  obtain ⟨Ap, capp, rfl⟩ := pts_shape hp
  obtain ⟨As, caps, rfl, hls, hls2⟩ := hst.shape
  obtain ⟨Post, hPost⟩ : ∃ Post, BackR v (o1, o2) ps (l1, l2) st w = Post := ⟨_, rfl⟩
  rw [hPost]
  have HPo := Lib.hid hPost
  unfold vehV poseV at *
  simp only at CC ⊢
  replace CC := Lib.hid CC
  replace C1 := Lib.hid C1
  replace CF := Lib.hid CF
  clear hs hp hst h h3 hPost
  go_enter Try.func26, Try.ntmps26
  go_upto_region 7 with (first | (go_at_call 14; refine (CC.out _ (by (repeat' (first | exact Ext.refl _ | assumption | refine Ext.alloc ?_ _ | refine Ext.drew ?_ | refine Ext.drewN ?_ _ | refine Ext.set ?_ (by first | exact Nat.le_refl _ | exact le1 _ | exact le2 _ | exact le3 _ | exact le4 _ | exact le5 _ | exact le6 _) _ | refine Ext.trans ?_ (by assumption))))).mono ?_; rintro e w1 ⟨rfl, hb⟩; have y0 := Ext.cell hb (p := ⟨w.heap.size, 0, none⟩) (v := .string v.name) (by go_simp); have y1 := Ext.cell hb (p := ⟨w.heap.size, 1, none⟩) (v := .slice A v.units.length cap) (by go_simp); have y2 := Ext.cell hb (p := ⟨w.heap.size, 2, none⟩) (v := .int .i64 v.first) (by go_simp); have y3 := Ext.cell hb (p := ⟨w.heap.size, 3, none⟩) (v := .int .i64 v.last) (by go_simp); have t0 := Ext.cell hb (p := ⟨w.heap.size + 1, 0, none⟩) (v := .int .i64 o1) (by go_simp); have t1 := Ext.cell hb (p := ⟨w.heap.size + 1, 1, none⟩) (v := .int .i64 o2) (by go_simp); have t2 := Ext.cell hb (p := ⟨w.heap.size + 1, 2, none⟩) (v := .slice Ap ps.length capp) (by go_simp); have L0 := Ext.cell hb (p := ⟨w.heap.size + 1 + 1, 0, none⟩) (v := .int .i64 l1) (by go_simp); have L1 := Ext.cell hb (p := ⟨w.heap.size + 1 + 1, 1, none⟩) (v := .int .i64 l2) (by go_simp); have S0 := Ext.cell hb (p := ⟨w.heap.size + 1 + 1 + 1, 0, none⟩) (v := .slice As st.length caps) (by go_simp); have hR : w1.heap[w.heap.size + 1 + 1 + 1 + 1]? = some (.cells #[.int .i64 0, .int .i64 0, .slice none 0 0] 29 (0, 0)) := (hb.block _ (by simp)).trans (heap_old (new_at (by simp))); have hE : w1.heap[w.heap.size + 1 + 1 + 1 + 1 + 1]? = some (.cells #[.int .i64 0] 32 (0, 0)) := (hb.block _ (by simp)).trans (new_at (by simp)); have E3 : Ext w w1 := (((((((Ext.refl w).alloc _).alloc _).alloc _).alloc _).alloc _).alloc _).trans hb; clear hb) | (go_at_call 40; refine (C1.out _).mono ?_; rintro e w2 ⟨rfl, hb⟩; replace y0 := Ext.cell hb y0; replace y1 := Ext.cell hb y1; replace y2 := Ext.cell hb y2; replace y3 := Ext.cell hb y3; replace t0 := Ext.cell hb t0; replace t1 := Ext.cell hb t1; replace t2 := Ext.cell hb t2; replace L0 := Ext.cell hb L0; replace L1 := Ext.cell hb L1; replace S0 := Ext.cell hb S0; replace hR := hb.blk hR; replace hE := hb.blk hE; replace E3 := E3.trans hb; clear hb) | (go_at_call 62; refine (CF.out _ E3).mono ?_; rintro e w4 ⟨rfl, hb⟩; replace y0 := Ext.cell hb y0; replace y1 := Ext.cell hb y1; replace y2 := Ext.cell hb y2; replace y3 := Ext.cell hb y3; replace t0 := Ext.cell hb t0; replace t1 := Ext.cell hb t1; replace t2 := Ext.cell hb t2; replace L0 := Ext.cell hb L0; replace L1 := Ext.cell hb L1; replace S0 := Ext.cell hb S0; replace hR := hb.blk hR; replace hE := hb.blk hE; replace E3 := E3.trans hb; clear hb; have r0 : w4.cell? ⟨w.heap.size + 1 + 1 + 1 + 1, 0, none⟩ = some (.int .i64 0) := World.news_of_block hR 0 _ rfl; have r1 : w4.cell? ⟨w.heap.size + 1 + 1 + 1 + 1, 1, none⟩ = some (.int .i64 0) := World.news_of_block hR 1 _ rfl; have r2 : w4.cell? ⟨w.heap.size + 1 + 1 + 1 + 1, 2, none⟩ = some (.slice none 0 0) := World.news_of_block hR 2 _ rfl; have e0 : w4.cell? ⟨w.heap.size + 1 + 1 + 1 + 1 + 1, 0, none⟩ = some (.int .i64 0) := World.news_of_block hE 0 _ rfl; have f0 := blk_frz hR 0; have f1 := blk_frz hR 1; have f2 := blk_frz hR 2; have fe := blk_frz hE 0; have hlR := fst_lt hR; have hlE := fst_lt hE; have hly := lt_of_cell y0; have hlt := lt_of_cell t0; have hlL := lt_of_cell L0; have hlS := lt_of_cell S0))
  go_wp2_with fail
  have hR2 := three_set (.int .i64 0) (.int .i64 0) (.slice none 0 0) hR
  have hE2 : (((w4.setCell ⟨w.heap.size + 1 + 1 + 1 + 1, 0, none⟩ (.int .i64 0)).setCell ⟨w.heap.size + 1 + 1 + 1 + 1, 1, none⟩ (.int .i64 0)).setCell ⟨w.heap.size + 1 + 1 + 1 + 1, 2, none⟩ (.slice none 0 0)).heap[w.heap.size + 1 + 1 + 1 + 1 + 1]? = some (.cells #[.int .i64 0] 32 (0, 0)) := (heap_ne (by omega)).trans ((heap_ne (by omega)).trans ((heap_ne (by omega)).trans hE))
  have hR3 : ((((w4.setCell ⟨w.heap.size + 1 + 1 + 1 + 1, 0, none⟩ (.int .i64 0)).setCell ⟨w.heap.size + 1 + 1 + 1 + 1, 1, none⟩ (.int .i64 0)).setCell ⟨w.heap.size + 1 + 1 + 1 + 1, 2, none⟩ (.slice none 0 0)).setCell ⟨w.heap.size + 1 + 1 + 1 + 1 + 1, 0, none⟩ (.int .i64 10)).heap[w.heap.size + 1 + 1 + 1 + 1]? = some (.cells #[.int .i64 0, .int .i64 0, .slice none 0 0] 29 (0, 0)) := (heap_ne (by omega)).trans hR2
  have hE3 := one_set (.int .i64 10) hE2
  have ER2 := (((E3.set (p := ⟨w.heap.size + 1 + 1 + 1 + 1, 0, none⟩) (le4 _) (.int .i64 0)).set (p := ⟨w.heap.size + 1 + 1 + 1 + 1, 1, none⟩) (le4 _) (.int .i64 0)).set (p := ⟨w.heap.size + 1 + 1 + 1 + 1, 2, none⟩) (le4 _) (.slice none 0 0)).set (p := ⟨w.heap.size + 1 + 1 + 1 + 1 + 1, 0, none⟩) (le5 _) (.int .i64 10)
  generalize ((((w4.setCell ⟨w.heap.size + 1 + 1 + 1 + 1, 0, none⟩ (.int .i64 0)).setCell ⟨w.heap.size + 1 + 1 + 1 + 1, 1, none⟩ (.int .i64 0)).setCell ⟨w.heap.size + 1 + 1 + 1 + 1, 2, none⟩ (.slice none 0 0)).setCell ⟨w.heap.size + 1 + 1 + 1 + 1 + 1, 0, none⟩ (.int .i64 10)) = WF at *
  have n0 : WF.cell? ⟨w.heap.size + 1 + 1 + 1 + 1, 0, none⟩ = some (.int .i64 0) := World.news_of_block hR3 0 _ rfl
  have n1 : WF.cell? ⟨w.heap.size + 1 + 1 + 1 + 1, 1, none⟩ = some (.int .i64 0) := World.news_of_block hR3 1 _ rfl
  have n2 : WF.cell? ⟨w.heap.size + 1 + 1 + 1 + 1, 2, none⟩ = some (.slice none 0 0) := World.news_of_block hR3 2 _ rfl
  have n3 : WF.cell? ⟨w.heap.size + 1 + 1 + 1 + 1 + 1, 0, none⟩ = some (.int .i64 10) := World.news_of_block hE3 0 _ rfl
  refine bodyPost_ret (v := poseEV (0, 0) (.slice none 0 0) 10) (by simp [results, Try.results26, go_sem, n0, n1, n2, n3, poseEV]) rfl ?_
  rw [← HPo.out]
  unfold BackR
  rw [HR.out]
  exact ⟨_, rfl, .inl ⟨none, 0, rfl, rfl⟩, ER2⟩
set_option maxRecDepth 100000 in
set_option maxHeartbeats 6400000 in
theorem Back_steer (o1 o2 l1 l2 : Int) (w : World) (hs : Sl 11 RUnit w vu v.units) (hp : Pts w vp ps) (hst : Sl 1 RNum w vst st) (h : poseE v (o1, o2) ps = 0) (h2 : okPt (l1, l2) = true) (h3 : backB v.units = true) (h4 : ¬ steerE v st = 0) :
    Calls Try.prog 26 #[vehV v vu, poseV (o1, o2) vp, .agg #[.int .i64 l1, .int .i64 l2], vst] w (BackR v (o1, o2) ps (l1, l2) st w) := by
  have CC := fun w' (h : Ext w w') => CheckPose_c (lead := (o1, o2)) w' (hs.ext RUnit.stable h) (hp.ext h)
  rw [h] at CC
  have C1 := fun w => Check_c l1 l2 w
  rw [show checkS (l1, l2) = 0 by simp [checkS, h2]] at C1
  have CF := fun w' (h' : Ext w w') => backs_c vu v.units w' (hs.ext RUnit.stable h')
  rw [h3] at CF
  have C2 := fun w' (h' : Ext w w') => checkSteer_c vu vst v st w' (hs.ext RUnit.stable h') (hst.ext RNum.stable h') (puts_len h).2.1
  have HR := Lib.hid (backS_steer h h2 h3 h4)
  obtain ⟨A, cap, rfl, hl, hl2⟩ := hs.shape
  obtain ⟨Ap, capp, rfl⟩ := pts_shape hp
  obtain ⟨As, caps, rfl, hls, hls2⟩ := hst.shape
  obtain ⟨Post, hPost⟩ : ∃ Post, BackR v (o1, o2) ps (l1, l2) st w = Post := ⟨_, rfl⟩
  rw [hPost]
  have HPo := Lib.hid hPost
  unfold vehV poseV at *
  simp only at CC C2 ⊢
  have HN := h4
  generalize steerE v st = SE at *
  replace CC := Lib.hid CC
  replace C1 := Lib.hid C1
  replace CF := Lib.hid CF
  replace C2 := Lib.hid C2
  clear hs hp hst h h3 h4 hPost
  go_enter Try.func26, Try.ntmps26
  go_upto_region 10 with (first | (go_at_call 14; refine (CC.out _ (by (repeat' (first | exact Ext.refl _ | assumption | refine Ext.alloc ?_ _ | refine Ext.drew ?_ | refine Ext.drewN ?_ _ | refine Ext.set ?_ (by first | exact Nat.le_refl _ | exact le1 _ | exact le2 _ | exact le3 _ | exact le4 _ | exact le5 _ | exact le6 _) _ | refine Ext.trans ?_ (by assumption))))).mono ?_; rintro e w1 ⟨rfl, hb⟩; have y0 := Ext.cell hb (p := ⟨w.heap.size, 0, none⟩) (v := .string v.name) (by go_simp); have y1 := Ext.cell hb (p := ⟨w.heap.size, 1, none⟩) (v := .slice A v.units.length cap) (by go_simp); have y2 := Ext.cell hb (p := ⟨w.heap.size, 2, none⟩) (v := .int .i64 v.first) (by go_simp); have y3 := Ext.cell hb (p := ⟨w.heap.size, 3, none⟩) (v := .int .i64 v.last) (by go_simp); have t0 := Ext.cell hb (p := ⟨w.heap.size + 1, 0, none⟩) (v := .int .i64 o1) (by go_simp); have t1 := Ext.cell hb (p := ⟨w.heap.size + 1, 1, none⟩) (v := .int .i64 o2) (by go_simp); have t2 := Ext.cell hb (p := ⟨w.heap.size + 1, 2, none⟩) (v := .slice Ap ps.length capp) (by go_simp); have L0 := Ext.cell hb (p := ⟨w.heap.size + 1 + 1, 0, none⟩) (v := .int .i64 l1) (by go_simp); have L1 := Ext.cell hb (p := ⟨w.heap.size + 1 + 1, 1, none⟩) (v := .int .i64 l2) (by go_simp); have S0 := Ext.cell hb (p := ⟨w.heap.size + 1 + 1 + 1, 0, none⟩) (v := .slice As st.length caps) (by go_simp); have hR : w1.heap[w.heap.size + 1 + 1 + 1 + 1]? = some (.cells #[.int .i64 0, .int .i64 0, .slice none 0 0] 29 (0, 0)) := (hb.block _ (by simp)).trans (heap_old (new_at (by simp))); have hE : w1.heap[w.heap.size + 1 + 1 + 1 + 1 + 1]? = some (.cells #[.int .i64 0] 32 (0, 0)) := (hb.block _ (by simp)).trans (new_at (by simp)); have E3 : Ext w w1 := (((((((Ext.refl w).alloc _).alloc _).alloc _).alloc _).alloc _).alloc _).trans hb; clear hb) | (go_at_call 40; refine (C1.out _).mono ?_; rintro e w2 ⟨rfl, hb⟩; replace y0 := Ext.cell hb y0; replace y1 := Ext.cell hb y1; replace y2 := Ext.cell hb y2; replace y3 := Ext.cell hb y3; replace t0 := Ext.cell hb t0; replace t1 := Ext.cell hb t1; replace t2 := Ext.cell hb t2; replace L0 := Ext.cell hb L0; replace L1 := Ext.cell hb L1; replace S0 := Ext.cell hb S0; replace hR := hb.blk hR; replace hE := hb.blk hE; replace E3 := E3.trans hb; clear hb) | (go_at_call 62; refine (CF.out _ E3).mono ?_; rintro e w4 ⟨rfl, hb⟩; replace y0 := Ext.cell hb y0; replace y1 := Ext.cell hb y1; replace y2 := Ext.cell hb y2; replace y3 := Ext.cell hb y3; replace t0 := Ext.cell hb t0; replace t1 := Ext.cell hb t1; replace t2 := Ext.cell hb t2; replace L0 := Ext.cell hb L0; replace L1 := Ext.cell hb L1; replace S0 := Ext.cell hb S0; replace hR := hb.blk hR; replace hE := hb.blk hE; replace E3 := E3.trans hb; clear hb) | (go_at_call 55; refine (C2.out _ E3).mono ?_; rintro e w3 ⟨rfl, hb⟩; replace y0 := Ext.cell hb y0; replace y1 := Ext.cell hb y1; replace y2 := Ext.cell hb y2; replace y3 := Ext.cell hb y3; replace t0 := Ext.cell hb t0; replace t1 := Ext.cell hb t1; replace t2 := Ext.cell hb t2; replace L0 := Ext.cell hb L0; replace L1 := Ext.cell hb L1; replace S0 := Ext.cell hb S0; replace hR := hb.blk hR; replace hE := hb.blk hE; replace E3 := E3.trans hb; clear hb; have r0 : w3.cell? ⟨w.heap.size + 1 + 1 + 1 + 1, 0, none⟩ = some (.int .i64 0) := World.news_of_block hR 0 _ rfl; have r1 : w3.cell? ⟨w.heap.size + 1 + 1 + 1 + 1, 1, none⟩ = some (.int .i64 0) := World.news_of_block hR 1 _ rfl; have r2 : w3.cell? ⟨w.heap.size + 1 + 1 + 1 + 1, 2, none⟩ = some (.slice none 0 0) := World.news_of_block hR 2 _ rfl; have e0 : w3.cell? ⟨w.heap.size + 1 + 1 + 1 + 1 + 1, 0, none⟩ = some (.int .i64 0) := World.news_of_block hE 0 _ rfl; have f0 := blk_frz hR 0; have f1 := blk_frz hR 1; have f2 := blk_frz hR 2; have fe := blk_frz hE 0; have hlR := fst_lt hR; have hlE := fst_lt hE; have hly := lt_of_cell y0; have hlt := lt_of_cell t0; have hlL := lt_of_cell L0; have hlS := lt_of_cell S0))
  go_wp2_with fail
  have hR2 := three_set (.int .i64 0) (.int .i64 0) (.slice none 0 0) hR
  have hE2 : (((w3.setCell ⟨w.heap.size + 1 + 1 + 1 + 1, 0, none⟩ (.int .i64 0)).setCell ⟨w.heap.size + 1 + 1 + 1 + 1, 1, none⟩ (.int .i64 0)).setCell ⟨w.heap.size + 1 + 1 + 1 + 1, 2, none⟩ (.slice none 0 0)).heap[w.heap.size + 1 + 1 + 1 + 1 + 1]? = some (.cells #[.int .i64 0] 32 (0, 0)) := (heap_ne (by omega)).trans ((heap_ne (by omega)).trans ((heap_ne (by omega)).trans hE))
  have hR3 : ((((w3.setCell ⟨w.heap.size + 1 + 1 + 1 + 1, 0, none⟩ (.int .i64 0)).setCell ⟨w.heap.size + 1 + 1 + 1 + 1, 1, none⟩ (.int .i64 0)).setCell ⟨w.heap.size + 1 + 1 + 1 + 1, 2, none⟩ (.slice none 0 0)).setCell ⟨w.heap.size + 1 + 1 + 1 + 1 + 1, 0, none⟩ (.int .i64 SE)).heap[w.heap.size + 1 + 1 + 1 + 1]? = some (.cells #[.int .i64 0, .int .i64 0, .slice none 0 0] 29 (0, 0)) := (heap_ne (by omega)).trans hR2
  have hE3 := one_set (.int .i64 SE) hE2
  have ER2 := (((E3.set (p := ⟨w.heap.size + 1 + 1 + 1 + 1, 0, none⟩) (le4 _) (.int .i64 0)).set (p := ⟨w.heap.size + 1 + 1 + 1 + 1, 1, none⟩) (le4 _) (.int .i64 0)).set (p := ⟨w.heap.size + 1 + 1 + 1 + 1, 2, none⟩) (le4 _) (.slice none 0 0)).set (p := ⟨w.heap.size + 1 + 1 + 1 + 1 + 1, 0, none⟩) (le5 _) (.int .i64 SE)
  generalize ((((w3.setCell ⟨w.heap.size + 1 + 1 + 1 + 1, 0, none⟩ (.int .i64 0)).setCell ⟨w.heap.size + 1 + 1 + 1 + 1, 1, none⟩ (.int .i64 0)).setCell ⟨w.heap.size + 1 + 1 + 1 + 1, 2, none⟩ (.slice none 0 0)).setCell ⟨w.heap.size + 1 + 1 + 1 + 1 + 1, 0, none⟩ (.int .i64 SE)) = WF at *
  have n0 : WF.cell? ⟨w.heap.size + 1 + 1 + 1 + 1, 0, none⟩ = some (.int .i64 0) := World.news_of_block hR3 0 _ rfl
  have n1 : WF.cell? ⟨w.heap.size + 1 + 1 + 1 + 1, 1, none⟩ = some (.int .i64 0) := World.news_of_block hR3 1 _ rfl
  have n2 : WF.cell? ⟨w.heap.size + 1 + 1 + 1 + 1, 2, none⟩ = some (.slice none 0 0) := World.news_of_block hR3 2 _ rfl
  have n3 : WF.cell? ⟨w.heap.size + 1 + 1 + 1 + 1 + 1, 0, none⟩ = some (.int .i64 SE) := World.news_of_block hE3 0 _ rfl
  refine bodyPost_ret (v := poseEV (0, 0) (.slice none 0 0) SE) (by simp [results, Try.results26, go_sem, n0, n1, n2, n3, poseEV]) rfl ?_
  rw [← HPo.out]
  unfold BackR
  rw [HR.out]
  exact ⟨_, rfl, .inl ⟨none, 0, rfl, rfl⟩, ER2⟩
end
end Go.Proofs.Ytgikfliibimkdaa
/- Contract: Back, by the program, where it goes. -/
namespace Go.Proofs.Ytgikfliibimkdaa
open Go.RowKit Go.Shelf
attribute [local go_sem] Oper.semAt_some

section
variable {vu vp vst : Value} {v : CVeh} {ps : List Pt} {st : List Int}
set_option maxRecDepth 100000 in
set_option maxHeartbeats 6400000 in
theorem Back_go (o1 o2 l1 l2 : Int) (w : World) (hs : Sl 11 RUnit w vu v.units) (hp : Pts w vp ps) (hst : Sl 1 RNum w vst st) (h : poseE v (o1, o2) ps = 0) (h2 : okPt (l1, l2) = true) (h3 : backB v.units = true) (h4 : steerE v st = 0) :
    Calls Try.prog 26 #[vehV v vu, poseV (o1, o2) vp, .agg #[.int .i64 l1, .int .i64 l2], vst] w (BackR v (o1, o2) ps (l1, l2) st w) := by
  have CC := fun w' (h : Ext w w') => CheckPose_c (lead := (o1, o2)) w' (hs.ext RUnit.stable h) (hp.ext h)
  rw [h] at CC
  have C1 := fun w => Check_c l1 l2 w
  rw [show checkS (l1, l2) = 0 by simp [checkS, h2]] at C1
  have CF := fun w' (h' : Ext w w') => backs_c vu v.units w' (hs.ext RUnit.stable h')
  rw [h3] at CF
  have C2 := fun w' (h' : Ext w w') => checkSteer_c vu vst v st w' (hs.ext RUnit.stable h') (hst.ext RNum.stable h') (puts_len h).2.1
  rw [h4] at C2
  have CR := fun w' (he : Ext w w') lq vq pq (hq : Pts w' vq pq) => ready_c (v := v) (lead := lq) (vp := vq) (ps := pq) w' (hs.ext RUnit.stable he) hq
  obtain ⟨r, hr⟩ : ∃ r, backK v.units ps st v.units.length (l1, l2) [] = r := ⟨_, rfl⟩
  have HR := Lib.hid (backS_go h h2 h3 h4 hr)
  have HTL := Lib.hid hr
  have HB := Lib.hid h3
  have hpl := puts_len h
  have hsl := steer_len h4
  have HLEN := Lib.hid (And.intro hpl.2.2 hsl.1)
  have HV := Lib.hid (vehE_units hpl.2.1)
  have HLN := Lib.hid (vehE_len hpl.2.1)
  have HSB := Lib.hid hsl.2
  have HPT := Lib.hid hp
  have HST := Lib.hid hst
  obtain ⟨A, cap, rfl, hl, hl2⟩ := hs.shape
  obtain ⟨ex, hU⟩ := ucells hs
  have HU := Lib.hid hU
  obtain ⟨Ap, capp, rfl⟩ := pts_shape hp
  obtain ⟨As, caps, rfl, hls, hls2⟩ := hst.shape
  obtain ⟨Post, hPost⟩ : ∃ Post, BackR v (o1, o2) ps (l1, l2) st w = Post := ⟨_, rfl⟩
  rw [hPost]
  have HPo := Lib.hid hPost
  unfold vehV poseV at *
  simp only at CC C2 CR ⊢
  replace CC := Lib.hid CC
  replace C1 := Lib.hid C1
  replace CF := Lib.hid CF
  replace C2 := Lib.hid C2
  replace CR := Lib.hid CR
  have hn24 := HLN.out
  have hmk := make_pts v.units.length (by omega)
  obtain ⟨MC, hMC⟩ : ∃ MC, (flatP (List.replicate v.units.length (0, 0))).toArray = MC := ⟨_, rfl⟩
  rw [hMC] at hmk
  have HMC := Lib.hid hMC
  obtain ⟨u0, hu0⟩ := some_of_lt (show 0 < v.units.length by omega)
  obtain ⟨b, off, rfl, _, _⟩ := HU.out.at' 0 u0 hu0
  have HBB := Lib.hid (show b < w.heap.size from by
    obtain ⟨b', off', e', _, hc'⟩ := HU.out.at' 0 u0 hu0
    simp only [Option.some.injEq, Addr.mk.injEq, and_true] at e'
    obtain ⟨rfl, rfl⟩ := e'
    exact lt_of_cell (hc' 0 _ rfl))
  clear hs hp hst h h3 h4 hPost hr hpl hsl hU hMC hu0
  refine (callsIn_wide (n := 5)).1 ?_
  refine callsIn_of_wp_marks Try.func26 rfl trivial ?_ rfl
  refine wpIn_wide.2 ?_
  simp only [Try.ntmps26, List.size_toArray, List.length_cons, List.length_nil, Nat.reduceAdd, Nat.reduceSub, Array.replicate_succ, Array.replicate_zero, List.push_toArray, List.append_toArray, List.nil_append, List.cons_append]
  go_upto_region 11 with (first | (go_at_call 14; refine (CC.out _ (by (repeat' (first | exact Ext.refl _ | assumption | refine Ext.alloc ?_ _ | refine Ext.drew ?_ | refine Ext.drewN ?_ _ | refine Ext.set ?_ (by first | exact Nat.le_refl _ | exact le1 _ | exact le2 _ | exact le3 _ | exact le4 _ | exact le5 _ | exact le6 _) _ | refine Ext.trans ?_ (by assumption))))).mono ?_; rintro e w1 ⟨rfl, hb⟩; have y0 := Ext.cell hb (p := ⟨w.heap.size, 0, none⟩) (v := .string v.name) (by go_simp); have y1 := Ext.cell hb (p := ⟨w.heap.size, 1, none⟩) (v := .slice (some ⟨b, off, none⟩) v.units.length cap) (by go_simp); have y2 := Ext.cell hb (p := ⟨w.heap.size, 2, none⟩) (v := .int .i64 v.first) (by go_simp); have y3 := Ext.cell hb (p := ⟨w.heap.size, 3, none⟩) (v := .int .i64 v.last) (by go_simp); have t0 := Ext.cell hb (p := ⟨w.heap.size + 1, 0, none⟩) (v := .int .i64 o1) (by go_simp); have t1 := Ext.cell hb (p := ⟨w.heap.size + 1, 1, none⟩) (v := .int .i64 o2) (by go_simp); have t2 := Ext.cell hb (p := ⟨w.heap.size + 1, 2, none⟩) (v := .slice Ap ps.length capp) (by go_simp); have L0 := Ext.cell hb (p := ⟨w.heap.size + 1 + 1, 0, none⟩) (v := .int .i64 l1) (by go_simp); have L1 := Ext.cell hb (p := ⟨w.heap.size + 1 + 1, 1, none⟩) (v := .int .i64 l2) (by go_simp); have S0 := Ext.cell hb (p := ⟨w.heap.size + 1 + 1 + 1, 0, none⟩) (v := .slice As st.length caps) (by go_simp); have hR : w1.heap[w.heap.size + 1 + 1 + 1 + 1]? = some (.cells #[.int .i64 0, .int .i64 0, .slice none 0 0] 29 (0, 0)) := (hb.block _ (by simp)).trans (heap_old (new_at (by simp))); have hE : w1.heap[w.heap.size + 1 + 1 + 1 + 1 + 1]? = some (.cells #[.int .i64 0] 32 (0, 0)) := (hb.block _ (by simp)).trans (new_at (by simp)); have E3 : Ext w w1 := (((((((Ext.refl w).alloc _).alloc _).alloc _).alloc _).alloc _).alloc _).trans hb; clear hb) | (go_at_call 40; refine (C1.out _).mono ?_; rintro e w2 ⟨rfl, hb⟩; replace y0 := Ext.cell hb y0; replace y1 := Ext.cell hb y1; replace y2 := Ext.cell hb y2; replace y3 := Ext.cell hb y3; replace t0 := Ext.cell hb t0; replace t1 := Ext.cell hb t1; replace t2 := Ext.cell hb t2; replace L0 := Ext.cell hb L0; replace L1 := Ext.cell hb L1; replace S0 := Ext.cell hb S0; replace hR := hb.blk hR; replace hE := hb.blk hE; replace E3 := E3.trans hb; clear hb) | (go_at_call 62; refine (CF.out _ E3).mono ?_; rintro e w4 ⟨rfl, hb⟩; replace y0 := Ext.cell hb y0; replace y1 := Ext.cell hb y1; replace y2 := Ext.cell hb y2; replace y3 := Ext.cell hb y3; replace t0 := Ext.cell hb t0; replace t1 := Ext.cell hb t1; replace t2 := Ext.cell hb t2; replace L0 := Ext.cell hb L0; replace L1 := Ext.cell hb L1; replace S0 := Ext.cell hb S0; replace hR := hb.blk hR; replace hE := hb.blk hE; replace E3 := E3.trans hb; clear hb) | (go_at_call 55; refine (C2.out _ E3).mono ?_; rintro e w3 ⟨rfl, hb⟩; replace y0 := Ext.cell hb y0; replace y1 := Ext.cell hb y1; replace y2 := Ext.cell hb y2; replace y3 := Ext.cell hb y3; replace t0 := Ext.cell hb t0; replace t1 := Ext.cell hb t1; replace t2 := Ext.cell hb t2; replace L0 := Ext.cell hb L0; replace L1 := Ext.cell hb L1; replace S0 := Ext.cell hb S0; replace hR := hb.blk hR; replace hE := hb.blk hE; replace E3 := E3.trans hb; clear hb; have r0 : w3.cell? ⟨w.heap.size + 1 + 1 + 1 + 1, 0, none⟩ = some (.int .i64 0) := World.news_of_block hR 0 _ rfl; have r1 : w3.cell? ⟨w.heap.size + 1 + 1 + 1 + 1, 1, none⟩ = some (.int .i64 0) := World.news_of_block hR 1 _ rfl; have r2 : w3.cell? ⟨w.heap.size + 1 + 1 + 1 + 1, 2, none⟩ = some (.slice none 0 0) := World.news_of_block hR 2 _ rfl; have e0 : w3.cell? ⟨w.heap.size + 1 + 1 + 1 + 1 + 1, 0, none⟩ = some (.int .i64 0) := World.news_of_block hE 0 _ rfl; have f0 := blk_frz hR 0; have f1 := blk_frz hR 1; have f2 := blk_frz hR 2; have fe := blk_frz hE 0; have hlR := fst_lt hR; have hlE := fst_lt hE; have hly := lt_of_cell y0; have hlt := lt_of_cell t0; have hlL := lt_of_cell L0; have hlS := lt_of_cell S0))
  go_upto_region 13 with fail
  have h34 : Ext w3 (((w3.alloc (.cells MC 26)).alloc (.cells #[.int .i64 0, .int .i64 0, .slice (some ⟨w3.heap.size, 0, none⟩) v.units.length v.units.length] 29)).alloc (.cells #[.int .i64 l1, .int .i64 l2] 26)) := (((Ext.refl w3).alloc _).alloc _).alloc _
  have hM4 : BlkP (((w3.alloc (.cells MC 26)).alloc (.cells #[.int .i64 0, .int .i64 0, .slice (some ⟨w3.heap.size, 0, none⟩) v.units.length v.units.length] 29)).alloc (.cells #[.int .i64 l1, .int .i64 l2] 26)) w3.heap.size (List.replicate v.units.length (0, 0)) := by unfold BlkP; rw [HMC.out]; exact heap_old (heap_old (new_at rfl))
  have hP4 : (((w3.alloc (.cells MC 26)).alloc (.cells #[.int .i64 0, .int .i64 0, .slice (some ⟨w3.heap.size, 0, none⟩) v.units.length v.units.length] 29)).alloc (.cells #[.int .i64 l1, .int .i64 l2] 26)).heap[w3.heap.size + 1]? = some (.cells #[.int .i64 0, .int .i64 0, .slice (some ⟨w3.heap.size, 0, none⟩) v.units.length v.units.length] 29 (0, 0)) := heap_old (new_at (by simp))
  have hJ4 : (((w3.alloc (.cells MC 26)).alloc (.cells #[.int .i64 0, .int .i64 0, .slice (some ⟨w3.heap.size, 0, none⟩) v.units.length v.units.length] 29)).alloc (.cells #[.int .i64 l1, .int .i64 l2] 26)).heap[w3.heap.size + 1 + 1]? = some (.cells #[.int .i64 l1, .int .i64 l2] 26 (0, 0)) := new_at (by simp)
  have hz4 : (((w3.alloc (.cells MC 26)).alloc (.cells #[.int .i64 0, .int .i64 0, .slice (some ⟨w3.heap.size, 0, none⟩) v.units.length v.units.length] 29)).alloc (.cells #[.int .i64 l1, .int .i64 l2] 26)).heap.size = w3.heap.size + 1 + 1 + 1 := by simp
  generalize (((w3.alloc (.cells MC 26)).alloc (.cells #[.int .i64 0, .int .i64 0, .slice (some ⟨w3.heap.size, 0, none⟩) v.units.length v.units.length] 29)).alloc (.cells #[.int .i64 l1, .int .i64 l2] 26)) = W4 at *
  have HZ4 := Lib.hid hz4
  clear hz4
  have y1q := Ext.cell h34 y1
  clear r0 r1 r2 e0 f0 f1 f2 fe hly hlt hlL hlS hlR hlE
  have CB := Lib.hid (fun w => Backward_c (some ⟨b, off, none⟩) v.units.length cap w)
  go_wp2_with (go_at_call 64; refine (CB.out _).mono ?_; rintro e w6 ⟨rfl, rfl⟩)
  obtain ⟨W5, hW5⟩ : ∃ W5, W4.alloc (.cells #[.slice (some ⟨b, off, none⟩) v.units.length cap] 22) = W5 := ⟨_, rfl⟩
  have h45 : Ext W4 W5 := by rw [← hW5]; exact (Ext.refl W4).alloc _
  have hB5 : W5.heap[W4.heap.size]? = some (.cells #[.slice (some ⟨b, off, none⟩) v.units.length cap] 22 (0, 0)) := by rw [← hW5]; exact new_at rfl
  have hz5 : W5.heap.size = W4.heap.size + 1 := by rw [← hW5]; simp
  rw [hW5]
  have h35 := h34.trans h45
  have hM5 := hM4.ext h45
  have hP5 := h45.blk hP4
  have hJ5 := h45.blk hJ4
  have hBc : W5.cell? ⟨W4.heap.size, 0, none⟩ = some (.slice (some ⟨b, off, none⟩) v.units.length cap) := news_at hB5 0 _ rfl
  clear hW5 hM4 hP4 hJ4 h34 h45 y1q
  have E5 := E3.trans h35
  have hzz := E3.sz
  have hz4 := HZ4.out
  have hbb := HBB.out
  refine (wpIn_wide (n := 5)).1 ?_
  refine tmps_gen ?_
  intro T0 hT0
  refine wpIn_rangeFunc_ownH (n := 5) (F := Fence.wide) rfl (by omega) (gf := 92) (lb := #[.pointer (some ⟨W4.heap.size, 0, none⟩)]) (by subst hT0; rfl) trivial (enters_of Try.func92 (by kernel_rfl) rfl)
      (Bw_stops Fence.wide 4 trivial rfl (by omega) W4.heap.size w3.heap.size b off cap v.units ex (by omega) (by omega) W5 hBc (fun i u hu j c hj => by
        obtain ⟨b', off', e', _, hc'⟩ := HU.out.at' i u hu
        simp only [Option.some.injEq, Addr.mk.injEq, and_true] at e'
        obtain ⟨rfl, rfl⟩ := e'
        exact Ext.cell E5 (hc' j c hj))) KpW.trans (KpW.put (by omega) (by omega)) (Below.refl _ _) (fun _ => rfl)
      (fun pre W => (∃ jt l, bst v.units ps st (l1, l2) pre = .inl (jt, l) ∧ l.length = v.units.length ∧ BlkP W w3.heap.size l ∧ W.heap[w3.heap.size + 1 + 1]? = some (.cells #[.int .i64 jt.1, .int .i64 jt.2] 26 (0, 0))) ∧ W.heap[w3.heap.size + 1]? = some (.cells #[.int .i64 0, .int .i64 0, .slice (some ⟨w3.heap.size, 0, none⟩) v.units.length v.units.length] 29 (0, 0)) ∧ Ext w3 W ∧ W5.heap.size ≤ W.heap.size)
      (fun c pre W => c = .ret ∧ ∃ e, bst v.units ps st (l1, l2) pre = .inr e ∧ W.heap[w.heap.size + 1 + 1 + 1 + 1]? = some (.cells #[.int .i64 0, .int .i64 0, .slice none 0 0] 29 (0, 0)) ∧ W.heap[w.heap.size + 1 + 1 + 1 + 1 + 1]? = some (.cells #[.int .i64 e] 32 (0, 0)) ∧ Ext w W)
      (fun s X Y row hs hg hr => ?ownI) (fun c s X Y row hs hg hr => ?ownX) ⟨⟨(l1, l2), _, rfl, by simp, hM5, hJ5⟩, hP5, h35, Nat.le_refl _⟩
      (fun x a' W => ∃ B, W5.heap.size ≤ B ∧ W.heap[B]? = some (.cells #[.int .i64 (v.units.get x).kind, .int .i64 (v.units.get x).length, .int .i64 (v.units.get x).behind, .int .i64 (v.units.get x).front, .int .i64 (v.units.get x).rear, .int .i64 (v.units.get x).width, .int .i64 (v.units.get x).height, .int .i64 (v.units.get x).mass, .int .i64 (v.units.get x).steer, .int .i64 (v.units.get x).most, .slice (ex x.1).1 (v.units.get x).axles.length (ex x.1).2] 68 (0, 0)) ∧ a' = { tmps := (((T0.setIfInBounds 49 (.int .i64 (x.1 : Int))).setIfInBounds 50 (unitVal (ex x.1) (v.units.get x))).setIfInBounds 14 (.int .i64 (x.1 : Int))).setIfInBounds 15 (.pointer (some ⟨B, 0, none⟩)), defers := [] })
      (fun x a' _ X Y row hs hg hr => ?ownA) ?assign ?body ?done ?stop
  case ownI =>
    obtain ⟨⟨jt, l, h1, h2, h3, h4⟩, h5, h6, h7⟩ := hs
    have hrr := fun r e => (hr r e).2
    exact ⟨⟨jt, l, h1, h2, kept_blk h3 hg hrr, kept_blk h4 hg hrr⟩, kept_blk h5 hg hrr, h6.trans' hg (fun k e => by have h8 := (hr k e).1; omega), Nat.le_trans h7 hg.size⟩
  case ownX =>
    obtain ⟨h1, e, h2, h3, h4, h5⟩ := hs
    have hrr := fun r e => (hr r e).2
    exact ⟨h1, e, h2, kept_blk h3 hg hrr, kept_blk h4 hg hrr, h5.trans' hg (fun k e => by have h8 := (hr k e).1; omega)⟩
  case ownA =>
    obtain ⟨B, h1, h2, h3⟩ := hs
    exact ⟨B, h1, kept_blk h2 hg (fun r e => (hr r e).2), h3⟩
  case assign =>
    rintro l pre x W K ⟨⟨jt, l0, h1, h2, h3, h4⟩, h5, h6, h7⟩ hK
    have HK := Lib.hid hK
    have hsW := h6.sz
    clear hK
    unfold bwE unitVal
    subst hT0
    gi_wp2
    exact HK.out _ _ (((Ext.refl W).alloc _).from _) (KpW.ext ((Ext.refl W).alloc _) (by omega) (by omega)) ⟨⟨jt, l0, h1, h2, h3.ext ((Ext.refl W).alloc _), ((Ext.refl W).alloc _).blk h4⟩, ((Ext.refl W).alloc _).blk h5, h6.alloc _, Nat.le_trans h7 (by simp)⟩ ⟨W.heap.size, h7, new_at rfl, by unfold unitVal; simp⟩
  case body =>
    rintro l pre x a' W hl ⟨rc, hrc⟩ ⟨⟨jt, row, h1, hrl, h3, h4⟩, h5, h6, h7⟩ ⟨B, hB, hU15, rfl⟩ hlt
    obtain ⟨k, hku⟩ := x
    obtain ⟨u, hu⟩ := some_of_lt hku
    have hget : v.units.get ⟨k, hku⟩ = u := by
      obtain ⟨g1, g2⟩ := List.getElem?_eq_some_iff.1 hu
      exact g2
    dsimp only at hU15
    rw [hget] at hU15
    obtain ⟨⟨a1, a2⟩, ha⟩ := some_of_lt (show k < ps.length by have := HLEN.out; omega)
    obtain ⟨s, hsx⟩ := some_of_lt (show k < st.length by have := HLEN.out; omega)
    obtain ⟨⟨z1, z2⟩, hz⟩ := some_of_lt (show k < row.length by omega)
    obtain ⟨pb, poff, rfl, p0, p1⟩ := pts_at HPT.out ha
    obtain ⟨sb, soff, css, rfl, _, ⟨rfl, _, _⟩, hcs⟩ := HST.out.at hsx
    have hvu := HV.out u (mem_of_some hu)
    have hmost := unit_most hvu
    have hbds := unitB_bds hvu
    have hsr := steerB_at HSB.out hu hsx
    obtain ⟨j1, j2⟩ := jt
    obtain ⟨p, hp⟩ : ∃ p, pullTS (j1, j2) (a1, a2) u.behind s = p := ⟨_, rfl⟩
    obtain ⟨j, hj⟩ : ∃ j, placeS p.1 (j1, j2) (-u.length) 0 = j := ⟨_, rfl⟩
    have hnx : bst v.units ps st (l1, l2) (pre ++ [⟨k, hku⟩]) = (if p.2 = 0 then (if j.2 = 0 then .inl (j.1, row.set k p.1) else .inr j.2) else .inr p.2) := by rw [bst_snoc, h1]; exact bst1_eq (jt := (j1, j2)) (l := row) hget ha hsx hp hj
    have CPl := fun w' => pullT_c j1 j2 a1 a2 u.behind s w' (by omega) (by omega)
    rw [hp] at CPl
    have CJ := fun w' => Place_c p.1.1 p.1.2 j1 j2 (-u.length) 0 w'
    have hj2 : placeS (p.1.1, p.1.2) (j1, j2) (-u.length) 0 = j := hj
    rw [hj2] at CJ
    have ewl := IntWalk.i64_in (-u.length) (by omega)
    have EW := E3.trans h6
    have hsW := h6.sz
    replace p0 := Ext.cell EW p0
    replace p1 := Ext.cell EW p1
    have s0 := Ext.cell EW (hcs 0 _ rfl)
    simp only [Nat.add_zero, Nat.mul_one] at s0
    have t2r := Ext.cell h6 t2
    have S0r := Ext.cell h6 S0
    have j0 : W.cell? ⟨w3.heap.size + 1 + 1, 0, none⟩ = some (.int .i64 j1) := news_at h4 0 _ rfl
    have j00 : W.cell? ⟨w3.heap.size + 1 + 1, 1, none⟩ = some (.int .i64 j2) := news_at h4 1 _ rfl
    have d2 : W.cell? ⟨B, 2, none⟩ = some (.int .i64 u.behind) := news_at hU15 2 _ rfl
    have hlB := fst_lt hU15
    have HCP := Lib.hid CPl
    have HCJ := Lib.hid CJ
    have HNX := Lib.hid hnx
    have HRL := Lib.hid hrl
    have HZ := Lib.hid hz
    have H3 := Lib.hid h3
    have H4 := Lib.hid h4
    have H5 := Lib.hid h5
    have H15 := Lib.hid hU15
    have i0 : (0 : Int) ≤ (k : Int) := by omega
    have i2 : (k : Int) < (v.units.length : Int) := by omega
    have i3 : (k : Int) < (ps.length : Int) := by have := HLEN.out; omega
    have i4 : (k : Int) < (st.length : Int) := by have := HLEN.out; omega
    have hlj := lt_of_cell j0
    have hlt2 := lt_of_cell t2r
    have hlS := lt_of_cell S0r
    have hlp := lt_of_cell p0
    have hls := lt_of_cell s0
    have hzB : w3.heap.size + 1 + 1 < B := by omega
    have HZB := Lib.hid hz5
    have HZC := Lib.hid hz4
    clear hz5 hz4
    clear CPl CJ hnx hrl hz h1 h3 h4 h5 hU15 hvu hmost hbds hsr hp hj hj2 hget hu ha hsx hcs hlt hrc
    subst hT0
    simp only [List.setIfInBounds_toArray, List.set_cons_zero, List.set_cons_succ]
    gi_upto_region 16 with fail
    refine round_held (S := (fun w' => w'.cell? ⟨w3.heap.size + 1 + 1, 0, none⟩ = some (.int .i64 j1) ∧ w'.cell? ⟨w3.heap.size + 1 + 1, 1, none⟩ = some (.int .i64 j2) ∧ w'.cell? ⟨w.heap.size + 1, 2, none⟩ = some (.slice (some ⟨pb, poff, none⟩) ps.length capp) ∧ w'.cell? ⟨pb, poff + k * 2, none⟩ = some (.int .i64 a1) ∧ w'.cell? ⟨pb, poff + k * 2 + 1, none⟩ = some (.int .i64 a2) ∧ w'.cell? ⟨B, 2, none⟩ = some (.int .i64 u.behind) ∧ w'.cell? ⟨w.heap.size + 1 + 1 + 1, 0, none⟩ = some (.slice (some ⟨sb, soff, none⟩) st.length caps) ∧ w'.cell? ⟨sb, soff + k, none⟩ = some (.int .i64 s))) (by kernel_rfl) (by kernel_rfl) (fun ⟨_, _, h⟩ => h) ⟨j0, j00, t2r, p0, p1, d2, S0r, s0⟩ (fun hHeld => ?_)
    refine take_at (i := 0) (v := ?_) rfl (by kernel_rfl) (by kernel_rfl) (by kernel_rfl) (fun _ _ _ h => h) (Or.inl ⟨by rfl, ?_⟩) (by assumption) ?_
    rotate_left
    · (intro w hSw; (try dsimp only at hSw); go_simp; (first | done | with_reducible rfl))
    simp only [Act.put, List.setIfInBounds_toArray, List.set_cons_zero, List.set_cons_succ]
    refine take_at (i := 1) (v := ?_) rfl (by kernel_rfl) (by kernel_rfl) (by kernel_rfl) (fun _ _ _ h => h) (Or.inl ⟨by rfl, ?_⟩) (by assumption) ?_
    rotate_left
    · (intro w hSw; (try dsimp only at hSw); go_simp; (first | done | with_reducible rfl))
    simp only [Act.put, List.setIfInBounds_toArray, List.set_cons_zero, List.set_cons_succ]
    refine take_at (i := 2) (v := ?_) rfl (by kernel_rfl) (by kernel_rfl) (by kernel_rfl) (fun _ _ _ h => h) (Or.inl ⟨by rfl, ?_⟩) (by assumption) ?_
    rotate_left
    · (intro w hSw; (try dsimp only at hSw); go_simp; (first | done | with_reducible rfl))
    simp only [Act.put, List.setIfInBounds_toArray, List.set_cons_zero, List.set_cons_succ]
    refine take_at (i := 3) (v := ?_) rfl (by kernel_rfl) (by kernel_rfl) (by kernel_rfl) (fun _ _ _ h => h) (Or.inl ⟨by rfl, ?_⟩) (by assumption) ?_
    rotate_left
    · (intro w hSw; (try dsimp only at hSw); go_simp; (first | done | with_reducible rfl))
    simp only [Act.put, List.setIfInBounds_toArray, List.set_cons_zero, List.set_cons_succ]
    refine take_at (i := 4) (v := ?_) rfl (by kernel_rfl) (by kernel_rfl) (by kernel_rfl) (fun _ _ _ h => h) (Or.inl ⟨by rfl, ?_⟩) (by assumption) ?_
    rotate_left
    · (intro w hSw; (try dsimp only at hSw); go_simp; (first | done | with_reducible rfl))
    simp only [Act.put, List.setIfInBounds_toArray, List.set_cons_zero, List.set_cons_succ]
    refine take_at (i := 5) (v := ?_) rfl (by kernel_rfl) (by kernel_rfl) (by kernel_rfl) (fun _ _ _ h => h) (Or.inl ⟨by rfl, ?_⟩) (by assumption) ?_
    rotate_left
    · (intro w hSw; (try dsimp only at hSw); go_simp; (first | done | with_reducible rfl))
    simp only [Act.put, List.setIfInBounds_toArray, List.set_cons_zero, List.set_cons_succ]
    refine take_at (i := 6) (v := ?_) rfl (by kernel_rfl) (by kernel_rfl) (by kernel_rfl) (fun _ _ _ h => h) (Or.inl ⟨by rfl, ?_⟩) (by assumption) ?_
    rotate_left
    · (intro w hSw; (try dsimp only at hSw); go_simp; (first | done | with_reducible rfl))
    simp only [Act.put, List.setIfInBounds_toArray, List.set_cons_zero, List.set_cons_succ]
    refine take_at (i := 7) (v := ?_) rfl (by kernel_rfl) (by kernel_rfl) (by kernel_rfl) (fun _ _ _ h => h) (Or.inl ⟨by rfl, ?_⟩) (by assumption) ?_
    rotate_left
    · (intro w hSw; (try dsimp only at hSw); go_simp; (first | done | with_reducible rfl))
    simp only [Act.put, List.setIfInBounds_toArray, List.set_cons_zero, List.set_cons_succ]
    refine take_at (i := 8) (v := ?_) rfl (by kernel_rfl) (by kernel_rfl) (by kernel_rfl) (fun _ _ _ h => h) (Or.inl ⟨by rfl, ?_⟩) (by assumption) ?_
    rotate_left
    · (intro w hSw; (try dsimp only at hSw); go_simp; (first | done | with_reducible rfl))
    simp only [Act.put, List.setIfInBounds_toArray, List.set_cons_zero, List.set_cons_succ]
    refine take_at (i := 9) (v := ?_) rfl (by kernel_rfl) (by kernel_rfl) (by kernel_rfl) (fun _ _ _ h => h) (Or.inl ⟨by rfl, ?_⟩) (by assumption) ?_
    rotate_left
    · (intro w hSw; (try dsimp only at hSw); go_simp; (first | done | with_reducible rfl))
    simp only [Act.put, List.setIfInBounds_toArray, List.set_cons_zero, List.set_cons_succ]
    refine take_at (i := 10) (v := ?_) rfl (by kernel_rfl) (by kernel_rfl) (by kernel_rfl) (fun _ _ _ h => h) (Or.inl ⟨by rfl, ?_⟩) (by assumption) ?_
    rotate_left
    · (intro w hSw; (try dsimp only at hSw); go_simp; (first | done | with_reducible rfl))
    simp only [Act.put, List.setIfInBounds_toArray, List.set_cons_zero, List.set_cons_succ]
    refine take_at (i := 11) (v := ?_) rfl (by kernel_rfl) (by kernel_rfl) (by kernel_rfl) (fun _ _ _ h => h) (Or.inl ⟨by rfl, ?_⟩) (by assumption) ?_
    rotate_left
    · (intro w hSw; (try dsimp only at hSw); go_simp; (first | done | with_reducible rfl))
    simp only [Act.put, List.setIfInBounds_toArray, List.set_cons_zero, List.set_cons_succ]
    refine held_two (i := 12) (i2 := 16) rfl rfl (by kernel_rfl) (fun K hK => ?_) (fun K hK => ?_)
    · go_simp
      (go_at_call 56; refine (HCP.out _).mono ?_; rintro e wZ ⟨rfl, hbZ⟩; unfold ptV; go_wp2_with fail)
      have EZ : Ext W wZ := (Ext.refl W).drew.trans hbZ
      refine hK.out _ _ ⟨Ext.cell EZ j0, Ext.cell EZ j00, Ext.cell EZ t2r, Ext.cell EZ p0, Ext.cell EZ p1, Ext.cell EZ d2, Ext.cell EZ S0r, Ext.cell EZ s0⟩ (fun hHeld3 => ?_)
      refine take_at (i := 13) (v := ?_) rfl (by kernel_rfl) (by kernel_rfl) (by kernel_rfl) (fun _ _ _ h => h) (Or.inl ⟨by rfl, ?_⟩) (by assumption) ?_
      rotate_left
      · (intro w hSw; (try dsimp only at hSw); go_simp; (first | done | with_reducible rfl))
      simp only [Act.put, List.setIfInBounds_toArray, List.set_cons_zero, List.set_cons_succ]
      refine take_at (i := 14) (v := ?_) rfl (by kernel_rfl) (by kernel_rfl) (by kernel_rfl) (fun _ _ _ h => h) (Or.inl ⟨by rfl, ?_⟩) (by assumption) ?_
      rotate_left
      · (intro w hSw; (try dsimp only at hSw); go_simp; (first | done | with_reducible rfl))
      simp only [Act.put, List.setIfInBounds_toArray, List.set_cons_zero, List.set_cons_succ]
      refine take_at (i := 15) (v := ?_) rfl (by kernel_rfl) (by kernel_rfl) (by kernel_rfl) (fun _ _ _ h => h) (Or.inl ⟨by rfl, ?_⟩) (by assumption) ?_
      rotate_left
      · (intro w hSw; (try dsimp only at hSw); go_simp; (first | done | with_reducible rfl))
      simp only [Act.put, List.setIfInBounds_toArray, List.set_cons_zero, List.set_cons_succ]
      refine held_one (i := 16) rfl (by kernel_rfl) (fun K hK => ?_)
      go_simp
      refine hK.out _ _ ⟨Ext.cell ((Ext.refl _).alloc _) (Ext.cell EZ j0), Ext.cell ((Ext.refl _).alloc _) (Ext.cell EZ j00), Ext.cell ((Ext.refl _).alloc _) (Ext.cell EZ t2r), Ext.cell ((Ext.refl _).alloc _) (Ext.cell EZ p0), Ext.cell ((Ext.refl _).alloc _) (Ext.cell EZ p1), Ext.cell ((Ext.refl _).alloc _) (Ext.cell EZ d2), Ext.cell ((Ext.refl _).alloc _) (Ext.cell EZ S0r), Ext.cell ((Ext.refl _).alloc _) (Ext.cell EZ s0)⟩ (fun hHeld4 => ?_)
      refine held_one (i := 17) rfl (by kernel_rfl) (fun K hK => ?_)
      go_simp
      refine hK.out _ _ ⟨Ext.cell ((Ext.refl _).alloc _) (Ext.cell EZ j0), Ext.cell ((Ext.refl _).alloc _) (Ext.cell EZ j00), Ext.cell ((Ext.refl _).alloc _) (Ext.cell EZ t2r), Ext.cell ((Ext.refl _).alloc _) (Ext.cell EZ p0), Ext.cell ((Ext.refl _).alloc _) (Ext.cell EZ p1), Ext.cell ((Ext.refl _).alloc _) (Ext.cell EZ d2), Ext.cell ((Ext.refl _).alloc _) (Ext.cell EZ S0r), Ext.cell ((Ext.refl _).alloc _) (Ext.cell EZ s0)⟩ (fun hHeld5 => ?_)
      refine take_at (i := 18) (v := ?_) rfl (by kernel_rfl) (by kernel_rfl) (by kernel_rfl) (fun _ _ _ h => h) (Or.inl ⟨by rfl, ?_⟩) (by assumption) ?_
      rotate_left
      · (intro w hSw; (try dsimp only at hSw); go_simp; (first | done | with_reducible rfl))
      simp only [Act.put, List.setIfInBounds_toArray, List.set_cons_zero, List.set_cons_succ]
      refine wpAnyH_done (by kernel_rfl) ?_ _
      have E8 : Ext W (wZ.alloc (.cells #[.int .i64 p.1.1, .int .i64 p.1.2] 26)) := EZ.alloc _
      have hT8 : (wZ.alloc (.cells #[.int .i64 p.1.1, .int .i64 p.1.2] 26)).heap[wZ.heap.size]? = some (.cells #[.int .i64 p.1.1, .int .i64 p.1.2] 26 (0, 0)) := new_at rfl
      have hTW := EZ.sz
      generalize (wZ.alloc (.cells #[.int .i64 p.1.1, .int .i64 p.1.2] 26)) = W8 at *
      clear hHeld hHeld3 hHeld5 hK hHeld4
      have h38 := h6.trans E8
      have EW8 := E3.trans h38
      have hR8 := h38.blk hR
      have hE8 := h38.blk hE
      have hM8 := H3.out.ext E8
      have hJ8 := E8.blk H4.out
      have hP8 := E8.blk H5.out
      have hU8 := E8.blk H15.out
      clear j0 j00 t2r p0 p1 d2 S0r s0
      by_cases hn : p.2 = 0
      case neg =>
        have r0 : W8.cell? ⟨w.heap.size + 1 + 1 + 1 + 1, 0, none⟩ = some (.int .i64 0) := news_at hR8 0 _ rfl
        have r1 : W8.cell? ⟨w.heap.size + 1 + 1 + 1 + 1, 1, none⟩ = some (.int .i64 0) := news_at hR8 1 _ rfl
        have r2 : W8.cell? ⟨w.heap.size + 1 + 1 + 1 + 1, 2, none⟩ = some (.slice none 0 0) := news_at hR8 2 _ rfl
        have e0 : W8.cell? ⟨w.heap.size + 1 + 1 + 1 + 1 + 1, 0, none⟩ = some (.int .i64 0) := news_at hE8 0 _ rfl
        have f0 := blk_frz hR8 0
        have f1 := blk_frz hR8 1
        have f2 := blk_frz hR8 2
        have fe := blk_frz hE8 0
        have hlR := fst_lt hR8
        have hlE := fst_lt hE8
        have HN := Lib.hid hn
        gi_wp2
        have hR2 := three_set (.int .i64 0) (.int .i64 0) (.slice none 0 0) hR8
        have hE2 : (((W8.setCell ⟨w.heap.size + 1 + 1 + 1 + 1, 0, none⟩ (.int .i64 0)).setCell ⟨w.heap.size + 1 + 1 + 1 + 1, 1, none⟩ (.int .i64 0)).setCell ⟨w.heap.size + 1 + 1 + 1 + 1, 2, none⟩ (.slice none 0 0)).heap[w.heap.size + 1 + 1 + 1 + 1 + 1]? = some (.cells #[.int .i64 0] 32 (0, 0)) := (heap_ne (by omega)).trans ((heap_ne (by omega)).trans ((heap_ne (by omega)).trans hE8))
        have hR3 : ((((W8.setCell ⟨w.heap.size + 1 + 1 + 1 + 1, 0, none⟩ (.int .i64 0)).setCell ⟨w.heap.size + 1 + 1 + 1 + 1, 1, none⟩ (.int .i64 0)).setCell ⟨w.heap.size + 1 + 1 + 1 + 1, 2, none⟩ (.slice none 0 0)).setCell ⟨w.heap.size + 1 + 1 + 1 + 1 + 1, 0, none⟩ (.int .i64 p.2)).heap[w.heap.size + 1 + 1 + 1 + 1]? = some (.cells #[.int .i64 0, .int .i64 0, .slice none 0 0] 29 (0, 0)) := (heap_ne (by omega)).trans hR2
        have hE3 := one_set (.int .i64 p.2) hE2
        have ER2 := (((EW8.set (p := ⟨w.heap.size + 1 + 1 + 1 + 1, 0, none⟩) (le4 _) (.int .i64 0)).set (p := ⟨w.heap.size + 1 + 1 + 1 + 1, 1, none⟩) (le4 _) (.int .i64 0)).set (p := ⟨w.heap.size + 1 + 1 + 1 + 1, 2, none⟩) (le4 _) (.slice none 0 0)).set (p := ⟨w.heap.size + 1 + 1 + 1 + 1 + 1, 0, none⟩) (le5 _) (.int .i64 p.2)
        exact ⟨((((E8.from _).trans (keeps_set _ _ _ _)).trans (keeps_set _ _ _ _)).trans (keeps_set _ _ _ _)).trans (keeps_set _ _ _ _), rfl, p.2, by rw [HNX.out, if_neg HN.out], hR3, hE3, ER2⟩
      case pos =>
        have q2 : W8.cell? ⟨w3.heap.size + 1, 2, none⟩ = some (.slice (some ⟨w3.heap.size, 0, none⟩) v.units.length v.units.length) := news_at hP8 2 _ rfl
        have b0 : W8.cell? ⟨wZ.heap.size, 0, none⟩ = some (.int .i64 p.1.1) := news_at hT8 0 _ rfl
        have b1 : W8.cell? ⟨wZ.heap.size, 1, none⟩ = some (.int .i64 p.1.2) := news_at hT8 1 _ rfl
        obtain ⟨x0, x1⟩ := hM8.cell HZ.out
        have g0 := blk_frz hM8 (k * 2)
        have g1 := blk_frz hM8 (k * 2 + 1)
        simp only at x0 x1
        gi_upto_region 20 with fail
        have hM9 := hM8.set (k := k) (by have := HRL.out; omega) p.1.1 p.1.2
        have h39 : Ext w3 ((W8.setCell ⟨w3.heap.size, k * 2, none⟩ (.int .i64 p.1.1)).setCell ⟨w3.heap.size, k * 2 + 1, none⟩ (.int .i64 p.1.2)) := (h38.set (p := ⟨w3.heap.size, k * 2, none⟩) (Nat.le_refl _) _).set (p := ⟨w3.heap.size, k * 2 + 1, none⟩) (Nat.le_refl _) _
        have hP9 : ((W8.setCell ⟨w3.heap.size, k * 2, none⟩ (.int .i64 p.1.1)).setCell ⟨w3.heap.size, k * 2 + 1, none⟩ (.int .i64 p.1.2)).heap[w3.heap.size + 1]? = some (.cells #[.int .i64 0, .int .i64 0, .slice (some ⟨w3.heap.size, 0, none⟩) v.units.length v.units.length] 29 (0, 0)) := (heap_ne (by omega)).trans ((heap_ne (by omega)).trans hP8)
        have hJ9 : ((W8.setCell ⟨w3.heap.size, k * 2, none⟩ (.int .i64 p.1.1)).setCell ⟨w3.heap.size, k * 2 + 1, none⟩ (.int .i64 p.1.2)).heap[w3.heap.size + 1 + 1]? = some (.cells #[.int .i64 j1, .int .i64 j2] 26 (0, 0)) := (heap_ne (by omega)).trans ((heap_ne (by omega)).trans hJ8)
        have hT9 : ((W8.setCell ⟨w3.heap.size, k * 2, none⟩ (.int .i64 p.1.1)).setCell ⟨w3.heap.size, k * 2 + 1, none⟩ (.int .i64 p.1.2)).heap[wZ.heap.size]? = some (.cells #[.int .i64 p.1.1, .int .i64 p.1.2] 26 (0, 0)) := (heap_ne (by omega)).trans ((heap_ne (by omega)).trans hT8)
        have hU9 : ((W8.setCell ⟨w3.heap.size, k * 2, none⟩ (.int .i64 p.1.1)).setCell ⟨w3.heap.size, k * 2 + 1, none⟩ (.int .i64 p.1.2)).heap[B]? = some (.cells #[.int .i64 u.kind, .int .i64 u.length, .int .i64 u.behind, .int .i64 u.front, .int .i64 u.rear, .int .i64 u.width, .int .i64 u.height, .int .i64 u.mass, .int .i64 u.steer, .int .i64 u.most, .slice (ex k).1 u.axles.length (ex k).2] 68 (0, 0)) := (heap_ne (by omega)).trans ((heap_ne (by omega)).trans hU8)
        have K9 : KeepsFrom W5.heap.size W ((W8.setCell ⟨w3.heap.size, k * 2, none⟩ (.int .i64 p.1.1)).setCell ⟨w3.heap.size, k * 2 + 1, none⟩ (.int .i64 p.1.2)) := ((E8.from _).trans (keeps_set _ _ _ _)).trans (keeps_set _ _ _ _)
        have Kp9 : KpW w3.heap.size W4.heap.size W ((W8.setCell ⟨w3.heap.size, k * 2, none⟩ (.int .i64 p.1.1)).setCell ⟨w3.heap.size, k * 2 + 1, none⟩ (.int .i64 p.1.2)) := ((KpW.ext E8 (by omega) (by have := HZB.out; omega)).set (a := ⟨w3.heap.size, k * 2, none⟩) (Nat.le_refl _) (by show W4.heap.size ≠ w3.heap.size; have := HZC.out; omega) _).set (a := ⟨w3.heap.size, k * 2 + 1, none⟩) (Nat.le_refl _) (by show W4.heap.size ≠ w3.heap.size; have := HZC.out; omega) _
        have hsz9 : W.heap.size ≤ ((W8.setCell ⟨w3.heap.size, k * 2, none⟩ (.int .i64 p.1.1)).setCell ⟨w3.heap.size, k * 2 + 1, none⟩ (.int .i64 p.1.2)).heap.size := K9.size
        generalize ((W8.setCell ⟨w3.heap.size, k * 2, none⟩ (.int .i64 p.1.1)).setCell ⟨w3.heap.size, k * 2 + 1, none⟩ (.int .i64 p.1.2)) = W9 at *
        clear hM8 hJ8 hP8 hU8 hT8 q2 b0 b1 x0 x1 g0 g1 E8 h38 EW8 hR8 hE8
        have b0 : W9.cell? ⟨wZ.heap.size, 0, none⟩ = some (.int .i64 p.1.1) := news_at hT9 0 _ rfl
        have b1 : W9.cell? ⟨wZ.heap.size, 1, none⟩ = some (.int .i64 p.1.2) := news_at hT9 1 _ rfl
        have j0 : W9.cell? ⟨w3.heap.size + 1 + 1, 0, none⟩ = some (.int .i64 j1) := news_at hJ9 0 _ rfl
        have j00 : W9.cell? ⟨w3.heap.size + 1 + 1, 1, none⟩ = some (.int .i64 j2) := news_at hJ9 1 _ rfl
        have d1 : W9.cell? ⟨B, 1, none⟩ = some (.int .i64 u.length) := news_at hU9 1 _ rfl
        gi_upto_region 21 with (refine ⟨trivial, ?_⟩; gi_at_call 57; refine (callsIn_round (HCJ.out _)).mono ?_; rintro e wY ⟨rfl, hbY⟩; unfold ptV; have hJY := hbY.blk hJ9; have jY0 : wY.cell? ⟨w3.heap.size + 1 + 1, 0, none⟩ = some (.int .i64 j1) := news_at hJY 0 _ rfl; have jY1 : wY.cell? ⟨w3.heap.size + 1 + 1, 1, none⟩ = some (.int .i64 j2) := news_at hJY 1 _ rfl; have fY0 := blk_frz hJY 0; have fY1 := blk_frz hJY 1)
        have hJ10 := two1 (.int .i64 j.1.2) (two0 (.int .i64 j.1.1) hJY)
        have hM10 : BlkP ((wY.setCell ⟨w3.heap.size + 1 + 1, 0, none⟩ (.int .i64 j.1.1)).setCell ⟨w3.heap.size + 1 + 1, 1, none⟩ (.int .i64 j.1.2)) w3.heap.size (row.set k (p.1.1, p.1.2)) := ((hM9.ext hbY).other (by omega)).other (by omega)
        have hP10 : ((wY.setCell ⟨w3.heap.size + 1 + 1, 0, none⟩ (.int .i64 j.1.1)).setCell ⟨w3.heap.size + 1 + 1, 1, none⟩ (.int .i64 j.1.2)).heap[w3.heap.size + 1]? = some (.cells #[.int .i64 0, .int .i64 0, .slice (some ⟨w3.heap.size, 0, none⟩) v.units.length v.units.length] 29 (0, 0)) := (heap_ne (by omega)).trans ((heap_ne (by omega)).trans (hbY.blk hP9))
        have h310 : Ext w3 ((wY.setCell ⟨w3.heap.size + 1 + 1, 0, none⟩ (.int .i64 j.1.1)).setCell ⟨w3.heap.size + 1 + 1, 1, none⟩ (.int .i64 j.1.2)) := ((h39.trans hbY).set (p := ⟨w3.heap.size + 1 + 1, 0, none⟩) (le2 _) _).set (p := ⟨w3.heap.size + 1 + 1, 1, none⟩) (le2 _) _
        have K10 : KeepsFrom W5.heap.size W ((wY.setCell ⟨w3.heap.size + 1 + 1, 0, none⟩ (.int .i64 j.1.1)).setCell ⟨w3.heap.size + 1 + 1, 1, none⟩ (.int .i64 j.1.2)) := ((K9.trans (hbY.from _)).trans (keeps_set _ _ _ _)).trans (keeps_set _ _ _ _)
        have Kp10 : KpW w3.heap.size W4.heap.size W ((wY.setCell ⟨w3.heap.size + 1 + 1, 0, none⟩ (.int .i64 j.1.1)).setCell ⟨w3.heap.size + 1 + 1, 1, none⟩ (.int .i64 j.1.2)) := ((Kp9.trans (KpW.ext hbY (by omega) (by have := HZB.out; omega))).set (a := ⟨w3.heap.size + 1 + 1, 0, none⟩) (le2 _) (by show W4.heap.size ≠ w3.heap.size + 1 + 1; have := HZC.out; omega) _).set (a := ⟨w3.heap.size + 1 + 1, 1, none⟩) (le2 _) (by show W4.heap.size ≠ w3.heap.size + 1 + 1; have := HZC.out; omega) _
        generalize ((wY.setCell ⟨w3.heap.size + 1 + 1, 0, none⟩ (.int .i64 j.1.1)).setCell ⟨w3.heap.size + 1 + 1, 1, none⟩ (.int .i64 j.1.2)) = W10 at *
        have HP0 := Lib.hid hn
        clear b0 b1 j0 j00 d1 jY0 jY1 fY0 fY1 hJY hM9 hJ9 hP9 hU9 hT9 h39 K9 Kp9 hn
        by_cases hn : j.2 = 0
        case neg =>
          have EW10 := E3.trans h310
          have hR10 := h310.blk hR
          have hE10 := h310.blk hE
          have r0 : W10.cell? ⟨w.heap.size + 1 + 1 + 1 + 1, 0, none⟩ = some (.int .i64 0) := news_at hR10 0 _ rfl
          have r1 : W10.cell? ⟨w.heap.size + 1 + 1 + 1 + 1, 1, none⟩ = some (.int .i64 0) := news_at hR10 1 _ rfl
          have r2 : W10.cell? ⟨w.heap.size + 1 + 1 + 1 + 1, 2, none⟩ = some (.slice none 0 0) := news_at hR10 2 _ rfl
          have e0 : W10.cell? ⟨w.heap.size + 1 + 1 + 1 + 1 + 1, 0, none⟩ = some (.int .i64 0) := news_at hE10 0 _ rfl
          have f0 := blk_frz hR10 0
          have f1 := blk_frz hR10 1
          have f2 := blk_frz hR10 2
          have fe := blk_frz hE10 0
          have hlR := fst_lt hR10
          have hlE := fst_lt hE10
          have HN := Lib.hid hn
          gi_wp2
          have hR2 := three_set (.int .i64 0) (.int .i64 0) (.slice none 0 0) hR10
          have hE2 : (((W10.setCell ⟨w.heap.size + 1 + 1 + 1 + 1, 0, none⟩ (.int .i64 0)).setCell ⟨w.heap.size + 1 + 1 + 1 + 1, 1, none⟩ (.int .i64 0)).setCell ⟨w.heap.size + 1 + 1 + 1 + 1, 2, none⟩ (.slice none 0 0)).heap[w.heap.size + 1 + 1 + 1 + 1 + 1]? = some (.cells #[.int .i64 0] 32 (0, 0)) := (heap_ne (by omega)).trans ((heap_ne (by omega)).trans ((heap_ne (by omega)).trans hE10))
          have hR3 : ((((W10.setCell ⟨w.heap.size + 1 + 1 + 1 + 1, 0, none⟩ (.int .i64 0)).setCell ⟨w.heap.size + 1 + 1 + 1 + 1, 1, none⟩ (.int .i64 0)).setCell ⟨w.heap.size + 1 + 1 + 1 + 1, 2, none⟩ (.slice none 0 0)).setCell ⟨w.heap.size + 1 + 1 + 1 + 1 + 1, 0, none⟩ (.int .i64 j.2)).heap[w.heap.size + 1 + 1 + 1 + 1]? = some (.cells #[.int .i64 0, .int .i64 0, .slice none 0 0] 29 (0, 0)) := (heap_ne (by omega)).trans hR2
          have hE3 := one_set (.int .i64 j.2) hE2
          have ER2 := (((EW10.set (p := ⟨w.heap.size + 1 + 1 + 1 + 1, 0, none⟩) (le4 _) (.int .i64 0)).set (p := ⟨w.heap.size + 1 + 1 + 1 + 1, 1, none⟩) (le4 _) (.int .i64 0)).set (p := ⟨w.heap.size + 1 + 1 + 1 + 1, 2, none⟩) (le4 _) (.slice none 0 0)).set (p := ⟨w.heap.size + 1 + 1 + 1 + 1 + 1, 0, none⟩) (le5 _) (.int .i64 j.2)
          exact ⟨((((K10).trans (keeps_set _ _ _ _)).trans (keeps_set _ _ _ _)).trans (keeps_set _ _ _ _)).trans (keeps_set _ _ _ _), rfl, j.2, by rw [HNX.out, if_pos HP0.out, if_neg HN.out], hR3, hE3, ER2⟩
        case pos =>
          have HN := Lib.hid hn
          gi_wp2
          exact ⟨K10, Kp10, ⟨⟨j.1, row.set k p.1, by rw [HNX.out, if_pos HP0.out, if_pos HN.out], by rw [List.length_set]; exact HRL.out, hM10, hJ10⟩, hP10, h310, Nat.le_trans h7 K10.size⟩⟩
    · go_simp
      refine hK.out _ _ (by (refine ⟨?_, ?_, ?_, ?_, ?_, ?_, ?_, ?_⟩ <;> (repeat' (with_reducible (first | assumption | refine Ext.cell hbZ ?_ | refine Ext.cell (Ext.refl _).drew ?_ | refine cell_set_ne (by first | omega | (simp; omega)) ?_ | refine Ext.cell ((Ext.refl _).alloc _) ?_))))) (fun hHeld2 => ?_)
      refine held_one (i := 12) rfl (by kernel_rfl) (fun K hK => ?_)
      go_simp
      (go_at_call 56; refine (HCP.out _).mono ?_; rintro e wZ ⟨rfl, hbZ⟩; unfold ptV; go_wp2_with fail)
      have EZ : Ext W wZ := ((Ext.refl W).drew.alloc _).trans hbZ
      have yW : wZ.heap[W.heap.size]? = some (.cells #[.int .i64 0, .int .i64 0] 26 (0, 0)) := new_kept (W := W.drew) hbZ
      refine hK.out _ _ ⟨Ext.cell EZ j0, Ext.cell EZ j00, Ext.cell EZ t2r, Ext.cell EZ p0, Ext.cell EZ p1, Ext.cell EZ d2, Ext.cell EZ S0r, Ext.cell EZ s0⟩ (fun hHeld3 => ?_)
      refine take_at (i := 13) (v := ?_) rfl (by kernel_rfl) (by kernel_rfl) (by kernel_rfl) (fun _ _ _ h => h) (Or.inl ⟨by rfl, ?_⟩) (by assumption) ?_
      rotate_left
      · (intro w hSw; (try dsimp only at hSw); go_simp; (first | done | with_reducible rfl))
      simp only [Act.put, List.setIfInBounds_toArray, List.set_cons_zero, List.set_cons_succ]
      refine take_at (i := 14) (v := ?_) rfl (by kernel_rfl) (by kernel_rfl) (by kernel_rfl) (fun _ _ _ h => h) (Or.inl ⟨by rfl, ?_⟩) (by assumption) ?_
      rotate_left
      · (intro w hSw; (try dsimp only at hSw); go_simp; (first | done | with_reducible rfl))
      simp only [Act.put, List.setIfInBounds_toArray, List.set_cons_zero, List.set_cons_succ]
      refine take_at (i := 15) (v := ?_) rfl (by kernel_rfl) (by kernel_rfl) (by kernel_rfl) (fun _ _ _ h => h) (Or.inl ⟨by rfl, ?_⟩) (by assumption) ?_
      rotate_left
      · (intro w hSw; (try dsimp only at hSw); go_simp; (first | done | with_reducible rfl))
      simp only [Act.put, List.setIfInBounds_toArray, List.set_cons_zero, List.set_cons_succ]
      have c0 : wZ.cell? ⟨W.heap.size, 0, none⟩ = some (.int .i64 0) := news_at yW 0 _ rfl
      have c1 : wZ.cell? ⟨W.heap.size, 1, none⟩ = some (.int .i64 0) := news_at yW 1 _ rfl
      have f0 := blk_frz yW 0
      have f1 := blk_frz yW 1
      refine held_one (i := 17) rfl (by kernel_rfl) (fun K hK => ?_)
      go_simp
      replace j0 := Ext.cell EZ j0
      replace j00 := Ext.cell EZ j00
      replace t2r := Ext.cell EZ t2r
      replace p0 := Ext.cell EZ p0
      replace p1 := Ext.cell EZ p1
      replace d2 := Ext.cell EZ d2
      replace S0r := Ext.cell EZ S0r
      replace s0 := Ext.cell EZ s0
      refine hK.out _ _ (by (refine ⟨?_, ?_, ?_, ?_, ?_, ?_, ?_, ?_⟩ <;> (repeat' (with_reducible (first | assumption | refine Ext.cell hbZ ?_ | refine Ext.cell (Ext.refl _).drew ?_ | refine cell_set_ne (by first | omega | (simp; omega)) ?_ | refine Ext.cell ((Ext.refl _).alloc _) ?_))))) (fun hHeld5 => ?_)
      refine take_at (i := 18) (v := ?_) rfl (by kernel_rfl) (by kernel_rfl) (by kernel_rfl) (fun _ _ _ h => h) (Or.inl ⟨by rfl, ?_⟩) (by assumption) ?_
      rotate_left
      · (intro w hSw; (try dsimp only at hSw); go_simp; (first | done | with_reducible rfl))
      simp only [Act.put, List.setIfInBounds_toArray, List.set_cons_zero, List.set_cons_succ]
      refine wpAnyH_done (by kernel_rfl) ?_ _
      have E8 : Ext W ((wZ.setCell ⟨W.heap.size, 0, none⟩ (.int .i64 p.1.1)).setCell ⟨W.heap.size, 1, none⟩ (.int .i64 p.1.2)) := (EZ.set (p := ⟨W.heap.size, 0, none⟩) (Nat.le_refl _) _).set (p := ⟨W.heap.size, 1, none⟩) (Nat.le_refl _) _
      have hT8 : ((wZ.setCell ⟨W.heap.size, 0, none⟩ (.int .i64 p.1.1)).setCell ⟨W.heap.size, 1, none⟩ (.int .i64 p.1.2)).heap[W.heap.size]? = some (.cells #[.int .i64 p.1.1, .int .i64 p.1.2] 26 (0, 0)) := two1 _ (two0 _ yW)
      have hTW : W.heap.size ≤ W.heap.size := Nat.le_refl _
      generalize ((wZ.setCell ⟨W.heap.size, 0, none⟩ (.int .i64 p.1.1)).setCell ⟨W.heap.size, 1, none⟩ (.int .i64 p.1.2)) = W8 at *
      clear hHeld hHeld3 hHeld5 hK hHeld2 yW c0 c1 f0 f1
      have h38 := h6.trans E8
      have EW8 := E3.trans h38
      have hR8 := h38.blk hR
      have hE8 := h38.blk hE
      have hM8 := H3.out.ext E8
      have hJ8 := E8.blk H4.out
      have hP8 := E8.blk H5.out
      have hU8 := E8.blk H15.out
      clear j0 j00 t2r p0 p1 d2 S0r s0
      by_cases hn : p.2 = 0
      case neg =>
        have r0 : W8.cell? ⟨w.heap.size + 1 + 1 + 1 + 1, 0, none⟩ = some (.int .i64 0) := news_at hR8 0 _ rfl
        have r1 : W8.cell? ⟨w.heap.size + 1 + 1 + 1 + 1, 1, none⟩ = some (.int .i64 0) := news_at hR8 1 _ rfl
        have r2 : W8.cell? ⟨w.heap.size + 1 + 1 + 1 + 1, 2, none⟩ = some (.slice none 0 0) := news_at hR8 2 _ rfl
        have e0 : W8.cell? ⟨w.heap.size + 1 + 1 + 1 + 1 + 1, 0, none⟩ = some (.int .i64 0) := news_at hE8 0 _ rfl
        have f0 := blk_frz hR8 0
        have f1 := blk_frz hR8 1
        have f2 := blk_frz hR8 2
        have fe := blk_frz hE8 0
        have hlR := fst_lt hR8
        have hlE := fst_lt hE8
        have HN := Lib.hid hn
        gi_wp2
        have hR2 := three_set (.int .i64 0) (.int .i64 0) (.slice none 0 0) hR8
        have hE2 : (((W8.setCell ⟨w.heap.size + 1 + 1 + 1 + 1, 0, none⟩ (.int .i64 0)).setCell ⟨w.heap.size + 1 + 1 + 1 + 1, 1, none⟩ (.int .i64 0)).setCell ⟨w.heap.size + 1 + 1 + 1 + 1, 2, none⟩ (.slice none 0 0)).heap[w.heap.size + 1 + 1 + 1 + 1 + 1]? = some (.cells #[.int .i64 0] 32 (0, 0)) := (heap_ne (by omega)).trans ((heap_ne (by omega)).trans ((heap_ne (by omega)).trans hE8))
        have hR3 : ((((W8.setCell ⟨w.heap.size + 1 + 1 + 1 + 1, 0, none⟩ (.int .i64 0)).setCell ⟨w.heap.size + 1 + 1 + 1 + 1, 1, none⟩ (.int .i64 0)).setCell ⟨w.heap.size + 1 + 1 + 1 + 1, 2, none⟩ (.slice none 0 0)).setCell ⟨w.heap.size + 1 + 1 + 1 + 1 + 1, 0, none⟩ (.int .i64 p.2)).heap[w.heap.size + 1 + 1 + 1 + 1]? = some (.cells #[.int .i64 0, .int .i64 0, .slice none 0 0] 29 (0, 0)) := (heap_ne (by omega)).trans hR2
        have hE3 := one_set (.int .i64 p.2) hE2
        have ER2 := (((EW8.set (p := ⟨w.heap.size + 1 + 1 + 1 + 1, 0, none⟩) (le4 _) (.int .i64 0)).set (p := ⟨w.heap.size + 1 + 1 + 1 + 1, 1, none⟩) (le4 _) (.int .i64 0)).set (p := ⟨w.heap.size + 1 + 1 + 1 + 1, 2, none⟩) (le4 _) (.slice none 0 0)).set (p := ⟨w.heap.size + 1 + 1 + 1 + 1 + 1, 0, none⟩) (le5 _) (.int .i64 p.2)
        exact ⟨((((E8.from _).trans (keeps_set _ _ _ _)).trans (keeps_set _ _ _ _)).trans (keeps_set _ _ _ _)).trans (keeps_set _ _ _ _), rfl, p.2, by rw [HNX.out, if_neg HN.out], hR3, hE3, ER2⟩
      case pos =>
        have q2 : W8.cell? ⟨w3.heap.size + 1, 2, none⟩ = some (.slice (some ⟨w3.heap.size, 0, none⟩) v.units.length v.units.length) := news_at hP8 2 _ rfl
        have b0 : W8.cell? ⟨W.heap.size, 0, none⟩ = some (.int .i64 p.1.1) := news_at hT8 0 _ rfl
        have b1 : W8.cell? ⟨W.heap.size, 1, none⟩ = some (.int .i64 p.1.2) := news_at hT8 1 _ rfl
        obtain ⟨x0, x1⟩ := hM8.cell HZ.out
        have g0 := blk_frz hM8 (k * 2)
        have g1 := blk_frz hM8 (k * 2 + 1)
        simp only at x0 x1
        gi_upto_region 20 with fail
        have hM9 := hM8.set (k := k) (by have := HRL.out; omega) p.1.1 p.1.2
        have h39 : Ext w3 ((W8.setCell ⟨w3.heap.size, k * 2, none⟩ (.int .i64 p.1.1)).setCell ⟨w3.heap.size, k * 2 + 1, none⟩ (.int .i64 p.1.2)) := (h38.set (p := ⟨w3.heap.size, k * 2, none⟩) (Nat.le_refl _) _).set (p := ⟨w3.heap.size, k * 2 + 1, none⟩) (Nat.le_refl _) _
        have hP9 : ((W8.setCell ⟨w3.heap.size, k * 2, none⟩ (.int .i64 p.1.1)).setCell ⟨w3.heap.size, k * 2 + 1, none⟩ (.int .i64 p.1.2)).heap[w3.heap.size + 1]? = some (.cells #[.int .i64 0, .int .i64 0, .slice (some ⟨w3.heap.size, 0, none⟩) v.units.length v.units.length] 29 (0, 0)) := (heap_ne (by omega)).trans ((heap_ne (by omega)).trans hP8)
        have hJ9 : ((W8.setCell ⟨w3.heap.size, k * 2, none⟩ (.int .i64 p.1.1)).setCell ⟨w3.heap.size, k * 2 + 1, none⟩ (.int .i64 p.1.2)).heap[w3.heap.size + 1 + 1]? = some (.cells #[.int .i64 j1, .int .i64 j2] 26 (0, 0)) := (heap_ne (by omega)).trans ((heap_ne (by omega)).trans hJ8)
        have hT9 : ((W8.setCell ⟨w3.heap.size, k * 2, none⟩ (.int .i64 p.1.1)).setCell ⟨w3.heap.size, k * 2 + 1, none⟩ (.int .i64 p.1.2)).heap[W.heap.size]? = some (.cells #[.int .i64 p.1.1, .int .i64 p.1.2] 26 (0, 0)) := (heap_ne (by omega)).trans ((heap_ne (by omega)).trans hT8)
        have hU9 : ((W8.setCell ⟨w3.heap.size, k * 2, none⟩ (.int .i64 p.1.1)).setCell ⟨w3.heap.size, k * 2 + 1, none⟩ (.int .i64 p.1.2)).heap[B]? = some (.cells #[.int .i64 u.kind, .int .i64 u.length, .int .i64 u.behind, .int .i64 u.front, .int .i64 u.rear, .int .i64 u.width, .int .i64 u.height, .int .i64 u.mass, .int .i64 u.steer, .int .i64 u.most, .slice (ex k).1 u.axles.length (ex k).2] 68 (0, 0)) := (heap_ne (by omega)).trans ((heap_ne (by omega)).trans hU8)
        have K9 : KeepsFrom W5.heap.size W ((W8.setCell ⟨w3.heap.size, k * 2, none⟩ (.int .i64 p.1.1)).setCell ⟨w3.heap.size, k * 2 + 1, none⟩ (.int .i64 p.1.2)) := ((E8.from _).trans (keeps_set _ _ _ _)).trans (keeps_set _ _ _ _)
        have Kp9 : KpW w3.heap.size W4.heap.size W ((W8.setCell ⟨w3.heap.size, k * 2, none⟩ (.int .i64 p.1.1)).setCell ⟨w3.heap.size, k * 2 + 1, none⟩ (.int .i64 p.1.2)) := ((KpW.ext E8 (by omega) (by have := HZB.out; omega)).set (a := ⟨w3.heap.size, k * 2, none⟩) (Nat.le_refl _) (by show W4.heap.size ≠ w3.heap.size; have := HZC.out; omega) _).set (a := ⟨w3.heap.size, k * 2 + 1, none⟩) (Nat.le_refl _) (by show W4.heap.size ≠ w3.heap.size; have := HZC.out; omega) _
        have hsz9 : W.heap.size ≤ ((W8.setCell ⟨w3.heap.size, k * 2, none⟩ (.int .i64 p.1.1)).setCell ⟨w3.heap.size, k * 2 + 1, none⟩ (.int .i64 p.1.2)).heap.size := K9.size
        generalize ((W8.setCell ⟨w3.heap.size, k * 2, none⟩ (.int .i64 p.1.1)).setCell ⟨w3.heap.size, k * 2 + 1, none⟩ (.int .i64 p.1.2)) = W9 at *
        clear hM8 hJ8 hP8 hU8 hT8 q2 b0 b1 x0 x1 g0 g1 E8 h38 EW8 hR8 hE8
        have b0 : W9.cell? ⟨W.heap.size, 0, none⟩ = some (.int .i64 p.1.1) := news_at hT9 0 _ rfl
        have b1 : W9.cell? ⟨W.heap.size, 1, none⟩ = some (.int .i64 p.1.2) := news_at hT9 1 _ rfl
        have j0 : W9.cell? ⟨w3.heap.size + 1 + 1, 0, none⟩ = some (.int .i64 j1) := news_at hJ9 0 _ rfl
        have j00 : W9.cell? ⟨w3.heap.size + 1 + 1, 1, none⟩ = some (.int .i64 j2) := news_at hJ9 1 _ rfl
        have d1 : W9.cell? ⟨B, 1, none⟩ = some (.int .i64 u.length) := news_at hU9 1 _ rfl
        gi_upto_region 21 with (refine ⟨trivial, ?_⟩; gi_at_call 57; refine (callsIn_round (HCJ.out _)).mono ?_; rintro e wY ⟨rfl, hbY⟩; unfold ptV; have hJY := hbY.blk hJ9; have jY0 : wY.cell? ⟨w3.heap.size + 1 + 1, 0, none⟩ = some (.int .i64 j1) := news_at hJY 0 _ rfl; have jY1 : wY.cell? ⟨w3.heap.size + 1 + 1, 1, none⟩ = some (.int .i64 j2) := news_at hJY 1 _ rfl; have fY0 := blk_frz hJY 0; have fY1 := blk_frz hJY 1)
        have hJ10 := two1 (.int .i64 j.1.2) (two0 (.int .i64 j.1.1) hJY)
        have hM10 : BlkP ((wY.setCell ⟨w3.heap.size + 1 + 1, 0, none⟩ (.int .i64 j.1.1)).setCell ⟨w3.heap.size + 1 + 1, 1, none⟩ (.int .i64 j.1.2)) w3.heap.size (row.set k (p.1.1, p.1.2)) := ((hM9.ext hbY).other (by omega)).other (by omega)
        have hP10 : ((wY.setCell ⟨w3.heap.size + 1 + 1, 0, none⟩ (.int .i64 j.1.1)).setCell ⟨w3.heap.size + 1 + 1, 1, none⟩ (.int .i64 j.1.2)).heap[w3.heap.size + 1]? = some (.cells #[.int .i64 0, .int .i64 0, .slice (some ⟨w3.heap.size, 0, none⟩) v.units.length v.units.length] 29 (0, 0)) := (heap_ne (by omega)).trans ((heap_ne (by omega)).trans (hbY.blk hP9))
        have h310 : Ext w3 ((wY.setCell ⟨w3.heap.size + 1 + 1, 0, none⟩ (.int .i64 j.1.1)).setCell ⟨w3.heap.size + 1 + 1, 1, none⟩ (.int .i64 j.1.2)) := ((h39.trans hbY).set (p := ⟨w3.heap.size + 1 + 1, 0, none⟩) (le2 _) _).set (p := ⟨w3.heap.size + 1 + 1, 1, none⟩) (le2 _) _
        have K10 : KeepsFrom W5.heap.size W ((wY.setCell ⟨w3.heap.size + 1 + 1, 0, none⟩ (.int .i64 j.1.1)).setCell ⟨w3.heap.size + 1 + 1, 1, none⟩ (.int .i64 j.1.2)) := ((K9.trans (hbY.from _)).trans (keeps_set _ _ _ _)).trans (keeps_set _ _ _ _)
        have Kp10 : KpW w3.heap.size W4.heap.size W ((wY.setCell ⟨w3.heap.size + 1 + 1, 0, none⟩ (.int .i64 j.1.1)).setCell ⟨w3.heap.size + 1 + 1, 1, none⟩ (.int .i64 j.1.2)) := ((Kp9.trans (KpW.ext hbY (by omega) (by have := HZB.out; omega))).set (a := ⟨w3.heap.size + 1 + 1, 0, none⟩) (le2 _) (by show W4.heap.size ≠ w3.heap.size + 1 + 1; have := HZC.out; omega) _).set (a := ⟨w3.heap.size + 1 + 1, 1, none⟩) (le2 _) (by show W4.heap.size ≠ w3.heap.size + 1 + 1; have := HZC.out; omega) _
        generalize ((wY.setCell ⟨w3.heap.size + 1 + 1, 0, none⟩ (.int .i64 j.1.1)).setCell ⟨w3.heap.size + 1 + 1, 1, none⟩ (.int .i64 j.1.2)) = W10 at *
        have HP0 := Lib.hid hn
        clear b0 b1 j0 j00 d1 jY0 jY1 fY0 fY1 hJY hM9 hJ9 hP9 hU9 hT9 h39 K9 Kp9 hn
        by_cases hn : j.2 = 0
        case neg =>
          have EW10 := E3.trans h310
          have hR10 := h310.blk hR
          have hE10 := h310.blk hE
          have r0 : W10.cell? ⟨w.heap.size + 1 + 1 + 1 + 1, 0, none⟩ = some (.int .i64 0) := news_at hR10 0 _ rfl
          have r1 : W10.cell? ⟨w.heap.size + 1 + 1 + 1 + 1, 1, none⟩ = some (.int .i64 0) := news_at hR10 1 _ rfl
          have r2 : W10.cell? ⟨w.heap.size + 1 + 1 + 1 + 1, 2, none⟩ = some (.slice none 0 0) := news_at hR10 2 _ rfl
          have e0 : W10.cell? ⟨w.heap.size + 1 + 1 + 1 + 1 + 1, 0, none⟩ = some (.int .i64 0) := news_at hE10 0 _ rfl
          have f0 := blk_frz hR10 0
          have f1 := blk_frz hR10 1
          have f2 := blk_frz hR10 2
          have fe := blk_frz hE10 0
          have hlR := fst_lt hR10
          have hlE := fst_lt hE10
          have HN := Lib.hid hn
          gi_wp2
          have hR2 := three_set (.int .i64 0) (.int .i64 0) (.slice none 0 0) hR10
          have hE2 : (((W10.setCell ⟨w.heap.size + 1 + 1 + 1 + 1, 0, none⟩ (.int .i64 0)).setCell ⟨w.heap.size + 1 + 1 + 1 + 1, 1, none⟩ (.int .i64 0)).setCell ⟨w.heap.size + 1 + 1 + 1 + 1, 2, none⟩ (.slice none 0 0)).heap[w.heap.size + 1 + 1 + 1 + 1 + 1]? = some (.cells #[.int .i64 0] 32 (0, 0)) := (heap_ne (by omega)).trans ((heap_ne (by omega)).trans ((heap_ne (by omega)).trans hE10))
          have hR3 : ((((W10.setCell ⟨w.heap.size + 1 + 1 + 1 + 1, 0, none⟩ (.int .i64 0)).setCell ⟨w.heap.size + 1 + 1 + 1 + 1, 1, none⟩ (.int .i64 0)).setCell ⟨w.heap.size + 1 + 1 + 1 + 1, 2, none⟩ (.slice none 0 0)).setCell ⟨w.heap.size + 1 + 1 + 1 + 1 + 1, 0, none⟩ (.int .i64 j.2)).heap[w.heap.size + 1 + 1 + 1 + 1]? = some (.cells #[.int .i64 0, .int .i64 0, .slice none 0 0] 29 (0, 0)) := (heap_ne (by omega)).trans hR2
          have hE3 := one_set (.int .i64 j.2) hE2
          have ER2 := (((EW10.set (p := ⟨w.heap.size + 1 + 1 + 1 + 1, 0, none⟩) (le4 _) (.int .i64 0)).set (p := ⟨w.heap.size + 1 + 1 + 1 + 1, 1, none⟩) (le4 _) (.int .i64 0)).set (p := ⟨w.heap.size + 1 + 1 + 1 + 1, 2, none⟩) (le4 _) (.slice none 0 0)).set (p := ⟨w.heap.size + 1 + 1 + 1 + 1 + 1, 0, none⟩) (le5 _) (.int .i64 j.2)
          exact ⟨((((K10).trans (keeps_set _ _ _ _)).trans (keeps_set _ _ _ _)).trans (keeps_set _ _ _ _)).trans (keeps_set _ _ _ _), rfl, j.2, by rw [HNX.out, if_pos HP0.out, if_neg HN.out], hR3, hE3, ER2⟩
        case pos =>
          have HN := Lib.hid hn
          gi_wp2
          exact ⟨K10, Kp10, ⟨⟨j.1, row.set k p.1, by rw [HNX.out, if_pos HP0.out, if_pos HN.out], by rw [List.length_set]; exact HRL.out, hM10, hJ10⟩, hP10, h310, Nat.le_trans h7 K10.size⟩⟩
  case done =>
    rintro D xs W hD rfl ⟨⟨jt, row, h1, hrl, h3, h4⟩, h5, h6, h7⟩ hK
    have hrr := bst_done HLEN.out.1 HLEN.out.2 HTL.out h1
    subst hrr
    obtain ⟨j1, j2⟩ := jt
    have HK := Lib.hid hK
    have HM := Lib.hid h3
    have HPP := Lib.hid h5
    have HRL := Lib.hid hrl
    have q0 : W.cell? ⟨w3.heap.size + 1, 0, none⟩ = some (.int .i64 0) := news_at h5 0 _ rfl
    have q1 : W.cell? ⟨w3.heap.size + 1, 1, none⟩ = some (.int .i64 0) := news_at h5 1 _ rfl
    have fq0 := blk_frz h5 0
    have fq1 := blk_frz h5 1
    have j0 : W.cell? ⟨w3.heap.size + 1 + 1, 0, none⟩ = some (.int .i64 j1) := news_at h4 0 _ rfl
    have j00 : W.cell? ⟨w3.heap.size + 1 + 1, 1, none⟩ = some (.int .i64 j2) := news_at h4 1 _ rfl
    have hDz : w3.heap.size + 1 + 1 < D := by omega
    have HZB := Lib.hid hz5
    have HZC := Lib.hid hz4
    clear hz5 hz4 hK h1 h3 h4 h5 hrl
    subst hT0
    refine (‹∀ (a : Act) (w : World), Code.wp Try.prog _ _ a w → _›) _ _ ?_
    go_upto_region 24 with fail
    have h36 : Ext w3 ((W.setCell ⟨w3.heap.size + 1, 0, none⟩ (.int .i64 j1)).setCell ⟨w3.heap.size + 1, 1, none⟩ (.int .i64 j2)) := (h6.set (p := ⟨w3.heap.size + 1, 0, none⟩) (le1 _) _).set (p := ⟨w3.heap.size + 1, 1, none⟩) (le1 _) _
    have hP6 : ((W.setCell ⟨w3.heap.size + 1, 0, none⟩ (.int .i64 j1)).setCell ⟨w3.heap.size + 1, 1, none⟩ (.int .i64 j2)).heap[w3.heap.size + 1]? = some (.cells #[.int .i64 j1, .int .i64 j2, .slice (some ⟨w3.heap.size, 0, none⟩) v.units.length v.units.length] 29 (0, 0)) := by have h9 := blk_set 1 (.int .i64 j2) (blk_set 0 (.int .i64 j1) HPP.out); simpa using h9
    have hM6 : BlkP ((W.setCell ⟨w3.heap.size + 1, 0, none⟩ (.int .i64 j1)).setCell ⟨w3.heap.size + 1, 1, none⟩ (.int .i64 j2)) w3.heap.size row := (HM.out.other (by omega)).other (by omega)
    have hK6 : ((W.setCell ⟨w3.heap.size + 1, 0, none⟩ (.int .i64 j1)).setCell ⟨w3.heap.size + 1, 1, none⟩ (.int .i64 j2)).heap[D]? = some (.deferred (some [])) := (heap_ne (by omega)).trans ((heap_ne (by omega)).trans HK.out)
    generalize ((W.setCell ⟨w3.heap.size + 1, 0, none⟩ (.int .i64 j1)).setCell ⟨w3.heap.size + 1, 1, none⟩ (.int .i64 j2)) = W6 at *
    have hpt6 : Pts W6 (.slice (some ⟨w3.heap.size, 0, none⟩) v.units.length v.units.length) row := by have h9 := hM6.pts (by have := HRL.out; omega); rw [HRL.out] at h9; exact h9
    have C9 := fun w' (he : Ext W6 w') => CR.out w' (E3.trans (h36.trans he)) (j1, j2) (.slice (some ⟨w3.heap.size, 0, none⟩) v.units.length v.units.length) row (hpt6.ext he)
    dsimp only at C9
    unfold poseEV at *
    have hR9 := h36.blk hR
    have hE9 := h36.blk hE
    have y0z := Ext.cell h36 y0
    have y1z := Ext.cell h36 y1
    have y2z := Ext.cell h36 y2
    have y3z := Ext.cell h36 y3
    have p0 : W6.cell? ⟨w3.heap.size + 1, 0, none⟩ = some (.int .i64 j1) := news_at hP6 0 _ rfl
    have p1 : W6.cell? ⟨w3.heap.size + 1, 1, none⟩ = some (.int .i64 j2) := news_at hP6 1 _ rfl
    have p2 : W6.cell? ⟨w3.heap.size + 1, 2, none⟩ = some (.slice (some ⟨w3.heap.size, 0, none⟩) v.units.length v.units.length) := news_at hP6 2 _ rfl
    have ERZ := E3.trans h36
    clear q0 q1 fq0 fq1 j0 j00 hpt6 hP6 h6 h36
    by_cases h9 : poseE v (j1, j2) row = 0
    · rw [if_pos h9] at C9
      replace C9 := Lib.hid C9
      have H9 := Lib.hid h9
      clear h9
      go_wp2_with (go_at_call 45; refine (C9.out _ (by (repeat' (first | exact Ext.refl _ | assumption | refine Ext.alloc ?_ _ | refine Ext.drew ?_ | refine Ext.drewN ?_ _ | refine Ext.set ?_ (by first | exact Nat.le_refl _ | exact le1 _ | exact le2 _ | exact le3 _ | exact le4 _ | exact le5 _ | exact le6 _) _ | refine Ext.trans ?_ (by assumption))))).mono ?_; rintro e wd ⟨rfl, hbd⟩; replace hR9 := hbd.blk hR9; replace hE9 := hbd.blk hE9; have r0 : wd.cell? ⟨w.heap.size + 1 + 1 + 1 + 1, 0, none⟩ = some (.int .i64 0) := news_at hR9 0 _ rfl; have r1 : wd.cell? ⟨w.heap.size + 1 + 1 + 1 + 1, 1, none⟩ = some (.int .i64 0) := news_at hR9 1 _ rfl; have r2 : wd.cell? ⟨w.heap.size + 1 + 1 + 1 + 1, 2, none⟩ = some (.slice none 0 0) := news_at hR9 2 _ rfl; have e0 : wd.cell? ⟨w.heap.size + 1 + 1 + 1 + 1 + 1, 0, none⟩ = some (.int .i64 0) := news_at hE9 0 _ rfl; have f0 := blk_frz hR9 0; have f1 := blk_frz hR9 1; have f2 := blk_frz hR9 2; have fe := blk_frz hE9 0; have ED := ERZ.trans hbd)
      have hKd := hbd.blk hK6
      have hMd := hM6.ext hbd
      have hlRE : w.heap.size + 1 + 1 + 1 + 1 + 1 < w3.heap.size := fst_lt hE
      have hR2 := three_set (.int .i64 j1) (.int .i64 j2) (.slice (some ⟨w3.heap.size, 0, none⟩) v.units.length v.units.length) hR9
      have hE2 : (((wd.setCell ⟨w.heap.size + 1 + 1 + 1 + 1, 0, none⟩ (.int .i64 j1)).setCell ⟨w.heap.size + 1 + 1 + 1 + 1, 1, none⟩ (.int .i64 j2)).setCell ⟨w.heap.size + 1 + 1 + 1 + 1, 2, none⟩ (.slice (some ⟨w3.heap.size, 0, none⟩) v.units.length v.units.length)).heap[w.heap.size + 1 + 1 + 1 + 1 + 1]? = some (.cells #[.int .i64 0] 32 (0, 0)) := (heap_ne (by omega)).trans ((heap_ne (by omega)).trans ((heap_ne (by omega)).trans hE9))
      have hR3 : ((((wd.setCell ⟨w.heap.size + 1 + 1 + 1 + 1, 0, none⟩ (.int .i64 j1)).setCell ⟨w.heap.size + 1 + 1 + 1 + 1, 1, none⟩ (.int .i64 j2)).setCell ⟨w.heap.size + 1 + 1 + 1 + 1, 2, none⟩ (.slice (some ⟨w3.heap.size, 0, none⟩) v.units.length v.units.length)).setCell ⟨w.heap.size + 1 + 1 + 1 + 1 + 1, 0, none⟩ (.int .i64 0)).heap[w.heap.size + 1 + 1 + 1 + 1]? = some (.cells #[.int .i64 j1, .int .i64 j2, .slice (some ⟨w3.heap.size, 0, none⟩) v.units.length v.units.length] 29 (0, 0)) := (heap_ne (by omega)).trans hR2
      have hE3 := one_set (.int .i64 0) hE2
      have ER2 := (((ED.set (p := ⟨w.heap.size + 1 + 1 + 1 + 1, 0, none⟩) (le4 _) (.int .i64 j1)).set (p := ⟨w.heap.size + 1 + 1 + 1 + 1, 1, none⟩) (le4 _) (.int .i64 j2)).set (p := ⟨w.heap.size + 1 + 1 + 1 + 1, 2, none⟩) (le4 _) (.slice (some ⟨w3.heap.size, 0, none⟩) v.units.length v.units.length)).set (p := ⟨w.heap.size + 1 + 1 + 1 + 1 + 1, 0, none⟩) (le5 _) (.int .i64 0)
      have hMF : BlkP ((((wd.setCell ⟨w.heap.size + 1 + 1 + 1 + 1, 0, none⟩ (.int .i64 j1)).setCell ⟨w.heap.size + 1 + 1 + 1 + 1, 1, none⟩ (.int .i64 j2)).setCell ⟨w.heap.size + 1 + 1 + 1 + 1, 2, none⟩ (.slice (some ⟨w3.heap.size, 0, none⟩) v.units.length v.units.length)).setCell ⟨w.heap.size + 1 + 1 + 1 + 1 + 1, 0, none⟩ (.int .i64 0)) w3.heap.size row := (((hMd.other (by omega)).other (by omega)).other (by omega)).other (by omega)
      have hKF : ((((wd.setCell ⟨w.heap.size + 1 + 1 + 1 + 1, 0, none⟩ (.int .i64 j1)).setCell ⟨w.heap.size + 1 + 1 + 1 + 1, 1, none⟩ (.int .i64 j2)).setCell ⟨w.heap.size + 1 + 1 + 1 + 1, 2, none⟩ (.slice (some ⟨w3.heap.size, 0, none⟩) v.units.length v.units.length)).setCell ⟨w.heap.size + 1 + 1 + 1 + 1 + 1, 0, none⟩ (.int .i64 0)).heap[D]? = some (.deferred (some [])) := (heap_ne (by omega)).trans ((heap_ne (by omega)).trans ((heap_ne (by omega)).trans ((heap_ne (by omega)).trans hKd)))
      generalize ((((wd.setCell ⟨w.heap.size + 1 + 1 + 1 + 1, 0, none⟩ (.int .i64 j1)).setCell ⟨w.heap.size + 1 + 1 + 1 + 1, 1, none⟩ (.int .i64 j2)).setCell ⟨w.heap.size + 1 + 1 + 1 + 1, 2, none⟩ (.slice (some ⟨w3.heap.size, 0, none⟩) v.units.length v.units.length)).setCell ⟨w.heap.size + 1 + 1 + 1 + 1 + 1, 0, none⟩ (.int .i64 0)) = WF at *
      have hRG : (WF.putObj D (.deferred none)).heap[w.heap.size + 1 + 1 + 1 + 1]? = some (.cells #[.int .i64 j1, .int .i64 j2, .slice (some ⟨w3.heap.size, 0, none⟩) v.units.length v.units.length] 29 (0, 0)) := (putObj_other' (by omega)).trans hR3
      have hEG : (WF.putObj D (.deferred none)).heap[w.heap.size + 1 + 1 + 1 + 1 + 1]? = some (.cells #[.int .i64 0] 32 (0, 0)) := (putObj_other' (by omega)).trans hE3
      have n0 : (WF.putObj D (.deferred none)).cell? ⟨w.heap.size + 1 + 1 + 1 + 1, 0, none⟩ = some (.int .i64 j1) := news_at hRG 0 _ rfl
      have n1 : (WF.putObj D (.deferred none)).cell? ⟨w.heap.size + 1 + 1 + 1 + 1, 1, none⟩ = some (.int .i64 j2) := news_at hRG 1 _ rfl
      have n2 : (WF.putObj D (.deferred none)).cell? ⟨w.heap.size + 1 + 1 + 1 + 1, 2, none⟩ = some (.slice (some ⟨w3.heap.size, 0, none⟩) v.units.length v.units.length) := news_at hRG 2 _ rfl
      have n3 : (WF.putObj D (.deferred none)).cell? ⟨w.heap.size + 1 + 1 + 1 + 1 + 1, 0, none⟩ = some (.int .i64 0) := news_at hEG 0 _ rfl
      refine ⟨by simp, .inl ⟨_, _, rfl, run_takeDeferred hKF, ?_⟩⟩
      refine ⟨poseEV (j1, j2) (.slice (some ⟨w3.heap.size, 0, none⟩) v.units.length v.units.length) 0, by simp [results, Try.results26, go_sem, n0, n1, n2, n3, poseEV], ?_⟩
      rw [← HPo.out]
      unfold BackR
      rw [HR.out, if_pos trivial, if_pos H9.out]
      have hMG : BlkP (WF.putObj D (.deferred none)) w3.heap.size row := (putObj_other' (by omega)).trans hMF
      exact ⟨_, rfl, by have h9 := hMG.pts (by have := HRL.out; omega); rw [HRL.out] at h9; exact h9, Below.putObj' ER2 (by omega) _⟩
    · rw [if_neg h9] at C9
      replace C9 := Lib.hid C9
      have H9 := Lib.hid h9
      clear h9
      go_wp2_with (go_at_call 45; refine (C9.out _ (by (repeat' (first | exact Ext.refl _ | assumption | refine Ext.alloc ?_ _ | refine Ext.drew ?_ | refine Ext.drewN ?_ _ | refine Ext.set ?_ (by first | exact Nat.le_refl _ | exact le1 _ | exact le2 _ | exact le3 _ | exact le4 _ | exact le5 _ | exact le6 _) _ | refine Ext.trans ?_ (by assumption))))).mono ?_; rintro e wd ⟨rfl, hbd⟩; replace hR9 := hbd.blk hR9; replace hE9 := hbd.blk hE9; have r0 : wd.cell? ⟨w.heap.size + 1 + 1 + 1 + 1, 0, none⟩ = some (.int .i64 0) := news_at hR9 0 _ rfl; have r1 : wd.cell? ⟨w.heap.size + 1 + 1 + 1 + 1, 1, none⟩ = some (.int .i64 0) := news_at hR9 1 _ rfl; have r2 : wd.cell? ⟨w.heap.size + 1 + 1 + 1 + 1, 2, none⟩ = some (.slice none 0 0) := news_at hR9 2 _ rfl; have e0 : wd.cell? ⟨w.heap.size + 1 + 1 + 1 + 1 + 1, 0, none⟩ = some (.int .i64 0) := news_at hE9 0 _ rfl; have f0 := blk_frz hR9 0; have f1 := blk_frz hR9 1; have f2 := blk_frz hR9 2; have fe := blk_frz hE9 0; have ED := ERZ.trans hbd)
      have hKd := hbd.blk hK6
      have hMd := hM6.ext hbd
      have hlRE : w.heap.size + 1 + 1 + 1 + 1 + 1 < w3.heap.size := fst_lt hE
      have hR2 := three_set (.int .i64 0) (.int .i64 0) (.slice none 0 0) hR9
      have hE2 : (((wd.setCell ⟨w.heap.size + 1 + 1 + 1 + 1, 0, none⟩ (.int .i64 0)).setCell ⟨w.heap.size + 1 + 1 + 1 + 1, 1, none⟩ (.int .i64 0)).setCell ⟨w.heap.size + 1 + 1 + 1 + 1, 2, none⟩ (.slice none 0 0)).heap[w.heap.size + 1 + 1 + 1 + 1 + 1]? = some (.cells #[.int .i64 0] 32 (0, 0)) := (heap_ne (by omega)).trans ((heap_ne (by omega)).trans ((heap_ne (by omega)).trans hE9))
      have hR3 : ((((wd.setCell ⟨w.heap.size + 1 + 1 + 1 + 1, 0, none⟩ (.int .i64 0)).setCell ⟨w.heap.size + 1 + 1 + 1 + 1, 1, none⟩ (.int .i64 0)).setCell ⟨w.heap.size + 1 + 1 + 1 + 1, 2, none⟩ (.slice none 0 0)).setCell ⟨w.heap.size + 1 + 1 + 1 + 1 + 1, 0, none⟩ (.int .i64 9)).heap[w.heap.size + 1 + 1 + 1 + 1]? = some (.cells #[.int .i64 0, .int .i64 0, .slice none 0 0] 29 (0, 0)) := (heap_ne (by omega)).trans hR2
      have hE3 := one_set (.int .i64 9) hE2
      have ER2 := (((ED.set (p := ⟨w.heap.size + 1 + 1 + 1 + 1, 0, none⟩) (le4 _) (.int .i64 0)).set (p := ⟨w.heap.size + 1 + 1 + 1 + 1, 1, none⟩) (le4 _) (.int .i64 0)).set (p := ⟨w.heap.size + 1 + 1 + 1 + 1, 2, none⟩) (le4 _) (.slice none 0 0)).set (p := ⟨w.heap.size + 1 + 1 + 1 + 1 + 1, 0, none⟩) (le5 _) (.int .i64 9)
      have hMF : BlkP ((((wd.setCell ⟨w.heap.size + 1 + 1 + 1 + 1, 0, none⟩ (.int .i64 0)).setCell ⟨w.heap.size + 1 + 1 + 1 + 1, 1, none⟩ (.int .i64 0)).setCell ⟨w.heap.size + 1 + 1 + 1 + 1, 2, none⟩ (.slice none 0 0)).setCell ⟨w.heap.size + 1 + 1 + 1 + 1 + 1, 0, none⟩ (.int .i64 9)) w3.heap.size row := (((hMd.other (by omega)).other (by omega)).other (by omega)).other (by omega)
      have hKF : ((((wd.setCell ⟨w.heap.size + 1 + 1 + 1 + 1, 0, none⟩ (.int .i64 0)).setCell ⟨w.heap.size + 1 + 1 + 1 + 1, 1, none⟩ (.int .i64 0)).setCell ⟨w.heap.size + 1 + 1 + 1 + 1, 2, none⟩ (.slice none 0 0)).setCell ⟨w.heap.size + 1 + 1 + 1 + 1 + 1, 0, none⟩ (.int .i64 9)).heap[D]? = some (.deferred (some [])) := (heap_ne (by omega)).trans ((heap_ne (by omega)).trans ((heap_ne (by omega)).trans ((heap_ne (by omega)).trans hKd)))
      generalize ((((wd.setCell ⟨w.heap.size + 1 + 1 + 1 + 1, 0, none⟩ (.int .i64 0)).setCell ⟨w.heap.size + 1 + 1 + 1 + 1, 1, none⟩ (.int .i64 0)).setCell ⟨w.heap.size + 1 + 1 + 1 + 1, 2, none⟩ (.slice none 0 0)).setCell ⟨w.heap.size + 1 + 1 + 1 + 1 + 1, 0, none⟩ (.int .i64 9)) = WF at *
      have hRG : (WF.putObj D (.deferred none)).heap[w.heap.size + 1 + 1 + 1 + 1]? = some (.cells #[.int .i64 0, .int .i64 0, .slice none 0 0] 29 (0, 0)) := (putObj_other' (by omega)).trans hR3
      have hEG : (WF.putObj D (.deferred none)).heap[w.heap.size + 1 + 1 + 1 + 1 + 1]? = some (.cells #[.int .i64 9] 32 (0, 0)) := (putObj_other' (by omega)).trans hE3
      have n0 : (WF.putObj D (.deferred none)).cell? ⟨w.heap.size + 1 + 1 + 1 + 1, 0, none⟩ = some (.int .i64 0) := news_at hRG 0 _ rfl
      have n1 : (WF.putObj D (.deferred none)).cell? ⟨w.heap.size + 1 + 1 + 1 + 1, 1, none⟩ = some (.int .i64 0) := news_at hRG 1 _ rfl
      have n2 : (WF.putObj D (.deferred none)).cell? ⟨w.heap.size + 1 + 1 + 1 + 1, 2, none⟩ = some (.slice none 0 0) := news_at hRG 2 _ rfl
      have n3 : (WF.putObj D (.deferred none)).cell? ⟨w.heap.size + 1 + 1 + 1 + 1 + 1, 0, none⟩ = some (.int .i64 9) := news_at hEG 0 _ rfl
      refine ⟨by simp, .inl ⟨_, _, rfl, run_takeDeferred hKF, ?_⟩⟩
      refine ⟨poseEV (0, 0) (.slice none 0 0) 9, by simp [results, Try.results26, go_sem, n0, n1, n2, n3, poseEV], ?_⟩
      rw [← HPo.out]
      unfold BackR
      rw [HR.out, if_pos trivial, if_neg H9.out]
      exact ⟨_, rfl, .inl ⟨none, 0, rfl, rfl⟩, Below.putObj' ER2 (by omega) _⟩
  case stop =>
    rintro D c pre WF hD hpre ⟨rfl, e, h1, hR3, hE3, ER2⟩ hK
    obtain ⟨hne, hre⟩ := bst_stop HLEN.out.1 HLEN.out.2 HTL.out hpre h1
    have hlE := fst_lt hE
    subst hT0
    refine wpIn_ret ?_
    have hRG : (WF.putObj D (.deferred none)).heap[w.heap.size + 1 + 1 + 1 + 1]? = some (.cells #[.int .i64 0, .int .i64 0, .slice none 0 0] 29 (0, 0)) := (putObj_other' (by omega)).trans hR3
    have hEG : (WF.putObj D (.deferred none)).heap[w.heap.size + 1 + 1 + 1 + 1 + 1]? = some (.cells #[.int .i64 e] 32 (0, 0)) := (putObj_other' (by omega)).trans hE3
    have n0 : (WF.putObj D (.deferred none)).cell? ⟨w.heap.size + 1 + 1 + 1 + 1, 0, none⟩ = some (.int .i64 0) := news_at hRG 0 _ rfl
    have n1 : (WF.putObj D (.deferred none)).cell? ⟨w.heap.size + 1 + 1 + 1 + 1, 1, none⟩ = some (.int .i64 0) := news_at hRG 1 _ rfl
    have n2 : (WF.putObj D (.deferred none)).cell? ⟨w.heap.size + 1 + 1 + 1 + 1, 2, none⟩ = some (.slice none 0 0) := news_at hRG 2 _ rfl
    have n3 : (WF.putObj D (.deferred none)).cell? ⟨w.heap.size + 1 + 1 + 1 + 1 + 1, 0, none⟩ = some (.int .i64 e) := news_at hEG 0 _ rfl
    refine ⟨by simp, .inl ⟨_, _, rfl, run_takeDeferred hK, ?_⟩⟩
    refine ⟨poseEV (0, 0) (.slice none 0 0) e, by simp [results, Try.results26, go_sem, n0, n1, n2, n3, poseEV], ?_⟩
    rw [← HPo.out]
    unfold BackR
    rw [HR.out, if_neg hne, hre]
    exact ⟨_, rfl, .inl ⟨none, 0, rfl, rfl⟩, Below.putObj' ER2 (by omega) _⟩
end
end Go.Proofs.Ytgikfliibimkdaa
/- Contract: Back, by the reference. -/
namespace Go.Proofs.Ytgikfliibimkdaa
open Go.RowKit Go.Shelf

section
variable {vu vp vst : Value} {v : CVeh} {ps : List Pt} {st : List Int}
set_option maxRecDepth 100000 in
set_option maxHeartbeats 6400000 in
theorem RBack_pose (o1 o2 l1 l2 : Int) (w : World) (hs : Sl 11 RUnit w vu v.units) (hp : Pts w vp ps) (hst : Sl 1 RNum w vst st) (h : ¬ poseE v (o1, o2) ps = 0) :
    Calls Try.prog 27 #[vehV v vu, poseV (o1, o2) vp, .agg #[.int .i64 l1, .int .i64 l2], vst] w (BackR v (o1, o2) ps (l1, l2) st w) := by
  have CC := fun w' (h : Ext w w') => RCheckPose_c (lead := (o1, o2)) w' (hs.ext RUnit.stable h) (hp.ext h)
  have HR := Lib.hid (backS_pose (tail := (l1, l2)) (st := st) h)
  obtain ⟨A, cap, rfl, hl, hl2⟩ := hs.shape
  obtain ⟨Ap, capp, rfl⟩ := pts_shape hp
  obtain ⟨As, caps, rfl, hls, hls2⟩ := hst.shape
  obtain ⟨Post, hPost⟩ : ∃ Post, BackR v (o1, o2) ps (l1, l2) st w = Post := ⟨_, rfl⟩
  rw [hPost]
  have HPo := Lib.hid hPost
  unfold vehV poseV at *
  simp only at CC ⊢
  have HN := h
  generalize poseE v (o1, o2) ps = PE at *
  replace CC := Lib.hid CC
  clear hs hp hst h hPost
  go_enter Try.func27, Try.ntmps27
  go_upto_region 3 with (go_at_call 15; refine (CC.out _ (by (repeat' (first | exact Ext.refl _ | assumption | refine Ext.alloc ?_ _ | refine Ext.drew ?_ | refine Ext.drewN ?_ _ | refine Ext.set ?_ (by first | exact Nat.le_refl _ | exact le1 _ | exact le2 _ | exact le3 _ | exact le4 _ | exact le5 _ | exact le6 _) _ | refine Ext.trans ?_ (by assumption))))).mono ?_; rintro e w1 ⟨rfl, hb⟩; have y0 := Ext.cell hb (p := ⟨w.heap.size, 0, none⟩) (v := .string v.name) (by go_simp); have y1 := Ext.cell hb (p := ⟨w.heap.size, 1, none⟩) (v := .slice A v.units.length cap) (by go_simp); have y2 := Ext.cell hb (p := ⟨w.heap.size, 2, none⟩) (v := .int .i64 v.first) (by go_simp); have y3 := Ext.cell hb (p := ⟨w.heap.size, 3, none⟩) (v := .int .i64 v.last) (by go_simp); have t0 := Ext.cell hb (p := ⟨w.heap.size + 1, 0, none⟩) (v := .int .i64 o1) (by go_simp); have t1 := Ext.cell hb (p := ⟨w.heap.size + 1, 1, none⟩) (v := .int .i64 o2) (by go_simp); have t2 := Ext.cell hb (p := ⟨w.heap.size + 1, 2, none⟩) (v := .slice Ap ps.length capp) (by go_simp); have L0 := Ext.cell hb (p := ⟨w.heap.size + 1 + 1, 0, none⟩) (v := .int .i64 l1) (by go_simp); have L1 := Ext.cell hb (p := ⟨w.heap.size + 1 + 1, 1, none⟩) (v := .int .i64 l2) (by go_simp); have hR : w1.heap[w.heap.size + 1 + 1 + 1]? = some (.cells #[.int .i64 0, .int .i64 0, .slice none 0 0] 29 (0, 0)) := (hb.block _ (by simp)).trans (new_at (by simp)); have E3 : Ext w w1 := (((((Ext.refl w).alloc _).alloc _).alloc _).alloc _).trans hb; clear hb; have r0 : w1.cell? ⟨w.heap.size + 1 + 1 + 1, 0, none⟩ = some (.int .i64 0) := World.news_of_block hR 0 _ rfl; have r1 : w1.cell? ⟨w.heap.size + 1 + 1 + 1, 1, none⟩ = some (.int .i64 0) := World.news_of_block hR 1 _ rfl; have r2 : w1.cell? ⟨w.heap.size + 1 + 1 + 1, 2, none⟩ = some (.slice none 0 0) := World.news_of_block hR 2 _ rfl; have f0 := blk_frz hR 0; have f1 := blk_frz hR 1; have f2 := blk_frz hR 2; have hlR := fst_lt hR; have hly := lt_of_cell y0; have hlt := lt_of_cell t0; have hlL := lt_of_cell L0)
  go_wp2_with fail
  have hR2 := three_set (.int .i64 0) (.int .i64 0) (.slice none 0 0) hR
  have ER2 := ((E3.set (p := ⟨w.heap.size + 1 + 1 + 1, 0, none⟩) (le3 _) (.int .i64 0)).set (p := ⟨w.heap.size + 1 + 1 + 1, 1, none⟩) (le3 _) (.int .i64 0)).set (p := ⟨w.heap.size + 1 + 1 + 1, 2, none⟩) (le3 _) (.slice none 0 0)
  generalize (((w1.setCell ⟨w.heap.size + 1 + 1 + 1, 0, none⟩ (.int .i64 0)).setCell ⟨w.heap.size + 1 + 1 + 1, 1, none⟩ (.int .i64 0)).setCell ⟨w.heap.size + 1 + 1 + 1, 2, none⟩ (.slice none 0 0)) = WF at *
  have n0 : WF.cell? ⟨w.heap.size + 1 + 1 + 1, 0, none⟩ = some (.int .i64 0) := World.news_of_block hR2 0 _ rfl
  have n1 : WF.cell? ⟨w.heap.size + 1 + 1 + 1, 1, none⟩ = some (.int .i64 0) := World.news_of_block hR2 1 _ rfl
  have n2 : WF.cell? ⟨w.heap.size + 1 + 1 + 1, 2, none⟩ = some (.slice none 0 0) := World.news_of_block hR2 2 _ rfl
  refine bodyPost_ret (v := poseEV (0, 0) (.slice none 0 0) PE) (by simp [results, Try.results27, go_sem, n0, n1, n2, poseEV]) rfl ?_
  rw [← HPo.out]
  unfold BackR
  rw [HR.out]
  exact ⟨_, rfl, .inl ⟨none, 0, rfl, rfl⟩, ER2⟩
set_option maxRecDepth 100000 in
set_option maxHeartbeats 6400000 in
theorem RBack_tail (o1 o2 l1 l2 : Int) (w : World) (hs : Sl 11 RUnit w vu v.units) (hp : Pts w vp ps) (hst : Sl 1 RNum w vst st) (h : poseE v (o1, o2) ps = 0) (h2 : okPt (l1, l2) = false) :
    Calls Try.prog 27 #[vehV v vu, poseV (o1, o2) vp, .agg #[.int .i64 l1, .int .i64 l2], vst] w (BackR v (o1, o2) ps (l1, l2) st w) := by
  have CC := fun w' (h : Ext w w') => RCheckPose_c (lead := (o1, o2)) w' (hs.ext RUnit.stable h) (hp.ext h)
  rw [h] at CC
  have C1 := fun w => Is_c l1 l2 w
  rw [h2] at C1
  have HR := Lib.hid (backS_tail (st := st) h h2)
  obtain ⟨A, cap, rfl, hl, hl2⟩ := hs.shape
  obtain ⟨Ap, capp, rfl⟩ := pts_shape hp
  obtain ⟨As, caps, rfl, hls, hls2⟩ := hst.shape
  obtain ⟨Post, hPost⟩ : ∃ Post, BackR v (o1, o2) ps (l1, l2) st w = Post := ⟨_, rfl⟩
  rw [hPost]
  have HPo := Lib.hid hPost
  unfold vehV poseV at *
  simp only at CC ⊢
  replace CC := Lib.hid CC
  replace C1 := Lib.hid C1
  clear hs hp hst h hPost
  go_enter Try.func27, Try.ntmps27
  go_upto_region 5 with (first | (go_at_call 15; refine (CC.out _ (by (repeat' (first | exact Ext.refl _ | assumption | refine Ext.alloc ?_ _ | refine Ext.drew ?_ | refine Ext.drewN ?_ _ | refine Ext.set ?_ (by first | exact Nat.le_refl _ | exact le1 _ | exact le2 _ | exact le3 _ | exact le4 _ | exact le5 _ | exact le6 _) _ | refine Ext.trans ?_ (by assumption))))).mono ?_; rintro e w1 ⟨rfl, hb⟩; have y0 := Ext.cell hb (p := ⟨w.heap.size, 0, none⟩) (v := .string v.name) (by go_simp); have y1 := Ext.cell hb (p := ⟨w.heap.size, 1, none⟩) (v := .slice A v.units.length cap) (by go_simp); have y2 := Ext.cell hb (p := ⟨w.heap.size, 2, none⟩) (v := .int .i64 v.first) (by go_simp); have y3 := Ext.cell hb (p := ⟨w.heap.size, 3, none⟩) (v := .int .i64 v.last) (by go_simp); have t0 := Ext.cell hb (p := ⟨w.heap.size + 1, 0, none⟩) (v := .int .i64 o1) (by go_simp); have t1 := Ext.cell hb (p := ⟨w.heap.size + 1, 1, none⟩) (v := .int .i64 o2) (by go_simp); have t2 := Ext.cell hb (p := ⟨w.heap.size + 1, 2, none⟩) (v := .slice Ap ps.length capp) (by go_simp); have L0 := Ext.cell hb (p := ⟨w.heap.size + 1 + 1, 0, none⟩) (v := .int .i64 l1) (by go_simp); have L1 := Ext.cell hb (p := ⟨w.heap.size + 1 + 1, 1, none⟩) (v := .int .i64 l2) (by go_simp); have hR : w1.heap[w.heap.size + 1 + 1 + 1]? = some (.cells #[.int .i64 0, .int .i64 0, .slice none 0 0] 29 (0, 0)) := (hb.block _ (by simp)).trans (new_at (by simp)); have E3 : Ext w w1 := (((((Ext.refl w).alloc _).alloc _).alloc _).alloc _).trans hb; clear hb) | (go_at_call 47; refine (C1.out _).mono ?_; rintro e w2 ⟨rfl, hb⟩; replace y0 := Ext.cell hb y0; replace y1 := Ext.cell hb y1; replace y2 := Ext.cell hb y2; replace y3 := Ext.cell hb y3; replace t0 := Ext.cell hb t0; replace t1 := Ext.cell hb t1; replace t2 := Ext.cell hb t2; replace L0 := Ext.cell hb L0; replace L1 := Ext.cell hb L1; replace hR := hb.blk hR; replace E3 := E3.trans hb; clear hb; have r0 : w2.cell? ⟨w.heap.size + 1 + 1 + 1, 0, none⟩ = some (.int .i64 0) := World.news_of_block hR 0 _ rfl; have r1 : w2.cell? ⟨w.heap.size + 1 + 1 + 1, 1, none⟩ = some (.int .i64 0) := World.news_of_block hR 1 _ rfl; have r2 : w2.cell? ⟨w.heap.size + 1 + 1 + 1, 2, none⟩ = some (.slice none 0 0) := World.news_of_block hR 2 _ rfl; have f0 := blk_frz hR 0; have f1 := blk_frz hR 1; have f2 := blk_frz hR 2; have hlR := fst_lt hR; have hly := lt_of_cell y0; have hlt := lt_of_cell t0; have hlL := lt_of_cell L0))
  go_wp2_with fail
  have hR2 := three_set (.int .i64 0) (.int .i64 0) (.slice none 0 0) hR
  have ER2 := ((E3.set (p := ⟨w.heap.size + 1 + 1 + 1, 0, none⟩) (le3 _) (.int .i64 0)).set (p := ⟨w.heap.size + 1 + 1 + 1, 1, none⟩) (le3 _) (.int .i64 0)).set (p := ⟨w.heap.size + 1 + 1 + 1, 2, none⟩) (le3 _) (.slice none 0 0)
  generalize (((w2.setCell ⟨w.heap.size + 1 + 1 + 1, 0, none⟩ (.int .i64 0)).setCell ⟨w.heap.size + 1 + 1 + 1, 1, none⟩ (.int .i64 0)).setCell ⟨w.heap.size + 1 + 1 + 1, 2, none⟩ (.slice none 0 0)) = WF at *
  have n0 : WF.cell? ⟨w.heap.size + 1 + 1 + 1, 0, none⟩ = some (.int .i64 0) := World.news_of_block hR2 0 _ rfl
  have n1 : WF.cell? ⟨w.heap.size + 1 + 1 + 1, 1, none⟩ = some (.int .i64 0) := World.news_of_block hR2 1 _ rfl
  have n2 : WF.cell? ⟨w.heap.size + 1 + 1 + 1, 2, none⟩ = some (.slice none 0 0) := World.news_of_block hR2 2 _ rfl
  refine bodyPost_ret (v := poseEV (0, 0) (.slice none 0 0) 2) (by simp [results, Try.results27, go_sem, n0, n1, n2, poseEV]) rfl ?_
  rw [← HPo.out]
  unfold BackR
  rw [HR.out]
  exact ⟨_, rfl, .inl ⟨none, 0, rfl, rfl⟩, ER2⟩
set_option maxRecDepth 100000 in
set_option maxHeartbeats 6400000 in
theorem RBack_state (o1 o2 l1 l2 : Int) (w : World) (hs : Sl 11 RUnit w vu v.units) (hp : Pts w vp ps) (hst : Sl 1 RNum w vst st) (h : poseE v (o1, o2) ps = 0) (h2 : okPt (l1, l2) = true) (h3 : backB v.units = false) :
    Calls Try.prog 27 #[vehV v vu, poseV (o1, o2) vp, .agg #[.int .i64 l1, .int .i64 l2], vst] w (BackR v (o1, o2) ps (l1, l2) st w) := by
  have CC := fun w' (h : Ext w w') => RCheckPose_c (lead := (o1, o2)) w' (hs.ext RUnit.stable h) (hp.ext h)
  rw [h] at CC
  have C1 := fun w => Is_c l1 l2 w
  rw [h2] at C1
  have HR := Lib.hid (backS_state (st := st) h h2 h3)
  have HB := Lib.hid h3
  obtain ⟨A, cap, rfl, hl, hl2⟩ := hs.shape
  obtain ⟨ex, hU⟩ := ucells hs
  have HU := Lib.hid hU
  have HLN := Lib.hid (vehE_len (puts_len h).2.1)
  obtain ⟨Ap, capp, rfl⟩ := pts_shape hp
  obtain ⟨As, caps, rfl, hls, hls2⟩ := hst.shape
  obtain ⟨Post, hPost⟩ : ∃ Post, BackR v (o1, o2) ps (l1, l2) st w = Post := ⟨_, rfl⟩
  rw [hPost]
  have HPo := Lib.hid hPost
  unfold vehV poseV at *
  simp only at CC ⊢
  replace CC := Lib.hid CC
  replace C1 := Lib.hid C1
  have hn24 := HLN.out
  clear hs hp hst h h2 h3 hPost hU
  go_enter Try.func27, Try.ntmps27
  go_upto_region 6 with (first | (go_at_call 15; refine (CC.out _ (by (repeat' (first | exact Ext.refl _ | assumption | refine Ext.alloc ?_ _ | refine Ext.drew ?_ | refine Ext.drewN ?_ _ | refine Ext.set ?_ (by first | exact Nat.le_refl _ | exact le1 _ | exact le2 _ | exact le3 _ | exact le4 _ | exact le5 _ | exact le6 _) _ | refine Ext.trans ?_ (by assumption))))).mono ?_; rintro e w1 ⟨rfl, hb⟩; have y0 := Ext.cell hb (p := ⟨w.heap.size, 0, none⟩) (v := .string v.name) (by go_simp); have y1 := Ext.cell hb (p := ⟨w.heap.size, 1, none⟩) (v := .slice A v.units.length cap) (by go_simp); have y2 := Ext.cell hb (p := ⟨w.heap.size, 2, none⟩) (v := .int .i64 v.first) (by go_simp); have y3 := Ext.cell hb (p := ⟨w.heap.size, 3, none⟩) (v := .int .i64 v.last) (by go_simp); have t0 := Ext.cell hb (p := ⟨w.heap.size + 1, 0, none⟩) (v := .int .i64 o1) (by go_simp); have t1 := Ext.cell hb (p := ⟨w.heap.size + 1, 1, none⟩) (v := .int .i64 o2) (by go_simp); have t2 := Ext.cell hb (p := ⟨w.heap.size + 1, 2, none⟩) (v := .slice Ap ps.length capp) (by go_simp); have L0 := Ext.cell hb (p := ⟨w.heap.size + 1 + 1, 0, none⟩) (v := .int .i64 l1) (by go_simp); have L1 := Ext.cell hb (p := ⟨w.heap.size + 1 + 1, 1, none⟩) (v := .int .i64 l2) (by go_simp); have hR : w1.heap[w.heap.size + 1 + 1 + 1]? = some (.cells #[.int .i64 0, .int .i64 0, .slice none 0 0] 29 (0, 0)) := (hb.block _ (by simp)).trans (new_at (by simp)); have E3 : Ext w w1 := (((((Ext.refl w).alloc _).alloc _).alloc _).alloc _).trans hb; clear hb) | (go_at_call 47; refine (C1.out _).mono ?_; rintro e w2 ⟨rfl, hb⟩; replace y0 := Ext.cell hb y0; replace y1 := Ext.cell hb y1; replace y2 := Ext.cell hb y2; replace y3 := Ext.cell hb y3; replace t0 := Ext.cell hb t0; replace t1 := Ext.cell hb t1; replace t2 := Ext.cell hb t2; replace L0 := Ext.cell hb L0; replace L1 := Ext.cell hb L1; replace hR := hb.blk hR; replace E3 := E3.trans hb; clear hb; have r0 : w2.cell? ⟨w.heap.size + 1 + 1 + 1, 0, none⟩ = some (.int .i64 0) := World.news_of_block hR 0 _ rfl; have r1 : w2.cell? ⟨w.heap.size + 1 + 1 + 1, 1, none⟩ = some (.int .i64 0) := World.news_of_block hR 1 _ rfl; have r2 : w2.cell? ⟨w.heap.size + 1 + 1 + 1, 2, none⟩ = some (.slice none 0 0) := World.news_of_block hR 2 _ rfl; have f0 := blk_frz hR 0; have f1 := blk_frz hR 1; have f2 := blk_frz hR 2; have hlR := fst_lt hR; have hly := lt_of_cell y0; have hlt := lt_of_cell t0; have hlL := lt_of_cell L0))
  go_wp2_with fail
  go_loop [11] (fun i => ∃ k : Nat, k ≤ v.units.length ∧ i = .int .i64 k ∧ backB (v.units.drop k) = false) (fun i => v.units.length - (intOf i).toNat)
  case atStart => exact ⟨0, by omega, rfl, by simpa using HB.out⟩
  case round =>
    obtain ⟨k, hk, rfl, hbk⟩ := hrel
    by_cases hlt : k < v.units.length
    case pos =>
      obtain ⟨u, hu⟩ := some_of_lt hlt
      obtain ⟨b, off, rfl, hax, hc⟩ := HU.out.at' k u hu
      have k2 := Ext.cell E3 (hc 2 _ rfl)
      have k8 := Ext.cell E3 (hc 8 _ rfl)
      have i1 : (0 : Int) ≤ (k : Int) := by omega
      have i2 : (k : Int) < (v.units.length : Int) := by omega
      have ew := IntWalk.i64_in ((k : Int) + 1) (by omega)
      have hl2 := lt_of_cell k2
      have HLT := Lib.hid hlt
      rw [drop_some hu] at hbk
      clear hax hc hu hlt
      by_cases g1 : u.behind < 100
      · clear hbk
        go_wp2_with fail
        have hR2 := three_set (.int .i64 0) (.int .i64 0) (.slice none 0 0) hR
        have ER2 := ((E3.set (p := ⟨w.heap.size + 1 + 1 + 1, 0, none⟩) (le3 _) (.int .i64 0)).set (p := ⟨w.heap.size + 1 + 1 + 1, 1, none⟩) (le3 _) (.int .i64 0)).set (p := ⟨w.heap.size + 1 + 1 + 1, 2, none⟩) (le3 _) (.slice none 0 0)
        generalize (((w2.setCell ⟨w.heap.size + 1 + 1 + 1, 0, none⟩ (.int .i64 0)).setCell ⟨w.heap.size + 1 + 1 + 1, 1, none⟩ (.int .i64 0)).setCell ⟨w.heap.size + 1 + 1 + 1, 2, none⟩ (.slice none 0 0)) = WF at *
        have n0 : WF.cell? ⟨w.heap.size + 1 + 1 + 1, 0, none⟩ = some (.int .i64 0) := World.news_of_block hR2 0 _ rfl
        have n1 : WF.cell? ⟨w.heap.size + 1 + 1 + 1, 1, none⟩ = some (.int .i64 0) := World.news_of_block hR2 1 _ rfl
        have n2 : WF.cell? ⟨w.heap.size + 1 + 1 + 1, 2, none⟩ = some (.slice none 0 0) := World.news_of_block hR2 2 _ rfl
        refine bodyPost_ret (v := poseEV (0, 0) (.slice none 0 0) 10) (by simp [results, Try.results27, go_sem, n0, n1, n2, poseEV]) rfl ?_
        rw [← HPo.out]
        unfold BackR
        rw [HR.out]
        exact ⟨_, rfl, .inl ⟨none, 0, rfl, rfl⟩, ER2⟩
      · by_cases g2 : u.steer = 0
        · have HBK := Lib.hid (show backB (v.units.drop (k + 1)) = false by have h9 := hbk; unfold backB at h9 ⊢; rw [List.all_cons, show backU u = true from backU_iff.2 ⟨g1, g2⟩, Bool.true_and] at h9; exact h9)
          clear hbk
          go_wp2_with fail
          go_round
          case rel => exact ⟨k + 1, HLT.out, by go_num, HBK.out⟩
          case measure => have := HLT.out; simp [intOf]; omega
        · clear hbk
          go_wp2_with fail
          have hR2 := three_set (.int .i64 0) (.int .i64 0) (.slice none 0 0) hR
          have ER2 := ((E3.set (p := ⟨w.heap.size + 1 + 1 + 1, 0, none⟩) (le3 _) (.int .i64 0)).set (p := ⟨w.heap.size + 1 + 1 + 1, 1, none⟩) (le3 _) (.int .i64 0)).set (p := ⟨w.heap.size + 1 + 1 + 1, 2, none⟩) (le3 _) (.slice none 0 0)
          generalize (((w2.setCell ⟨w.heap.size + 1 + 1 + 1, 0, none⟩ (.int .i64 0)).setCell ⟨w.heap.size + 1 + 1 + 1, 1, none⟩ (.int .i64 0)).setCell ⟨w.heap.size + 1 + 1 + 1, 2, none⟩ (.slice none 0 0)) = WF at *
          have n0 : WF.cell? ⟨w.heap.size + 1 + 1 + 1, 0, none⟩ = some (.int .i64 0) := World.news_of_block hR2 0 _ rfl
          have n1 : WF.cell? ⟨w.heap.size + 1 + 1 + 1, 1, none⟩ = some (.int .i64 0) := World.news_of_block hR2 1 _ rfl
          have n2 : WF.cell? ⟨w.heap.size + 1 + 1 + 1, 2, none⟩ = some (.slice none 0 0) := World.news_of_block hR2 2 _ rfl
          refine bodyPost_ret (v := poseEV (0, 0) (.slice none 0 0) 10) (by simp [results, Try.results27, go_sem, n0, n1, n2, poseEV]) rfl ?_
          rw [← HPo.out]
          unfold BackR
          rw [HR.out]
          exact ⟨_, rfl, .inl ⟨none, 0, rfl, rfl⟩, ER2⟩
    case neg =>
      rw [List.drop_eq_nil_of_le (by omega)] at hbk
      cases hbk
set_option maxRecDepth 100000 in
set_option maxHeartbeats 6400000 in
theorem RBack_steer (o1 o2 l1 l2 : Int) (w : World) (hs : Sl 11 RUnit w vu v.units) (hp : Pts w vp ps) (hst : Sl 1 RNum w vst st) (h : poseE v (o1, o2) ps = 0) (h2 : okPt (l1, l2) = true) (h3 : backB v.units = true) (h4 : ¬ steerE v st = 0) :
    Calls Try.prog 27 #[vehV v vu, poseV (o1, o2) vp, .agg #[.int .i64 l1, .int .i64 l2], vst] w (BackR v (o1, o2) ps (l1, l2) st w) := by
  have CC := fun w' (h : Ext w w') => RCheckPose_c (lead := (o1, o2)) w' (hs.ext RUnit.stable h) (hp.ext h)
  rw [h] at CC
  have C1 := fun w => Is_c l1 l2 w
  rw [h2] at C1
  have C2 := fun w' (h' : Ext w w') => Rsteering_c vu vst v st w' (hs.ext RUnit.stable h') (hst.ext RNum.stable h') (puts_len h).2.1
  have HR := Lib.hid (backS_steer h h2 h3 h4)
  have HB := Lib.hid h3
  obtain ⟨A, cap, rfl, hl, hl2⟩ := hs.shape
  obtain ⟨ex, hU⟩ := ucells hs
  have HU := Lib.hid hU
  have HLN := Lib.hid (vehE_len (puts_len h).2.1)
  obtain ⟨Ap, capp, rfl⟩ := pts_shape hp
  obtain ⟨As, caps, rfl, hls, hls2⟩ := hst.shape
  obtain ⟨Post, hPost⟩ : ∃ Post, BackR v (o1, o2) ps (l1, l2) st w = Post := ⟨_, rfl⟩
  rw [hPost]
  have HPo := Lib.hid hPost
  unfold vehV poseV at *
  simp only at CC C2 ⊢
  have HN := h4
  generalize steerE v st = SE at *
  replace CC := Lib.hid CC
  replace C1 := Lib.hid C1
  replace C2 := Lib.hid C2
  have hn24 := HLN.out
  clear hs hp hst h h2 h3 h4 hPost hU
  go_enter Try.func27, Try.ntmps27
  go_upto_region 6 with (first | (go_at_call 15; refine (CC.out _ (by (repeat' (first | exact Ext.refl _ | assumption | refine Ext.alloc ?_ _ | refine Ext.drew ?_ | refine Ext.drewN ?_ _ | refine Ext.set ?_ (by first | exact Nat.le_refl _ | exact le1 _ | exact le2 _ | exact le3 _ | exact le4 _ | exact le5 _ | exact le6 _) _ | refine Ext.trans ?_ (by assumption))))).mono ?_; rintro e w1 ⟨rfl, hb⟩; have y0 := Ext.cell hb (p := ⟨w.heap.size, 0, none⟩) (v := .string v.name) (by go_simp); have y1 := Ext.cell hb (p := ⟨w.heap.size, 1, none⟩) (v := .slice A v.units.length cap) (by go_simp); have y2 := Ext.cell hb (p := ⟨w.heap.size, 2, none⟩) (v := .int .i64 v.first) (by go_simp); have y3 := Ext.cell hb (p := ⟨w.heap.size, 3, none⟩) (v := .int .i64 v.last) (by go_simp); have t0 := Ext.cell hb (p := ⟨w.heap.size + 1, 0, none⟩) (v := .int .i64 o1) (by go_simp); have t1 := Ext.cell hb (p := ⟨w.heap.size + 1, 1, none⟩) (v := .int .i64 o2) (by go_simp); have t2 := Ext.cell hb (p := ⟨w.heap.size + 1, 2, none⟩) (v := .slice Ap ps.length capp) (by go_simp); have L0 := Ext.cell hb (p := ⟨w.heap.size + 1 + 1, 0, none⟩) (v := .int .i64 l1) (by go_simp); have L1 := Ext.cell hb (p := ⟨w.heap.size + 1 + 1, 1, none⟩) (v := .int .i64 l2) (by go_simp); have hR : w1.heap[w.heap.size + 1 + 1 + 1]? = some (.cells #[.int .i64 0, .int .i64 0, .slice none 0 0] 29 (0, 0)) := (hb.block _ (by simp)).trans (new_at (by simp)); have E3 : Ext w w1 := (((((Ext.refl w).alloc _).alloc _).alloc _).alloc _).trans hb; clear hb) | (go_at_call 47; refine (C1.out _).mono ?_; rintro e w2 ⟨rfl, hb⟩; replace y0 := Ext.cell hb y0; replace y1 := Ext.cell hb y1; replace y2 := Ext.cell hb y2; replace y3 := Ext.cell hb y3; replace t0 := Ext.cell hb t0; replace t1 := Ext.cell hb t1; replace t2 := Ext.cell hb t2; replace L0 := Ext.cell hb L0; replace L1 := Ext.cell hb L1; replace hR := hb.blk hR; replace E3 := E3.trans hb; clear hb; have r0 : w2.cell? ⟨w.heap.size + 1 + 1 + 1, 0, none⟩ = some (.int .i64 0) := World.news_of_block hR 0 _ rfl; have r1 : w2.cell? ⟨w.heap.size + 1 + 1 + 1, 1, none⟩ = some (.int .i64 0) := World.news_of_block hR 1 _ rfl; have r2 : w2.cell? ⟨w.heap.size + 1 + 1 + 1, 2, none⟩ = some (.slice none 0 0) := World.news_of_block hR 2 _ rfl; have f0 := blk_frz hR 0; have f1 := blk_frz hR 1; have f2 := blk_frz hR 2; have hlR := fst_lt hR; have hly := lt_of_cell y0; have hlt := lt_of_cell t0; have hlL := lt_of_cell L0))
  go_wp2_with fail
  go_loop [11] (fun i => ∃ k : Nat, k ≤ v.units.length ∧ i = .int .i64 k) (fun i => v.units.length - (intOf i).toNat)
  case atStart => exact ⟨0, by omega, rfl⟩
  case round =>
    obtain ⟨k, hk, rfl⟩ := hrel
    by_cases hlt : k < v.units.length
    case pos =>
      obtain ⟨u, hu⟩ := some_of_lt hlt
      obtain ⟨b, off, rfl, hax, hc⟩ := HU.out.at' k u hu
      have k2 := Ext.cell E3 (hc 2 _ rfl)
      have k8 := Ext.cell E3 (hc 8 _ rfl)
      have i1 : (0 : Int) ≤ (k : Int) := by omega
      have i2 : (k : Int) < (v.units.length : Int) := by omega
      have ew := IntWalk.i64_in ((k : Int) + 1) (by omega)
      have hl2 := lt_of_cell k2
      obtain ⟨g1, g2⟩ := backB_at HB.out hu
      have HLT := Lib.hid hlt
      clear hax hc hu hlt
      go_wp2_with fail
      go_round
      case rel => exact ⟨k + 1, HLT.out, by go_num⟩
      case measure => have := HLT.out; simp [intOf]; omega
    case neg =>
      have ix : ¬ (k : Int) < (v.units.length : Int) := by omega
      clear hlt hk
      go_upto_region 13 with (go_at_call 60; refine (C2.out _ E3).mono ?_; rintro e w3 ⟨rfl, hb⟩; replace y0 := Ext.cell hb y0; replace y1 := Ext.cell hb y1; replace y2 := Ext.cell hb y2; replace y3 := Ext.cell hb y3; replace t0 := Ext.cell hb t0; replace t1 := Ext.cell hb t1; replace t2 := Ext.cell hb t2; replace L0 := Ext.cell hb L0; replace L1 := Ext.cell hb L1; replace hR := hb.blk hR; replace E3 := E3.trans hb; clear hb; have r0 : w3.cell? ⟨w.heap.size + 1 + 1 + 1, 0, none⟩ = some (.int .i64 0) := World.news_of_block hR 0 _ rfl; have r1 : w3.cell? ⟨w.heap.size + 1 + 1 + 1, 1, none⟩ = some (.int .i64 0) := World.news_of_block hR 1 _ rfl; have r2 : w3.cell? ⟨w.heap.size + 1 + 1 + 1, 2, none⟩ = some (.slice none 0 0) := World.news_of_block hR 2 _ rfl; have f0 := blk_frz hR 0; have f1 := blk_frz hR 1; have f2 := blk_frz hR 2; have hlR := fst_lt hR; have hly := lt_of_cell y0; have hlt := lt_of_cell t0; have hlL := lt_of_cell L0)
      go_wp2_with fail
      have hR2 := three_set (.int .i64 0) (.int .i64 0) (.slice none 0 0) hR
      have ER2 := ((E3.set (p := ⟨w.heap.size + 1 + 1 + 1, 0, none⟩) (le3 _) (.int .i64 0)).set (p := ⟨w.heap.size + 1 + 1 + 1, 1, none⟩) (le3 _) (.int .i64 0)).set (p := ⟨w.heap.size + 1 + 1 + 1, 2, none⟩) (le3 _) (.slice none 0 0)
      generalize (((w3.setCell ⟨w.heap.size + 1 + 1 + 1, 0, none⟩ (.int .i64 0)).setCell ⟨w.heap.size + 1 + 1 + 1, 1, none⟩ (.int .i64 0)).setCell ⟨w.heap.size + 1 + 1 + 1, 2, none⟩ (.slice none 0 0)) = WF at *
      have n0 : WF.cell? ⟨w.heap.size + 1 + 1 + 1, 0, none⟩ = some (.int .i64 0) := World.news_of_block hR2 0 _ rfl
      have n1 : WF.cell? ⟨w.heap.size + 1 + 1 + 1, 1, none⟩ = some (.int .i64 0) := World.news_of_block hR2 1 _ rfl
      have n2 : WF.cell? ⟨w.heap.size + 1 + 1 + 1, 2, none⟩ = some (.slice none 0 0) := World.news_of_block hR2 2 _ rfl
      refine bodyPost_ret (v := poseEV (0, 0) (.slice none 0 0) SE) (by simp [results, Try.results27, go_sem, n0, n1, n2, poseEV]) rfl ?_
      rw [← HPo.out]
      unfold BackR
      rw [HR.out]
      exact ⟨_, rfl, .inl ⟨none, 0, rfl, rfl⟩, ER2⟩
set_option maxRecDepth 100000 in
set_option maxHeartbeats 6400000 in
theorem RBack_go (o1 o2 l1 l2 : Int) (w : World) (hs : Sl 11 RUnit w vu v.units) (hp : Pts w vp ps) (hst : Sl 1 RNum w vst st) (h : poseE v (o1, o2) ps = 0) (h2 : okPt (l1, l2) = true) (h3 : backB v.units = true) (h4 : steerE v st = 0) :
    Calls Try.prog 27 #[vehV v vu, poseV (o1, o2) vp, .agg #[.int .i64 l1, .int .i64 l2], vst] w (BackR v (o1, o2) ps (l1, l2) st w) := by
  have CC := fun w' (h : Ext w w') => RCheckPose_c (lead := (o1, o2)) w' (hs.ext RUnit.stable h) (hp.ext h)
  rw [h] at CC
  have C1 := fun w => Is_c l1 l2 w
  rw [h2] at C1
  have C2 := fun w' (h' : Ext w w') => Rsteering_c vu vst v st w' (hs.ext RUnit.stable h') (hst.ext RNum.stable h') (puts_len h).2.1
  rw [h4] at C2
  have CR := fun w' (he : Ext w w') lq vq pq (hq : Pts w' vq pq) => RCheckPose_c (v := v) (lead := lq) (vp := vq) (ps := pq) w' (hs.ext RUnit.stable he) hq
  obtain ⟨r, hr⟩ : ∃ r, backK v.units ps st v.units.length (l1, l2) [] = r := ⟨_, rfl⟩
  have HR := Lib.hid (backS_go h h2 h3 h4 hr)
  have HTL := Lib.hid hr
  have HB := Lib.hid h3
  have hpl := puts_len h
  have hsl := steer_len h4
  have HLEN := Lib.hid (And.intro hpl.2.2 hsl.1)
  have HV := Lib.hid (vehE_units hpl.2.1)
  have HSB := Lib.hid hsl.2
  have HPT := Lib.hid hp
  have HST := Lib.hid hst
  obtain ⟨A, cap, rfl, hl, hl2⟩ := hs.shape
  obtain ⟨ex, hU⟩ := ucells hs
  have HU := Lib.hid hU
  have HLN := Lib.hid (vehE_len (puts_len h).2.1)
  obtain ⟨Ap, capp, rfl⟩ := pts_shape hp
  obtain ⟨As, caps, rfl, hls, hls2⟩ := hst.shape
  obtain ⟨Post, hPost⟩ : ∃ Post, BackR v (o1, o2) ps (l1, l2) st w = Post := ⟨_, rfl⟩
  rw [hPost]
  have HPo := Lib.hid hPost
  unfold vehV poseV at *
  simp only at CC C2 CR ⊢
  replace CC := Lib.hid CC
  replace C1 := Lib.hid C1
  replace C2 := Lib.hid C2
  replace CR := Lib.hid CR
  have hn24 := HLN.out
  have hmk := make_pts v.units.length (by omega)
  obtain ⟨MC, hMC⟩ : ∃ MC, (flatP (List.replicate v.units.length (0, 0))).toArray = MC := ⟨_, rfl⟩
  rw [hMC] at hmk
  have HMC := Lib.hid hMC
  clear hs hp hst h h2 h3 h4 hPost hr hpl hsl hU hMC
  go_enter Try.func27, Try.ntmps27
  go_upto_region 6 with (first | (go_at_call 15; refine (CC.out _ (by (repeat' (first | exact Ext.refl _ | assumption | refine Ext.alloc ?_ _ | refine Ext.drew ?_ | refine Ext.drewN ?_ _ | refine Ext.set ?_ (by first | exact Nat.le_refl _ | exact le1 _ | exact le2 _ | exact le3 _ | exact le4 _ | exact le5 _ | exact le6 _) _ | refine Ext.trans ?_ (by assumption))))).mono ?_; rintro e w1 ⟨rfl, hb⟩; have y0 := Ext.cell hb (p := ⟨w.heap.size, 0, none⟩) (v := .string v.name) (by go_simp); have y1 := Ext.cell hb (p := ⟨w.heap.size, 1, none⟩) (v := .slice A v.units.length cap) (by go_simp); have y2 := Ext.cell hb (p := ⟨w.heap.size, 2, none⟩) (v := .int .i64 v.first) (by go_simp); have y3 := Ext.cell hb (p := ⟨w.heap.size, 3, none⟩) (v := .int .i64 v.last) (by go_simp); have t0 := Ext.cell hb (p := ⟨w.heap.size + 1, 0, none⟩) (v := .int .i64 o1) (by go_simp); have t1 := Ext.cell hb (p := ⟨w.heap.size + 1, 1, none⟩) (v := .int .i64 o2) (by go_simp); have t2 := Ext.cell hb (p := ⟨w.heap.size + 1, 2, none⟩) (v := .slice Ap ps.length capp) (by go_simp); have L0 := Ext.cell hb (p := ⟨w.heap.size + 1 + 1, 0, none⟩) (v := .int .i64 l1) (by go_simp); have L1 := Ext.cell hb (p := ⟨w.heap.size + 1 + 1, 1, none⟩) (v := .int .i64 l2) (by go_simp); have hR : w1.heap[w.heap.size + 1 + 1 + 1]? = some (.cells #[.int .i64 0, .int .i64 0, .slice none 0 0] 29 (0, 0)) := (hb.block _ (by simp)).trans (new_at (by simp)); have E3 : Ext w w1 := (((((Ext.refl w).alloc _).alloc _).alloc _).alloc _).trans hb; clear hb) | (go_at_call 47; refine (C1.out _).mono ?_; rintro e w2 ⟨rfl, hb⟩; replace y0 := Ext.cell hb y0; replace y1 := Ext.cell hb y1; replace y2 := Ext.cell hb y2; replace y3 := Ext.cell hb y3; replace t0 := Ext.cell hb t0; replace t1 := Ext.cell hb t1; replace t2 := Ext.cell hb t2; replace L0 := Ext.cell hb L0; replace L1 := Ext.cell hb L1; replace hR := hb.blk hR; replace E3 := E3.trans hb; clear hb; have r0 : w2.cell? ⟨w.heap.size + 1 + 1 + 1, 0, none⟩ = some (.int .i64 0) := World.news_of_block hR 0 _ rfl; have r1 : w2.cell? ⟨w.heap.size + 1 + 1 + 1, 1, none⟩ = some (.int .i64 0) := World.news_of_block hR 1 _ rfl; have r2 : w2.cell? ⟨w.heap.size + 1 + 1 + 1, 2, none⟩ = some (.slice none 0 0) := World.news_of_block hR 2 _ rfl; have f0 := blk_frz hR 0; have f1 := blk_frz hR 1; have f2 := blk_frz hR 2; have hlR := fst_lt hR; have hly := lt_of_cell y0; have hlt := lt_of_cell t0; have hlL := lt_of_cell L0))
  go_wp2_with fail
  go_loop [11] (fun i => ∃ k : Nat, k ≤ v.units.length ∧ i = .int .i64 k) (fun i => v.units.length - (intOf i).toNat)
  case atStart => exact ⟨0, by omega, rfl⟩
  case round =>
    obtain ⟨k, hk, rfl⟩ := hrel
    by_cases hlt : k < v.units.length
    case pos =>
      obtain ⟨u, hu⟩ := some_of_lt hlt
      obtain ⟨b, off, rfl, hax, hc⟩ := HU.out.at' k u hu
      have k2 := Ext.cell E3 (hc 2 _ rfl)
      have k8 := Ext.cell E3 (hc 8 _ rfl)
      have i1 : (0 : Int) ≤ (k : Int) := by omega
      have i2 : (k : Int) < (v.units.length : Int) := by omega
      have ew := IntWalk.i64_in ((k : Int) + 1) (by omega)
      have hl2 := lt_of_cell k2
      obtain ⟨g1, g2⟩ := backB_at HB.out hu
      have HLT := Lib.hid hlt
      clear hax hc hu hlt
      go_wp2_with fail
      go_round
      case rel => exact ⟨k + 1, HLT.out, by go_num⟩
      case measure => have := HLT.out; simp [intOf]; omega
    case neg =>
      have ix : ¬ (k : Int) < (v.units.length : Int) := by omega
      clear hlt hk
      go_upto_region 14 with (go_at_call 60; refine (C2.out _ E3).mono ?_; rintro e w3 ⟨rfl, hb⟩; replace y0 := Ext.cell hb y0; replace y1 := Ext.cell hb y1; replace y2 := Ext.cell hb y2; replace y3 := Ext.cell hb y3; replace t0 := Ext.cell hb t0; replace t1 := Ext.cell hb t1; replace t2 := Ext.cell hb t2; replace L0 := Ext.cell hb L0; replace L1 := Ext.cell hb L1; replace hR := hb.blk hR; replace E3 := E3.trans hb; clear hb; have r0 : w3.cell? ⟨w.heap.size + 1 + 1 + 1, 0, none⟩ = some (.int .i64 0) := World.news_of_block hR 0 _ rfl; have r1 : w3.cell? ⟨w.heap.size + 1 + 1 + 1, 1, none⟩ = some (.int .i64 0) := World.news_of_block hR 1 _ rfl; have r2 : w3.cell? ⟨w.heap.size + 1 + 1 + 1, 2, none⟩ = some (.slice none 0 0) := World.news_of_block hR 2 _ rfl; have f0 := blk_frz hR 0; have f1 := blk_frz hR 1; have f2 := blk_frz hR 2; have hlR := fst_lt hR; have hly := lt_of_cell y0; have hlt := lt_of_cell t0; have hlL := lt_of_cell L0)
      go_upto_region 16 with fail
      have h34 : Ext w3 (((w3.alloc (.cells MC 26)).alloc (.cells #[.int .i64 0, .int .i64 0, .slice (some ⟨w3.heap.size, 0, none⟩) v.units.length v.units.length] 29)).alloc (.cells #[.int .i64 l1, .int .i64 l2] 26)) := (((Ext.refl w3).alloc _).alloc _).alloc _
      have hM4 : BlkP (((w3.alloc (.cells MC 26)).alloc (.cells #[.int .i64 0, .int .i64 0, .slice (some ⟨w3.heap.size, 0, none⟩) v.units.length v.units.length] 29)).alloc (.cells #[.int .i64 l1, .int .i64 l2] 26)) w3.heap.size (List.replicate v.units.length (0, 0) ++ []) := by unfold BlkP; rw [List.append_nil, HMC.out]; exact heap_old (heap_old (new_at rfl))
      have hP4 : (((w3.alloc (.cells MC 26)).alloc (.cells #[.int .i64 0, .int .i64 0, .slice (some ⟨w3.heap.size, 0, none⟩) v.units.length v.units.length] 29)).alloc (.cells #[.int .i64 l1, .int .i64 l2] 26)).heap[w3.heap.size + 1]? = some (.cells #[.int .i64 0, .int .i64 0, .slice (some ⟨w3.heap.size, 0, none⟩) v.units.length v.units.length] 29 (0, 0)) := heap_old (new_at (by simp))
      have hJ4 : (((w3.alloc (.cells MC 26)).alloc (.cells #[.int .i64 0, .int .i64 0, .slice (some ⟨w3.heap.size, 0, none⟩) v.units.length v.units.length] 29)).alloc (.cells #[.int .i64 l1, .int .i64 l2] 26)).heap[w3.heap.size + 1 + 1]? = some (.cells #[.int .i64 l1, .int .i64 l2] 26 (0, 0)) := new_at (by simp)
      generalize (((w3.alloc (.cells MC 26)).alloc (.cells #[.int .i64 0, .int .i64 0, .slice (some ⟨w3.heap.size, 0, none⟩) v.units.length v.units.length] 29)).alloc (.cells #[.int .i64 l1, .int .i64 l2] 26)) = W4 at *
      have y1q := Ext.cell h34 y1
      have ewn := IntWalk.i64_in ((v.units.length : Int) - 1) (by omega)
      clear r0 r1 r2 f0 f1 f2
      go_wp2_with fail
      go_loopw [14] (fun i wr => ∃ (k : Nat) (acc : List Pt) (jt : Pt), k ≤ v.units.length ∧ i = .int .i64 ((k : Int) - 1) ∧ k + acc.length = v.units.length ∧ BlkP wr w3.heap.size (List.replicate k (0, 0) ++ acc) ∧ wr.heap[w3.heap.size + 1]? = some (.cells #[.int .i64 0, .int .i64 0, .slice (some ⟨w3.heap.size, 0, none⟩) v.units.length v.units.length] 29 (0, 0)) ∧ wr.heap[w3.heap.size + 1 + 1]? = some (.cells #[.int .i64 jt.1, .int .i64 jt.2] 26 (0, 0)) ∧ backK v.units ps st k jt acc = r ∧ Ext w3 wr) (fun i _ => (intOf i + 1).toNat)
      case atStart => exact ⟨v.units.length, [], (l1, l2), Nat.le_refl _, rfl, by simp, hM4, hP4, hJ4, HTL.out, h34⟩
      case round =>
        obtain ⟨k, acc, jt, hk, rfl, hac, hM, hP, hJ, hT, E⟩ := hrel
        clear hM4 hP4 hJ4 h34 y1q
        have EW := E3.trans E
        have hs := E.sz
        have y1r := Ext.cell E y1
        cases k with
        | zero =>
          rw [show (((0 : Nat) : Int) - 1) = (-1 : Int) from rfl]
          have hln : acc.length = v.units.length := by omega
          have hT2 : (acc, jt, 0) = r := hT
          subst hT2
          obtain ⟨j1, j2⟩ := jt
          have hM2 : BlkP wr w3.heap.size acc := hM
          have hpts : Pts wr (.slice (some ⟨w3.heap.size, 0, none⟩) v.units.length v.units.length) acc := by have h9 := hM2.pts (by omega); rw [hln] at h9; exact h9
          have hlJ := fst_lt hJ
          have hlP := fst_lt hP
          have q0 : wr.cell? ⟨w3.heap.size + 1, 0, none⟩ = some (.int .i64 0) := World.news_of_block hP 0 _ rfl
          have q1 : wr.cell? ⟨w3.heap.size + 1, 1, none⟩ = some (.int .i64 0) := World.news_of_block hP 1 _ rfl
          have fq0 := blk_frz hP 0
          have fq1 := blk_frz hP 1
          have j0 : wr.cell? ⟨w3.heap.size + 1 + 1, 0, none⟩ = some (.int .i64 j1) := World.news_of_block hJ 0 _ rfl
          have j00 : wr.cell? ⟨w3.heap.size + 1 + 1, 1, none⟩ = some (.int .i64 j2) := World.news_of_block hJ 1 _ rfl
          have HPT2 := Lib.hid hpts
          have HPP := Lib.hid hP
          clear hM hM2 hpts hT hJ hP
          go_upto_region 27 with fail
          have E5 : Ext w3 ((wr.setCell ⟨w3.heap.size + 1, 0, none⟩ (.int .i64 j1)).setCell ⟨w3.heap.size + 1, 1, none⟩ (.int .i64 j2)) := (E.set (p := ⟨w3.heap.size + 1, 0, none⟩) (le1 _) _).set (p := ⟨w3.heap.size + 1, 1, none⟩) (le1 _) _
          have hP5 : ((wr.setCell ⟨w3.heap.size + 1, 0, none⟩ (.int .i64 j1)).setCell ⟨w3.heap.size + 1, 1, none⟩ (.int .i64 j2)).heap[w3.heap.size + 1]? = some (.cells #[.int .i64 j1, .int .i64 j2, .slice (some ⟨w3.heap.size, 0, none⟩) v.units.length v.units.length] 29 (0, 0)) := by have h9 := blk_set 1 (.int .i64 j2) (blk_set 0 (.int .i64 j1) HPP.out); simpa using h9
          have hn5 : (Value.slice (some ⟨w3.heap.size, 0, none⟩) v.units.length v.units.length).ownBlock ≠ some (w3.heap.size + 1) := fun e => by simp [Value.ownBlock] at e
          have hpt5 : Pts ((wr.setCell ⟨w3.heap.size + 1, 0, none⟩ (.int .i64 j1)).setCell ⟨w3.heap.size + 1, 1, none⟩ (.int .i64 j2)) (.slice (some ⟨w3.heap.size, 0, none⟩) v.units.length v.units.length) acc := pts_put (pts_put HPT2.out hn5) hn5
          generalize ((wr.setCell ⟨w3.heap.size + 1, 0, none⟩ (.int .i64 j1)).setCell ⟨w3.heap.size + 1, 1, none⟩ (.int .i64 j2)) = W5 at *
          have C9 := fun w' (he : Ext W5 w') => CR.out w' (E3.trans (E5.trans he)) (j1, j2) (.slice (some ⟨w3.heap.size, 0, none⟩) v.units.length v.units.length) acc (hpt5.ext he)
          dsimp only at C9
          have hR9 := E5.blk hR
          have y0z := Ext.cell E5 y0
          have y1z := Ext.cell E5 y1
          have y2z := Ext.cell E5 y2
          have y3z := Ext.cell E5 y3
          have p0 : W5.cell? ⟨w3.heap.size + 1, 0, none⟩ = some (.int .i64 j1) := World.news_of_block hP5 0 _ rfl
          have p1 : W5.cell? ⟨w3.heap.size + 1, 1, none⟩ = some (.int .i64 j2) := World.news_of_block hP5 1 _ rfl
          have p2 : W5.cell? ⟨w3.heap.size + 1, 2, none⟩ = some (.slice (some ⟨w3.heap.size, 0, none⟩) v.units.length v.units.length) := World.news_of_block hP5 2 _ rfl
          have ERZ := E3.trans E5
          have HO9 := Lib.hid hpt5
          clear q0 q1 fq0 fq1 j0 j00 hpt5 hP5 y1r
          by_cases h9 : poseE v (j1, j2) acc = 0
          · rw [h9] at C9
            replace C9 := Lib.hid C9
            have H9 := Lib.hid h9
            clear h9
            go_wp2_with (go_at_call 15; refine (C9.out _ (by (repeat' (first | exact Ext.refl _ | assumption | refine Ext.alloc ?_ _ | refine Ext.drew ?_ | refine Ext.drewN ?_ _ | refine Ext.set ?_ (by first | exact Nat.le_refl _ | exact le1 _ | exact le2 _ | exact le3 _ | exact le4 _ | exact le5 _ | exact le6 _) _ | refine Ext.trans ?_ (by assumption))))).mono ?_; rintro e wd ⟨rfl, hbd⟩; replace hR9 := hbd.blk hR9; have r0 : wd.cell? ⟨w.heap.size + 1 + 1 + 1, 0, none⟩ = some (.int .i64 0) := World.news_of_block hR9 0 _ rfl; have r1 : wd.cell? ⟨w.heap.size + 1 + 1 + 1, 1, none⟩ = some (.int .i64 0) := World.news_of_block hR9 1 _ rfl; have r2 : wd.cell? ⟨w.heap.size + 1 + 1 + 1, 2, none⟩ = some (.slice none 0 0) := World.news_of_block hR9 2 _ rfl; have f0 := blk_frz hR9 0; have f1 := blk_frz hR9 1; have f2 := blk_frz hR9 2; have ED := ERZ.trans hbd; replace p0 := Ext.cell hbd p0; replace p1 := Ext.cell hbd p1; replace p2 := Ext.cell hbd p2)
            have hR2 := three_set (.int .i64 j1) (.int .i64 j2) (.slice (some ⟨w3.heap.size, 0, none⟩) v.units.length v.units.length) hR9
            have ER2 := ((ED.set (p := ⟨w.heap.size + 1 + 1 + 1, 0, none⟩) (le3 _) (.int .i64 j1)).set (p := ⟨w.heap.size + 1 + 1 + 1, 1, none⟩) (le3 _) (.int .i64 j2)).set (p := ⟨w.heap.size + 1 + 1 + 1, 2, none⟩) (le3 _) (.slice (some ⟨w3.heap.size, 0, none⟩) v.units.length v.units.length)
            have hn9 : (Value.slice (some ⟨w3.heap.size, 0, none⟩) v.units.length v.units.length).ownBlock ≠ some (w.heap.size + 1 + 1 + 1) := fun e => by have := fst_lt hR; simp [Value.ownBlock] at e; omega
            have HOF : Pts (((wd.setCell ⟨w.heap.size + 1 + 1 + 1, 0, none⟩ (.int .i64 j1)).setCell ⟨w.heap.size + 1 + 1 + 1, 1, none⟩ (.int .i64 j2)).setCell ⟨w.heap.size + 1 + 1 + 1, 2, none⟩ (.slice (some ⟨w3.heap.size, 0, none⟩) v.units.length v.units.length)) (.slice (some ⟨w3.heap.size, 0, none⟩) v.units.length v.units.length) acc := pts_put (pts_put (pts_put (HO9.out.ext hbd) hn9) hn9) hn9
            generalize (((wd.setCell ⟨w.heap.size + 1 + 1 + 1, 0, none⟩ (.int .i64 j1)).setCell ⟨w.heap.size + 1 + 1 + 1, 1, none⟩ (.int .i64 j2)).setCell ⟨w.heap.size + 1 + 1 + 1, 2, none⟩ (.slice (some ⟨w3.heap.size, 0, none⟩) v.units.length v.units.length)) = WF at *
            have n0 : WF.cell? ⟨w.heap.size + 1 + 1 + 1, 0, none⟩ = some (.int .i64 j1) := World.news_of_block hR2 0 _ rfl
            have n1 : WF.cell? ⟨w.heap.size + 1 + 1 + 1, 1, none⟩ = some (.int .i64 j2) := World.news_of_block hR2 1 _ rfl
            have n2 : WF.cell? ⟨w.heap.size + 1 + 1 + 1, 2, none⟩ = some (.slice (some ⟨w3.heap.size, 0, none⟩) v.units.length v.units.length) := World.news_of_block hR2 2 _ rfl
            refine bodyPost_ret (v := poseEV (j1, j2) (.slice (some ⟨w3.heap.size, 0, none⟩) v.units.length v.units.length) 0) (by simp [results, Try.results27, go_sem, n0, n1, n2, poseEV]) rfl ?_
            rw [← HPo.out]
            unfold BackR
            rw [HR.out, if_pos trivial, if_pos H9.out]
            exact ⟨_, rfl, HOF, ER2⟩
          · obtain ⟨PE, hPE⟩ : ∃ PE, poseE v (j1, j2) acc = PE := ⟨_, rfl⟩
            rw [hPE] at C9 h9
            have HPE := Lib.hid hPE
            clear hPE
            replace C9 := Lib.hid C9
            have H9 := Lib.hid h9
            go_wp2_with (go_at_call 15; refine (C9.out _ (by (repeat' (first | exact Ext.refl _ | assumption | refine Ext.alloc ?_ _ | refine Ext.drew ?_ | refine Ext.drewN ?_ _ | refine Ext.set ?_ (by first | exact Nat.le_refl _ | exact le1 _ | exact le2 _ | exact le3 _ | exact le4 _ | exact le5 _ | exact le6 _) _ | refine Ext.trans ?_ (by assumption))))).mono ?_; rintro e wd ⟨rfl, hbd⟩; replace hR9 := hbd.blk hR9; have r0 : wd.cell? ⟨w.heap.size + 1 + 1 + 1, 0, none⟩ = some (.int .i64 0) := World.news_of_block hR9 0 _ rfl; have r1 : wd.cell? ⟨w.heap.size + 1 + 1 + 1, 1, none⟩ = some (.int .i64 0) := World.news_of_block hR9 1 _ rfl; have r2 : wd.cell? ⟨w.heap.size + 1 + 1 + 1, 2, none⟩ = some (.slice none 0 0) := World.news_of_block hR9 2 _ rfl; have f0 := blk_frz hR9 0; have f1 := blk_frz hR9 1; have f2 := blk_frz hR9 2; have ED := ERZ.trans hbd; replace p0 := Ext.cell hbd p0; replace p1 := Ext.cell hbd p1; replace p2 := Ext.cell hbd p2)
            have hR2 := three_set (.int .i64 0) (.int .i64 0) (.slice none 0 0) hR9
            have ER2 := ((ED.set (p := ⟨w.heap.size + 1 + 1 + 1, 0, none⟩) (le3 _) (.int .i64 0)).set (p := ⟨w.heap.size + 1 + 1 + 1, 1, none⟩) (le3 _) (.int .i64 0)).set (p := ⟨w.heap.size + 1 + 1 + 1, 2, none⟩) (le3 _) (.slice none 0 0)
            generalize (((wd.setCell ⟨w.heap.size + 1 + 1 + 1, 0, none⟩ (.int .i64 0)).setCell ⟨w.heap.size + 1 + 1 + 1, 1, none⟩ (.int .i64 0)).setCell ⟨w.heap.size + 1 + 1 + 1, 2, none⟩ (.slice none 0 0)) = WF at *
            have n0 : WF.cell? ⟨w.heap.size + 1 + 1 + 1, 0, none⟩ = some (.int .i64 0) := World.news_of_block hR2 0 _ rfl
            have n1 : WF.cell? ⟨w.heap.size + 1 + 1 + 1, 1, none⟩ = some (.int .i64 0) := World.news_of_block hR2 1 _ rfl
            have n2 : WF.cell? ⟨w.heap.size + 1 + 1 + 1, 2, none⟩ = some (.slice none 0 0) := World.news_of_block hR2 2 _ rfl
            refine bodyPost_ret (v := poseEV (0, 0) (.slice none 0 0) 9) (by simp [results, Try.results27, go_sem, n0, n1, n2, poseEV]) rfl ?_
            rw [← HPo.out]
            unfold BackR
            rw [HR.out, if_pos trivial, if_neg (by rw [HPE.out]; exact H9.out)]
            exact ⟨_, rfl, .inl ⟨none, 0, rfl, rfl⟩, ER2⟩
        | succ k =>
          rw [show (((k + 1 : Nat) : Int) - 1) = (k : Int) by omega]
          have hlt : k < v.units.length := by omega
          obtain ⟨u, hu⟩ := some_of_lt hlt
          obtain ⟨⟨a1, a2⟩, ha⟩ := some_of_lt (show k < ps.length by have := HLEN.out; omega)
          obtain ⟨s, hsx⟩ := some_of_lt (show k < st.length by have := HLEN.out; omega)
          obtain ⟨b, off, rfl, hax, hc⟩ := HU.out.at' k u hu
          obtain ⟨pb, poff, rfl, p0, p1⟩ := pts_at HPT.out ha
          obtain ⟨sb, soff, css, rfl, _, ⟨rfl, _, _⟩, hcs⟩ := HST.out.at hsx
          have hvu := HV.out u (mem_of_some hu)
          have hmost := unit_most hvu
          have hbds := unitB_bds hvu
          have hsr := steerB_at HSB.out hu hsx
          obtain ⟨p, hp⟩ : ∃ p, pullTS jt (a1, a2) u.behind s = p := ⟨_, rfl⟩
          obtain ⟨j, hj⟩ : ∃ j, placeS p.1 jt (-u.length) 0 = j := ⟨_, rfl⟩
          rw [backK_step hu ha hsx hp hj] at hT
          obtain ⟨j1, j2⟩ := jt
          have CPl := fun w' => RpullT_c j1 j2 a1 a2 u.behind s w' (by omega) (by omega)
          rw [hp] at CPl
          have CJ := fun w' => RPlace_c p.1.1 p.1.2 j1 j2 (-u.length) 0 w'
          have hj2 : placeS (p.1.1, p.1.2) (j1, j2) (-u.length) 0 = j := hj
          rw [hj2] at CJ
          have ewl := IntWalk.i64_in (-u.length) (by omega)
          have k1 := Ext.cell EW (hc 1 _ rfl)
          have k2 := Ext.cell EW (hc 2 _ rfl)
          have s0 := Ext.cell EW (hcs 0 _ rfl)
          simp only [Nat.add_zero, Nat.mul_one] at s0
          replace p0 := Ext.cell EW p0
          replace p1 := Ext.cell EW p1
          have t2r := Ext.cell E t2
          have HCP := Lib.hid CPl
          have HCJ := Lib.hid CJ
          have HTT := Lib.hid hT
          have HAC := Lib.hid hac
          have i0 : (0 : Int) ≤ (k : Int) := by omega
          have i2 : (k : Int) < (v.units.length : Int) := by omega
          have i3 : (k : Int) < (ps.length : Int) := by have := HLEN.out; omega
          have i4 : (k : Int) < (st.length : Int) := by have := HLEN.out; omega
          have ewk := IntWalk.i64_in ((k : Int) - 1) (by omega)
          have hlJ := fst_lt hJ
          have hlP := fst_lt hP
          have hlk := lt_of_cell k1
          have hlp0 := lt_of_cell p0
          have hls0 := lt_of_cell s0
          have HLT := Lib.hid hlt
          have HCU0 := Lib.hid hc
          clear CPl CJ hT hvu hmost hbds hsr hax hc hcs hu ha hsx hp hj hj2 hac hk hlt
          go_upto_region 19 with fail
          have j0 : wr.cell? ⟨w3.heap.size + 1 + 1, 0, none⟩ = some (.int .i64 j1) := World.news_of_block hJ 0 _ rfl
          have j00 : wr.cell? ⟨w3.heap.size + 1 + 1, 1, none⟩ = some (.int .i64 j2) := World.news_of_block hJ 1 _ rfl
          go_cut [15, 16] from 69 to 118 (fun sa sb wc => ∃ t, sa = .pointer (some ⟨t, 0, none⟩) ∧ sb = .int .i64 p.2 ∧ Ext wr wc ∧ wr.heap.size ≤ t ∧ wc.heap[t]? = some (.cells #[.int .i64 p.1.1, .int .i64 p.1.2] 26 (0, 0)))
          case first =>
            go_region_held3 (fun w' => w'.cell? ⟨w3.heap.size + 1 + 1, 0, none⟩ = some (.int .i64 j1) ∧ w'.cell? ⟨w3.heap.size + 1 + 1, 1, none⟩ = some (.int .i64 j2) ∧ w'.cell? ⟨w.heap.size + 1, 2, none⟩ = some (.slice (some ⟨pb, poff, none⟩) ps.length capp) ∧ w'.cell? ⟨pb, poff + k * 2, none⟩ = some (.int .i64 a1) ∧ w'.cell? ⟨pb, poff + k * 2 + 1, none⟩ = some (.int .i64 a2) ∧ w'.cell? ⟨sb, soff + k, none⟩ = some (.int .i64 s) ∧ w'.cell? ⟨w.heap.size, 1, none⟩ = some (.slice (some ⟨b, off, none⟩) v.units.length cap) ∧ w'.cell? ⟨b, off + k * 11 + 2, none⟩ = some (.int .i64 u.behind)) (refine ⟨?_, ?_, ?_, ?_, ?_, ?_, ?_, ?_⟩ <;> (repeat' (with_reducible (first | assumption | refine Ext.cell hbZ ?_ | refine Ext.cell (Ext.refl _).drew ?_ | refine cell_set_ne (by first | omega | (simp; omega)) ?_ | refine Ext.cell ((Ext.refl _).alloc _) ?_)))) (first
              | (go_at_call 61; refine (HCP.out _).mono ?_; rintro e wZ ⟨rfl, hbZ⟩; unfold ptV; have zZ := (show Ext wr wZ from by (repeat' (first | exact Ext.refl _ | assumption | refine Ext.alloc ?_ _ | refine Ext.drew ?_ | refine Ext.drewN ?_ _ | refine Ext.set ?_ (by first | exact Nat.le_refl _ | exact le1 _ | exact le2 _ | exact le3 _ | exact le4 _ | exact le5 _ | exact le6 _) _ | refine Ext.trans ?_ (by assumption)))).sz; (try (replace yW := (hbZ.block _ (Array.getElem?_eq_some_iff.1 yW).1).trans yW)); (try (have yW : wZ.heap[wr.heap.size]? = some (.cells #[.int .i64 0, .int .i64 0] 26 (0, 0)) := new_kept (W := wr.drew) hbZ)); (try (have c0 : wZ.cell? ⟨wr.heap.size, 0, none⟩ = some (.int .i64 0) := World.news_of_block yW 0 _ rfl; have c1 : wZ.cell? ⟨wr.heap.size, 1, none⟩ = some (.int .i64 0) := World.news_of_block yW 1 _ rfl; have f0 := blk_frz yW 0; have f1 := blk_frz yW 1)); skip))
            all_goals
              go_wp2_with fail
              go_meet
              first
                | exact ⟨wZ.heap.size, rfl, rfl, by (repeat' (first | exact Ext.refl _ | assumption | refine Ext.alloc ?_ _ | refine Ext.drew ?_ | refine Ext.drewN ?_ _ | refine Ext.set ?_ (by first | exact Nat.le_refl _ | exact le1 _ | exact le2 _ | exact le3 _ | exact le4 _ | exact le5 _ | exact le6 _) _ | refine Ext.trans ?_ (by assumption))), zZ, World.alloc_heap_new wZ _⟩
                | exact ⟨wr.heap.size, rfl, rfl, ((show Ext wr wZ from by (repeat' (first | exact Ext.refl _ | assumption | refine Ext.alloc ?_ _ | refine Ext.drew ?_ | refine Ext.drewN ?_ _ | refine Ext.set ?_ (by first | exact Nat.le_refl _ | exact le1 _ | exact le2 _ | exact le3 _ | exact le4 _ | exact le5 _ | exact le6 _) _ | refine Ext.trans ?_ (by assumption)))).set (p := ⟨wr.heap.size, 0, none⟩) (Nat.le_refl _) _).set (p := ⟨wr.heap.size, 1, none⟩) (Nat.le_refl _) _, (Nat.le_refl _), two1 _ (two0 _ yW)⟩
          case rest =>
            obtain ⟨t, rfl, rfl, E8, ht, hTt⟩ := hcut
            generalize wc = W8 at *
            have E9 := E.trans E8
            have hs78 := E8.sz
            by_cases hn : p.2 = 0
            case neg =>
              have hrj : r.2.2 = p.2 := by have h9 := HTT.out; rw [if_neg hn] at h9; rw [← h9]
              have ER := E3.trans (E9)
              have hR9 := (E9).blk hR
              have r0 : W8.cell? ⟨w.heap.size + 1 + 1 + 1, 0, none⟩ = some (.int .i64 0) := World.news_of_block hR9 0 _ rfl
              have r1 : W8.cell? ⟨w.heap.size + 1 + 1 + 1, 1, none⟩ = some (.int .i64 0) := World.news_of_block hR9 1 _ rfl
              have r2 : W8.cell? ⟨w.heap.size + 1 + 1 + 1, 2, none⟩ = some (.slice none 0 0) := World.news_of_block hR9 2 _ rfl
              have f0 := blk_frz hR9 0
              have f1 := blk_frz hR9 1
              have f2 := blk_frz hR9 2
              have HRJ := Lib.hid hrj
              have HNN := Lib.hid hn
              clear hrj
              go_wp2_with fail
              have hR2 := three_set (.int .i64 0) (.int .i64 0) (.slice none 0 0) hR9
              have ER2 := ((ER.set (p := ⟨w.heap.size + 1 + 1 + 1, 0, none⟩) (le3 _) (.int .i64 0)).set (p := ⟨w.heap.size + 1 + 1 + 1, 1, none⟩) (le3 _) (.int .i64 0)).set (p := ⟨w.heap.size + 1 + 1 + 1, 2, none⟩) (le3 _) (.slice none 0 0)
              generalize (((W8.setCell ⟨w.heap.size + 1 + 1 + 1, 0, none⟩ (.int .i64 0)).setCell ⟨w.heap.size + 1 + 1 + 1, 1, none⟩ (.int .i64 0)).setCell ⟨w.heap.size + 1 + 1 + 1, 2, none⟩ (.slice none 0 0)) = WF at *
              have n0 : WF.cell? ⟨w.heap.size + 1 + 1 + 1, 0, none⟩ = some (.int .i64 0) := World.news_of_block hR2 0 _ rfl
              have n1 : WF.cell? ⟨w.heap.size + 1 + 1 + 1, 1, none⟩ = some (.int .i64 0) := World.news_of_block hR2 1 _ rfl
              have n2 : WF.cell? ⟨w.heap.size + 1 + 1 + 1, 2, none⟩ = some (.slice none 0 0) := World.news_of_block hR2 2 _ rfl
              refine bodyPost_ret (v := poseEV (0, 0) (.slice none 0 0) p.2) (by simp [results, Try.results27, go_sem, n0, n1, n2, poseEV]) rfl ?_
              rw [← HPo.out]
              unfold BackR
              rw [HR.out, if_neg (by rw [HRJ.out]; exact HNN.out), HRJ.out]
              exact ⟨_, rfl, .inl ⟨none, 0, rfl, rfl⟩, ER2⟩
            case pos =>
              have HP0 := Lib.hid hn
              have hM8 := hM.ext E8
              have hP8 := E8.blk hP
              have hJ8 := E8.blk hJ
              clear j0 j00 p0 p1 s0 t2r
              replace y1r := Ext.cell E8 y1r
              replace k1 := Ext.cell E8 k1
              replace k2 := Ext.cell E8 k2
              have hlk8 := lt_of_cell k1
              have q2 : W8.cell? ⟨w3.heap.size + 1, 2, none⟩ = some (.slice (some ⟨w3.heap.size, 0, none⟩) v.units.length v.units.length) := World.news_of_block hP8 2 _ rfl
              have b0 : W8.cell? ⟨t, 0, none⟩ = some (.int .i64 p.1.1) := World.news_of_block hTt 0 _ rfl
              have b1 : W8.cell? ⟨t, 1, none⟩ = some (.int .i64 p.1.2) := World.news_of_block hTt 1 _ rfl
              obtain ⟨z0, z1⟩ := hM8.cell (mid_at k acc)
              have g0 := blk_frz hM8 (k * 2)
              have g1 := blk_frz hM8 (k * 2 + 1)
              simp only at z0 z1
              go_upto_region 23 with fail
              have hM9 := hM8.put p.1.1 p.1.2
              have E99 : Ext w3 ((W8.setCell ⟨w3.heap.size, k * 2, none⟩ (.int .i64 p.1.1)).setCell ⟨w3.heap.size, k * 2 + 1, none⟩ (.int .i64 p.1.2)) := (E9.set (p := ⟨w3.heap.size, k * 2, none⟩) (Nat.le_refl _) _).set (p := ⟨w3.heap.size, k * 2 + 1, none⟩) (Nat.le_refl _) _
              have hP9 : ((W8.setCell ⟨w3.heap.size, k * 2, none⟩ (.int .i64 p.1.1)).setCell ⟨w3.heap.size, k * 2 + 1, none⟩ (.int .i64 p.1.2)).heap[w3.heap.size + 1]? = some (.cells #[.int .i64 0, .int .i64 0, .slice (some ⟨w3.heap.size, 0, none⟩) v.units.length v.units.length] 29 (0, 0)) := (heap_ne (by omega)).trans ((heap_ne (by omega)).trans hP8)
              have hJ9 : ((W8.setCell ⟨w3.heap.size, k * 2, none⟩ (.int .i64 p.1.1)).setCell ⟨w3.heap.size, k * 2 + 1, none⟩ (.int .i64 p.1.2)).heap[w3.heap.size + 1 + 1]? = some (.cells #[.int .i64 j1, .int .i64 j2] 26 (0, 0)) := (heap_ne (by omega)).trans ((heap_ne (by omega)).trans hJ8)
              have hT9 : ((W8.setCell ⟨w3.heap.size, k * 2, none⟩ (.int .i64 p.1.1)).setCell ⟨w3.heap.size, k * 2 + 1, none⟩ (.int .i64 p.1.2)).heap[t]? = some (.cells #[.int .i64 p.1.1, .int .i64 p.1.2] 26 (0, 0)) := (heap_ne (by omega)).trans ((heap_ne (by omega)).trans hTt)
              generalize ((W8.setCell ⟨w3.heap.size, k * 2, none⟩ (.int .i64 p.1.1)).setCell ⟨w3.heap.size, k * 2 + 1, none⟩ (.int .i64 p.1.2)) = W9 at *
              have EWZ := E3.trans E99
              clear hM8 hP8 hJ8 hTt hM hP hJ E9 E8 EW E y1r k1 k2 q2 b0 b1 z0 z1 g0 g1 hlk8
              have y1z := Ext.cell E99 y1
              have k1 := Ext.cell EWZ (HCU0.out 1 _ rfl)
              have j0 : W9.cell? ⟨w3.heap.size + 1 + 1, 0, none⟩ = some (.int .i64 j1) := World.news_of_block hJ9 0 _ rfl
              have j00 : W9.cell? ⟨w3.heap.size + 1 + 1, 1, none⟩ = some (.int .i64 j2) := World.news_of_block hJ9 1 _ rfl
              have b0 : W9.cell? ⟨t, 0, none⟩ = some (.int .i64 p.1.1) := World.news_of_block hT9 0 _ rfl
              have b1 : W9.cell? ⟨t, 1, none⟩ = some (.int .i64 p.1.2) := World.news_of_block hT9 1 _ rfl
              go_cut [16] from 69 to 118 (fun sa wc => sa = .int .i64 j.2 ∧ ∃ wz, Ext W9 wz ∧ wc = ((wz.setCell ⟨w3.heap.size + 1 + 1, 0, none⟩ (.int .i64 j.1.1)).setCell ⟨w3.heap.size + 1 + 1, 1, none⟩ (.int .i64 j.1.2)))
              case first =>
                refine until_region 13 (S := (fun w' => w'.cell? ⟨t, 0, none⟩ = some (.int .i64 p.1.1) ∧ w'.cell? ⟨t, 1, none⟩ = some (.int .i64 p.1.2) ∧ w'.cell? ⟨w3.heap.size + 1 + 1, 0, none⟩ = some (.int .i64 j1) ∧ w'.cell? ⟨w3.heap.size + 1 + 1, 1, none⟩ = some (.int .i64 j2) ∧ w'.cell? ⟨w.heap.size, 1, none⟩ = some (.slice (some ⟨b, off, none⟩) v.units.length cap) ∧ w'.cell? ⟨b, off + k * 11 + 1, none⟩ = some (.int .i64 u.length))) (by kernel_rfl) ⟨b0, b1, j0, j00, y1z, k1⟩ (fun hHeld => ?_)
                refine until_take (i := 0) (v := ?_) rfl (by kernel_rfl) (by kernel_rfl) (by kernel_rfl) (by kernel_rfl) (fun _ _ _ h => h) (Or.inl ⟨by rfl, ?_⟩) (by assumption) ?_
                rotate_left
                · (intro w hSw; (try dsimp only at hSw); go_simp; (first | done | with_reducible rfl))
                simp only [Act.put, List.setIfInBounds_toArray, List.set_cons_zero, List.set_cons_succ]
                refine until_take (i := 1) (v := ?_) rfl (by kernel_rfl) (by kernel_rfl) (by kernel_rfl) (by kernel_rfl) (fun _ _ _ h => h) (Or.inl ⟨by rfl, ?_⟩) (by assumption) ?_
                rotate_left
                · (intro w hSw; (try dsimp only at hSw); go_simp; (first | done | with_reducible rfl))
                simp only [Act.put, List.setIfInBounds_toArray, List.set_cons_zero, List.set_cons_succ]
                refine until_take (i := 2) (v := ?_) rfl (by kernel_rfl) (by kernel_rfl) (by kernel_rfl) (by kernel_rfl) (fun _ _ _ h => h) (Or.inl ⟨by rfl, ?_⟩) (by assumption) ?_
                rotate_left
                · (intro w hSw; (try dsimp only at hSw); go_simp; (first | done | with_reducible rfl))
                simp only [Act.put, List.setIfInBounds_toArray, List.set_cons_zero, List.set_cons_succ]
                refine until_take (i := 3) (v := ?_) rfl (by kernel_rfl) (by kernel_rfl) (by kernel_rfl) (by kernel_rfl) (fun _ _ _ h => h) (Or.inl ⟨by rfl, ?_⟩) (by assumption) ?_
                rotate_left
                · (intro w hSw; (try dsimp only at hSw); go_simp; (first | done | with_reducible rfl))
                simp only [Act.put, List.setIfInBounds_toArray, List.set_cons_zero, List.set_cons_succ]
                refine until_take (i := 4) (v := ?_) rfl (by kernel_rfl) (by kernel_rfl) (by kernel_rfl) (by kernel_rfl) (fun _ _ _ h => h) (Or.inl ⟨by rfl, ?_⟩) (by assumption) ?_
                rotate_left
                · (intro w hSw; (try dsimp only at hSw); go_simp; (first | done | with_reducible rfl))
                simp only [Act.put, List.setIfInBounds_toArray, List.set_cons_zero, List.set_cons_succ]
                refine until_take (i := 5) (v := ?_) rfl (by kernel_rfl) (by kernel_rfl) (by kernel_rfl) (by kernel_rfl) (fun _ _ _ h => h) (Or.inl ⟨by rfl, ?_⟩) (by assumption) ?_
                rotate_left
                · (intro w hSw; (try dsimp only at hSw); go_simp; (first | done | with_reducible rfl))
                simp only [Act.put, List.setIfInBounds_toArray, List.set_cons_zero, List.set_cons_succ]
                refine until_take (i := 6) (v := ?_) rfl (by kernel_rfl) (by kernel_rfl) (by kernel_rfl) (by kernel_rfl) (fun _ _ _ h => h) (Or.inl ⟨by rfl, ?_⟩) (by assumption) ?_
                rotate_left
                · (intro w hSw; (try dsimp only at hSw); go_simp; (first | done | with_reducible rfl))
                simp only [Act.put, List.setIfInBounds_toArray, List.set_cons_zero, List.set_cons_succ]
                refine until_take (i := 7) (v := ?_) rfl (by kernel_rfl) (by kernel_rfl) (by kernel_rfl) (by kernel_rfl) (fun _ _ _ h => h) (Or.inl ⟨by rfl, ?_⟩) (by assumption) ?_
                rotate_left
                · (intro w hSw; (try dsimp only at hSw); go_simp; (first | done | with_reducible rfl))
                simp only [Act.put, List.setIfInBounds_toArray, List.set_cons_zero, List.set_cons_succ]
                refine until_take (i := 8) (v := ?_) rfl (by kernel_rfl) (by kernel_rfl) (by kernel_rfl) (by kernel_rfl) (fun _ _ _ h => h) (Or.inl ⟨by rfl, ?_⟩) (by assumption) ?_
                rotate_left
                · (intro w hSw; (try dsimp only at hSw); go_simp; (first | done | with_reducible rfl))
                simp only [Act.put, List.setIfInBounds_toArray, List.set_cons_zero, List.set_cons_succ]
                refine until_one (i := 9) rfl (by kernel_rfl) (by rfl) (fun K hK => ?_)
                go_simp
                (go_at_call 50; refine (HCJ.out _).mono ?_; rintro e wZ ⟨rfl, hbZ⟩; unfold ptV; go_wp2_with fail)
                have EZ : Ext W9 wZ := (Ext.refl W9).drew.trans hbZ
                refine hK.out _ _ ⟨Ext.cell EZ b0, Ext.cell EZ b1, Ext.cell EZ j0, Ext.cell EZ j00, Ext.cell EZ y1z, Ext.cell EZ k1⟩ (fun hHeld => ?_)
                refine until_takeY (i := 10) (v := ?_) rfl (by kernel_rfl) (by kernel_rfl) (by kernel_rfl) (by rfl) (fun _ _ _ h => h) (Or.inl ⟨by rfl, ?_⟩) (by assumption) ?_
                rotate_left
                · (intro w; go_simp; (first | done | with_reducible rfl))
                simp only [Act.put, List.setIfInBounds_toArray, List.set_cons_zero, List.set_cons_succ]
                refine until_takeY (i := 11) (v := ?_) rfl (by kernel_rfl) (by kernel_rfl) (by kernel_rfl) (by rfl) (fun _ _ _ h => h) (Or.inl ⟨by rfl, ?_⟩) (by assumption) ?_
                rotate_left
                · (intro w; go_simp; (first | done | with_reducible rfl))
                simp only [Act.put, List.setIfInBounds_toArray, List.set_cons_zero, List.set_cons_succ]
                refine until_takeY (i := 12) (v := ?_) rfl (by kernel_rfl) (by kernel_rfl) (by kernel_rfl) (by rfl) (fun _ _ _ h => h) (Or.inl ⟨by rfl, ?_⟩) (by assumption) ?_
                rotate_left
                · (intro w; go_simp; (first | done | with_reducible rfl))
                simp only [Act.put, List.setIfInBounds_toArray, List.set_cons_zero, List.set_cons_succ]
                have jZ := EZ.blk hJ9
                have jZ0 : wZ.cell? ⟨w3.heap.size + 1 + 1, 0, none⟩ = some (.int .i64 j1) := World.news_of_block jZ 0 _ rfl
                have jZ1 : wZ.cell? ⟨w3.heap.size + 1 + 1, 1, none⟩ = some (.int .i64 j2) := World.news_of_block jZ 1 _ rfl
                have fZ0 := blk_frz jZ 0
                have fZ1 := blk_frz jZ 1
                refine until_last (st := 13) rfl (by kernel_rfl) (fun K hK => ?_)
                go_simp
                refine hK.out _ _ ?_
                refine uany_take (i := 14) (v := ?_) rfl (by kernel_rfl) (by kernel_rfl) (by kernel_rfl) (fun _ _ _ h => h) (Or.inl ⟨by rfl, ?_⟩) ?_
                rotate_left
                · (intro w; go_simp; (first | done | with_reducible rfl))
                simp only [Act.put, List.setIfInBounds_toArray, List.set_cons_zero, List.set_cons_succ]
                refine uany_done (by kernel_rfl) ?_ _
                go_wp2_with fail
                go_meet
                exact ⟨rfl, wZ, EZ, rfl⟩
              case rest =>
                obtain ⟨rfl, wz, Ez, hwc⟩ := hcut
                have hMz := hM9.ext Ez
                have hPz := Ez.blk hP9
                have hJz := Ez.blk hJ9
                have E12 := E99.trans Ez
                have hMF : BlkP wc w3.heap.size (List.replicate k (0, 0) ++ (p.1.1, p.1.2) :: acc) := by rw [hwc]; exact (hMz.other (by omega)).other (by omega)
                have hPF : wc.heap[w3.heap.size + 1]? = some (.cells #[.int .i64 0, .int .i64 0, .slice (some ⟨w3.heap.size, 0, none⟩) v.units.length v.units.length] 29 (0, 0)) := by rw [hwc]; exact (heap_ne (by omega)).trans ((heap_ne (by omega)).trans hPz)
                have hJF : wc.heap[w3.heap.size + 1 + 1]? = some (.cells #[.int .i64 j.1.1, .int .i64 j.1.2] 26 (0, 0)) := by rw [hwc]; exact two1 _ (two0 _ hJz)
                have EF : Ext w3 wc := by rw [hwc]; exact (E12.set (p := ⟨w3.heap.size + 1 + 1, 0, none⟩) (le2 _) _).set (p := ⟨w3.heap.size + 1 + 1, 1, none⟩) (le2 _) _
                generalize wc = W10 at *
                clear hwc hMz hPz hJz E12 Ez j0 j00 b0 b1 hM9 hP9 hJ9 hT9 y1z k1
                by_cases hn : j.2 = 0
                case neg =>
                  have hrj : r.2.2 = j.2 := by have h9 := HTT.out; rw [if_pos HP0.out, if_neg hn] at h9; rw [← h9]
                  have ER := E3.trans (EF)
                  have hR9 := (EF).blk hR
                  have r0 : W10.cell? ⟨w.heap.size + 1 + 1 + 1, 0, none⟩ = some (.int .i64 0) := World.news_of_block hR9 0 _ rfl
                  have r1 : W10.cell? ⟨w.heap.size + 1 + 1 + 1, 1, none⟩ = some (.int .i64 0) := World.news_of_block hR9 1 _ rfl
                  have r2 : W10.cell? ⟨w.heap.size + 1 + 1 + 1, 2, none⟩ = some (.slice none 0 0) := World.news_of_block hR9 2 _ rfl
                  have f0 := blk_frz hR9 0
                  have f1 := blk_frz hR9 1
                  have f2 := blk_frz hR9 2
                  have HRJ := Lib.hid hrj
                  have HNN := Lib.hid hn
                  clear hrj
                  go_wp2_with fail
                  have hR2 := three_set (.int .i64 0) (.int .i64 0) (.slice none 0 0) hR9
                  have ER2 := ((ER.set (p := ⟨w.heap.size + 1 + 1 + 1, 0, none⟩) (le3 _) (.int .i64 0)).set (p := ⟨w.heap.size + 1 + 1 + 1, 1, none⟩) (le3 _) (.int .i64 0)).set (p := ⟨w.heap.size + 1 + 1 + 1, 2, none⟩) (le3 _) (.slice none 0 0)
                  generalize (((W10.setCell ⟨w.heap.size + 1 + 1 + 1, 0, none⟩ (.int .i64 0)).setCell ⟨w.heap.size + 1 + 1 + 1, 1, none⟩ (.int .i64 0)).setCell ⟨w.heap.size + 1 + 1 + 1, 2, none⟩ (.slice none 0 0)) = WF at *
                  have n0 : WF.cell? ⟨w.heap.size + 1 + 1 + 1, 0, none⟩ = some (.int .i64 0) := World.news_of_block hR2 0 _ rfl
                  have n1 : WF.cell? ⟨w.heap.size + 1 + 1 + 1, 1, none⟩ = some (.int .i64 0) := World.news_of_block hR2 1 _ rfl
                  have n2 : WF.cell? ⟨w.heap.size + 1 + 1 + 1, 2, none⟩ = some (.slice none 0 0) := World.news_of_block hR2 2 _ rfl
                  refine bodyPost_ret (v := poseEV (0, 0) (.slice none 0 0) j.2) (by simp [results, Try.results27, go_sem, n0, n1, n2, poseEV]) rfl ?_
                  rw [← HPo.out]
                  unfold BackR
                  rw [HR.out, if_neg (by rw [HRJ.out]; exact HNN.out), HRJ.out]
                  exact ⟨_, rfl, .inl ⟨none, 0, rfl, rfl⟩, ER2⟩
                case pos =>
                  have HJ0 := Lib.hid hn
                  go_wp2_with fail
                  go_roundw
                  case rel =>
                    refine ⟨k, p.1 :: acc, j.1, by have := HLT.out; omega, rfl, by have := HAC.out; simp only [List.length_cons]; omega, hMF, hPF, hJF, ?_, EF⟩
                    have h9 := HTT.out
                    rw [if_pos HP0.out, if_pos HJ0.out] at h9
                    exact h9
                  case measure => simp [intOf]
theorem RBack_c (o1 o2 l1 l2 : Int) (w : World) (hs : Sl 11 RUnit w vu v.units) (hp : Pts w vp ps) (hst : Sl 1 RNum w vst st) :
    Calls Try.prog 27 #[vehV v vu, poseV (o1, o2) vp, .agg #[.int .i64 l1, .int .i64 l2], vst] w (BackR v (o1, o2) ps (l1, l2) st w) := by
  by_cases h : poseE v (o1, o2) ps = 0
  · cases h2 : okPt (l1, l2)
    · exact RBack_tail o1 o2 l1 l2 w hs hp hst h h2
    · cases h3 : backB v.units
      · exact RBack_state o1 o2 l1 l2 w hs hp hst h h2 h3
      · by_cases h4 : steerE v st = 0
        · exact RBack_go o1 o2 l1 l2 w hs hp hst h h2 h3 h4
        · exact RBack_steer o1 o2 l1 l2 w hs hp hst h h2 h3 h4
  · exact RBack_pose o1 o2 l1 l2 w hs hp hst h
end
end Go.Proofs.Ytgikfliibimkdaa
/- The law ChainSteps, walked. -/
namespace Go.Proofs.Ytgikfliibimkdaa
open Go.RowKit Go.Shelf

section
variable {vu vp vst : Value} {v : CVeh} {ps : List Pt} {st : List Int}
theorem Back_c (o1 o2 l1 l2 : Int) (w : World) (hs : Sl 11 RUnit w vu v.units) (hp : Pts w vp ps) (hst : Sl 1 RNum w vst st) :
    Calls Try.prog 26 #[vehV v vu, poseV (o1, o2) vp, .agg #[.int .i64 l1, .int .i64 l2], vst] w (BackR v (o1, o2) ps (l1, l2) st w) := by
  by_cases h : poseE v (o1, o2) ps = 0
  · cases h2 : okPt (l1, l2)
    · exact Back_tail o1 o2 l1 l2 w hs hp hst h h2
    · cases h3 : backB v.units
      · exact Back_state o1 o2 l1 l2 w hs hp hst h h2 h3
      · by_cases h4 : steerE v st = 0
        · exact Back_go o1 o2 l1 l2 w hs hp hst h h2 h3 h4
        · exact Back_steer o1 o2 l1 l2 w hs hp hst h h2 h3 h4
  · exact Back_pose o1 o2 l1 l2 w hs hp hst h
end
theorem pts_flat {w : World} {b o c : Nat} {l : List Pt} (h : Pts w (.slice (some ⟨b, o, none⟩) l.length c) l) : ∀ j u, (flatP l)[j]? = some u → w.cell? (Addr.add ⟨b, o, none⟩ j) = some u := by
  intro j u hj
  rw [add_none]
  have hjl : j < l.length * 2 := by rw [← flatP_len]; exact lt_of_some hj
  obtain ⟨p, hp⟩ := some_of_lt (show j / 2 < l.length by omega)
  obtain ⟨b', o', e, h0, h1⟩ := pts_at h hp
  simp only [Option.some.injEq, Addr.mk.injEq, and_true] at e
  obtain ⟨rfl, rfl⟩ := e
  have hf := flatP_at l (j / 2) p hp
  rcases (show j = j / 2 * 2 ∨ j = j / 2 * 2 + 1 by omega) with e | e
  · rw [e] at hj ⊢
    rw [hf.1] at hj
    cases hj
    exact h0
  · rw [e] at hj ⊢
    rw [hf.2] at hj
    cases hj
    exact h1
section
variable {vu vp vst : Value} {v : CVeh} {lead : Pt} {ps : List Pt} {st : List Int}
set_option maxRecDepth 100000 in
set_option maxHeartbeats 3200000 in
theorem steps_long (l1 l2 : Int) (w : World) (hs : Sl 11 RUnit w vu v.units) (hp : Pts w vp ps) (hst : Sl 1 RNum w vst st) (h : longB v = true ∨ (30 : Int) < ps.length ∨ (30 : Int) < st.length) :
    Calls Try.prog 5 #[vehV v vu, poseV lead vp, .agg #[.int .i64 l1, .int .i64 l2], vst] w fun e w' => e = .returned (.bool true) ∧ Ext w w' := by
  have CL := fun w' (h : Ext w w') => long_c vu v w' (hs.ext RUnit.stable h)
  have CW := fun w => cworks_c w
  obtain ⟨A, cap, rfl, hl, hl2⟩ := hs.shape
  obtain ⟨Ap, capp, rfl⟩ := pts_shape hp
  obtain ⟨As, caps, rfl, hls, hls2⟩ := hst.shape
  obtain ⟨p1, p2⟩ := lead
  unfold vehV poseV at *
  simp only
  have hc : longB v = true ∨ (longB v = false ∧ (30 : Int) < ps.length) ∨ (longB v = false ∧ ¬ (30 : Int) < ps.length ∧ (30 : Int) < st.length) := by
    cases hb : longB v
    · by_cases h5 : (30 : Int) < ps.length
      · exact .inr (.inl ⟨rfl, h5⟩)
      · rcases h with h | h | h
        · rw [hb] at h; cases h
        · exact absurd h h5
        · exact .inr (.inr ⟨rfl, h5, h⟩)
    · exact .inl rfl
  replace CW := Lib.hid CW
  clear hs hp hst h
  rcases hc with h | ⟨h, h2⟩ | ⟨h, h2, h3⟩
  all_goals
    rw [h] at CL
    replace CL := Lib.hid CL
    clear h
    go_enter Try.func5, Try.ntmps5
    go_wp2_with (first
      | (go_at_call 9; refine (CL.out _ (by (repeat' (first | exact Ext.refl _ | assumption | refine Ext.alloc ?_ _ | refine Ext.drew ?_ | refine Ext.drewN ?_ _ | refine Ext.set ?_ (by first | exact Nat.le_refl _ | exact le1 _ | exact le2 _ | exact le3 _ | exact le4 _ | exact le5 _ | exact le6 _) _ | refine Ext.trans ?_ (by assumption))))).mono ?_; rintro e w1 ⟨rfl, hb1⟩; obtain ⟨hc, hf⟩ := bcell hb1)
      | (go_at_call 10; refine (CW.out _).mono ?_; rintro e w2 ⟨rfl, hb2⟩))
    go_ret
    exact ⟨rfl, by (repeat' (first | exact Ext.refl _ | assumption | refine Ext.alloc ?_ _ | refine Ext.drew ?_ | refine Ext.drewN ?_ _ | refine Ext.set ?_ (by first | exact Nat.le_refl _ | exact le1 _ | exact le2 _ | exact le3 _ | exact le4 _ | exact le5 _ | exact le6 _) _ | refine Ext.trans ?_ (by assumption)))⟩

set_option maxRecDepth 100000 in
set_option maxHeartbeats 6400000 in
theorem steps_short (l1 l2 : Int) (w : World) (hs : Sl 11 RUnit w vu v.units) (hp : Pts w vp ps) (hst : Sl 1 RNum w vst st) (h : longB v = false) (h2 : ¬ (30 : Int) < ps.length) (h3 : ¬ (30 : Int) < st.length) :
    Calls Try.prog 5 #[vehV v vu, poseV lead vp, .agg #[.int .i64 l1, .int .i64 l2], vst] w fun e w' => e = .returned (.bool true) ∧ Ext w w' := by
  have CL := fun w' (h : Ext w w') => long_c vu v w' (hs.ext RUnit.stable h)
  rw [h] at CL
  have CW := fun w => cworks_c w
  obtain ⟨p1, p2⟩ := lead
  have CS := fun w' (h : Ext w w') => Step_c p1 p2 l1 l2 w' (hs.ext RUnit.stable h) (hp.ext h) (hst.ext RNum.stable h)
  have CT := fun w' (h : Ext w w') => RStep_c p1 p2 l1 l2 w' (hs.ext RUnit.stable h) (hp.ext h) (hst.ext RNum.stable h)
  have CB := fun w' (h : Ext w w') => Back_c p1 p2 l1 l2 w' (hs.ext RUnit.stable h) (hp.ext h) (hst.ext RNum.stable h)
  have CD := fun w' (h : Ext w w') => RBack_c p1 p2 l1 l2 w' (hs.ext RUnit.stable h) (hp.ext h) (hst.ext RNum.stable h)
  have HPT := Lib.hid hp
  obtain ⟨A, cap, rfl, hl, hl2⟩ := hs.shape
  obtain ⟨Ap, capp, rfl⟩ := pts_shape hp
  obtain ⟨As, caps, rfl, hls, hls2⟩ := hst.shape
  obtain ⟨⟨⟨s1, s2⟩, sl, se⟩, hS⟩ : ∃ S, stepS v (p1, p2) ps (l1, l2) st = S := ⟨_, rfl⟩
  obtain ⟨⟨⟨k1, k2⟩, kl, ke⟩, hK⟩ : ∃ S, backS v (p1, p2) ps (l1, l2) st = S := ⟨_, rfl⟩
  unfold vehV poseV StepR BackR poseEV at *
  rw [hS] at CS CT
  rw [hK] at CB CD
  simp only at CS CT CB CD ⊢
  replace CL := Lib.hid CL
  replace CW := Lib.hid CW
  replace CS := Lib.hid CS
  replace CT := Lib.hid CT
  replace CB := Lib.hid CB
  replace CD := Lib.hid CD
  have HN2 := Lib.hid h2
  clear hs hp hst h hS hK
  go_enter Try.func5, Try.ntmps5
  go_upto_region 3 with (go_at_call 9; refine (CL.out _ (by (repeat' (first | exact Ext.refl _ | assumption | refine Ext.alloc ?_ _ | refine Ext.drew ?_ | refine Ext.drewN ?_ _ | refine Ext.set ?_ (by first | exact Nat.le_refl _ | exact le1 _ | exact le2 _ | exact le3 _ | exact le4 _ | exact le5 _ | exact le6 _) _ | refine Ext.trans ?_ (by assumption))))).mono ?_; rintro e w1 ⟨rfl, hb⟩; have y0 := Ext.cell hb (p := ⟨w.heap.size, 0, none⟩) (v := .string v.name) (by go_simp); have y1 := Ext.cell hb (p := ⟨w.heap.size, 1, none⟩) (v := .slice A v.units.length cap) (by go_simp); have y2 := Ext.cell hb (p := ⟨w.heap.size, 2, none⟩) (v := .int .i64 v.first) (by go_simp); have y3 := Ext.cell hb (p := ⟨w.heap.size, 3, none⟩) (v := .int .i64 v.last) (by go_simp); have t0 := Ext.cell hb (p := ⟨w.heap.size + 1, 0, none⟩) (v := .int .i64 p1) (by go_simp); have t1 := Ext.cell hb (p := ⟨w.heap.size + 1, 1, none⟩) (v := .int .i64 p2) (by go_simp); have t2 := Ext.cell hb (p := ⟨w.heap.size + 1, 2, none⟩) (v := .slice Ap ps.length capp) (by go_simp); have L0 := Ext.cell hb (p := ⟨w.heap.size + 1 + 1, 0, none⟩) (v := .int .i64 l1) (by go_simp); have L1 := Ext.cell hb (p := ⟨w.heap.size + 1 + 1, 1, none⟩) (v := .int .i64 l2) (by go_simp); have E1 : Ext w w1 := ((((Ext.refl w).alloc _).alloc _).alloc _).trans hb; clear hb; have hly := lt_of_cell y0; have hlt := lt_of_cell t0; have hlL := lt_of_cell L0)
  clear h2 h3
  go_cut [9] (fun sa wc => ∃ (A9 : Option Addr) (c9 : Nat), sa = .slice A9 ps.length c9 ∧ Pts wc (.slice A9 ps.length c9) ps ∧ Ext w1 wc)
  case first =>
    by_cases h0 : ps = []
    case pos =>
      subst h0
      simp only [List.length_nil] at *
      cases Ap
      all_goals
        go_wp2_with fail
        go_meet
        exact ⟨_, _, rfl, .inl ⟨_, _, rfl, rfl⟩, by (repeat' (first | exact Ext.refl _ | assumption | refine Ext.alloc ?_ _ | refine Ext.drew ?_ | refine Ext.drewN ?_ _ | refine Ext.set ?_ (by first | exact Nat.le_refl _ | exact le1 _ | exact le2 _ | exact le3 _ | exact le4 _ | exact le5 _ | exact le6 _) _ | refine Ext.trans ?_ (by assumption)))⟩
    case neg =>
      obtain ⟨q, hq⟩ := some_of_lt (show 0 < ps.length from List.length_pos_iff.2 h0)
      obtain ⟨pb, poff, rfl, _, _⟩ := pts_at HPT.out hq
      obtain ⟨ip, hip, hz0, hz1, hz2⟩ := info_parts infoPoint
      have hln := pts_len HPT.out
      have hF := Lib.hid (pts_flat (HPT.out.ext E1))
      have h30 := HN2.out
      have hpos : 0 < ps.length := List.length_pos_iff.2 h0
      have HQ := Lib.hid (And.intro hpos h30)
      have hnv : ∀ u ∈ flatP ps, u.oneCell' = true := by
        intro u hu
        unfold flatP at hu
        rw [List.mem_flatMap] at hu
        obtain ⟨x, _, hx⟩ := hu
        simp at hx
        rcases hx with rfl | rfl <;> rfl
      have HNV := Lib.hid hnv
      clear h0 hq hln h30 hpos hnv
      go_wp2_with (at_builtin; refine wpList_append_lies _ rfl _ _ 27 rfl w1.heap.size 26 ip _ 2 16 Try.underlying27 hip hz0 hz1 hz2 rfl (by decide) (.slice (some ⟨w1.heap.size, 0, none⟩) 0 0) 0 [] rfl ⟨rfl, .inr ⟨w1.heap.size, 0, #[], rfl, Nat.le_refl _, World.alloc_heap_new w1 _, Nat.le_refl _, by decide, rfl, rfl⟩⟩ ⟨pb, poff, none⟩ ps.length capp (flatP ps) rfl (by rw [flatP_len]) (fun j u hj => Ext.cell ((Ext.refl w1).alloc _) (hF.out j u hj)) (HNV.out) (HQ.out.1) (by unfold maxLen; have := HQ.out.2; omega) (by have := HQ.out.2; omega) (by simp) (w1.heap.size + 1) (by simp) ?_; intro g8 cap8 w8 hown8 hgrow8 hat8 hlt8)
      have hO : OwnP w1.heap.size w8 (.slice (some ⟨g8, 0, none⟩) ps.length cap8) ps := by simpa [OwnP] using hown8
      have hE8 : Ext w1 w8 := Ext.grown ((Ext.refl w1).alloc _) hgrow8 (fun g hg => by simp [Value.ownBlock] at hg; omega)
      go_meet
      exact ⟨_, _, rfl, hO.pts, hE8⟩
  case rest =>
    obtain ⟨A9, c9, rfl, h9, E12⟩ := hcut
    generalize wc = W2 at *
    have E2 := E1.trans E12
    replace y0 := Ext.cell E12 y0
    replace y1 := Ext.cell E12 y1
    replace y2 := Ext.cell E12 y2
    replace y3 := Ext.cell E12 y3
    replace t0 := Ext.cell E12 t0
    replace t1 := Ext.cell E12 t1
    replace t2 := Ext.cell E12 t2
    replace L0 := Ext.cell E12 L0
    replace L1 := Ext.cell E12 L1
    have hly2 := lt_of_cell y0
    have hlt2 := lt_of_cell t0
    have hlL2 := lt_of_cell L0
    clear E12 E1 hly hlt hlL
    go_upto_region 8 with (first
      | (go_at_call 21; refine (CS.out _ E2).mono ?_; rintro e w3 ⟨vw3, rfl, hpw3, _, hb⟩; obtain ⟨Aw3, cw3, rfl⟩ := pts_shape hpw3; replace y0 := Ext.cell hb y0; replace y1 := Ext.cell hb y1; replace y2 := Ext.cell hb y2; replace y3 := Ext.cell hb y3; replace t0 := Ext.cell hb t0; replace t1 := Ext.cell hb t1; replace t2 := Ext.cell hb t2; replace L0 := Ext.cell hb L0; replace L1 := Ext.cell hb L1; have Ew3 := E2.trans hb; replace h9 := h9.ext hb; have hyw3 := lt_of_cell y0; have htw3 := lt_of_cell t0; have hLw3 := lt_of_cell L0; clear hb)
      | (go_at_call 25; refine (CT.out _ (Ew3.alloc _)).mono ?_; rintro e w4 ⟨vw4, rfl, hpw4, _, hb⟩; obtain ⟨Aw4, cw4, rfl⟩ := pts_shape hpw4; have hbx := ((Ext.refl w3).alloc _).trans hb; replace y0 := Ext.cell hbx y0; replace y1 := Ext.cell hbx y1; replace y2 := Ext.cell hbx y2; replace y3 := Ext.cell hbx y3; replace t0 := Ext.cell hbx t0; replace t1 := Ext.cell hbx t1; replace t2 := Ext.cell hbx t2; replace L0 := Ext.cell hbx L0; replace L1 := Ext.cell hbx L1; have Ew4 := Ew3.trans hbx; replace h9 := h9.ext hbx; have hA : w4.heap[w3.heap.size]? = some (.cells #[.int .i64 s1, .int .i64 s2, .slice Aw3 sl.length cw3] 29 (0, 0)) := hb.blk (new_at rfl); replace hpw3 := hpw3.ext hbx; have hyw4 := lt_of_cell y0; have htw4 := lt_of_cell t0; have hLw4 := lt_of_cell L0; clear hb)
      | (go_at_call 26; refine (CB.out _ (Ew4.alloc _)).mono ?_; rintro e w5 ⟨vw5, rfl, hpw5, hb⟩; obtain ⟨Aw5, cw5, rfl⟩ := pts_shape hpw5; have hbx := ((Ext.refl w4).alloc _).trans hb; replace y0 := Ext.cell hbx y0; replace y1 := Ext.cell hbx y1; replace y2 := Ext.cell hbx y2; replace y3 := Ext.cell hbx y3; replace t0 := Ext.cell hbx t0; replace t1 := Ext.cell hbx t1; replace t2 := Ext.cell hbx t2; replace L0 := Ext.cell hbx L0; replace L1 := Ext.cell hbx L1; have Ew5 := Ew4.trans hbx; replace h9 := h9.ext hbx; replace hA := hbx.blk hA; have hB : w5.heap[w4.heap.size]? = some (.cells #[.int .i64 s1, .int .i64 s2, .slice Aw4 sl.length cw4] 29 (0, 0)) := hb.blk (new_at rfl); replace hpw3 := hpw3.ext hbx; replace hpw4 := hpw4.ext hbx; have hyw5 := lt_of_cell y0; have htw5 := lt_of_cell t0; have hLw5 := lt_of_cell L0; clear hb)
      | (go_at_call 27; refine (CD.out _ (Ew5.alloc _)).mono ?_; rintro e w6 ⟨vw6, rfl, hpw6, hb⟩; obtain ⟨Aw6, cw6, rfl⟩ := pts_shape hpw6; have hbx := ((Ext.refl w5).alloc _).trans hb; replace y0 := Ext.cell hbx y0; replace y1 := Ext.cell hbx y1; replace y2 := Ext.cell hbx y2; replace y3 := Ext.cell hbx y3; replace t0 := Ext.cell hbx t0; replace t1 := Ext.cell hbx t1; replace t2 := Ext.cell hbx t2; replace L0 := Ext.cell hbx L0; replace L1 := Ext.cell hbx L1; have Ew6 := Ew5.trans hbx; replace h9 := h9.ext hbx; replace hA := hbx.blk hA; replace hB := hbx.blk hB; have hC : w6.heap[w5.heap.size]? = some (.cells #[.int .i64 k1, .int .i64 k2, .slice Aw5 kl.length cw5] 29 (0, 0)) := hb.blk (new_at rfl); replace hpw3 := hpw3.ext hbx; replace hpw4 := hpw4.ext hbx; replace hpw5 := hpw5.ext hbx; have hyw6 := lt_of_cell y0; have htw6 := lt_of_cell t0; have hLw6 := lt_of_cell L0; clear hb))
    have h67 : Ext w6 (w6.alloc (.cells #[.int .i64 k1, .int .i64 k2, .slice Aw6 kl.length cw6] 29)) := (Ext.refl w6).alloc _
    have hD : (w6.alloc (.cells #[.int .i64 k1, .int .i64 k2, .slice Aw6 kl.length cw6] 29)).heap[w6.heap.size]? = some (.cells #[.int .i64 k1, .int .i64 k2, .slice Aw6 kl.length cw6] 29 (0, 0)) := new_at rfl
    generalize (w6.alloc (.cells #[.int .i64 k1, .int .i64 k2, .slice Aw6 kl.length cw6] 29)) = W7 at *
    replace y0 := Ext.cell h67 y0
    replace y1 := Ext.cell h67 y1
    replace y2 := Ext.cell h67 y2
    replace y3 := Ext.cell h67 y3
    replace t0 := Ext.cell h67 t0
    replace t1 := Ext.cell h67 t1
    replace t2 := Ext.cell h67 t2
    replace L0 := Ext.cell h67 L0
    replace L1 := Ext.cell h67 L1
    replace h9 := h9.ext h67
    replace hpw3 := hpw3.ext h67
    replace hpw4 := hpw4.ext h67
    replace hpw5 := hpw5.ext h67
    replace hpw6 := hpw6.ext h67
    replace hA := h67.blk hA
    replace hB := h67.blk hB
    replace hC := h67.blk hC
    have aq0 : W7.cell? ⟨w3.heap.size, 0, none⟩ = some (.int .i64 s1) := news_at hA 0 _ rfl
    have aq1 : W7.cell? ⟨w3.heap.size, 1, none⟩ = some (.int .i64 s2) := news_at hA 1 _ rfl
    have aq2 : W7.cell? ⟨w3.heap.size, 2, none⟩ = some (.slice Aw3 sl.length cw3) := news_at hA 2 _ rfl
    have bq0 : W7.cell? ⟨w4.heap.size, 0, none⟩ = some (.int .i64 s1) := news_at hB 0 _ rfl
    have bq1 : W7.cell? ⟨w4.heap.size, 1, none⟩ = some (.int .i64 s2) := news_at hB 1 _ rfl
    have bq2 : W7.cell? ⟨w4.heap.size, 2, none⟩ = some (.slice Aw4 sl.length cw4) := news_at hB 2 _ rfl
    have cq0 : W7.cell? ⟨w5.heap.size, 0, none⟩ = some (.int .i64 k1) := news_at hC 0 _ rfl
    have cq1 : W7.cell? ⟨w5.heap.size, 1, none⟩ = some (.int .i64 k2) := news_at hC 1 _ rfl
    have cq2 : W7.cell? ⟨w5.heap.size, 2, none⟩ = some (.slice Aw5 kl.length cw5) := news_at hC 2 _ rfl
    have dq0 : W7.cell? ⟨w6.heap.size, 0, none⟩ = some (.int .i64 k1) := news_at hD 0 _ rfl
    have dq1 : W7.cell? ⟨w6.heap.size, 1, none⟩ = some (.int .i64 k2) := news_at hD 1 _ rfl
    have dq2 : W7.cell? ⟨w6.heap.size, 2, none⟩ = some (.slice Aw6 kl.length cw6) := news_at hD 2 _ rfl
    have E7 := Ew6.trans h67
    have hpo := HPT.out.ext E7
    have M1 := Lib.hid (fun w' (h : Ext W7 w') => Same_c s1 s2 (.slice Aw3 sl.length cw3) (.slice Aw4 sl.length cw4) sl w' (hpw3.ext h) (hpw4.ext h))
    have M2 := Lib.hid (fun w' (h : Ext W7 w') => Same_c k1 k2 (.slice Aw5 kl.length cw5) (.slice Aw6 kl.length cw6) kl w' (hpw5.ext h) (hpw6.ext h))
    have M3 := Lib.hid (fun w' (h : Ext W7 w') => Same01_c (.slice A9 ps.length c9) (.slice Ap ps.length capp) ps w' (h9.ext h) (hpo.ext h))
    clear hpw3 hpw4 hpw5 hpw6 h9 hpo hA hB hC hD h67 y0 y1 y2 y3 L0 L1 t0 t1 Ew3 Ew4 Ew5 Ew6
    have lt2 := lt_of_cell t2
    go_wp2_with (first
      | (go_at_call 13; (with_reducible refine (M1.out _ (by (repeat' (first | exact Ext.refl _ | assumption | refine Ext.alloc ?_ _ | refine Ext.drew ?_ | refine Ext.drewN ?_ _ | refine Ext.set ?_ (by first | exact Nat.le_refl _ | exact le1 _ | exact le2 _ | exact le3 _ | exact le4 _ | exact le5 _ | exact le6 _) _ | refine Ext.trans ?_ (by assumption))))).mono ?_); rintro e w8 ⟨rfl, hb8⟩; replace aq0 := Ext.cell hb8 aq0; replace aq1 := Ext.cell hb8 aq1; replace aq2 := Ext.cell hb8 aq2; replace bq0 := Ext.cell hb8 bq0; replace bq1 := Ext.cell hb8 bq1; replace bq2 := Ext.cell hb8 bq2; replace cq0 := Ext.cell hb8 cq0; replace cq1 := Ext.cell hb8 cq1; replace cq2 := Ext.cell hb8 cq2; replace dq0 := Ext.cell hb8 dq0; replace dq1 := Ext.cell hb8 dq1; replace dq2 := Ext.cell hb8 dq2; replace t2 := Ext.cell hb8 t2)
      | (go_at_call 13; (with_reducible refine (M2.out _ (by (repeat' (first | exact Ext.refl _ | assumption | refine Ext.alloc ?_ _ | refine Ext.drew ?_ | refine Ext.drewN ?_ _ | refine Ext.set ?_ (by first | exact Nat.le_refl _ | exact le1 _ | exact le2 _ | exact le3 _ | exact le4 _ | exact le5 _ | exact le6 _) _ | refine Ext.trans ?_ (by assumption))))).mono ?_); rintro e wz ⟨rfl, hbz⟩; replace aq0 := Ext.cell hbz aq0; replace aq1 := Ext.cell hbz aq1; replace aq2 := Ext.cell hbz aq2; replace bq0 := Ext.cell hbz bq0; replace bq1 := Ext.cell hbz bq1; replace bq2 := Ext.cell hbz bq2; replace cq0 := Ext.cell hbz cq0; replace cq1 := Ext.cell hbz cq1; replace cq2 := Ext.cell hbz cq2; replace dq0 := Ext.cell hbz dq0; replace dq1 := Ext.cell hbz dq1; replace dq2 := Ext.cell hbz dq2; replace t2 := Ext.cell hbz t2)
      | (go_at_call 28; refine (M3.out _ (by (repeat' (first | exact Ext.refl _ | assumption | refine Ext.alloc ?_ _ | refine Ext.drew ?_ | refine Ext.drewN ?_ _ | refine Ext.set ?_ (by first | exact Nat.le_refl _ | exact le1 _ | exact le2 _ | exact le3 _ | exact le4 _ | exact le5 _ | exact le6 _) _ | refine Ext.trans ?_ (by assumption))))).mono ?_; rintro e w10 ⟨rfl, hb10⟩)
      | (go_at_call 10; refine (CW.out _).mono ?_; rintro e w11 ⟨rfl, hb11⟩))
    go_ret
    exact ⟨rfl, by (repeat' (first | exact Ext.refl _ | assumption | refine Ext.alloc ?_ _ | refine Ext.drew ?_ | refine Ext.drewN ?_ _ | refine Ext.set ?_ (by first | exact Nat.le_refl _ | exact le1 _ | exact le2 _ | exact le3 _ | exact le4 _ | exact le5 _ | exact le6 _) _ | refine Ext.trans ?_ (by assumption)))⟩
theorem steps_law (l1 l2 : Int) (w : World) (hs : Sl 11 RUnit w vu v.units) (hp : Pts w vp ps) (hst : Sl 1 RNum w vst st) :
    Calls Try.prog 5 #[vehV v vu, poseV lead vp, .agg #[.int .i64 l1, .int .i64 l2], vst] w fun e w' => e = .returned (.bool true) ∧ Ext w w' := by
  by_cases h : longB v = true ∨ (30 : Int) < ps.length ∨ (30 : Int) < st.length
  · exact steps_long l1 l2 w hs hp hst h
  · refine steps_short l1 l2 w hs hp hst ?_ (fun h2 => h (.inr (.inl h2))) (fun h3 => h (.inr (.inr h3)))
    cases hb : longB v
    · rfl
    · exact absurd (.inl hb) h
end
end Go.Proofs.Ytgikfliibimkdaa
/- How slices of numbers among a law's arguments read. -/
namespace Go.Proofs.Ytgikfliibimkdaa
open Go.ChangeShapes Go.WideShapes Go.ChangeAt Go.RowKit Go.Joins Go.Deep
section
variable {H : Type} {enc : TypeId × Value → H} {w : World} {base : Nat} {spare : Nat → Bool} {held : Bool}
set_option maxRecDepth 100000 in
theorem opens_num : Opens enc Try.prog w base spare held 3 RNum := by
  intro fuel cs x hx
  obtain ⟨m, e, _, hw⟩ := DataW.trod_int Try.underlying3 hx
  exact ⟨m, e, bounds_i64 hw⟩
set_option maxRecDepth 100000 in
theorem opens_nums {fuel : Nat} {v : Value} {x : DataW H × List MemPlace} (h : DataW.trod enc Try.prog w base spare held fuel 42 [v] = some x) : ∃ l : List Int, Sl 1 RNum w v l := by
  obtain ⟨l, v1, hc, hs⟩ := opens_slice Try.underlying42 (show Try.prog.cellsOf 3 = 1 from by kernel_rfl) (by decide) opens_num _ _ _ h
  obtain rfl : v = v1 := by simpa using hc
  exact ⟨l, hs⟩
end
end Go.Proofs.Ytgikfliibimkdaa
/- ChainSteps: the given statement: for every input the law returns true, and each argument reads behind the call as it read before. -/
namespace Go.Proofs.Ytgikfliibimkdaa
namespace OfChainSteps
open Go.ChangeShapes Go.WideShapes Go.ChangeAt Go.RowKit Go.Joins Go.Deep

theorem own : ownKnob Try.prog.godebug = none := by kernel_rfl
theorem laidOut : laidOutB Try.prog = true := by kernel_rfl
theorem cells_26 : Try.prog.cellsOf 26 = 2 := by kernel_rfl

set_option maxRecDepth 100000 in
theorem lifted (os : Os) (started : os.Started) (H : Type) (enc : TypeId × Value → H) :
    ReturnsInHanded {} Try.checked os 5 .any (Rows.chainStepsSpec.pre6 enc Try.prog Try.f5 Rows.chainStepsRow.domain false) (Rows.chainStepsSpec.post enc Try.prog Try.f5 false true false false) := by
  refine returnsInHanded_of_change (C := Try.checked) own started (by kernel_rfl) Try.func5
    (ChangeSpec.witness6 (enc := enc) (C := Try.checked) false ⟨#[], #[.agg #[.string ⟨#[]⟩, .slice none 0 0, .int .i64 0, .int .i64 0], .agg #[.int .i64 0, .int .i64 0, .slice none 0 0], .agg #[.int .i64 0, .int .i64 0], .slice none 0 0], []⟩ 8 (by kernel_rfl) (by kernel_rfl) (by kernel_rfl) (by kernel_rfl)) ?_
  intro W base args ds gs before hval0 hW hcnd _
  have hval : ∀ (j : Nat) t v, Try.f5.params[j]? = some t → args[j]? = some v → Value.okWide Try.prog W .any base t v := hval0
  have hW' := hW
  obtain ⟨p, q, hA0, hV, rfl, hfz, hnd⟩ := hW
  have hA : DataW.TrodAll enc Try.prog W 0 (fun _ => true) true Try.f5.params.toList args.toList ds p := hA0
  rw [Try.params5] at hA hval
  obtain ⟨v0, vs0, d0, ds0, p0, q0, hargs, rfl, rfl, h0, r0⟩ := trodAll_cons hA
  obtain ⟨v1, vs1, d1, ds1, p1, q1, rfl, rfl, rfl, h1, r1⟩ := trodAll_cons r0
  obtain ⟨v2, vs2, d2, ds2, p2, q2, rfl, rfl, rfl, h2, r2⟩ := trodAll_cons r1
  obtain ⟨v3, vs3, d3, ds3, p3, q3, rfl, rfl, rfl, h3, r3⟩ := trodAll_cons r2
  obtain ⟨rfl, rfl, rfl⟩ := trodAll_nil r3
  obtain rfl : args = #[v0, v1, v2, v3] := by cases args; simp_all
  obtain ⟨rfl, rfl⟩ := trodVars_none hV
  have k0 := h0
  have lt0 : ∀ x ∈ p0, x.block < W.heap.size := by obtain ⟨m, hm⟩ := k0; exact DataW.trod_lt m _ _ _ hm
  have k1 := h1
  have lt1 : ∀ x ∈ p1, x.block < W.heap.size := by obtain ⟨m, hm⟩ := k1; exact DataW.trod_lt m _ _ _ hm
  have k2 := h2
  have lt2 : ∀ x ∈ p2, x.block < W.heap.size := by obtain ⟨m, hm⟩ := k2; exact DataW.trod_lt m _ _ _ hm
  have k3 := h3
  have lt3 : ∀ x ∈ p3, x.block < W.heap.size := by obtain ⟨m, hm⟩ := k3; exact DataW.trod_lt m _ _ _ hm
  obtain ⟨cv0, vu0, rfl, s0⟩ := open_veh (hval 0 24 v0 rfl rfl) h0
  obtain ⟨ld1, l1, vp1, rfl, s1⟩ := open_pose (hval 1 29 v1 rfl rfl) h1
  obtain ⟨c2_0, c2_1, y2_0, y2_1, m2, rfl, rfl, _, hy2_0, hy2_1⟩ := open_agg2 Try.underlying26 (by kernel_rfl) cells_26 (hval 2 26 v2 rfl rfl) h2
  obtain ⟨x2_0, e2_0, _, w2_0⟩ := DataW.trod_int Try.underlying2 hy2_0
  obtain ⟨x2_1, e2_1, _, w2_1⟩ := DataW.trod_int Try.underlying2 hy2_1
  simp at e2_0 e2_1
  subst e2_0 e2_1
  obtain ⟨A3, n3, cap3, rfl⟩ := okWide_slice Try.underlying42 (hval 3 42 v3 rfl rfl)
  obtain ⟨fu3, hfu3⟩ := h3
  obtain ⟨l3, s3⟩ := opens_nums (v := .slice A3 n3 cap3) hfu3
  clear hA0 hval0
  refine (steps_law x2_0 x2_1 W s0 s1 s3).mono fun e W' ⟨he, bel⟩ => ?_
  subst he
  exact ⟨_, rfl, _, _, _, [], _, [], hW', trodAll_mk1 (shut_bool Try.underlying4 _), (trodAll_cons_mk (Below.trod laidOut (by kernel_rfl) (of_decide_eq_true (by kernel_rfl)) k0 bel lt0) (trodAll_cons_mk (Below.trod laidOut (by kernel_rfl) (of_decide_eq_true (by kernel_rfl)) k1 bel lt1) (trodAll_cons_mk (Below.trod laidOut (by kernel_rfl) (of_decide_eq_true (by kernel_rfl)) k2 bel lt2) (trodAll_cons_mk (Below.trod laidOut (by kernel_rfl) (of_decide_eq_true (by kernel_rfl)) k3 bel lt3) trodAll_mk0)))), rfl, Below.frame bel _, fun h => by cases h⟩

theorem over : Rows.chainStepsRow.holds Try.pinned (OpenSpec.ofChange Rows.chainStepsSpec) :=
  OpenClaim.holds_of_wide 5 Try.f5 rfl rfl rfl rfl rfl rfl rfl ⟨rfl, rfl, rfl, rfl, rfl⟩ rfl rfl rfl rfl rfl (by kernel_rfl) Try.func5 (by kernel_rfl)
    (of_decide_eq_true (by kernel_rfl)) (by unfold Func.isWrapper; rw [if_neg (of_decide_eq_false (by kernel_rfl))]; exact ⟨rfl, rfl⟩)
    (fun os started H enc _ => lifted os started H enc)
end OfChainSteps

theorem chainSteps_holds : Rows.ChainStepsSaid := OfChainSteps.over
end Go.Proofs.Ytgikfliibimkdaa
